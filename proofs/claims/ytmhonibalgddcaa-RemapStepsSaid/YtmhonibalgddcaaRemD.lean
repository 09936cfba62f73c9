
/-
  Package remap: tables: New, find, All, Of.
-/
import Derived.Test.YtmhonibalgddcaaRemC
import Derived.WideShapes
namespace Go.Proofs.Ytmhonibalgddcaa
open Go.RowKit
set_option linter.unusedVariables false
set_option linter.unusedSimpArgs false
set_option maxRecDepth 100000

/-- A table of the program's. -/
structure Tb (B : Nat) (w : World) (b : Nat) (v : Value) (rs : List Rec) : Prop where
  blk : w.heap[b]? = some (.cells #[v] 52 (0, 0))
  low : B ≤ b
  row : w.ownsRow B 32 6 v rs.length (recs rs)
  pos : 0 < rs.length
theorem Tb.below {B : Nat} {w w' : World} {b : Nat} {v : Value} {rs : List Rec} (h : Tb B w b v rs) (hB : Below w.heap.size w w') : Tb B w' b v rs :=
  ⟨by rw [hB.block _ (lt_of_heap h.blk)]; exact h.blk, h.low, ownsRow_keep h.row (keepT_below hB), h.pos⟩
theorem Tb.keep {B : Nat} {w w' : World} {b : Nat} {v : Value} {rs : List Rec} (h : Tb B w b v rs) (h1 : KeepT 52 w w') (h2 : KeepT 32 w w') : Tb B w' b v rs :=
  ⟨(h1 _ _ _ h.blk).trans h.blk, h.low, ownsRow_keep h.row h2, h.pos⟩
theorem Tb.c0 {B : Nat} {w : World} {b : Nat} {v : Value} {rs : List Rec} (h : Tb B w b v rs) : w.cell? ⟨b, 0, none⟩ = some v := by simp only [World.cell?, h.blk]; rfl
theorem Tb.f0 {B : Nat} {w : World} {b : Nat} {v : Value} {rs : List Rec} (h : Tb B w b v rs) : w.frozen? ⟨b, 0, none⟩ = false := by simp [World.frozen?, h.blk]
theorem Tb.rs {B : Nat} {w : World} {b : Nat} {v : Value} {rs : List Rec} (h : Tb B w b v rs) : RsOf w v rs := rs_of_own h.row
theorem Tb.shape {B : Nat} {w : World} {b : Nat} {v : Value} {rs : List Rec} (h : Tb B w b v rs) : ∃ g cap, v = .slice (some ⟨g, 0, none⟩) rs.length cap ∧ B ≤ g ∧ rs.length ≤ cap := by
  rcases h.row.2 with ⟨_, h0⟩ | ⟨g, cap, cur, rfl, hb, _, hnc, _⟩
  · have := h.pos; omega
  · exact ⟨g, cap, rfl, hb, hnc⟩

theorem size_alloc (w : World) (o : Obj) : (w.alloc o).heap.size = w.heap.size + 1 := by simp
def rec0 : Rec := ⟨0, 0, -1, false, 0, 0⟩
theorem new_any (B : Nat) (w : World) (hB : B ≤ w.heap.size) : Calls Try.prog 7 #[] w fun e w' => (∃ b v, e = .returned (.pointer (some ⟨b, 0, none⟩)) ∧ Tb B w' b v [rec0] ∧ w.heap.size ≤ b) ∧ Below w.heap.size w w' := by
  go_enter Try.func7, Try.ntmps7
  go_wp2_with fail
  go_ret
  refine ⟨⟨w.heap.size + 1, .slice (some ⟨w.heap.size, 0, none⟩) 1 1, rfl, ⟨?_, by omega, ?_, by simp⟩, by omega⟩, ?_⟩
  · have := heap_alloc_new (w.alloc (.cells (recL rec0).toArray 32)) (.cells #[.slice (some ⟨w.heap.size, 0, none⟩) 1 1] 52)
    simp only [size_alloc] at this
    exact this
  · refine ⟨rfl, .inr ⟨w.heap.size, 1, (recL rec0).toArray, rfl, hB, ?_, Nat.le_refl _, by unfold maxLen; omega, rfl, rfl⟩⟩
    rw [heap_alloc_old _ _ (by rw [size_alloc]; omega)]
    exact heap_alloc_new w _
  · exact ((Below.refl _ _).alloc (Nat.le_refl _) _).alloc (by rw [size_alloc]; omega) _

theorem Tb.at {B : Nat} {w : World} {b g n cap : Nat} {rs : List Rec} (h : Tb B w b (.slice (some ⟨g, 0, none⟩) n cap) rs) (i : Nat) (hi : i < rs.length) : RecAt w g (i * 6) (rs.getD i default) := by
  rcases h.row.2 with ⟨he, _⟩ | ⟨g', cap', cur, he, _⟩
  · cases he
  · cases he
    have key : ∀ c u, c < 6 → (recL (rs.getD i default))[c]? = some u → w.cell? ⟨g, i * 6 + c, none⟩ = some u := fun c u hc hu => by
      have := h.row.cells (g := g) rfl (i * 6 + c) u (by rw [recs_at rs i hi c hc]; exact hu)
      rw [Go.WideShapes.add_plain, Nat.zero_add] at this
      exact this
    exact ⟨key 0 _ (by omega) rfl, key 1 _ (by omega) rfl, key 2 _ (by omega) rfl, key 3 _ (by omega) rfl, key 4 _ (by omega) rfl, key 5 _ (by omega) rfl⟩
/-- A goroutine's record. -/
def look (rs : List Rec) (g : Int) : Option Rec := rs.find? (fun r => decide (r.g = g))
theorem look_yes {rs : List Rec} {g : Int} {i : Nat} (hi : i < rs.length) (hg : gAt rs i = g) (hb : ∀ t, t < i → gAt rs t ≠ g) : look rs g = some (rs.getD i default) := by
  induction rs generalizing i with
  | nil => simp at hi
  | cons r rs ih =>
    cases i with
    | zero =>
      have : r.g = g := hg
      simp [look, this]
    | succ i =>
      have h0 : r.g ≠ g := hb 0 (by omega)
      have := ih (i := i) (by simpa using hi) hg (fun t ht => hb (t + 1) (by omega))
      simp only [look, List.find?_cons, h0, decide_false]
      exact this
theorem look_no {rs : List Rec} {g : Int} (h : ∀ t, t < rs.length → gAt rs t ≠ g) : look rs g = none := by
  unfold look
  rw [List.find?_eq_none]
  intro r hr
  obtain ⟨t, ht, rfl⟩ := List.getElem_of_mem hr
  have := h t ht
  unfold gAt at this
  rw [List.getD_eq_getElem?_getD, List.getElem?_eq_getElem ht] at this
  simpa using this

theorem find_any (B b : Nat) (v : Value) (rs : List Rec) (g : Int) (w : World) (h : Tb B w b v rs) (hs : Srt rs) (hN : rs.length ≤ 1000) :
    Calls Try.prog 21 #[.pointer (some ⟨b, 0, none⟩), .int .i64 g] w (FindPost rs g w) := by
  have c0 := h.c0
  have R := h.rs
  clear h
  go_enter Try.func21, Try.ntmps21
  go_wp2_with fail
  refine (search_any v rs g w R hs hN).mono ?_
  rintro e w1 ⟨i, rfl, h1, h2, h3, h4⟩
  have T := Lib.hid (show FindPost rs g w (.returned (.tuple #[.int .i64 i, .bool (decide (i < rs.length ∧ gAt rs i = g))])) w1 from ⟨i, rfl, h1, h2, h3, h4⟩)
  obtain ⟨x, hx⟩ : ∃ x, decide (i < rs.length ∧ gAt rs i = g) = x := ⟨_, rfl⟩
  rw [hx] at T ⊢
  clear h1 h2 h3 h4 hx
  go_wp2_with fail
  go_ret2
  exact T.out

/-- append([]Record{}, l...). -/
theorem wpList_clone_recs {ops : Array Oper} {rest : List Oper} {o : Oper} {a : Act} {Q : Exit → Act → World → Prop} (w W : World) (hgd : o.guard = none) (s x : Operand)
    (ho : o.op = .call { callee := .builtin .append, args := #[s, x], argTypes := #[41, 41] })
    (hW : W = w.alloc (.cells #[] 32)) (hs : a.eval s = .slice (some ⟨w.heap.size, 0, none⟩) 0 0)
    (ao : Option Addr) (cap n : Nat) (l : List Rec) (hx : a.eval x = .slice ao n cap) (hl : l.length = n) (hv : RsOf w (.slice ao n cap) l) (hp : 0 < n) (hn : n ≤ 1000)
    (h : ∀ v' w', Below w.heap.size w w' → RsOf w' v' l → wpList Try.prog ops Q rest (a.put o.dst v') w') :
    wpList Try.prog ops Q (o :: rest) a W := by
  subst hW
  obtain ⟨i0, hi, hz0, hz1, hz2⟩ := info_parts prinfo
  have hown : (w.alloc (.cells #[] 32)).ownsRow w.heap.size 32 6 (.slice (some ⟨w.heap.size, 0, none⟩) 0 0) 0 [] :=
    World.ownsRow_lit w #[] 0 (Nat.le_refl _) (Nat.zero_le _) rfl
  obtain ⟨b, o', rfl, hc⟩ : ∃ b o', ao = some ⟨b, o', none⟩ ∧ ∀ i, i < n → RecAt w b (o' + i * 6) (l.getD i default) := by
    obtain ⟨_, _, e, hc⟩ := hv
    cases e
    rw [hl] at hc
    exact hc hp
  refine wpList_append_own _ hgd s x 41 ho w.heap.size 32 i0 _ 6 48 Try.underlying41 hi hz0 hz1 hz2 rfl (by decide) _ 0 [] hs hown ⟨b, o', none⟩ n cap (recs l) hx (by rw [recs_len, hl]) ?_ (recs_one_cell l) (by unfold maxLen; omega) (by omega) (by simp) ?_
  · intro j u hj
    have hjl : j < n * 6 := by
      have := (List.getElem?_eq_some_iff.1 hj).1
      rwa [recs_len, hl] at this
    have hdm : j = j / 6 * 6 + j % 6 := by omega
    rw [hdm, recs_at l (j / 6) (by omega) (j % 6) (by omega)] at hj
    have key := hc (j / 6) (by omega)
    have hbw : b < w.heap.size := block_lt_of_cell key.c0
    rw [Addr.add_lit, show o' + j = o' + j / 6 * 6 + j % 6 by omega]
    have e : ∀ o, (w.alloc (.cells #[] 32)).cell? ⟨b, o, none⟩ = w.cell? ⟨b, o, none⟩ := fun o => World.cell?_of_block (heap_alloc_old w _ hbw)
    rw [e]
    obtain ⟨k0, k1, k2, k3, k4, k5⟩ := key
    have h6 : j % 6 < 6 := by omega
    revert hj h6
    generalize j % 6 = c
    intro hj h6
    match c, hj, h6 with
    | 0, hj, _ => rw [Nat.add_zero, k0]; simpa [recL] using hj
    | 1, hj, _ => rw [k1]; simpa [recL] using hj
    | 2, hj, _ => rw [k2]; simpa [recL] using hj
    | 3, hj, _ => rw [k3]; simpa [recL] using hj
    | 4, hj, _ => rw [k4]; simpa [recL] using hj
    | 5, hj, _ => rw [k5]; simpa [recL] using hj
  · intro v' w' h1 h2 h3
    refine h v' w' ?_ (rs_of_own (e := 32) (base := w.heap.size) (by rw [hl]; simpa using h1))
    exact ((Below.refl _ _).alloc (Nat.le_refl _) _).grown h2 (by simp) (fun k hk => by cases hk; exact Nat.le_refl _)

theorem all_any (B b : Nat) (v : Value) (rs : List Rec) (w : World) (h : Tb B w b v rs) (hN : rs.length ≤ 1000) :
    Calls Try.prog 14 #[.pointer (some ⟨b, 0, none⟩)] w fun e w' => ∃ v', e = .returned v' ∧ RsOf w' v' rs ∧ Below w.heap.size w w' := by
  have c0 := h.c0
  have R := Lib.hid h.rs
  obtain ⟨g, cap, rfl, hg, hc⟩ := h.shape
  have hp := h.pos
  clear h
  obtain ⟨n, hn⟩ : ∃ n, rs.length = n := ⟨_, rfl⟩
  rw [hn] at hN hp c0 R hc
  have HN := Lib.hid hn
  clear hn
  have q : ∀ (w : World) (a : Option Addr) (n c n' c' : Nat), (binOp .eql 41 (.slice a n c) (.slice none n' c')).run Try.prog w = .ok (.bool a.isNone) w := fun w a n c n' c' => Lib.run_eql_slice_nil w _ _ a n c n' c' Try.underlying41
  go_enter Try.func14, Try.ntmps14
  go_wp2_with fail
  go_enter Try.func22, Try.ntmps22
  go_wp2_with (at_builtin; refine wpList_clone_recs w _ rfl _ _ rfl rfl rfl _ cap n rs rfl HN.out R.out hp hN ?_)
  intro v' w' h1 h2
  have T := Lib.hid (show ∃ v'', (Ending.returned v') = .returned v'' ∧ RsOf w' v'' rs ∧ Below w.heap.size w w' from ⟨_, rfl, h2, h1⟩)
  obtain ⟨ao, c2, rfl, _⟩ := h2
  clear h1
  go_wp2_with fail
  go_ret
  exact T.out
theorem all_nil (w : World) : Calls Try.prog 14 #[.pointer none] w fun e w' => e = .returned (.slice none 0 0) ∧ w = w' := by
  go_enter Try.func14, Try.ntmps14
  go_wp2_with fail
  go_ret
  exact ⟨rfl, rfl⟩

/-! ### Of -/
theorem results_cell_tmp {P : Program} {fn : Func} {t u : Tmp} {ty : TypeId} (h : fn.results = #[.cell t ty, .tmp u]) (tmps : Array Value) (w : World) (ad : Addr) (v : Value) (ht : tmps.getD t undef = .pointer (some ad)) (hl : (loadVar ty ad).run P w = .ok v w) :
    (results fn tmps).run P w = .ok (.tuple #[v, tmps.getD u undef]) w := by
  have ht' : tmps[t]?.getD undef = .pointer (some ad) := by simpa using ht
  simp [results, h, ht', asAddr, hl]
theorem six_set {w : World} {p : Nat} {t : TypeId} {a0 a1 a2 a3 a4 a5 : Value} (u0 u1 u2 u3 u4 u5 : Value) (h : w.heap[p]? = some (Obj.cells #[a0, a1, a2, a3, a4, a5] t (0, 0))) :
    ((((((w.setCell ⟨p, 0, none⟩ u0).setCell ⟨p, 1, none⟩ u1).setCell ⟨p, 2, none⟩ u2).setCell ⟨p, 3, none⟩ u3).setCell ⟨p, 4, none⟩ u4).setCell ⟨p, 5, none⟩ u5).heap[p]? = some (Obj.cells #[u0, u1, u2, u3, u4, u5] t (0, 0)) := by
  have h0 : (w.setCell ⟨p, 0, none⟩ u0).heap[p]? = _ := heap_setCell_same w p 0 _ _ _ h
  have h1 : (World.setCell _ ⟨p, 1, none⟩ u1).heap[p]? = _ := heap_setCell_same _ p 1 _ _ _ h0
  have h2 : (World.setCell _ ⟨p, 2, none⟩ u2).heap[p]? = _ := heap_setCell_same _ p 2 _ _ _ h1
  have h3 : (World.setCell _ ⟨p, 3, none⟩ u3).heap[p]? = _ := heap_setCell_same _ p 3 _ _ _ h2
  have h4 : (World.setCell _ ⟨p, 4, none⟩ u4).heap[p]? = _ := heap_setCell_same _ p 4 _ _ _ h3
  exact heap_setCell_same _ p 5 _ _ _ h4
theorem six_below {B : Nat} {a w : World} {p : Nat} (u0 u1 u2 u3 u4 u5 : Value) (h : Below B a w) (hp : B ≤ p) :
    Below B a ((((((w.setCell ⟨p, 0, none⟩ u0).setCell ⟨p, 1, none⟩ u1).setCell ⟨p, 2, none⟩ u2).setCell ⟨p, 3, none⟩ u3).setCell ⟨p, 4, none⟩ u4).setCell ⟨p, 5, none⟩ u5) :=
  (((((h.setCell hp _).setCell hp _).setCell hp _).setCell hp _).setCell hp _).setCell hp _
theorem load_rec {w : World} {p : Nat} {t : TypeId} (r : Rec) (h : w.heap[p]? = some (Obj.cells #[.int .i64 r.g, .int .i64 r.tid, .int .i64 r.frm, .bool r.gone, .int .i64 r.till, .int .i64 r.cut] t (0, 0))) :
    (loadVar 32 ⟨p, 0, none⟩).run Try.prog w = .ok (recV r) w :=
  run_loadVar_mid (P := Try.prog) w p 0 32 (recL r) _ (by
    intro j v hj
    simp only [World.cell?, h, Nat.zero_add]
    match j, hj with
    | 0, hj => simpa [recL] using hj
    | 1, hj => simpa [recL] using hj
    | 2, hj => simpa [recL] using hj
    | 3, hj => simpa [recL] using hj
    | 4, hj => simpa [recL] using hj
    | 5, hj => simpa [recL] using hj
    | j + 6, hj => simp [recL] at hj) Try.underlying32 rfl (by kernel_rfl)

def ofOut (rs : List Rec) (g : Int) : Rec × Bool := match look rs g with | none => (default, false) | some r => (r, true)
def OfPost (x : Rec × Bool) (w : World) (e : Ending) (w' : World) : Prop := e = .returned (.tuple #[recV x.1, .bool x.2]) ∧ Below w.heap.size w w'
theorem of_end {x : Rec} {ok : Bool} {w W : World} {p : Nat} {t : TypeId} {a0 a1 a2 a3 a4 a5 u0 u1 u2 u3 u4 u5 : Value} {tmps : Array Value} (h : W.heap[p]? = some (Obj.cells #[a0, a1, a2, a3, a4, a5] t (0, 0))) (hb : Below w.heap.size w W) (hp : w.heap.size ≤ p)
    (ht : tmps.getD 4 undef = .pointer (some ⟨p, 0, none⟩)) (hk : tmps.getD 5 undef = .bool ok) (e : recL x = [u0, u1, u2, u3, u4, u5]) :
    bodyPost Try.prog Try.f11 (OfPost (x, ok) w) Exit.ret { tmps := tmps, defers := [] }
      ((((((W.setCell ⟨p, 0, none⟩ u0).setCell ⟨p, 1, none⟩ u1).setCell ⟨p, 2, none⟩ u2).setCell ⟨p, 3, none⟩ u3).setCell ⟨p, 4, none⟩ u4).setCell ⟨p, 5, none⟩ u5) := by
  injection e with e0 e
  injection e with e1 e
  injection e with e2 e
  injection e with e3 e
  injection e with e4 e
  injection e with e5 e
  subst e0 e1 e2 e3 e4 e5
  refine bodyPost_ret (v := .tuple #[recV x, tmps.getD 5 undef]) (results_cell_tmp Try.results11 _ _ _ _ ht (load_rec x (six_set _ _ _ _ _ _ h))) rfl ⟨by rw [hk], six_below _ _ _ _ _ _ hb hp⟩
theorem of_end0 {x : Rec} {ok : Bool} {w W : World} {p : Nat} {t : TypeId} {u0 u1 u2 u3 u4 u5 : Value} {tmps : Array Value} (h : W.heap[p]? = some (Obj.cells #[u0, u1, u2, u3, u4, u5] t (0, 0))) (hb : Below w.heap.size w W)
    (ht : tmps.getD 4 undef = .pointer (some ⟨p, 0, none⟩)) (hk : tmps.getD 5 undef = .bool ok) (e : recL x = [u0, u1, u2, u3, u4, u5]) :
    bodyPost Try.prog Try.f11 (OfPost (x, ok) w) Exit.ret { tmps := tmps, defers := [] } W := by
  injection e with e0 e
  injection e with e1 e
  injection e with e2 e
  injection e with e3 e
  injection e with e4 e
  injection e with e5 e
  subst e0 e1 e2 e3 e4 e5
  refine bodyPost_ret (v := .tuple #[recV x, tmps.getD 5 undef]) (results_cell_tmp Try.results11 _ _ _ _ ht (load_rec x h)) rfl ⟨by rw [hk], hb⟩
theorem of_nil (g : Int) (w : World) : Calls Try.prog 11 #[.pointer none, .int .i64 g] w (OfPost (default, false) w) := by
  obtain ⟨W, hW⟩ : ∃ W, w.alloc (.cells #[.int .i64 0, .int .i64 0, .int .i64 0, .bool false, .int .i64 0, .int .i64 0] 32) = W := ⟨_, rfl⟩
  have L2 : W.heap[w.heap.size]? = some (Obj.cells #[.int .i64 0, .int .i64 0, .int .i64 0, .bool false, .int .i64 0, .int .i64 0] 32 (0, 0)) := by
    rw [← hW]; exact heap_alloc_new w _
  have BW : Below w.heap.size w W := by rw [← hW]; exact (Below.refl _ _).alloc (Nat.le_refl _) _
  have HB := Lib.hid BW
  have HL := Lib.hid L2
  have HW := Lib.hid hW
  clear BW L2 hW
  go_enter Try.func11, Try.ntmps11
  go_wp2_with fail
  rw [HW.out]
  exact of_end0 HL.out HB.out rfl rfl rfl
theorem find_look {rs : List Rec} {g : Int} {i : Nat} (hb : ∀ t, t < i → gAt rs t < g) (ha : ∀ t, i ≤ t → t < rs.length → g ≤ gAt rs t) (hs : Srt rs) :
    (i < rs.length ∧ gAt rs i = g → look rs g = some (rs.getD i default)) ∧ (¬ (i < rs.length ∧ gAt rs i = g) → look rs g = none) := by
  refine ⟨fun h => look_yes h.1 h.2 (fun t ht => by have := hb t ht; omega), fun h => look_no (fun t ht e => ?_)⟩
  by_cases h1 : t < i
  · have := hb t h1; omega
  · by_cases h2 : t = i
    · subst h2; exact h ⟨ht, e⟩
    · have h3 := hs i t (by omega) ht
      have h4 := ha i (Nat.le_refl _) (by omega)
      unfold gAt at e h4
      omega

theorem of_any (B b : Nat) (v : Value) (rs : List Rec) (g : Int) (w : World) (h : Tb B w b v rs) (hs : Srt rs) (hN : rs.length ≤ 1000) :
    Calls Try.prog 11 #[.pointer (some ⟨b, 0, none⟩), .int .i64 g] w (OfPost (ofOut rs g) w) := by
  obtain ⟨W, hW⟩ : ∃ W, w.alloc (.cells #[.int .i64 0, .int .i64 0, .int .i64 0, .bool false, .int .i64 0, .int .i64 0] 32) = W := ⟨_, rfl⟩
  have L2 : W.heap[w.heap.size]? = some (Obj.cells #[.int .i64 0, .int .i64 0, .int .i64 0, .bool false, .int .i64 0, .int .i64 0] 32 (0, 0)) := by
    rw [← hW]; exact heap_alloc_new w _
  have BW : Below w.heap.size w W := by rw [← hW]; exact (Below.refl _ _).alloc (Nat.le_refl _) _
  have H := Lib.hid (h.below BW)
  have HB := Lib.hid BW
  have HL := Lib.hid L2
  have HW := Lib.hid hW
  have HS := Lib.hid hs
  clear BW L2 hW h hs
  go_enter Try.func11, Try.ntmps11
  go_wp2_with fail
  rw [HW.out]
  refine (find_any B b v rs g W H.out HS.out hN).mono ?_
  rintro e w1 ⟨i, rfl, h1, h2, h3, h4⟩
  have HT := Lib.hid (H.out.below h4)
  have l2 := (h4.block _ (lt_of_heap HL.out)).trans HL.out
  have HB1 := Lib.hid (below_trans HB.out h4 HB.out.size)
  have F := Lib.hid (find_look h2 h3 HS.out)
  clear h2 h3 h4 HL H HB
  have f0 : ∀ o, w1.frozen? ⟨w.heap.size, o, none⟩ = false := fun o => by simp [World.frozen?, l2]
  have z0 : w1.cell? ⟨w.heap.size, 0, none⟩ = some (.int .i64 0) := by simp only [World.cell?, l2]; rfl
  have z1 : w1.cell? ⟨w.heap.size, 1, none⟩ = some (.int .i64 0) := by simp only [World.cell?, l2]; rfl
  have z2 : w1.cell? ⟨w.heap.size, 2, none⟩ = some (.int .i64 0) := by simp only [World.cell?, l2]; rfl
  have z3 : w1.cell? ⟨w.heap.size, 3, none⟩ = some (.bool false) := by simp only [World.cell?, l2]; rfl
  have z4 : w1.cell? ⟨w.heap.size, 4, none⟩ = some (.int .i64 0) := by simp only [World.cell?, l2]; rfl
  have z5 : w1.cell? ⟨w.heap.size, 5, none⟩ = some (.int .i64 0) := by simp only [World.cell?, l2]; rfl
  have HL := Lib.hid l2
  clear l2
  by_cases hx : i < rs.length ∧ gAt rs i = g
  · have e : decide (i < rs.length ∧ gAt rs i = g) = true := decide_eq_true hx
    have e2 : ofOut rs g = (rs.getD i default, true) := by unfold ofOut; rw [F.out.1 hx]
    have E := Lib.hid e2
    rw [e]
    have hlt := hx.1
    clear e e2 hx h1
    have c0 := HT.out.c0
    obtain ⟨ga, cap, rfl, _, _⟩ := HT.out.shape
    have hr := HT.out.at i hlt
    obtain ⟨c1, c2, c3, c4, c5, c6⟩ := hr
    obtain ⟨r, hrr⟩ : ∃ r, rs.getD i default = r := ⟨_, rfl⟩
    rw [hrr] at c1 c2 c3 c4 c5 c6 E
    have hlt' : (i : Int) < rs.length := by omega
    clear hrr
    go_wp2_with fail
    rw [E.out]
    exact of_end HL.out HB1.out (Nat.le_refl _) rfl rfl rfl
  · have e : decide (i < rs.length ∧ gAt rs i = g) = false := decide_eq_false hx
    have e2 : ofOut rs g = (default, false) := by unfold ofOut; rw [F.out.2 hx]
    have E := Lib.hid e2
    rw [e]
    clear e e2 hx h1
    go_wp2_with fail
    rw [E.out]
    exact of_end HL.out HB1.out (Nat.le_refl _) rfl rfl rfl
end Go.Proofs.Ytmhonibalgddcaa

