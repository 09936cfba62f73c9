
/-
  Package sheet: head.
  Package sheet: rows of operations and of programs; program.
  Package sheet: Decode, plainly; rows of programs; where Decode stands.
-/
import Derived.Test.YtpefjcmaggimhaaSheI
namespace Go.Proofs.Ytpefjcmaggimhaa
open Go.RowKit
set_option linter.unusedVariables false
set_option linter.unusedSimpArgs false
set_option maxRecDepth 100000

/-- The first k numbers, each of which is at most what is told. -/
def headK (ms : List Int) (b : List UInt8) : Nat → Option (List Int × List UInt8)
  | 0 => some ([], b)
  | k + 1 => match headK ms b k with
    | none => none
    | some (l, r) => if takE r = 0 ∧ takV r ≤ ms.getD k 0 then some (l ++ [takV r], takR r) else none
theorem headK_none {ms : List Int} {b : List UInt8} {k : Nat} (h : headK ms b k = none) : ∀ n, k ≤ n → headK ms b n = none := by
  intro n hn
  induction n with
  | zero => have : k = 0 := by omega
            subst this; exact h
  | succ n ih =>
    by_cases hk : k = n + 1
    · subst hk; exact h
    · simp only [headK, ih (by omega)]
theorem headK_facts {ms : List Int} {b : List UInt8} : ∀ {k : Nat} {l : List Int} {r : List UInt8}, headK ms b k = some (l, r) → l.length = k ∧ r.length ≤ b.length
  | 0, l, r, h => by simp [headK] at h; obtain ⟨rfl, rfl⟩ := h; simp
  | k + 1, l, r, h => by
    simp only [headK] at h
    cases hk : headK ms b k with
    | none => rw [hk] at h; cases h
    | some x =>
      obtain ⟨l0, r0⟩ := x
      rw [hk] at h
      simp only at h
      obtain ⟨h1, h2⟩ := headK_facts hk
      split at h
      · injection h with h
        injection h with e1 e2
        subst e1; subst e2
        exact ⟨by simp [h1], Nat.le_trans (takR_len _) h2⟩
      · cases h
def HeadPost (ms : List Int) (b : List UInt8) (w : World) (r : Ending) (w' : World) : Prop :=
  Below w.heap.size w w' ∧ ((∃ l t v, headK ms b ms.length = some (l, t) ∧ r = .returned (.tuple #[v, bs t, .bool true]) ∧ w'.ownsRow w.heap.size 3 1 v l.length (ints l)) ∨ (headK ms b ms.length = none ∧ r = .returned (.tuple #[.slice none 0 0, bs [], .bool false])))
set_option maxHeartbeats 2000000 in
theorem head_any (v : Value) (ms : List Int) (b : List UInt8) (w : World) (h : SlI w v ms) (hN : ms.length ≤ 100) (hl : b.length ≤ 10000000) :
    Calls Try.prog 36 #[bs b, v] w (HeadPost ms b w) := by
  obtain ⟨ao, cap, rfl⟩ := slI_shape h
  obtain ⟨n, hn⟩ : ∃ n, ms.length = n := ⟨_, rfl⟩
  unfold HeadPost
  rw [hn] at h hN ⊢
  have H := Lib.hid h
  have HN := Lib.hid hn
  clear h hn
  go_enter Try.func36, Try.ntmps36
  go_wp2_with fail
  go_loopw [15, 7, 0] (fun i z s wr => ∃ (k : Nat) (l : List Int) (r : List UInt8), k ≤ n ∧ i = .int .i64 k ∧ headK ms b k = some (l, r) ∧ s = bs r ∧ wr.ownsRow w.heap.size 3 1 z k (ints l) ∧ Below w.heap.size w wr) (fun i _ _ _ => n - (intOf i).toNat)
  case atStart => exact ⟨0, [], b, by omega, rfl, rfl, rfl, World.ownsRow_nil _ _ _ _, Below.refl _ _⟩
  case round =>
    obtain ⟨k, l, r, hk, rfl, hhk, rfl, hrow, hb⟩ := hrel
    obtain ⟨az, cz, rfl⟩ := owns_slice hrow
    have HB := Lib.hid hb
    have ROW := Lib.hid hrow
    have HHK := Lib.hid hhk
    obtain ⟨hlk, hrl⟩ := headK_facts hhk
    have LK := Lib.hid hlk
    clear hb hrow hhk hlk
    by_cases hlt : k < n
    · have hlt' : (k : Int) < (n : Int) := by omega
      obtain ⟨b', o', rfl, c0⟩ := slI_at (slI_below H.out (Nat.le_refl _) HB.out) k (by have := HN.out; omega)
      have STEP := Lib.hid (show headK ms b (k + 1) = if takE r = 0 ∧ takV r ≤ ms.getD k 0 then some (l ++ [takV r], takR r) else none from by simp only [headK, HHK.out])
      obtain ⟨x, hx⟩ : ∃ x, ms.getD k 0 = x := ⟨_, rfl⟩
      rw [hx] at c0 STEP
      have TK := take_any r wr (by omega)
      obtain ⟨tv, htv⟩ : ∃ y, takV r = y := ⟨_, rfl⟩
      obtain ⟨tr, htr⟩ : ∃ y, takR r = y := ⟨_, rfl⟩
      obtain ⟨te, hte⟩ : ∃ y, takE r = y := ⟨_, rfl⟩
      rw [htv, htr, hte] at TK STEP
      have TK1 := Lib.hid TK
      clear hx htv htr hte TK
      go_wp2_with fail
      refine TK1.out.mono ?_
      rintro e w2 ⟨rfl, m2, hw2⟩
      have B2 := Lib.hid (show Below w.heap.size w w2 from by rw [hw2]; exact below_drewN HB.out m2)
      have R2 := Lib.hid (show w2.ownsRow w.heap.size 3 1 (.slice az k cz) k (ints l) from by rw [hw2]; exact ROW.out)
      clear hw2 c0
      by_cases he : te = 0
      · subst he
        by_cases hle : tv ≤ x
        · have hle' : ¬ x < tv := by omega
          have S2 := Lib.hid (show headK ms b (k + 1) = some (l ++ [tv], tr) from by rw [STEP.out, if_pos ⟨rfl, hle⟩])
          have SZ := B2.out.size
          clear STEP hle
          go_wp2_with (at_builtin; refine wpList_append_ints rfl _ _ rfl w.heap.size (.slice az k cz) k _ rfl (show World.ownsRow _ _ _ _ _ _ _ from R2.out.alloc _) w2.heap.size 1 1 [tv] rfl rfl (heap_alloc_new _ _) (by omega) (by omega) (by simp; omega) ?_)
          intro g7 cap7 w7 hown hgr
          have B7 := Lib.hid (show Below w.heap.size w w7 from (B2.out.alloc B2.out.size (.cells #[.int .i64 tv] 3)).grown hgr (by simp; omega) (fun k hk => (R2.out.lt k hk).1))
          have O7 := Lib.hid hown
          clear hown hgr
          go_wp2_with fail
          go_roundw
          case rel => exact ⟨k + 1, l ++ [tv], tr, by omega, by go_num, S2.out, rfl, by rw [ints_append]; exact O7.out, B7.out⟩
          case measure => simp [intOf] <;> omega
        · have hle' : x < tv := by omega
          have S2 := Lib.hid (show headK ms b n = none from headK_none (by rw [STEP.out, if_neg (fun e => hle e.2)]) n (show k + 1 ≤ n by omega))
          clear STEP hle
          go_wp2_with fail
          go_ret3
          exact ⟨B2.out, .inr ⟨S2.out, rfl⟩⟩
      · have he' : (te == 0) = false := beq_eq_false_iff_ne.2 he
        have he2 : (te != 0) = true := by simpa using he
        have S2 := Lib.hid (show headK ms b n = none from headK_none (by rw [STEP.out, if_neg (fun e => he e.1)]) n (show k + 1 ≤ n by omega))
        clear STEP he
        go_wp2_with fail
        go_ret3
        exact ⟨B2.out, .inr ⟨S2.out, rfl⟩⟩
    · have ekn : n = k := by omega
      subst ekn
      go_wp2_with fail
      go_ret3
      exact ⟨HB.out, .inl ⟨l, r, _, HHK.out, rfl, by rw [LK.out]; exact ROW.out⟩⟩
end Go.Proofs.Ytpefjcmaggimhaa
namespace Go.Proofs.Ytpefjcmaggimhaa
open Go.RowKit
set_option linter.unusedVariables false
set_option linter.unusedSimpArgs false
set_option maxRecDepth 100000

/-! ### Both Decodes of an operation (out of XLaw4a) -/
def Sfx (s l : List UInt8) : Prop := ∃ z, l = s.drop z ∧ z ≤ s.length
theorem Sfx.num {s l : List UInt8} (h : Sfx s l) : Sfx s (numR l) := by
  obtain ⟨z, rfl, hz⟩ := h
  obtain ⟨h1, h2⟩ := num_drop (s.drop z)
  rw [List.length_drop] at h2
  exact ⟨z + numZ (s.drop z), by rw [h1, List.drop_drop], by omega⟩
theorem Sfx.refl (s : List UInt8) : Sfx s s := ⟨0, rfl, Nat.zero_le _⟩
theorem rCs_sfx : ∀ (n : Nat) {s l r : List UInt8} {cs : List Cs}, Sfx s l → rCs n l = some (cs, r) → Sfx s r
  | 0, s, l, r, cs, h, e => by
    simp [rCs] at e
    obtain ⟨_, rfl⟩ := e
    exact h
  | n + 1, s, l, r, cs, h, e => by
    unfold rCs at e
    split at e
    · simp at e
    · split at e
      · simp at e
      · split at e
        · simp at e
        · cases hr : rCs n (numR (numR (numR l))) with
          | none => rw [hr] at e; simp at e
          | some x =>
            obtain ⟨cs', r'⟩ := x
            rw [hr] at e
            simp at e
            obtain ⟨_, rfl⟩ := e
            exact rCs_sfx n h.num.num.num hr
theorem rFin_sfx {s l l' : List UInt8} {o o' : Opn} {p : Int} (h : Sfx s l) (e : rFin o l p = some (o', l')) : Sfx s l' := by
  unfold rFin at e
  split at e
  · cases e; exact h
  · cases e
theorem rDec_drop {s l : List UInt8} {o : Opn} {p : Int} (h : rDec s p = some (o, l)) : ∃ z, l = s.drop z ∧ z ≤ s.length := by
  have hA : Sfx s (rdA s p).2 := by
    unfold rdA; split
    · exact (Sfx.refl s).num.num
    · exact (Sfx.refl s).num
  have hB : Sfx s (rdB s p).2 := by
    unfold rdB; split
    · exact hA.num
    · exact hA
  unfold rDec at h
  split at h
  · cases h
  · split at h
    · unfold rDec6 at h
      split at h
      · cases h
      · split at h
        · cases h
        · cases hr : rCs (numV (numR (rdB s p).2)).toNat (numR (numR (rdB s p).2)) with
          | none => rw [hr] at h; simp at h
          | some x =>
            obtain ⟨cs, r⟩ := x
            rw [hr] at h
            exact rFin_sfx (rCs_sfx _ hB.num.num hr) h
    · exact rFin_sfx hB h
/-- What both Decodes say. -/
theorem dec_both (s : List UInt8) (p : Int) : rdO s p = decO s p ∧ rdF s p = decOF s p ∧ (decOF s p ≠ 0 → decOR s p = []) ∧ (decOF s p = 0 → decOR s p = s.drop (rdZ s p) ∧ rdZ s p ≤ s.length) := by
  by_cases hp : p < 1 ∨ 8 < p
  · have e : decOk s p = false := by unfold decOk; rw [decide_eq_false (by omega)]; rfl
    have f : rdX s p = none := by unfold rdX; rw [if_pos hp]
    have g : decOF s p = 1 := by unfold decOF; rw [if_pos hp]
    refine ⟨by simp [rdO, decO, e, f], by rw [g]; unfold rdF; rw [if_pos hp], fun _ => by simp [decOR, e], fun h => by rw [g] at h; omega⟩
  · obtain ⟨q1, q2⟩ := dec_eq s p (by omega)
    have f : rdX s p = rDec s p := by unfold rdX; rw [if_neg hp]
    cases hr : rDec s p with
    | none =>
      have e := q2 hr
      have g : decOF s p = 4 := by unfold decOF; rw [if_neg hp, e]; rfl
      rw [hr] at f
      exact ⟨by simp [rdO, decO, e, f], by rw [g]; unfold rdF; rw [if_neg hp, f]; rfl, fun _ => by simp [decOR, e], fun h => by rw [g] at h; omega⟩
    | some x =>
      obtain ⟨o, l⟩ := x
      obtain ⟨e, d⟩ := q1 o l hr
      have g : decOF s p = 0 := by unfold decOF; rw [if_neg hp, e]; rfl
      rw [hr] at f
      obtain ⟨z, hz, hle⟩ := rDec_drop hr
      refine ⟨by simp [rdO, decO, e, f, d], by rw [g]; unfold rdF; rw [if_neg hp, f]; rfl, fun h => absurd g h, fun _ => ?_⟩
      have hZ : rdZ s p = z := by
        simp only [rdZ, f]
        rw [hz, List.length_drop]; omega
      rw [hZ]
      exact ⟨by simp [decOR, e, d, hz], hle⟩

theorem decOR_len (s : List UInt8) (p : Int) : (decOR s p).length ≤ s.length := by
  obtain ⟨_, _, h1, h2⟩ := dec_both s p
  by_cases h : decOF s p = 0
  · rw [(h2 h).1, List.length_drop]; omega
  · rw [h1 h]; simp

/-! ### Rows -/
def opL (x : Opn × Value) : List Value := (opC x.2 x.1).toList
def opCells (es : List (Opn × Value)) : List Value := es.flatMap opL
theorem opL_len (x : Opn × Value) : (opL x).length = 5 := rfl
theorem opCells_at : ∀ (es : List (Opn × Value)) (i : Nat), i < es.length → ∀ c, c < 5 → (opCells es)[i * 5 + c]? = (opL (es.getD i (default, .slice none 0 0)))[c]?
  | [], i, h, c, hc => by simp at h
  | e :: es, 0, h, c, hc => by
    show (opL e ++ opCells es)[0 * 5 + c]? = _
    rw [List.getElem?_append_left (by rw [opL_len]; omega)]
    simp
  | e :: es, i + 1, h, c, hc => by
    show (opL e ++ opCells es)[(i + 1) * 5 + c]? = _
    rw [List.getElem?_append_right (by rw [opL_len]; omega), opL_len, show (i + 1) * 5 + c - 5 = i * 5 + c by omega, opCells_at es i (by simpa using h) c hc]
    simp
theorem opCells_snoc (es : List (Opn × Value)) (e : Opn × Value) : opCells (es ++ [e]) = opCells es ++ opL e := by
  simp [opCells, List.flatMap_append]
theorem opinfo : (Try.prog.info? 48).map (fun i => (i.zero, i.size, i.bytes)) = some (some (.agg (opC (.slice none 0 0) zeroOp)), 5, 56) := by kernel_rfl
theorem prinfo : (Try.prog.info? 45).map (fun i => (i.zero, i.size, i.bytes)) = some (some (.slice none 0 0), 1, 24) := by kernel_rfl
theorem cssTy_below {w w' : World} {v : Value} {cs : List Cs} (h : CssTy w v cs) {n : Nat} (hn : w.heap.size ≤ n) (hB : Below n w w') : CssTy w' v cs := by
  refine ⟨h.1.below hn hB, fun g o m c hv => ?_⟩
  obtain ⟨cur, hc⟩ := h.2 g o m c hv
  exact ⟨cur, (hB.block _ (Nat.lt_of_lt_of_le (lt_of_heap hc) hn)).trans hc⟩
/-- A block of another element type than these has grown. -/
def OthB (w : World) (o : Option Nat) (ts : List TypeId) : Prop := ∀ g, o = some g → ∃ cur t f, t ∉ ts ∧ w.heap[g]? = some (.cells cur t f)
theorem othB_row {w : World} {base : Nat} {t : TypeId} {k : Nat} {v : Value} {n : Nat} {xs : List Value} (h : w.ownsRow base t k v n xs) {ts : List TypeId} (ht : t ∉ ts) : OthB w v.ownBlock ts := by
  intro g hg
  rcases h.2 with ⟨rfl, _⟩ | ⟨g', cap, cur, rfl, _, hb, _⟩
  · cases hg
  · have := Option.some.inj hg
    subst this
    exact ⟨cur, t, _, ht, hb⟩
theorem OthB.ne {w : World} {o : Option Nat} {ts : List TypeId} (h : OthB w o ts) {k : Nat} {cur : Array Value} {t : TypeId} {f : Nat × Nat} (ht : t ∈ ts) (hk : w.heap[k]? = some (.cells cur t f)) : some k ≠ o := by
  intro e
  obtain ⟨cur', t', f', hn, hb⟩ := h k e.symm
  rw [hk] at hb
  have := Option.some.inj hb
  injection this with e1 e2 e3
  exact hn (e2 ▸ ht)
theorem cssTy_keep {w w' : World} {v : Value} {cs : List Cs} (h : CssTy w v cs) {o : Option Nat} (hg : w.grownBy w' o) {ts : List TypeId} (ho : OthB w o ts) (ht : 50 ∈ ts) : CssTy w' v cs := by
  have hk : ∀ g q m c, v = .slice (some ⟨g, q, none⟩) m c → w'.heap[g]? = w.heap[g]? := fun g q m c hv => by
    obtain ⟨cur, hc⟩ := h.2 g q m c hv
    exact hg.block g (lt_of_heap hc) (ho.ne ht hc)
  refine ⟨?_, fun g q m c hv => by obtain ⟨cur, hc⟩ := h.2 g q m c hv; exact ⟨cur, (hk g q m c hv).trans hc⟩⟩
  obtain ⟨ao, cap, rfl, hcc⟩ := h.1
  refine ⟨ao, cap, rfl, fun hp => ?_⟩
  obtain ⟨b, q, rfl, hd⟩ := hcc hp
  have f : ∀ i, w'.cell? ⟨b, i, none⟩ = w.cell? ⟨b, i, none⟩ := fun i => World.cell?_of_block (a := ⟨b, i, none⟩) (hk b q _ _ rfl)
  exact ⟨b, q, rfl, fun i hi => ⟨(f _).trans (hd i hi).c0, (f _).trans (hd i hi).c1, (f _).trans (hd i hi).c2⟩⟩
/-- A row of operations of one's own, each with its cases. -/
structure OpRow (base : Nat) (w : World) (v : Value) (es : List (Opn × Value)) : Prop where
  row : w.ownsRow base 48 5 v es.length (opCells es)
  cs : ∀ i, i < es.length → CssTy w (es.getD i (default, .slice none 0 0)).2 (es.getD i (default, .slice none 0 0)).1.cs
theorem OpRow.below {base : Nat} {w w' : World} {v : Value} {es : List (Opn × Value)} (h : OpRow base w v es) {n : Nat} (hn : w.heap.size ≤ n) (hB : Below n w w') : OpRow base w' v es :=
  ⟨h.row.kept (below_none (hB.mono hn)) (by cases v.ownBlock <;> simp), fun i hi => cssTy_below (h.cs i hi) hn hB⟩
theorem OpRow.keep {base : Nat} {w w' : World} {v : Value} {es : List (Opn × Value)} (h : OpRow base w v es) {o : Option Nat} (hg : w.grownBy w' o) {ts : List TypeId} (ho : OthB w o ts) (ht : 50 ∈ ts) (hu : 48 ∈ ts) : OpRow base w' v es := by
  refine ⟨h.row.kept hg ?_, fun i hi => cssTy_keep (h.cs i hi) hg ho ht⟩
  rcases h.row.2 with ⟨rfl, _⟩ | ⟨g', cap, cur, rfl, _, hb, _⟩
  · exact .inl rfl
  · exact .inr (ho.ne hu hb)
theorem OpRow.nil (base : Nat) (w : World) : OpRow base w (.slice none 0 0) [] := ⟨World.ownsRow_nil _ _ _ _, fun i hi => by simp at hi⟩
theorem OpRow.ops {base : Nat} {w : World} {v : Value} {es : List (Opn × Value)} (h : OpRow base w v es) : OpsOf w v (es.map (·.1)) := by
  rcases h.row.2 with ⟨rfl, h0⟩ | ⟨g, cap, cur, rfl, hbg, hg, hnc, hcm, hcs, htake⟩
  · exact ⟨none, 0, by rw [List.length_map, h0], fun hp => by rw [List.length_map] at hp; omega⟩
  · refine ⟨some ⟨g, 0, none⟩, cap, by rw [List.length_map], fun _ => ⟨g, 0, rfl, fun i hi => ?_⟩⟩
    rw [List.length_map] at hi
    have key : ∀ c u, c < 5 → (opL (es.getD i (default, .slice none 0 0)))[c]? = some u → w.cell? ⟨g, 0 + i * 5 + c, none⟩ = some u := fun c u hc hu => by
      have := h.row.cells (g := g) rfl (i * 5 + c) u (by rw [opCells_at es i hi c hc]; exact hu)
      rw [add_mid', ← Nat.add_assoc] at this
      exact this
    have e : (es.map (·.1)).getD i default = (es.getD i (default, .slice none 0 0)).1 := by simp [List.getD, hi]
    rw [e]
    exact ⟨_, key 0 _ (by omega) rfl, key 1 _ (by omega) rfl, key 2 _ (by omega) rfl, key 3 _ (by omega) rfl, key 4 _ (by omega) rfl, (h.cs i hi).1⟩
theorem css_oneCell {w : World} {v : Value} {cs : List Cs} (h : CssOf w v cs) : v.oneCell' = true := by
  obtain ⟨ao, cap, rfl⟩ := h.shape; rfl
theorem opL_one {w : World} {x : Opn × Value} (h : CssOf w x.2 x.1.cs) : ∀ u ∈ opL x, u.oneCell' = true := by
  intro u hu
  have hv := css_oneCell h
  simp [opL, opC] at hu
  rcases hu with rfl | rfl | rfl | rfl | rfl
  · rfl
  · rfl
  · rfl
  · exact hv
  · rfl
/-- One more. -/
theorem OpRow.app {base : Nat} {w w' : World} {v v' : Value} {es : List (Opn × Value)} {x : Opn × Value} (h : OpRow base w v es) (hx : CssTy w x.2 x.1.cs) (hr : w'.ownsRow base 48 5 v' (es.length + 1) (opCells es ++ opL x)) (hg : w.grownBy w' v.ownBlock) : OpRow base w' v' (es ++ [x]) := by
  have ho : OthB w v.ownBlock [50] := othB_row h.row (by decide)
  refine ⟨by rw [List.length_append, List.length_singleton, opCells_snoc]; exact hr, fun i hi => ?_⟩
  rw [List.length_append, List.length_singleton] at hi
  by_cases hlt : i < es.length
  · have e : (es ++ [x]).getD i (default, .slice none 0 0) = es.getD i (default, .slice none 0 0) := by simp [List.getD, hlt, List.getElem?_append_left hlt]
    rw [e]
    exact cssTy_keep (h.cs i hlt) hg ho (by simp)
  · have : i = es.length := by omega
    subst this
    have e : (es ++ [x]).getD es.length (default, .slice none 0 0) = x := by simp [List.getD]
    rw [e]
    exact cssTy_keep hx hg ho (by simp)

/-! ### program -/
def opsK (p : Int) (r : List UInt8) : Nat → Option (List Opn × List UInt8)
  | 0 => some ([], r)
  | k + 1 => match opsK p r k with
    | none => none
    | some (l, t) => if decOF t p = 0 then some (l ++ [decO t p], decOR t p) else none
theorem opsK_none {p : Int} {r : List UInt8} {k : Nat} (h : opsK p r k = none) : ∀ n, k ≤ n → opsK p r n = none := by
  intro n hn
  induction n with
  | zero => have : k = 0 := by omega
            subst this; exact h
  | succ n ih =>
    by_cases hk : k = n + 1
    · subst hk; exact h
    · simp only [opsK, ih (by omega)]
theorem opsK_facts {p : Int} {r : List UInt8} : ∀ {k : Nat} {l : List Opn} {t : List UInt8}, opsK p r k = some (l, t) → l.length = k ∧ t.length ≤ r.length
  | 0, l, t, h => by simp [opsK] at h; obtain ⟨rfl, rfl⟩ := h; simp
  | k + 1, l, t, h => by
    simp only [opsK] at h
    cases hk : opsK p r k with
    | none => rw [hk] at h; cases h
    | some x =>
      obtain ⟨l0, r0⟩ := x
      rw [hk] at h
      simp only at h
      obtain ⟨h1, h2⟩ := opsK_facts hk
      split at h
      · injection h with h
        injection h with e1 e2
        subst e1; subst e2
        exact ⟨by simp [h1], Nat.le_trans (decOR_len _ _) h2⟩
      · cases h
def progK (p : Int) (b : List UInt8) : Option (List Opn × List UInt8) := match headK [32] b 1 with
  | none => none
  | some (l, t) => opsK p t (l.getD 0 0).toNat
def ProgPost (p : Int) (b : List UInt8) (w : World) (r : Ending) (w' : World) : Prop :=
  Below w.heap.size w w' ∧ ((∃ es t v, progK p b = some (es.map (·.1), t) ∧ r = .returned (.tuple #[v, bs t, .bool true]) ∧ OpRow w.heap.size w' v es) ∨ (progK p b = none ∧ r = .returned (.tuple #[.slice none 0 0, bs [], .bool false])))
theorem head1 {m : Int} {b : List UInt8} {l : List Int} {t : List UInt8} (h : headK [m] b 1 = some (l, t)) : l = [takV b] ∧ t = takR b ∧ takE b = 0 ∧ takV b ≤ m := by
  simp only [headK] at h
  split at h
  · rename_i h0
    injection h with h
    injection h with e1 e2
    exact ⟨by rw [← e1]; rfl, e2.symm, h0.1, by simpa using h0.2⟩
  · cases h
theorem slI_lit (w : World) (l : List Int) : SlI (w.alloc (.cells (ints l).toArray 3)) (.slice (some ⟨w.heap.size, 0, none⟩) l.length l.length) l := by
  refine ⟨_, _, rfl, fun _ => ⟨_, 0, rfl, fun i hi => ?_⟩⟩
  simp only [World.cell?, heap_alloc_new, Nat.zero_add]
  simp [ints, List.getD, hi]
set_option maxHeartbeats 2000000 in
theorem program_any (p : Int) (b : List UInt8) (w : World) (hl : b.length ≤ 10000000) : Calls Try.prog 37 #[bs b, .int .i64 p] w (ProgPost p b w) := by
  have HD := Lib.hid (head_any _ [32] b _ (slI_lit w [32]) (by simp) hl)
  unfold HeadPost at HD
  unfold ProgPost
  obtain ⟨pk, hpk⟩ : ∃ x, progK p b = x := ⟨_, rfl⟩
  rw [hpk]
  have PK := Lib.hid hpk
  clear hpk
  go_enter Try.func37, Try.ntmps37
  go_wp2_with fail
  refine HD.out.mono ?_
  rintro r w1 ⟨hB, ⟨l, t, v, hk, rfl, hown⟩ | ⟨hk, rfl⟩⟩
  · have B1 := Lib.hid (show Below w.heap.size w w1 from (below1 _ _).trans (hB.mono (by simp)))
    obtain ⟨rfl, rfl, -, hx⟩ := head1 hk
    obtain ⟨ao, ca, rfl⟩ := owns_slice hown
    obtain ⟨b1, o1, rfl, c0⟩ := slI_at (SlI.of_owns hown) 0 (by simp)
    have PK2 := Lib.hid (show pk = opsK p (takR b) (takV b).toNat from by rw [← PK.out]; unfold progK; rw [show headK [32] b 1 = _ from hk]; rfl)
    have hr := takR_len b
    obtain ⟨t, ht⟩ : ∃ t, takR b = t := ⟨_, rfl⟩
    have hx0 := (takV_bd b).1
    rw [show [takV b].getD 0 0 = takV b from rfl, Nat.add_zero] at c0
    obtain ⟨n, hn⟩ := Int.eq_ofNat_of_zero_le hx0
    rw [hn] at c0 hx PK2
    rw [ht] at PK2 hr
    rw [ht]
    rw [Int.toNat_natCast] at PK2
    clear hk hown hB HD PK hx0 hn ht
    go_wp2_with fail
    go_loopw [25, 9, 0] (fun i z s wr => ∃ (k : Nat) (es : List (Opn × Value)) (r : List UInt8), k ≤ n ∧ i = .int .i64 k ∧ opsK p t k = some (es.map (·.1), r) ∧ s = bs r ∧ OpRow w.heap.size wr z es ∧ Below w.heap.size w wr) (fun i _ _ _ => n - (intOf i).toNat)
    case atStart => exact ⟨0, [], t, by omega, rfl, rfl, rfl, OpRow.nil _ _, B1.out⟩
    case round =>
      obtain ⟨k, es, r, hk, rfl, hok, rfl, hrow, hb⟩ := hrel
      obtain ⟨az, cz, rfl⟩ := owns_slice hrow.row
      obtain ⟨hlk, hrl⟩ := opsK_facts hok
      rw [List.length_map] at hlk
      have HB := Lib.hid hb
      have ROW := Lib.hid hrow
      have HOK := Lib.hid hok
      have LK := Lib.hid hlk
      rw [hlk]
      clear hb hrow hok c0
      by_cases hlt : k < n
      · have hlt' : (k : Int) < (n : Int) := by omega
        have STEP := Lib.hid (show opsK p t (k + 1) = if decOF r p = 0 then some (es.map (·.1) ++ [decO r p], decOR r p) else none from by simp only [opsK, HOK.out])
        have DC := ddecodeT_any r p wr (by omega)
        unfold DecPostT at DC
        obtain ⟨od, hod⟩ : ∃ y, decO r p = y := ⟨_, rfl⟩
        obtain ⟨tr, htr⟩ : ∃ y, decOR r p = y := ⟨_, rfl⟩
        obtain ⟨te, hte⟩ : ∃ y, decOF r p = y := ⟨_, rfl⟩
        rw [hod, htr, hte] at DC STEP
        have DC1 := Lib.hid DC
        clear hod htr hte DC hlk
        go_wp2_with fail
        refine DC1.out.mono ?_
        rintro e w2 ⟨vc, rfl, hcs, hw2⟩
        have B2 := Lib.hid (HB.out.trans (hw2.mono HB.out.size))
        have R2 := Lib.hid (ROW.out.below (Nat.le_refl _) hw2)
        obtain ⟨ac, cc, rfl⟩ := hcs.1.shape
        have CS := Lib.hid hcs
        clear hcs hw2
        unfold opV
        by_cases he : te = 0
        · subst he
          have S2 := Lib.hid (show opsK p t (k + 1) = some (es.map (·.1) ++ [od], tr) from by rw [STEP.out, if_pos rfl])
          have SZ := B2.out.size
          clear STEP
          obtain ⟨i0, hi, hz0, hzz1, hz2⟩ := info_parts opinfo
          obtain ⟨A, hA⟩ : ∃ o, Obj.cells #[Value.int .i64 od.k, Value.int .i64 od.a, Value.int .i64 od.b, Value.slice ac od.cs.length cc, Value.bool od.df] 48 = o := ⟨_, rfl⟩
          have R3 := Lib.hid ((R2.out.below (Nat.le_refl _) (below1 w2 A)).below (Nat.le_refl _) (below1 _ A))
          have C3 := Lib.hid (cssTy_below (cssTy_below CS.out (Nat.le_refl _) (below1 w2 A)) (Nat.le_refl _) (below1 _ A))
          have B3 := Lib.hid ((B2.out.alloc B2.out.size A).alloc (by simp; omega) A)
          have SZ3 := B3.out.size
          subst hA
          go_wp2_with (at_builtin; refine wpList_append_own _ rfl _ _ 45 rfl w.heap.size 48 i0 _ 5 56 Try.underlying45 hi hz0 hzz1 hz2 rfl (by decide) _ _ _ rfl (show World.ownsRow _ _ _ _ _ _ _ from by have h := R3.out.row; rw [LK.out] at h; exact h) ⟨w2.heap.size + 1, 0, none⟩ 1 1 (opL (od, .slice ac od.cs.length cc)) rfl rfl ?c1 ?c2 ?c3 ?c4 ?c5 ?_)
          case c1 => exact fun i u hu => by have h := range_lit (w2.alloc (.cells (opL (od, .slice ac od.cs.length cc)).toArray 48)) (opL (od, .slice ac od.cs.length cc)) 48 i u hu; rw [World.size_alloc] at h; exact h
          case c2 => exact opL_one (w := w2) CS.out.1
          case c3 => unfold maxLen; omega
          case c4 => omega
          case c5 => exact SZ3
          intro v' w4 hown hgr _
          have B4 := Lib.hid (B3.out.grown hgr SZ3 (fun j hj => (R3.out.row.lt j (by rw [LK.out]; exact hj)).1))
          have R4 := Lib.hid (R3.out.app (x := (od, .slice ac od.cs.length cc)) C3.out (by rw [LK.out]; exact hown) (by rw [LK.out]; exact hgr))
          clear hown hgr
          go_wp2_with fail
          go_roundw
          case rel => exact ⟨k + 1, _, tr, by omega, by go_num, by rw [List.map_append]; exact S2.out, rfl, R4.out, B4.out⟩
          case measure => simp [intOf] <;> omega
        · have he' : (te == 0) = false := beq_eq_false_iff_ne.2 he
          have he2 : (te != 0) = true := by simpa using he
          have S2 := Lib.hid (show pk = none from by rw [PK2.out]; exact opsK_none (by rw [STEP.out, if_neg he]) n (show k + 1 ≤ n by omega))
          clear STEP he
          go_wp2_with fail
          go_ret3
          exact ⟨B2.out.alloc B2.out.size _, .inr ⟨S2.out, by first | rfl | trivial⟩⟩
      · have ekn : n = k := by omega
        subst ekn
        go_wp2_with fail
        go_ret3
        exact ⟨HB.out, .inl ⟨es, r, _, by rw [PK2.out]; exact HOK.out, rfl, by have := ROW.out; rw [LK.out] at this; exact this⟩⟩
  · have B1 := Lib.hid (show Below w.heap.size w w1 from (below1 _ _).trans (hB.mono (by simp)))
    have P2 := Lib.hid (show pk = none from by rw [← PK.out]; unfold progK; rw [show headK [32] b 1 = _ from hk])
    clear hk hB HD
    go_wp2_with fail
    go_ret3
    exact ⟨B1.out, .inr ⟨P2.out, rfl⟩⟩
end Go.Proofs.Ytpefjcmaggimhaa
namespace Go.Proofs.Ytpefjcmaggimhaa
open Go.RowKit
set_option linter.unusedVariables false
set_option linter.unusedSimpArgs false
set_option maxRecDepth 100000

theorem progK_facts {p : Int} {b : List UInt8} {l : List Opn} {t : List UInt8} (h : progK p b = some (l, t)) : l.length ≤ 32 ∧ t.length ≤ b.length := by
  unfold progK at h
  cases hk : headK [32] b 1 with
  | none => rw [hk] at h; cases h
  | some x =>
    obtain ⟨l0, r0⟩ := x
    rw [hk] at h
    simp only at h
    obtain ⟨rfl, rfl, -, hx⟩ := head1 hk
    obtain ⟨h1, h2⟩ := opsK_facts h
    have hx0 := takV_bd b
    rw [show [takV b].getD 0 0 = takV b from rfl] at h1
    have := takR_len b
    exact ⟨by omega, by omega⟩
def prsK (p : Int) (r : List UInt8) : Nat → Option (List (List Opn) × List UInt8)
  | 0 => some ([], r)
  | k + 1 => match prsK p r k with
    | none => none
    | some (l, t) => match progK p t with
      | none => none
      | some (o, t') => some (l ++ [o], t')
theorem prsK_none {p : Int} {r : List UInt8} {k : Nat} (h : prsK p r k = none) : ∀ n, k ≤ n → prsK p r n = none := by
  intro n hn
  induction n with
  | zero => have : k = 0 := by omega
            subst this; exact h
  | succ n ih =>
    by_cases hk : k = n + 1
    · subst hk; exact h
    · simp only [prsK, ih (by omega)]
theorem prsK_facts {p : Int} {r : List UInt8} : ∀ {k : Nat} {l : List (List Opn)} {t : List UInt8}, prsK p r k = some (l, t) → l.length = k ∧ t.length ≤ r.length ∧ ∀ o ∈ l, o.length ≤ 32
  | 0, l, t, h => by simp [prsK] at h; obtain ⟨rfl, rfl⟩ := h; simp
  | k + 1, l, t, h => by
    simp only [prsK] at h
    cases hk : prsK p r k with
    | none => rw [hk] at h; cases h
    | some x =>
      obtain ⟨l0, r0⟩ := x
      rw [hk] at h
      simp only at h
      obtain ⟨h1, h2, h3⟩ := prsK_facts hk
      cases hp : progK p r0 with
      | none => rw [hp] at h; cases h
      | some y =>
        obtain ⟨o, t'⟩ := y
        rw [hp] at h
        simp only at h
        obtain ⟨h4, h5⟩ := progK_facts hp
        injection h with h
        injection h with e1 e2
        subst e1; subst e2
        refine ⟨by simp [h1], by omega, fun q hq => ?_⟩
        rcases List.mem_append.1 hq with hq | hq
        · exact h3 q hq
        · rw [List.mem_singleton.1 hq]; exact h4
theorem tlist_facts : ∀ {n : Nat} {s : List UInt8} {l : List Int} {r : List UInt8}, tlist n s = some (l, r) → l.length = n ∧ r.length ≤ s.length ∧ ∀ x ∈ l, 0 ≤ x ∧ x ≤ 1099511627776
  | 0, s, l, r, h => by simp [tlist] at h; obtain ⟨rfl, rfl⟩ := h; simp
  | n + 1, s, l, r, h => by
    simp only [tlist] at h
    cases ht : tak s with
    | none => rw [ht] at h; cases h
    | some y =>
      obtain ⟨x, z⟩ := y
      rw [ht] at h
      simp only at h
      have hv := takV_bd s
      rw [(takV_eq ht).1] at hv
      cases hl : tlist n (s.drop z) with
      | none => rw [hl] at h; cases h
      | some q =>
        obtain ⟨l0, r0⟩ := q
        rw [hl] at h
        simp only at h
        obtain ⟨h1, h2, h3⟩ := tlist_facts hl
        rw [List.length_drop] at h2
        injection h with h
        injection h with e1 e2
        subst e1; subst e2
        refine ⟨by simp [h1], by omega, fun q hq => ?_⟩
        rcases List.mem_cons.1 hq with rfl | hq
        · exact hv
        · exact h3 q hq
theorem takeL_facts (s : List UInt8) (most : Int) (hm : 0 ≤ most) : ((takeL s most).1.length : Int) ≤ most ∧ (takeL s most).2.1.length ≤ s.length ∧ ∀ x ∈ (takeL s most).1, 0 ≤ x ∧ x ≤ 1099511627776 := by
  cases ht : tak s with
  | none => rw [takeL_none ht]; exact ⟨by simpa using hm, by simp, by simp⟩
  | some y =>
    obtain ⟨c, z⟩ := y
    by_cases h2 : most < (c : Int)
    · rw [takeL_long ht h2]; exact ⟨by simpa using hm, by simp, by simp⟩
    · cases h3 : tlist c (s.drop z) with
      | none => rw [takeL_bad ht h2 h3]; exact ⟨by simpa using hm, by simp, by simp⟩
      | some q =>
        obtain ⟨l, r⟩ := q
        rw [takeL_ok ht h2 h3]
        obtain ⟨h4, h5, h6⟩ := tlist_facts h3
        rw [List.length_drop] at h5
        exact ⟨by show (l.length : Int) ≤ most; omega, by show r.length ≤ s.length; omega, h6⟩
def zeroScr : Scr := ⟨0, 0, [], [], []⟩
/-- The script in hand when all has been taken, and the errors. -/
def endS (t m : Int) (ps : List (List Opn)) (r : List UInt8) : Scr := ⟨t, m, ps, (takeL r 200).1.map decI, (takeL (takeL r 200).2.1 64).1⟩
def endOk (t m : Int) (ps : List (List Opn)) (r : List UInt8) : Bool :=
  decide ((takeL r 200).2.2 = 0) && (decide ((takeL (takeL r 200).2.1 64).2.2 = 0) && (decide ((takeL (takeL r 200).2.1 64).2.1 = []) && decide (chkS (endS t m ps r) = 0)))
def endX (t m : Int) (ps : List (List Opn)) (r : List UInt8) : Option Scr := if endOk t m ps r then some (endS t m ps r) else none
def decX (b : List UInt8) : Option Scr := match headK [256, 1048576, 8] b 3 with
  | none => none
  | some (l, r) => match prsK (l.getD 2 0) r (l.getD 2 0).toNat with
    | none => none
    | some (ps, r') => endX (l.getD 0 0) (l.getD 1 0) ps r'
def optS (x : Option Scr) : Scr := match x with | some s => s | none => zeroScr
def optF (x : Option Scr) : Int := match x with | some _ => 0 | none => 4
theorem head3 {a b' c : Int} {b : List UInt8} {l : List Int} {r : List UInt8} (h : headK [a, b', c] b 3 = some (l, r)) :
    l = [takV b, takV (takR b), takV (takR (takR b))] ∧ r = takR (takR (takR b)) ∧ (takE b = 0 ∧ takE (takR b) = 0 ∧ takE (takR (takR b)) = 0) ∧ takV b ≤ a ∧ takV (takR b) ≤ b' ∧ takV (takR (takR b)) ≤ c := by
  simp only [headK] at h
  by_cases h1 : takE b = 0 ∧ takV b ≤ ([a, b', c] : List Int).getD 0 0
  · rw [if_pos h1] at h
    simp only at h
    by_cases h2 : takE (takR b) = 0 ∧ takV (takR b) ≤ ([a, b', c] : List Int).getD 1 0
    · rw [if_pos h2] at h
      simp only at h
      by_cases h3 : takE (takR (takR b)) = 0 ∧ takV (takR (takR b)) ≤ ([a, b', c] : List Int).getD 2 0
      · rw [if_pos h3] at h
        injection h with h
        injection h with e1 e2
        exact ⟨by rw [← e1]; rfl, e2.symm, ⟨h1.1, h2.1, h3.1⟩, h1.2, h2.2, h3.2⟩
      · rw [if_neg h3] at h; cases h
    · rw [if_neg h2] at h; cases h
  · rw [if_neg h1] at h; cases h

/-! ### Rows of programs -/
theorem owns_low {w : World} {base base' : Nat} {e : TypeId} {k : Nat} {v : Value} {n : Nat} {xs : List Value} (h : w.ownsRow base e k v n xs) (hb : base' ≤ base) : w.ownsRow base' e k v n xs := by
  obtain ⟨h1, h2⟩ := h
  refine ⟨h1, ?_⟩
  rcases h2 with h2 | ⟨g, cap, cur, a1, a2, a3⟩
  · exact .inl h2
  · exact .inr ⟨g, cap, cur, a1, by omega, a3⟩
theorem OpRow.low {base base' : Nat} {w : World} {v : Value} {es : List (Opn × Value)} (h : OpRow base w v es) (hb : base' ≤ base) : OpRow base' w v es := ⟨owns_low h.row hb, h.cs⟩
abbrev Pr := List (Opn × Value) × Value
def Pr.ops (q : Pr) : List Opn := q.1.map (·.1)
structure PrRow (base : Nat) (w : World) (v : Value) (qs : List Pr) : Prop where
  row : w.ownsRow base 45 1 v qs.length (qs.map (·.2))
  pr : ∀ q ∈ qs, OpRow 0 w q.2 q.1
theorem PrRow.below {base : Nat} {w w' : World} {v : Value} {qs : List Pr} (h : PrRow base w v qs) {n : Nat} (hn : w.heap.size ≤ n) (hB : Below n w w') : PrRow base w' v qs :=
  ⟨h.row.kept (below_none (hB.mono hn)) (by cases v.ownBlock <;> simp), fun q hq => (h.pr q hq).below hn hB⟩
theorem PrRow.keep {base : Nat} {w w' : World} {v : Value} {qs : List Pr} (h : PrRow base w v qs) {o : Option Nat} (hg : w.grownBy w' o) (ho : OthB w o [50, 48, 45]) : PrRow base w' v qs := by
  refine ⟨h.row.kept hg ?_, fun q hq => (h.pr q hq).keep hg ho (by simp) (by simp)⟩
  rcases h.row.2 with ⟨rfl, _⟩ | ⟨g', cap, cur, rfl, _, hb, _⟩
  · exact .inl rfl
  · exact .inr (ho.ne (by simp) hb)
theorem PrRow.nil (base : Nat) (w : World) : PrRow base w (.slice none 0 0) [] := ⟨World.ownsRow_nil _ _ _ _, fun q hq => by simp at hq⟩
theorem PrRow.prs {base : Nat} {w : World} {v : Value} {qs : List Pr} (h : PrRow base w v qs) : PrsOf w v (qs.map Pr.ops) := by
  rcases h.row.2 with ⟨rfl, h0⟩ | ⟨g, cap, cur, rfl, hbg, hg, hnc, hcm, hcs, htake⟩
  · exact ⟨none, 0, by rw [List.length_map, h0], fun hp => by rw [List.length_map] at hp; omega⟩
  · refine ⟨some ⟨g, 0, none⟩, cap, by rw [List.length_map], fun _ => ⟨g, 0, rfl, fun i hi => ?_⟩⟩
    rw [List.length_map] at hi
    refine ⟨qs[i].2, ?_, ?_⟩
    · have := h.row.cells (g := g) rfl i qs[i].2 (by simp [hi])
      rw [add_mid'] at this
      exact this
    · rw [show (qs.map Pr.ops).getD i [] = Pr.ops qs[i] by simp [List.getD, hi]]
      exact (h.pr _ (List.getElem_mem hi)).ops
theorem PrRow.app {base : Nat} {w w' : World} {v v' : Value} {qs : List Pr} {x : Pr} (h : PrRow base w v qs) (hx : OpRow 0 w x.2 x.1) (hr : w'.ownsRow base 45 1 v' (qs.length + 1) (qs.map (·.2) ++ [x.2])) (hg : w.grownBy w' v.ownBlock) : PrRow base w' v' (qs ++ [x]) := by
  have ho : OthB w v.ownBlock [50, 48] := othB_row h.row (by decide)
  refine ⟨by rw [List.length_append, List.length_singleton, List.map_append]; exact hr, fun q hq => ?_⟩
  rcases List.mem_append.1 hq with hq | hq
  · exact (h.pr q hq).keep hg ho (by simp) (by simp)
  · rw [List.mem_singleton.1 hq]; exact hx.keep hg ho (by simp) (by simp)

/-! ### Where Decode stands -/
structure DsSt (n3 : Value) (t m n : Int) (SB : Nat) (v : Value) (qs : List Pr) (w0 w : World) : Prop where
  res : w.heap[w0.heap.size]? = some (.cells (scrC (.slice none 0 0) (.slice none 0 0) (.slice none 0 0) zeroScr) 25 (0, 0))
  sb : w.heap[SB]? = some (.cells (scrC v (.slice none 0 0) (.slice none 0 0) ⟨t, m, [], [], []⟩) 25 (0, 0))
  nn : w.ownsRow (w0.heap.size + 1) 3 1 n3 3 (ints [t, m, n])
  row : PrRow (w0.heap.size + 1) w v qs
  bel : Below w0.heap.size w0 w
  low : w0.heap.size < SB
theorem DsSt.below {n3 : Value} {t m n : Int} {SB : Nat} {v : Value} {qs : List Pr} {w0 w w' : World} (h : DsSt n3 t m n SB v qs w0 w) (hB : Below w.heap.size w w') : DsSt n3 t m n SB v qs w0 w' :=
  ⟨(hB.block _ (lt_of_heap h.res)).trans h.res, (hB.block _ (lt_of_heap h.sb)).trans h.sb, h.nn.kept (below_none hB) (by cases n3.ownBlock <;> simp), h.row.below (Nat.le_refl _) hB, h.bel.trans (hB.mono h.bel.size), h.low⟩
theorem othB_cell {w : World} {k : Nat} {cur : Array Value} {t : TypeId} {f : Nat × Nat} (h : w.heap[k]? = some (.cells cur t f)) {ts : List TypeId} (ht : t ∉ ts) : OthB w (some k) ts := fun g hg => by
  have := Option.some.inj hg
  subst this
  exact ⟨cur, t, f, ht, h⟩
/-- A program is appended, and the slice stored. -/
theorem DsSt.app {n3 : Value} {t m n : Int} {SB : Nat} {v v' : Value} {qs : List Pr} {x : Pr} {w0 w w' : World} (h : DsSt n3 t m n SB v qs w0 w) (hx : OpRow 0 w x.2 x.1) (hr : w'.ownsRow (w0.heap.size + 1) 45 1 v' (qs.length + 1) (qs.map (·.2) ++ [x.2])) (hg : w.grownBy w' v.ownBlock) :
    w'.heap[SB]? = some (.cells (scrC v (.slice none 0 0) (.slice none 0 0) ⟨t, m, [], [], []⟩) 25 (0, 0)) ∧ DsSt n3 t m n SB v' (qs ++ [x]) w0 (w'.setCell ⟨SB, 2, none⟩ v') := by
  have o1 : OthB w v.ownBlock [25, 3] := othB_row h.row.row (by decide)
  have e1 := (hg.block _ (lt_of_heap h.res) (o1.ne (by simp) h.res)).trans h.res
  have e2 := (hg.block _ (lt_of_heap h.sb) (o1.ne (by simp) h.sb)).trans h.sb
  have hn : n3.ownBlock = none ∨ n3.ownBlock ≠ v.ownBlock := by
    rcases h.nn.2 with ⟨rfl, _⟩ | ⟨g', cap, cur, rfl, _, hb, _⟩
    · exact .inl rfl
    · exact .inr (o1.ne (by simp) hb)
  have e3 := h.nn.kept hg hn
  have e4 := h.row.app hx hr hg
  have e5 : Below w0.heap.size w0 w' := h.bel.grown hg h.bel.size (fun k hk => by have := (h.row.row.lt k hk).1; omega)
  have o2 : OthB w' (some SB) [50, 48, 45] := othB_cell e2 (by decide)
  have o3 : OthB w' (some SB) [3] := othB_cell e2 (by decide)
  have g2 : w'.grownBy (w'.setCell ⟨SB, 2, none⟩ v') (some SB) := gr_set _ _ _
  have low := h.low
  refine ⟨e2, ⟨(heap_setCell_other _ _ _ _ (by show w0.heap.size ≠ SB; omega)).trans e1, by rw [heap_setCell_same _ _ _ _ _ _ e2]; rfl, e3.kept g2 ?_, e4.keep g2 o2, e5.setCell (by show w0.heap.size ≤ SB; omega) _, low⟩⟩
  rcases e3.2 with ⟨rfl, _⟩ | ⟨g', cap, cur, rfl, _, hb, _⟩
  · exact .inl rfl
  · exact .inr (o3.ne (by simp) hb)
theorem prsK_ok {p : Int} {r : List UInt8} {k : Nat} {l : List (List Opn)} {t : List UInt8} {o : List Opn} {t' : List UInt8} (h : prsK p r k = some (l, t)) (hp : progK p t = some (o, t')) : prsK p r (k + 1) = some (l ++ [o], t') := by simp only [prsK, h, hp]
theorem prsK_no {p : Int} {r : List UInt8} {k : Nat} {l : List (List Opn)} {t : List UInt8} (h : prsK p r k = some (l, t)) (hp : progK p t = none) : prsK p r (k + 1) = none := by simp only [prsK, h, hp]
theorem own_keep {w w' : World} {base : Nat} {t : TypeId} {k : Nat} {v : Value} {n : Nat} {xs : List Value} (h : w.ownsRow base t k v n xs) {o : Option Nat} (hg : w.grownBy w' o) {ts : List TypeId} (ho : OthB w o ts) (ht : t ∈ ts) : w'.ownsRow base t k v n xs := by
  refine h.kept hg ?_
  rcases h.2 with ⟨rfl, _⟩ | ⟨g', cap, cur, rfl, _, hb, _⟩
  · exact .inl rfl
  · exact .inr (ho.ne ht hb)
structure DsFin (SB : Nat) (v vl vd : Value) (qs : List Pr) (s : Scr) (w0 w : World) : Prop where
  res : w.heap[w0.heap.size]? = some (.cells (scrC (.slice none 0 0) (.slice none 0 0) (.slice none 0 0) zeroScr) 25 (0, 0))
  sb : w.heap[SB]? = some (.cells (scrC v vl vd s) 25 (0, 0))
  row : PrRow 0 w v qs
  eq : s.ps = qs.map Pr.ops
  l : w.ownsRow 0 3 1 vl s.pl.length (ints s.pl)
  d : w.ownsRow 0 3 1 vd s.dr.length (ints s.dr)
  bel : Below w0.heap.size w0 w
  low : w0.heap.size < SB
theorem DsFin.below {SB : Nat} {v vl vd : Value} {qs : List Pr} {s : Scr} {w0 w w' : World} (h : DsFin SB v vl vd qs s w0 w) (hB : Below w.heap.size w w') : DsFin SB v vl vd qs s w0 w' :=
  ⟨(hB.block _ (lt_of_heap h.res)).trans h.res, (hB.block _ (lt_of_heap h.sb)).trans h.sb, h.row.below (Nat.le_refl _) hB, h.eq, h.l.kept (below_none hB) (by cases vl.ownBlock <;> simp), h.d.kept (below_none hB) (by cases vd.ownBlock <;> simp), h.bel.trans (hB.mono h.bel.size), h.low⟩
theorem DsFin.scr {SB : Nat} {v vl vd : Value} {qs : List Pr} {s : Scr} {w0 w V : World} (h : DsFin SB v vl vd qs s w0 w) {B : Nat} {cur : Array Value} {f : Nat × Nat} (hb : w.heap[B]? = some (.cells cur 25 f)) (hg : w.grownBy V (some B)) : ScrAt V v vl vd s := by
  have o1 : OthB w (some B) [50, 48, 45] := othB_cell hb (by decide)
  have o2 : OthB w (some B) [3] := othB_cell hb (by decide)
  exact ⟨by rw [h.eq]; exact (h.row.keep hg o1).prs, SlI.of_owns (own_keep h.l hg o2 (by simp)), SlI.of_owns (own_keep h.d hg o2 (by simp))⟩
theorem DsFin.now {SB : Nat} {v vl vd : Value} {qs : List Pr} {s : Scr} {w0 w : World} (h : DsFin SB v vl vd qs s w0 w) : ScrAt w v vl vd s := h.scr h.sb (gr_refl _ _)
theorem PrRow.low {base base' : Nat} {w : World} {v : Value} {qs : List Pr} (h : PrRow base w v qs) (hb : base' ≤ base) : PrRow base' w v qs := ⟨owns_low h.row hb, h.pr⟩
theorem DsSt.fin {n3 : Value} {t m n : Int} {SB : Nat} {v : Value} {qs : List Pr} {w0 w : World} (h : DsSt n3 t m n SB v qs w0 w) {b1 b2 : Nat} {vl vd : Value} {pl dr : List Int} (hl : w.ownsRow b1 3 1 vl pl.length (ints pl)) (hd : w.ownsRow b2 3 1 vd dr.length (ints dr)) :
    DsFin SB v vl vd qs ⟨t, m, qs.map Pr.ops, pl, dr⟩ w0 ((w.setCell ⟨SB, 3, none⟩ vl).setCell ⟨SB, 4, none⟩ vd) := by
  have hg : w.grownBy ((w.setCell ⟨SB, 3, none⟩ vl).setCell ⟨SB, 4, none⟩ vd) (some SB) := (gr_set w ⟨SB, 3, none⟩ _).trans (gr_set _ ⟨SB, 4, none⟩ _)
  have o1 : OthB w (some SB) [50, 48, 45] := othB_cell h.sb (by decide)
  have o2 : OthB w (some SB) [3] := othB_cell h.sb (by decide)
  have low := h.low
  refine ⟨(hg.block _ (lt_of_heap h.res) (by intro e; have := Option.some.inj e; omega)).trans h.res, ?_, (h.row.low (Nat.zero_le _)).keep hg o1, rfl, own_keep (owns_low hl (Nat.zero_le _)) hg o2 (by simp), own_keep (owns_low hd (Nat.zero_le _)) hg o2 (by simp), (h.bel.setCell (by show w0.heap.size ≤ SB; omega) _).setCell (by show w0.heap.size ≤ SB; omega) _, low⟩
  have h3 := heap_setCell_same _ _ 3 _ _ vl h.sb
  have h4 := heap_setCell_same _ _ 4 _ _ vd h3
  rw [h4]
  rfl
/-- The sizes of what has been taken. -/
theorem scrN_of {t m : Int} {ps : List (List Opn)} {pl dr : List Int} (hp : ps.length ≤ 8) (ho : ∀ o ∈ ps, o.length ≤ 32) (hl : pl.length ≤ 1000000) (hd : dr.length ≤ 1000000) : ScrN ⟨t, m, ps, pl, dr⟩ :=
  ⟨by show ps.length ≤ _; omega, hl, hd, fun k hk => by have := ho _ (getD_mem (ps := ps) hk); show (ps.getD k []).length ≤ _; omega⟩
end Go.Proofs.Ytpefjcmaggimhaa

