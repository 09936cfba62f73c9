
/-
  Logs: events, stamps, records; whose record is where.
-/
import Derived.Test.YtpmkfhfojmlalaaRef1
import Derived.Test.YtpmkfhfojmlalaaStructs
import Derived.Test.YtpmkfhfojmlalaaSrc
import Derived.Shelf.Abstract
import Derived.Deep.MidRow
namespace Go.Proofs.Ytpmkfhfojmlalaa
open Go.RowKit
set_option linter.unusedVariables false
set_option linter.unusedSimpArgs false
set_option maxRecDepth 100000

structure Rec where
  g : Int
  tid : Int
  frm : Int
  gone : Bool
  till : Int
  cut : Int
instance : Inhabited Rec := ⟨⟨0, 0, 0, false, 0, 0⟩⟩
abbrev Rec.val (r : Rec) : Value := .agg #[.int .i64 r.g, .int .i64 r.tid, .int .i64 r.frm, .bool r.gone, .int .i64 r.till, .int .i64 r.cut]

/-- These cells are this record. -/
structure RecAt (w : World) (b o : Nat) (r : Rec) : Prop where
  c0 : w.cell? ⟨b, o, none⟩ = some (.int .i64 r.g)
  c1 : w.cell? ⟨b, o + 1, none⟩ = some (.int .i64 r.tid)
  c2 : w.cell? ⟨b, o + 2, none⟩ = some (.int .i64 r.frm)
  c3 : w.cell? ⟨b, o + 3, none⟩ = some (.bool r.gone)
  c4 : w.cell? ⟨b, o + 4, none⟩ = some (.int .i64 r.till)
  c5 : w.cell? ⟨b, o + 5, none⟩ = some (.int .i64 r.cut)
theorem RecAt.below {w w' : World} {b o : Nat} {r : Rec} (h : RecAt w b o r) {n : Nat} (hn : w.heap.size ≤ n) (hB : Below n w w') : RecAt w' b o r := by
  have hb : b < n := Nat.lt_of_lt_of_le (block_lt_of_cell h.c0) hn
  obtain ⟨c0, c1, c2, c3, c4, c5⟩ := h
  have e : ∀ o, w'.cell? ⟨b, o, none⟩ = w.cell? ⟨b, o, none⟩ := fun o => hB.cell (p := ⟨b, o, none⟩) hb
  exact ⟨(e _).trans c0, (e _).trans c1, (e _).trans c2, (e _).trans c3, (e _).trans c4, (e _).trans c5⟩

/-- A slice of records. -/
def RecsOf (w : World) (v : Value) (rs : List Rec) : Prop :=
  ∃ ao cap, v = .slice ao rs.length cap ∧ (0 < rs.length → ∃ b o, ao = some ⟨b, o, none⟩ ∧ ∀ i, i < rs.length → RecAt w b (o + i * 6) (rs.getD i default))
theorem RecsOf.below {w w' : World} {v : Value} {rs : List Rec} (h : RecsOf w v rs) {n : Nat} (hn : w.heap.size ≤ n) (hB : Below n w w') : RecsOf w' v rs := by
  obtain ⟨ao, cap, rfl, hc⟩ := h
  refine ⟨ao, cap, rfl, fun hp => ?_⟩
  obtain ⟨b, o, rfl, hd⟩ := hc hp
  exact ⟨b, o, rfl, fun i hi => (hd i hi).below hn hB⟩

/-- Where a goroutine's first record stands. -/
def recAt (rs : List Rec) (g : Int) : Option Nat := rs.findIdx? (fun r => r.g == g)
theorem recAt_none {rs : List Rec} {g : Int} (h : ∀ j, j < rs.length → (rs.getD j default).g ≠ g) : recAt rs g = none := by
  unfold recAt
  rw [List.findIdx?_eq_none_iff]
  intro x hx
  obtain ⟨j, hj, rfl⟩ := List.getElem_of_mem hx
  have := h j hj
  simpa [List.getD, hj] using this
theorem recAt_some {rs : List Rec} {g : Int} {k : Nat} (hk : k < rs.length) (hg : (rs.getD k default).g = g) (h : ∀ j, j < k → (rs.getD j default).g ≠ g) : recAt rs g = some k := by
  unfold recAt
  rw [List.findIdx?_eq_some_iff_getElem]
  refine ⟨hk, by simpa [List.getD, hk] using hg, fun j hj => ?_⟩
  have hj' : j < rs.length := Nat.lt_trans hj hk
  have := h j hj
  simpa [List.getD, hj'] using this
theorem recAt_lt {rs : List Rec} {g : Int} {k : Nat} (h : recAt rs g = some k) : k < rs.length ∧ (rs.getD k default).g = g := by
  unfold recAt at h
  rw [List.findIdx?_eq_some_iff_getElem] at h
  obtain ⟨hk, hg, _⟩ := h
  exact ⟨hk, by simpa [List.getD, hk] using hg⟩
/-- .. as a number; -1: there is none. -/
def recI (rs : List Rec) (g : Int) : Int := match recAt rs g with | none => -1 | some k => k

theorem same_g (r : Rec) (p : Nat) (g : Int) (w : World) (hg : w.cell? ⟨p, 0, none⟩ = some (.int .i64 g)) :
    Calls Try.prog 24 #[r.val, .pointer (some ⟨p, 0, none⟩)] w fun e w' => e = .returned (.bool (r.g == g)) ∧ Below w.heap.size w w' := by
  obtain ⟨W, hW⟩ : ∃ W, w.alloc (.cells #[.int .i64 r.g, .int .i64 r.tid, .int .i64 r.frm, .bool r.gone, .int .i64 r.till, .int .i64 r.cut] 45) = W := ⟨_, rfl⟩
  have hB : Below w.heap.size w W := by rw [← hW]; exact (Below.refl _ _).alloc (Nat.le_refl _) _
  have hg' : W.cell? ⟨p, 0, none⟩ = some (.int .i64 g) := by rw [hB.cell (p := ⟨p, 0, none⟩) (block_lt_of_cell hg)]; exact hg
  have BB := Lib.hid hB
  have hc : W.cell? ⟨w.heap.size, 0, none⟩ = some (.int .i64 r.g) := by rw [← hW]; simp only [World.cell?, heap_alloc_new]; rfl
  clear hB
  go_enter Try.func24, Try.ntmps24
  go_wp2_with fail
  go_ret
  exact ⟨rfl, BB.out⟩

theorem same_enters (args : Array Value) (w : World) : (callFunc 24 args).run Try.prog w = .ok (.enter 24 args) w :=
  Go.Proofs.enters_of Try.func24 (by kernel_rfl) (show (Try.f24).body = some _ from rfl) args w

theorem index_rec (v : Value) (rs : List Rec) (p : Nat) (g : Int) (w : World) (h : RecsOf w v rs) (hg : w.cell? ⟨p, 0, none⟩ = some (.int .i64 g)) (hn : rs.length ≤ 1000) :
    Calls Try.prog 23 #[v, .func (.func 24) #[] #[.pointer (some ⟨p, 0, none⟩)]] w fun r w' => r = .returned (.int .i64 (recI rs g)) ∧ Below w.heap.size w w' := by
  obtain ⟨ao, cap, rfl, hc⟩ := h
  have he := same_enters
  have HC := Lib.hid hc
  have HG := Lib.hid hg
  clear hc hg
  go_enter Try.func23, Try.ntmps23
  go_wp2_with fail
  go_loopw [8] (fun i wr => ∃ k : Nat, k ≤ rs.length ∧ i = .int .i64 k ∧ (∀ j, j < k → (rs.getD j default).g ≠ g) ∧ Below w.heap.size w wr) (fun i _ => rs.length - (intOf i).toNat)
  case atStart => exact ⟨0, by omega, rfl, fun j hj => by omega, Below.refl _ _⟩
  case round =>
    obtain ⟨k, hk, rfl, hp, hB⟩ := hrel
    have P := Lib.hid hp
    have BB := Lib.hid hB
    clear hp
    by_cases hlt : k < rs.length
    · have hlt' : (k : Int) < rs.length := by omega
      obtain ⟨b, o, rfl, hcc⟩ := HC.out (by omega)
      obtain ⟨c0, c1, c2, c3, c4, c5⟩ := (hcc k hlt).below (Nat.le_refl _) hB
      have hg' : wr.cell? ⟨p, 0, none⟩ = some (.int .i64 g) := by rw [hB.cell (p := ⟨p, 0, none⟩) (block_lt_of_cell HG.out)]; exact HG.out
      have HG' := Lib.hid hg'
      obtain ⟨r, hr⟩ : ∃ r, rs.getD k default = r := ⟨_, rfl⟩
      rw [hr] at c0 c1 c2 c3 c4 c5
      have R := Lib.hid hr
      clear hcc hr hB hg'
      go_wp2_with fail
      refine (same_g r p g wr HG'.out).mono ?_
      rintro e w2 ⟨rfl, hB2⟩
      have B2 := Lib.hid (below_trans BB.out hB2 BB.out.size)
      clear hB2 c0 c1 c2 c3 c4 c5
      by_cases hrg : r.g = g
      · have hq : (r.g == g) = true := by simpa using hrg
        have S := Lib.hid (show recI rs g = k by unfold recI; rw [recAt_some hlt (by rw [R.out]; exact hrg) P.out])
        rw [hq]
        clear hq hrg
        go_wp2_with fail
        go_ret
        exact ⟨by rw [S.out]; rfl, B2.out⟩
      · have hq : (r.g == g) = false := by simpa using hrg
        have S := Lib.hid (show ∀ j, j < k + 1 → (rs.getD j default).g ≠ g from fun j hj => by
          by_cases hjk : j = k
          · subst hjk; rw [R.out]; exact hrg
          · exact P.out j (by omega))
        rw [hq]
        clear hq hrg
        go_wp2_with fail
        go_roundw
        case rel => exact ⟨k + 1, by omega, by go_num, S.out, B2.out⟩
        case measure => simp [intOf] <;> omega
    · have hge : (rs.length : Int) ≤ k := by omega
      have S := Lib.hid (show recI rs g = -1 by unfold recI; rw [recAt_none (fun j hj => P.out j (by omega))])
      clear hlt hB
      go_wp2_with fail
      go_ret
      exact ⟨by rw [S.out]; rfl, BB.out⟩

/-- A goroutine's record. -/
def recOut (rs : List Rec) (g : Int) : Rec × Bool := match recAt rs g with | none => (default, false) | some k => (rs.getD k default, true)

theorem results_cell_tmp {P : Program} {fn : Func} {t u : Tmp} {ty : TypeId} (h : fn.results = #[.cell t ty, .tmp u]) (tmps : Array Value) (w : World) (ad : Addr) (v : Value) (ht : tmps.getD t undef = .pointer (some ad)) (hl : (loadVar ty ad).run P w = .ok v w) :
    (results fn tmps).run P w = .ok (.tuple #[v, tmps.getD u undef]) w := by
  have ht' : tmps[t]?.getD undef = .pointer (some ad) := by simpa using ht
  simp [results, h, ht', asAddr, hl]

theorem heap_push (w : World) (o : Obj) {n : Nat} (h : w.heap.size = n) : (w.alloc o).heap[n]? = some o := by subst h; exact heap_alloc_new w o

theorem six_set {w : World} {p : Nat} {t : TypeId} {a0 a1 a2 a3 a4 a5 : Value} (u0 u1 u2 u3 u4 u5 : Value) (h : w.heap[p]? = some (Obj.cells #[a0, a1, a2, a3, a4, a5] t (0, 0))) :
    ((((((w.setCell ⟨p, 0, none⟩ u0).setCell ⟨p, 1, none⟩ u1).setCell ⟨p, 2, none⟩ u2).setCell ⟨p, 3, none⟩ u3).setCell ⟨p, 4, none⟩ u4).setCell ⟨p, 5, none⟩ u5).heap[p]? = some (Obj.cells #[u0, u1, u2, u3, u4, u5] t (0, 0)) := by
  have h0 : (w.setCell ⟨p, 0, none⟩ u0).heap[p]? = _ := heap_setCell_same w p 0 _ _ _ h
  have h1 : (World.setCell _ ⟨p, 1, none⟩ u1).heap[p]? = _ := heap_setCell_same _ p 1 _ _ _ h0
  have h2 : (World.setCell _ ⟨p, 2, none⟩ u2).heap[p]? = _ := heap_setCell_same _ p 2 _ _ _ h1
  have h3 : (World.setCell _ ⟨p, 3, none⟩ u3).heap[p]? = _ := heap_setCell_same _ p 3 _ _ _ h2
  have h4 : (World.setCell _ ⟨p, 4, none⟩ u4).heap[p]? = _ := heap_setCell_same _ p 4 _ _ _ h3
  exact heap_setCell_same _ p 5 _ _ _ h4
theorem six_below {B : Nat} {a w : World} {p : Nat} (u0 u1 u2 u3 u4 u5 : Value) (h : Below B a w) (hp : B ≤ p) :
    Below B a ((((((w.setCell ⟨p, 0, none⟩ u0).setCell ⟨p, 1, none⟩ u1).setCell ⟨p, 2, none⟩ u2).setCell ⟨p, 3, none⟩ u3).setCell ⟨p, 4, none⟩ u4).setCell ⟨p, 5, none⟩ u5) :=
  (((((h.setCell hp _).setCell hp _).setCell hp _).setCell hp _).setCell hp _).setCell hp _
theorem load_rec {w : World} {p : Nat} {t : TypeId} (r : Rec) (h : w.heap[p]? = some (Obj.cells #[.int .i64 r.g, .int .i64 r.tid, .int .i64 r.frm, .bool r.gone, .int .i64 r.till, .int .i64 r.cut] t (0, 0))) :
    (loadVar 45 ⟨p, 0, none⟩).run Try.prog w = .ok r.val w :=
  run_loadVar_mid (P := Try.prog) w p 0 45 [.int .i64 r.g, .int .i64 r.tid, .int .i64 r.frm, .bool r.gone, .int .i64 r.till, .int .i64 r.cut] _ (by
    intro j v hj
    simp only [World.cell?, h, Nat.zero_add]
    match j, hj with
    | 0, hj => simpa using hj
    | 1, hj => simpa using hj
    | 2, hj => simpa using hj
    | 3, hj => simpa using hj
    | 4, hj => simpa using hj
    | 5, hj => simpa using hj
    | j + 6, hj => simp at hj) Try.underlying45 rfl (by kernel_rfl)

theorem record_any (ve vs vr : Value) (rs : List Rec) (g : Int) (w : World) (h : RecsOf w vr rs) (hn : rs.length ≤ 1000) :
    Calls Try.prog 13 #[.agg #[ve, vs, vr], .int .i64 g] w fun r w' => r = .returned (.tuple #[(recOut rs g).1.val, .bool (recOut rs g).2]) ∧ Below w.heap.size w w' := by
  have HR := Lib.hid h
  obtain ⟨ao, cap, rfl, hc⟩ := h
  clear hc
  obtain ⟨W, hW⟩ : ∃ W, ((w.alloc (.cells #[ve, vs, .slice ao rs.length cap] 26)).alloc (.cells #[.int .i64 g] 3)).alloc (.cells #[.int .i64 0, .int .i64 0, .int .i64 0, .bool false, .int .i64 0, .int .i64 0] 45) = W := ⟨_, rfl⟩
  have B0 : Below w.heap.size w ((w.alloc (.cells #[ve, vs, .slice ao rs.length cap] 26)).alloc (.cells #[.int .i64 g] 3)) := ((Below.refl _ _).alloc (Nat.le_refl _) _).alloc (by rw [size_alloc]; omega) _
  have BW : Below w.heap.size w W := by rw [← hW]; exact B0.alloc (by rw [size_alloc, size_alloc]; omega) _
  have L0 : W.heap[w.heap.size]? = some (Obj.cells #[ve, vs, .slice ao rs.length cap] 26 (0, 0)) := by
    rw [← hW, heap_alloc_old _ _ (by rw [size_alloc, size_alloc]; omega), heap_alloc_old _ _ (by rw [size_alloc]; omega)]
    exact heap_alloc_new w _
  have L1 : W.heap[w.heap.size + 1]? = some (Obj.cells #[.int .i64 g] 3 (0, 0)) := by
    rw [← hW, heap_alloc_old _ _ (by rw [size_alloc, size_alloc]; omega)]
    exact heap_push _ _ (by rw [size_alloc])
  have L2 : W.heap[w.heap.size + 1 + 1]? = some (Obj.cells #[.int .i64 0, .int .i64 0, .int .i64 0, .bool false, .int .i64 0, .int .i64 0] 45 (0, 0)) := by
    rw [← hW]; exact heap_push _ _ (by rw [size_alloc, size_alloc])
  have HW := Lib.hid hW
  have HL0 := Lib.hid L0
  have HL2 := Lib.hid L2
  have hg : W.cell? ⟨w.heap.size + 1, 0, none⟩ = some (.int .i64 g) := by simp only [World.cell?, L1]; rfl
  have HG := Lib.hid hg
  have HBW := Lib.hid BW
  clear B0 BW L0 L1 L2 hg hW
  go_enter Try.func13, Try.ntmps13
  go_wp2_with fail
  rw [HW.out]
  refine (index_rec _ rs (w.heap.size + 1) g W (HR.out.below (Nat.le_refl _) HBW.out) HG.out hn).mono ?_
  rintro r w2 ⟨rfl, hB2⟩
  have l0 := (hB2.block _ (lt_of_heap HL0.out)).trans HL0.out
  have l2 := (hB2.block _ (lt_of_heap HL2.out)).trans HL2.out
  have B2 := below_trans HBW.out hB2 HBW.out.size
  have d2 : w2.cell? ⟨w.heap.size, 2, none⟩ = some (.slice ao rs.length cap) := by simp only [World.cell?, l0]; rfl
  have f0 : ∀ o, w2.frozen? ⟨w.heap.size + 1 + 1, o, none⟩ = false := fun o => by simp [World.frozen?, l2]
  have z0 : w2.cell? ⟨w.heap.size + 1 + 1, 0, none⟩ = some (.int .i64 0) := by simp only [World.cell?, l2]; rfl
  have z1 : w2.cell? ⟨w.heap.size + 1 + 1, 1, none⟩ = some (.int .i64 0) := by simp only [World.cell?, l2]; rfl
  have z2 : w2.cell? ⟨w.heap.size + 1 + 1, 2, none⟩ = some (.int .i64 0) := by simp only [World.cell?, l2]; rfl
  have z3 : w2.cell? ⟨w.heap.size + 1 + 1, 3, none⟩ = some (.bool false) := by simp only [World.cell?, l2]; rfl
  have z4 : w2.cell? ⟨w.heap.size + 1 + 1, 4, none⟩ = some (.int .i64 0) := by simp only [World.cell?, l2]; rfl
  have z5 : w2.cell? ⟨w.heap.size + 1 + 1, 5, none⟩ = some (.int .i64 0) := by simp only [World.cell?, l2]; rfl
  have HB2 := Lib.hid B2
  have RR := Lib.hid (HR.out.below (Nat.le_refl _) B2)
  clear l0 hB2 B2 HL0 HL2
  cases hk : recAt rs g with
  | none =>
    have e1 : recI rs g = -1 := by unfold recI; rw [hk]
    have e2 : recOut rs g = (default, false) := by unfold recOut; rw [hk]
    have E2 := Lib.hid e2
    rw [e1]
    clear hk e1 e2
    go_wp2_with fail
    refine bodyPost_ret (v := .tuple #[(default : Rec).val, .bool false]) (results_cell_tmp Try.results13 _ _ _ _ rfl (load_rec default (six_set _ _ _ _ _ _ l2))) rfl ⟨by rw [E2.out], six_below _ _ _ _ _ _ HB2.out (by omega)⟩
  | some k =>
    have e1 : recI rs g = k := by unfold recI; rw [hk]
    have e2 : recOut rs g = (rs.getD k default, true) := by unfold recOut; rw [hk]
    obtain ⟨hkl, _⟩ := recAt_lt hk
    have E2 := Lib.hid e2
    rw [e1]
    clear hk e1 e2
    obtain ⟨_, _, e, hc⟩ := RR.out
    cases e
    obtain ⟨b, o, rfl, hcc⟩ := hc (by omega)
    obtain ⟨c0, c1, c2, c3, c4, c5⟩ := hcc k hkl
    have hkl' : (k : Int) < rs.length := by omega
    obtain ⟨r, hr⟩ : ∃ r, rs.getD k default = r := ⟨_, rfl⟩
    rw [hr] at c0 c1 c2 c3 c4 c5 E2
    clear hcc hr
    go_wp2_with fail
    refine bodyPost_ret (v := .tuple #[r.val, .bool true]) (results_cell_tmp Try.results13 _ _ _ _ rfl (load_rec r (six_set _ _ _ _ _ _ l2))) rfl ⟨by rw [E2.out], six_below _ _ _ _ _ _ HB2.out (by omega)⟩

end Go.Proofs.Ytpmkfhfojmlalaa

