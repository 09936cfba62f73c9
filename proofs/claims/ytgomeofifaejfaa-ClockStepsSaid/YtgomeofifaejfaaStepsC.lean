
/-
  ClockSteps: the walk's state, and what is asked of the three clocks behind each step.
-/
import Derived.Test.YtgomeofifaejfaaStepsB
import Derived.Deep.MidRow
namespace Go.Proofs.Ytgomeofifaejfaa
open Go.RowKit
set_option linter.unusedVariables false
set_option linter.unusedSimpArgs false
set_option maxRecDepth 100000

theorem step_cells {w : World} {p : Nat} {t : TypeId} {a0 a1 a2 a3 a4 : Value} (h : w.heap[p]? = some (Obj.cells #[a0, a1, a2, a3, a4] t (0, 0))) :
    w.cell? ⟨p, 0, none⟩ = some a0 ∧ w.cell? ⟨p, 1, none⟩ = some a1 ∧ w.cell? ⟨p, 2, none⟩ = some a2 ∧ w.cell? ⟨p, 3, none⟩ = some a3 ∧ w.cell? ⟨p, 4, none⟩ = some a4 := by
  refine ⟨?_, ?_, ?_, ?_, ?_⟩ <;> (simp only [World.cell?, h]; rfl)
theorem PH.cell {B g : Nat} {w : World} {bs : Nat → Nat} {ns : Nat → List Int} (h : PH B g w bs ns) (i : Nat) (hi : i < 3) : w.cell? ⟨g, i, none⟩ = some (.pointer (some ⟨bs i, 0, none⟩)) := by
  simp only [World.cell?, h.ptr]
  match i, hi with
  | 0, _ => rfl
  | 1, _ => rfl
  | 2, _ => rfl

/-- A step's block. -/
def stepObj (What : Int) (i k : Nat) (T N : Int) : Obj := Obj.cells #[.int .i64 What, .int .i64 i, .int .i64 k, .int .i64 T, .int .i64 N] 49 (0, 0)
/-- The state behind a step. -/
structure SS (w0 : World) (g p : Nat) (What : Int) (i k : Nat) (T N : Int) (bs : Nat → Nat) (ns : Nat → List Int) (w : World) : Prop where
  ph : PH w0.heap.size g w bs ns
  wh : WH (g + 1) w ns
  be : Below w0.heap.size w0 w
  st : w.heap[p]? = some (stepObj What i k T N)

section
variable {w0 w w' : World} {g p : Nat} {What : Int} {i k : Nat} {T N : Int} {bs : Nat → Nat} {ns : Nat → List Int}
theorem SS.below (h : SS w0 g p What i k T N bs ns w) (hB : Below w.heap.size w w') : SS w0 g p What i k T N bs ns w' :=
  ⟨h.ph.below hB, h.wh.below hB, below_trans h.be hB h.be.size, (hB.block p (lt_of_heap h.st)).trans h.st⟩

theorem SS.range (h : SS w0 g p What i k T N bs ns w) {j : Nat} (hj : j < 3) : w.rangeAt (g + 1) (j * 256) (ints (ns j)) := (h.wh.rc j hj).range

theorem SS.limbs (h : SS w0 g p What i k T N bs ns w) {j : Nat} (hj : j < 3) (hk : k < 3) :
    w.cell? ⟨g, j, none⟩ = some (.pointer (some ⟨bs j, 0, none⟩)) ∧ w.cell? ⟨g, k, none⟩ = some (.pointer (some ⟨bs k, 0, none⟩))
    ∧ w.cell? ⟨p, 2, none⟩ = some (.int .i64 k) ∧ w.cell? ⟨p, 3, none⟩ = some (.int .i64 T)
    ∧ w.rangeAt (g + 1) (j * 256) (ints (ns j)) ∧ w.rangeAt (g + 1) (k * 256) (ints (ns k)) := by
  obtain ⟨_, _, s2, s3, _⟩ := step_cells h.st
  exact ⟨h.ph.cell j hj, h.ph.cell k hk, s2, s3, h.range hj, h.range hk⟩

theorem l_list (h : SS w0 g p What i k T N bs ns w) {j : Nat} (hj : j < 3) :
    Calls Try.prog 12 #[.pointer (some ⟨bs j, 0, none⟩)] w fun r w' => ∃ v, r = .returned v ∧ Src w' v (trim (ns j)) ∧ SS w0 g p What i k T N bs ns w' := by
  obtain ⟨F, hF, hc⟩ := h.ph.clk
  obtain ⟨kj, hk, hka⟩ := hc j hj
  refine (list_any (bs j) kj w (hF.here _ _ hk)).mono ?_
  rintro r w' ⟨v, rfl, ho, hB⟩
  refine ⟨v, rfl, ?_, h.below hB⟩
  rw [← trim_ext hka]
  exact Src.of_owns ho

theorem ok3_nonneg {l : List Int} (h : Ok3 l) (u : Int) : 0 ≤ at0 l u := by
  by_cases hu : 0 ≤ u ∧ u < 256
  · obtain ⟨j, rfl⟩ := Int.eq_ofNat_of_zero_le hu.1
    rw [at0_nat]
    exact (h.2 j (by omega)).1
  · rw [at0_out (by rw [h.1]; omega)]
    exact Int.le_refl _

theorem l_rlist (h : SS w0 g p What i k T N bs ns w) {j : Nat} (hj : j < 3) (v : Value) (hv : Src w v (trim (ns j))) :
    Calls Try.prog 20 #[.pointer (some ⟨g + 1, j * 256, none⟩)] w fun r w' => ∃ v', r = .returned v' ∧ Src w' v' (trim (ns j)) ∧ Src w' v (trim (ns j)) ∧ SS w0 g p What i k T N bs ns w' := by
  refine (rc_list (g + 1) (j * 256) (ns j) w (h.wh.rc j hj) (ok3_nonneg (h.ph.ok j hj))).mono ?_
  rintro r w' ⟨v', rfl, ho, hB⟩
  exact ⟨v', rfl, ho, hv.below (Nat.le_refl _) hB, h.below hB⟩

theorem l_ints (h : SS w0 g p What i k T N bs ns w) {j : Nat} (hj : j < 3) (v v' : Value) (hv : Src w v (trim (ns j))) (hv' : Src w v' (trim (ns j))) :
    Calls Try.prog 11 #[v, v'] w fun r w' => r = .returned (.bool true) ∧ SS w0 g p What i k T N bs ns w' := by
  have hl : (trim (ns j)).length ≤ 140737488351232 := Nat.le_trans (length_trim_le _) (by rw [(h.ph.ok j hj).1]; decide)
  refine (ints_any v v' _ _ w hv hv' hl hl).mono ?_
  rintro r w' ⟨rfl, n, rfl⟩
  exact ⟨by simp, h.below (below_drewN (Below.refl _ _) n)⟩

theorem l_get (h : SS w0 g p What i k T N bs ns w) {j : Nat} (hj : j < 3) :
    Calls Try.prog 19 #[.pointer (some ⟨bs j, 0, none⟩), .int .i64 T] w fun r w' => r = .returned (.int .i64 (at0 (ns j) T)) ∧ SS w0 g p What i k T N bs ns w' := by
  obtain ⟨F, hF, hc⟩ := h.ph.clk
  obtain ⟨kj, hk, hka⟩ := hc j hj
  refine (get_any (bs j) kj T w (hF.here _ _ hk)).mono ?_
  rintro r w' ⟨rfl, rfl⟩
  exact ⟨by rw [hka], h⟩

theorem l_rget (h : SS w0 g p What i k T N bs ns w) {j : Nat} (hj : j < 3) :
    Calls Try.prog 16 #[.pointer (some ⟨g + 1, j * 256, none⟩), .int .i64 T] w fun r w' => r = .returned (.int .i64 (at0 (ns j) T)) ∧ SS w0 g p What i k T N bs ns w' := by
  refine (rc_get (g + 1) (j * 256) (ns j) T w (h.wh.rc j hj)).mono ?_
  rintro r w' ⟨rfl, rfl⟩
  exact ⟨rfl, h⟩

theorem l_within (h : SS w0 g p What i k T N bs ns w) {j : Nat} (hj : j < 3) (hk3 : k < 3) :
    Calls Try.prog 10 #[.pointer (some ⟨bs j, 0, none⟩), .pointer (some ⟨bs k, 0, none⟩)] w fun r w' => r = .returned (.bool (leB (ns j) (ns k))) ∧ SS w0 g p What i k T N bs ns w' := by
  obtain ⟨F, hF, hc⟩ := h.ph.clk
  obtain ⟨kj, hkj, hkja⟩ := hc j hj
  obtain ⟨kk, hkk, hkka⟩ := hc k hk3
  refine (within_any (bs j) (bs k) kj kk w (hF.here _ _ hkj) (hF.here _ _ hkk)).mono ?_
  rintro r w' ⟨rfl, rfl⟩
  refine ⟨?_, h⟩
  have a := withinB_iff (xs := kj.xs) (hF.here _ _ hkk).ok
  have b := leB_at (h.ph.ok k hk3) (h.ph.ok j hj)
  have : withinB kj.xs kk.xs = leB (ns j) (ns k) := by
    rw [Bool.eq_iff_iff, a, b]
    exact ⟨fun q u => by rw [← hkja, ← hkka]; exact q u, fun q u => by rw [hkja, hkka]; exact q u⟩
  rw [this]

theorem l_rwithin (h : SS w0 g p What i k T N bs ns w) {j : Nat} (hj : j < 3) (hk3 : k < 3) (X Y : Array Value) (hX : (ints (ns j)).toArray = X) (hY : (ints (ns k)).toArray = Y) :
    Calls Try.prog 28 #[.agg X, .agg Y] w fun r w' => r = .returned (.bool (leB (ns j) (ns k))) ∧ SS w0 g p What i k T N bs ns w' := by
  refine (rc_within (ns j) (ns k) X Y hX hY (h.ph.ok j hj).1 (h.ph.ok k hk3).1 w).mono ?_
  rintro r w' ⟨rfl, hB⟩
  exact ⟨rfl, h.below hB⟩
end

/-- The load of a whole clock of the reference. -/
def ld35 (v : Value) := Instr.loadAt 35 v
theorem exec_ld35 (d : Option Tmp) (x : Operand) (ty : TypeId) (pos : String) (after : Array Edge) (gd : Option (Nat × Bool)) (ρ : Operand → Value) : execOp ρ (Oper.mk d (.load 35 x) ty pos after gd) = (do pure (.value (← ld35 (ρ x)))) := rfl
theorem run_ld35 (b o : Nat) (l : List Int) (hl : l.length = 256) (w : World) (h : w.rangeAt b o (ints l)) : (ld35 (.pointer (some ⟨b, o, none⟩))).run Try.prog w = .ok (.agg (ints l).toArray) w :=
  run_loadAt_mid w b o 35 (ints l) _ h Try.underlying35 rfl (by rw [rsize, length_ints, hl])
/-! ### A whole clock copied -/
theorem setCells_ne (b : Nat) : ∀ (vs : List Value) (o : Nat) (w : World) (q : Nat), q ≠ b → (w.setCells b o vs).heap[q]? = w.heap[q]?
  | [], _, _, _, _ => rfl
  | v :: vs, o, w, q, h => by
    rw [World.setCells, setCells_ne b vs _ _ q h]
    exact heap_setCell_other w _ _ _ h
theorem setCells_same (b : Nat) (t : TypeId) : ∀ (vs : List Value) (o : Nat) (w : World) (cur : Array Value), w.heap[b]? = some (Obj.cells cur t (0, 0)) → ∃ cur', (w.setCells b o vs).heap[b]? = some (Obj.cells cur' t (0, 0))
  | [], _, _, cur, h => ⟨cur, h⟩
  | v :: vs, o, w, cur, h => by
    rw [World.setCells]
    exact setCells_same b t vs _ _ _ (heap_setCell_same w b o _ _ _ h)
theorem setCells_below {B b : Nat} (hb : B ≤ b) {w0 : World} : ∀ (vs : List Value) (o : Nat) (w : World), Below B w0 w → Below B w0 (w.setCells b o vs)
  | [], _, _, h => h
  | v :: vs, o, w, h => by
    rw [World.setCells]
    exact setCells_below hb vs _ _ (h.setCell hb _)

theorem WH.copy {B g : Nat} {w : World} {ns : Nat → List Int} (h : WH g w ns) (hg : B ≤ g) {i k : Nat} (hi : i < 3) (hk : (ns k).length = 256) :
    WH g (w.setCells g (i * 256) (ints (ns k))) (updT ns i (ns k)) ∧ KeepW B w (w.setCells g (i * 256) (ints (ns k))) := by
  obtain ⟨cur, hc⟩ := h.ty
  have hl : (ints (ns k)).length = 256 := by rw [length_ints]; exact hk
  refine ⟨⟨setCells_same g _ _ _ _ _ hc, fun j hj => ⟨?_, fun q hq => ?_, fun q => ?_⟩⟩, fun e he q c fz hq => ?_, fun w0 hle hB => setCells_below hg _ _ _ hB⟩
  · by_cases e : j = i
    · subst e; rw [updT_self]; exact hk
    · rw [updT_ne _ _ e]; exact (h.rc j hj).1
  · by_cases e : j = i
    · subst e
      rw [updT_self, World.cell?_setCells_in g _ _ _ (fun q hq => by rw [(h.rc j hj).2.1 q (by omega)]; rfl) q (by omega)]
      have := getElem?_ints (ns k) q (by omega)
      rw [List.getElem?_eq_getElem (by omega)] at this
      exact this
    · rw [updT_ne _ _ e, World.cell?_setCells_out g _ _ _ _ (fun _ _ => by show j * 256 + q < i * 256 ∨ i * 256 + _ ≤ j * 256 + q; rw [hl]; omega)]
      exact (h.rc j hj).2.1 q hq
  · rw [World.frozen?_setCells]
    exact (h.rc j hj).2.2 q
  · refine setCells_ne g _ _ _ q ?_
    rintro rfl
    rw [hc] at hq
    have := Option.some.inj hq
    injection this with e1 e2
    exact he e2.symm

/-- The store of a whole clock. -/
def st35 (p v : Value) := Instr.storeAt 35 p v
theorem exec_st35 (d : Option Tmp) (x y : Operand) (ty : TypeId) (pos : String) (after : Array Edge) (gd : Option (Nat × Bool)) (ρ : Operand → Value) : execOp ρ (Oper.mk d (.store 35 x y) ty pos after gd) = (do st35 (ρ x) (ρ y); pure .skip) := rfl
theorem run_st35 (b o : Nat) (l m : List Int) (hl : l.length = 256) (w : World) (h : RC w b o m) : (st35 (.pointer (some ⟨b, o, none⟩)) (.agg (ints l).toArray)).run Try.prog w = .ok () (w.setCells b o (ints l)) := by
  have hs : (ints l).toArray.size = 256 := by rw [List.size_toArray, length_ints, hl]
  exact run_storeAt_mid w b o 35 (ints l).toArray (fun j hj => ⟨by rw [h.2.1 j (by omega)]; rfl, h.2.2 (o + j)⟩) (by rw [hs]; exact rsize) (all_oneCell_toArray (ints1 l))

end Go.Proofs.Ytgomeofifaejfaa

