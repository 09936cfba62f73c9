
/-
  retire.Of, retire.Greatest.
-/
import Derived.Test.YtcfkokjfhjdbfaaRetB
import Derived.Deep.RegionHeld3
import Derived.Shelf.Abstract
namespace Go.Proofs.Ytcfkokjfhjdbfaa
open Go.RowKit
set_option linter.unusedVariables false
set_option linter.unusedSimpArgs false
set_option maxRecDepth 100000

/-- What is settled of a tid, out of what the living and the held have there. -/
def cutB (t : Int) (n m : Nat) (f g : Nat → Int) : Int × Bool :=
  if (0 ≤ t ∧ t < 256) ∧ 0 < n then (if anyTo n (fun j => f j != f 0) || anyTo m (fun j => decide (f 0 < g j)) then (0, false) else (f 0, true)) else (0, false)

theorem cutB_out {t : Int} {n m : Nat} {f g : Nat → Int} (h : ¬ ((0 ≤ t ∧ t < 256) ∧ 0 < n)) : cutB t n m f g = (0, false) := if_neg h
theorem cutB_in {t : Int} {n m : Nat} {f g : Nat → Int} (h : (0 ≤ t ∧ t < 256) ∧ 0 < n) : cutB t n m f g = if anyTo n (fun j => f j != f 0) || anyTo m (fun j => decide (f 0 < g j)) then (0, false) else (f 0, true) := if_pos h

theorem other_enters (args : Array Value) (w : World) : (callFunc 19 args).run Try.prog w = .ok (.enter 19 args) w :=
  Go.Proofs.enters_of Try.func19 (by kernel_rfl) (show (Try.f19).body = some _ from rfl) args w
theorem more_enters (args : Array Value) (w : World) : (callFunc 20 args).run Try.prog w = .ok (.enter 20 args) w :=
  Go.Proofs.enters_of Try.func20 (by kernel_rfl) (show (Try.f20).body = some _ from rfl) args w

theorem CksOf.below {w w' : World} {v : Value} {n : Nat} {bs : Nat → Nat} {ks : Nat → Ck} (h : CksOf w v n bs ks) (hB : Below w.heap.size w w') : CksOf w' v n bs ks := by
  obtain ⟨ao, cap, rfl, hc⟩ := h
  refine ⟨ao, cap, rfl, fun hp => ?_⟩
  obtain ⟨b, o, rfl, hd⟩ := hc hp
  refine ⟨b, o, rfl, fun j hj => ?_⟩
  obtain ⟨h1, h2⟩ := hd j hj
  exact ⟨by rw [hB.cell (p := ⟨b, o + j, none⟩) (block_lt_of_cell h1)]; exact h1, h2.below hB⟩
theorem CksOf.ck {w : World} {v : Value} {n : Nat} {bs : Nat → Nat} {ks : Nat → Ck} (h : CksOf w v n bs ks) (j : Nat) (hj : j < n) : CkAt w (bs j) (ks j) := by
  obtain ⟨ao, cap, rfl, hc⟩ := h
  obtain ⟨b, o, rfl, hd⟩ := hc (by omega)
  exact (hd j hj).2
theorem CksOf.shape {w : World} {v : Value} {n : Nat} {bs : Nat → Nat} {ks : Nat → Ck} (h : CksOf w v n bs ks) : ∃ ao cap, v = .slice ao n cap := by
  obtain ⟨ao, cap, rfl, hc⟩ := h
  exact ⟨ao, cap, rfl⟩
theorem CksOf.first {w : World} {ao : Option Addr} {cap n : Nat} {bs : Nat → Nat} {ks : Nat → Ck} (h : CksOf w (.slice ao n cap) n bs ks) (hp : 0 < n) : ∃ b o, ao = some ⟨b, o, none⟩ ∧ w.cell? ⟨b, o, none⟩ = some (.pointer (some ⟨bs 0, 0, none⟩)) := by
  obtain ⟨_, _, e, hc⟩ := h
  cases e
  obtain ⟨b, o, rfl, hd⟩ := hc hp
  exact ⟨b, o, rfl, (hd 0 hp).1⟩

def CutPost (t : Int) (n m : Nat) (f g : Nat → Int) (w : World) (r : Ending) (w' : World) : Prop :=
  r = .returned (.tuple #[.int .i64 (cutB t n m f g).1, .bool (cutB t n m f g).2]) ∧ Below w.heap.size w w'

theorem of_cut (t : Int) (va vb : Value) (n m : Nat) (bs : Nat → Nat) (ks : Nat → Ck) (cs : Nat → Nat) (hs : Nat → Ck) (w : World) (ha : CksOf w va n bs ks) (hb : CksOf w vb m cs hs) (hn : n ≤ 1000) (hm : m ≤ 1000) :
    Calls Try.prog 10 #[.int .i64 t, va, vb] w (CutPost t n m (fun j => at0 (ks j).xs t) (fun j => at0 (hs j).xs t) w) := by
  have HA := Lib.hid ha
  have HB := Lib.hid hb
  obtain ⟨ao, ca, rfl⟩ := ha.shape
  obtain ⟨bo, cb, rfl⟩ := hb.shape
  clear ha hb
  by_cases hin : (0 ≤ t ∧ t < 256) ∧ 0 < n
  · have S := Lib.hid (cutB_in (m := m) (f := fun j => at0 (ks j).xs t) (g := fun j => at0 (hs j).xs t) hin)
    obtain ⟨⟨h0, h1⟩, h2⟩ := hin
    have d0 : decide (t < 0) = false := decide_eq_false (by omega)
    have d1 : decide (256 ≤ t) = false := decide_eq_false (by omega)
    have d2 : ((n : Int) == 0) = false := by simp; omega
    obtain ⟨g, z, rfl, c0⟩ := HA.out.first h2
    obtain ⟨W, hW⟩ : ∃ W, w.alloc (.cells #[.int .i64 t] 3) = W := ⟨_, rfl⟩
    have hB0 : Below w.heap.size w W := by rw [← hW]; exact (Below.refl _ _).alloc (Nat.le_refl _) _
    have e0 : W.cell? ⟨w.heap.size, 0, none⟩ = some (.int .i64 t) := by rw [← hW]; simp only [World.cell?, heap_alloc_new]; rfl
    have c1 : W.cell? ⟨g, z, none⟩ = some (.pointer (some ⟨bs 0, 0, none⟩)) := by rw [hB0.cell (p := ⟨g, z, none⟩) (block_lt_of_cell c0)]; exact c0
    have K0 := Lib.hid ((HA.out.ck 0 h2).below hB0)
    have HW := Lib.hid hW
    have hBB := Below.refl W.heap.size W
    clear c0
    go_enter Try.func10, Try.ntmps10
    go_wp2_with fail
    try rw [HW.out]
    clear hW
    go_region_held3 (fun w' => w'.cell? ⟨w.heap.size, 0, none⟩ = some (.int .i64 t) ∧ w'.cell? ⟨g, z, none⟩ = some (.pointer (some ⟨bs 0, 0, none⟩)) ∧ Below W.heap.size W w')
      (first | (simp [*]; done) | (refine ⟨by simp [*, World.cell?_alloc_some], by simp [*, World.cell?_alloc_some], ?_⟩; first | exact hBB.alloc hBB.size _ | exact (hBB.alloc hBB.size _).drew | exact hBB.drew | assumption))
      (first | (go_at_call 16; refine (get_any (bs 0) (ks 0) t _ (K0.out.below (by first | assumption | exact hBB.drew | exact (hBB.alloc hBB.size _).drew))).mono ?_; rintro r w' ⟨rfl, rfl⟩))
    all_goals
      obtain ⟨V, hV⟩ : ∃ V, (W.alloc (.cells #[.int .i64 (at0 (ks 0).xs t)] 3)).drew = V := ⟨_, rfl⟩
      have hBV : Below W.heap.size W V := by rw [← hV]; exact (hBB.alloc hBB.size _).drew
      have e1 : V.cell? ⟨w.heap.size, 0, none⟩ = some (.int .i64 t) := by rw [hBV.cell (p := ⟨w.heap.size, 0, none⟩) (block_lt_of_cell e0)]; exact e0
      have e2 : V.cell? ⟨W.heap.size, 0, none⟩ = some (.int .i64 (at0 (ks 0).xs t)) := by rw [← hV]; simp only [World.cell?, World.drew, heap_alloc_new]; rfl
      rw [hV]
      have hB2 := below_trans hB0 hBV hB0.size
      have B2 := Lib.hid hB2
      have X1 := Lib.hid (HA.out.below hB2)
      have Y1 := Lib.hid (HB.out.below hB2)
      clear hBV hBB hB0 hV hB2 HW c1
      cases ho : anyTo n (fun j => at0 (ks j).xs t != at0 (ks 0).xs t) with
      | true =>
        have HO := Lib.hid ho
        have S2 := Lib.hid (show cutB t n m (fun j => at0 (ks j).xs t) (fun j => at0 (hs j).xs t) = (0, false) by rw [S.out, ho]; rfl)
        clear ho
        go_wp2_with fail
        refine (contains_any 19 _ _ _ n bs ks (fun j => at0 (ks j).xs t != at0 (ks 0).xs t) V X1.out hn other_enters (fun j hj q => other_any _ w.heap.size W.heap.size _ t _ (V.drewN q) ((X1.out.ck j hj).drawn q) e1 e2)).mono ?_
        rintro r w2 ⟨rfl, q, rfl⟩
        rw [HO.out]
        go_wp2_with fail
        go_ret2
        exact ⟨by rw [S2.out]; rfl, below_drewN B2.out q⟩
      | false =>
        have HO := Lib.hid ho
        clear ho
        go_wp2_with fail
        refine (contains_any 19 _ _ _ n bs ks (fun j => at0 (ks j).xs t != at0 (ks 0).xs t) V X1.out hn other_enters (fun j hj q => other_any _ w.heap.size W.heap.size _ t _ (V.drewN q) ((X1.out.ck j hj).drawn q) e1 e2)).mono ?_
        rintro r w2 ⟨rfl, q, rfl⟩
        rw [HO.out]
        cases hm' : anyTo m (fun j => decide (at0 (ks 0).xs t < at0 (hs j).xs t)) with
        | true =>
          have HM := Lib.hid hm'
          have S2 := Lib.hid (show cutB t n m (fun j => at0 (ks j).xs t) (fun j => at0 (hs j).xs t) = (0, false) by rw [S.out, HO.out, hm']; rfl)
          clear hm'
          go_wp2_with fail
          refine (contains_any 20 _ _ _ m cs hs (fun j => decide (at0 (ks 0).xs t < at0 (hs j).xs t)) (V.drewN q) (Y1.out.below (below_drewN (Below.refl _ _) _)) hm more_enters (fun j hj q' => more_any _ w.heap.size W.heap.size _ t _ ((V.drewN q).drewN q') (((Y1.out.ck j hj).drawn q).drawn q') e1 e2)).mono ?_
          rintro r w2 ⟨rfl, q2, rfl⟩
          rw [HM.out]
          go_wp2_with fail
          go_ret2
          exact ⟨by rw [S2.out]; rfl, below_drewN B2.out _⟩
        | false =>
          have HM := Lib.hid hm'
          have S2 := Lib.hid (show cutB t n m (fun j => at0 (ks j).xs t) (fun j => at0 (hs j).xs t) = (at0 (ks 0).xs t, true) by rw [S.out, HO.out, hm']; rfl)
          clear hm'
          go_wp2_with fail
          refine (contains_any 20 _ _ _ m cs hs (fun j => decide (at0 (ks 0).xs t < at0 (hs j).xs t)) (V.drewN q) (Y1.out.below (below_drewN (Below.refl _ _) _)) hm more_enters (fun j hj q' => more_any _ w.heap.size W.heap.size _ t _ ((V.drewN q).drewN q') (((Y1.out.ck j hj).drawn q).drawn q') e1 e2)).mono ?_
          rintro r w2 ⟨rfl, q2, rfl⟩
          rw [HM.out]
          go_wp2_with fail
          go_ret2
          exact ⟨by rw [S2.out]; rfl, below_drewN B2.out _⟩
  · have S := Lib.hid (cutB_out (m := m) (f := fun j => at0 (ks j).xs t) (g := fun j => at0 (hs j).xs t) hin)
    have hB := Lib.hid ((Below.refl w.heap.size w).alloc (Nat.le_refl _) (.cells #[.int .i64 t] 3))
    by_cases q0 : t < 0
    · have d0 : decide (t < 0) = true := decide_eq_true q0
      go_enter Try.func10, Try.ntmps10
      go_wp2_with fail
      go_ret2
      exact ⟨by rw [S.out]; rfl, hB.out⟩
    · have d0 : decide (t < 0) = false := decide_eq_false q0
      by_cases q1 : 256 ≤ t
      · have d1 : decide (256 ≤ t) = true := decide_eq_true q1
        go_enter Try.func10, Try.ntmps10
        go_wp2_with fail
        go_ret2
        exact ⟨by rw [S.out]; rfl, hB.out⟩
      · have d1 : decide (256 ≤ t) = false := decide_eq_false q1
        have hn0 : n = 0 := by omega
        subst hn0
        clear hin
        go_enter Try.func10, Try.ntmps10
        go_wp2_with fail
        go_ret2
        exact ⟨by rw [S.out]; rfl, hB.out⟩

/-- The greatest of the first n, and 0. -/
def maxTo (f : Nat → Int) : Nat → Int
  | 0 => 0
  | n + 1 => max (maxTo f n) (f n)

@[local go_sem] theorem k_max2_int' (k k' : IntKind) (x y : Int) : Builtin.max2 (.int k x) (.int k' y) = pure (.int k (if x < y then y else x)) := by simp only [Builtin.max2, gt_iff_lt]
@[local go_sem] theorem k_max_two' (ats : Array TypeId) (ty : TypeId) (a b : Value) : Builtin.max_ ats ty #[a, b] = (Builtin.max2 a b >>= fun s => pure s) := by simp only [Builtin.max_, List.foldlM_cons, List.foldlM_nil]

theorem greatest_any (t : Int) (v : Value) (n : Nat) (bs : Nat → Nat) (ks : Nat → Ck) (w : World) (h : CksOf w v n bs ks) (hn : n ≤ 1000) :
    Calls Try.prog 13 #[.int .i64 t, v] w fun r w' => r = .returned (.int .i64 (maxTo (fun j => at0 (ks j).xs t) n)) ∧ ∃ m, w' = w.drewN m := by
  obtain ⟨ao, cap, rfl, hc⟩ := h
  have HC := Lib.hid hc
  clear hc
  go_enter Try.func13, Try.ntmps13
  go_wp2_with fail
  go_loopw [10, 5] (fun i s wr => ∃ k m : Nat, k ≤ n ∧ i = .int .i64 k ∧ s = .int .i64 (maxTo (fun j => at0 (ks j).xs t) k) ∧ wr = w.drewN m) (fun i _ _ => n - (intOf i).toNat)
  case atStart => exact ⟨0, 0, by omega, rfl, rfl, rfl⟩
  case round =>
    obtain ⟨k, m, hk, rfl, rfl, rfl⟩ := hrel
    by_cases hlt : k < n
    · have hlt' : (k : Int) < n := by omega
      obtain ⟨g, z, rfl, hcc⟩ := HC.out (by omega)
      have c0 := (hcc k hlt).1
      have k0 := Lib.hid (hcc k hlt).2
      clear hcc
      obtain ⟨M, hM⟩ : ∃ M, maxTo (fun j => at0 (ks j).xs t) k = M := ⟨_, rfl⟩
      have X := Lib.hid (show maxTo (fun j => at0 (ks j).xs t) (k + 1) = if M < at0 (ks k).xs t then at0 (ks k).xs t else M by
        rw [← hM, maxTo]; split <;> omega)
      rw [hM]
      clear hM
      go_wp2_with fail
      refine (get_any (bs k) (ks k) t _ (k0.out.drawn m)).mono ?_
      rintro r w2 ⟨rfl, rfl⟩
      obtain ⟨N, hN⟩ : ∃ N, at0 (ks k).xs t = N := ⟨_, rfl⟩
      rw [hN] at X ⊢
      clear hN
      by_cases hc : M < N
      · have X' := Lib.hid (X.out.trans (if_pos hc))
        clear X
        go_wp2_with fail
        go_roundw
        case rel => exact ⟨k + 1, m, by omega, by go_num, by rw [X'.out], rfl⟩
        case measure => simp [intOf] <;> omega
      · have X' := Lib.hid (X.out.trans (if_neg hc))
        clear X
        go_wp2_with fail
        go_roundw
        case rel => exact ⟨k + 1, m, by omega, by go_num, by rw [X'.out], rfl⟩
        case measure => simp [intOf] <;> omega
    · have hkn : k = n := by omega
      subst hkn
      go_wp2_with fail
      go_ret
      exact ⟨rfl, _, rfl⟩

end Go.Proofs.Ytcfkokjfhjdbfaa

