
/-
  staithelaw15: same.
-/
import Derived.Test.YtlkfhobacgnckaaRsJ
import Derived.Test.YtlkfhobacgnckaaLaw15a
namespace Go.Proofs.Ytlkfhobacgnckaa
open Go.RowKit
set_option linter.unusedVariables false
set_option linter.unusedSimpArgs false
set_option maxRecDepth 100000

/-- A pointer to a clock with these numbers, or none. -/
def PtO (F : Nat → Option Ck) (p : Value) : Option (List Int) → Prop
  | none => p = .pointer none
  | some l => ∃ b, p = .pointer (some ⟨b, 0, none⟩) ∧ Has F b l
theorem PtO.same {F F' : Nat → Option Ck} {p : Value} {o : Option (List Int)} (h : PtO F p o) (hs : Same F F') : PtO F' p o := by
  cases o with
  | none => exact h
  | some l =>
    obtain ⟨b, e, hb⟩ := h
    exact ⟨b, e, hb.same hs⟩
theorem Lg.left {w : World} {b o : Nat} {cs ds : List Value} (h : Lg w b o (cs ++ ds)) : Lg w b o cs :=
  ⟨fun j v hj => h.range j v (by rw [List.getElem?_append_left (List.getElem?_eq_some_iff.1 hj).1]; exact hj), h.fz⟩
theorem keepT_only1 {e t : TypeId} {w w' : World} {b o n : Nat} {cs : List Value} (L : Lt w b t cs) (ho : Only b o n w w') (hne : e ≠ t) : KeepT e w w' := by
  obtain ⟨cur, hc⟩ := L.ty
  exact keepT_turned ho.turned fun i c fz hi e' => by
    subst e'
    rw [hc] at hi
    have := Option.some.inj hi
    injection this with e1 e2
    exact hne e2.symm
set_option maxHeartbeats 4000000 in
theorem same_any {B : Nat} {w : World} {F : Nat → Option Ck} (h : Fam B w F) (p : Value) (o o' : Option (List Int)) (hp : PtO F p o) (he : OptE o o') (hl : ∀ l, o' = some l → l.length = 256) (Z : Array Value) (hZ : (fetC o').toArray = Z) :
    Calls Try.prog 26 #[p, .agg Z] w (RetB (.bool true) w) := by
  have B0 := Lib.hid ((Below.refl w.heap.size w).alloc (Nat.le_refl _) (.cells Z 60))
  have A0 := Lib.hid (Lt.new w (fetC o') 60 hZ)
  have HF := Lib.hid (h.below B0.out)
  have zs : Z.size = 257 := by rw [← hZ]; simp [fetC_len hl]
  have c5 := fetC_ok o' hl A0.out
  clear h hZ
  cases o' with
  | none =>
    cases o with
    | some l => exact he.elim
    | none =>
      obtain rfl : p = .pointer none := hp
      clear he hl
      go_enter Try.func26, Try.ntmps26
      go_wp2_with fail
      go_ret
      exact ⟨rfl, B0.out⟩
  | some m =>
    cases o with
    | none => exact he.elim
    | some l =>
      obtain ⟨b, rfl, hb⟩ := hp
      obtain ⟨he, hpos⟩ := he
      have hm := hl m rfl
      obtain ⟨Z0, hZ0⟩ : ∃ Z, (ints zeros).toArray = Z := ⟨_, rfl⟩
      have hz := (zero_of_info rinfo).1
      rw [hZ0] at hz
      have HZ0 := Lib.hid hZ0
      obtain ⟨Zm, hZm⟩ : ∃ Z, (ints m).toArray = Z := ⟨_, rfl⟩
      have HZm := Lib.hid hZm
      have HM := Lib.hid hm
      have HB := Lib.hid hb
      have TE := Lib.hid (show trim l = trim m from trim_ext he)
      have HP := Lib.hid hpos
      have HLI := Lib.hid (show (Try.prog.info? 56).map (·.size) = some (ints m).length from by rw [rsize, length_ints, hm])
      have ZL := Lib.hid (show (ints zeros).length = (ints m).length from by rw [length_ints, length_ints, hm]; simp [zeros])
      have AL := Lib.hid (show Lg (w.alloc (.cells Z 60)) w.heap.size 0 (ints m) from A0.out.lg.left)
      have n1 := Lt.new (w.alloc (.cells Z 60)) (ints zeros) 56 HZ0.out
      rw [size_alloc] at n1
      have N1 := Lib.hid n1
      have B1 := Lib.hid (B0.out.alloc (by rw [size_alloc]; omega) (.cells Z0 56))
      have HF1 := Lib.hid (HF.out.below ((Below.refl _ _).alloc (Nat.le_refl _) (.cells Z0 56)))
      have ok : (Option.some m).isSome = true := rfl
      rw [ok] at c5
      clear n1 he hl hZ0 hZm hm hb hpos ok
      go_enter Try.func26, Try.ntmps26
      go_wp2_with (first
        | (with_reducible refine wpList_load_lg rfl 56 (.tmp 11) (by rfl) w.heap.size 0 (by with_unfolding_all rfl) (ints m) _ Zm HZm.out AL.out Try.underlying56 rfl HLI.out ?_)
        | (with_reducible refine wpList_store_lg rfl 56 (.tmp 5) (.tmp 12) (by rfl) (w.heap.size + 1) 0 (by with_unfolding_all rfl) (ints m) (ints zeros) Zm (by with_unfolding_all rfl) HZm.out N1.out.lg ZL.out HLI.out (ints1 m) ?_))
      intro w2 L2 T2
      have N2 := Lib.hid (N1.out.stored T2 L2)
      have B2 := Lib.hid (show Below w.heap.size w w2 from T2.turned.below B1.out (Nat.le_refl _) (fun i e => by rw [e]; omega))
      have F2 := Lib.hid (show Fam B w2 F from HF1.out.keep (keepT_only1 N1.out T2 (by decide)) (keepT_only1 N1.out T2 (by decide)))
      clear L2 T2
      go_wp2_with fail
      refine (fam_list F2.out b l HB.out).mono ?_
      rintro r w3 ⟨v3, rfl, hv3, hB3⟩
      have V3 := Lib.hid hv3
      have N3 := Lib.hid (N2.out.below hB3)
      have B3 := Lib.hid (below_trans B2.out hB3 B2.out.size)
      clear hv3 hB3
      go_wp2_with fail
      refine (rc_list (w.heap.size + 1) 0 m w3 (N3.out.lg.rc HM.out) HP.out).mono ?_
      rintro r w4 ⟨v4, rfl, hv4, hB4⟩
      have V3' := Lib.hid (V3.out.below (Nat.le_refl _) hB4)
      have V4 := Lib.hid hv4
      have B4 := Lib.hid (below_trans B3.out hB4 B3.out.size)
      clear hv4 hB4
      go_wp2_with fail
      refine (ints_any _ _ (trim l) (trim m) _ V3'.out V4.out (by rw [TE.out]; exact Nat.le_trans (length_trim_le m) (by rw [HM.out]; decide)) (Nat.le_trans (length_trim_le m) (by rw [HM.out]; decide))).mono ?_
      rintro r w5 ⟨rfl, m5, hw5⟩
      have B5 := Lib.hid (show Below w.heap.size w w5 from by rw [hw5]; exact below_drewN B4.out _)
      rw [decide_eq_true TE.out]
      clear hw5
      go_wp2_with fail
      go_ret
      exact ⟨rfl, B5.out⟩
end Go.Proofs.Ytlkfhobacgnckaa

