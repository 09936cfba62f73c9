
/-
  staithelaw15: SlotsOwn.
-/
import Derived.Test.YtlkfhobacgnckaaOwK
import Derived.Test.YtlkfhobacgnckaaArg
namespace Go.Proofs.Ytlkfhobacgnckaa
open Go.RowKit
set_option linter.unusedVariables false
set_option linter.unusedSimpArgs false
set_option maxRecDepth 100000

/-- Where a clock beside the slots has turned. -/
theorem SlAt.restd {B s : Nat} {w w' : World} {F F' : Nat → Option Ck} {vS vR : Value} {sb rb : List Nat} {cb : Option Nat} {M : Md} {b : Nat} (h : SlAt B s w F vS vR sb rb cb M) (hf : Fam B w' F') (hr : Rest F F' b) (hn : b ∉ sb ++ rb ++ cb.toList) (hk : KeepP B w w') : SlAt B s w' F' vS vR sb rb cb M :=
  ⟨(hk.1 _ (by decide) _ _ _ h.blk).trans h.blk, ownsRow_keep h.rowS (hk.1 _ (by decide)), ownsRow_keep h.rowR (hk.1 _ (by decide)), h.apart, hf, h.hS.rest hr (fun hm => hn (by simp [hm])), h.hR.rest hr (fun hm => hn (by simp [hm])), h.hC.rest hr (fun hm => hn (by simp [hm])), h.nodup, h.low, Nat.le_trans h.bw (hk.size h.bw)⟩
theorem trim_small' {B : Nat} {w : World} {F : Nat → Option Ck} (h : Fam B w F) {b : Nat} {l : List Int} (hb : Has F b l) : (trim l).length ≤ 140737488351232 := by
  obtain ⟨k, h1, h2⟩ := hb
  have h3 := trim_small (h.here _ _ h1).ok
  rwa [trim_ext h2] at h3

set_option maxHeartbeats 4000000 in
theorem sown_law (n : Int) (v : Value) (l : List Int) (t : Int) (w : World) (hs : Src w v l) :
    Calls Try.prog 5 #[.int .i64 n, v, .int .i64 t] w (RetB (.bool true) w) := by
  have HS := Lib.hid hs
  by_cases hn : 0 ≤ n ∧ n ≤ 4
  · by_cases hl : ofE l = 0
    · have HL := Lib.hid hl
      clear hl hs
      go_enter Try.func5, Try.ntmps5
      go_wp2_with fail
      refine (snew_any n w).mono ?_
      rintro r w1 (⟨_, rfl, hA, hB⟩ | ⟨h, _⟩)
      rotate_left
      · exact absurd hn h
      have A1 := Lib.hid hA
      have K1 := Lib.hid (keepS_below (B := w.heap.size) (Nat.le_refl _) hB)
      have S1 := Lib.hid (HS.out.below (Nat.le_refl _) hB)
      have MOK := Lib.hid (Md.new_ok n.toNat (by omega))
      clear hA hB hn
      go_wp2_with fail
      refine (sl_of A1.out _ l S1.out HL.out).mono ?_
      rintro r w2 ⟨c, F2, rfl, hA2, hc2, hlt2, hs2, hk2⟩
      have A2 := Lib.hid hA2
      have C2 := Lib.hid hc2
      have K2 := Lib.hid (K1.out.trans hk2)
      clear hA2 hc2 hlt2 hs2 hk2
      go_wp2_with fail
      obtain ⟨kc, hkc, hkl⟩ := C2.out
      refine (list_any c kc w2 (A2.out.fam.here _ _ hkc)).mono ?_
      rintro r w3 ⟨v3, rfl, hv3, hB3⟩
      rw [show trim kc.xs = trim l from trim_ext hkl] at hv3
      have R3 := Lib.hid hv3
      have A3 := Lib.hid (A2.out.below hB3)
      have K3 := Lib.hid (K2.out.trans (keepS_below A2.out.bw hB3))
      clear hv3 hB3 hkc hkl
      go_wp2_with fail
      refine (send_any A3.out MOK.out (by show (0 : Nat) ≤ 50000; omega) c l C2.out).mono ?_
      rintro r w4 ⟨p, vS4, vR4, sb4, rb4, F4, rfl, hA4, hs4, hf4, ho4, hk4, hg4⟩
      have hE : (Md.new n.toNat).sendE = 0 := by
        unfold Md.sendE Md.full Md.new
        first
          | (simp; done)
          | (simp; omega)
      have hM : (Md.new n.toNat).send l = ⟨n.toNat, [l], [], 1, 0, none⟩ := by
        unfold Md.send
        rw [if_pos hE]
        show (⟨n.toNat, [] ++ [l], if (Md.new n.toNat).due then [] else [], 0 + 1, 0, none⟩ : Md) = _
        split <;> rfl
      rw [hM] at hA4
      have A4 := Lib.hid hA4
      have K4 := Lib.hid (K3.out.trans hk4)
      have R4 := Lib.hid (ownsRow_keep R3.out (hk4.1 _ (by decide) (by decide) (by decide)))
      have C4 := Lib.hid (C2.out.same hs4)
      have G4 := Lib.hid (hg4 hE)
      have N4 := Lib.hid (show c ∉ sb4 ++ rb4 ++ (none : Option Nat).toList from fun hm => by
        have h0 := A3.out.fam.lt C2.out
        rcases ho4 c hm with h1 | h1
        · exact absurd h1 (by simp)
        · omega)
      have M4 := Lib.hid (show (⟨n.toNat, [l], [], 1, 0, none⟩ : Md).Ok by rw [← hM]; exact Md.send_ok MOK.out l)
      clear hA4 hs4 hf4 ho4 hk4 hg4 hE hM
      go_wp2_with fail
      refine (fam_tick A4.out.fam c G4.out t).mono ?_
      rintro r w5 ⟨v5, F5, rfl, hf5, hl5, hr5, hk5⟩
      have A5 := Lib.hid (A4.out.restd hf5 hr5 N4.out hk5)
      have K5 := Lib.hid (K4.out.trans hk5.s)
      have R5 := Lib.hid (ownsRow_keep R4.out (hk5.1 _ (by decide)))
      have C5 := Lib.hid hl5
      clear hf5 hl5 hr5 hk5
      go_wp2_with fail
      refine (peek_any A5.out false).mono ?_
      rintro r w6 ⟨p6, F6, rfl, hA6, hs6, hf6, hk6, hg6⟩
      obtain ⟨x, rfl, hx, hxn⟩ : ∃ x, p6 = some ⟨x, 0, none⟩ ∧ Has F6 x l ∧ x ∉ sb4 ++ rb4 ++ (none : Option Nat).toList := hf6
      have A6 := Lib.hid hA6
      have K6 := Lib.hid (K5.out.trans hk6)
      have R6 := Lib.hid (ownsRow_keep R5.out (hk6.1 _ (by decide) (by decide) (by decide)))
      have C6 := Lib.hid (show ∃ l, Has F6 c l from let ⟨l, h⟩ := C5.out; ⟨l, h.same hs6⟩)
      have X6 := Lib.hid (And.intro (hg6 x rfl) hxn)
      clear hA6 hs6 hk6 hg6 hx hxn
      go_wp2_with fail
      refine (fam_tick A6.out.fam x X6.out.1 t).mono ?_
      rintro r w7 ⟨v7, F7, rfl, hf7, hl7, hr7, hk7⟩
      have A7 := Lib.hid (A6.out.restd hf7 hr7 X6.out.2 hk7)
      have K7 := Lib.hid (K6.out.trans hk7.s)
      have R7 := Lib.hid (ownsRow_keep R6.out (hk7.1 _ (by decide)))
      have C7 := Lib.hid (show ∃ l, Has F7 c l from by
        by_cases hcx : c = x
        · subst hcx; exact hl7
        · obtain ⟨l, h⟩ := C6.out; exact ⟨l, h.rest hr7 hcx⟩)
      clear hf7 hl7 hr7 hk7
      go_wp2_with fail
      have L7 := Lib.hid (And.intro (show sb4.length ≤ 40000 by have h : sb4.length = 1 := A7.out.hS.len; omega) (show rb4.length ≤ 40000 by have h : rb4.length = 0 := A7.out.hR.len; omega))
      refine (held_any A7.out L7.out.1 L7.out.2).mono ?_
      rintro r w8 ⟨v8, hb, F8, rfl, hrow8, hf8, hs8, hh8, hnd8, hnew8, hk8⟩
      have A8 := Lib.hid (A7.out.keepP hf8 hs8 hk8)
      have K8 := Lib.hid (K7.out.trans hk8.s)
      have R8 := Lib.hid (ownsRow_keep R7.out (hk8.1 _ (by decide)))
      have C8 := Lib.hid (show ∃ l, Has F8 c l from let ⟨l, h⟩ := C7.out; ⟨l, h.same hs8⟩)
      have H8 := Lib.hid (show hb.Nodup ∧ (∀ b, b ∈ hb → Sh F8 b) ∧ ∀ b, b ∈ hb → b ∉ sb4 ++ rb4 ++ (none : Option Nat).toList from ⟨hnd8, fun b hm => (hnew8 b hm).2, fun b hm hm2 => by have := (hnew8 b hm).1; have := A7.out.old b hm2; omega⟩)
      have W8 := Lib.hid hrow8
      obtain ⟨q, hq⟩ : ∃ q, hb.length = q := ⟨_, rfl⟩
      have hq1 : q ≤ 3 := by have := hh8.len; simp [Md.kept] at this; omega
      have b1 : (q : Int) ≤ 3 := by omega
      obtain ⟨ao, cap, rfl⟩ := owns_slice hrow8
      rw [hq]
      have HQ := Lib.hid hq
      clear hf8 hs8 hh8 hnd8 hnew8 hk8 hrow8 hq hq1
      go_wp2_with fail
      go_loopw [62] (fun i wr => ∃ (k : Nat) (F' : Nat → Option Ck), k ≤ q ∧ i = .int .i64 k ∧ SlAt w.heap.size w.heap.size wr F' vS4 vR4 sb4 rb4 none ⟨n.toNat, [l], [], 1, 0, none⟩ ∧ (∀ j, k ≤ j → j < q → Sh F' (hb.getD j 0)) ∧ (∃ l, Has F' c l) ∧ KeepP w.heap.size w8 wr) (fun i _ => q - (intOf i).toNat)
      case atStart => exact ⟨0, F8, by omega, rfl, A8.out, fun j _ hj => H8.out.2.1 _ (by have := HQ.out; simp only [List.getD, List.getElem?_eq_getElem (show j < hb.length by omega), Option.getD_some]; exact List.getElem_mem _), C8.out, KeepP.refl _ _⟩
      case round =>
        obtain ⟨k, F', hk, rfl, hA, hSh, hC, hkp⟩ := hrel
        have A9 := Lib.hid hA
        have S9 := Lib.hid hSh
        have C9 := Lib.hid hC
        have P9 := Lib.hid hkp
        clear hA hSh hC hkp
        by_cases hlt : k < q
        · have hlt' : (k : Int) < q := by omega
          obtain ⟨_, _, e, _, hd⟩ := PSrc.keep W8.out (P9.out.1 _ (by decide))
          obtain ⟨g, z, rfl, hd2⟩ := hd (by have := HQ.out; omega)
          rw [HQ.out] at e
          cases e
          have c0 := hd2 k (by have := HQ.out; omega)
          clear hd hd2
          obtain ⟨y, hy⟩ : ∃ y, hb.getD k 0 = y := ⟨_, rfl⟩
          have Y := Lib.hid (show Sh F' y by rw [← hy]; exact S9.out k (Nat.le_refl _) hlt)
          have YM := Lib.hid (show y ∈ hb by
            rw [← hy]
            have := HQ.out
            simp only [List.getD, List.getElem?_eq_getElem (show k < hb.length by omega), Option.getD_some]
            exact List.getElem_mem _)
          rw [hy] at c0
          have HY := Lib.hid hy
          clear hy
          go_wp2_with fail
          refine (fam_tick A9.out.fam y Y.out t).mono ?_
          rintro r w10 ⟨v10, F10, rfl, hf10, hl10, hr10, hk10⟩
          have A10 := Lib.hid (A9.out.restd hf10 hr10 (H8.out.2.2 y YM.out) hk10)
          have P10 := Lib.hid (P9.out.trans hk10)
          have C10 := Lib.hid (show ∃ l, Has F10 c l from by
            by_cases hcx : c = y
            · subst hcx; exact hl10
            · obtain ⟨l, h⟩ := C9.out; exact ⟨l, h.rest hr10 hcx⟩)
          have S10 := Lib.hid (show ∀ j, k + 1 ≤ j → j < q → Sh F10 (hb.getD j 0) from fun j h1 h2 => (S9.out j (by omega) h2).rest hr10 (by
            rw [← HY.out]
            have h3 := HQ.out
            have p := List.pairwise_iff_getElem.1 H8.out.1
            simp only [List.getD, List.getElem?_eq_getElem (show k < hb.length by omega), List.getElem?_eq_getElem (show j < hb.length by omega), Option.getD_some]
            intro e
            exact p k j (by omega) (by omega) (by omega) e.symm))
          clear hf10 hl10 hr10 hk10 c0
          go_wp2_with fail
          go_roundw
          case rel => exact ⟨k + 1, F10, by omega, by go_num, A10.out, S10.out, C10.out, P10.out⟩
          case measure => simp [intOf] <;> omega
        · have hge : (q : Int) ≤ k := by omega
          obtain ⟨lc, hlc⟩ := C9.out
          have LC := Lib.hid hlc
          clear hlt hlc
          go_wp2_with fail
          refine (recv_any A9.out M4.out (by show (1 : Nat) ≤ 50000; omega) c lc LC.out).mono ?_
          rintro r w11 ⟨p11, vS11, vR11, sb11, rb11, F11, rfl, hA11, hs11, hf11, ho11, hk11⟩
          obtain ⟨y, rfl, hy, hyn⟩ : ∃ y, p11 = some ⟨y, 0, none⟩ ∧ Has F11 y l ∧ y ∉ sb11 ++ rb11 ++ (none : Option Nat).toList := hf11
          rw [show (⟨n.toNat, [l], [], 1, 0, none⟩ : Md).recvE = 0 from rfl]
          have A11 := Lib.hid hA11
          have Y11 := Lib.hid hy
          have K11 := Lib.hid ((K8.out.trans P9.out.s).trans hk11)
          have R11 := Lib.hid (ownsRow_keep (ownsRow_keep R8.out (P9.out.1 _ (by decide))) (hk11.1 _ (by decide) (by decide) (by decide)))
          clear hA11 hs11 ho11 hk11 hy hyn
          go_wp2_with fail
          refine (fam_list A11.out.fam y l Y11.out).mono ?_
          rintro r w12 ⟨v12, rfl, hv12, hB12⟩
          have V12 := Lib.hid hv12
          have K12 := Lib.hid (K11.out.trans (keepS_below A11.out.bw hB12))
          have R12 := Lib.hid (ownsRow_keep R11.out (keepT_below hB12))
          have SM := Lib.hid (trim_small' A11.out.fam Y11.out)
          clear hv12 hB12
          go_wp2_with fail
          refine (ints_any _ _ (trim l) (trim l) _ V12.out (Src.of_owns R12.out) SM.out SM.out).mono ?_
          rintro r w13 ⟨rfl, m13, hw13⟩
          have K13 := Lib.hid (show KeepS w.heap.size w w13 by rw [hw13]; exact K12.out.trans (keepS_drawn _ _))
          rw [show decide (trim l = trim l) = true from decide_eq_true rfl]
          clear hw13
          go_wp2_with fail
          refine (fetches_any _).mono ?_
          rintro r w14 ⟨rfl, hB14⟩
          have BF := Lib.hid (below_trans (K13.out.bel rfl) hB14 (K13.out.bel rfl).size)
          clear hB14
          go_wp2_with fail
          go_ret
          exact ⟨rfl, BF.out⟩
    · have hd : (ofE l == 0) = false := by simpa using hl
      have HL := Lib.hid hl
      clear hl hs
      go_enter Try.func5, Try.ntmps5
      go_wp2_with fail
      refine (snew_any n w).mono ?_
      rintro r w1 (⟨_, rfl, hA, hB⟩ | ⟨h, _⟩)
      rotate_left
      · exact absurd hn h
      have S1 := Lib.hid (HS.out.below (Nat.le_refl _) hB)
      have B1 := Lib.hid hB
      clear hA hB hn
      go_wp2_with fail
      refine (of_any _ l _ S1.out).mono ?_
      rintro r w2 (⟨h, _⟩ | ⟨_, rfl, rfl⟩)
      · exact absurd h HL.out
      go_wp2_with fail
      refine (fetches_any _).mono ?_
      rintro r w14 ⟨rfl, hB14⟩
      have BF := Lib.hid (below_trans B1.out hB14 B1.out.size)
      clear hB14
      go_wp2_with fail
      go_ret
      exact ⟨rfl, BF.out⟩
  · go_enter Try.func5, Try.ntmps5
    go_wp2_with fail
    refine (snew_any n w).mono ?_
    rintro r w1 (⟨h, _⟩ | ⟨_, rfl, rfl⟩)
    · exact absurd h hn
    go_wp2_with fail
    refine (of_any _ l _ HS.out).mono ?_
    rintro r w2 (⟨_, b, g, rfl, _, hB, _, _⟩ | ⟨_, rfl, rfl⟩)
    · have BB := Lib.hid hB
      clear hB
      go_wp2_with fail
      refine (fetches_any _).mono ?_
      rintro r w14 ⟨rfl, hB14⟩
      have BF := Lib.hid (below_trans BB.out hB14 BB.out.size)
      clear hB14
      go_wp2_with fail
      go_ret
      exact ⟨rfl, BF.out⟩
    · go_wp2_with fail
      refine (fetches_any _).mono ?_
      rintro r w14 ⟨rfl, hB14⟩
      go_wp2_with fail
      go_ret
      exact ⟨rfl, hB14⟩

end Go.Proofs.Ytlkfhobacgnckaa

