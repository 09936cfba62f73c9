
/-
  staithelaw15: SlotsDrop.
-/
import Derived.Test.YtlkfhobacgnckaaLaw15a
import Derived.Test.YtlkfhobacgnckaaArgS
namespace Go.Proofs.Ytlkfhobacgnckaa
open Go.RowKit
set_option linter.unusedVariables false
set_option linter.unusedSimpArgs false
set_option maxRecDepth 100000
attribute [local go_sem ↓] Go.wp_at_zero Go.wp_at_succ

theorem SlAt.lens {B s : Nat} {w : World} {F : Nat → Option Ck} {vS vR : Value} {sb rb : List Nat} {cb : Option Nat} {M : Md} (h : SlAt B s w F vS vR sb rb cb M) : sb.length = M.S.length ∧ rb.length = M.R.length := ⟨h.hS.len, h.hR.len⟩
/-- What a step does to plain slots. -/
theorem Md.sn_send (M : Md) (l : List Int) : (M.send l).sn ≤ M.sn + 1 := by
  unfold Md.send
  split
  · exact Nat.le_refl _
  · exact Nat.le_succ _
theorem Md.sn_recv (M : Md) (l : List Int) : (M.recv l).sn ≤ M.sn := by
  unfold Md.recv
  split <;> exact Nat.le_refl _
theorem Md.sn_close (M : Md) (l : List Int) : (M.close l).sn ≤ M.sn := by
  unfold Md.close
  split <;> exact Nat.le_refl _
/-- The loop's state. -/
def DropAt (w : World) (j : Nat) (wr : World) : Prop :=
  ∃ vS vR sb rb cb F M, SlAt w.heap.size w.heap.size wr F vS vR sb rb cb M ∧ M.Ok ∧ M.sn ≤ j ∧ KeepS w.heap.size w wr
theorem DropAt.below {w wr w' : World} {j : Nat} (h : DropAt w j wr) (hB : Below wr.heap.size wr w') : DropAt w j w' := by
  obtain ⟨vS, vR, sb, rb, cb, F, M, h1, h2, h3, h4⟩ := h
  exact ⟨vS, vR, sb, rb, cb, F, M, h1.below hB, h2, h3, h4.trans (keepS_below h1.bw hB)⟩
theorem DropAt.next {w wr : World} {j : Nat} (h : DropAt w j wr) : DropAt w (j + 1) wr := by
  obtain ⟨vS, vR, sb, rb, cb, F, M, h1, h2, h3, h4⟩ := h
  exact ⟨vS, vR, sb, rb, cb, F, M, h1, h2, by omega, h4⟩
theorem kept_small {B s : Nat} {w : World} {F : Nat → Option Ck} {vS vR : Value} {sb rb : List Nat} {cb : Option Nat} {M : Md} (h : SlAt B s w F vS vR sb rb cb M) (ok : M.Ok) (hs : M.sn ≤ 1000) : sb.length ≤ 40000 ∧ rb.length ≤ 40000 := by
  have h1 := h.lens
  have h2 := ok.ls
  have h3 := Md.small ok
  omega
theorem step3_cells {w : World} {b : Nat} {x y z : Value} {t : TypeId} (h : w.heap[b]? = some (Obj.cells #[x, y, z] t (0, 0))) : w.cell? ⟨b, 0, none⟩ = some x ∧ w.cell? ⟨b, 1, none⟩ = some y ∧ w.cell? ⟨b, 2, none⟩ = some z := by
  refine ⟨?_, ?_, ?_⟩ <;> (simp only [World.cell?, h]; rfl)

set_option maxHeartbeats 8000000 in
theorem sdrop_law (n : Int) (v : Value) (ss : List Stp) (t : Int) (w : World) (hs : StpsOf w v ss) :
    Calls Try.prog 4 #[.int .i64 n, v, .int .i64 t] w (RetB (.bool true) w) := by
  have HS := Lib.hid hs
  obtain ⟨ao, cap, rfl, hc⟩ := hs
  clear hc
  by_cases hn : 0 ≤ n ∧ n ≤ 4
  · by_cases hlong : 100 < ss.length
    · have hlong' : (100 : Int) < ss.length := by omega
      clear hlong
      go_enter Try.func4, Try.ntmps4
      go_wp2_with fail
      refine (snew_any n w).mono ?_
      rintro r w1 (⟨_, rfl, hA, hB⟩ | ⟨h, _⟩)
      rotate_left
      · exact absurd hn h
      have BB := Lib.hid hB
      clear hA hB
      go_wp2_with fail
      refine (fetches_any _).mono ?_
      rintro r w2 ⟨rfl, hB2⟩
      have BF := Lib.hid (below_trans BB.out hB2 BB.out.size)
      clear hB2
      go_wp2_with fail
      go_ret
      exact ⟨rfl, BF.out⟩
    · have b2 : (ss.length : Int) ≤ 100 := by omega
      have b0 : decide ((100 : Int) < ss.length) = false := decide_eq_false (by omega)
      have LN := Lib.hid (show ss.length ≤ 100 by omega)
      clear hlong
      go_enter Try.func4, Try.ntmps4
      go_wp2_with fail
      refine (snew_any n w).mono ?_
      rintro r w1 (⟨_, rfl, hA, hB⟩ | ⟨h, _⟩)
      rotate_left
      · exact absurd hn h
      have START := Lib.hid (show DropAt w 0 w1 from ⟨_, _, _, _, _, _, _, hA, Md.new_ok _ (by omega), Nat.le_refl _, keepS_below (Nat.le_refl _) hB⟩)
      clear hA hB hn
      go_wp2_with fail
      go_loopw [46] (fun i wr => ∃ (j : Nat), j ≤ ss.length ∧ i = .int .i64 j ∧ DropAt w j wr) (fun i _ => ss.length - (intOf i).toNat)
      case atStart => exact ⟨0, by omega, rfl, START.out⟩
      case round =>
        obtain ⟨j, hj, rfl, hat⟩ := hrel
        have AT := Lib.hid hat
        clear hat
        by_cases hlt : j < ss.length
        · have hlt' : (j : Int) < ss.length := by omega
          obtain ⟨vS, vR, sb, rb, cb, F, M, hA, hok, hsn, hK⟩ := AT.out
          obtain ⟨_, _, e, hsc⟩ := (HS.out.below (hK.bel rfl))
          cases e
          obtain ⟨g, z, rfl, hsd⟩ := hsc (by omega)
          obtain ⟨c0, c1, cv, c2, hcv⟩ := hsd j hlt
          obtain ⟨⟨What, Tid, C⟩, hst⟩ : ∃ s, ss.getD j ⟨0, 0, []⟩ = s := ⟨_, rfl⟩
          rw [hst] at c0 c1 hcv
          dsimp only at c0 c1 hcv
          obtain ⟨ca, cc, hcve⟩ : ∃ ca cc, cv = .slice ca C.length cc := by
            obtain ⟨ca, cc, e, _⟩ := hcv
            exact ⟨ca, cc, e⟩
          subst hcve
          obtain ⟨X, hX⟩ : ∃ X, wr.alloc (.cells #[.int .i64 What, .int .i64 Tid, .slice ca C.length cc] 39) = X := ⟨_, rfl⟩
          have BX : Below wr.heap.size wr X := by rw [← hX]; exact (Below.refl _ _).alloc (Nat.le_refl _) _
          have hsX : X.heap[wr.heap.size]? = some (Obj.cells #[.int .i64 What, .int .i64 Tid, .slice ca C.length cc] 39 (0, 0)) := by rw [← hX]; exact heap_alloc_new wr _
          obtain ⟨x0, x1, x2⟩ := step3_cells hsX
          have HX := Lib.hid hX
          have AX := Lib.hid (hA.below BX)
          have KX := Lib.hid (hK.trans (keepS_below hA.bw BX))
          have CX := Lib.hid (hcv.below (Nat.le_refl _) BX)
          have SX := Lib.hid hsX
          have OK := Lib.hid hok
          have SN := Lib.hid hsn
          have ATX := Lib.hid (AT.out.below BX)
          clear hA hK hcv hsc hsd hst BX hok hsn hsX
          go_wp2_with fail
          refine (fam_of AX.out.fam AX.out.bw _ C CX.out).mono ?_
          rintro r w2 (⟨he, c, F2, rfl, hf2, hc2, hlt2, hs2, hB2⟩ | ⟨he, rfl, rfl⟩)
          rotate_left
          · have hd : (ofE C == 0) = false := by simpa using he
            clear he hX
            go_wp2_with fail
            go_roundw
            case rel => exact ⟨j + 1, by omega, by go_num, ATX.out.next⟩
            case measure => simp [intOf] <;> omega
          · have A2 := Lib.hid (AX.out.ofd hf2 hs2 hB2)
            have C2 := Lib.hid hc2
            have K2 := Lib.hid (KX.out.trans (keepS_below AX.out.bw hB2))
            have y0 := (hB2.cell (p := ⟨wr.heap.size, 0, none⟩) (lt_of_heap SX.out)).trans x0
            have AT2 := Lib.hid (ATX.out.below hB2)
            clear he hf2 hc2 hlt2 hs2 hB2 hX x0 x1 x2 c0 c1 c2 ATX
            have cases : (What = 0 ∨ What = 1) ∨ (What = 2 ∨ What = 3) ∨ What = 4 ∨ ((What == 0) = false ∧ (What == 1) = false ∧ (What == 2) = false ∧ (What == 3) = false ∧ (What == 4) = false) := by
              simp only [beq_eq_false_iff_ne]
              omega
            rcases cases with (rfl | rfl) | (rfl | rfl) | rfl | ⟨e0, e1, e2, e3, e4⟩
            · go_wp2_with fail
              refine (send_any A2.out OK.out (by have := SN.out; have := LN.out; omega) c C C2.out).mono ?_
              rintro r w4 ⟨p, vS4, vR4, sb4, rb4, F4, rfl, hA4, hs4, hf4, ho4, hk4⟩
              have AN := Lib.hid (show DropAt w (j + 1) w4 from ⟨_, _, _, _, _, _, _, hA4, Md.send_ok OK.out _, Nat.le_trans (Md.sn_send _ _) (by have := SN.out; omega), K2.out.trans hk4⟩)
              clear hA4 hs4 hf4 ho4 hk4 y0
              go_wp2_with fail
              go_roundw
              case rel => exact ⟨j + 1, by omega, by go_num, AN.out⟩
              case measure => simp [intOf] <;> omega
            · go_wp2_with fail
              refine (send_any A2.out OK.out (by have := SN.out; have := LN.out; omega) c C C2.out).mono ?_
              rintro r w4 ⟨p, vS4, vR4, sb4, rb4, F4, rfl, hA4, hs4, hf4, ho4, hk4⟩
              have AN := Lib.hid (show DropAt w (j + 1) w4 from ⟨_, _, _, _, _, _, _, hA4, Md.send_ok OK.out _, Nat.le_trans (Md.sn_send _ _) (by have := SN.out; omega), K2.out.trans hk4⟩)
              clear hA4 hs4 hf4 ho4 hk4 y0
              go_wp2_with fail
              go_roundw
              case rel => exact ⟨j + 1, by omega, by go_num, AN.out⟩
              case measure => simp [intOf] <;> omega
            · go_wp2_with fail
              refine (recv_any A2.out OK.out (by have := SN.out; have := LN.out; omega) c C C2.out).mono ?_
              rintro r w4 ⟨p, vS4, vR4, sb4, rb4, F4, rfl, hA4, hs4, hf4, ho4, hk4⟩
              have AN := Lib.hid (show DropAt w (j + 1) w4 from ⟨_, _, _, _, _, _, _, hA4, Md.recv_ok OK.out _, Nat.le_trans (Md.sn_recv _ _) (by have := SN.out; omega), K2.out.trans hk4⟩)
              clear hA4 hs4 hf4 ho4 hk4 y0
              go_wp2_with fail
              go_roundw
              case rel => exact ⟨j + 1, by omega, by go_num, AN.out⟩
              case measure => simp [intOf] <;> omega
            · go_wp2_with fail
              refine (recv_any A2.out OK.out (by have := SN.out; have := LN.out; omega) c C C2.out).mono ?_
              rintro r w4 ⟨p, vS4, vR4, sb4, rb4, F4, rfl, hA4, hs4, hf4, ho4, hk4⟩
              have AN := Lib.hid (show DropAt w (j + 1) w4 from ⟨_, _, _, _, _, _, _, hA4, Md.recv_ok OK.out _, Nat.le_trans (Md.sn_recv _ _) (by have := SN.out; omega), K2.out.trans hk4⟩)
              clear hA4 hs4 hf4 ho4 hk4 y0
              go_wp2_with fail
              go_roundw
              case rel => exact ⟨j + 1, by omega, by go_num, AN.out⟩
              case measure => simp [intOf] <;> omega
            · go_wp2_with fail
              refine (sclose_any A2.out c C C2.out).mono ?_
              rintro r w4 ⟨cb4, F4, rfl, hA4, hs4, ho4, hk4⟩
              have AN := Lib.hid (show DropAt w (j + 1) w4 from ⟨_, _, _, _, _, _, _, hA4, Md.close_ok OK.out _, Nat.le_trans (Md.sn_close _ _) (by have := SN.out; omega), K2.out.trans hk4⟩)
              clear hA4 hs4 ho4 hk4 y0
              go_wp2_with fail
              go_roundw
              case rel => exact ⟨j + 1, by omega, by go_num, AN.out⟩
              case measure => simp [intOf] <;> omega
            · go_wp2_with fail
              go_roundw
              case rel => exact ⟨j + 1, by omega, by go_num, AT2.out.next⟩
              case measure => simp [intOf] <;> omega
        · have hge : (ss.length : Int) ≤ j := by omega
          clear hlt
          obtain ⟨vS, vR, sb, rb, cb, F, M, hA, hok, hsn, hK⟩ := AT.out
          have OK := Lib.hid hok
          have SM := Lib.hid (kept_small hA hok (by have := LN.out; omega))
          have A0 := Lib.hid hA
          have K0 := Lib.hid hK
          clear hA hok hsn hK AT
          go_wp2_with fail
          refine (held_any A0.out SM.out.1 SM.out.2).mono ?_
          rintro r w2 ⟨v2, hb, F2, rfl, hrow2, hf2, hs2, hh2, hnd2, hnew2, hk2⟩
          have A2 := Lib.hid (A0.out.keepP hf2 hs2 hk2)
          have K2 := Lib.hid (K0.out.trans hk2.s)
          have R2 := Lib.hid hrow2
          have H2 := Lib.hid hh2
          have N2 := Lib.hid (And.intro hnd2 (show ∀ b, b ∈ hb → b ∉ sb ++ rb ++ cb.toList from fun b hbm hm => by have := A0.out.old _ hm; have := hnew2 b hbm; omega))
          clear hrow2 hf2 hs2 hh2 hnd2 hnew2 hk2 K0
          go_wp2_with fail
          refine (counts_any A2.out).mono ?_
          rintro r w3 ⟨rfl, m3, hw3⟩
          have B3 : Below w2.heap.size w2 w3 := by rw [hw3]; exact below_drewN (Below.refl _ _) _
          have A3 := Lib.hid (A2.out.below B3)
          have P3 := Lib.hid (KeepP.below A2.out.bw B3)
          clear hw3 B3
          go_wp2_with fail
          refine (sdrop_any A3.out SM.out.1 SM.out.2 t).mono ?_
          rintro r w4 ⟨F4, rfl, hA4, ho4, hk4⟩
          have A4 := Lib.hid hA4
          have P4 := Lib.hid (P3.out.trans hk4)
          have H4 := Lib.hid (show Hass F4 hb M.kept from Hass.of_at H2.out.len (fun j hj => ho4 _ _ (N2.out.2 _ (by simp only [List.getD, List.getElem?_eq_getElem hj, Option.getD_some]; exact List.getElem_mem _)) (H2.out.at j hj)))
          clear hA4 ho4 hk4 P3
          go_wp2_with fail
          refine (held_any A4.out SM.out.1 SM.out.2).mono ?_
          rintro r w5 ⟨v5, hc, F5, rfl, hrow5, hf5, hs5, hh5, hnd5, hnew5, hk5⟩
          have A5 := Lib.hid (A4.out.keepP hf5 hs5 hk5)
          have P5 := Lib.hid (P4.out.trans hk5)
          have R5 := Lib.hid hrow5
          have H5 := Lib.hid hh5
          have G5 := Lib.hid (H4.out.same hs5)
          have N5 := Lib.hid (show ∀ b, b ∈ hb → b ∉ hc from fun b hbm hm => by
            obtain ⟨l, hl⟩ := Hass.mem H4.out b hbm
            have h1 := A4.out.fam.lt hl
            have h2 := hnew5 b hm
            omega)
          clear hrow5 hf5 hs5 hh5 hnd5 hnew5 hk5 P4 H4
          go_wp2_with fail
          refine (counts_any A5.out).mono ?_
          rintro r w6 ⟨rfl, m6, hw6⟩
          have B6 : Below w5.heap.size w5 w6 := by rw [hw6]; exact below_drewN (Below.refl _ _) _
          have A6 := Lib.hid (A5.out.below B6)
          have P6 := Lib.hid (P5.out.trans (KeepP.below A5.out.bw B6))
          have RC := ownsRow_keep R2.out (P6.out.1 _ (by decide) (by decide))
          have RD := ownsRow_keep R5.out (keepT_below B6)
          obtain ⟨q, hq⟩ : ∃ q, hb.length = q := ⟨_, rfl⟩
          have hq2 : hc.length = q := by rw [H5.out.len, ← hq, H2.out.len]; simp only [Md.kept, Md.drop, List.length_append, List.length_map]; cases M.C <;> rfl
          have QS := Lib.hid (show (q : Int) ≤ 90000 by
            have h1 := H2.out.len
            have h2 := A0.out.lens
            have h3 : M.C.toList.length ≤ 1 := by cases M.C <;> simp
            simp only [Md.kept, List.length_append] at h1
            have := SM.out
            omega)
          have Q1 := Lib.hid hq
          have Q2 := Lib.hid hq2
          obtain ⟨a2, k2, rfl⟩ := owns_slice RC
          obtain ⟨a5, k5, rfl⟩ := owns_slice RD
          have ND := Lib.hid (show ∀ j, j < q → ∀ i, i < q → i ≠ j → hb.getD i 0 ≠ hb.getD j 0 from fun j hj i hi hij => by
            have p := List.pairwise_iff_getElem.1 N2.out.1
            simp only [List.getD, List.getElem?_eq_getElem (show i < hb.length by omega), List.getElem?_eq_getElem (show j < hb.length by omega), Option.getD_some]
            intro e
            rcases Nat.lt_or_gt_of_ne hij with h1 | h1
            · exact p i j (by omega) (by omega) h1 e
            · exact p j i (by omega) (by omega) h1 e.symm)
          have NC := Lib.hid (show ∀ j, j < q → ∀ i, i < q → hc.getD i 0 ≠ hb.getD j 0 from fun j hj i hi => by
            simp only [List.getD, List.getElem?_eq_getElem (show i < hc.length by omega), List.getElem?_eq_getElem (show j < hb.length by omega), Option.getD_some]
            intro e
            exact N5.out _ (List.getElem_mem _) (e ▸ List.getElem_mem _))
          have S1 := Lib.hid (show ∀ j, 0 ≤ j → j < q → Has F5 (hb.getD j 0) (M.kept.getD j []) from fun j _ hj => G5.out.at j (by omega))
          have S2 := Lib.hid (show ∀ j, j < q → Has F5 (hc.getD j 0) (drop0 t (M.kept.getD j [])) from fun j hj => by
            have h1 := H5.out.at j (by omega)
            have e : (M.drop t).kept = M.kept.map (drop0 t) := by
              unfold Md.kept Md.drop
              simp only [List.map_append]
              cases M.C <;> rfl
            rw [e, getD_map_drop t _ j (by rw [← H2.out.len]; omega)] at h1
            exact h1)
          rw [hq] at RC ⊢
          rw [hq2] at RD ⊢
          have RR2 := Lib.hid RC
          have RR5 := Lib.hid RD
          have OKK := Lib.hid (show ∀ j, (trim (drop0 t (M.kept.getD j []))).length ≤ 140737488351232 ∨ q ≤ j from fun j => by
            by_cases hj : j < q
            · left
              obtain ⟨k, h1, h2⟩ := S2.out j hj
              have h3 := trim_small (A6.out.fam.here _ _ h1).ok
              rwa [trim_ext h2] at h3
            · right; omega)
          have b7 := QS.out
          have HB6 := Lib.hid A6.out.fam
          have KB6 := Lib.hid (K2.out.trans P6.out.s)
          clear hw6 B6 RC RD P5 A5 A4 A3 A2 A6 R2 R5 G5 H5 H2 N5 N2
          clear hq hq2
          have SNE : (M.drop t).sn = M.sn ∧ (M.drop t).rn = M.rn := ⟨rfl, rfl⟩
          rw [SNE.1, SNE.2]
          clear SNE
          go_wp2_with fail
          go_loopw [112] (fun i w' => ∃ (k : Nat) (F' : Nat → Option Ck), k ≤ q ∧ i = .int .i64 k ∧ Fam w.heap.size w' F' ∧ (∀ j, k ≤ j → j < q → Has F' (hb.getD j 0) (M.kept.getD j [])) ∧ (∀ j, j < q → Has F' (hc.getD j 0) (drop0 t (M.kept.getD j []))) ∧ KeepP w.heap.size w6 w') (fun i _ => q - (intOf i).toNat)
          case atStart => exact ⟨0, F5, by omega, rfl, HB6.out, S1.out, S2.out, KeepP.refl _ _⟩
          case round =>
            obtain ⟨k, F', hk, rfl, hfam, h1, h2, hkp⟩ := hrel
            have FF := Lib.hid hfam
            have T1 := Lib.hid h1
            have T2 := Lib.hid h2
            have KP := Lib.hid hkp
            clear hfam h1 h2 hkp
            by_cases hlt : k < q
            · have hlt' : (k : Int) < q := by omega
              obtain ⟨_, _, e, _, hd⟩ := PSrc.keep (l := hb) (by rw [Q1.out]; exact RR2.out) (KP.out.1 _ (by decide) (by decide))
              obtain ⟨g2, z2, rfl, hd2⟩ := hd (by have := Q1.out; omega)
              rw [Q1.out] at e
              cases e
              have c2 := hd2 k (by have := Q1.out; omega)
              clear hd hd2
              obtain ⟨x, hx⟩ : ∃ x, hb.getD k 0 = x := ⟨_, rfl⟩
              obtain ⟨y, hy⟩ : ∃ y, hc.getD k 0 = y := ⟨_, rfl⟩
              have XX := Lib.hid (show Has F' x (M.kept.getD k []) by rw [← hx]; exact T1.out k (Nat.le_refl _) hlt)
              have YY := Lib.hid (show Has F' y (drop0 t (M.kept.getD k [])) by rw [← hy]; exact T2.out k hlt)
              have XY := Lib.hid (show y ≠ x by rw [← hx, ← hy]; exact NC.out k hlt k hlt)
              rw [hx] at c2
              have HXX := Lib.hid hx
              have HYY := Lib.hid hy
              clear hx hy
              go_wp2_with fail
              refine (fam_drop FF.out x _ XX.out t).mono ?_
              rintro r w7 ⟨v7, F7, rfl, hf7, hx7, hr7, hk7⟩
              have F7' := Lib.hid hf7
              have X7 := Lib.hid hx7
              have R7 := Lib.hid hr7
              have Y7 := Lib.hid (YY.out.rest hr7 XY.out)
              have KP7 := Lib.hid (KP.out.trans hk7)
              obtain ⟨_, _, e, _, hd⟩ := PSrc.keep (l := hb) (by rw [Q1.out]; exact RR2.out) (KP7.out.1 _ (by decide) (by decide))
              obtain ⟨_, _, e9, hd2⟩ := hd (by have := Q1.out; omega)
              cases e
              cases e9
              have d2 := hd2 k (by have := Q1.out; omega)
              clear hd hd2
              obtain ⟨_, _, e, _, hd⟩ := PSrc.keep (l := hc) (by rw [Q2.out]; exact RR5.out) ((KP7.out.1 _ (by decide) (by decide)))
              obtain ⟨g5, z5, rfl, hd2⟩ := hd (by have := Q2.out; omega)
              rw [Q2.out] at e
              cases e
              have d5 := hd2 k (by have := Q2.out; omega)
              rw [HXX.out] at d2
              rw [HYY.out] at d5
              clear hd hd2 hf7 hx7 hr7 hk7 c2
              go_wp2_with fail
              go_region_held3 (fun w' => w'.cell? ⟨g2, z2 + k, none⟩ = some (.pointer (some ⟨x, 0, none⟩)) ∧ w'.cell? ⟨g5, z5 + k, none⟩ = some (.pointer (some ⟨y, 0, none⟩))) (go_keep)
                (first
                  | (go_at_call 19; refine (ints_any _ _ _ _ _ V89.out V9.out ((OKK.out k).resolve_right (by omega)) ((OKK.out k).resolve_right (by omega))).mono ?_; rintro r w10 ⟨rfl, m10, hw10⟩; have B10 := Lib.hid (show Below w7.heap.size w7 w10 by rw [hw10]; exact below_drewN B79.out _); have o2 := (B10.out.cell (p := ⟨g2, z2 + k, none⟩) (block_lt_of_cell d2)).trans d2; have o5 := (B10.out.cell (p := ⟨g5, z5 + k, none⟩) (block_lt_of_cell d5)).trans d5; rw [show decide (trim (drop0 t (M.kept.getD k [])) = trim (drop0 t (M.kept.getD k []))) = true from decide_eq_true rfl]; clear hw10)
                  | (go_at_call 20; (with_reducible refine (fam_list (F7'.out.below B78.out) y _ Y7.out).mono ?_); rintro r w9 ⟨v9, rfl, hv9, hB9⟩; have B79 := Lib.hid (below_trans B78.out hB9 B78.out.size); have V9 := Lib.hid hv9; have V89 := Lib.hid (V8.out.below (Nat.le_refl _) hB9); have n2 := (B79.out.cell (p := ⟨g2, z2 + k, none⟩) (block_lt_of_cell d2)).trans d2; have n5 := (B79.out.cell (p := ⟨g5, z5 + k, none⟩) (block_lt_of_cell d5)).trans d5; clear hv9 hB9)
                  | (go_at_call 20; (with_reducible refine (fam_list (show Fam w.heap.size w7.drew F7 from F7'.out.below ((Below.refl _ _).drew)) x _ X7.out).mono ?_); rintro r w8 ⟨v8, rfl, hv8, hB8⟩; have B78 := Lib.hid (below_trans ((Below.refl w7.heap.size w7).drew) hB8 (Nat.le_refl _)); have V8 := Lib.hid hv8; have m2 := (B78.out.cell (p := ⟨g2, z2 + k, none⟩) (block_lt_of_cell d2)).trans d2; have m5 := (B78.out.cell (p := ⟨g5, z5 + k, none⟩) (block_lt_of_cell d5)).trans d5; clear hv8 hB8))
              go_wp2_with fail
              have F10 := Lib.hid (F7'.out.below B10.out)
              have KP10 := Lib.hid (KP7.out.trans (KeepP.below (by have := KP7.out.size (Nat.le_trans (KB6.out.bel rfl).size (Nat.le_refl _)); have := (KB6.out.bel rfl).size; omega) B10.out))
              go_roundw
              case rel => exact ⟨k + 1, F7, by omega, by go_num, F10.out, fun j h1 h2 => (T1.out j (by omega) h2).rest R7.out (by rw [← HXX.out]; exact ND.out k hlt j h2 (by omega)), fun j h2 => (T2.out j h2).rest R7.out (by rw [← HXX.out]; exact NC.out k hlt j h2), KP10.out⟩
              case measure => simp [intOf] <;> omega
            · have hge : (q : Int) ≤ k := by omega
              have BK := Lib.hid ((KB6.out.trans KP.out.s).bel rfl)
              clear hlt
              go_wp2_with fail
              refine (fetches_any _).mono ?_
              rintro r w12 ⟨rfl, hB12⟩
              have BF := Lib.hid (below_trans BK.out hB12 BK.out.size)
              clear hB12
              go_wp2_with fail
              go_ret
              exact ⟨rfl, BF.out⟩
  · go_enter Try.func4, Try.ntmps4
    go_wp2_with fail
    refine (snew_any n w).mono ?_
    rintro r w1 (⟨h, _⟩ | ⟨_, rfl, rfl⟩)
    · exact absurd h hn
    go_wp2_with fail
    refine (fetches_any _).mono ?_
    rintro r w2 ⟨rfl, hB2⟩
    go_wp2_with fail
    go_ret
    exact ⟨rfl, hB2⟩

end Go.Proofs.Ytlkfhobacgnckaa

