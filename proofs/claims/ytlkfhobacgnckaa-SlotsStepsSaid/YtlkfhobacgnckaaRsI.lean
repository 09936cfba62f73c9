
/-
  staitheref15: Drop.
-/
import Derived.Test.YtlkfhobacgnckaaRsH
namespace Go.Proofs.Ytlkfhobacgnckaa
open Go.RowKit
set_option linter.unusedVariables false
set_option linter.unusedSimpArgs false
set_option maxRecDepth 100000

def Rf.drop (Q : Rf) (t : Int) : Rf := ⟨Q.size, Q.S.map (putT t), Q.R.map (putT t), Q.cl, putT t Q.cg⟩
def QDrop (B q : Nat) (vS vR : Value) (Q : Rf) (t : Int) (w : World) (r : Ending) (w' : World) : Prop := r = .returned (.tuple #[]) ∧ QAt B q w' vS vR (Q.drop t) ∧ KeepQ B w w'
attribute [local go_sem ↓] exec_ld56 exec_st56
set_option maxHeartbeats 8000000 in
theorem drop15_any {B q : Nat} {w : World} {vS vR : Value} {Q : Rf} (h : QAt B q w vS vR Q) (hs : Q.S.length ≤ 30000) (hr : Q.R.length ≤ 30000) (t : Int) :
    Calls Try.prog 29 #[.pointer (some ⟨q, 0, none⟩), .int .i64 t] w (QDrop B q vS vR Q t w) := by
  obtain ⟨Z0, hZ0⟩ : ∃ Z, (ints zeros).toArray = Z := ⟨_, rfl⟩
  have hz := (zero_of_info rinfo).1
  rw [hZ0] at hz
  have HZ0 := Lib.hid hZ0
  obtain ⟨aS, cS, e1⟩ := owns_slice h.rowS
  obtain ⟨aR, cR, e2⟩ := owns_slice h.rowR
  subst e1; subst e2
  have H := Lib.hid h
  obtain ⟨sn, hsn⟩ : ∃ n, Q.S.length = n := ⟨_, rfl⟩
  obtain ⟨rn, hrn⟩ : ∃ n, Q.R.length = n := ⟨_, rfl⟩
  have c1 := h.c1
  rw [hsn] at c1 hs
  rw [hrn] at hr
  have SN := Lib.hid hsn
  have RN := Lib.hid hrn
  have BW := Lib.hid h.bw
  clear h hsn hrn hZ0
  go_enter Try.func29, Try.ntmps29
  go_wp2_with fail
  go_loopw [13] (fun i wr => ∃ (k : Nat), k ≤ sn ∧ i = .int .i64 k ∧ QAt B q wr (.slice aS Q.S.length cS) (.slice aR Q.R.length cR) ⟨Q.size, dropK t k Q.S, Q.R, Q.cl, Q.cg⟩ ∧ KeepQ B w wr) (fun i _ => sn - (intOf i).toNat)
  case atStart => exact ⟨0, by omega, rfl, by rw [dropK_zero]; exact H.out, KeepQ.refl _ _⟩
  case round =>
    obtain ⟨k, hk, rfl, hQ, hK⟩ := hrel
    have HQ := Lib.hid hQ
    have HK := Lib.hid hK
    clear hQ hK c1
    have c1 : wr.cell? ⟨q, 1, none⟩ = some (.slice aS sn cS) := by have := HQ.out.c1; rw [SN.out] at this; exact this
    by_cases hlt : k < sn
    · have hlt' : (k : Int) < (sn : Int) := by omega
      have LS := Lib.hid (show k < Q.S.length from by rw [SN.out]; exact hlt)
      have LK := Lib.hid (show k < (dropK t k Q.S).length from by rw [dropK_len]; exact LS.out)
      obtain ⟨g, cap, e, L⟩ := row_lg HQ.out.rowS HQ.out.lS k LK.out
      rw [dropK_len, SN.out] at e
      cases e
      have hll := HQ.out.lS ((dropK t k Q.S).getD k []) (by rw [List.getD_eq_getElem?_getD, List.getElem?_eq_getElem LK.out]; exact List.getElem_mem _)
      have SU := Lib.hid (dropK_succ t k Q.S LS.out)
      rw [dropK_at t k Q.S LS.out] at L hll
      obtain ⟨l, hl⟩ : ∃ l, Q.S.getD k [] = l := ⟨_, rfl⟩
      rw [hl] at L hll SU
      clear hl
      obtain ⟨Z, hZ⟩ : ∃ Z, (ints l).toArray = Z := ⟨_, rfl⟩
      have HZ := Lib.hid hZ
      have LL := Lib.hid L
      have HL := Lib.hid hll
      have HLI := Lib.hid (show (Try.prog.info? 56).map (·.size) = some (ints l).length from by rw [rsize, length_ints, hll])
      have ZL := Lib.hid (show (ints zeros).length = (ints l).length from by rw [length_ints, length_ints, hll]; simp [zeros])
      have B1 := Lib.hid ((Below.refl wr.heap.size wr).alloc (Nat.le_refl _) (.cells Z0 56))
      have N1 := Lib.hid (Lt.new wr (ints zeros) 56 HZ0.out)
      have Q1 := Lib.hid (HQ.out.below B1.out)
      have gl := L.lt (by rw [length_ints, hll]; decide)
      have bwr := HQ.out.bw
      clear L hll hZ
      go_wp2_with (first
        | (with_reducible refine wpList_load_lg rfl 56 (.tmp 21) (by rfl) g (k * 256) (by with_unfolding_all rfl) (ints l) _ Z HZ.out LL.out Try.underlying56 rfl HLI.out ?_)
        | (with_reducible refine wpList_store_lg rfl 56 (.tmp 5) (.tmp 22) (by rfl) wr.heap.size 0 (by with_unfolding_all rfl) (ints l) (ints zeros) Z (by with_unfolding_all rfl) HZ.out N1.out.lg ZL.out HLI.out (ints1 l) ?_))
      intro w2 L2 T2
      have N2 := Lib.hid (N1.out.stored T2 L2)
      have T2T := T2.turned
      have B2 := Lib.hid (show Below wr.heap.size wr w2 from T2T.below B1.out (Nat.le_refl _) (fun i e => by rw [e]; exact Nat.le_refl _))
      clear L2 T2 T2T
      go_wp2_with fail
      refine (rc_put wr.heap.size 0 l t w2 (N2.out.lg.rc HL.out)).mono ?_
      rintro r w3 ⟨e, rfl, hrc, T3⟩
      have B3 := Lib.hid (show Below wr.heap.size wr w3 from T3.turned.below B2.out (Nat.le_refl _) (fun i e => by rw [e]; exact Nat.le_refl _))
      have Q3 := Lib.hid (HQ.out.below B3.out)
      have QD := Lib.hid (HQ.out.below B3.out.drew)
      have KD := Lib.hid (HK.out.trans (KeepQ.below bwr B3.out.drew))
      obtain ⟨m, hm⟩ : ∃ m, putT t l = m := ⟨_, rfl⟩
      rw [hm] at hrc SU
      have ML := Lib.hid (show m.length = 256 from by rw [← hm, putT_len]; exact HL.out)
      clear hm
      obtain ⟨Zm, hZm⟩ : ∃ Z, (ints m).toArray = Z := ⟨_, rfl⟩
      have HZm := Lib.hid hZm
      have L3 := Lib.hid hrc.lg
      have D3 := Lib.hid (show Lg w3.drew g (k * 256) (ints l) from LL.out.below (by rw [length_ints, HL.out]; decide) (Nat.le_refl _) B3.out.drew)
      clear hZm hrc T3
      go_upto_region 5 with fail
      have hL := run_ld56 wr.heap.size 0 m ML.out Zm HZm.out
      have hS := run_st56 g (k * 256) m l ML.out HL.out Zm HZm.out
      have d1 : w3.cell? ⟨q, 1, none⟩ = some (.slice (some ⟨g, 0, none⟩) sn cS) := by have := Q3.out.c1; rw [SN.out] at this; exact this
      have d2 : w3.drew.cell? ⟨q, 1, none⟩ = some (.slice (some ⟨g, 0, none⟩) sn cS) := by have := QD.out.c1; rw [SN.out] at this; exact this
      have d3 : w3.rangeAt wr.heap.size 0 (ints m) := L3.out.range
      have d4 : w3.drew.rangeAt wr.heap.size 0 (ints m) := (L3.out.block (w' := w3.drew) rfl).range
      have d5 : Lg w3 g (k * 256) (ints l) := D3.out.block rfl
      have d6 : Lg w3.drew g (k * 256) (ints l) := D3.out
      go_region_law (fail)
      all_goals
        have T5 := lg_stored D3.out ML.out HL.out
        have X5 := Lib.hid (QD.out.setS LK.out ML.out T5.2 T5.1)
        clear hL hS d1 d2 d3 d4 d5 d6 c1 T5
        go_wp2_with fail
        go_roundw
        case rel => exact ⟨k + 1, by omega, by go_num, by rw [SU.out]; exact X5.out.1, KD.out.trans X5.out.2⟩
        case measure => simp [intOf] <;> omega
    · have hge : (sn : Int) ≤ k := by omega
      have hkn : k = Q.S.length := by rw [SN.out]; omega
      have X0 := Lib.hid (show QAt B q wr (.slice aS Q.S.length cS) (.slice aR Q.R.length cR) ⟨Q.size, Q.S.map (putT t), Q.R, Q.cl, Q.cg⟩ from by have := HQ.out; rw [hkn, dropK_all] at this; exact this)
      have K0 := HK
      have c2 : wr.cell? ⟨q, 2, none⟩ = some (.slice aR rn cR) := by have := HQ.out.c2; rw [RN.out] at this; exact this
      clear hkn
      go_wp2_with fail
      go_loopw [38] (fun i wr => ∃ (k : Nat), k ≤ rn ∧ i = .int .i64 k ∧ QAt B q wr (.slice aS Q.S.length cS) (.slice aR Q.R.length cR) ⟨Q.size, Q.S.map (putT t), dropK t k Q.R, Q.cl, Q.cg⟩ ∧ KeepQ B w wr) (fun i _ => rn - (intOf i).toNat)
      case atStart => exact ⟨0, by omega, rfl, by rw [dropK_zero]; exact X0.out, K0.out⟩
      case round =>
        clear X0 K0 HQ HK c1 c2 hge hlt hk
        obtain ⟨k, hk, rfl, hQ, hK⟩ := hrel
        have HQ := Lib.hid hQ
        have HK := Lib.hid hK
        clear hQ hK
        have c1 : wr.cell? ⟨q, 2, none⟩ = some (.slice aR rn cR) := by have := HQ.out.c2; rw [RN.out] at this; exact this
        by_cases hlt : k < rn
        · have hlt' : (k : Int) < (rn : Int) := by omega
          have LS := Lib.hid (show k < Q.R.length from by rw [RN.out]; exact hlt)
          have LK := Lib.hid (show k < (dropK t k Q.R).length from by rw [dropK_len]; exact LS.out)
          obtain ⟨g, cap, e, L⟩ := row_lg HQ.out.rowR HQ.out.lR k LK.out
          rw [dropK_len, RN.out] at e
          cases e
          have hll := HQ.out.lR ((dropK t k Q.R).getD k []) (by rw [List.getD_eq_getElem?_getD, List.getElem?_eq_getElem LK.out]; exact List.getElem_mem _)
          have SU := Lib.hid (dropK_succ t k Q.R LS.out)
          rw [dropK_at t k Q.R LS.out] at L hll
          obtain ⟨l, hl⟩ : ∃ l, Q.R.getD k [] = l := ⟨_, rfl⟩
          rw [hl] at L hll SU
          clear hl
          obtain ⟨Z, hZ⟩ : ∃ Z, (ints l).toArray = Z := ⟨_, rfl⟩
          have HZ := Lib.hid hZ
          have LL := Lib.hid L
          have HL := Lib.hid hll
          have HLI := Lib.hid (show (Try.prog.info? 56).map (·.size) = some (ints l).length from by rw [rsize, length_ints, hll])
          have ZL := Lib.hid (show (ints zeros).length = (ints l).length from by rw [length_ints, length_ints, hll]; simp [zeros])
          have B1 := Lib.hid ((Below.refl wr.heap.size wr).alloc (Nat.le_refl _) (.cells Z0 56))
          have N1 := Lib.hid (Lt.new wr (ints zeros) 56 HZ0.out)
          have Q1 := Lib.hid (HQ.out.below B1.out)
          have gl := L.lt (by rw [length_ints, hll]; decide)
          have bwr := HQ.out.bw
          clear L hll hZ
          go_wp2_with (first
            | (with_reducible refine wpList_load_lg rfl 56 (.tmp 46) (by rfl) g (k * 256) (by with_unfolding_all rfl) (ints l) _ Z HZ.out LL.out Try.underlying56 rfl HLI.out ?_)
            | (with_reducible refine wpList_store_lg rfl 56 (.tmp 7) (.tmp 47) (by rfl) wr.heap.size 0 (by with_unfolding_all rfl) (ints l) (ints zeros) Z (by with_unfolding_all rfl) HZ.out N1.out.lg ZL.out HLI.out (ints1 l) ?_))
          intro w2 L2 T2
          have N2 := Lib.hid (N1.out.stored T2 L2)
          have T2T := T2.turned
          have B2 := Lib.hid (show Below wr.heap.size wr w2 from T2T.below B1.out (Nat.le_refl _) (fun i e => by rw [e]; exact Nat.le_refl _))
          clear L2 T2 T2T
          go_wp2_with fail
          refine (rc_put wr.heap.size 0 l t w2 (N2.out.lg.rc HL.out)).mono ?_
          rintro r w3 ⟨e, rfl, hrc, T3⟩
          have B3 := Lib.hid (show Below wr.heap.size wr w3 from T3.turned.below B2.out (Nat.le_refl _) (fun i e => by rw [e]; exact Nat.le_refl _))
          have Q3 := Lib.hid (HQ.out.below B3.out)
          have QD := Lib.hid (HQ.out.below B3.out.drew)
          have KD := Lib.hid (HK.out.trans (KeepQ.below bwr B3.out.drew))
          obtain ⟨m, hm⟩ : ∃ m, putT t l = m := ⟨_, rfl⟩
          rw [hm] at hrc SU
          have ML := Lib.hid (show m.length = 256 from by rw [← hm, putT_len]; exact HL.out)
          clear hm
          obtain ⟨Zm, hZm⟩ : ∃ Z, (ints m).toArray = Z := ⟨_, rfl⟩
          have HZm := Lib.hid hZm
          have L3 := Lib.hid hrc.lg
          have D3 := Lib.hid (show Lg w3.drew g (k * 256) (ints l) from LL.out.below (by rw [length_ints, HL.out]; decide) (Nat.le_refl _) B3.out.drew)
          clear hZm hrc T3
          go_upto_region 12 with fail
          have hL := run_ld56 wr.heap.size 0 m ML.out Zm HZm.out
          have hS := run_st56 g (k * 256) m l ML.out HL.out Zm HZm.out
          have d1 : w3.cell? ⟨q, 2, none⟩ = some (.slice (some ⟨g, 0, none⟩) rn cR) := by have := Q3.out.c2; rw [RN.out] at this; exact this
          have d2 : w3.drew.cell? ⟨q, 2, none⟩ = some (.slice (some ⟨g, 0, none⟩) rn cR) := by have := QD.out.c2; rw [RN.out] at this; exact this
          have d3 : w3.rangeAt wr.heap.size 0 (ints m) := L3.out.range
          have d4 : w3.drew.rangeAt wr.heap.size 0 (ints m) := (L3.out.block (w' := w3.drew) rfl).range
          have d5 : Lg w3 g (k * 256) (ints l) := D3.out.block rfl
          have d6 : Lg w3.drew g (k * 256) (ints l) := D3.out
          go_region_law (fail)
          all_goals
            have T5 := lg_stored D3.out ML.out HL.out
            have X5 := Lib.hid (QD.out.setR LK.out ML.out T5.2 T5.1)
            clear hL hS d1 d2 d3 d4 d5 d6 c1 T5
            go_wp2_with fail
            go_roundw
            case rel => exact ⟨k + 1, by omega, by go_num, by rw [SU.out]; exact X5.out.1, KD.out.trans X5.out.2⟩
            case measure => simp [intOf] <;> omega
        · have hge : (rn : Int) ≤ k := by omega
          have hkn : k = Q.R.length := by rw [RN.out]; omega
          have X0 := Lib.hid (show QAt B q wr (.slice aS Q.S.length cS) (.slice aR Q.R.length cR) ⟨Q.size, Q.S.map (putT t), Q.R.map (putT t), Q.cl, Q.cg⟩ from by have := HQ.out; rw [hkn, dropK_all] at this; exact this)
          clear hkn
          go_wp2_with fail
          refine (rc_put q 4 Q.cg t wr (X0.out.cg.rc X0.out.lg)).mono ?_
          rintro r w3 ⟨e, rfl, hrc, T3⟩
          obtain ⟨cur, hc⟩ := X0.out.ty
          have KK := Lib.hid (HK.out.trans (keepQ_turned hc (.inr (.inl rfl)) X0.out.low T3.turned))
          have Q4 := Lib.hid (X0.out.setCg (by rw [putT_len]; exact X0.out.lg) T3 hrc.lg)
          clear hrc T3 hc
          go_wp2_with fail
          go_end0
          exact ⟨rfl, Q4.out, KK.out⟩
end Go.Proofs.Ytlkfhobacgnckaa

