
/-
  staithelaw15: looks.
-/
import Derived.Test.YtlkfhobacgnckaaRsL
namespace Go.Proofs.Ytlkfhobacgnckaa
open Go.RowKit
set_option linter.unusedVariables false
set_option linter.unusedSimpArgs false
set_option maxRecDepth 100000

attribute [local go_sem ↓] exec_ld56 exec_ld60 exec_bd60
def Looks (B s q : Nat) (F : Nat → Option Ck) (vS vR : Value) (sb rb : List Nat) (cb : Option Nat) (M : Md) (uS uR : Value) (Q : Rf) (w : World) (r : Ending) (w' : World) : Prop :=
  ∃ F', r = .returned (.bool true) ∧ SlAt B s w' F' vS vR sb rb cb M ∧ Same F F' ∧ QAt B q w' uS uR Q ∧ KB B w w'
theorem SlAt.s0 {B s : Nat} {w : World} {F : Nat → Option Ck} {vS vR : Value} {sb rb : List Nat} {cb : Option Nat} {M : Md} (h : SlAt B s w F vS vR sb rb cb M) : B ≤ w.heap.size := h.bw
theorem QAt.keepS {B q : Nat} {w w' : World} {vS vR : Value} {Q : Rf} (h : QAt B q w vS vR Q) (hk : KeepS B w w') : QAt B q w' vS vR Q :=
  h.keep (hk.1 _ (by decide) (by decide) (by decide) (by decide)) (hk.1 _ (by decide) (by decide) (by decide) (by decide)) (hk.size h.bw)
theorem Lt.keepS {B : Nat} {w w' : World} {b : Nat} {cs : List Value} (h : Lt w b 60 cs) (hk : KeepS B w w') : Lt w' b 60 cs := h.keepT (hk.1 _ (by decide) (by decide) (by decide) (by decide))
set_option maxHeartbeats 16000000 in
theorem looks_any {B s q : Nat} {w : World} {F : Nat → Option Ck} {vS vR : Value} {sb rb : List Nat} {cb : Option Nat} {M : Md} {uS uR : Value} {Q : Rf} (h : SlAt B s w F vS vR sb rb cb M) (hq : QAt B q w uS uR Q) (ok : M.Ok) (rel : Rel M Q) (hsm : M.sn ≤ 1000) :
    Calls Try.prog 30 #[.pointer (some ⟨s, 0, none⟩), .pointer (some ⟨q, 0, none⟩)] w (Looks B s q F vS vR sb rb cb M uS uR Q w) := by
  have hz := fz_zero
  have H := Lib.hid h
  have HQ := Lib.hid hq
  have OK := Lib.hid ok
  have RL := Lib.hid rel
  have L1 := Lib.hid (show M.S.length ≤ 1000 from by have := ok.ls; omega)
  have L2 := Lib.hid (show M.R.length ≤ 1000 from by have := Md.small ok; have := ok.ls; omega)
  have QS := Lib.hid (show Q.S.length ≤ 1000 from by have := rel.sn; omega)
  have QR := Lib.hid (show Q.R.length ≤ Q.S.length from by have := rel.sn; have := rel.rn; have := ok.ls; omega)
  obtain ⟨aS, cS, e1⟩ := owns_slice hq.rowS
  obtain ⟨aR, cR, e2⟩ := owns_slice hq.rowR
  subst e1; subst e2
  have PK := Lib.hid (fun x => rel.peek ok x)
  have PL := Lib.hid (fun x => Rf.peek_len hq.lS hq.lR x)
  have CL := Lib.hid rel.cl
  have RC0 := Lib.hid rel.C
  obtain ⟨sn, hsn⟩ : ∃ n, M.sn = n := ⟨_, rfl⟩
  obtain ⟨rn, hrn⟩ : ∃ n, M.rn = n := ⟨_, rfl⟩
  have SN := Lib.hid (show Q.S.length = sn from by rw [← hsn]; exact rel.sn.symm)
  have RN := Lib.hid (show Q.R.length = rn from by rw [← hrn]; exact rel.rn.symm)
  have MSN := Lib.hid hsn
  have MRN := Lib.hid hrn
  clear h hq ok rel hsm hsn hrn
  go_enter Try.func30, Try.ntmps30
  go_wp2_with fail
  refine (counts_any H.out).mono ?_
  rintro r w1 ⟨rfl, m1, rfl⟩
  rw [MSN.out, MRN.out]
  have B1 := Lib.hid (below_drewN (Below.refl w.heap.size w) m1)
  have S1 := Lib.hid (H.out.below B1.out)
  have Q1 := Lib.hid (HQ.out.below B1.out)
  have K1 := Lib.hid (KB.below (B := B) H.out.bw B1.out)
  go_wp2_with fail
  refine (peek_any S1.out true).mono ?_
  rintro r w2 ⟨p1, F2, rfl, hS2, hs2, hf2, hk2⟩
  have PP1 := Lib.hid (PtO.of hf2)
  rw [OptE.some (PK.out true)]
  have S2 := Lib.hid hS2
  have E2 := Lib.hid hs2
  have Q2 := Lib.hid (Q1.out.keepS hk2)
  have K2 := Lib.hid (K1.out.trans hk2.2)
  clear hS2 hs2 hf2 hk2
  go_wp2_with fail
  refine (peek_any S2.out false).mono ?_
  rintro r w3 ⟨p2, F3, rfl, hS3, hs3, hf3, hk3⟩
  have PP2 := Lib.hid (PtO.of hf3)
  have PP1' := Lib.hid (PP1.out.same hs3)
  rw [OptE.some (PK.out false)]
  have S3 := Lib.hid hS3
  have E3 := Lib.hid (E2.out.trans hs3)
  have Q3 := Lib.hid (Q2.out.keepS hk3)
  have K3 := Lib.hid (K2.out.trans hk3.2)
  clear hS3 hs3 hf3 hk3
  go_wp2_with fail
  refine (peek15_any Q3.out (by have := QS.out; omega) (by have := QS.out; have := QR.out; omega) true).mono ?_
  rintro r w4 ⟨rfl, hB4⟩
  obtain ⟨o1, ho1⟩ : ∃ o, Q.peek true = o := ⟨_, rfl⟩
  obtain ⟨o2, ho2⟩ : ∃ o, Q.peek false = o := ⟨_, rfl⟩
  have PE1 := Lib.hid (show OptE (M.peekF true) o1 from ho1 ▸ PK.out true)
  have PE2 := Lib.hid (show OptE (M.peekF false) o2 from ho2 ▸ PK.out false)
  have PL1 := Lib.hid (show ∀ l, o1 = some l → l.length = 256 from ho1 ▸ PL.out true)
  have PL2 := Lib.hid (show ∀ l, o2 = some l → l.length = 256 from ho2 ▸ PL.out false)
  rw [ho1, ho2]
  have O2 := Lib.hid ho2
  have O1 := Lib.hid ho1
  clear ho1 ho2
  obtain ⟨Z1, hZ1⟩ : ∃ Z, (fetC o1).toArray = Z := ⟨_, rfl⟩
  have HZ1 := Lib.hid hZ1
  rw [hZ1]
  have FL1 := Lib.hid (fetC_len (o := o1) PL1.out)
  have FI1 := Lib.hid (show (Try.prog.info? 60).map (·.size) = some (fetC o1).length from by rw [FL1.out]; exact fsize)
  have FZ1 := Lib.hid (show fz0.length = (fetC o1).length from (show fz0.length = 257 from by simp [fz0, length_ints, zeros]).trans FL1.out.symm)
  have N4 := Lib.hid (Lt.new w4 fz0 60 (Z := fzA) rfl)
  have B4 := Lib.hid (hB4)
  have S4 := Lib.hid (S3.out.below hB4)
  have Q4 := Lib.hid (Q3.out.below hB4)
  have K4 := Lib.hid (K3.out.trans (KB.below S3.out.bw hB4))
  have BA := Lib.hid ((Below.refl w4.heap.size w4).alloc (Nat.le_refl _) (.cells fzA 60))
  clear hB4 hZ1
  go_wp2_with (first
    | (with_reducible refine wpList_store_lg rfl 60 (.tmp 11) (.tmp 34) (by rfl) w4.heap.size 0 (by with_unfolding_all rfl) (fetC o1) fz0 Z1 (by with_unfolding_all rfl) HZ1.out N4.out.lg FZ1.out FI1.out (fetC_one _) ?_))
  intro w5 L5 T5
  have X1 := Lib.hid (N4.out.stored T5 L5)
  have B5 := Lib.hid (show Below w4.heap.size w4 w5 from T5.turned.below BA.out (Nat.le_refl _) (fun i e => by rw [e]; exact Nat.le_refl _))
  have S5 := Lib.hid (S4.out.below B5.out)
  have Q5 := Lib.hid (Q4.out.below B5.out)
  have K5 := Lib.hid (K4.out.trans (KB.below S4.out.bw B5.out))
  obtain ⟨g1, hg1⟩ : ∃ g, w4.heap.size = g := ⟨_, rfl⟩
  rw [hg1] at X1 ⊢
  clear L5 T5 hg1
  go_wp2_with fail
  refine (peek15_any Q5.out (by have := QS.out; omega) (by have := QS.out; have := QR.out; omega) false).mono ?_
  rintro r w6 ⟨rfl, hB6⟩
  rw [O2.out]
  obtain ⟨Z2, hZ2⟩ : ∃ Z, (fetC o2).toArray = Z := ⟨_, rfl⟩
  have HZ2 := Lib.hid hZ2
  rw [hZ2]
  have FL2 := Lib.hid (fetC_len (o := o2) PL2.out)
  have FI2 := Lib.hid (show (Try.prog.info? 60).map (·.size) = some (fetC o2).length from by rw [FL2.out]; exact fsize)
  have FZ2 := Lib.hid (show fz0.length = (fetC o2).length from (show fz0.length = 257 from by simp [fz0, length_ints, zeros]).trans FL2.out.symm)
  have N6 := Lib.hid (Lt.new w6 fz0 60 (Z := fzA) rfl)
  have S6 := Lib.hid (S5.out.below hB6)
  have Q6 := Lib.hid (Q5.out.below hB6)
  have X6 := Lib.hid (X1.out.below hB6)
  have K6 := Lib.hid (K5.out.trans (KB.below S5.out.bw hB6))
  have BA6 := Lib.hid ((Below.refl w6.heap.size w6).alloc (Nat.le_refl _) (.cells fzA 60))
  clear hB6 hZ2
  go_wp2_with (first
    | (with_reducible refine wpList_store_lg rfl 60 (.tmp 12) (.tmp 36) (by rfl) w6.heap.size 0 (by with_unfolding_all rfl) (fetC o2) fz0 Z2 (by with_unfolding_all rfl) HZ2.out N6.out.lg FZ2.out FI2.out (fetC_one _) ?_))
  intro w7 L7 T7
  have X2 := Lib.hid (N6.out.stored T7 L7)
  have B7 := Lib.hid (show Below w6.heap.size w6 w7 from T7.turned.below BA6.out (Nat.le_refl _) (fun i e => by rw [e]; exact Nat.le_refl _))
  have S7 := Lib.hid (S6.out.below B7.out)
  have Q7 := Lib.hid (Q6.out.below B7.out)
  have X7 := Lib.hid (X6.out.below B7.out)
  have K7 := Lib.hid (K6.out.trans (KB.below S6.out.bw B7.out))
  obtain ⟨g2, hg2⟩ : ∃ g, w6.heap.size = g := ⟨_, rfl⟩
  rw [hg2] at X2 ⊢
  clear L7 T7 hg2
  go_wp2_with fail
  refine (closed_any S7.out).mono ?_
  rintro r w8 ⟨p3, F8, rfl, hS8, hs8, hf8, hk8⟩
  rw [CL.out]
  have PP3 := Lib.hid (PtO.of hf8)
  have PQ1 := Lib.hid (PP1'.out.same hs8)
  have PQ2 := Lib.hid (PP2.out.same hs8)
  have S8 := Lib.hid hS8
  have E8 := Lib.hid (E3.out.trans hs8)
  have Q8 := Lib.hid (Q7.out.keepS hk8)
  have Y1 := Lib.hid (X7.out.keepS hk8)
  have Y2 := Lib.hid (X2.out.keepS hk8)
  have K8 := Lib.hid (K7.out.trans hk8.2)
  clear hS8 hs8 hf8 hk8 S1 Q1 K1 B1 S2 Q2 K2 E2 S3 Q3 K3 E3 S4 Q4 K4 B4 B5 S5 Q5 K5 BA N4 N6 BA6 S6 Q6 K6 X6 S7 Q7 X7 K7 B7 X1 X2 PP1 PP1' PP2 H HQ
  obtain ⟨cl, hcl⟩ : ∃ x, Q.cl = x := ⟨_, rfl⟩
  obtain ⟨cg, hcg⟩ : ∃ x, Q.cg = x := ⟨_, rfl⟩
  have GL := Lib.hid (show cg.length = 256 from by rw [← hcg]; exact Q8.out.lg)
  obtain ⟨Zc, hZc⟩ : ∃ Z, (ints cg).toArray = Z := ⟨_, rfl⟩
  have HZc := Lib.hid hZc
  have zc : Zc.size = 256 := by rw [← hZc]; simp [length_ints, GL.out]
  have SM1 := Lib.hid (fun W (hW : Fam B W F8) => same_any hW _ _ o1 PQ1.out PE1.out PL1.out Z1 HZ1.out)
  have SM2 := Lib.hid (fun W (hW : Fam B W F8) => same_any hW _ _ o2 PQ2.out PE2.out PL2.out Z2 HZ2.out)
  have SM3 := Lib.hid (show ∀ W, Fam B W F8 → Calls Try.prog 26 #[.pointer p3, .agg (ints cg ++ [Value.bool cl]).toArray] W (RetB (.bool true) W) from fun W hW => by
    have hC := RC0.out
    have hP := PP3.out
    have pg := RL.out.pC
    rw [hcl, hcg] at hC
    rw [hcg] at pg
    cases cl with
    | false =>
      rw [if_neg (by decide)] at hC
      rw [hC] at hP
      have hP' : Value.pointer p3 = .pointer none := hP
      rw [hP']
      exact same_no W cg GL.out _ rfl
    | true =>
      rw [if_pos rfl] at hC
      obtain ⟨c, hc, he⟩ := hC
      rw [hc] at hP
      exact same_any hW _ (some c) (some cg) hP ⟨he, pg⟩ (fun l e => by cases e; exact GL.out) _ rfl)
  have FA := Lib.hid (show ∀ W, Below w8.heap.size w8 W → W.cell? ⟨q, 1, none⟩ = some (.slice aS sn cS) ∧ W.cell? ⟨q, 2, none⟩ = some (.slice aR rn cR) ∧ W.cell? ⟨q, 3, none⟩ = some (.bool cl) ∧ W.rangeAt q 4 (ints cg) ∧ W.cell? ⟨g1, 256, none⟩ = some (.bool o1.isSome) ∧ W.cell? ⟨g2, 256, none⟩ = some (.bool o2.isSome) ∧ W.rangeAt g1 0 (fetC o1) ∧ W.rangeAt g2 0 (fetC o2) ∧ Fam B W F8 from fun W hW => by
    have hQ := Q8.out.below hW
    refine ⟨?_, ?_, ?_, ?_, fetC_ok o1 PL1.out (Y1.out.below hW), fetC_ok o2 PL2.out (Y2.out.below hW), (Y1.out.below hW).lg.range, (Y2.out.below hW).lg.range, S8.out.fam.below hW⟩
    · have := hQ.c1; rw [SN.out] at this; exact this
    · have := hQ.c2; rw [RN.out] at this; exact this
    · have := hQ.c3; rw [hcl] at this; exact this
    · have := hQ.cg.range; rw [hcg] at this; exact this)
  have l1 := run_ld60 g1 (fetC o1) FL1.out Z1 HZ1.out
  have l2 := run_ld60 g2 (fetC o2) FL2.out Z2 HZ2.out
  have l3 := run_ld56 q 4 cg GL.out (ints cg).toArray rfl
  have l4 := run_bd60 (ints cg).toArray (by simp [length_ints, GL.out]) cl
  obtain ⟨x1, hx1⟩ : ∃ x, o1.isSome = x := ⟨_, rfl⟩
  obtain ⟨x2, hx2⟩ : ∃ x, o2.isSome = x := ⟨_, rfl⟩
  rw [hx1, hx2] at FA
  rw [hx1, hx2, hcl]
  have BD := Lib.hid (Below.refl w8.heap.size w8).drew
  obtain ⟨c1, c2, c3, c4, c5, c6, c7, c8, c9⟩ := FA.out w8 (Below.refl _ _)
  obtain ⟨d1, d2, d3, d4, d5, d6, d7, d8, d9⟩ := FA.out w8.drew BD.out
  have FD := Lib.hid d9
  clear c9 d9 hcl hcg hZc hx1 hx2
  go_upto_region 7 with fail
  clear c1 c2 c3 c4 c5 c6 c7 c8
  go_region_held3 (fun w' => w'.cell? ⟨q, 1, none⟩ = some (.slice aS sn cS) ∧ w'.cell? ⟨q, 2, none⟩ = some (.slice aR rn cR) ∧ w'.cell? ⟨q, 3, none⟩ = some (.bool cl) ∧ w'.rangeAt q 4 (ints cg) ∧ w'.cell? ⟨g1, 256, none⟩ = some (.bool x1) ∧ w'.cell? ⟨g2, 256, none⟩ = some (.bool x2) ∧ w'.rangeAt g1 0 (fetC o1) ∧ w'.rangeAt g2 0 (fetC o2))
    (first | exact ⟨d1, d2, d3, d4, d5, d6, d7, d8⟩ | exact ⟨e1, e2, e3, e4, e5, e6, e7, e8⟩ | exact ⟨i1, i2, i3, i4, i5, i6, i7, i8⟩ | exact ⟨j1, j2, j3, j4, j5, j6, j7, j8⟩ | go_keep)
    (first
    | (go_simp; go_at_call 26; (with_reducible refine (SM1.out _ FD.out).mono ?_); rintro r w9 ⟨rfl, hB9⟩; have B9 := Lib.hid (below_trans BD.out hB9 BD.out.size); obtain ⟨e1, e2, e3, e4, e5, e6, e7, e8, e9⟩ := FA.out w9 B9.out; have F9 := Lib.hid e9; clear hB9 e9)
    | (go_simp; go_at_call 26; (with_reducible refine (SM2.out _ F9.out).mono ?_); rintro r w10 ⟨rfl, hB10⟩; have B10 := Lib.hid (below_trans B9.out hB10 B9.out.size); obtain ⟨i1, i2, i3, i4, i5, i6, i7, i8, i9⟩ := FA.out w10 B10.out; have F10 := Lib.hid i9; clear hB10 i9)
    | (go_simp; go_at_call 26; (with_reducible refine (SM3.out _ F10.out).mono ?_); rintro r w11 ⟨rfl, hB11⟩; have B11 := Lib.hid (below_trans B10.out hB11 B10.out.size); obtain ⟨j1, j2, j3, j4, j5, j6, j7, j8, j9⟩ := FA.out w11 B11.out; clear hB11 j9))
  have S11 := Lib.hid (S8.out.below B11.out)
  have Q11 := Lib.hid (Q8.out.below B11.out)
  have K11 := Lib.hid (K8.out.trans (KB.below S8.out.bw B11.out))
  clear d1 d2 d3 d4 d5 d6 d7 d8 e1 e2 e3 e4 e5 e6 e7 e8 i1 i2 i3 i4 i5 i6 i7 i8 j1 j2 j3 j4 j5 j6 j7 j8 l1 l2 l3 l4 zc
  clear FA SM1 SM2 SM3 B11 B10 B9 F9 F10 FD BD Y1 Y2 S8 Q8 K8
  go_wp2_with fail
  refine (held_any S11.out (by rw [S11.out.hS.len]; have := L1.out; omega) (by rw [S11.out.hR.len]; have := L2.out; omega)).mono ?_
  rintro r w12 ⟨v12, hb, F12, rfl, hrow, hf12, hs12, hh, hnd, hnew, hk12⟩
  obtain ⟨HE, HP⟩ := RL.out.held
  have hlen : hb.length = Q.held.length := hh.len.trans HE.len
  obtain ⟨n, hn⟩ : ∃ n, Q.held.length = n := ⟨_, rfl⟩
  rw [hn] at hlen
  have hn2 : (n : Int) ≤ 5000 := by
    have h1 := hh.len
    have h2 : M.kept.length ≤ 3000 := by
      unfold Md.kept
      have a1 := L1.out
      have a2 := L2.out
      have a3 : M.C.toList.length ≤ 1 := by cases M.C <;> simp
      simp only [List.length_append]
      omega
    omega
  obtain ⟨ao, cap, rfl⟩ := owns_slice hrow
  have RW := Lib.hid hrow
  have HN := Lib.hid hlen
  have QN := Lib.hid hn
  have HH := Lib.hid hh
  have HHE := Lib.hid HE
  have HHP := Lib.hid HP
  have S12 := Lib.hid (S11.out.keepP hf12 hs12 hk12)
  have E12 := Lib.hid (E8.out.trans hs12)
  have Q12 := Lib.hid (Q11.out.keepS hk12.s)
  have K12 := Lib.hid (K11.out.trans hk12.s.2)
  rw [hlen]
  clear hrow hf12 hs12 hh hnd hnew hk12 HE HP hlen hn S11 Q11 K11 E8
  go_wp2_with fail
  refine (held15_any Q12.out (by have := QS.out; omega) QR.out).mono ?_
  rintro r w13 ⟨v13, rfl, hrow, hB13⟩
  rw [QN.out] at hrow
  obtain ⟨ao2, cap2, rfl⟩ := owns_slice hrow
  have RQ := Lib.hid hrow
  have PS := Lib.hid ((PSrc.of_owns RW.out).below (Nat.le_refl _) hB13)
  have S13 := Lib.hid (S12.out.below hB13)
  have Q13 := Lib.hid (Q12.out.below hB13)
  have K13 := Lib.hid (K12.out.trans (KB.below S12.out.bw hB13))
  have HLH := Lib.hid (show ∀ x ∈ Q.held, x.length = 256 from fun x hx => by
    unfold Rf.held at hx
    rcases List.mem_append.1 hx with hx | hx
    · rcases List.mem_append.1 hx with hx | hx
      · exact Q13.out.lS x (List.mem_of_mem_drop hx)
      · unfold Rf.heldR at hx
        split at hx
        · exact Q13.out.lR x (List.mem_of_mem_take (List.mem_of_mem_drop hx))
        · simp at hx
    · split at hx
      · rw [List.mem_singleton.1 hx]; exact Q13.out.lg
      · simp at hx)
  clear hrow hB13
  go_wp2_with fail
  go_loopw [115] (fun i wr => ∃ (k : Nat), k ≤ n ∧ i = .int .i64 k ∧ Below w13.heap.size w13 wr) (fun i _ => n - (intOf i).toNat)
  case atStart => exact ⟨0, by omega, rfl, Below.refl _ _⟩
  case round =>
    obtain ⟨k, hk, rfl, hB⟩ := hrel
    have BB := Lib.hid hB
    by_cases hlt : k < n
    · have hlt' : (k : Int) < (n : Int) := by omega
      have hk2 : k < hb.length := by rw [HN.out]; exact hlt
      obtain ⟨_, _, e, _, hc⟩ := PS.out
      rw [HN.out] at e
      cases e
      obtain ⟨g, z, rfl, hc2⟩ := hc (by omega)
      have c0' := hc2 k hk2
      have hbk := HH.out.at k hk2
      obtain ⟨g', cap', e, LG⟩ := row_lg (l := Q.held) (by have := RQ.out; rw [← QN.out] at this; exact this) HLH.out k (by rw [QN.out]; exact hlt)
      rw [QN.out] at e
      cases e
      have hmem := getD_mem (show k < Q.held.length by rw [QN.out]; exact hlt)
      have hml := HLH.out _ hmem
      have hmp := HHP.out _ hmem
      have heq := HHE.out.at k (by rw [HHE.out.len, QN.out]; exact hlt)
      obtain ⟨bk, hbk'⟩ : ∃ b, hb.getD k 0 = b := ⟨_, rfl⟩
      obtain ⟨lk, hlk'⟩ : ∃ l, M.kept.getD k [] = l := ⟨_, rfl⟩
      obtain ⟨mk, hmk'⟩ : ∃ l, Q.held.getD k [] = l := ⟨_, rfl⟩
      rw [hbk'] at c0' hbk
      rw [hlk'] at hbk heq
      rw [hmk'] at LG hml hmp heq
      have HB := Lib.hid hbk
      have TE := Lib.hid (show trim lk = trim mk from trim_ext heq)
      have ML := Lib.hid hml
      have FLs := Lib.hid (show ∀ W, Below w13.heap.size w13 W → Calls Try.prog 20 #[.pointer (some ⟨bk, 0, none⟩)] W (FamList lk W) from fun W hW => fam_list (S13.out.fam.below hW) bk lk HB.out)
      have RLs := Lib.hid (show ∀ W, Below w13.heap.size w13 W → Calls Try.prog 41 #[.pointer (some ⟨g', k * 256, none⟩)] W (RCList mk W) from fun W hW => rc_list g' (k * 256) mk W ((LG.below (by rw [length_ints, ML.out]; decide) (Nat.le_refl _) hW).rc ML.out) hmp)
      have INs := Lib.hid (show ∀ W v1 v2, Src W v1 (trim lk) → Src W v2 (trim mk) → Calls Try.prog 19 #[v1, v2] W (fun r W' => r = .returned (.bool true) ∧ Below W.heap.size W W') from fun W v1 v2 h1 h2 => by
        refine (ints_any _ _ (trim lk) (trim mk) W h1 h2 (by rw [TE.out]; exact Nat.le_trans (length_trim_le mk) (by rw [ML.out]; decide)) (Nat.le_trans (length_trim_le mk) (by rw [ML.out]; decide))).mono ?_
        rintro r W' ⟨rfl, m5, hw5⟩
        exact ⟨by rw [decide_eq_true TE.out], by rw [hw5]; exact below_drewN (Below.refl _ _) _⟩)
      have KC := Lib.hid (show ∀ W, Below w13.heap.size w13 W → W.cell? ⟨g, z + k, none⟩ = some (.pointer (some ⟨bk, 0, none⟩)) from fun W hW => (hW.cell (p := ⟨g, z + k, none⟩) (block_lt_of_cell c0')).trans c0')
      have BD := Lib.hid hB.drew
      have c0 := KC.out _ BD.out
      clear hc hc2 c0' hbk hbk' hlk' hmk' LG hml hmp heq hmem hk2 hB
      go_wp2_with fail
      go_region_held3 (fun w' => w'.cell? ⟨g, z + k, none⟩ = some (.pointer (some ⟨bk, 0, none⟩))) (first | exact c0 | exact y1 | exact y2 | exact y3 | go_keep)
        (first
        | (go_simp; go_at_call 20; (with_reducible refine (FLs.out _ BD.out).mono ?_); rintro r w14 ⟨v14, rfl, hv14, hB14⟩; have V14 := Lib.hid hv14; have B14 := Lib.hid (below_trans BD.out hB14 BD.out.size); have y1 := KC.out _ B14.out; clear hv14 hB14)
        | (go_simp; go_at_call 41; (with_reducible refine (RLs.out _ B14.out).mono ?_); rintro r w15 ⟨v15, rfl, hv15, hB15⟩; have V14' := Lib.hid (V14.out.below (Nat.le_refl _) hB15); have V15 := Lib.hid hv15; have B15 := Lib.hid (below_trans B14.out hB15 B14.out.size); have y2 := KC.out _ B15.out; clear hv15 hB15)
        | (go_simp; go_at_call 19; (with_reducible refine (INs.out _ _ _ V14'.out V15.out).mono ?_); rintro r w16 ⟨rfl, hB16⟩; have B16 := Lib.hid (below_trans B15.out hB16 B15.out.size); have y3 := KC.out _ B16.out; clear hB16))
      clear c0 y1 y2 y3
      go_wp2_with fail
      go_roundw
      case rel => exact ⟨k + 1, by omega, by go_num, B16.out⟩
      case measure => simp [intOf] <;> omega
    · have hge : (n : Int) ≤ k := by omega
      go_wp2_with fail
      go_ret
      exact ⟨F12, rfl, S13.out.below BB.out, E12.out, Q13.out.below BB.out, K13.out.trans (KB.below S13.out.bw BB.out)⟩
end Go.Proofs.Ytlkfhobacgnckaa

