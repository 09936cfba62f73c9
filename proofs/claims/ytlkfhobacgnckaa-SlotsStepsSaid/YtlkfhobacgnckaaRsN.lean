
/-
  staithelaw15: SlotsSteps (printed by genrsn.py).
-/
import Derived.Test.YtlkfhobacgnckaaRsM
import Derived.Test.YtlkfhobacgnckaaLaw15d
namespace Go.Proofs.Ytlkfhobacgnckaa
open Go.RowKit
set_option linter.unusedVariables false
set_option linter.unusedSimpArgs false
set_option maxRecDepth 100000
attribute [local go_sem ↓] Go.wp_at_zero Go.wp_at_succ exec_ld56

theorem QAt.low' {B B' q : Nat} {w : World} {vS vR : Value} {Q : Rf} (h : QAt B' q w vS vR Q) (hle : B ≤ B') : QAt B q w vS vR Q :=
  ⟨h.ty, h.c0, h.c1, h.c2, h.c3, h.cg, h.lg, ownsRow_low h.rowS hle, ownsRow_low h.rowR hle, h.lS, h.lR, h.apart, Nat.le_trans hle h.low, Nat.le_trans hle h.bw, h.sz⟩
theorem Fam.pos {B : Nat} {w : World} {F : Nat → Option Ck} (h : Fam B w F) {b : Nat} {l : List Int} (hb : Has F b l) : Pos0 l := by
  obtain ⟨k, h1, h2⟩ := hb
  intro u
  rw [← h2 u]
  exact (at0_ok (h.here b k h1).ok u).1
theorem SlAt.keepQ {B s : Nat} {w w' : World} {F : Nat → Option Ck} {vS vR : Value} {sb rb : List Nat} {cb : Option Nat} {M : Md} (h : SlAt B s w F vS vR sb rb cb M) (hk : KeepQ B w w') : SlAt B s w' F vS vR sb rb cb M :=
  h.keep (h.fam.keep (hk.1 _ (by decide) (by decide) (by decide)) (hk.1 _ (by decide) (by decide) (by decide))) (Same.refl _) (hk.1 _ (by decide) (by decide) (by decide)) (hk.1 _ (by decide) (by decide) (by decide)) (Nat.le_trans h.bw (hk.size h.bw))
theorem Lt.keepS2 {B : Nat} {w w' : World} {b : Nat} {cs : List Value} (h : Lt w b 56 cs) (hk : KeepS B w w') : Lt w' b 56 cs := h.keepT (hk.1 _ (by decide) (by decide) (by decide) (by decide))
theorem zeros_at (u : Int) : at0 zeros u = 0 := by
  unfold at0 zeros
  split
  · simp only [List.getD, List.getElem?_replicate]
    split <;> rfl
  · rfl
theorem rel_new (n : Nat) : Rel (Md.new n) ⟨n, [], [], false, zeros⟩ :=
  ⟨rfl, rfl, rfl, trivial, by show Eqs [] (if 0 < n then ([] : List (List Int)).drop (0 - n) else []); split <;> first | trivial | (simp; trivial) | simp [Eqs], rfl, (fun x hx => by simp at hx), (fun x hx => by simp at hx), (fun u => by rw [zeros_at]; exact Int.le_refl 0)⟩
/-- The loop's state. -/
def StAt (w : World) (s q j : Nat) (wr : World) : Prop :=
  ∃ vS vR sb rb cb F M uS uR Q, SlAt w.heap.size s wr F vS vR sb rb cb M ∧ QAt w.heap.size q wr uS uR Q ∧ M.Ok ∧ Rel M Q ∧ M.sn ≤ j ∧ KB w.heap.size w wr
theorem KB.bel {w w' : World} (h : KB w.heap.size w w') : Below w.heap.size w w' := h w (Nat.le_refl _) (Below.refl _ _)
theorem rel_small {M : Md} {Q : Rf} (h : Rel M Q) (ok : M.Ok) (hs : M.sn ≤ 1000) : Q.S.length ≤ 1000 ∧ Q.R.length ≤ 1000 ∧ Q.R.length ≤ Q.S.length := by
  have h1 := h.sn
  have h2 := h.rn
  have h3 := ok.ls
  omega
theorem Rf.sendF_len {Q : Rf} (hS : ∀ x ∈ Q.S, x.length = 256) (hR : ∀ x ∈ Q.R, x.length = 256) : ∀ l, Q.sendF = some l → l.length = 256 := fun l h => by
  unfold Rf.sendF at h
  split at h
  · exact Rf.peek_len hS hR true l h
  · cases h
theorem Rf.recvF_len {Q : Rf} (hS : ∀ x ∈ Q.S, x.length = 256) (hR : ∀ x ∈ Q.R, x.length = 256) : ∀ l, Q.peek false = some l → l.length = 256 := Rf.peek_len hS hR false
theorem Md.sn_drop (M : Md) (t : Int) : (M.drop t).sn ≤ M.sn := Nat.le_refl _

set_option maxHeartbeats 16000000 in
theorem ssteps_law (n : Int) (v : Value) (ss : List Stp) (w : World) (hs : StpsOf w v ss) :
    Calls Try.prog 6 #[.int .i64 n, v] w (RetB (.bool true) w) := by
  obtain ⟨Z0, hZ0⟩ : ∃ Z, (ints zeros).toArray = Z := ⟨_, rfl⟩
  have hz := (zero_of_info rinfo).1
  rw [hZ0] at hz
  have HZ0 := Lib.hid hZ0
  have hzf := fz_zero
  clear hZ0
  have HS := Lib.hid hs
  obtain ⟨ao, cap, rfl, hc⟩ := hs
  clear hc
  by_cases hn : 0 ≤ n ∧ n ≤ 4
  · by_cases hlong : 150 < ss.length
    · have hlong' : (150 : Int) < ss.length := by omega
      clear hlong
      go_enter Try.func6, Try.ntmps6
      go_wp2_with fail
      refine (snew_any n w).mono ?_
      rintro r w1 (⟨_, rfl, hA, hB⟩ | ⟨h, _⟩)
      rotate_left
      · exact absurd hn h
      have BB := Lib.hid hB
      clear hA hB
      go_wp2_with fail
      refine (new15_any n w1).mono ?_
      rintro r w2 (⟨h, _⟩ | ⟨k, _, _, rfl, hQ, hB2⟩)
      · omega
      have BB2 := Lib.hid (below_trans BB.out hB2 BB.out.size)
      clear hQ hB2
      go_wp2_with fail
      refine (fetches_any _).mono ?_
      rintro r w3 ⟨rfl, hB3⟩
      have BF := Lib.hid (below_trans BB2.out hB3 BB2.out.size)
      clear hB3
      go_wp2_with fail
      go_ret
      exact ⟨rfl, BF.out⟩
    · have b2 : (ss.length : Int) ≤ 150 := by omega
      have b0 : decide ((150 : Int) < ss.length) = false := decide_eq_false (by omega)
      have LN := Lib.hid (show ss.length ≤ 150 by omega)
      clear hlong
      go_enter Try.func6, Try.ntmps6
      go_wp2_with fail
      refine (snew_any n w).mono ?_
      rintro r w1 (⟨_, rfl, hA, hB⟩ | ⟨h, _⟩)
      rotate_left
      · exact absurd hn h
      have HA := Lib.hid hA
      have BB := Lib.hid hB
      clear hA hB
      go_wp2_with fail
      refine (new15_any n w1).mono ?_
      rintro r w2 (⟨h, _⟩ | ⟨k, hk, hk4, rfl, hQ, hB2⟩)
      · omega
      obtain ⟨s, hs⟩ : ∃ s, w.heap.size = s := ⟨_, rfl⟩
      obtain ⟨q, hq⟩ : ∃ q, w1.heap.size = q := ⟨_, rfl⟩
      have START := Lib.hid (show StAt w s q 0 w2 from by
        have e : n.toNat = k := by omega
        subst hs
        subst hq
        have hA2 := HA.out.below hB2
        have hQ2 := hQ.low' (B := w.heap.size) BB.out.size
        refine ⟨_, _, _, _, _, _, _, _, _, ⟨k, [], [], false, zeros⟩, hA2, hQ2, Md.new_ok n.toNat (by omega), ?_, Nat.le_refl _, KB.below (Nat.le_refl _) (below_trans BB.out hB2 BB.out.size)⟩
        rw [e]
        exact rel_new k)
      rw [hs, hq]
      clear hQ hB2 hn hk hk4 HA BB hs hq
      go_wp2_with fail
      go_loopw [53] (fun i wr => ∃ (j : Nat), j ≤ ss.length ∧ i = .int .i64 j ∧ StAt w s q j wr) (fun i _ => ss.length - (intOf i).toNat)
      case atStart => exact ⟨0, by omega, rfl, START.out⟩
      case round =>
        obtain ⟨j, hj, rfl, hat⟩ := hrel
        have AT := Lib.hid hat
        clear hat
        by_cases hlt : j < ss.length
        · have hlt' : (j : Int) < ss.length := by omega
          obtain ⟨vS, vR, sb, rb, cb, F, M, uS, uR, Q, hA, hQ, hok, hrel, hsn, hK⟩ := AT.out
          obtain ⟨_, _, e, hsc⟩ := (HS.out.below hK.bel)
          cases e
          obtain ⟨g, z, rfl, hsd⟩ := hsc (by omega)
          obtain ⟨c0, c1, cv, c2, hcv⟩ := hsd j hlt
          obtain ⟨⟨What, Tid, C⟩, hst⟩ : ∃ s, ss.getD j ⟨0, 0, []⟩ = s := ⟨_, rfl⟩
          rw [hst] at c0 c1 hcv
          dsimp only at c0 c1 hcv
          obtain ⟨ca, cc, hcve⟩ : ∃ ca cc, cv = .slice ca C.length cc := by
            obtain ⟨ca, cc, e, _⟩ := hcv
            exact ⟨ca, cc, e⟩
          subst hcve
          obtain ⟨X, hX⟩ : ∃ X, wr.alloc (.cells #[.int .i64 What, .int .i64 Tid, .slice ca C.length cc] 39) = X := ⟨_, rfl⟩
          have BX : Below wr.heap.size wr X := by rw [← hX]; exact (Below.refl _ _).alloc (Nat.le_refl _) _
          have hsX : X.heap[wr.heap.size]? = some (Obj.cells #[.int .i64 What, .int .i64 Tid, .slice ca C.length cc] 39 (0, 0)) := by rw [← hX]; exact heap_alloc_new wr _
          obtain ⟨x0, x1, x2⟩ := step3_cells hsX
          have HX := Lib.hid hX
          have AX := Lib.hid (hA.below BX)
          have QX := Lib.hid (hQ.below BX)
          have KX := Lib.hid (hK.trans (KB.below hA.bw BX))
          have CX := Lib.hid (hcv.below (Nat.le_refl _) BX)
          have SX := Lib.hid hsX
          have OK := Lib.hid hok
          have RL := Lib.hid hrel
          have SN := Lib.hid hsn
          have SM := Lib.hid (rel_small hrel hok (by have := LN.out; omega))
          clear hA hQ hK hcv hsc hsd hst BX hok hrel hsn hsX
          go_wp2_with fail
          refine (fam_of AX.out.fam AX.out.bw _ C CX.out).mono ?_
          rintro r w2 (⟨he, c, F2, rfl, hf2, hc2, hlt2, hs2, hB2⟩ | ⟨he, rfl, rfl⟩)
          rotate_left
          · have hd : (ofE C == 0) = false := by simpa using he
            clear he hX
            go_wp2_with fail
            refine (rof_any _ C _ CX.out).mono ?_
            rintro r w3 ⟨ns, rfl, hns, hnat, hB3⟩
            obtain ⟨Zn, hZn⟩ : ∃ Z, (ints ns).toArray = Z := ⟨_, rfl⟩
            rw [hZn]
            have HZn := Lib.hid hZn
            have NL := Lib.hid hns
            have HLI := Lib.hid (show (Try.prog.info? 56).map (·.size) = some (ints ns).length from by rw [rsize, length_ints, hns])
            have ZL := Lib.hid (show (ints zeros).length = (ints ns).length from by rw [length_ints, length_ints, hns]; simp [zeros])
            have N3 := Lib.hid (Lt.new w3 (ints zeros) 56 HZ0.out)
            have BA := Lib.hid ((Below.refl w3.heap.size w3).alloc (Nat.le_refl _) (.cells Z0 56))
            have B23 := Lib.hid hB3
            clear hZn hns hB3
            go_wp2_with (first
              | (with_reducible refine wpList_store_lg rfl 56 (.tmp 13) (.tmp 67) (by rfl) w3.heap.size 0 (by with_unfolding_all rfl) (ints ns) (ints zeros) Zn (by with_unfolding_all rfl) HZn.out N3.out.lg ZL.out HLI.out (ints1 ns) ?_))
            intro w4 L4 T4
            have D4 := Lib.hid (N3.out.stored T4 L4)
            have B34 := Lib.hid (show Below w3.heap.size w3 w4 from T4.turned.below BA.out (Nat.le_refl _) (fun i e => by rw [e]; exact Nat.le_refl _))
            have B24 := Lib.hid (below_trans B23.out B34.out B23.out.size)
            obtain ⟨db, hdb⟩ : ∃ x, w3.heap.size = x := ⟨_, rfl⟩
            rw [hdb] at D4 ⊢
            clear L4 T4 hdb BA N3 B34 B23
            have NX := Lib.hid (show StAt w s q (j + 1) w4 from ⟨_, _, _, _, _, _, _, _, _, _, AX.out.below B24.out, QX.out.below B24.out, OK.out, RL.out, by have := SN.out; omega, KX.out.trans (KB.below AX.out.bw B24.out)⟩)
            go_wp2_with fail
            go_roundw
            case rel => exact ⟨j + 1, by omega, by go_num, NX.out⟩
            case measure => simp [intOf] <;> omega
          · have A2 := Lib.hid (AX.out.ofd hf2 hs2 hB2)
            have Q2 := Lib.hid (QX.out.below hB2)
            have C2 := Lib.hid hc2
            have K2 := Lib.hid (KX.out.trans (KB.below AX.out.bw hB2))
            have y0 := (hB2.cell (p := ⟨wr.heap.size, 0, none⟩) (lt_of_heap SX.out)).trans x0
            have y1 := (hB2.cell (p := ⟨wr.heap.size, 1, none⟩) (lt_of_heap SX.out)).trans x1
            have y2 := (hB2.cell (p := ⟨wr.heap.size, 2, none⟩) (lt_of_heap SX.out)).trans x2
            have SX2 := Lib.hid ((hB2.block _ (lt_of_heap SX.out)).trans SX.out)
            have CX2 := Lib.hid (CX.out.below (Nat.le_refl _) hB2)
            have E0 := Lib.hid he
            clear hf2 hc2 hlt2 hs2 hB2 hX x0 x1 x2 c0 c1 c2 he
            go_wp2_with fail
            refine (rof_any _ C _ CX2.out).mono ?_
            rintro r w3 ⟨ns, rfl, hns, hnat, hB3⟩
            obtain ⟨Zn, hZn⟩ : ∃ Z, (ints ns).toArray = Z := ⟨_, rfl⟩
            rw [hZn]
            have HZn := Lib.hid hZn
            have NL := Lib.hid hns
            have HLI := Lib.hid (show (Try.prog.info? 56).map (·.size) = some (ints ns).length from by rw [rsize, length_ints, hns])
            have ZL := Lib.hid (show (ints zeros).length = (ints ns).length from by rw [length_ints, length_ints, hns]; simp [zeros])
            have N3 := Lib.hid (Lt.new w3 (ints zeros) 56 HZ0.out)
            have BA := Lib.hid ((Below.refl w3.heap.size w3).alloc (Nat.le_refl _) (.cells Z0 56))
            have B23 := Lib.hid hB3
            clear hZn hns hB3
            go_wp2_with (first
              | (with_reducible refine wpList_store_lg rfl 56 (.tmp 13) (.tmp 67) (by rfl) w3.heap.size 0 (by with_unfolding_all rfl) (ints ns) (ints zeros) Zn (by with_unfolding_all rfl) HZn.out N3.out.lg ZL.out HLI.out (ints1 ns) ?_))
            intro w4 L4 T4
            have D4 := Lib.hid (N3.out.stored T4 L4)
            have B34 := Lib.hid (show Below w3.heap.size w3 w4 from T4.turned.below BA.out (Nat.le_refl _) (fun i e => by rw [e]; exact Nat.le_refl _))
            have B24 := Lib.hid (below_trans B23.out B34.out B23.out.size)
            obtain ⟨db, hdb⟩ : ∃ x, w3.heap.size = x := ⟨_, rfl⟩
            rw [hdb] at D4 ⊢
            clear L4 T4 hdb BA N3 B34 B23
            have S4 := Lib.hid (A2.out.below B24.out)
            have Q4 := Lib.hid (Q2.out.below B24.out)
            have K4 := Lib.hid (K2.out.trans (KB.below A2.out.bw B24.out))
            have NSE := Lib.hid (show Eq0 C ns from fun u => (hnat E0.out u).symm)
            have PN := Lib.hid (show Pos0 ns from fun u => by rw [hnat E0.out u]; exact A2.out.fam.pos C2.out u)
            have z0 := (B24.out.cell (p := ⟨wr.heap.size, 0, none⟩) (block_lt_of_cell y0)).trans y0
            have z1 := (B24.out.cell (p := ⟨wr.heap.size, 1, none⟩) (block_lt_of_cell y1)).trans y1
            have SX4 := Lib.hid ((B24.out.block _ (lt_of_heap SX2.out)).trans SX2.out)
            rw [E0.out]
            clear hnat y0 y1 y2
            have cases : (What = 0 ∨ What = 1) ∨ (What = 2 ∨ What = 3) ∨ What = 4 ∨ What = 5 ∨ ((What == 0) = false ∧ (What == 1) = false ∧ (What == 2) = false ∧ (What == 3) = false ∧ (What == 4) = false ∧ (What == 5) = false) := by
              simp only [beq_eq_false_iff_ne]
              omega
            rcases cases with (rfl | rfl) | (rfl | rfl) | rfl | rfl | ⟨e0, e1, e2, e3, e4, e5⟩
            · go_wp2_with fail
              refine (send_any S4.out OK.out (by have := SN.out; have := LN.out; omega) c C C2.out).mono ?_
              rintro r w5 ⟨p, vS5, vR5, sb5, rb5, F5, rfl, hA5, hs5, hf5, ho5, hk5⟩
              have S5 := Lib.hid hA5
              have Q5 := Lib.hid (Q4.out.keepS hk5)
              have D5 := Lib.hid (D4.out.keepS2 hk5)
              have PT := Lib.hid (PtO.of hf5)
              have K5 := Lib.hid (K4.out.trans hk5.2)
              have OE := Lib.hid (RL.out.sendF OK.out)
              have FLN := Lib.hid (Rf.sendF_len Q5.out.lS Q5.out.lR)
              rw [RL.out.sendE OK.out]
              clear hA5 hs5 hf5 ho5 hk5 z0 z1
              go_wp2_with (first
                | (with_reducible refine wpList_load_lg rfl 56 (.tmp 13) (by rfl) db 0 (by with_unfolding_all rfl) (ints ns) _ Zn HZn.out D5.out.lg Try.underlying56 rfl HLI.out ?_))
              refine (send15_any Q5.out (by have := SM.out; omega) (by have := SM.out; omega) ns NL.out Zn HZn.out).mono ?_
              rintro r w6 ⟨u6, rfl, hQ6, hk6⟩
              obtain ⟨e, he⟩ : ∃ e, Q.sendE = e := ⟨_, rfl⟩
              rw [he]
              obtain ⟨o', ho'⟩ : ∃ o, Q.sendF = o := ⟨_, rfl⟩
              rw [ho'] at OE FLN ⊢
              obtain ⟨Zf, hZf⟩ : ∃ Z, (fetC o').toArray = Z := ⟨_, rfl⟩
              rw [hZf]
              have HZf := Lib.hid hZf
              have FL := Lib.hid (fetC_len (o := o') FLN.out)
              have FI := Lib.hid (show (Try.prog.info? 60).map (·.size) = some (fetC o').length from by rw [FL.out]; exact fsize)
              have FZ := Lib.hid (show fz0.length = (fetC o').length from (show fz0.length = 257 from by simp [fz0, length_ints, zeros]).trans FL.out.symm)
              have S6 := Lib.hid (S5.out.keepQ hk6)
              have Q6 := Lib.hid hQ6
              have K6 := Lib.hid (K5.out.trans hk6.2)
              have N6 := Lib.hid (Lt.new w6 fz0 60 (Z := fzA) rfl)
              have BA6 := Lib.hid ((Below.refl w6.heap.size w6).alloc (Nat.le_refl _) (.cells fzA 60))
              clear hQ6 hk6 he ho' hZf
              go_wp2_with (first
                | (with_reducible refine wpList_store_lg rfl 60 (.tmp 17) (.tmp 89) (by rfl) w6.heap.size 0 (by with_unfolding_all rfl) (fetC o') fz0 Zf (by with_unfolding_all rfl) HZf.out N6.out.lg FZ.out FI.out (fetC_one _) ?_))
              intro w7 L7 T7
              have X7 := Lib.hid (N6.out.stored T7 L7)
              have B67 := Lib.hid (show Below w6.heap.size w6 w7 from T7.turned.below BA6.out (Nat.le_refl _) (fun i e => by rw [e]; exact Nat.le_refl _))
              have S7 := Lib.hid (S6.out.below B67.out)
              have Q7 := Lib.hid (Q6.out.below B67.out)
              have K7 := Lib.hid (K6.out.trans (KB.below S6.out.bw B67.out))
              obtain ⟨gf, hgf⟩ : ∃ g, w6.heap.size = g := ⟨_, rfl⟩
              rw [hgf] at X7 ⊢
              clear L7 T7 hgf
              go_wp2_with (first
                | (with_reducible refine wpList_load_lg rfl 60 (.tmp 17) (by rfl) gf 0 (by with_unfolding_all rfl) (fetC o') _ Zf HZf.out X7.out.lg Try.underlying60 rfl FI.out ?_))
              refine (same_any S7.out.fam _ M.sendF o' PT.out OE.out FLN.out Zf HZf.out).mono ?_
              rintro r w8 ⟨rfl, hB8⟩
              have S8 := Lib.hid (S7.out.below hB8)
              have Q8 := Lib.hid (Q7.out.below hB8)
              have K8 := Lib.hid (K7.out.trans (KB.below S7.out.bw hB8))
              clear hB8
              go_wp2_with fail
              refine (looks_any S8.out Q8.out (Md.send_ok OK.out C) (RL.out.send OK.out NSE.out PN.out) (by have := Md.sn_send M C; have := SN.out; have := LN.out; omega)).mono ?_
              rintro r w9 ⟨F9, rfl, hS9, hs9, hQ9, hK9⟩
              have NX := Lib.hid (show StAt w s q (j + 1) w9 from ⟨_, _, _, _, _, _, _, _, _, _, hS9, hQ9, Md.send_ok OK.out C, RL.out.send OK.out NSE.out PN.out, by have := Md.sn_send M C; have := SN.out; omega, K8.out.trans hK9⟩)
              clear hS9 hs9 hQ9 hK9
              go_wp2_with fail
              go_roundw
              case rel => exact ⟨j + 1, by omega, by go_num, NX.out⟩
              case measure => simp [intOf] <;> omega
            · go_wp2_with fail
              refine (send_any S4.out OK.out (by have := SN.out; have := LN.out; omega) c C C2.out).mono ?_
              rintro r w5 ⟨p, vS5, vR5, sb5, rb5, F5, rfl, hA5, hs5, hf5, ho5, hk5⟩
              have S5 := Lib.hid hA5
              have Q5 := Lib.hid (Q4.out.keepS hk5)
              have D5 := Lib.hid (D4.out.keepS2 hk5)
              have PT := Lib.hid (PtO.of hf5)
              have K5 := Lib.hid (K4.out.trans hk5.2)
              have OE := Lib.hid (RL.out.sendF OK.out)
              have FLN := Lib.hid (Rf.sendF_len Q5.out.lS Q5.out.lR)
              rw [RL.out.sendE OK.out]
              clear hA5 hs5 hf5 ho5 hk5 z0 z1
              go_wp2_with (first
                | (with_reducible refine wpList_load_lg rfl 56 (.tmp 13) (by rfl) db 0 (by with_unfolding_all rfl) (ints ns) _ Zn HZn.out D5.out.lg Try.underlying56 rfl HLI.out ?_))
              refine (send15_any Q5.out (by have := SM.out; omega) (by have := SM.out; omega) ns NL.out Zn HZn.out).mono ?_
              rintro r w6 ⟨u6, rfl, hQ6, hk6⟩
              obtain ⟨e, he⟩ : ∃ e, Q.sendE = e := ⟨_, rfl⟩
              rw [he]
              obtain ⟨o', ho'⟩ : ∃ o, Q.sendF = o := ⟨_, rfl⟩
              rw [ho'] at OE FLN ⊢
              obtain ⟨Zf, hZf⟩ : ∃ Z, (fetC o').toArray = Z := ⟨_, rfl⟩
              rw [hZf]
              have HZf := Lib.hid hZf
              have FL := Lib.hid (fetC_len (o := o') FLN.out)
              have FI := Lib.hid (show (Try.prog.info? 60).map (·.size) = some (fetC o').length from by rw [FL.out]; exact fsize)
              have FZ := Lib.hid (show fz0.length = (fetC o').length from (show fz0.length = 257 from by simp [fz0, length_ints, zeros]).trans FL.out.symm)
              have S6 := Lib.hid (S5.out.keepQ hk6)
              have Q6 := Lib.hid hQ6
              have K6 := Lib.hid (K5.out.trans hk6.2)
              have N6 := Lib.hid (Lt.new w6 fz0 60 (Z := fzA) rfl)
              have BA6 := Lib.hid ((Below.refl w6.heap.size w6).alloc (Nat.le_refl _) (.cells fzA 60))
              clear hQ6 hk6 he ho' hZf
              go_wp2_with (first
                | (with_reducible refine wpList_store_lg rfl 60 (.tmp 17) (.tmp 89) (by rfl) w6.heap.size 0 (by with_unfolding_all rfl) (fetC o') fz0 Zf (by with_unfolding_all rfl) HZf.out N6.out.lg FZ.out FI.out (fetC_one _) ?_))
              intro w7 L7 T7
              have X7 := Lib.hid (N6.out.stored T7 L7)
              have B67 := Lib.hid (show Below w6.heap.size w6 w7 from T7.turned.below BA6.out (Nat.le_refl _) (fun i e => by rw [e]; exact Nat.le_refl _))
              have S7 := Lib.hid (S6.out.below B67.out)
              have Q7 := Lib.hid (Q6.out.below B67.out)
              have K7 := Lib.hid (K6.out.trans (KB.below S6.out.bw B67.out))
              obtain ⟨gf, hgf⟩ : ∃ g, w6.heap.size = g := ⟨_, rfl⟩
              rw [hgf] at X7 ⊢
              clear L7 T7 hgf
              go_wp2_with (first
                | (with_reducible refine wpList_load_lg rfl 60 (.tmp 17) (by rfl) gf 0 (by with_unfolding_all rfl) (fetC o') _ Zf HZf.out X7.out.lg Try.underlying60 rfl FI.out ?_))
              refine (same_any S7.out.fam _ M.sendF o' PT.out OE.out FLN.out Zf HZf.out).mono ?_
              rintro r w8 ⟨rfl, hB8⟩
              have S8 := Lib.hid (S7.out.below hB8)
              have Q8 := Lib.hid (Q7.out.below hB8)
              have K8 := Lib.hid (K7.out.trans (KB.below S7.out.bw hB8))
              clear hB8
              go_wp2_with fail
              refine (looks_any S8.out Q8.out (Md.send_ok OK.out C) (RL.out.send OK.out NSE.out PN.out) (by have := Md.sn_send M C; have := SN.out; have := LN.out; omega)).mono ?_
              rintro r w9 ⟨F9, rfl, hS9, hs9, hQ9, hK9⟩
              have NX := Lib.hid (show StAt w s q (j + 1) w9 from ⟨_, _, _, _, _, _, _, _, _, _, hS9, hQ9, Md.send_ok OK.out C, RL.out.send OK.out NSE.out PN.out, by have := Md.sn_send M C; have := SN.out; omega, K8.out.trans hK9⟩)
              clear hS9 hs9 hQ9 hK9
              go_wp2_with fail
              go_roundw
              case rel => exact ⟨j + 1, by omega, by go_num, NX.out⟩
              case measure => simp [intOf] <;> omega
            · go_wp2_with fail
              refine (recv_any S4.out OK.out (by have := SN.out; have := LN.out; omega) c C C2.out).mono ?_
              rintro r w5 ⟨p, vS5, vR5, sb5, rb5, F5, rfl, hA5, hs5, hf5, ho5, hk5⟩
              have S5 := Lib.hid hA5
              have Q5 := Lib.hid (Q4.out.keepS hk5)
              have D5 := Lib.hid (D4.out.keepS2 hk5)
              have PT := Lib.hid (PtO.of hf5)
              have K5 := Lib.hid (K4.out.trans hk5.2)
              have OE := Lib.hid (RL.out.recvF OK.out)
              have FLN := Lib.hid (Rf.recvF_len Q5.out.lS Q5.out.lR)
              rw [RL.out.recvE OK.out]
              clear hA5 hs5 hf5 ho5 hk5 z0 z1
              go_wp2_with (first
                | (with_reducible refine wpList_load_lg rfl 56 (.tmp 13) (by rfl) db 0 (by with_unfolding_all rfl) (ints ns) _ Zn HZn.out D5.out.lg Try.underlying56 rfl HLI.out ?_))
              refine (recv15_any Q5.out (by have := SM.out; omega) (by have := SM.out; omega) ns NL.out Zn HZn.out).mono ?_
              rintro r w6 ⟨u6, rfl, hQ6, hk6⟩
              obtain ⟨e, he⟩ : ∃ e, Q.recvE = e := ⟨_, rfl⟩
              rw [he]
              obtain ⟨o', ho'⟩ : ∃ o, (Q.peek false) = o := ⟨_, rfl⟩
              rw [ho'] at OE FLN ⊢
              obtain ⟨Zf, hZf⟩ : ∃ Z, (fetC o').toArray = Z := ⟨_, rfl⟩
              rw [hZf]
              have HZf := Lib.hid hZf
              have FL := Lib.hid (fetC_len (o := o') FLN.out)
              have FI := Lib.hid (show (Try.prog.info? 60).map (·.size) = some (fetC o').length from by rw [FL.out]; exact fsize)
              have FZ := Lib.hid (show fz0.length = (fetC o').length from (show fz0.length = 257 from by simp [fz0, length_ints, zeros]).trans FL.out.symm)
              have S6 := Lib.hid (S5.out.keepQ hk6)
              have Q6 := Lib.hid hQ6
              have K6 := Lib.hid (K5.out.trans hk6.2)
              have N6 := Lib.hid (Lt.new w6 fz0 60 (Z := fzA) rfl)
              have BA6 := Lib.hid ((Below.refl w6.heap.size w6).alloc (Nat.le_refl _) (.cells fzA 60))
              clear hQ6 hk6 he ho' hZf
              go_wp2_with (first
                | (with_reducible refine wpList_store_lg rfl 60 (.tmp 21) (.tmp 113) (by rfl) w6.heap.size 0 (by with_unfolding_all rfl) (fetC o') fz0 Zf (by with_unfolding_all rfl) HZf.out N6.out.lg FZ.out FI.out (fetC_one _) ?_))
              intro w7 L7 T7
              have X7 := Lib.hid (N6.out.stored T7 L7)
              have B67 := Lib.hid (show Below w6.heap.size w6 w7 from T7.turned.below BA6.out (Nat.le_refl _) (fun i e => by rw [e]; exact Nat.le_refl _))
              have S7 := Lib.hid (S6.out.below B67.out)
              have Q7 := Lib.hid (Q6.out.below B67.out)
              have K7 := Lib.hid (K6.out.trans (KB.below S6.out.bw B67.out))
              obtain ⟨gf, hgf⟩ : ∃ g, w6.heap.size = g := ⟨_, rfl⟩
              rw [hgf] at X7 ⊢
              clear L7 T7 hgf
              go_wp2_with (first
                | (with_reducible refine wpList_load_lg rfl 60 (.tmp 21) (by rfl) gf 0 (by with_unfolding_all rfl) (fetC o') _ Zf HZf.out X7.out.lg Try.underlying60 rfl FI.out ?_))
              refine (same_any S7.out.fam _ M.recvF o' PT.out OE.out FLN.out Zf HZf.out).mono ?_
              rintro r w8 ⟨rfl, hB8⟩
              have S8 := Lib.hid (S7.out.below hB8)
              have Q8 := Lib.hid (Q7.out.below hB8)
              have K8 := Lib.hid (K7.out.trans (KB.below S7.out.bw hB8))
              clear hB8
              go_wp2_with fail
              refine (looks_any S8.out Q8.out (Md.recv_ok OK.out C) (RL.out.recv OK.out NSE.out PN.out) (by have := Md.sn_recv M C; have := SN.out; have := LN.out; omega)).mono ?_
              rintro r w9 ⟨F9, rfl, hS9, hs9, hQ9, hK9⟩
              have NX := Lib.hid (show StAt w s q (j + 1) w9 from ⟨_, _, _, _, _, _, _, _, _, _, hS9, hQ9, Md.recv_ok OK.out C, RL.out.recv OK.out NSE.out PN.out, by have := Md.sn_recv M C; have := SN.out; omega, K8.out.trans hK9⟩)
              clear hS9 hs9 hQ9 hK9
              go_wp2_with fail
              go_roundw
              case rel => exact ⟨j + 1, by omega, by go_num, NX.out⟩
              case measure => simp [intOf] <;> omega
            · go_wp2_with fail
              refine (recv_any S4.out OK.out (by have := SN.out; have := LN.out; omega) c C C2.out).mono ?_
              rintro r w5 ⟨p, vS5, vR5, sb5, rb5, F5, rfl, hA5, hs5, hf5, ho5, hk5⟩
              have S5 := Lib.hid hA5
              have Q5 := Lib.hid (Q4.out.keepS hk5)
              have D5 := Lib.hid (D4.out.keepS2 hk5)
              have PT := Lib.hid (PtO.of hf5)
              have K5 := Lib.hid (K4.out.trans hk5.2)
              have OE := Lib.hid (RL.out.recvF OK.out)
              have FLN := Lib.hid (Rf.recvF_len Q5.out.lS Q5.out.lR)
              rw [RL.out.recvE OK.out]
              clear hA5 hs5 hf5 ho5 hk5 z0 z1
              go_wp2_with (first
                | (with_reducible refine wpList_load_lg rfl 56 (.tmp 13) (by rfl) db 0 (by with_unfolding_all rfl) (ints ns) _ Zn HZn.out D5.out.lg Try.underlying56 rfl HLI.out ?_))
              refine (recv15_any Q5.out (by have := SM.out; omega) (by have := SM.out; omega) ns NL.out Zn HZn.out).mono ?_
              rintro r w6 ⟨u6, rfl, hQ6, hk6⟩
              obtain ⟨e, he⟩ : ∃ e, Q.recvE = e := ⟨_, rfl⟩
              rw [he]
              obtain ⟨o', ho'⟩ : ∃ o, (Q.peek false) = o := ⟨_, rfl⟩
              rw [ho'] at OE FLN ⊢
              obtain ⟨Zf, hZf⟩ : ∃ Z, (fetC o').toArray = Z := ⟨_, rfl⟩
              rw [hZf]
              have HZf := Lib.hid hZf
              have FL := Lib.hid (fetC_len (o := o') FLN.out)
              have FI := Lib.hid (show (Try.prog.info? 60).map (·.size) = some (fetC o').length from by rw [FL.out]; exact fsize)
              have FZ := Lib.hid (show fz0.length = (fetC o').length from (show fz0.length = 257 from by simp [fz0, length_ints, zeros]).trans FL.out.symm)
              have S6 := Lib.hid (S5.out.keepQ hk6)
              have Q6 := Lib.hid hQ6
              have K6 := Lib.hid (K5.out.trans hk6.2)
              have N6 := Lib.hid (Lt.new w6 fz0 60 (Z := fzA) rfl)
              have BA6 := Lib.hid ((Below.refl w6.heap.size w6).alloc (Nat.le_refl _) (.cells fzA 60))
              clear hQ6 hk6 he ho' hZf
              go_wp2_with (first
                | (with_reducible refine wpList_store_lg rfl 60 (.tmp 21) (.tmp 113) (by rfl) w6.heap.size 0 (by with_unfolding_all rfl) (fetC o') fz0 Zf (by with_unfolding_all rfl) HZf.out N6.out.lg FZ.out FI.out (fetC_one _) ?_))
              intro w7 L7 T7
              have X7 := Lib.hid (N6.out.stored T7 L7)
              have B67 := Lib.hid (show Below w6.heap.size w6 w7 from T7.turned.below BA6.out (Nat.le_refl _) (fun i e => by rw [e]; exact Nat.le_refl _))
              have S7 := Lib.hid (S6.out.below B67.out)
              have Q7 := Lib.hid (Q6.out.below B67.out)
              have K7 := Lib.hid (K6.out.trans (KB.below S6.out.bw B67.out))
              obtain ⟨gf, hgf⟩ : ∃ g, w6.heap.size = g := ⟨_, rfl⟩
              rw [hgf] at X7 ⊢
              clear L7 T7 hgf
              go_wp2_with (first
                | (with_reducible refine wpList_load_lg rfl 60 (.tmp 21) (by rfl) gf 0 (by with_unfolding_all rfl) (fetC o') _ Zf HZf.out X7.out.lg Try.underlying60 rfl FI.out ?_))
              refine (same_any S7.out.fam _ M.recvF o' PT.out OE.out FLN.out Zf HZf.out).mono ?_
              rintro r w8 ⟨rfl, hB8⟩
              have S8 := Lib.hid (S7.out.below hB8)
              have Q8 := Lib.hid (Q7.out.below hB8)
              have K8 := Lib.hid (K7.out.trans (KB.below S7.out.bw hB8))
              clear hB8
              go_wp2_with fail
              refine (looks_any S8.out Q8.out (Md.recv_ok OK.out C) (RL.out.recv OK.out NSE.out PN.out) (by have := Md.sn_recv M C; have := SN.out; have := LN.out; omega)).mono ?_
              rintro r w9 ⟨F9, rfl, hS9, hs9, hQ9, hK9⟩
              have NX := Lib.hid (show StAt w s q (j + 1) w9 from ⟨_, _, _, _, _, _, _, _, _, _, hS9, hQ9, Md.recv_ok OK.out C, RL.out.recv OK.out NSE.out PN.out, by have := Md.sn_recv M C; have := SN.out; omega, K8.out.trans hK9⟩)
              clear hS9 hs9 hQ9 hK9
              go_wp2_with fail
              go_roundw
              case rel => exact ⟨j + 1, by omega, by go_num, NX.out⟩
              case measure => simp [intOf] <;> omega
            · go_upto_region 29 with fail
              obtain ⟨e, he⟩ : ∃ e : Int, (if Q.cl then 90 else 0) = e := ⟨_, rfl⟩
              have hce : M.closeE = e := RL.out.closeE.trans he
              have SD := Lib.hid (S4.out.below (Below.refl _ _).drew)
              have QD := Lib.hid (Q4.out.below (Below.refl _ _).drew)
              have DD := Lib.hid (D4.out.below (Below.refl _ _).drew)
              have KD := Lib.hid (K4.out.trans (KB.below S4.out.bw (Below.refl _ _).drew))
              have sc := sclose_any SD.out c C C2.out
              unfold ClosePost at sc
              rw [hce] at sc
              have SC := Lib.hid sc
              have C15 := Lib.hid (show ∀ W, QAt w.heap.size q W uS uR Q → Calls Try.prog 28 #[.pointer (some ⟨q, 0, none⟩), .agg Zn] W (fun r w' => r = .returned (.int .i64 e) ∧ QAt w.heap.size q w' uS uR (Q.close ns) ∧ KeepQ w.heap.size W w') from fun W hW => by
                have h := close15_any hW ns NL.out Zn HZn.out
                unfold QCls at h
                rw [he] at h
                exact h)
              have l1 := run_ld56 db 0 ns NL.out Zn HZn.out
              have d1 := D4.out.lg.range
              have d2 := DD.out.lg.range
              clear sc he hce z0 z1
              go_region_law (first
                | (go_simp; go_at_call 15; (with_reducible refine SC.out.mono ?_); rintro r w5 ⟨cb5, F5, rfl, hA5, hs5, ho5, hk5⟩; have S5 := Lib.hid hA5; have Q5 := Lib.hid (QD.out.keepS hk5); have d3 := (DD.out.keepS2 hk5).lg.range; have K5 := Lib.hid (KD.out.trans hk5.2); clear hA5 hs5 ho5 hk5)
                | (go_simp; go_at_call 28; (with_reducible refine (C15.out _ Q5.out).mono ?_); rintro r w8 ⟨rfl, hQ8, hk8⟩; have S8 := Lib.hid (S5.out.keepQ hk8); have Q8 := Lib.hid hQ8; have K8 := Lib.hid (K5.out.trans hk8.2); clear hQ8 hk8))
              all_goals
                clear l1 d1 d2
                go_wp2_with fail
                refine (looks_any S8.out Q8.out (Md.close_ok OK.out C) (RL.out.close NSE.out PN.out) (by have := Md.sn_close M C; have := SN.out; have := LN.out; omega)).mono ?_
                rintro r w9 ⟨F9, rfl, hS9, hs9, hQ9, hK9⟩
                have NX := Lib.hid (show StAt w s q (j + 1) w9 from ⟨_, _, _, _, _, _, _, _, _, _, hS9, hQ9, Md.close_ok OK.out C, RL.out.close NSE.out PN.out, by have := Md.sn_close M C; have := SN.out; omega, K8.out.trans hK9⟩)
                clear hS9 hs9 hQ9 hK9
                go_wp2_with fail
                go_roundw
                case rel => exact ⟨j + 1, by omega, by go_num, NX.out⟩
                case measure => simp [intOf] <;> omega
            · go_wp2_with fail
              refine (sdrop_any S4.out (kept_small S4.out OK.out (by have := SN.out; have := LN.out; omega)).1 (kept_small S4.out OK.out (by have := SN.out; have := LN.out; omega)).2 Tid).mono ?_
              rintro r w5 ⟨F5, rfl, hA5, ho5, hk5⟩
              have S5 := Lib.hid hA5
              have Q5 := Lib.hid (Q4.out.keepS hk5.s)
              have K5 := Lib.hid (K4.out.trans hk5.s.2)
              have v1 : w5.cell? ⟨wr.heap.size, 1, none⟩ = some (.int .i64 Tid) := (World.cell?_of_block (a := ⟨wr.heap.size, 1, none⟩) (hk5.1 _ (by decide) (by decide) _ _ _ SX4.out)).trans z1
              clear hA5 ho5 hk5 z0 z1
              go_wp2_with fail
              refine (drop15_any Q5.out (by have := SM.out; omega) (by have := SM.out; omega) Tid).mono ?_
              rintro r w8 ⟨rfl, hQ8, hk8⟩
              have S8 := Lib.hid (S5.out.keepQ hk8)
              have Q8 := Lib.hid hQ8
              have K8 := Lib.hid (K5.out.trans hk8.2)
              clear hQ8 hk8 v1
              go_wp2_with fail
              refine (looks_any S8.out Q8.out (Md.drop_ok OK.out Tid) (RL.out.drop Tid) (by have := Md.sn_drop M Tid; have := SN.out; have := LN.out; omega)).mono ?_
              rintro r w9 ⟨F9, rfl, hS9, hs9, hQ9, hK9⟩
              have NX := Lib.hid (show StAt w s q (j + 1) w9 from ⟨_, _, _, _, _, _, _, _, _, _, hS9, hQ9, Md.drop_ok OK.out Tid, RL.out.drop Tid, by have := Md.sn_drop M Tid; have := SN.out; omega, K8.out.trans hK9⟩)
              clear hS9 hs9 hQ9 hK9
              go_wp2_with fail
              go_roundw
              case rel => exact ⟨j + 1, by omega, by go_num, NX.out⟩
              case measure => simp [intOf] <;> omega
            · have S8 := S4
              have Q8 := Q4
              have K8 := K4
              go_wp2_with fail
              refine (looks_any S8.out Q8.out (OK.out) (RL.out) (by have := SN.out; have := LN.out; omega)).mono ?_
              rintro r w9 ⟨F9, rfl, hS9, hs9, hQ9, hK9⟩
              have NX := Lib.hid (show StAt w s q (j + 1) w9 from ⟨_, _, _, _, _, _, _, _, _, _, hS9, hQ9, OK.out, RL.out, by have := SN.out; omega, K8.out.trans hK9⟩)
              clear hS9 hs9 hQ9 hK9
              go_wp2_with fail
              go_roundw
              case rel => exact ⟨j + 1, by omega, by go_num, NX.out⟩
              case measure => simp [intOf] <;> omega
        · have hge : (ss.length : Int) ≤ j := by omega
          clear hlt
          obtain ⟨vS, vR, sb, rb, cb, F, M, uS, uR, Q, hA, hQ, hok, hrel, hsn, hK⟩ := AT.out
          have K0 := Lib.hid hK.bel
          clear hA hQ hok hrel hsn hK AT
          go_wp2_with fail
          refine (fetches_any _).mono ?_
          rintro r w2 ⟨rfl, hB2⟩
          have BF := Lib.hid (below_trans K0.out hB2 K0.out.size)
          clear hB2
          go_wp2_with fail
          go_ret
          exact ⟨rfl, BF.out⟩
  · go_enter Try.func6, Try.ntmps6
    go_wp2_with fail
    refine (snew_any n w).mono ?_
    rintro r w1 (⟨h, _⟩ | ⟨_, rfl, rfl⟩)
    · exact absurd h hn
    go_wp2_with fail
    refine (new15_any n w).mono ?_
    rintro r w2 (⟨_, rfl, rfl⟩ | ⟨k, hk, hk4, _⟩)
    rotate_left
    · omega
    go_wp2_with fail
    refine (fetches_any _).mono ?_
    rintro r w2 ⟨rfl, hB2⟩
    go_wp2_with fail
    go_ret
    exact ⟨rfl, hB2⟩
end Go.Proofs.Ytlkfhobacgnckaa

