
/-
  ReportStays.
-/
import Derived.Test.YtkcnbkdpjlpppaaRptK
namespace Go.Proofs.Ytkcnbkdpjlpppaa
open Go.RowKit
set_option linter.unusedVariables false
set_option linter.unusedSimpArgs false
set_option maxRecDepth 100000

@[local go_sem ↓ high] theorem run_eqRace_self (a0 a1 a2 a3 : Int) (a4 : Bool) (w : World) :
    (Op.equalIn 10000 38 (.agg #[.int .i64 a0, .int .i64 a1, .int .i64 a2, .int .i64 a3, .bool a4]) (.agg #[.int .i64 a0, .int .i64 a1, .int .i64 a2, .int .i64 a3, .bool a4])).run Try.prog w = .ok true w := by
  have h0 : (a0 == a0) = true := by simp
  have h1 : (a1 == a1) = true := by simp
  have h2 : (a2 == a2) = true := by simp
  have h3 : (a3 == a3) = true := by simp
  have h4 : (a4 == a4) = true := by simp
  go_simp

theorem eight_cells' {w : World} {k : Nat} {t : TypeId} {a0 a1 a2 a3 a4 a5 a6 a7 : Value} (h : w.heap[k]? = some (Obj.cells #[a0, a1, a2, a3, a4, a5, a6, a7] t (0, 0))) :
    w.cell? ⟨k, 0, none⟩ = some a0 ∧ w.cell? ⟨k, 1, none⟩ = some a1 ∧ w.cell? ⟨k, 2, none⟩ = some a2 ∧ w.cell? ⟨k, 3, none⟩ = some a3 ∧ w.cell? ⟨k, 4, none⟩ = some a4 ∧ w.cell? ⟨k, 5, none⟩ = some a5 ∧ w.cell? ⟨k, 6, none⟩ = some a6 ∧ w.cell? ⟨k, 7, none⟩ = some a7 := by
  refine ⟨?_, ?_, ?_, ?_, ?_, ?_, ?_, ?_⟩ <;> (simp only [World.cell?, h]; rfl)
/-- Both reports in the course of the law. -/
def Bi (B B2 b mb b2 mb2 : Nat) (i : Int) (k : Nat) (M M2 : Int → Option Rce) (cs cs2 : Nat → Cel) (w : World) : Prop :=
  (∃ n, n ≤ k ∧ Rp B w b mb n 8 M cs) ∧ (∃ n, n ≤ k ∧ Rp B2 w b2 mb2 n 8 M2 cs2) ∧ Apart mb mb2 cs cs2 ∧ Same i M M2 cs cs2
theorem Bi.below {B B2 b mb b2 mb2 : Nat} {i : Int} {k : Nat} {M M2 : Int → Option Rce} {cs cs2 : Nat → Cel} {w w' : World} (h : Bi B B2 b mb b2 mb2 i k M M2 cs cs2 w) (hB : Below w.heap.size w w') : Bi B B2 b mb b2 mb2 i k M M2 cs cs2 w' := by
  obtain ⟨⟨n, hn, h1⟩, ⟨n2, hn2, h2⟩, h3, h4⟩ := h
  exact ⟨⟨n, hn, h1.below hB⟩, ⟨n2, hn2, h2.below hB⟩, h3, h4⟩
theorem Bi.mono {B B2 b mb b2 mb2 : Nat} {i : Int} {k k' : Nat} {M M2 : Int → Option Rce} {cs cs2 : Nat → Cel} {w : World} (h : Bi B B2 b mb b2 mb2 i k M M2 cs cs2 w) (hk : k ≤ k') : Bi B B2 b mb b2 mb2 i k' M M2 cs cs2 w := by
  obtain ⟨⟨n, hn, h1⟩, ⟨n2, hn2, h2⟩, h3, h4⟩ := h
  exact ⟨⟨n, by omega, h1⟩, ⟨n2, by omega, h2⟩, h3, h4⟩
/-- What a step leaves. -/
def BiStep (B B2 b mb b2 mb2 : Nat) (i : Int) (k : Nat) (M : Int → Option Rce) (w0 : World) (q9 : Nat) (bx : Array Value) (w : World) : Prop :=
  (∃ M' M2' cs' cs2', Bi B B2 b mb b2 mb2 i k M' M2' cs' cs2' w ∧ ∀ r, M i = some r → M' i = some r) ∧ Below w0.heap.size w0 w ∧ w.heap[q9]? = some (.cells bx 38 (0, 0))

set_option maxHeartbeats 4000000 in
theorem stays_law (v : Value) (es : List RStp) (i : Int) (w : World) (h : RStpsOf w v es) (hi : (kI i).wf = true) : Calls Try.prog 4 #[v, .int .i64 i] w (LawPost w) := by
  obtain ⟨ao, cap, rfl, hc⟩ := h
  obtain ⟨n, hn⟩ : ∃ n, es.length = n := ⟨_, rfl⟩
  have HC := Lib.hid hc
  have HN := Lib.hid hn
  have HI := Lib.hid hi
  rw [hn]
  clear hc hn hi
  go_enter Try.func4, Try.ntmps4
  go_wp2_with fail
  refine (rep_new w.heap.size w (Nat.le_refl _)).mono ?_
  rintro r w1 ⟨⟨b, mb, cs, rfl, hr, hcs⟩, hB1⟩
  have B1 := Lib.hid hB1
  have R1 := Lib.hid hr
  have CS := Lib.hid hcs
  clear hr hcs hB1
  go_wp2_with fail
  refine (rep_new w1.heap.size w1 (Nat.le_refl _)).mono ?_
  rintro r w2 ⟨⟨b2, mb2, cs2, rfl, hr2, hcs2⟩, hB2⟩
  have B2 := Lib.hid (below_trans B1.out hB2 B1.out.size)
  have LW := Lib.hid (show w.heap.size ≤ w1.heap.size from B1.out.size)
  have BI := Lib.hid (show Bi w.heap.size w1.heap.size b mb b2 mb2 i 0 (fun _ => none) (fun _ => none) cs cs2 w2 from by
    refine ⟨⟨0, Nat.le_refl _, R1.out.below hB2⟩, ⟨0, Nat.le_refl _, hr2⟩, ⟨?_, fun i j hi hj => ?_⟩, ⟨rfl, fun hi => ?_, fun _ => rfl⟩⟩
    · have := R1.out.mp.lt; have := hr2.low.2.1; omega
    · have := (R1.out.ce i hi).low.2; have := (hr2.ce j hj).low.1; omega
    · obtain ⟨i0, i8⟩ := of_decide_eq_true hi
      obtain ⟨x, l, t⟩ := CS.out i.toNat (by omega)
      obtain ⟨x2, l2, t2⟩ := hcs2 i.toNat (by omega)
      exact ⟨by rw [x, x2], by rw [l, l2], by rw [t, t2]⟩)
  clear hr2 hcs2 hB2 CS R1 B1
  by_cases hl : 100 < n
  · have hl' : (100 : Int) < (n : Int) := by omega
    go_wp2_with fail
    refine (two_any w2).mono ?_
    rintro r w3 ⟨rfl, hb3⟩
    have B3 := Lib.hid (below_trans B2.out hb3 B2.out.size)
    clear hb3
    go_wp2_with fail
    go_ret
    exact ⟨rfl, B3.out⟩
  · have hl' : ¬ ((100 : Int) < (n : Int)) := by omega
    have NL := Lib.hid hl
    clear hl
    go_wp2_with fail
    go_loopw [41] (fun j wr => ∃ k : Nat, k ≤ n ∧ j = .int .i64 k ∧ (∃ M M2 cs cs2, Bi w.heap.size w1.heap.size b mb b2 mb2 i k M M2 cs cs2 wr) ∧ Below w.heap.size w wr) (fun j _ => n - (intOf j).toNat)
    case atStart => exact ⟨0, by omega, rfl, ⟨_, _, _, _, BI.out⟩, B2.out⟩
    case round =>
      obtain ⟨k, hk, rfl, ⟨M, M2, cs, cs2, hbi⟩, hbr⟩ := hrel
      have HB := Lib.hid hbr
      have BR := Lib.hid hbi
      clear hbr hbi BI B2
      by_cases hlt : k < n
      · have hlt' : (k : Int) < (n : Int) := by omega
        have KM := Lib.hid (show k + 1 < maxLen from by have := NL.out; unfold maxLen; omega)
        obtain ⟨b', o, rfl, hcc⟩ := HC.out (by have := HN.out; omega)
        obtain ⟨c0, c1, c2, c3, c4, c5, c6, c7, hsrc, hu⟩ := (hcc k (by have := HN.out; omega)).below (Nat.le_refl _) HB.out
        obtain ⟨s, hs⟩ : ∃ s, es.getD k default = s := ⟨_, rfl⟩
        rw [hs] at c0 c1 c2 c3 c4 c5 c6 c7 hsrc hu
        obtain ⟨⟨sa, sb, sc, swr⟩, e, cv, cl, tid, cut⟩ := s
        dsimp only at c0 c1 c2 c3 c4 c5 c6 c7 hsrc hu
        obtain ⟨so, scap, rfl, _⟩ := id hsrc
        obtain ⟨q, hq⟩ : ∃ q, cl.length = q := ⟨_, rfl⟩
        rw [hq] at c5 hsrc
        clear hcc hs
        obtain ⟨W1, hW1⟩ : ∃ W1, wr.alloc (.cells #[.int .i64 sa, .int .i64 sb, .int .i64 sc, .bool swr, .int .u64 e, .slice so q scap, .int .i64 tid, .int .i64 cut] 51) = W1 := ⟨_, rfl⟩
        have BW1 : Below wr.heap.size wr W1 := by rw [← hW1]; exact (Below.refl _ _).alloc (Nat.le_refl _) _
        have S1 := Lib.hid (show W1.heap[wr.heap.size]? = some (.cells #[.int .i64 sa, .int .i64 sb, .int .i64 sc, .bool swr, .int .u64 e, .slice so q scap, .int .i64 tid, .int .i64 cut] 51 (0, 0)) from by rw [← hW1]; exact heap_alloc_new wr _)
        have BI1 := Lib.hid (BR.out.below BW1)
        have HB1 := Lib.hid (below_trans HB.out BW1 HB.out.size)
        have SR := Lib.hid (hsrc.below (Nat.le_refl _) BW1)
        have HU := Lib.hid hu
        have HW1 := Lib.hid hW1
        obtain ⟨p, hp⟩ : ∃ p, wr.heap.size = p := ⟨_, rfl⟩
        rw [hp] at S1
        have HP := Lib.hid hp
        clear hW1 BW1 hsrc hu hq hp
        obtain ⟨⟨n1, hn1, r1⟩, _⟩ := BI1.out
        have F1 := Lib.hid (rfirst_any _ _ _ _ _ _ i W1 r1 HI.out)
        clear hn1 r1 n1
        obtain ⟨s1, hs1⟩ : ∃ s, (M i).isSome = s := ⟨_, rfl⟩
        obtain ⟨⟨g0, g1, g2, g3, g4⟩, hr0⟩ : ∃ r0, (M i).getD rce0 = r0 := ⟨_, rfl⟩
        rw [hs1, hr0] at F1
        unfold rcV at F1
        dsimp only at F1
        have HS1 := Lib.hid hs1
        have HR0 := Lib.hid hr0
        clear hs1 hr0
        go_upto_region 8 with fail
        rw [HW1.out, HP.out]
        clear c0 c1 c2 c3 c4 c5 c6 c7
        go_wp2_with fail
        refine F1.out.mono ?_
        rintro r w3 ⟨rfl, hb3⟩
        obtain ⟨W3, hW3⟩ : ∃ W3, w3.alloc (.cells #[.int .i64 g0, .int .i64 g1, .int .i64 g2, .int .i64 g3, .bool g4] 38) = W3 := ⟨_, rfl⟩
        have BW3 : Below W1.heap.size W1 W3 := by rw [← hW3]; exact hb3.alloc hb3.size _
        have X3 := Lib.hid (show W3.heap[w3.heap.size]? = some (.cells #[.int .i64 g0, .int .i64 g1, .int .i64 g2, .int .i64 g3, .bool g4] 38 (0, 0)) from by rw [← hW3]; exact heap_alloc_new w3 _)
        have S3 := Lib.hid ((BW3.block _ (lt_of_heap S1.out)).trans S1.out)
        have BI3 := Lib.hid (BI1.out.below BW3)
        have HB3 := Lib.hid (below_trans HB1.out BW3 HB1.out.size)
        have SR3 := Lib.hid (SR.out.below (Nat.le_refl _) BW3)
        have HW3 := Lib.hid hW3
        obtain ⟨p9, hp9⟩ : ∃ p, w3.heap.size = p := ⟨_, rfl⟩
        rw [hp9] at X3
        have HP9 := Lib.hid hp9
        clear hb3 hW3 BW3 hp9
        go_upto_region 9 with fail
        rw [HW3.out, HP9.out]
        obtain ⟨d0, d1, d2, d3, d4, d5, d6, d7⟩ := eight_cells' S3.out
        go_wp2_with fail
        refine (of_any _ cl W3 SR3.out).mono ?_
        rintro r w4 hof
        rcases hof with ⟨hz, bc, gc, rfl, hck, hb4, _, _⟩ | ⟨hz, rfl, rfl⟩
        · have BI4 := Lib.hid (BI3.out.below hb4)
          have HB4 := Lib.hid (below_trans HB3.out hb4 HB3.out.size)
          have S4 := Lib.hid ((hb4.block _ (lt_of_heap S3.out)).trans S3.out)
          have X4 := Lib.hid ((hb4.block _ (lt_of_heap X3.out)).trans X3.out)
          have CK4 := Lib.hid (show CkV w4 (.pointer (some ⟨bc, 0, none⟩)) (at0 cl) from .inr ⟨_, _, rfl, hck, rfl⟩)
          clear hz hck hb4 d0 d1 d2 d3 d4 d5 d6 d7
          obtain ⟨d0, d1, d2, d3, d4, d5, d6, d7⟩ := eight_cells' S4.out
          go_upto_if 61 with (fail)
          go_cut [61] (fun _ wx => BiStep w.heap.size w1.heap.size b mb b2 mb2 i (k + 1) M w p9 #[.int .i64 g0, .int .i64 g1, .int .i64 g2, .int .i64 g3, .bool g4] wx)
          case first =>
            by_cases hcut : 0 ≤ cut
            · obtain ⟨⟨n1, hn1, r1⟩, ⟨n2, hn2, r2⟩, hap, hsm⟩ := BI4.out
              have R4 := Lib.hid r1
              have Q4 := Lib.hid r2
              have NN := Lib.hid (show n1 ≤ k ∧ n2 ≤ k from ⟨hn1, hn2⟩)
              have AP := Lib.hid hap
              have SM := Lib.hid hsm
              clear r1 r2 hap hsm hn1 hn2
              go_wp2_with fail
              refine (rret_do _ _ _ _ _ _ tid cut w4 R4.out).mono ?_
              rintro r w5 ⟨z5, rfl, -, hr5, ht5⟩
              have R5 := Lib.hid hr5
              have Q5 := Lib.hid (Q4.out.other R4.out AP.out.symm ht5)
              have S5 := Lib.hid ((R4.out.keepT ht5 (e := 51) (by decide) _ _ _ S4.out).trans S4.out)
              have X5 := Lib.hid ((R4.out.keepT ht5 (e := 38) (by decide) _ _ _ X4.out).trans X4.out)
              have HB5 := Lib.hid (below_turned HB4.out ht5 (Nat.le_refl _) R4.out.rlow)
              clear hr5 ht5 d0 d1 d2 d3 d4 d5 d6 d7
              obtain ⟨d0, d1, d2, d3, d4, d5, d6, d7⟩ := eight_cells' S5.out
              go_wp2_with fail
              refine (rret_do _ _ _ _ _ _ tid cut w5 Q5.out).mono ?_
              rintro r w6 ⟨z6, rfl, -, hr6, ht6⟩
              have AP5 : Apart mb mb2 (retCs cs tid cut) cs2 := AP.out.to (retCs_b cs tid cut) (fun _ => rfl)
              have DONE := Lib.hid (show BiStep w.heap.size w1.heap.size b mb b2 mb2 i (k + 1) M w p9 #[.int .i64 g0, .int .i64 g1, .int .i64 g2, .int .i64 g3, .bool g4] w6 from
                ⟨⟨_, _, _, _, ⟨⟨n1, by have := NN.out; omega, R5.out.other Q5.out AP5 ht6⟩, ⟨n2, by have := NN.out; omega, hr6⟩, AP.out.to (retCs_b cs tid cut) (retCs_b cs2 tid cut), SM.out.ret tid cut⟩, fun r hr => hr⟩,
                  below_turned HB5.out ht6 (Nat.le_refl _) (fun i hi => Nat.le_trans LW.out (Q5.out.rlow i hi)), (Q5.out.keepT ht6 (e := 38) (by decide) _ _ _ X5.out).trans X5.out⟩)
              clear hr6 ht6 AP5
              go_wp2_with fail
              go_meet
              exact DONE.out
            · obtain ⟨⟨n1, hn1, r1⟩, ⟨n2, hn2, r2⟩, hap, hsm⟩ := BI4.out
              have R4 := Lib.hid r1
              have Q4 := Lib.hid r2
              have NN := Lib.hid (show n1 ≤ k ∧ n2 ≤ k from ⟨hn1, hn2⟩)
              have AP := Lib.hid hap
              have SM := Lib.hid hsm
              clear r1 r2 hap hsm hn1 hn2
              have PUT := rput_do _ _ _ _ _ _ ⟨sa, sb, sc, swr⟩ e (some ⟨bc, 0, none⟩) (at0 cl) w4 R4.out (by have := NN.out; have := KM.out; omega) HU.out CK4.out
              unfold accV at PUT
              dsimp only at PUT
              have PUT1 := Lib.hid PUT
              clear PUT
              go_wp2_with fail
              refine PUT1.out.mono ?_
              rintro r w5 ⟨m1, y5, z5, rfl, -, hm1, hr5, ht5⟩
              have R5 := Lib.hid hr5
              have Q5 := Lib.hid (Q4.out.other R4.out AP.out.symm ht5)
              have S5 := Lib.hid ((R4.out.keepT ht5 (e := 51) (by decide) _ _ _ S4.out).trans S4.out)
              have X5 := Lib.hid ((R4.out.keepT ht5 (e := 38) (by decide) _ _ _ X4.out).trans X4.out)
              have CK5 := Lib.hid (R4.out.ckv ht5 CK4.out)
              have HB5 := Lib.hid (below_turned HB4.out ht5 (Nat.le_refl _) R4.out.rlow)
              have AP5 := Lib.hid (show Apart mb mb2 (putCs cs ⟨sa, sb, sc, swr⟩ e (at0 cl)) cs2 from AP.out.to (putCs_b _ _ _ _) (fun _ => rfl))
              have NN5 := Lib.hid hm1
              clear hr5 ht5 hm1 d0 d1 d2 d3 d4 d5 d6 d7
              obtain ⟨d0, d1, d2, d3, d4, d5, d6, d7⟩ := eight_cells' S5.out
              by_cases hci : sc = i
              · subst hci
                have SM5 := Lib.hid (SM.out.both (x := ⟨sa, sb, sc, swr⟩) (e := e) (f := at0 cl) rfl)
                have PUT := rput_do _ _ _ _ _ _ ⟨sa, sb, sc, swr⟩ e (some ⟨bc, 0, none⟩) (at0 cl) w5 Q5.out (by have := NN.out; have := KM.out; omega) HU.out CK5.out
                unfold accV at PUT
                dsimp only at PUT
                have PUT2 := Lib.hid PUT
                have ST := Lib.hid (fun r (hr : M sc = some r) => putMs_stays (cs := cs) (x := ⟨sa, sb, sc, swr⟩) (e := e) (f := at0 cl) hr)
                clear PUT
                go_wp2_with fail
                refine PUT2.out.mono ?_
                rintro r w6 ⟨m2, y6, z6, rfl, -, hm2, hr6, ht6⟩
                have DONE := Lib.hid (show BiStep w.heap.size w1.heap.size b mb b2 mb2 sc (k + 1) M w p9 #[.int .i64 g0, .int .i64 g1, .int .i64 g2, .int .i64 g3, .bool g4] w6 from
                  ⟨⟨_, _, _, _, ⟨⟨m1, by have := NN.out; have := NN5.out; omega, R5.out.other Q5.out AP5.out ht6⟩, ⟨m2, by have := NN.out; omega, hr6⟩, AP.out.to (putCs_b _ _ _ _) (putCs_b _ _ _ _), SM5.out⟩, ST.out⟩,
                    below_turned HB5.out ht6 (Nat.le_refl _) (fun i hi => Nat.le_trans LW.out (Q5.out.rlow i hi)), (Q5.out.keepT ht6 (e := 38) (by decide) _ _ _ X5.out).trans X5.out⟩)
                clear hr6 ht6 hm2
                go_wp2_with fail
                go_meet
                exact DONE.out
              · have SM5 := Lib.hid (SM.out.off (x := ⟨sa, sb, sc, swr⟩) (e := e) (f := at0 cl) hci)
                have ST := Lib.hid (fun r (hr : M i = some r) => putMs_stays (cs := cs) (x := ⟨sa, sb, sc, swr⟩) (e := e) (f := at0 cl) hr)
                have DONE := Lib.hid (show BiStep w.heap.size w1.heap.size b mb b2 mb2 i (k + 1) M w p9 #[.int .i64 g0, .int .i64 g1, .int .i64 g2, .int .i64 g3, .bool g4] w5 from
                  ⟨⟨_, _, _, _, ⟨⟨m1, by have := NN.out; have := NN5.out; omega, R5.out⟩, ⟨n2, by have := NN.out; omega, Q5.out⟩, AP5.out, SM5.out⟩, ST.out⟩, HB5.out, X5.out⟩)
                have hci' : (sc == i) = false := by simpa using hci
                go_wp2_with fail
                go_meet
                exact DONE.out
          case rest =>
            obtain ⟨⟨M', M2', cs', cs2', hbi, hst⟩, hb5, hx5⟩ := hcut
            have BI5 := Lib.hid hbi
            have ST := Lib.hid hst
            have HB5 := Lib.hid hb5
            have X5 := Lib.hid hx5
            clear hbi hst hb5 hx5 d0 d1 d2 d3 d4 d5 d6 d7
            obtain ⟨⟨n1, hn1, r1⟩, ⟨n2, hn2, r2⟩, hap, hsm⟩ := BI5.out
            have G5 := Lib.hid (fun X (hX : Below wc.heap.size wc X) => rfirst_any _ _ _ _ _ _ i X (r1.below hX) HI.out)
            have G6 := Lib.hid (fun X (hX : Below wc.heap.size wc X) => rfirst_any _ _ _ _ _ _ i X (r2.below hX) HI.out)
            have EQ := hsm.m
            rw [← EQ] at G6
            clear r1 r2 hap hsm hn1 hn2 EQ
            obtain ⟨s5, hs5⟩ : ∃ s, (M' i).isSome = s := ⟨_, rfl⟩
            obtain ⟨⟨h0, h1, h2, h3, h4⟩, hr5⟩ : ∃ r0, (M' i).getD rce0 = r0 := ⟨_, rfl⟩
            rw [hs5, hr5] at G5 G6
            have KEY : s1 = false ∨ (s1 = true ∧ s5 = true ∧ g0 = h0 ∧ g1 = h1 ∧ g2 = h2 ∧ g3 = h3 ∧ g4 = h4) := by
              cases hM : M i with
              | none => left; rw [← HS1.out, hM]; rfl
              | some r =>
                have e := ST.out r hM
                have e1 := HR0.out
                rw [hM] at e1
                rw [e] at hr5 hs5
                simp only [Option.getD_some] at e1 hr5
                rw [e1] at hr5
                cases hr5
                exact .inr ⟨by rw [← HS1.out, hM]; rfl, hs5.symm, rfl, rfl, rfl, rfl, rfl⟩
            unfold rcV at G5 G6
            dsimp only at G5 G6
            clear hs5 hr5
            have WC := Lib.hid (Below.refl wc.heap.size wc)
            go_wp2_with fail
            refine (G5.out wc WC.out).mono ?_
            rintro r w6 ⟨rfl, hb6⟩
            obtain ⟨W6, hW6⟩ : ∃ W, w6.alloc (.cells #[.int .i64 h0, .int .i64 h1, .int .i64 h2, .int .i64 h3, .bool h4] 38) = W := ⟨_, rfl⟩
            have BW6 : Below wc.heap.size wc W6 := by rw [← hW6]; exact hb6.alloc hb6.size _
            have Y6 := Lib.hid (show W6.heap[w6.heap.size]? = some (.cells #[.int .i64 h0, .int .i64 h1, .int .i64 h2, .int .i64 h3, .bool h4] 38 (0, 0)) from by rw [← hW6]; exact heap_alloc_new w6 _)
            have X6 := Lib.hid ((BW6.block _ (lt_of_heap X5.out)).trans X5.out)
            have WB6 := Lib.hid BW6
            have HW6 := Lib.hid hW6
            obtain ⟨p13, hp13⟩ : ∃ p, w6.heap.size = p := ⟨_, rfl⟩
            rw [hp13] at Y6
            have HP13 := Lib.hid hp13
            clear hb6 hW6 BW6 hp13
            go_upto_region 18 with fail
            rw [HW6.out, HP13.out]
            go_wp2_with fail
            refine (G6.out W6 WB6.out).mono ?_
            rintro r w7 ⟨rfl, hb7⟩
            obtain ⟨W7, hW7⟩ : ∃ W, w7.alloc (.cells #[.int .i64 h0, .int .i64 h1, .int .i64 h2, .int .i64 h3, .bool h4] 38) = W := ⟨_, rfl⟩
            have BW7 : Below W6.heap.size W6 W7 := by rw [← hW7]; exact hb7.alloc hb7.size _
            have Z7 : W7.heap[w7.heap.size]? = some (.cells #[.int .i64 h0, .int .i64 h1, .int .i64 h2, .int .i64 h3, .bool h4] 38 (0, 0)) := by rw [← hW7]; exact heap_alloc_new w7 _
            have X7 := (BW7.block _ (lt_of_heap X6.out)).trans X6.out
            have Y7 := (BW7.block _ (lt_of_heap Y6.out)).trans Y6.out
            have WB7 := Lib.hid (below_trans WB6.out BW7 WB6.out.size)
            have HW7 := Lib.hid hW7
            obtain ⟨p15, hp15⟩ : ∃ p, w7.heap.size = p := ⟨_, rfl⟩
            rw [hp15] at Z7
            have HP15 := Lib.hid hp15
            obtain ⟨x0, x1, x2, x3, x4⟩ := five_cells X7
            obtain ⟨y0, y1, y2, y3, y4⟩ := five_cells Y7
            obtain ⟨z0, z1, z2, z3, z4⟩ := five_cells Z7
            have FIN := Lib.hid (show Bi w.heap.size w1.heap.size b mb b2 mb2 i (k + 1) M' M2' cs' cs2' W7 ∧ Below w.heap.size w W7 from ⟨BI5.out.below WB7.out, below_trans HB5.out WB7.out HB5.out.size⟩)
            clear hb7 hW7 BW7 hp15 X7 Y7 Z7
            go_upto_region 19 with fail
            rw [HW7.out, HP15.out]
            rcases KEY with rfl | ⟨rfl, rfl, rfl, rfl, rfl, rfl, rfl⟩
            · cases s5
              all_goals
                go_wp2_with fail
                go_roundw
                case rel => exact ⟨k + 1, by omega, by go_num, ⟨_, _, _, _, FIN.out.1⟩, FIN.out.2⟩
                case measure => simp [intOf] <;> omega
            · go_wp2_with fail
              go_roundw
              case rel => exact ⟨k + 1, by omega, by go_num, ⟨_, _, _, _, FIN.out.1⟩, FIN.out.2⟩
              case measure => simp [intOf] <;> omega
        · obtain ⟨z, hz'⟩ : ∃ z, ofE cl = z := ⟨_, rfl⟩
          rw [hz'] at hz ⊢
          have hz0 : (z == 0) = false := by simpa using hz
          clear hz' hz
          go_wp2_with fail
          go_roundw
          case rel => exact ⟨k + 1, by omega, by go_num, ⟨_, _, _, _, BI3.out.mono (by omega)⟩, HB3.out⟩
          case measure => simp [intOf] <;> omega
      · have hge : (n : Int) ≤ k := by omega
        clear hlt
        go_wp2_with fail
        refine (two_any _).mono ?_
        rintro e w3 ⟨rfl, hb3⟩
        have B3 := Lib.hid (below_trans HB.out hb3 HB.out.size)
        clear hb3
        go_wp2_with fail
        go_ret
        exact ⟨rfl, B3.out⟩
end Go.Proofs.Ytkcnbkdpjlpppaa

