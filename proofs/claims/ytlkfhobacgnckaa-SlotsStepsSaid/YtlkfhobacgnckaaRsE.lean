
/-
  staitheref15: Send.
-/
import Derived.Test.YtlkfhobacgnckaaRsD
namespace Go.Proofs.Ytlkfhobacgnckaa
open Go.RowKit
set_option linter.unusedVariables false
set_option linter.unusedSimpArgs false
set_option maxRecDepth 100000

def Rf.full (Q : Rf) : Bool := decide ((Q.size : Int) ≤ (Q.S.length : Int) - Q.R.length ∧ (1 : Int) ≤ (Q.S.length : Int) - Q.R.length)
def Rf.sendE (Q : Rf) : Int := if Q.cl then 90 else if Q.full then 5 else 0
def Rf.sendF (Q : Rf) : Option (List Int) := if Q.sendE = 0 then Q.peek true else none
def Rf.send (Q : Rf) (l : List Int) : Rf := if Q.sendE = 0 then ⟨Q.size, Q.S ++ [l], Q.R, Q.cl, Q.cg⟩ else Q
def QSend (B q : Nat) (vR : Value) (Q : Rf) (l : List Int) (w : World) (r : Ending) (w' : World) : Prop :=
  ∃ vS', r = .returned (.tuple #[.agg (fetC Q.sendF).toArray, .int .i64 Q.sendE]) ∧ QAt B q w' vS' vR (Q.send l) ∧ KeepQ B w w'
theorem send15_end {B q : Nat} {w w' : World} {vS' vR : Value} {Q : Rf} {l : List Int} {tmps : Array Value} {Z : Array Value} {e : Int} (he : Q.sendE = e) (hZ : (fetC Q.sendF).toArray = Z) (hl : (fetC Q.sendF).length = 257) (L : Lt w' (w.heap.size + 1) 60 (fetC Q.sendF)) (hQ : QAt B q w' vS' vR (Q.send l)) (hK : KeepQ B w w')
    (ht : tmps.getD 4 undef = .pointer (some ⟨w.heap.size + 1, 0, none⟩)) (ht5 : tmps.getD 5 undef = .int .i64 e) :
    bodyPost Try.prog Try.f25 (QSend B q vR Q l w) Exit.ret { tmps := tmps, defers := [] } w' :=
  bodyPost_ret (v := .tuple #[.agg Z, tmps.getD 5 undef]) (results_cell_tmp Try.results25 _ _ _ _ ht (load_fet L.lg hl hZ)) rfl ⟨vS', by rw [hZ, he, ht5], hQ, hK⟩
/-- A boxed clock, and the cells of the result. -/
structure Bx (w0 w : World) (l : List Int) (cs : List Value) : Prop where
  bx : Lt w w0.heap.size 56 (ints l)
  res : Lt w (w0.heap.size + 1) 60 cs
theorem Bx.below {w0 w w' : World} {l : List Int} {cs : List Value} (h : Bx w0 w l cs) (hB : Below w.heap.size w w') : Bx w0 w' l cs := ⟨h.bx.below hB, h.res.below hB⟩
theorem Bx.turned {w0 w w' : World} {l : List Int} {cs : List Value} {c : Nat} (h : Bx w0 w l cs) (hT : Turned (fun i => i = c) w w') (h1 : w0.heap.size ≠ c) (h2 : w0.heap.size + 1 ≠ c) : Bx w0 w' l cs := ⟨h.bx.turned hT h1, h.res.turned hT h2⟩
theorem Bx.new (w : World) (l : List Int) {Z : Array Value} (hZ : (ints l).toArray = Z) : Bx w ((w.alloc (.cells Z 56)).alloc (.cells fzA 60)) l fz0 := by
  have h := Lt.new (w.alloc (.cells Z 56)) fz0 60 (Z := fzA) rfl
  rw [size_alloc] at h
  exact ⟨(Lt.new w (ints l) 56 hZ).below ((Below.refl _ _).alloc (Nat.le_refl _) _), h⟩
/-- What is in the slots' cells is as it was where the row of what was sent has grown. -/
theorem QAt.grownS {B q : Nat} {w w' : World} {vS vR : Value} {Q : Rf} (h : QAt B q w vS vR Q) (hg : w.grownBy w' vS.ownBlock) (i : Nat) : w'.cell? ⟨q, i, none⟩ = w.cell? ⟨q, i, none⟩ ∧ w'.frozen? ⟨q, i, none⟩ = false := by
  obtain ⟨cur, hc⟩ := h.ty
  have hq : w'.heap[q]? = w.heap[q]? := (keepT_grown (e := 80) h.rowS hg (by decide)) q cur _ hc
  exact ⟨World.cell?_of_block (a := ⟨q, i, none⟩) hq, by simp [World.frozen?, hq, hc]⟩
theorem QAt.grownR {B q : Nat} {w w' : World} {vS vR : Value} {Q : Rf} (h : QAt B q w vS vR Q) (hg : w.grownBy w' vR.ownBlock) (i : Nat) : w'.cell? ⟨q, i, none⟩ = w.cell? ⟨q, i, none⟩ ∧ w'.frozen? ⟨q, i, none⟩ = false := by
  obtain ⟨cur, hc⟩ := h.ty
  have hq : w'.heap[q]? = w.heap[q]? := (keepT_grown (e := 80) h.rowR hg (by decide)) q cur _ hc
  exact ⟨World.cell?_of_block (a := ⟨q, i, none⟩) hq, by simp [World.frozen?, hq, hc]⟩
/-- A block of what is fetched has turned. -/
theorem QAt.res {B q : Nat} {w w' : World} {vS vR : Value} {Q : Rf} (h : QAt B q w vS vR Q) {b : Nat} {cs : List Value} (L : Lt w b 60 cs) (hT : Turned (fun i => i = b) w w') : QAt B q w' vS vR Q := by
  obtain ⟨cur, hc⟩ := L.ty
  have k : ∀ e, e ≠ 60 → KeepT e w w' := fun e he => keepT_turned hT fun i c fz hi e' => by
    subst e'
    rw [hc] at hi
    have := Option.some.inj hi
    injection this with e1 e2
    exact he e2.symm
  exact h.keep (k _ (by decide)) (k _ (by decide)) hT.size
attribute [local go_sem ↓] exec_ld56 exec_bs78
set_option maxHeartbeats 8000000 in
theorem send15_any {B q : Nat} {w : World} {vS vR : Value} {Q : Rf} (h : QAt B q w vS vR Q) (hs : Q.S.length ≤ 50000) (hr : Q.R.length ≤ 50000) (l : List Int) (hl : l.length = 256) (Z : Array Value) (hZ : (ints l).toArray = Z) :
    Calls Try.prog 25 #[.pointer (some ⟨q, 0, none⟩), .agg Z] w (QSend B q vR Q l w) := by
  have hz := fz_zero
  have A0 := Lib.hid (Bx.new w l hZ)
  have B0 := Lib.hid (((Below.refl w.heap.size w).alloc (Nat.le_refl _) (.cells Z 56)).alloc (by rw [size_alloc]; omega) (.cells fzA 60))
  have h1 := h.below B0.out
  have K0 := Lib.hid (KeepQ.below h.bw B0.out)
  have hqn : q < w.heap.size := by
    obtain ⟨cur, hc⟩ := h.ty
    exact lt_of_heap hc
  have VL := Lib.hid (show ∀ g, vS.ownBlock = some g → g < w.heap.size from fun g hg => (own_lt h.rowS hg).1)
  have hbw := h.bw
  have PE := Lib.hid (fun W (hW : QAt B q W vS vR Q) => peek15_any hW (by omega) (by omega) true)
  have PL := Lib.hid (Rf.peek_len h.lS h.lR true)
  obtain ⟨aS, cS, e1⟩ := owns_slice h.rowS
  obtain ⟨aR, cR, e2⟩ := owns_slice h.rowR
  subst e1; subst e2
  have c0 := h1.c0
  have c1 := h1.c1
  have c2 := h1.c2
  have c3 := h1.c3
  have H1 := Lib.hid h1
  have HZ := Lib.hid hZ
  have HL := Lib.hid hl
  have sz4 := h.sz
  obtain ⟨sn, hsn⟩ : ∃ n, Q.S.length = n := ⟨_, rfl⟩
  obtain ⟨rn, hrn⟩ : ∃ n, Q.R.length = n := ⟨_, rfl⟩
  obtain ⟨sz, hsz⟩ : ∃ n, Q.size = n := ⟨_, rfl⟩
  obtain ⟨cl, hcl⟩ : ∃ n, Q.cl = n := ⟨_, rfl⟩
  obtain ⟨k, hk⟩ : ∃ k : Int, (sn : Int) - rn = k := ⟨_, rfl⟩
  have FU := Lib.hid (show Q.full = decide ((sz : Int) ≤ k ∧ (1 : Int) ≤ k) from by unfold Rf.full; rw [hsn, hrn, hsz, hk])
  rw [hsn] at c1 hs
  rw [hrn] at c2 hr
  rw [hsz] at c0 sz4
  rw [hcl] at c3
  have SN := Lib.hid hsn
  have RN := Lib.hid hrn
  have CL := Lib.hid hcl
  have wr1 : IntKind.i64.wrap ((sn : Int) - rn) = k := by rw [IntWalk.i64_in _ (by omega)]; exact hk
  clear h h1 hsn hrn hsz hZ hl hcl hk
  have bad : ∀ e, Q.sendE = e → e ≠ 0 → Q.sendF = none ∧ Q.send l = Q := fun e he hne => by
    unfold Rf.sendF Rf.send
    rw [if_neg (by rw [he]; exact hne), if_neg (by rw [he]; exact hne)]
    exact ⟨rfl, rfl⟩
  have BAD := Lib.hid bad
  clear bad
  have HFZ := Lib.hid (show (fetC none).toArray = fzA from rfl)
  have FL0 := Lib.hid (show (fetC none).length = 257 from fetC_len (fun l e => by cases e))
  have FI := Lib.hid (show (Try.prog.info? 60).map (·.size) = some (fetC none).length from by rw [FL0.out]; exact fsize)
  have FZ := Lib.hid (show fz0.length = (fetC none).length from rfl)
  cases cl with
  | true =>
    have SE := Lib.hid (show Q.sendE = 90 from by unfold Rf.sendE; rw [CL.out]; rfl)
    go_enter Try.func25, Try.ntmps25
    go_upto_region 2 with fail
    go_wp2_with (first
      | (with_reducible refine wpList_build_fet0 rfl (by rfl) ?_)
      | (with_reducible refine wpList_store_lg rfl 60 (.tmp 4) (.tmp 12) (by rfl) (w.heap.size + 1) 0 ?sx_1 (fetC none) fz0 fzA ?sy_1 HFZ.out A0.out.res.lg FZ.out FI.out (fetC_one _) ?_))
    (try case sx_1 => rfl)
    (try case sy_1 => rfl)
    intro w2 L2 T2
    have A2 := Lib.hid (A0.out.res.stored T2 L2)
    have Q2 := Lib.hid (H1.out.res A0.out.res T2.turned)
    have K2 := Lib.hid (K0.out.trans (A0.out.res.keepQ (.inr (.inr rfl)) (by omega) T2.turned))
    clear L2 T2
    go_wp2_with fail
    obtain ⟨f1, f2⟩ := BAD.out 90 SE.out (by decide)
    exact send15_end (Z := fzA) SE.out (by rw [f1]; exact HFZ.out) (by rw [f1]; exact FL0.out) (by rw [f1]; exact A2.out) (by rw [f2]; exact Q2.out) K2.out rfl rfl
  | false =>
    have QD := Lib.hid (H1.out.below (Below.refl _ _).drew)
    have AD := Lib.hid (A0.out.below (Below.refl _ _).drew)
    have KD := Lib.hid (K0.out.trans (KeepQ.below H1.out.bw (Below.refl _ _).drew))
    by_cases hf : (sz : Int) ≤ k ∧ (1 : Int) ≤ k
    · have SE := Lib.hid (show Q.sendE = 5 from by unfold Rf.sendE; rw [CL.out, FU.out, decide_eq_true hf]; rfl)
      obtain ⟨g1, g2⟩ := hf
      have dg1 : decide ((sz : Int) ≤ k) = true := decide_eq_true g1
      have dg2 : decide ((1 : Int) ≤ k) = true := decide_eq_true g2
      go_enter Try.func25, Try.ntmps25
      go_wp2_with fail
      go_region_held3 (fun w' => w'.cell? ⟨q, 1, none⟩ = some (.slice aS sn cS) ∧ w'.cell? ⟨q, 2, none⟩ = some (.slice aR rn cR)) (go_keep) (fail)
      go_upto_region 5 with fail
      go_wp2_with (first
        | (with_reducible refine wpList_build_fet0 rfl (by rfl) ?_)
        | (with_reducible refine wpList_store_lg rfl 60 (.tmp 4) (.tmp 34) (by rfl) (w.heap.size + 1) 0 ?sx_2 (fetC none) fz0 fzA ?sy_2 HFZ.out AD.out.res.lg FZ.out FI.out (fetC_one _) ?_))
      (try case sx_2 => rfl)
      (try case sy_2 => rfl)
      intro w2 L2 T2
      have A2 := Lib.hid (AD.out.res.stored T2 L2)
      have Q2 := Lib.hid (QD.out.res AD.out.res T2.turned)
      have K2 := Lib.hid (KD.out.trans (AD.out.res.keepQ (.inr (.inr rfl)) (by omega) T2.turned))
      clear L2 T2
      go_wp2_with fail
      obtain ⟨f1, f2⟩ := BAD.out 5 SE.out (by decide)
      exact send15_end (Z := fzA) SE.out (by rw [f1]; exact HFZ.out) (by rw [f1]; exact FL0.out) (by rw [f1]; exact A2.out) (by rw [f2]; exact Q2.out) K2.out rfl rfl
    · have SE := Lib.hid (show Q.sendE = 0 from by unfold Rf.sendE; rw [CL.out, FU.out, decide_eq_false hf]; rfl)
      have SF := Lib.hid (show Q.sendF = Q.peek true from by unfold Rf.sendF; rw [if_pos SE.out])
      have SS := Lib.hid (show Q.send l = ⟨Q.size, Q.S ++ [l], Q.R, Q.cl, Q.cg⟩ from by unfold Rf.send; rw [if_pos SE.out])
      obtain ⟨o, ho⟩ : ∃ o, Q.peek true = o := ⟨_, rfl⟩
      rw [ho] at PE PL SF
      have FL := Lib.hid (fetC_len (o := o) (fun l e => PL.out l e))
      obtain ⟨Zf, hZf⟩ : ∃ Z, (fetC o).toArray = Z := ⟨_, rfl⟩
      unfold QPeek at PE
      rw [hZf] at PE
      have HZf := Lib.hid hZf
      have FI2 := Lib.hid (show (Try.prog.info? 60).map (·.size) = some (fetC o).length from by rw [FL.out]; exact fsize)
      have FZ2 := Lib.hid (show fz0.length = (fetC o).length from (show fz0.length = 257 from by simp [fz0, length_ints, zeros]).trans FL.out.symm)
      clear hZf ho
      have ways : (¬ (sz : Int) ≤ k) ∨ ((sz : Int) ≤ k ∧ ¬ (1 : Int) ≤ k) := by
        by_cases g : (sz : Int) ≤ k
        · exact .inr ⟨g, fun g2 => hf ⟨g, g2⟩⟩
        · exact .inl g
      clear hf
      rcases ways with g1 | ⟨g1, g2⟩
      · have dg1 : decide ((sz : Int) ≤ k) = false := decide_eq_false g1
        go_enter Try.func25, Try.ntmps25
        go_wp2_with fail
        go_region_held3 (fun w' => w'.cell? ⟨q, 1, none⟩ = some (.slice aS sn cS) ∧ w'.cell? ⟨q, 2, none⟩ = some (.slice aR rn cR)) (go_keep) (fail)
        go_wp2_with fail
        refine (PE.out _ QD.out).mono ?_
        rintro r w2 ⟨rfl, hB2⟩
        have N2 := Lib.hid ((Below.refl w2.heap.size w2).alloc (Nat.le_refl _) (.cells fzA 60))
        have L0 := Lib.hid (Lt.new w2 fz0 60 (Z := fzA) rfl)
        have Q2 := Lib.hid ((QD.out.below hB2).below N2.out)
        have A2 := Lib.hid ((AD.out.below hB2).below N2.out)
        have GW := (AD.out.below hB2).res.lt
        have K2 := Lib.hid ((KD.out.trans (KeepQ.below QD.out.bw hB2)).trans (KeepQ.below (QD.out.below hB2).bw N2.out))
        clear hB2
        go_wp2_with (first
          | (with_reducible refine wpList_store_lg rfl 60 (.tmp 7) (.tmp 36) (by rfl) w2.heap.size 0 ?sx_3 (fetC o) fz0 Zf ?sy_3 HZf.out L0.out.lg FZ2.out FI2.out (fetC_one _) ?_))
        (try case sx_3 => rfl)
        (try case sy_3 => rfl)
        intro w3 L3 T3
        have F3 := Lib.hid (L0.out.stored T3 L3)
        have Q3 := Lib.hid (Q2.out.res L0.out T3.turned)
        have A3 := Lib.hid (A2.out.turned T3.turned (by omega) (by omega))
        have K3 := Lib.hid (K2.out.trans (L0.out.keepQ (.inr (.inr rfl)) (by omega) T3.turned))
        clear L3 T3 Q2 A2 K2 L0 N2
        obtain ⟨gf, hgf⟩ : ∃ x, w2.heap.size = x := ⟨_, rfl⟩
        rw [hgf] at F3 GW ⊢
        clear hgf
        go_upto_region 7 with fail
        have c1 : w3.cell? ⟨q, 1, none⟩ = some (.slice aS sn cS) := by have := Q3.out.c1; rw [SN.out] at this; exact this
        have hL := run_ld56 w.heap.size 0 l HL.out Z HZ.out
        have hb := run_bs78 Z (by rw [← HZ.out]; simp [length_ints, HL.out])
        have KP := Lib.hid (show ∀ W, Below w3.heap.size w3 W → W.cell? ⟨q, 1, none⟩ = some (.slice aS sn cS) ∧ W.rangeAt w.heap.size 0 (ints l) from fun W hW => ⟨(Q3.out.below hW).c1.trans (by rw [SN.out]), (A3.out.below hW).bx.lg.range⟩)
        have s0 := KP.out w3 (Below.refl _ _)
        have BA := Lib.hid (((Below.refl w3.heap.size w3).drew).alloc (Nat.le_refl _) (.cells Z 56))
        have QX := Lib.hid (Q3.out.below BA.out)
        have AX := Lib.hid (A3.out.below BA.out)
        have FX := Lib.hid (F3.out.below BA.out)
        have KX := Lib.hid (K3.out.trans (KeepQ.below Q3.out.bw BA.out))
        have ROW := Lib.hid (show World.ownsRow (w3.drew.alloc (.cells Z 56)) B 56 256 (.slice aS sn cS) sn (flatV Q.S) from by have := QX.out.rowS; rw [SN.out] at this; exact this)
        obtain ⟨d1, d2⟩ := KP.out _ (Below.refl w3.heap.size w3).drew
        obtain ⟨d3, d4⟩ := KP.out _ BA.out
        obtain ⟨d5, d6⟩ := KP.out _ ((Below.refl w3.heap.size w3).alloc (Nat.le_refl _) (.cells Z 56))
        obtain ⟨d7, d8⟩ := s0
        go_region_law (first | (refine step_append_clk rfl _ _ (by rfl) B (.slice aS sn cS) sn Q.S (by rfl) ROW.out w3.heap.size 1 l HL.out (by rfl) (Lg.new w3.drew (ints l) _ HZ.out) (by omega) QX.out.bw ?_; intro g cap w5 hown hgr hg hlt; have s5 := (QX.out.grownS (by rw [SN.out]; exact hgr) 1).1.trans d3; have f5 := (QX.out.grownS (by rw [SN.out]; exact hgr) 1).2; have X5 := Lib.hid (And.intro hown (And.intro hgr hg)); clear hown hgr hg))
        all_goals
          have T5 := QX.out.appS (g := g) (cap := cap) HL.out (by rw [SN.out]; exact X5.out.1) (by rw [SN.out]; exact X5.out.2.1) (by rw [SN.out]; exact X5.out.2.2)
          rw [SN.out] at T5
          have gn : ∀ b, w.heap.size ≤ b → some b ≠ (Value.slice aS sn cS).ownBlock := fun b hb e => by
            have h := VL.out b (by rw [SN.out]; exact e.symm)
            omega
          obtain ⟨w6, hw6⟩ : ∃ x, w5.setCell ⟨q, 1, none⟩ (.slice (some ⟨g, 0, none⟩) (sn + 1) cap) = x := ⟨_, rfl⟩
          have TQ : Turned (fun i => i = q) w5 w6 := by rw [← hw6]; exact (Only.of_set (b := q) (o := 1) (n := 1) (t := 0) _ (by omega)).turned
          have F6 := Lib.hid (((FX.out.grown X5.out.2.1 (gn _ (by omega))).turned TQ (by omega)))
          have R6 := Lib.hid (((AX.out.res.grown X5.out.2.1 (gn _ (by omega))).turned TQ (by omega)))
          rw [hw6] at T5 ⊢
          have Q6 := Lib.hid T5.1
          have K6 := Lib.hid (KX.out.trans T5.2)
          clear hw6 T5 TQ gn X5 FX AX KX QX BA ROW KP hL hb c1 s5 f5
          go_wp2_with (first
            | (with_reducible refine wpList_load_lg rfl 60 (.tmp 7) (by rfl) gf 0 (by with_unfolding_all rfl) (fetC o) _ Zf HZf.out F6.out.lg Try.underlying60 rfl FI2.out ?_)
            | (with_reducible refine wpList_store_lg rfl 60 (.tmp 4) (.tmp 47) (by rfl) (w.heap.size + 1) 0 (by with_unfolding_all rfl) (fetC o) fz0 Zf (by with_unfolding_all rfl) HZf.out R6.out.lg FZ2.out FI2.out (fetC_one _) ?_))
          intro w7 L7 T7
          have A7 := Lib.hid (R6.out.stored T7 L7)
          have Q7 := Lib.hid (Q6.out.res R6.out T7.turned)
          have K7 := Lib.hid (K6.out.trans (R6.out.keepQ (.inr (.inr rfl)) (by omega) T7.turned))
          clear L7 T7
          go_wp2_with fail
          exact send15_end (Z := Zf) SE.out (by rw [SF.out]; exact HZf.out) (by rw [SF.out]; exact FL.out) (by rw [SF.out]; exact A7.out) (by rw [SS.out]; exact Q7.out) K7.out rfl rfl
      · have dg1 : decide ((sz : Int) ≤ k) = true := decide_eq_true g1
        have dg2 : decide ((1 : Int) ≤ k) = false := decide_eq_false g2
        go_enter Try.func25, Try.ntmps25
        go_wp2_with fail
        go_region_held3 (fun w' => w'.cell? ⟨q, 1, none⟩ = some (.slice aS sn cS) ∧ w'.cell? ⟨q, 2, none⟩ = some (.slice aR rn cR)) (go_keep) (fail)
        go_wp2_with fail
        refine (PE.out _ QD.out).mono ?_
        rintro r w2 ⟨rfl, hB2⟩
        have N2 := Lib.hid ((Below.refl w2.heap.size w2).alloc (Nat.le_refl _) (.cells fzA 60))
        have L0 := Lib.hid (Lt.new w2 fz0 60 (Z := fzA) rfl)
        have Q2 := Lib.hid ((QD.out.below hB2).below N2.out)
        have A2 := Lib.hid ((AD.out.below hB2).below N2.out)
        have GW := (AD.out.below hB2).res.lt
        have K2 := Lib.hid ((KD.out.trans (KeepQ.below QD.out.bw hB2)).trans (KeepQ.below (QD.out.below hB2).bw N2.out))
        clear hB2
        go_wp2_with (first
          | (with_reducible refine wpList_store_lg rfl 60 (.tmp 7) (.tmp 36) (by rfl) w2.heap.size 0 ?sx_4 (fetC o) fz0 Zf ?sy_4 HZf.out L0.out.lg FZ2.out FI2.out (fetC_one _) ?_))
        (try case sx_4 => rfl)
        (try case sy_4 => rfl)
        intro w3 L3 T3
        have F3 := Lib.hid (L0.out.stored T3 L3)
        have Q3 := Lib.hid (Q2.out.res L0.out T3.turned)
        have A3 := Lib.hid (A2.out.turned T3.turned (by omega) (by omega))
        have K3 := Lib.hid (K2.out.trans (L0.out.keepQ (.inr (.inr rfl)) (by omega) T3.turned))
        clear L3 T3 Q2 A2 K2 L0 N2
        obtain ⟨gf, hgf⟩ : ∃ x, w2.heap.size = x := ⟨_, rfl⟩
        rw [hgf] at F3 GW ⊢
        clear hgf
        go_upto_region 7 with fail
        have c1 : w3.cell? ⟨q, 1, none⟩ = some (.slice aS sn cS) := by have := Q3.out.c1; rw [SN.out] at this; exact this
        have hL := run_ld56 w.heap.size 0 l HL.out Z HZ.out
        have hb := run_bs78 Z (by rw [← HZ.out]; simp [length_ints, HL.out])
        have KP := Lib.hid (show ∀ W, Below w3.heap.size w3 W → W.cell? ⟨q, 1, none⟩ = some (.slice aS sn cS) ∧ W.rangeAt w.heap.size 0 (ints l) from fun W hW => ⟨(Q3.out.below hW).c1.trans (by rw [SN.out]), (A3.out.below hW).bx.lg.range⟩)
        have s0 := KP.out w3 (Below.refl _ _)
        have BA := Lib.hid (((Below.refl w3.heap.size w3).drew).alloc (Nat.le_refl _) (.cells Z 56))
        have QX := Lib.hid (Q3.out.below BA.out)
        have AX := Lib.hid (A3.out.below BA.out)
        have FX := Lib.hid (F3.out.below BA.out)
        have KX := Lib.hid (K3.out.trans (KeepQ.below Q3.out.bw BA.out))
        have ROW := Lib.hid (show World.ownsRow (w3.drew.alloc (.cells Z 56)) B 56 256 (.slice aS sn cS) sn (flatV Q.S) from by have := QX.out.rowS; rw [SN.out] at this; exact this)
        obtain ⟨d1, d2⟩ := KP.out _ (Below.refl w3.heap.size w3).drew
        obtain ⟨d3, d4⟩ := KP.out _ BA.out
        obtain ⟨d5, d6⟩ := KP.out _ ((Below.refl w3.heap.size w3).alloc (Nat.le_refl _) (.cells Z 56))
        obtain ⟨d7, d8⟩ := s0
        go_region_law (first | (refine step_append_clk rfl _ _ (by rfl) B (.slice aS sn cS) sn Q.S (by rfl) ROW.out w3.heap.size 1 l HL.out (by rfl) (Lg.new w3.drew (ints l) _ HZ.out) (by omega) QX.out.bw ?_; intro g cap w5 hown hgr hg hlt; have s5 := (QX.out.grownS (by rw [SN.out]; exact hgr) 1).1.trans d3; have f5 := (QX.out.grownS (by rw [SN.out]; exact hgr) 1).2; have X5 := Lib.hid (And.intro hown (And.intro hgr hg)); clear hown hgr hg))
        all_goals
          have T5 := QX.out.appS (g := g) (cap := cap) HL.out (by rw [SN.out]; exact X5.out.1) (by rw [SN.out]; exact X5.out.2.1) (by rw [SN.out]; exact X5.out.2.2)
          rw [SN.out] at T5
          have gn : ∀ b, w.heap.size ≤ b → some b ≠ (Value.slice aS sn cS).ownBlock := fun b hb e => by
            have h := VL.out b (by rw [SN.out]; exact e.symm)
            omega
          obtain ⟨w6, hw6⟩ : ∃ x, w5.setCell ⟨q, 1, none⟩ (.slice (some ⟨g, 0, none⟩) (sn + 1) cap) = x := ⟨_, rfl⟩
          have TQ : Turned (fun i => i = q) w5 w6 := by rw [← hw6]; exact (Only.of_set (b := q) (o := 1) (n := 1) (t := 0) _ (by omega)).turned
          have F6 := Lib.hid (((FX.out.grown X5.out.2.1 (gn _ (by omega))).turned TQ (by omega)))
          have R6 := Lib.hid (((AX.out.res.grown X5.out.2.1 (gn _ (by omega))).turned TQ (by omega)))
          rw [hw6] at T5 ⊢
          have Q6 := Lib.hid T5.1
          have K6 := Lib.hid (KX.out.trans T5.2)
          clear hw6 T5 TQ gn X5 FX AX KX QX BA ROW KP hL hb c1 s5 f5
          go_wp2_with (first
            | (with_reducible refine wpList_load_lg rfl 60 (.tmp 7) (by rfl) gf 0 (by with_unfolding_all rfl) (fetC o) _ Zf HZf.out F6.out.lg Try.underlying60 rfl FI2.out ?_)
            | (with_reducible refine wpList_store_lg rfl 60 (.tmp 4) (.tmp 47) (by rfl) (w.heap.size + 1) 0 (by with_unfolding_all rfl) (fetC o) fz0 Zf (by with_unfolding_all rfl) HZf.out R6.out.lg FZ2.out FI2.out (fetC_one _) ?_))
          intro w7 L7 T7
          have A7 := Lib.hid (R6.out.stored T7 L7)
          have Q7 := Lib.hid (Q6.out.res R6.out T7.turned)
          have K7 := Lib.hid (K6.out.trans (R6.out.keepQ (.inr (.inr rfl)) (by omega) T7.turned))
          clear L7 T7
          go_wp2_with fail
          exact send15_end (Z := Zf) SE.out (by rw [SF.out]; exact HZf.out) (by rw [SF.out]; exact FL.out) (by rw [SF.out]; exact A7.out) (by rw [SS.out]; exact Q7.out) K7.out rfl rfl
end Go.Proofs.Ytlkfhobacgnckaa

