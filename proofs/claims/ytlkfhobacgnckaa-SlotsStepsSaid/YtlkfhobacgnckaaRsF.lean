
/-
  staitheref15: Recv.
-/
import Derived.Test.YtlkfhobacgnckaaRsE
namespace Go.Proofs.Ytlkfhobacgnckaa
open Go.RowKit
set_option linter.unusedVariables false
set_option linter.unusedSimpArgs false
set_option maxRecDepth 100000

def Rf.recvE (Q : Rf) : Int := if (Q.peek false).isSome then 0 else 6
def Rf.recv (Q : Rf) (l : List Int) : Rf := if (Q.peek false).isSome then ⟨Q.size, Q.S, Q.R ++ [l], Q.cl, Q.cg⟩ else Q
def QRecv (B q : Nat) (vS : Value) (Q : Rf) (l : List Int) (w : World) (r : Ending) (w' : World) : Prop :=
  ∃ vR', r = .returned (.tuple #[.agg (fetC (Q.peek false)).toArray, .int .i64 Q.recvE]) ∧ QAt B q w' vS vR' (Q.recv l) ∧ KeepQ B w w'
theorem recv15_end {B q : Nat} {w w' : World} {vS vR' : Value} {Q : Rf} {l : List Int} {tmps : Array Value} {Z : Array Value} {e : Int} (he : Q.recvE = e) (hZ : (fetC (Q.peek false)).toArray = Z) (hl : (fetC (Q.peek false)).length = 257) (L : Lt w' (w.heap.size + 1) 60 (fetC (Q.peek false))) (hQ : QAt B q w' vS vR' (Q.recv l)) (hK : KeepQ B w w')
    (ht : tmps.getD 4 undef = .pointer (some ⟨w.heap.size + 1, 0, none⟩)) (ht5 : tmps.getD 5 undef = .int .i64 e) :
    bodyPost Try.prog Try.f27 (QRecv B q vS Q l w) Exit.ret { tmps := tmps, defers := [] } w' :=
  bodyPost_ret (v := .tuple #[.agg Z, tmps.getD 5 undef]) (results_cell_tmp Try.results27 _ _ _ _ ht (load_fet L.lg hl hZ)) rfl ⟨vR', by rw [hZ, he, ht5], hQ, hK⟩
theorem fetC_ok (o : Option (List Int)) (h : ∀ l, o = some l → l.length = 256) {w : World} {b : Nat} {t : TypeId} (L : Lt w b t (fetC o)) : w.cell? ⟨b, 256, none⟩ = some (.bool o.isSome) := by
  have k : ∀ (l : List Int) (v : Value), l.length = 256 → (ints l ++ [v])[256]? = some v := fun l v hl => by
    rw [List.getElem?_append_right (by rw [length_ints, hl]; exact Nat.le_refl _), length_ints, hl]
    rfl
  have := fun v hv => L.lg.range 256 v hv
  rw [Nat.zero_add] at this
  cases o with
  | none => exact this _ (k zeros _ (by simp [zeros]))
  | some l => exact this _ (k l _ (h l rfl))
attribute [local go_sem ↓] exec_ld56 exec_bs78
set_option maxHeartbeats 8000000 in
theorem recv15_any {B q : Nat} {w : World} {vS vR : Value} {Q : Rf} (h : QAt B q w vS vR Q) (hs : Q.S.length ≤ 50000) (hr : Q.R.length ≤ 50000) (l : List Int) (hl : l.length = 256) (Z : Array Value) (hZ : (ints l).toArray = Z) :
    Calls Try.prog 27 #[.pointer (some ⟨q, 0, none⟩), .agg Z] w (QRecv B q vS Q l w) := by
  have hz := fz_zero
  have A0 := Lib.hid (Bx.new w l hZ)
  have B0 := Lib.hid (((Below.refl w.heap.size w).alloc (Nat.le_refl _) (.cells Z 56)).alloc (by rw [size_alloc]; omega) (.cells fzA 60))
  have H1 := Lib.hid (h.below B0.out)
  have K0 := Lib.hid (KeepQ.below h.bw B0.out)
  have hqn : q < w.heap.size := by
    obtain ⟨cur, hc⟩ := h.ty
    exact lt_of_heap hc
  have VL := Lib.hid (show ∀ g, vR.ownBlock = some g → g < w.heap.size from fun g hg => (own_lt h.rowR hg).1)
  have hbw := h.bw
  have PE := Lib.hid (fun W (hW : QAt B q W vS vR Q) => peek15_any hW (by omega) (by omega) false)
  have PL := Lib.hid (Rf.peek_len h.lS h.lR false)
  obtain ⟨aR, cR, e2⟩ := owns_slice h.rowR
  subst e2
  have HZ := Lib.hid hZ
  have HL := Lib.hid hl
  obtain ⟨rn, hrn⟩ : ∃ n, Q.R.length = n := ⟨_, rfl⟩
  rw [hrn] at hr
  have RN := Lib.hid hrn
  clear h hs hrn hZ hl
  have RE := Lib.hid (show Q.recvE = if (Q.peek false).isSome then 0 else 6 from rfl)
  have RV := Lib.hid (show Q.recv l = if (Q.peek false).isSome then ⟨Q.size, Q.S, Q.R ++ [l], Q.cl, Q.cg⟩ else Q from rfl)
  obtain ⟨o, ho⟩ : ∃ o, Q.peek false = o := ⟨_, rfl⟩
  rw [ho] at PE PL RE RV
  have PO := Lib.hid ho
  have FL := Lib.hid (fetC_len (o := o) (fun l e => PL.out l e))
  obtain ⟨Zf, hZf⟩ : ∃ Z, (fetC o).toArray = Z := ⟨_, rfl⟩
  unfold QPeek at PE
  rw [hZf] at PE
  have HZf := Lib.hid hZf
  have FI2 := Lib.hid (show (Try.prog.info? 60).map (·.size) = some (fetC o).length from by rw [FL.out]; exact fsize)
  have FZ2 := Lib.hid (show fz0.length = (fetC o).length from (show fz0.length = 257 from by simp [fz0, length_ints, zeros]).trans FL.out.symm)
  clear hZf ho
  obtain ⟨ok, hok⟩ : ∃ x, o.isSome = x := ⟨_, rfl⟩
  have FO := Lib.hid (fun (W : World) (b : Nat) (t : TypeId) (L : Lt W b t (fetC o)) => fetC_ok o PL.out L)
  rw [hok] at FO RE RV
  have wz1 : Zf.size = 257 := by rw [← HZf.out]; simp [FL.out]
  clear hok
  cases ok with
  | false =>
    go_enter Try.func27, Try.ntmps27
    go_wp2_with fail
    refine (PE.out _ H1.out).mono ?_
    rintro r w2 ⟨rfl, hB2⟩
    have N2 := Lib.hid ((Below.refl w2.heap.size w2).alloc (Nat.le_refl _) (.cells fzA 60))
    have L0 := Lib.hid (Lt.new w2 fz0 60 (Z := fzA) rfl)
    have Q2 := Lib.hid ((H1.out.below hB2).below N2.out)
    have A2 := Lib.hid ((A0.out.below hB2).below N2.out)
    have GW := (A0.out.below hB2).res.lt
    have K2 := Lib.hid ((K0.out.trans (KeepQ.below H1.out.bw hB2)).trans (KeepQ.below (H1.out.below hB2).bw N2.out))
    clear hB2
    go_wp2_with (first
      | (with_reducible refine wpList_store_lg rfl 60 (.tmp 6) (.tmp 8) (by rfl) w2.heap.size 0 (by with_unfolding_all rfl) (fetC o) fz0 Zf (by with_unfolding_all rfl) HZf.out L0.out.lg FZ2.out FI2.out (fetC_one _) ?_))
    intro w3 L3 T3
    have F3 := Lib.hid (L0.out.stored T3 L3)
    have Q3 := Lib.hid (Q2.out.res L0.out T3.turned)
    have A3 := Lib.hid (A2.out.turned T3.turned (by omega) (by omega))
    have K3 := Lib.hid (K2.out.trans (L0.out.keepQ (.inr (.inr rfl)) (by omega) T3.turned))
    clear L3 T3 Q2 A2 K2 L0 N2
    obtain ⟨gf, hgf⟩ : ∃ x, w2.heap.size = x := ⟨_, rfl⟩
    rw [hgf] at F3 GW ⊢
    clear hgf
    have c5 := FO.out _ _ _ F3.out
    go_wp2_with (first
      | (with_reducible refine wpList_load_lg rfl 60 (.tmp 6) (by rfl) gf 0 (by with_unfolding_all rfl) (fetC o) _ Zf HZf.out F3.out.lg Try.underlying60 rfl FI2.out ?_)
      | (with_reducible refine wpList_store_lg rfl 60 (.tmp 4) (.tmp 12) (by rfl) (w.heap.size + 1) 0 (by with_unfolding_all rfl) (fetC o) fz0 Zf (by with_unfolding_all rfl) HZf.out A3.out.res.lg FZ2.out FI2.out (fetC_one _) ?_))
    intro w7 L7 T7
    have A7 := Lib.hid (A3.out.res.stored T7 L7)
    have Q7 := Lib.hid (Q3.out.res A3.out.res T7.turned)
    have K7 := Lib.hid (K3.out.trans (A3.out.res.keepQ (.inr (.inr rfl)) (by omega) T7.turned))
    clear L7 T7
    go_wp2_with fail
    exact recv15_end (Z := Zf) RE.out (by rw [PO.out]; exact HZf.out) (by rw [PO.out]; exact FL.out) (by rw [PO.out]; exact A7.out) (by rw [RV.out]; exact Q7.out) K7.out rfl rfl
  | true =>
    go_enter Try.func27, Try.ntmps27
    go_wp2_with fail
    refine (PE.out _ H1.out).mono ?_
    rintro r w2 ⟨rfl, hB2⟩
    have N2 := Lib.hid ((Below.refl w2.heap.size w2).alloc (Nat.le_refl _) (.cells fzA 60))
    have L0 := Lib.hid (Lt.new w2 fz0 60 (Z := fzA) rfl)
    have Q2 := Lib.hid ((H1.out.below hB2).below N2.out)
    have A2 := Lib.hid ((A0.out.below hB2).below N2.out)
    have GW := (A0.out.below hB2).res.lt
    have K2 := Lib.hid ((K0.out.trans (KeepQ.below H1.out.bw hB2)).trans (KeepQ.below (H1.out.below hB2).bw N2.out))
    clear hB2
    go_wp2_with (first
      | (with_reducible refine wpList_store_lg rfl 60 (.tmp 6) (.tmp 8) (by rfl) w2.heap.size 0 (by with_unfolding_all rfl) (fetC o) fz0 Zf (by with_unfolding_all rfl) HZf.out L0.out.lg FZ2.out FI2.out (fetC_one _) ?_))
    intro w3 L3 T3
    have F3 := Lib.hid (L0.out.stored T3 L3)
    have Q3 := Lib.hid (Q2.out.res L0.out T3.turned)
    have A3 := Lib.hid (A2.out.turned T3.turned (by omega) (by omega))
    have K3 := Lib.hid (K2.out.trans (L0.out.keepQ (.inr (.inr rfl)) (by omega) T3.turned))
    clear L3 T3 Q2 A2 K2 L0 N2
    obtain ⟨gf, hgf⟩ : ∃ x, w2.heap.size = x := ⟨_, rfl⟩
    rw [hgf] at F3 GW ⊢
    clear hgf
    have c5 := FO.out _ _ _ F3.out
    go_upto_region 4 with fail
    have hL := run_ld56 w.heap.size 0 l HL.out Z HZ.out
    have hb := run_bs78 Z (by rw [← HZ.out]; simp [length_ints, HL.out])
    have KP := Lib.hid (show ∀ W, Below w3.heap.size w3 W → W.cell? ⟨q, 2, none⟩ = some (.slice aR rn cR) ∧ W.rangeAt w.heap.size 0 (ints l) from fun W hW => ⟨(Q3.out.below hW).c2.trans (by rw [RN.out]), (A3.out.below hW).bx.lg.range⟩)
    have BA := Lib.hid (((Below.refl w3.heap.size w3).drew).alloc (Nat.le_refl _) (.cells Z 56))
    have QX := Lib.hid (Q3.out.below BA.out)
    have AX := Lib.hid (A3.out.below BA.out)
    have FX := Lib.hid (F3.out.below BA.out)
    have KX := Lib.hid (K3.out.trans (KeepQ.below Q3.out.bw BA.out))
    have ROW := Lib.hid (show World.ownsRow (w3.drew.alloc (.cells Z 56)) B 56 256 (.slice aR rn cR) rn (flatV Q.R) from by have := QX.out.rowR; rw [RN.out] at this; exact this)
    obtain ⟨d1, d2⟩ := KP.out _ (Below.refl w3.heap.size w3).drew
    obtain ⟨d3, d4⟩ := KP.out _ BA.out
    obtain ⟨d5, d6⟩ := KP.out _ ((Below.refl w3.heap.size w3).alloc (Nat.le_refl _) (.cells Z 56))
    obtain ⟨d7, d8⟩ := KP.out w3 (Below.refl _ _)
    go_region_law (first | (refine step_append_clk rfl _ _ (by rfl) B (.slice aR rn cR) rn Q.R (by rfl) ROW.out w3.heap.size 1 l HL.out (by rfl) (Lg.new w3.drew (ints l) _ HZ.out) (by omega) QX.out.bw ?_; intro g cap w5 hown hgr hg hlt; have s5 := (QX.out.grownR (by rw [RN.out]; exact hgr) 2).1.trans d3; have f5 := (QX.out.grownR (by rw [RN.out]; exact hgr) 2).2; have X5 := Lib.hid (And.intro hown (And.intro hgr hg)); clear hown hgr hg))
    all_goals
      have T5 := QX.out.appR (g := g) (cap := cap) HL.out (by rw [RN.out]; exact X5.out.1) (by rw [RN.out]; exact X5.out.2.1) (by rw [RN.out]; exact X5.out.2.2)
      rw [RN.out] at T5
      have gn : ∀ b, w.heap.size ≤ b → some b ≠ (Value.slice aR rn cR).ownBlock := fun b hb e => by
        have h := VL.out b (by rw [RN.out]; exact e.symm)
        omega
      obtain ⟨w6, hw6⟩ : ∃ x, w5.setCell ⟨q, 2, none⟩ (.slice (some ⟨g, 0, none⟩) (rn + 1) cap) = x := ⟨_, rfl⟩
      have TQ : Turned (fun i => i = q) w5 w6 := by rw [← hw6]; exact (Only.of_set (b := q) (o := 2) (n := 1) (t := 0) _ (by omega)).turned
      have F6 := Lib.hid (((FX.out.grown X5.out.2.1 (gn _ (by omega))).turned TQ (by omega)))
      have R6 := Lib.hid (((AX.out.res.grown X5.out.2.1 (gn _ (by omega))).turned TQ (by omega)))
      rw [hw6] at T5 ⊢
      have Q6 := Lib.hid T5.1
      have K6 := Lib.hid (KX.out.trans T5.2)
      clear hw6 T5 TQ gn X5 FX AX KX QX BA ROW KP hL hb s5 f5 c5
      go_wp2_with (first
        | (with_reducible refine wpList_load_lg rfl 60 (.tmp 6) (by rfl) gf 0 (by with_unfolding_all rfl) (fetC o) _ Zf HZf.out F6.out.lg Try.underlying60 rfl FI2.out ?_)
        | (with_reducible refine wpList_store_lg rfl 60 (.tmp 4) (.tmp 23) (by rfl) (w.heap.size + 1) 0 (by with_unfolding_all rfl) (fetC o) fz0 Zf (by with_unfolding_all rfl) HZf.out R6.out.lg FZ2.out FI2.out (fetC_one _) ?_))
      intro w7 L7 T7
      have A7 := Lib.hid (R6.out.stored T7 L7)
      have Q7 := Lib.hid (Q6.out.res R6.out T7.turned)
      have K7 := Lib.hid (K6.out.trans (R6.out.keepQ (.inr (.inr rfl)) (by omega) T7.turned))
      clear L7 T7
      go_wp2_with fail
      exact recv15_end (Z := Zf) RE.out (by rw [PO.out]; exact HZf.out) (by rw [PO.out]; exact FL.out) (by rw [PO.out]; exact A7.out) (by rw [RV.out]; exact Q7.out) K7.out rfl rfl
end Go.Proofs.Ytlkfhobacgnckaa

