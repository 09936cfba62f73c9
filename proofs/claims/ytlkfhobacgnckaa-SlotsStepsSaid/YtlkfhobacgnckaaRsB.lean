
/-
  staitheref15: Peek.
-/
import Derived.Test.YtlkfhobacgnckaaRsA
namespace Go.Proofs.Ytlkfhobacgnckaa
open Go.RowKit
set_option linter.unusedVariables false
set_option linter.unusedSimpArgs false
set_option maxRecDepth 100000

def QPeek (o : Option (List Int)) (w : World) (r : Ending) (w' : World) : Prop := r = .returned (.agg (fetC o).toArray) ∧ Below w.heap.size w w'
theorem peek15_end {w w2 : World} {o : Option (List Int)} {tmps : Array Value} {Z : Array Value} (hZ : (fetC o).toArray = Z) (hl : (fetC o).length = 257) (L : Lg w2 w.heap.size 0 (fetC o)) (hB : Below w.heap.size w w2) (ht : tmps.getD 4 undef = .pointer (some ⟨w.heap.size, 0, none⟩)) :
    bodyPost Try.prog Try.f40 (QPeek o w) Exit.ret { tmps := tmps, defers := [] } w2 :=
  bodyPost_ret (v := .agg Z) (results_cell1 Try.results40 _ _ _ _ ht (load_fet L hl hZ)) rfl ⟨by rw [hZ], hB⟩
set_option maxHeartbeats 16000000 in
theorem peek15_any {B q : Nat} {w : World} {vS vR : Value} {Q : Rf} (h : QAt B q w vS vR Q) (hs : Q.S.length ≤ 100000) (hr : Q.R.length ≤ 100000) (send : Bool) :
    Calls Try.prog 40 #[.pointer (some ⟨q, 0, none⟩), .bool send] w (QPeek (Q.peek send) w) := by
  have hz := fz_zero
  have HFZ := Lib.hid (show (fetC none).toArray = fzA from rfl)
  have A0 := Lib.hid (Lg.new w fz0 60 (Z := fzA) rfl)
  have B0 := Lib.hid ((Below.refl w.heap.size w).alloc (Nat.le_refl _) (.cells fzA 60))
  have h1 := h.below B0.out
  obtain ⟨aS, cS, e1⟩ := owns_slice h.rowS
  obtain ⟨aR, cR, e2⟩ := owns_slice h.rowR
  subst e1; subst e2
  have c0 := h1.c0
  have c1 := h1.c1
  have c2 := h1.c2
  have H1 := Lib.hid h1
  have PL := Lib.hid (Rf.peek_len h.lS h.lR send)
  have PK := Lib.hid (show Q.peek send = Q.peek send from rfl)
  obtain ⟨sn, hsn⟩ : ∃ n, Q.S.length = n := ⟨_, rfl⟩
  obtain ⟨rn, hrn⟩ : ∃ n, Q.R.length = n := ⟨_, rfl⟩
  obtain ⟨sz, hsz⟩ : ∃ n, Q.size = n := ⟨_, rfl⟩
  rw [hsn] at c1 hs
  rw [hrn] at c2 hr
  rw [hsz] at c0
  have SN := Lib.hid hsn
  have RN := Lib.hid hrn
  have SZ := Lib.hid hsz
  have sz4 : sz ≤ 4 := by have := h.sz; omega
  clear h h1 hsn hrn hsz
  cases send with
  | false =>
    by_cases hk : rn < sn
    · have hk' : (rn : Int) < (sn : Int) := by omega
      obtain ⟨g, cap, e, L⟩ := row_lg H1.out.rowS H1.out.lS rn (by have := SN.out; omega)
      cases e
      have hp : Q.peek false = some (Q.S.getD rn []) := by unfold Rf.peek; rw [if_neg (by decide), if_pos (by have := SN.out; have := RN.out; omega), RN.out]
      obtain ⟨l, hl⟩ : ∃ l, Q.S.getD rn [] = l := ⟨_, rfl⟩
      rw [hl] at L hp
      have hll := PL.out l hp
      have hfl := fetC_len PL.out
      rw [hp] at hfl ⊢
      obtain ⟨Z, hZ⟩ : ∃ Z, (ints l).toArray = Z := ⟨_, rfl⟩
      have hZs : Z.size = 256 := by rw [← hZ]; simp [length_ints, hll]
      have HZ := Lib.hid hZ
      have HF := Lib.hid (show (fetC (some l)).toArray = Z.push (.bool true) from by rw [← hZ]; simp [fetC])
      have LL := Lib.hid L
      have hli : (Try.prog.info? 56).map (·.size) = some (ints l).length := by rw [rsize, length_ints, hll]
      have HLI := Lib.hid hli
      have HFL := Lib.hid hfl
      have FI := Lib.hid (show (Try.prog.info? 60).map (·.size) = some (fetC (some l)).length from by rw [HFL.out]; exact fsize)
      have HL := Lib.hid (show fz0.length = (fetC (some l)).length from (show fz0.length = 257 from by simp [fz0, length_ints, zeros]).trans HFL.out.symm)
      clear hp hl hZ L hli hfl PK
      go_enter Try.func40, Try.ntmps40
      go_wp2_with (first
        | (with_reducible refine wpList_load_lg rfl 56 (.tmp 26) (by rfl) g (rn * 256) ?lx_0 (ints l) _ Z HZ.out LL.out Try.underlying56 rfl HLI.out ?_)
        | (with_reducible refine wpList_build_fet rfl (.tmp 27) (.const (.bool true)) (by rfl) Z true ?bx_0 ?bb_0 hZs ?_)
        | (with_reducible refine wpList_store_lg rfl 60 (.tmp 4) (.tmp 28) (by rfl) w.heap.size 0 ?sx_0 (fetC (some l)) fz0 (Z.push (.bool true)) ?sy_0 HF.out A0.out HL.out FI.out (fetC_one _) ?_))
      (try case lx_0 => rfl)
      (try case bx_0 => rfl)
      (try case bb_0 => rfl)
      (try case sx_0 => rfl)
      (try case sy_0 => rfl)
      intro w2 L2 T2
      have LH := Lib.hid L2
      have B2 := Lib.hid (T2.turned.below B0.out (Nat.le_refl _) (fun i e => by rw [e]; exact Nat.le_refl _))
      clear L2 T2
      go_wp2_with fail
      exact peek15_end HF.out HFL.out LH.out B2.out rfl
    · have hk' : ¬ (rn : Int) < (sn : Int) := by omega
      have hp : Q.peek false = none := by unfold Rf.peek; rw [if_neg (by decide), if_neg (by have := SN.out; have := RN.out; omega)]
      have hfl := fetC_len PL.out
      rw [hp] at hfl ⊢
      have HFL := Lib.hid hfl
      have FI := Lib.hid (show (Try.prog.info? 60).map (·.size) = some (fetC none).length from by rw [HFL.out]; exact fsize)
      have HL := Lib.hid (show fz0.length = (fetC none).length from (show fz0.length = 257 from by simp [fz0, length_ints, zeros]).trans HFL.out.symm)
      clear hp hfl PK
      go_enter Try.func40, Try.ntmps40
      go_wp2_with (first
        | (with_reducible refine wpList_build_fet0 rfl (by rfl) ?_)
        | (with_reducible refine wpList_store_lg rfl 60 (.tmp 4) (.tmp 29) (by rfl) w.heap.size 0 ?sx2_1 (fetC none) fz0 fzA ?sy2_1 HFZ.out A0.out HL.out FI.out (fetC_one _) ?_))
      (try case sx2_1 => rfl)
      (try case sy2_1 => rfl)
      intro w2 L2 T2
      have LH := Lib.hid L2
      have B2 := Lib.hid (T2.turned.below B0.out (Nat.le_refl _) (fun i e => by rw [e]; exact Nat.le_refl _))
      clear L2 T2
      go_wp2_with fail
      exact peek15_end rfl HFL.out LH.out B2.out rfl
  | true =>
    have AD := Lib.hid (show Lg (w.alloc (.cells fzA 60)).drew w.heap.size 0 fz0 from A0.out.block rfl)
    have E1 := SN.out
    have E2 := RN.out
    have E3 := SZ.out
    by_cases h0 : 0 < sz
    · have h0' : (0 : Int) < (sz : Int) := by omega
      have dd0 : decide (0 < sz) = true := decide_eq_true h0
      have dd0' : decide ((0 : Int) < (sz : Int)) = true := decide_eq_true h0'
      by_cases h1 : sz ≤ sn
      · obtain ⟨d, hd⟩ : ∃ d : Nat, sn - sz = d := ⟨_, rfl⟩
        have hd' : (sn : Int) - sz = (d : Int) := by omega
        have wr1 : IntKind.i64.wrap ((sn : Int) - sz) = d := by rw [IntWalk.i64_in _ (by omega)]; exact hd'
        have d0 : ¬ (d : Int) < 0 := by omega
        by_cases h2 : d < rn
        · have h2' : (d : Int) < (rn : Int) := by omega
          have dd2 : decide (d < rn) = true := decide_eq_true h2
          have dd2' : decide ((d : Int) < (rn : Int)) = true := decide_eq_true h2'
          obtain ⟨g, cap, e, L⟩ := row_lg H1.out.rowR H1.out.lR d (by omega)
          cases e
          have hp : Q.peek true = some (Q.R.getD d []) := by unfold Rf.peek; rw [if_pos rfl, if_pos (by omega)]; congr 2; omega
          obtain ⟨l, hl⟩ : ∃ l, Q.R.getD d [] = l := ⟨_, rfl⟩
          rw [hl] at L hp
          have hll := PL.out l hp
          have hfl := fetC_len PL.out
          rw [hp] at hfl ⊢
          obtain ⟨Z, hZ⟩ : ∃ Z, (ints l).toArray = Z := ⟨_, rfl⟩
          have hZs : Z.size = 256 := by rw [← hZ]; simp [length_ints, hll]
          have HZ := Lib.hid hZ
          have HF := Lib.hid (show (fetC (some l)).toArray = Z.push (.bool true) from by rw [← hZ]; simp [fetC])
          have LL := Lib.hid (show Lg (w.alloc (.cells fzA 60)).drew g (d * 256) (ints l) from L.block rfl)
          have HLI := Lib.hid (show (Try.prog.info? 56).map (·.size) = some (ints l).length by rw [rsize, length_ints, hll])
          have HFL := Lib.hid hfl
          have FI := Lib.hid (show (Try.prog.info? 60).map (·.size) = some (fetC (some l)).length from by rw [HFL.out]; exact fsize)
          have HL := Lib.hid (show fz0.length = (fetC (some l)).length from (show fz0.length = 257 from by simp [fz0, length_ints, zeros]).trans HFL.out.symm)
          clear hp hl hZ L hfl PK E1 E2 E3 hd hd'
          go_enter Try.func40, Try.ntmps40
          go_wp2_with fail
          go_region_held3 (fun w' => w'.cell? ⟨q, 1, none⟩ = some (.slice aS sn cS) ∧ w'.cell? ⟨q, 0, none⟩ = some (.int .i64 sz)) (go_keep) (fail)
          go_upto_region 8 with fail
          go_wp2_with (first
            | (with_reducible refine wpList_load_lg rfl 56 (.tmp 63) (by rfl) g (d * 256) ?lx_2 (ints l) _ Z HZ.out LL.out Try.underlying56 rfl HLI.out ?_)
            | (with_reducible refine wpList_build_fet rfl (.tmp 64) (.const (.bool true)) (by rfl) Z true ?bx_2 ?bb_2 hZs ?_)
            | (with_reducible refine wpList_store_lg rfl 60 (.tmp 4) (.tmp 65) (by rfl) w.heap.size 0 ?sx_2 (fetC (some l)) fz0 (Z.push (.bool true)) ?sy_2 HF.out AD.out HL.out FI.out (fetC_one _) ?_))
          (try case lx_2 => rfl)
          (try case bx_2 => rfl)
          (try case bb_2 => rfl)
          (try case sx_2 => rfl)
          (try case sy_2 => rfl)
          intro w2 L2 T2
          have LH := Lib.hid L2
          have B2 := Lib.hid (T2.turned.below B0.out.drew (Nat.le_refl _) (fun i e => by rw [e]; exact Nat.le_refl _))
          clear L2 T2
          go_wp2_with fail
          exact peek15_end HF.out HFL.out LH.out B2.out rfl
        · have h2' : ¬ (d : Int) < (rn : Int) := by omega
          have dd2 : decide (d < rn) = false := decide_eq_false h2
          have dd2' : decide ((d : Int) < (rn : Int)) = false := decide_eq_false h2'
          have hp : Q.peek true = none := by unfold Rf.peek; rw [if_pos rfl, if_neg (by omega)]
          clear E1 E2 E3 hd hd'
          have hfl := fetC_len PL.out
          rw [hp] at hfl ⊢
          have HFL := Lib.hid hfl
          have FI := Lib.hid (show (Try.prog.info? 60).map (·.size) = some (fetC none).length from by rw [HFL.out]; exact fsize)
          have HL := Lib.hid (show fz0.length = (fetC none).length from (show fz0.length = 257 from by simp [fz0, length_ints, zeros]).trans HFL.out.symm)
          clear hp hfl PK
          go_enter Try.func40, Try.ntmps40
          go_wp2_with fail
          go_region_held3 (fun w' => w'.cell? ⟨q, 1, none⟩ = some (.slice aS sn cS) ∧ w'.cell? ⟨q, 0, none⟩ = some (.int .i64 sz)) (go_keep) (fail)
          go_upto_region 9 with fail
          go_wp2_with (first
            | (with_reducible refine wpList_build_fet0 rfl (by rfl) ?_)
            | (with_reducible refine wpList_store_lg rfl 60 (.tmp 4) (.tmp 66) (by rfl) w.heap.size 0 ?sx2_3 (fetC none) fz0 fzA ?sy2_3 HFZ.out AD.out HL.out FI.out (fetC_one _) ?_))
          (try case sx2_3 => rfl)
          (try case sy2_3 => rfl)
          intro w2 L2 T2
          have LH := Lib.hid L2
          have B2 := Lib.hid (T2.turned.below B0.out.drew (Nat.le_refl _) (fun i e => by rw [e]; exact Nat.le_refl _))
          clear L2 T2
          go_wp2_with fail
          exact peek15_end rfl HFL.out LH.out B2.out rfl
      · obtain ⟨k, hk⟩ : ∃ k : Int, (sn : Int) - sz = k := ⟨_, rfl⟩
        have wr1 : IntKind.i64.wrap ((sn : Int) - sz) = k := by rw [IntWalk.i64_in _ (by omega)]; exact hk
        have d0 : k < 0 := by omega
        have d1 : ¬ 0 ≤ k := by omega
        have d2 : decide (0 ≤ k) = false := decide_eq_false d1
        have hp : Q.peek true = none := by unfold Rf.peek; rw [if_pos rfl, if_neg (by omega)]
        clear E1 E2 E3 hk
        have hfl := fetC_len PL.out
        rw [hp] at hfl ⊢
        have HFL := Lib.hid hfl
        have FI := Lib.hid (show (Try.prog.info? 60).map (·.size) = some (fetC none).length from by rw [HFL.out]; exact fsize)
        have HL := Lib.hid (show fz0.length = (fetC none).length from (show fz0.length = 257 from by simp [fz0, length_ints, zeros]).trans HFL.out.symm)
        clear hp hfl PK
        go_enter Try.func40, Try.ntmps40
        go_wp2_with fail
        go_region_held3 (fun w' => w'.cell? ⟨q, 1, none⟩ = some (.slice aS sn cS) ∧ w'.cell? ⟨q, 0, none⟩ = some (.int .i64 sz)) (go_keep) (fail)
        go_upto_region 9 with fail
        go_wp2_with (first
          | (with_reducible refine wpList_build_fet0 rfl (by rfl) ?_)
          | (with_reducible refine wpList_store_lg rfl 60 (.tmp 4) (.tmp 66) (by rfl) w.heap.size 0 ?sx2_4 (fetC none) fz0 fzA ?sy2_4 HFZ.out AD.out HL.out FI.out (fetC_one _) ?_))
        (try case sx2_4 => rfl)
        (try case sy2_4 => rfl)
        intro w2 L2 T2
        have LH := Lib.hid L2
        have B2 := Lib.hid (T2.turned.below B0.out.drew (Nat.le_refl _) (fun i e => by rw [e]; exact Nat.le_refl _))
        clear L2 T2
        go_wp2_with fail
        exact peek15_end rfl HFL.out LH.out B2.out rfl
    · have h0' : ¬ (0 : Int) < (sz : Int) := by omega
      have dd0 : decide (0 < sz) = false := decide_eq_false h0
      have dd0' : decide ((0 : Int) < (sz : Int)) = false := decide_eq_false h0'
      obtain ⟨k, hk⟩ : ∃ k : Int, (sn : Int) - sz = k := ⟨_, rfl⟩
      have wr1 : IntKind.i64.wrap ((sn : Int) - sz) = k := by rw [IntWalk.i64_in _ (by omega)]; exact hk
      have hp : Q.peek true = none := by unfold Rf.peek; rw [if_pos rfl, if_neg (by omega)]
      clear E1 E2 E3 hk
      have hfl := fetC_len PL.out
      rw [hp] at hfl ⊢
      have HFL := Lib.hid hfl
      have FI := Lib.hid (show (Try.prog.info? 60).map (·.size) = some (fetC none).length from by rw [HFL.out]; exact fsize)
      have HL := Lib.hid (show fz0.length = (fetC none).length from (show fz0.length = 257 from by simp [fz0, length_ints, zeros]).trans HFL.out.symm)
      clear hp hfl PK
      go_enter Try.func40, Try.ntmps40
      go_wp2_with fail
      go_region_held3 (fun w' => w'.cell? ⟨q, 1, none⟩ = some (.slice aS sn cS) ∧ w'.cell? ⟨q, 0, none⟩ = some (.int .i64 sz)) (go_keep) (fail)
      go_upto_region 9 with fail
      go_wp2_with (first
        | (with_reducible refine wpList_build_fet0 rfl (by rfl) ?_)
        | (with_reducible refine wpList_store_lg rfl 60 (.tmp 4) (.tmp 66) (by rfl) w.heap.size 0 ?sx2_5 (fetC none) fz0 fzA ?sy2_5 HFZ.out AD.out HL.out FI.out (fetC_one _) ?_))
      (try case sx2_5 => rfl)
      (try case sy2_5 => rfl)
      intro w2 L2 T2
      have LH := Lib.hid L2
      have B2 := Lib.hid (T2.turned.below B0.out.drew (Nat.le_refl _) (fun i e => by rw [e]; exact Nat.le_refl _))
      clear L2 T2
      go_wp2_with fail
      exact peek15_end rfl HFL.out LH.out B2.out rfl
end Go.Proofs.Ytlkfhobacgnckaa

