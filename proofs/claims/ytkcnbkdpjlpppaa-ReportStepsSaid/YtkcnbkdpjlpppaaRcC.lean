
/-
  staitheref18: Put, Retire.
-/
import Derived.Test.YtkcnbkdpjlpppaaRcB
namespace Go.Proofs.Ytkcnbkdpjlpppaa
open Go.RowKit
set_option linter.unusedVariables false
set_option linter.unusedSimpArgs false
set_option maxRecDepth 100000
attribute [local go_sem ↓] exec_ld37

def zeroK (rd : List Int) (k : Nat) : List Int := (List.range 256).map fun j => if j < k then 0 else rd.getD j 0
theorem zeroK_len (rd : List Int) (k : Nat) : (zeroK rd k).length = 256 := by simp [zeroK]
theorem zeroK_get (rd : List Int) (k : Nat) {j : Nat} (hj : j < 256) : (zeroK rd k).getD j 0 = if j < k then 0 else rd.getD j 0 := by
  unfold zeroK
  rw [List.getD_eq_getElem?_getD, List.getElem?_eq_getElem (by simp; exact hj)]
  simp
theorem zeroK_zero {rd : List Int} (h : rd.length = 256) : zeroK rd 0 = rd := list_ext256 (zeroK_len _ _) h (fun j hj => by rw [zeroK_get _ _ hj, if_neg (by omega)])
theorem zeroK_step (rd : List Int) {k : Nat} (hk : k < 256) : (zeroK rd k).set k 0 = zeroK rd (k + 1) :=
  list_ext256 (by simp [zeroK_len]) (zeroK_len _ _) (fun j hj => by
    rw [getD_set256 (zeroK_len _ _) hk, zeroK_get _ _ hj, zeroK_get _ _ hj]
    by_cases hjk : j = k
    · subst hjk; rw [if_pos rfl, if_pos (by omega)]
    · rw [if_neg hjk]
      by_cases h3 : j < k
      · rw [if_pos h3, if_pos (by omega)]
      · rw [if_neg h3, if_neg (by omega)])
def zeroR : List Int := zeroK [] 256
theorem zeroK_all (rd : List Int) : zeroK rd 256 = zeroR := list_ext256 (zeroK_len _ _) (zeroK_len _ _) (fun j hj => by unfold zeroR; rw [zeroK_get _ _ hj, zeroK_get _ _ hj, if_pos hj, if_pos hj])
def putA (rd : List Int) (tid : Int) (ns : List Int) (k : Nat) : Bool := (List.range k).any fun j => decide (0 < rd.getD j 0) && !kn18 rd tid ns j
theorem putA_step (rd : List Int) (tid : Int) (ns : List Int) (k : Nat) : putA rd tid ns (k + 1) = (putA rd tid ns k || (decide (0 < rd.getD k 0) && !kn18 rd tid ns k)) := by
  unfold putA
  rw [List.range_succ, List.any_append]
  simp
def putW (tl : Bool) (rd : List Int) (tid : Int) (ns : List Int) (k : Nat) : Int := if tl || putA rd tid ns k then 2 else 0
def putV (m : M18) (tid : Int) (ns : List Int) : Int := if rkB m.t m.n m.no m.ta tid ns then putW m.tl m.rd tid ns 256 else 1
def RPutPost (b o : Nat) (m : M18) (tid : Nat) (n : Int) (ns : List Int) (w : World) (r : Ending) (w' : World) : Prop :=
  r = .returned (.int .i64 (putV m tid ns)) ∧ R18 w' b o ⟨tid, n, false, false, zeroR, false⟩ ∧ Only b o 261 w w'

set_option maxHeartbeats 4000000 in
theorem rput_any (b o : Nat) (m : M18) (tid : Nat) (n : Int) (ns : List Int) (Z : Array Value) (hZ : (ints ns).toArray = Z) (hl : ns.length = 256) (w : World) (h : R18 w b o m) (ht : tid < 256) :
    Calls Try.prog 50 #[.pointer (some ⟨b, o, none⟩), .int .i64 tid, .int .i64 n, .agg Z] w (RPutPost b o m tid n ns w) := by
  obtain ⟨W2, hW2⟩ : ∃ W2, w.alloc (.cells Z 91) = W2 := ⟨_, rfl⟩
  obtain ⟨hrc, hb2⟩ := boxed hZ hl hW2
  have hbq : w.heap.size ≠ b := by have := h.lt; omega
  have hbq' : b ≠ w.heap.size := Ne.symm hbq
  have LD := run_ld37 w.heap.size 0 ns hl Z hZ
  have KN := Lib.hid (fun t n no ta X => rknown_any t n no ta tid ns Z hZ hl X)
  have H := Lib.hid (h.below hb2)
  have RCX := Lib.hid hrc
  have B := Lib.hid hb2
  have HW2 := Lib.hid hW2
  have HLT := Lib.hid h.lt
  have ht' : (tid : Int) < 256 := by omega
  clear h hrc hb2 hW2 hZ hl
  obtain ⟨mt, mn, mno, mta, rd, mtl⟩ := m
  have ct := H.out.ct
  dsimp only at ct
  go_enter Try.func50, Try.ntmps50
  go_upto_region 1 with fail
  rw [HW2.out]
  cases mtl with
  | true =>
    go_wp2_with fail
    go_loopw [10, 9] (fun i s wr => ∃ k : Nat, k ≤ 256 ∧ i = .int .i64 k ∧ s = .int .i64 (putW true rd tid ns k) ∧ R18 wr b o ⟨mt, mn, mno, mta, zeroK rd k, true⟩ ∧ Only b o 261 W2 wr) (fun i _ _ => 256 - (intOf i).toNat)
    case atStart => exact ⟨0, by omega, rfl, rfl, by rw [zeroK_zero H.out.len]; exact H.out, Only.refl _ _ _ _⟩
    case round =>
      obtain ⟨k, hk, rfl, rfl, hr, ho⟩ := hrel
      have HR := Lib.hid hr
      have HO := Lib.hid ho
      have RG := Lib.hid (show ∀ w', Only b o 261 W2 w' → w'.rangeAt w.heap.size 0 (ints ns) from fun w' hh j v hj => (World.cell?_of_block (hh.block _ RCX.out.lt hbq)).trans (RCX.out.range j v hj))
      have rg := RG.out _ HO.out
      clear hr ho
      by_cases hlt : k < 256
      · have hlt' : (k : Int) < 256 := by omega
        have c0 := HR.out.cr k hlt
        have f0 := HR.out.fz (o + 4 + k)
        have E := Lib.hid (show (zeroK rd k).getD k 0 = rd.getD k 0 from by rw [zeroK_get _ _ hlt, if_neg (by omega)])
        have ZS := Lib.hid (zeroK_step rd hlt)
        have PS := Lib.hid (putA_step rd tid ns k)
        dsimp only at c0
        rw [E.out] at c0
        obtain ⟨u, hu⟩ : ∃ u, rd.getD k 0 = u := ⟨_, rfl⟩
        rw [hu] at c0
        have HU := Lib.hid hu
        clear hu
        by_cases hup : 0 < u
        · obtain ⟨y, hy⟩ : ∃ y, rkB k u false false tid ns = y := ⟨_, rfl⟩
          have KY := Lib.hid (show kn18 rd tid ns k = y from by unfold kn18; rw [HU.out]; exact hy)
          have KC := Lib.hid (KN.out k u false false wr.drew)
          rw [hy] at KC
          clear hy
          obtain ⟨s, hs⟩ : ∃ s, putW true rd tid ns k = s := ⟨_, rfl⟩
          have HS := Lib.hid hs
          rw [hs]
          clear hs
          go_wp2_with fail
          refine wp_region_held_drew (S := (fun w' => w'.cell? ⟨b, o + 4 + k, none⟩ = some (.int .i64 u) ∧ w'.rangeAt w.heap.size 0 (ints ns))) (by kernel_rfl) (by (try dsimp only); ((first | assumption | (refine ⟨?_, ?_⟩ <;> assumption)))) (fun hHeld => ?_)
          refine wpAnyH_take (i := 0) (v := ?vdt0) rfl (by kernel_rfl) (by kernel_rfl) (by kernel_rfl) (fun _ _ _ h => h) (Or.inl ⟨by kernel_rfl, ?hydt0⟩) (by assumption) ?restdt0
          case hydt0 => (intro w hSw; (try dsimp only at hSw); go_simp; try with_reducible rfl)
          try simp only [Act.put, List.getElem_toArray, List.getElem_cons_succ, List.getElem_cons_zero, List.setIfInBounds_toArray, List.set_cons_zero, List.set_cons_succ]
          refine wpAnyH_take (i := 1) (v := ?vdt1) rfl (by kernel_rfl) (by kernel_rfl) (by kernel_rfl) (fun _ _ _ h => h) (Or.inl ⟨by kernel_rfl, ?hydt1⟩) (by assumption) ?restdt1
          case hydt1 => (intro w hSw; (try dsimp only at hSw); go_simp; try with_reducible rfl)
          try simp only [Act.put, List.getElem_toArray, List.getElem_cons_succ, List.getElem_cons_zero, List.setIfInBounds_toArray, List.set_cons_zero, List.set_cons_succ]
          refine wpAnyH_take (i := 2) (v := ?vdt2) rfl (by kernel_rfl) (by kernel_rfl) (by kernel_rfl) (fun _ _ _ h => h) (Or.inl ⟨by kernel_rfl, ?hydt2⟩) (by assumption) ?restdt2
          case hydt2 => (intro w hSw; (try dsimp only at hSw); go_simp; try with_reducible rfl)
          try simp only [Act.put, List.getElem_toArray, List.getElem_cons_succ, List.getElem_cons_zero, List.setIfInBounds_toArray, List.set_cons_zero, List.set_cons_succ]
          refine wpAnyH_take (i := 3) (v := ?vdt3) rfl (by kernel_rfl) (by kernel_rfl) (by kernel_rfl) (fun _ _ _ h => h) (Or.inl ⟨by kernel_rfl, ?hydt3⟩) (by assumption) ?restdt3
          case hydt3 => (intro w hSw; (try dsimp only at hSw); go_simp; try with_reducible rfl)
          try simp only [Act.put, List.getElem_toArray, List.getElem_cons_succ, List.getElem_cons_zero, List.setIfInBounds_toArray, List.set_cons_zero, List.set_cons_succ]
          refine wpAnyH_take (i := 4) (v := ?vdt4) rfl (by kernel_rfl) (by kernel_rfl) (by kernel_rfl) (fun _ _ _ h => h) (Or.inl ⟨by kernel_rfl, ?hydt4⟩) (by assumption) ?restdt4
          case hydt4 => (intro w hSw; (try dsimp only at hSw); go_simp; try with_reducible rfl)
          try simp only [Act.put, List.getElem_toArray, List.getElem_cons_succ, List.getElem_cons_zero, List.setIfInBounds_toArray, List.set_cons_zero, List.set_cons_succ]
          refine wpAnyH_take (i := 5) (v := ?vdt5) rfl (by kernel_rfl) (by kernel_rfl) (by kernel_rfl) (fun _ _ _ h => h) (Or.inl ⟨by kernel_rfl, ?hydt5⟩) (by assumption) ?restdt5
          case hydt5 => (intro w hSw; (try dsimp only at hSw); go_simp; try with_reducible rfl)
          try simp only [Act.put, List.getElem_toArray, List.getElem_cons_succ, List.getElem_cons_zero, List.setIfInBounds_toArray, List.set_cons_zero, List.set_cons_succ]
          refine wpAnyH_take (i := 6) (v := ?vdt6) rfl (by kernel_rfl) (by kernel_rfl) (by kernel_rfl) (fun _ _ _ h => h) (Or.inl ⟨by kernel_rfl, ?hydt6⟩) (by assumption) ?restdt6
          case hydt6 => (intro w hSw; (try dsimp only at hSw); go_simp; try with_reducible rfl)
          try simp only [Act.put, List.getElem_toArray, List.getElem_cons_succ, List.getElem_cons_zero, List.setIfInBounds_toArray, List.set_cons_zero, List.set_cons_succ]
          refine wpAnyH_take (i := 7) (v := ?vdt7) rfl (by kernel_rfl) (by kernel_rfl) (by kernel_rfl) (fun _ _ _ h => h) (Or.inl ⟨by kernel_rfl, ?hydt7⟩) (by assumption) ?restdt7
          case hydt7 => (intro w hSw; (try dsimp only at hSw); go_simp; try with_reducible rfl)
          try simp only [Act.put, List.getElem_toArray, List.getElem_cons_succ, List.getElem_cons_zero, List.setIfInBounds_toArray, List.set_cons_zero, List.set_cons_succ]
          refine wpAnyH_take (i := 8) (v := ?vdt8) rfl (by kernel_rfl) (by kernel_rfl) (by kernel_rfl) (fun _ _ _ h => h) (Or.inl ⟨by kernel_rfl, ?hydt8⟩) (by assumption) ?restdt8
          case hydt8 => (intro w hSw; (try dsimp only at hSw); go_simp; try with_reducible rfl)
          try simp only [Act.put, List.getElem_toArray, List.getElem_cons_succ, List.getElem_cons_zero, List.setIfInBounds_toArray, List.set_cons_zero, List.set_cons_succ]
          refine wpAnyH_take (i := 9) (v := ?vdt9) rfl (by kernel_rfl) (by kernel_rfl) (by kernel_rfl) (fun _ _ _ h => h) (Or.inl ⟨by kernel_rfl, ?hydt9⟩) (by assumption) ?restdt9
          case hydt9 => (intro w hSw; (try dsimp only at hSw); go_simp; try with_reducible rfl)
          try simp only [Act.put, List.getElem_toArray, List.getElem_cons_succ, List.getElem_cons_zero, List.setIfInBounds_toArray, List.set_cons_zero, List.set_cons_succ]
          refine wpAnyH_take (i := 10) (v := ?vdt10) rfl (by kernel_rfl) (by kernel_rfl) (by kernel_rfl) (fun _ _ _ h => h) (Or.inl ⟨by kernel_rfl, ?hydt10⟩) (by assumption) ?restdt10
          case hydt10 => (intro w hSw; (try dsimp only at hSw); go_simp; try with_reducible rfl)
          try simp only [Act.put, List.getElem_toArray, List.getElem_cons_succ, List.getElem_cons_zero, List.setIfInBounds_toArray, List.set_cons_zero, List.set_cons_succ]
          refine wpAnyH_take (i := 11) (v := ?vdt11) rfl (by kernel_rfl) (by kernel_rfl) (by kernel_rfl) (fun _ _ _ h => h) (Or.inl ⟨by kernel_rfl, ?hydt11⟩) (by assumption) ?restdt11
          case hydt11 => (intro w hSw; (try dsimp only at hSw); go_simp; try with_reducible rfl)
          try simp only [Act.put, List.getElem_toArray, List.getElem_cons_succ, List.getElem_cons_zero, List.setIfInBounds_toArray, List.set_cons_zero, List.set_cons_succ]
          refine wpAnyH_take (i := 12) (v := ?vdt12) rfl (by kernel_rfl) (by kernel_rfl) (by kernel_rfl) (fun _ _ _ h => h) (Or.inl ⟨by kernel_rfl, ?hydt12⟩) (by assumption) ?restdt12
          case hydt12 => (intro w hSw; (try dsimp only at hSw); go_simp; try with_reducible rfl)
          try simp only [Act.put, List.getElem_toArray, List.getElem_cons_succ, List.getElem_cons_zero, List.setIfInBounds_toArray, List.set_cons_zero, List.set_cons_succ]
          refine wpAnyH_take (i := 13) (v := ?vdt13) rfl (by kernel_rfl) (by kernel_rfl) (by kernel_rfl) (fun _ _ _ h => h) (Or.inl ⟨by kernel_rfl, ?hydt13⟩) (by assumption) ?restdt13
          case hydt13 => (intro w hSw; (try dsimp only at hSw); go_simp; try with_reducible rfl)
          try simp only [Act.put, List.getElem_toArray, List.getElem_cons_succ, List.getElem_cons_zero, List.setIfInBounds_toArray, List.set_cons_zero, List.set_cons_succ]
          refine wpAnyH_take (i := 14) (v := ?vdt14) rfl (by kernel_rfl) (by kernel_rfl) (by kernel_rfl) (fun _ _ _ h => h) (Or.inl ⟨by kernel_rfl, ?hydt14⟩) (by assumption) ?restdt14
          case hydt14 => (intro w hSw; (try dsimp only at hSw); go_simp; try with_reducible rfl)
          try simp only [Act.put, List.getElem_toArray, List.getElem_cons_succ, List.getElem_cons_zero, List.setIfInBounds_toArray, List.set_cons_zero, List.set_cons_succ]
          refine wpAnyH_take (i := 15) (v := ?vdt15) rfl (by kernel_rfl) (by kernel_rfl) (by kernel_rfl) (fun _ _ _ h => h) (Or.inl ⟨by kernel_rfl, ?hydt15⟩) (by assumption) ?restdt15
          case hydt15 => (intro w hSw; (try dsimp only at hSw); go_simp; try with_reducible rfl)
          try simp only [Act.put, List.getElem_toArray, List.getElem_cons_succ, List.getElem_cons_zero, List.setIfInBounds_toArray, List.set_cons_zero, List.set_cons_succ]
          refine wpAnyH_take (i := 16) (v := ?vdt16) rfl (by kernel_rfl) (by kernel_rfl) (by kernel_rfl) (fun _ _ _ h => h) (Or.inl ⟨by kernel_rfl, ?hydt16⟩) (by assumption) ?restdt16
          case hydt16 => (intro w hSw; (try dsimp only at hSw); go_simp; try with_reducible rfl)
          try simp only [Act.put, List.getElem_toArray, List.getElem_cons_succ, List.getElem_cons_zero, List.setIfInBounds_toArray, List.set_cons_zero, List.set_cons_succ]
          refine wpAnyH_take (i := 17) (v := ?vdt17) rfl (by kernel_rfl) (by kernel_rfl) (by kernel_rfl) (fun _ _ _ h => h) (Or.inl ⟨by kernel_rfl, ?hydt17⟩) (by assumption) ?restdt17
          case hydt17 => (intro w hSw; (try dsimp only at hSw); (try simp only [List.getElem_toArray, List.getElem_cons_succ, List.getElem_cons_zero]); go_simp; try with_reducible rfl)
          try simp only [Act.put, List.getElem_toArray, List.getElem_cons_succ, List.getElem_cons_zero, List.setIfInBounds_toArray, List.set_cons_zero, List.set_cons_succ]
          refine wpAnyH_ready (rs := [18]) (by kernel_rfl) (by simp) ?_
          refine AllReadyH.cons rfl (fun K hK => ?_) AllReadyH.nil
          go_simp
          go_at_call 58; (with_reducible refine KC.out.mono ?_); rintro r w9 ⟨rfl, hb9'⟩; have hb9 := below_drew hb9'; have RG9 := RG.out w9 (HO.out.trans (Only.of_below hb9)); have cc9 := (HR.out.below hb9).cr k hlt; dsimp only at cc9; rw [E.out, HU.out] at cc9; clear hb9'
          refine hK.out _ _ (by (try dsimp only); ((first | assumption | (refine ⟨?_, ?_⟩ <;> assumption)))) (fun hHeld => ?_)
          clear hK K
          try simp only [Act.put, List.getElem_toArray, List.getElem_cons_succ, List.getElem_cons_zero, List.setIfInBounds_toArray, List.set_cons_zero, List.set_cons_succ]
          refine wpAnyH_take (i := 19) (v := ?vdt19) rfl (by kernel_rfl) (by kernel_rfl) (by kernel_rfl) (fun _ _ _ h => h) (Or.inl ⟨by kernel_rfl, ?hydt19⟩) (by assumption) ?restdt19
          case hydt19 => (intro w hSw; (try dsimp only at hSw); go_simp; try with_reducible rfl)
          try simp only [Act.put, List.getElem_toArray, List.getElem_cons_succ, List.getElem_cons_zero, List.setIfInBounds_toArray, List.set_cons_zero, List.set_cons_succ]
          refine wpAnyH_take (i := 20) (v := ?vdt20) rfl (by kernel_rfl) (by kernel_rfl) (by kernel_rfl) (fun _ _ _ h => h) (Or.inl ⟨by kernel_rfl, ?hydt20⟩) (by assumption) ?restdt20
          case hydt20 => (intro w hSw; (try dsimp only at hSw); go_simp; try with_reducible rfl)
          try simp only [Act.put, List.getElem_toArray, List.getElem_cons_succ, List.getElem_cons_zero, List.setIfInBounds_toArray, List.set_cons_zero, List.set_cons_succ]
          refine wpAnyH_done (by kernel_rfl) ?_ _
          have O9 := Lib.hid (HO.out.trans (show Only b o 261 wr w9 from Only.of_below hb9))
          have R9 := Lib.hid (HR.out.below hb9)
          have f9 := R9.out.fz (o + 4 + k)
          have c9 := R9.out.cr k hlt
          clear hb9
          cases y with
          | true =>
            have PW := Lib.hid (show putW true rd tid ns (k + 1) = s from by unfold putW at HS ⊢; rw [PS.out, KY.out]; simpa using HS.out)
            go_wp2_with fail
            go_roundw
            case rel => exact ⟨k + 1, by omega, by go_num, by rw [PW.out], by rw [← ZS.out]; exact R9.out.set_rd k hlt 0, O9.out.trans (by rw [Nat.add_assoc]; exact Only.of_set _ (by omega))⟩
            case measure => simp [intOf] <;> omega
          | false =>
            have PW := Lib.hid (show putW true rd tid ns (k + 1) = 2 from by unfold putW; rw [PS.out, KY.out, HU.out, decide_eq_true hup]; simp)
            go_wp2_with fail
            go_roundw
            case rel => exact ⟨k + 1, by omega, by go_num, by rw [PW.out], by rw [← ZS.out]; exact R9.out.set_rd k hlt 0, O9.out.trans (by rw [Nat.add_assoc]; exact Only.of_set _ (by omega))⟩
            case measure => simp [intOf] <;> omega
        · have hup' : decide (0 < u) = false := decide_eq_false hup
          obtain ⟨s, hs⟩ : ∃ s, putW true rd tid ns k = s := ⟨_, rfl⟩
          have HS := Lib.hid hs
          rw [hs]
          clear hs
          have PW := Lib.hid (show putW true rd tid ns (k + 1) = s from by unfold putW at HS ⊢; rw [PS.out, HU.out, hup']; simpa using HS.out)
          go_wp2_with fail
          refine wp_region_held_drew (S := (fun w' => w'.cell? ⟨b, o + 4 + k, none⟩ = some (.int .i64 u))) (by kernel_rfl) (by (try dsimp only); assumption) (fun hHeld => ?_)
          refine wpAnyH_take (i := 0) (v := ?vet0) rfl (by kernel_rfl) (by kernel_rfl) (by kernel_rfl) (fun _ _ _ h => h) (Or.inl ⟨by kernel_rfl, ?hyet0⟩) (by assumption) ?restet0
          case hyet0 => (intro w hSw; (try dsimp only at hSw); go_simp; try with_reducible rfl)
          try simp only [Act.put, List.getElem_toArray, List.getElem_cons_succ, List.getElem_cons_zero, List.setIfInBounds_toArray, List.set_cons_zero, List.set_cons_succ]
          refine wpAnyH_take (i := 1) (v := ?vet1) rfl (by kernel_rfl) (by kernel_rfl) (by kernel_rfl) (fun _ _ _ h => h) (Or.inl ⟨by kernel_rfl, ?hyet1⟩) (by assumption) ?restet1
          case hyet1 => (intro w hSw; (try dsimp only at hSw); go_simp; try with_reducible rfl)
          try simp only [Act.put, List.getElem_toArray, List.getElem_cons_succ, List.getElem_cons_zero, List.setIfInBounds_toArray, List.set_cons_zero, List.set_cons_succ]
          refine wpAnyH_take (i := 2) (v := ?vet2) rfl (by kernel_rfl) (by kernel_rfl) (by kernel_rfl) (fun _ _ _ h => h) (Or.inl ⟨by kernel_rfl, ?hyet2⟩) (by assumption) ?restet2
          case hyet2 => (intro w hSw; (try dsimp only at hSw); go_simp; try with_reducible rfl)
          try simp only [Act.put, List.getElem_toArray, List.getElem_cons_succ, List.getElem_cons_zero, List.setIfInBounds_toArray, List.set_cons_zero, List.set_cons_succ]
          refine wpAnyH_take (i := 3) (v := ?vet3) rfl (by kernel_rfl) (by kernel_rfl) (by kernel_rfl) (fun _ _ _ h => h) (Or.inl ⟨by kernel_rfl, ?hyet3⟩) (by assumption) ?restet3
          case hyet3 => (intro w hSw; (try dsimp only at hSw); go_simp; try with_reducible rfl)
          try simp only [Act.put, List.getElem_toArray, List.getElem_cons_succ, List.getElem_cons_zero, List.setIfInBounds_toArray, List.set_cons_zero, List.set_cons_succ]
          refine wpAnyH_take (i := 4) (v := ?vet4) rfl (by kernel_rfl) (by kernel_rfl) (by kernel_rfl) (fun _ _ _ h => h) (Or.inl ⟨by kernel_rfl, ?hyet4⟩) (by assumption) ?restet4
          case hyet4 => (intro w hSw; (try dsimp only at hSw); go_simp; try with_reducible rfl)
          try simp only [Act.put, List.getElem_toArray, List.getElem_cons_succ, List.getElem_cons_zero, List.setIfInBounds_toArray, List.set_cons_zero, List.set_cons_succ]
          refine wpAnyH_take (i := 5) (v := ?vet5) rfl (by kernel_rfl) (by kernel_rfl) (by kernel_rfl) (fun _ _ _ h => h) (Or.inl ⟨by kernel_rfl, ?hyet5⟩) (by assumption) ?restet5
          case hyet5 => (intro w hSw; (try dsimp only at hSw); go_simp; try with_reducible rfl)
          try simp only [Act.put, List.getElem_toArray, List.getElem_cons_succ, List.getElem_cons_zero, List.setIfInBounds_toArray, List.set_cons_zero, List.set_cons_succ]
          refine wpAnyH_take (i := 6) (v := ?vet6) rfl (by kernel_rfl) (by kernel_rfl) (by kernel_rfl) (fun _ _ _ h => h) (Or.inl ⟨by kernel_rfl, ?hyet6⟩) (by assumption) ?restet6
          case hyet6 => (intro w hSw; (try dsimp only at hSw); go_simp; try with_reducible rfl)
          try simp only [Act.put, List.getElem_toArray, List.getElem_cons_succ, List.getElem_cons_zero, List.setIfInBounds_toArray, List.set_cons_zero, List.set_cons_succ]
          refine wpAnyH_take (i := 7) (v := ?vet7) rfl (by kernel_rfl) (by kernel_rfl) (by kernel_rfl) (fun _ _ _ h => h) (Or.inl ⟨by kernel_rfl, ?hyet7⟩) (by assumption) ?restet7
          case hyet7 => (intro w hSw; (try dsimp only at hSw); go_simp; try with_reducible rfl)
          try simp only [Act.put, List.getElem_toArray, List.getElem_cons_succ, List.getElem_cons_zero, List.setIfInBounds_toArray, List.set_cons_zero, List.set_cons_succ]
          refine wpAnyH_take (i := 8) (v := undef) rfl (by kernel_rfl) (by kernel_rfl) (by kernel_rfl) (fun _ _ _ h => h) (Or.inr ⟨by kernel_rfl, rfl⟩) (by assumption) ?_
          try simp only [Act.put, List.getElem_toArray, List.getElem_cons_succ, List.getElem_cons_zero, List.setIfInBounds_toArray, List.set_cons_zero, List.set_cons_succ]
          refine wpAnyH_take (i := 9) (v := undef) rfl (by kernel_rfl) (by kernel_rfl) (by kernel_rfl) (fun _ _ _ h => h) (Or.inr ⟨by kernel_rfl, rfl⟩) (by assumption) ?_
          try simp only [Act.put, List.getElem_toArray, List.getElem_cons_succ, List.getElem_cons_zero, List.setIfInBounds_toArray, List.set_cons_zero, List.set_cons_succ]
          refine wpAnyH_take (i := 10) (v := undef) rfl (by kernel_rfl) (by kernel_rfl) (by kernel_rfl) (fun _ _ _ h => h) (Or.inr ⟨by kernel_rfl, rfl⟩) (by assumption) ?_
          try simp only [Act.put, List.getElem_toArray, List.getElem_cons_succ, List.getElem_cons_zero, List.setIfInBounds_toArray, List.set_cons_zero, List.set_cons_succ]
          refine wpAnyH_take (i := 11) (v := undef) rfl (by kernel_rfl) (by kernel_rfl) (by kernel_rfl) (fun _ _ _ h => h) (Or.inr ⟨by kernel_rfl, rfl⟩) (by assumption) ?_
          try simp only [Act.put, List.getElem_toArray, List.getElem_cons_succ, List.getElem_cons_zero, List.setIfInBounds_toArray, List.set_cons_zero, List.set_cons_succ]
          refine wpAnyH_take (i := 12) (v := undef) rfl (by kernel_rfl) (by kernel_rfl) (by kernel_rfl) (fun _ _ _ h => h) (Or.inr ⟨by kernel_rfl, rfl⟩) (by assumption) ?_
          try simp only [Act.put, List.getElem_toArray, List.getElem_cons_succ, List.getElem_cons_zero, List.setIfInBounds_toArray, List.set_cons_zero, List.set_cons_succ]
          refine wpAnyH_take (i := 13) (v := undef) rfl (by kernel_rfl) (by kernel_rfl) (by kernel_rfl) (fun _ _ _ h => h) (Or.inr ⟨by kernel_rfl, rfl⟩) (by assumption) ?_
          try simp only [Act.put, List.getElem_toArray, List.getElem_cons_succ, List.getElem_cons_zero, List.setIfInBounds_toArray, List.set_cons_zero, List.set_cons_succ]
          refine wpAnyH_take (i := 14) (v := undef) rfl (by kernel_rfl) (by kernel_rfl) (by kernel_rfl) (fun _ _ _ h => h) (Or.inr ⟨by kernel_rfl, rfl⟩) (by assumption) ?_
          try simp only [Act.put, List.getElem_toArray, List.getElem_cons_succ, List.getElem_cons_zero, List.setIfInBounds_toArray, List.set_cons_zero, List.set_cons_succ]
          refine wpAnyH_take (i := 15) (v := undef) rfl (by kernel_rfl) (by kernel_rfl) (by kernel_rfl) (fun _ _ _ h => h) (Or.inr ⟨by kernel_rfl, rfl⟩) (by assumption) ?_
          try simp only [Act.put, List.getElem_toArray, List.getElem_cons_succ, List.getElem_cons_zero, List.setIfInBounds_toArray, List.set_cons_zero, List.set_cons_succ]
          refine wpAnyH_take (i := 16) (v := undef) rfl (by kernel_rfl) (by kernel_rfl) (by kernel_rfl) (fun _ _ _ h => h) (Or.inr ⟨by kernel_rfl, rfl⟩) (by assumption) ?_
          try simp only [Act.put, List.getElem_toArray, List.getElem_cons_succ, List.getElem_cons_zero, List.setIfInBounds_toArray, List.set_cons_zero, List.set_cons_succ]
          refine wpAnyH_take (i := 17) (v := undef) rfl (by kernel_rfl) (by kernel_rfl) (by kernel_rfl) (fun _ _ _ h => h) (Or.inr ⟨by kernel_rfl, rfl⟩) (by assumption) ?_
          try simp only [Act.put, List.getElem_toArray, List.getElem_cons_succ, List.getElem_cons_zero, List.setIfInBounds_toArray, List.set_cons_zero, List.set_cons_succ]
          refine wpAnyH_take (i := 18) (v := undef) rfl (by kernel_rfl) (by kernel_rfl) (by kernel_rfl) (fun _ _ _ h => h) (Or.inr ⟨by kernel_rfl, rfl⟩) (by assumption) ?_
          try simp only [Act.put, List.getElem_toArray, List.getElem_cons_succ, List.getElem_cons_zero, List.setIfInBounds_toArray, List.set_cons_zero, List.set_cons_succ]
          refine wpAnyH_take (i := 19) (v := undef) rfl (by kernel_rfl) (by kernel_rfl) (by kernel_rfl) (fun _ _ _ h => h) (Or.inr ⟨by kernel_rfl, rfl⟩) (by assumption) ?_
          try simp only [Act.put, List.getElem_toArray, List.getElem_cons_succ, List.getElem_cons_zero, List.setIfInBounds_toArray, List.set_cons_zero, List.set_cons_succ]
          refine wpAnyH_take (i := 20) (v := ?vet20) rfl (by kernel_rfl) (by kernel_rfl) (by kernel_rfl) (fun _ _ _ h => h) (Or.inl ⟨by kernel_rfl, ?hyet20⟩) (by assumption) ?restet20
          case hyet20 => (intro w hSw; (try dsimp only at hSw); go_simp; try with_reducible rfl)
          try simp only [Act.put, List.getElem_toArray, List.getElem_cons_succ, List.getElem_cons_zero, List.setIfInBounds_toArray, List.set_cons_zero, List.set_cons_succ]
          refine wpAnyH_done (by kernel_rfl) ?_ _
          go_wp2_with fail
          go_roundw
          case rel => exact ⟨k + 1, by omega, by go_num, by rw [PW.out], by rw [← ZS.out]; exact (HR.out.drew).set_rd k hlt 0, HO.out.drew.trans (by rw [Nat.add_assoc]; exact Only.of_set _ (by omega))⟩
          case measure => simp [intOf] <;> omega
      · have hk2 : k = 256 := by omega
        have HK := Lib.hid hk2
        have hge : (256 : Int) ≤ k := by omega
        have RS := Lib.hid (show R18 wr b o ⟨mt, mn, mno, mta, zeroR, true⟩ from by
          have := HR.out
          rw [HK.out, zeroK_all] at this
          exact this)
        have g0 := RS.out.c0
        have g1 := RS.out.c1
        have g2 := RS.out.c2
        have g3 := RS.out.c3
        dsimp only at g0 g1 g2 g3
        obtain ⟨s, hs⟩ : ∃ s, putW true rd tid ns k = s := ⟨_, rfl⟩
        rw [hs]
        have HS := Lib.hid (show putW true rd tid ns 256 = s from by rw [← HK.out]; exact hs)
        clear hlt hk2 hk hs
        obtain ⟨y, hy⟩ : ∃ y, rkB mt mn mno mta tid ns = y := ⟨_, rfl⟩
        have KC := Lib.hid (KN.out mt mn mno mta wr.drew)
        rw [hy] at KC
        have HY := Lib.hid hy
        clear hy
        go_wp2_with fail
        refine wp_region_held_drew (S := (fun w' => w'.cell? ⟨b, o, none⟩ = some (.int .i64 mt) ∧ w'.cell? ⟨b, o + 1, none⟩ = some (.int .i64 mn) ∧ w'.cell? ⟨b, o + 2, none⟩ = some (.bool mno) ∧ w'.cell? ⟨b, o + 3, none⟩ = some (.bool mta) ∧ w'.rangeAt w.heap.size 0 (ints ns))) (by kernel_rfl) (by (try dsimp only); (refine ⟨?_, ?_, ?_, ?_, ?_⟩ <;> assumption)) (fun hHeld => ?_)
        refine wpAnyH_take (i := 0) (v := ?vft0) rfl (by kernel_rfl) (by kernel_rfl) (by kernel_rfl) (fun _ _ _ h => h) (Or.inl ⟨by kernel_rfl, ?hyft0⟩) (by assumption) ?restft0
        case hyft0 => (intro w hSw; (try dsimp only at hSw); go_simp; try with_reducible rfl)
        try simp only [Act.put, List.getElem_toArray, List.getElem_cons_succ, List.getElem_cons_zero, List.setIfInBounds_toArray, List.set_cons_zero, List.set_cons_succ]
        refine wpAnyH_take (i := 1) (v := ?vft1) rfl (by kernel_rfl) (by kernel_rfl) (by kernel_rfl) (fun _ _ _ h => h) (Or.inl ⟨by kernel_rfl, ?hyft1⟩) (by assumption) ?restft1
        case hyft1 => (intro w hSw; (try dsimp only at hSw); go_simp; try with_reducible rfl)
        try simp only [Act.put, List.getElem_toArray, List.getElem_cons_succ, List.getElem_cons_zero, List.setIfInBounds_toArray, List.set_cons_zero, List.set_cons_succ]
        refine wpAnyH_take (i := 2) (v := ?vft2) rfl (by kernel_rfl) (by kernel_rfl) (by kernel_rfl) (fun _ _ _ h => h) (Or.inl ⟨by kernel_rfl, ?hyft2⟩) (by assumption) ?restft2
        case hyft2 => (intro w hSw; (try dsimp only at hSw); go_simp; try with_reducible rfl)
        try simp only [Act.put, List.getElem_toArray, List.getElem_cons_succ, List.getElem_cons_zero, List.setIfInBounds_toArray, List.set_cons_zero, List.set_cons_succ]
        refine wpAnyH_take (i := 3) (v := ?vft3) rfl (by kernel_rfl) (by kernel_rfl) (by kernel_rfl) (fun _ _ _ h => h) (Or.inl ⟨by kernel_rfl, ?hyft3⟩) (by assumption) ?restft3
        case hyft3 => (intro w hSw; (try dsimp only at hSw); go_simp; try with_reducible rfl)
        try simp only [Act.put, List.getElem_toArray, List.getElem_cons_succ, List.getElem_cons_zero, List.setIfInBounds_toArray, List.set_cons_zero, List.set_cons_succ]
        refine wpAnyH_take (i := 4) (v := ?vft4) rfl (by kernel_rfl) (by kernel_rfl) (by kernel_rfl) (fun _ _ _ h => h) (Or.inl ⟨by kernel_rfl, ?hyft4⟩) (by assumption) ?restft4
        case hyft4 => (intro w hSw; (try dsimp only at hSw); go_simp; try with_reducible rfl)
        try simp only [Act.put, List.getElem_toArray, List.getElem_cons_succ, List.getElem_cons_zero, List.setIfInBounds_toArray, List.set_cons_zero, List.set_cons_succ]
        refine wpAnyH_take (i := 5) (v := ?vft5) rfl (by kernel_rfl) (by kernel_rfl) (by kernel_rfl) (fun _ _ _ h => h) (Or.inl ⟨by kernel_rfl, ?hyft5⟩) (by assumption) ?restft5
        case hyft5 => (intro w hSw; (try dsimp only at hSw); (try simp only [List.getElem_toArray, List.getElem_cons_succ, List.getElem_cons_zero]); go_simp; try with_reducible rfl)
        try simp only [Act.put, List.getElem_toArray, List.getElem_cons_succ, List.getElem_cons_zero, List.setIfInBounds_toArray, List.set_cons_zero, List.set_cons_succ]
        refine wpAnyH_ready (rs := [6]) (by kernel_rfl) (by simp) ?_
        refine AllReadyH.cons rfl (fun K hK => ?_) AllReadyH.nil
        go_simp
        go_at_call 58; (with_reducible refine KC.out.mono ?_); rintro r w9 ⟨rfl, hb9'⟩; have hb9 := below_drew hb9'; have RG9 := RG.out w9 (HO.out.trans (Only.of_below hb9)); have q0 := (RS.out.below hb9).c0; have q1 := (RS.out.below hb9).c1; have q2 := (RS.out.below hb9).c2; have q3 := (RS.out.below hb9).c3; dsimp only at q0 q1 q2 q3; clear hb9'
        refine hK.out _ _ (by (try dsimp only); (refine ⟨?_, ?_, ?_, ?_, ?_⟩ <;> assumption)) (fun hHeld => ?_)
        clear hK K
        try simp only [Act.put, List.getElem_toArray, List.getElem_cons_succ, List.getElem_cons_zero, List.setIfInBounds_toArray, List.set_cons_zero, List.set_cons_succ]
        refine wpAnyH_take (i := 7) (v := ?vft7) rfl (by kernel_rfl) (by kernel_rfl) (by kernel_rfl) (fun _ _ _ h => h) (Or.inl ⟨by kernel_rfl, ?hyft7⟩) (by assumption) ?restft7
        case hyft7 => (intro w hSw; (try dsimp only at hSw); go_simp; try with_reducible rfl)
        try simp only [Act.put, List.getElem_toArray, List.getElem_cons_succ, List.getElem_cons_zero, List.setIfInBounds_toArray, List.set_cons_zero, List.set_cons_succ]
        refine wpAnyH_done (by kernel_rfl) ?_ _
        have RF := Lib.hid (RS.out.below hb9)
        have q5 := RF.out.ct
        have ff := RF.out.fz
        have f5 := ff (o + 260)
        have f6 := ff o
        have f7 := ff (o + 1)
        have f8 := ff (o + 2)
        have f9 := ff (o + 3)
        have OF := Lib.hid (((Only.of_below B.out).trans HO.out).trans (show Only b o 261 wr w9 from Only.of_below hb9))
        have T := Lib.hid (show ∀ z, putV ⟨mt, mn, mno, mta, rd, true⟩ tid ns = z → RPutPost b o ⟨mt, mn, mno, mta, rd, true⟩ tid n ns w (.returned (.int .i64 z)) (((((w9.setCell ⟨b, o + 260, none⟩ (.bool false)).setCell ⟨b, o, none⟩ (.int .i64 tid)).setCell ⟨b, o + 1, none⟩ (.int .i64 n)).setCell ⟨b, o + 2, none⟩ (.bool false)).setCell ⟨b, o + 3, none⟩ (.bool false)) from fun z hz =>
          ⟨by rw [hz], (RF.out.set_tl false).set_w tid n false false, (OF.out.trans (Only.of_set (t := 260) _ (by omega))).trans (only_w _ _ _ _)⟩)
        clear hb9 ff
        cases y with
        | true =>
          have V := Lib.hid (T.out s (by unfold putV; dsimp only; rw [HY.out, if_pos rfl]; exact HS.out))
          go_wp2_with fail
          go_ret
          exact V.out
        | false =>
          have V := Lib.hid (T.out 1 (by unfold putV; dsimp only; rw [HY.out]; rfl))
          go_wp2_with fail
          go_ret
          exact V.out
  | false =>
    go_wp2_with fail
    go_loopw [10, 9] (fun i s wr => ∃ k : Nat, k ≤ 256 ∧ i = .int .i64 k ∧ s = .int .i64 (putW false rd tid ns k) ∧ R18 wr b o ⟨mt, mn, mno, mta, zeroK rd k, false⟩ ∧ Only b o 261 W2 wr) (fun i _ _ => 256 - (intOf i).toNat)
    case atStart => exact ⟨0, by omega, rfl, rfl, by rw [zeroK_zero H.out.len]; exact H.out, Only.refl _ _ _ _⟩
    case round =>
      obtain ⟨k, hk, rfl, rfl, hr, ho⟩ := hrel
      have HR := Lib.hid hr
      have HO := Lib.hid ho
      have RG := Lib.hid (show ∀ w', Only b o 261 W2 w' → w'.rangeAt w.heap.size 0 (ints ns) from fun w' hh j v hj => (World.cell?_of_block (hh.block _ RCX.out.lt hbq)).trans (RCX.out.range j v hj))
      have rg := RG.out _ HO.out
      clear hr ho
      by_cases hlt : k < 256
      · have hlt' : (k : Int) < 256 := by omega
        have c0 := HR.out.cr k hlt
        have f0 := HR.out.fz (o + 4 + k)
        have E := Lib.hid (show (zeroK rd k).getD k 0 = rd.getD k 0 from by rw [zeroK_get _ _ hlt, if_neg (by omega)])
        have ZS := Lib.hid (zeroK_step rd hlt)
        have PS := Lib.hid (putA_step rd tid ns k)
        dsimp only at c0
        rw [E.out] at c0
        obtain ⟨u, hu⟩ : ∃ u, rd.getD k 0 = u := ⟨_, rfl⟩
        rw [hu] at c0
        have HU := Lib.hid hu
        clear hu
        by_cases hup : 0 < u
        · obtain ⟨y, hy⟩ : ∃ y, rkB k u false false tid ns = y := ⟨_, rfl⟩
          have KY := Lib.hid (show kn18 rd tid ns k = y from by unfold kn18; rw [HU.out]; exact hy)
          have KC := Lib.hid (KN.out k u false false wr.drew)
          rw [hy] at KC
          clear hy
          obtain ⟨s, hs⟩ : ∃ s, putW false rd tid ns k = s := ⟨_, rfl⟩
          have HS := Lib.hid hs
          rw [hs]
          clear hs
          go_wp2_with fail
          refine wp_region_held_drew (S := (fun w' => w'.cell? ⟨b, o + 4 + k, none⟩ = some (.int .i64 u) ∧ w'.rangeAt w.heap.size 0 (ints ns))) (by kernel_rfl) (by (try dsimp only); ((first | assumption | (refine ⟨?_, ?_⟩ <;> assumption)))) (fun hHeld => ?_)
          refine wpAnyH_take (i := 0) (v := ?vdf0) rfl (by kernel_rfl) (by kernel_rfl) (by kernel_rfl) (fun _ _ _ h => h) (Or.inl ⟨by kernel_rfl, ?hydf0⟩) (by assumption) ?restdf0
          case hydf0 => (intro w hSw; (try dsimp only at hSw); go_simp; try with_reducible rfl)
          try simp only [Act.put, List.getElem_toArray, List.getElem_cons_succ, List.getElem_cons_zero, List.setIfInBounds_toArray, List.set_cons_zero, List.set_cons_succ]
          refine wpAnyH_take (i := 1) (v := ?vdf1) rfl (by kernel_rfl) (by kernel_rfl) (by kernel_rfl) (fun _ _ _ h => h) (Or.inl ⟨by kernel_rfl, ?hydf1⟩) (by assumption) ?restdf1
          case hydf1 => (intro w hSw; (try dsimp only at hSw); go_simp; try with_reducible rfl)
          try simp only [Act.put, List.getElem_toArray, List.getElem_cons_succ, List.getElem_cons_zero, List.setIfInBounds_toArray, List.set_cons_zero, List.set_cons_succ]
          refine wpAnyH_take (i := 2) (v := ?vdf2) rfl (by kernel_rfl) (by kernel_rfl) (by kernel_rfl) (fun _ _ _ h => h) (Or.inl ⟨by kernel_rfl, ?hydf2⟩) (by assumption) ?restdf2
          case hydf2 => (intro w hSw; (try dsimp only at hSw); go_simp; try with_reducible rfl)
          try simp only [Act.put, List.getElem_toArray, List.getElem_cons_succ, List.getElem_cons_zero, List.setIfInBounds_toArray, List.set_cons_zero, List.set_cons_succ]
          refine wpAnyH_take (i := 3) (v := ?vdf3) rfl (by kernel_rfl) (by kernel_rfl) (by kernel_rfl) (fun _ _ _ h => h) (Or.inl ⟨by kernel_rfl, ?hydf3⟩) (by assumption) ?restdf3
          case hydf3 => (intro w hSw; (try dsimp only at hSw); go_simp; try with_reducible rfl)
          try simp only [Act.put, List.getElem_toArray, List.getElem_cons_succ, List.getElem_cons_zero, List.setIfInBounds_toArray, List.set_cons_zero, List.set_cons_succ]
          refine wpAnyH_take (i := 4) (v := ?vdf4) rfl (by kernel_rfl) (by kernel_rfl) (by kernel_rfl) (fun _ _ _ h => h) (Or.inl ⟨by kernel_rfl, ?hydf4⟩) (by assumption) ?restdf4
          case hydf4 => (intro w hSw; (try dsimp only at hSw); go_simp; try with_reducible rfl)
          try simp only [Act.put, List.getElem_toArray, List.getElem_cons_succ, List.getElem_cons_zero, List.setIfInBounds_toArray, List.set_cons_zero, List.set_cons_succ]
          refine wpAnyH_take (i := 5) (v := ?vdf5) rfl (by kernel_rfl) (by kernel_rfl) (by kernel_rfl) (fun _ _ _ h => h) (Or.inl ⟨by kernel_rfl, ?hydf5⟩) (by assumption) ?restdf5
          case hydf5 => (intro w hSw; (try dsimp only at hSw); go_simp; try with_reducible rfl)
          try simp only [Act.put, List.getElem_toArray, List.getElem_cons_succ, List.getElem_cons_zero, List.setIfInBounds_toArray, List.set_cons_zero, List.set_cons_succ]
          refine wpAnyH_take (i := 6) (v := ?vdf6) rfl (by kernel_rfl) (by kernel_rfl) (by kernel_rfl) (fun _ _ _ h => h) (Or.inl ⟨by kernel_rfl, ?hydf6⟩) (by assumption) ?restdf6
          case hydf6 => (intro w hSw; (try dsimp only at hSw); go_simp; try with_reducible rfl)
          try simp only [Act.put, List.getElem_toArray, List.getElem_cons_succ, List.getElem_cons_zero, List.setIfInBounds_toArray, List.set_cons_zero, List.set_cons_succ]
          refine wpAnyH_take (i := 7) (v := ?vdf7) rfl (by kernel_rfl) (by kernel_rfl) (by kernel_rfl) (fun _ _ _ h => h) (Or.inl ⟨by kernel_rfl, ?hydf7⟩) (by assumption) ?restdf7
          case hydf7 => (intro w hSw; (try dsimp only at hSw); go_simp; try with_reducible rfl)
          try simp only [Act.put, List.getElem_toArray, List.getElem_cons_succ, List.getElem_cons_zero, List.setIfInBounds_toArray, List.set_cons_zero, List.set_cons_succ]
          refine wpAnyH_take (i := 8) (v := ?vdf8) rfl (by kernel_rfl) (by kernel_rfl) (by kernel_rfl) (fun _ _ _ h => h) (Or.inl ⟨by kernel_rfl, ?hydf8⟩) (by assumption) ?restdf8
          case hydf8 => (intro w hSw; (try dsimp only at hSw); go_simp; try with_reducible rfl)
          try simp only [Act.put, List.getElem_toArray, List.getElem_cons_succ, List.getElem_cons_zero, List.setIfInBounds_toArray, List.set_cons_zero, List.set_cons_succ]
          refine wpAnyH_take (i := 9) (v := ?vdf9) rfl (by kernel_rfl) (by kernel_rfl) (by kernel_rfl) (fun _ _ _ h => h) (Or.inl ⟨by kernel_rfl, ?hydf9⟩) (by assumption) ?restdf9
          case hydf9 => (intro w hSw; (try dsimp only at hSw); go_simp; try with_reducible rfl)
          try simp only [Act.put, List.getElem_toArray, List.getElem_cons_succ, List.getElem_cons_zero, List.setIfInBounds_toArray, List.set_cons_zero, List.set_cons_succ]
          refine wpAnyH_take (i := 10) (v := ?vdf10) rfl (by kernel_rfl) (by kernel_rfl) (by kernel_rfl) (fun _ _ _ h => h) (Or.inl ⟨by kernel_rfl, ?hydf10⟩) (by assumption) ?restdf10
          case hydf10 => (intro w hSw; (try dsimp only at hSw); go_simp; try with_reducible rfl)
          try simp only [Act.put, List.getElem_toArray, List.getElem_cons_succ, List.getElem_cons_zero, List.setIfInBounds_toArray, List.set_cons_zero, List.set_cons_succ]
          refine wpAnyH_take (i := 11) (v := ?vdf11) rfl (by kernel_rfl) (by kernel_rfl) (by kernel_rfl) (fun _ _ _ h => h) (Or.inl ⟨by kernel_rfl, ?hydf11⟩) (by assumption) ?restdf11
          case hydf11 => (intro w hSw; (try dsimp only at hSw); go_simp; try with_reducible rfl)
          try simp only [Act.put, List.getElem_toArray, List.getElem_cons_succ, List.getElem_cons_zero, List.setIfInBounds_toArray, List.set_cons_zero, List.set_cons_succ]
          refine wpAnyH_take (i := 12) (v := ?vdf12) rfl (by kernel_rfl) (by kernel_rfl) (by kernel_rfl) (fun _ _ _ h => h) (Or.inl ⟨by kernel_rfl, ?hydf12⟩) (by assumption) ?restdf12
          case hydf12 => (intro w hSw; (try dsimp only at hSw); go_simp; try with_reducible rfl)
          try simp only [Act.put, List.getElem_toArray, List.getElem_cons_succ, List.getElem_cons_zero, List.setIfInBounds_toArray, List.set_cons_zero, List.set_cons_succ]
          refine wpAnyH_take (i := 13) (v := ?vdf13) rfl (by kernel_rfl) (by kernel_rfl) (by kernel_rfl) (fun _ _ _ h => h) (Or.inl ⟨by kernel_rfl, ?hydf13⟩) (by assumption) ?restdf13
          case hydf13 => (intro w hSw; (try dsimp only at hSw); go_simp; try with_reducible rfl)
          try simp only [Act.put, List.getElem_toArray, List.getElem_cons_succ, List.getElem_cons_zero, List.setIfInBounds_toArray, List.set_cons_zero, List.set_cons_succ]
          refine wpAnyH_take (i := 14) (v := ?vdf14) rfl (by kernel_rfl) (by kernel_rfl) (by kernel_rfl) (fun _ _ _ h => h) (Or.inl ⟨by kernel_rfl, ?hydf14⟩) (by assumption) ?restdf14
          case hydf14 => (intro w hSw; (try dsimp only at hSw); go_simp; try with_reducible rfl)
          try simp only [Act.put, List.getElem_toArray, List.getElem_cons_succ, List.getElem_cons_zero, List.setIfInBounds_toArray, List.set_cons_zero, List.set_cons_succ]
          refine wpAnyH_take (i := 15) (v := ?vdf15) rfl (by kernel_rfl) (by kernel_rfl) (by kernel_rfl) (fun _ _ _ h => h) (Or.inl ⟨by kernel_rfl, ?hydf15⟩) (by assumption) ?restdf15
          case hydf15 => (intro w hSw; (try dsimp only at hSw); go_simp; try with_reducible rfl)
          try simp only [Act.put, List.getElem_toArray, List.getElem_cons_succ, List.getElem_cons_zero, List.setIfInBounds_toArray, List.set_cons_zero, List.set_cons_succ]
          refine wpAnyH_take (i := 16) (v := ?vdf16) rfl (by kernel_rfl) (by kernel_rfl) (by kernel_rfl) (fun _ _ _ h => h) (Or.inl ⟨by kernel_rfl, ?hydf16⟩) (by assumption) ?restdf16
          case hydf16 => (intro w hSw; (try dsimp only at hSw); go_simp; try with_reducible rfl)
          try simp only [Act.put, List.getElem_toArray, List.getElem_cons_succ, List.getElem_cons_zero, List.setIfInBounds_toArray, List.set_cons_zero, List.set_cons_succ]
          refine wpAnyH_take (i := 17) (v := ?vdf17) rfl (by kernel_rfl) (by kernel_rfl) (by kernel_rfl) (fun _ _ _ h => h) (Or.inl ⟨by kernel_rfl, ?hydf17⟩) (by assumption) ?restdf17
          case hydf17 => (intro w hSw; (try dsimp only at hSw); (try simp only [List.getElem_toArray, List.getElem_cons_succ, List.getElem_cons_zero]); go_simp; try with_reducible rfl)
          try simp only [Act.put, List.getElem_toArray, List.getElem_cons_succ, List.getElem_cons_zero, List.setIfInBounds_toArray, List.set_cons_zero, List.set_cons_succ]
          refine wpAnyH_ready (rs := [18]) (by kernel_rfl) (by simp) ?_
          refine AllReadyH.cons rfl (fun K hK => ?_) AllReadyH.nil
          go_simp
          go_at_call 58; (with_reducible refine KC.out.mono ?_); rintro r w9 ⟨rfl, hb9'⟩; have hb9 := below_drew hb9'; have RG9 := RG.out w9 (HO.out.trans (Only.of_below hb9)); have cc9 := (HR.out.below hb9).cr k hlt; dsimp only at cc9; rw [E.out, HU.out] at cc9; clear hb9'
          refine hK.out _ _ (by (try dsimp only); ((first | assumption | (refine ⟨?_, ?_⟩ <;> assumption)))) (fun hHeld => ?_)
          clear hK K
          try simp only [Act.put, List.getElem_toArray, List.getElem_cons_succ, List.getElem_cons_zero, List.setIfInBounds_toArray, List.set_cons_zero, List.set_cons_succ]
          refine wpAnyH_take (i := 19) (v := ?vdf19) rfl (by kernel_rfl) (by kernel_rfl) (by kernel_rfl) (fun _ _ _ h => h) (Or.inl ⟨by kernel_rfl, ?hydf19⟩) (by assumption) ?restdf19
          case hydf19 => (intro w hSw; (try dsimp only at hSw); go_simp; try with_reducible rfl)
          try simp only [Act.put, List.getElem_toArray, List.getElem_cons_succ, List.getElem_cons_zero, List.setIfInBounds_toArray, List.set_cons_zero, List.set_cons_succ]
          refine wpAnyH_take (i := 20) (v := ?vdf20) rfl (by kernel_rfl) (by kernel_rfl) (by kernel_rfl) (fun _ _ _ h => h) (Or.inl ⟨by kernel_rfl, ?hydf20⟩) (by assumption) ?restdf20
          case hydf20 => (intro w hSw; (try dsimp only at hSw); go_simp; try with_reducible rfl)
          try simp only [Act.put, List.getElem_toArray, List.getElem_cons_succ, List.getElem_cons_zero, List.setIfInBounds_toArray, List.set_cons_zero, List.set_cons_succ]
          refine wpAnyH_done (by kernel_rfl) ?_ _
          have O9 := Lib.hid (HO.out.trans (show Only b o 261 wr w9 from Only.of_below hb9))
          have R9 := Lib.hid (HR.out.below hb9)
          have f9 := R9.out.fz (o + 4 + k)
          have c9 := R9.out.cr k hlt
          clear hb9
          cases y with
          | true =>
            have PW := Lib.hid (show putW false rd tid ns (k + 1) = s from by unfold putW at HS ⊢; rw [PS.out, KY.out]; simpa using HS.out)
            go_wp2_with fail
            go_roundw
            case rel => exact ⟨k + 1, by omega, by go_num, by rw [PW.out], by rw [← ZS.out]; exact R9.out.set_rd k hlt 0, O9.out.trans (by rw [Nat.add_assoc]; exact Only.of_set _ (by omega))⟩
            case measure => simp [intOf] <;> omega
          | false =>
            have PW := Lib.hid (show putW false rd tid ns (k + 1) = 2 from by unfold putW; rw [PS.out, KY.out, HU.out, decide_eq_true hup]; simp)
            go_wp2_with fail
            go_roundw
            case rel => exact ⟨k + 1, by omega, by go_num, by rw [PW.out], by rw [← ZS.out]; exact R9.out.set_rd k hlt 0, O9.out.trans (by rw [Nat.add_assoc]; exact Only.of_set _ (by omega))⟩
            case measure => simp [intOf] <;> omega
        · have hup' : decide (0 < u) = false := decide_eq_false hup
          obtain ⟨s, hs⟩ : ∃ s, putW false rd tid ns k = s := ⟨_, rfl⟩
          have HS := Lib.hid hs
          rw [hs]
          clear hs
          have PW := Lib.hid (show putW false rd tid ns (k + 1) = s from by unfold putW at HS ⊢; rw [PS.out, HU.out, hup']; simpa using HS.out)
          go_wp2_with fail
          refine wp_region_held_drew (S := (fun w' => w'.cell? ⟨b, o + 4 + k, none⟩ = some (.int .i64 u))) (by kernel_rfl) (by (try dsimp only); assumption) (fun hHeld => ?_)
          refine wpAnyH_take (i := 0) (v := ?vef0) rfl (by kernel_rfl) (by kernel_rfl) (by kernel_rfl) (fun _ _ _ h => h) (Or.inl ⟨by kernel_rfl, ?hyef0⟩) (by assumption) ?restef0
          case hyef0 => (intro w hSw; (try dsimp only at hSw); go_simp; try with_reducible rfl)
          try simp only [Act.put, List.getElem_toArray, List.getElem_cons_succ, List.getElem_cons_zero, List.setIfInBounds_toArray, List.set_cons_zero, List.set_cons_succ]
          refine wpAnyH_take (i := 1) (v := ?vef1) rfl (by kernel_rfl) (by kernel_rfl) (by kernel_rfl) (fun _ _ _ h => h) (Or.inl ⟨by kernel_rfl, ?hyef1⟩) (by assumption) ?restef1
          case hyef1 => (intro w hSw; (try dsimp only at hSw); go_simp; try with_reducible rfl)
          try simp only [Act.put, List.getElem_toArray, List.getElem_cons_succ, List.getElem_cons_zero, List.setIfInBounds_toArray, List.set_cons_zero, List.set_cons_succ]
          refine wpAnyH_take (i := 2) (v := ?vef2) rfl (by kernel_rfl) (by kernel_rfl) (by kernel_rfl) (fun _ _ _ h => h) (Or.inl ⟨by kernel_rfl, ?hyef2⟩) (by assumption) ?restef2
          case hyef2 => (intro w hSw; (try dsimp only at hSw); go_simp; try with_reducible rfl)
          try simp only [Act.put, List.getElem_toArray, List.getElem_cons_succ, List.getElem_cons_zero, List.setIfInBounds_toArray, List.set_cons_zero, List.set_cons_succ]
          refine wpAnyH_take (i := 3) (v := ?vef3) rfl (by kernel_rfl) (by kernel_rfl) (by kernel_rfl) (fun _ _ _ h => h) (Or.inl ⟨by kernel_rfl, ?hyef3⟩) (by assumption) ?restef3
          case hyef3 => (intro w hSw; (try dsimp only at hSw); go_simp; try with_reducible rfl)
          try simp only [Act.put, List.getElem_toArray, List.getElem_cons_succ, List.getElem_cons_zero, List.setIfInBounds_toArray, List.set_cons_zero, List.set_cons_succ]
          refine wpAnyH_take (i := 4) (v := ?vef4) rfl (by kernel_rfl) (by kernel_rfl) (by kernel_rfl) (fun _ _ _ h => h) (Or.inl ⟨by kernel_rfl, ?hyef4⟩) (by assumption) ?restef4
          case hyef4 => (intro w hSw; (try dsimp only at hSw); go_simp; try with_reducible rfl)
          try simp only [Act.put, List.getElem_toArray, List.getElem_cons_succ, List.getElem_cons_zero, List.setIfInBounds_toArray, List.set_cons_zero, List.set_cons_succ]
          refine wpAnyH_take (i := 5) (v := ?vef5) rfl (by kernel_rfl) (by kernel_rfl) (by kernel_rfl) (fun _ _ _ h => h) (Or.inl ⟨by kernel_rfl, ?hyef5⟩) (by assumption) ?restef5
          case hyef5 => (intro w hSw; (try dsimp only at hSw); go_simp; try with_reducible rfl)
          try simp only [Act.put, List.getElem_toArray, List.getElem_cons_succ, List.getElem_cons_zero, List.setIfInBounds_toArray, List.set_cons_zero, List.set_cons_succ]
          refine wpAnyH_take (i := 6) (v := ?vef6) rfl (by kernel_rfl) (by kernel_rfl) (by kernel_rfl) (fun _ _ _ h => h) (Or.inl ⟨by kernel_rfl, ?hyef6⟩) (by assumption) ?restef6
          case hyef6 => (intro w hSw; (try dsimp only at hSw); go_simp; try with_reducible rfl)
          try simp only [Act.put, List.getElem_toArray, List.getElem_cons_succ, List.getElem_cons_zero, List.setIfInBounds_toArray, List.set_cons_zero, List.set_cons_succ]
          refine wpAnyH_take (i := 7) (v := ?vef7) rfl (by kernel_rfl) (by kernel_rfl) (by kernel_rfl) (fun _ _ _ h => h) (Or.inl ⟨by kernel_rfl, ?hyef7⟩) (by assumption) ?restef7
          case hyef7 => (intro w hSw; (try dsimp only at hSw); go_simp; try with_reducible rfl)
          try simp only [Act.put, List.getElem_toArray, List.getElem_cons_succ, List.getElem_cons_zero, List.setIfInBounds_toArray, List.set_cons_zero, List.set_cons_succ]
          refine wpAnyH_take (i := 8) (v := undef) rfl (by kernel_rfl) (by kernel_rfl) (by kernel_rfl) (fun _ _ _ h => h) (Or.inr ⟨by kernel_rfl, rfl⟩) (by assumption) ?_
          try simp only [Act.put, List.getElem_toArray, List.getElem_cons_succ, List.getElem_cons_zero, List.setIfInBounds_toArray, List.set_cons_zero, List.set_cons_succ]
          refine wpAnyH_take (i := 9) (v := undef) rfl (by kernel_rfl) (by kernel_rfl) (by kernel_rfl) (fun _ _ _ h => h) (Or.inr ⟨by kernel_rfl, rfl⟩) (by assumption) ?_
          try simp only [Act.put, List.getElem_toArray, List.getElem_cons_succ, List.getElem_cons_zero, List.setIfInBounds_toArray, List.set_cons_zero, List.set_cons_succ]
          refine wpAnyH_take (i := 10) (v := undef) rfl (by kernel_rfl) (by kernel_rfl) (by kernel_rfl) (fun _ _ _ h => h) (Or.inr ⟨by kernel_rfl, rfl⟩) (by assumption) ?_
          try simp only [Act.put, List.getElem_toArray, List.getElem_cons_succ, List.getElem_cons_zero, List.setIfInBounds_toArray, List.set_cons_zero, List.set_cons_succ]
          refine wpAnyH_take (i := 11) (v := undef) rfl (by kernel_rfl) (by kernel_rfl) (by kernel_rfl) (fun _ _ _ h => h) (Or.inr ⟨by kernel_rfl, rfl⟩) (by assumption) ?_
          try simp only [Act.put, List.getElem_toArray, List.getElem_cons_succ, List.getElem_cons_zero, List.setIfInBounds_toArray, List.set_cons_zero, List.set_cons_succ]
          refine wpAnyH_take (i := 12) (v := undef) rfl (by kernel_rfl) (by kernel_rfl) (by kernel_rfl) (fun _ _ _ h => h) (Or.inr ⟨by kernel_rfl, rfl⟩) (by assumption) ?_
          try simp only [Act.put, List.getElem_toArray, List.getElem_cons_succ, List.getElem_cons_zero, List.setIfInBounds_toArray, List.set_cons_zero, List.set_cons_succ]
          refine wpAnyH_take (i := 13) (v := undef) rfl (by kernel_rfl) (by kernel_rfl) (by kernel_rfl) (fun _ _ _ h => h) (Or.inr ⟨by kernel_rfl, rfl⟩) (by assumption) ?_
          try simp only [Act.put, List.getElem_toArray, List.getElem_cons_succ, List.getElem_cons_zero, List.setIfInBounds_toArray, List.set_cons_zero, List.set_cons_succ]
          refine wpAnyH_take (i := 14) (v := undef) rfl (by kernel_rfl) (by kernel_rfl) (by kernel_rfl) (fun _ _ _ h => h) (Or.inr ⟨by kernel_rfl, rfl⟩) (by assumption) ?_
          try simp only [Act.put, List.getElem_toArray, List.getElem_cons_succ, List.getElem_cons_zero, List.setIfInBounds_toArray, List.set_cons_zero, List.set_cons_succ]
          refine wpAnyH_take (i := 15) (v := undef) rfl (by kernel_rfl) (by kernel_rfl) (by kernel_rfl) (fun _ _ _ h => h) (Or.inr ⟨by kernel_rfl, rfl⟩) (by assumption) ?_
          try simp only [Act.put, List.getElem_toArray, List.getElem_cons_succ, List.getElem_cons_zero, List.setIfInBounds_toArray, List.set_cons_zero, List.set_cons_succ]
          refine wpAnyH_take (i := 16) (v := undef) rfl (by kernel_rfl) (by kernel_rfl) (by kernel_rfl) (fun _ _ _ h => h) (Or.inr ⟨by kernel_rfl, rfl⟩) (by assumption) ?_
          try simp only [Act.put, List.getElem_toArray, List.getElem_cons_succ, List.getElem_cons_zero, List.setIfInBounds_toArray, List.set_cons_zero, List.set_cons_succ]
          refine wpAnyH_take (i := 17) (v := undef) rfl (by kernel_rfl) (by kernel_rfl) (by kernel_rfl) (fun _ _ _ h => h) (Or.inr ⟨by kernel_rfl, rfl⟩) (by assumption) ?_
          try simp only [Act.put, List.getElem_toArray, List.getElem_cons_succ, List.getElem_cons_zero, List.setIfInBounds_toArray, List.set_cons_zero, List.set_cons_succ]
          refine wpAnyH_take (i := 18) (v := undef) rfl (by kernel_rfl) (by kernel_rfl) (by kernel_rfl) (fun _ _ _ h => h) (Or.inr ⟨by kernel_rfl, rfl⟩) (by assumption) ?_
          try simp only [Act.put, List.getElem_toArray, List.getElem_cons_succ, List.getElem_cons_zero, List.setIfInBounds_toArray, List.set_cons_zero, List.set_cons_succ]
          refine wpAnyH_take (i := 19) (v := undef) rfl (by kernel_rfl) (by kernel_rfl) (by kernel_rfl) (fun _ _ _ h => h) (Or.inr ⟨by kernel_rfl, rfl⟩) (by assumption) ?_
          try simp only [Act.put, List.getElem_toArray, List.getElem_cons_succ, List.getElem_cons_zero, List.setIfInBounds_toArray, List.set_cons_zero, List.set_cons_succ]
          refine wpAnyH_take (i := 20) (v := ?vef20) rfl (by kernel_rfl) (by kernel_rfl) (by kernel_rfl) (fun _ _ _ h => h) (Or.inl ⟨by kernel_rfl, ?hyef20⟩) (by assumption) ?restef20
          case hyef20 => (intro w hSw; (try dsimp only at hSw); go_simp; try with_reducible rfl)
          try simp only [Act.put, List.getElem_toArray, List.getElem_cons_succ, List.getElem_cons_zero, List.setIfInBounds_toArray, List.set_cons_zero, List.set_cons_succ]
          refine wpAnyH_done (by kernel_rfl) ?_ _
          go_wp2_with fail
          go_roundw
          case rel => exact ⟨k + 1, by omega, by go_num, by rw [PW.out], by rw [← ZS.out]; exact (HR.out.drew).set_rd k hlt 0, HO.out.drew.trans (by rw [Nat.add_assoc]; exact Only.of_set _ (by omega))⟩
          case measure => simp [intOf] <;> omega
      · have hk2 : k = 256 := by omega
        have HK := Lib.hid hk2
        have hge : (256 : Int) ≤ k := by omega
        have RS := Lib.hid (show R18 wr b o ⟨mt, mn, mno, mta, zeroR, false⟩ from by
          have := HR.out
          rw [HK.out, zeroK_all] at this
          exact this)
        have g0 := RS.out.c0
        have g1 := RS.out.c1
        have g2 := RS.out.c2
        have g3 := RS.out.c3
        dsimp only at g0 g1 g2 g3
        obtain ⟨s, hs⟩ : ∃ s, putW false rd tid ns k = s := ⟨_, rfl⟩
        rw [hs]
        have HS := Lib.hid (show putW false rd tid ns 256 = s from by rw [← HK.out]; exact hs)
        clear hlt hk2 hk hs
        obtain ⟨y, hy⟩ : ∃ y, rkB mt mn mno mta tid ns = y := ⟨_, rfl⟩
        have KC := Lib.hid (KN.out mt mn mno mta wr.drew)
        rw [hy] at KC
        have HY := Lib.hid hy
        clear hy
        go_wp2_with fail
        refine wp_region_held_drew (S := (fun w' => w'.cell? ⟨b, o, none⟩ = some (.int .i64 mt) ∧ w'.cell? ⟨b, o + 1, none⟩ = some (.int .i64 mn) ∧ w'.cell? ⟨b, o + 2, none⟩ = some (.bool mno) ∧ w'.cell? ⟨b, o + 3, none⟩ = some (.bool mta) ∧ w'.rangeAt w.heap.size 0 (ints ns))) (by kernel_rfl) (by (try dsimp only); (refine ⟨?_, ?_, ?_, ?_, ?_⟩ <;> assumption)) (fun hHeld => ?_)
        refine wpAnyH_take (i := 0) (v := ?vff0) rfl (by kernel_rfl) (by kernel_rfl) (by kernel_rfl) (fun _ _ _ h => h) (Or.inl ⟨by kernel_rfl, ?hyff0⟩) (by assumption) ?restff0
        case hyff0 => (intro w hSw; (try dsimp only at hSw); go_simp; try with_reducible rfl)
        try simp only [Act.put, List.getElem_toArray, List.getElem_cons_succ, List.getElem_cons_zero, List.setIfInBounds_toArray, List.set_cons_zero, List.set_cons_succ]
        refine wpAnyH_take (i := 1) (v := ?vff1) rfl (by kernel_rfl) (by kernel_rfl) (by kernel_rfl) (fun _ _ _ h => h) (Or.inl ⟨by kernel_rfl, ?hyff1⟩) (by assumption) ?restff1
        case hyff1 => (intro w hSw; (try dsimp only at hSw); go_simp; try with_reducible rfl)
        try simp only [Act.put, List.getElem_toArray, List.getElem_cons_succ, List.getElem_cons_zero, List.setIfInBounds_toArray, List.set_cons_zero, List.set_cons_succ]
        refine wpAnyH_take (i := 2) (v := ?vff2) rfl (by kernel_rfl) (by kernel_rfl) (by kernel_rfl) (fun _ _ _ h => h) (Or.inl ⟨by kernel_rfl, ?hyff2⟩) (by assumption) ?restff2
        case hyff2 => (intro w hSw; (try dsimp only at hSw); go_simp; try with_reducible rfl)
        try simp only [Act.put, List.getElem_toArray, List.getElem_cons_succ, List.getElem_cons_zero, List.setIfInBounds_toArray, List.set_cons_zero, List.set_cons_succ]
        refine wpAnyH_take (i := 3) (v := ?vff3) rfl (by kernel_rfl) (by kernel_rfl) (by kernel_rfl) (fun _ _ _ h => h) (Or.inl ⟨by kernel_rfl, ?hyff3⟩) (by assumption) ?restff3
        case hyff3 => (intro w hSw; (try dsimp only at hSw); go_simp; try with_reducible rfl)
        try simp only [Act.put, List.getElem_toArray, List.getElem_cons_succ, List.getElem_cons_zero, List.setIfInBounds_toArray, List.set_cons_zero, List.set_cons_succ]
        refine wpAnyH_take (i := 4) (v := ?vff4) rfl (by kernel_rfl) (by kernel_rfl) (by kernel_rfl) (fun _ _ _ h => h) (Or.inl ⟨by kernel_rfl, ?hyff4⟩) (by assumption) ?restff4
        case hyff4 => (intro w hSw; (try dsimp only at hSw); go_simp; try with_reducible rfl)
        try simp only [Act.put, List.getElem_toArray, List.getElem_cons_succ, List.getElem_cons_zero, List.setIfInBounds_toArray, List.set_cons_zero, List.set_cons_succ]
        refine wpAnyH_take (i := 5) (v := ?vff5) rfl (by kernel_rfl) (by kernel_rfl) (by kernel_rfl) (fun _ _ _ h => h) (Or.inl ⟨by kernel_rfl, ?hyff5⟩) (by assumption) ?restff5
        case hyff5 => (intro w hSw; (try dsimp only at hSw); (try simp only [List.getElem_toArray, List.getElem_cons_succ, List.getElem_cons_zero]); go_simp; try with_reducible rfl)
        try simp only [Act.put, List.getElem_toArray, List.getElem_cons_succ, List.getElem_cons_zero, List.setIfInBounds_toArray, List.set_cons_zero, List.set_cons_succ]
        refine wpAnyH_ready (rs := [6]) (by kernel_rfl) (by simp) ?_
        refine AllReadyH.cons rfl (fun K hK => ?_) AllReadyH.nil
        go_simp
        go_at_call 58; (with_reducible refine KC.out.mono ?_); rintro r w9 ⟨rfl, hb9'⟩; have hb9 := below_drew hb9'; have RG9 := RG.out w9 (HO.out.trans (Only.of_below hb9)); have q0 := (RS.out.below hb9).c0; have q1 := (RS.out.below hb9).c1; have q2 := (RS.out.below hb9).c2; have q3 := (RS.out.below hb9).c3; dsimp only at q0 q1 q2 q3; clear hb9'
        refine hK.out _ _ (by (try dsimp only); (refine ⟨?_, ?_, ?_, ?_, ?_⟩ <;> assumption)) (fun hHeld => ?_)
        clear hK K
        try simp only [Act.put, List.getElem_toArray, List.getElem_cons_succ, List.getElem_cons_zero, List.setIfInBounds_toArray, List.set_cons_zero, List.set_cons_succ]
        refine wpAnyH_take (i := 7) (v := ?vff7) rfl (by kernel_rfl) (by kernel_rfl) (by kernel_rfl) (fun _ _ _ h => h) (Or.inl ⟨by kernel_rfl, ?hyff7⟩) (by assumption) ?restff7
        case hyff7 => (intro w hSw; (try dsimp only at hSw); go_simp; try with_reducible rfl)
        try simp only [Act.put, List.getElem_toArray, List.getElem_cons_succ, List.getElem_cons_zero, List.setIfInBounds_toArray, List.set_cons_zero, List.set_cons_succ]
        refine wpAnyH_done (by kernel_rfl) ?_ _
        have RF := Lib.hid (RS.out.below hb9)
        have q5 := RF.out.ct
        have ff := RF.out.fz
        have f5 := ff (o + 260)
        have f6 := ff o
        have f7 := ff (o + 1)
        have f8 := ff (o + 2)
        have f9 := ff (o + 3)
        have OF := Lib.hid (((Only.of_below B.out).trans HO.out).trans (show Only b o 261 wr w9 from Only.of_below hb9))
        have T := Lib.hid (show ∀ z, putV ⟨mt, mn, mno, mta, rd, false⟩ tid ns = z → RPutPost b o ⟨mt, mn, mno, mta, rd, false⟩ tid n ns w (.returned (.int .i64 z)) (((((w9.setCell ⟨b, o + 260, none⟩ (.bool false)).setCell ⟨b, o, none⟩ (.int .i64 tid)).setCell ⟨b, o + 1, none⟩ (.int .i64 n)).setCell ⟨b, o + 2, none⟩ (.bool false)).setCell ⟨b, o + 3, none⟩ (.bool false)) from fun z hz =>
          ⟨by rw [hz], (RF.out.set_tl false).set_w tid n false false, (OF.out.trans (Only.of_set (t := 260) _ (by omega))).trans (only_w _ _ _ _)⟩)
        clear hb9 ff
        cases y with
        | true =>
          have V := Lib.hid (T.out s (by unfold putV; dsimp only; rw [HY.out, if_pos rfl]; exact HS.out))
          go_wp2_with fail
          go_ret
          exact V.out
        | false =>
          have V := Lib.hid (T.out 1 (by unfold putV; dsimp only; rw [HY.out]; rfl))
          go_wp2_with fail
          go_ret
          exact V.out
end Go.Proofs.Ytkcnbkdpjlpppaa

