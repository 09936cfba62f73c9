
/-
  RemapOne.
-/
import Derived.Test.YtmhonibalgddcaaRemS
namespace Go.Proofs.Ytmhonibalgddcaa
open Go.RowKit
set_option linter.unusedVariables false
set_option linter.unusedSimpArgs false
set_option maxRecDepth 100000

def cnt (ps : List Rec) (tid at' : Int) : Nat := (ps.filter (fun r => hasB r tid at')).length
theorem cnt_snoc {ps : List Rec} {tid at' : Int} {k : Nat} (hk : k < ps.length) : cnt (ps.take (k + 1)) tid at' = cnt (ps.take k) tid at' + if hasB (ps.getD k default) tid at' then 1 else 0 := by
  unfold cnt
  rw [List.take_add_one, List.filter_append, List.length_append, List.getD_eq_getElem?_getD, List.getElem?_eq_getElem hk]
  congr 1
  simp only [Option.toList_some, Option.getD_some, List.filter_cons, List.filter_nil]
  split <;> simp
theorem cnt_le (ps : List Rec) (tid at' : Int) : cnt ps tid at' ≤ ps.length := List.length_filter_le _ _
theorem cnt_one {ps : List Rec} {tid at' : Int} (h : One ps) (k : Nd ps) : cnt ps tid at' ≤ 1 := by
  unfold cnt
  cases hF : ps.filter (fun r => hasB r tid at') with
  | nil => simp
  | cons x l =>
    cases l with
    | nil => simp
    | cons y l =>
      exfalso
      have hx : x ∈ ps.filter (fun r => hasB r tid at') := by rw [hF]; simp
      have hy : y ∈ ps.filter (fun r => hasB r tid at') := by rw [hF]; simp
      rw [List.mem_filter] at hx hy
      have hn : (ps.filter (fun r => hasB r tid at')).Pairwise (fun a b => a.g ≠ b.g) := List.Pairwise.sublist List.filter_sublist k
      rw [hF] at hn
      have := (List.pairwise_cons.1 hn).1 y (by simp)
      exact this (one_has h hx.1 hy.1 hx.2 hy.2)
theorem cnt_own {ps : List Rec} {tid at' : Int} (h : cnt ps tid at' ≤ 1) : (ownOut ps tid at').2 = decide (cnt ps tid at' = 1) := by
  rw [(own_any ps tid at').1]
  unfold hasAny cnt at *
  cases hF : ps.filter (fun r => hasB r tid at') with
  | nil =>
    rw [List.filter_eq_nil_iff] at hF
    simp only [List.length_nil]
    rw [List.any_eq_false.2 hF]
    rfl
  | cons x l =>
    rw [hF] at h
    have hx : x ∈ ps.filter (fun r => hasB r tid at') := by rw [hF]; simp
    rw [List.mem_filter] at hx
    rw [List.any_eq_true.2 ⟨x, hx.1, hx.2⟩]
    symm
    apply decide_eq_true
    simp at h ⊢
    exact h
theorem own_of {ps : List Rec} {tid at' g : Int} (k : Nd ps) (h : ownOut ps tid at' = (g, true)) : ∃ r, ofOut ps g = (r, true) ∧ r.tid = tid ∧ r.frm ≤ at' := by
  obtain ⟨r, h1, h2, h3⟩ := own_mem h
  refine ⟨r, ofOut_some ((look_iff k).2 ⟨h1, h2⟩), ?_⟩
  unfold hasB at h3
  simp at h3
  exact h3.1

theorem one_step_born {B b : Nat} {v : Value} {ps : List Rec} {g n a : Int} {w w' : World} {e : Ending} (h : BornPost B b v ps g n a w e w') (ho : One ps) : Below B w w' ∧ ∃ v' ps', Tb B w' b v' ps' ∧ Srt ps' ∧ One ps' ∧ ps'.length ≤ ps.length + 1 := by
  obtain ⟨_, h1, v', ps', h2, h3, h4, h5⟩ := h
  refine ⟨h1.1, v', ps', h2, h3, ?_⟩
  by_cases h0 : bornE ps g n a = 0
  · exact ⟨one_born (h4 h0) h0 ho, by rw [(h4 h0).length_eq]; simp⟩
  · rw [h5 h0]; exact ⟨ho, by omega⟩
theorem one_step_gone {B b : Nat} {v : Value} {ps : List Rec} {g n a : Int} {w w' : World} {e : Ending} (h : GonePost B b v ps g a n w e w') (ho : One ps) : Below B w w' ∧ ∃ v' ps', Tb B w' b v' ps' ∧ Srt ps' ∧ One ps' ∧ ps'.length ≤ ps.length + 1 := by
  obtain ⟨_, h1, v', ps', h2, h3, h4, h5⟩ := h
  refine ⟨h1.1, v', ps', h2, h3, ?_⟩
  by_cases h0 : goneE ps g a n = 0
  · have h6 := h4 h0
    refine ⟨one_gone h0 h6 ho, ?_⟩
    obtain ⟨r, x, y, _, rfl, rfl⟩ := h6
    simp
  · rw [h5 h0]; exact ⟨ho, by omega⟩

set_option maxHeartbeats 4000000 in
theorem one_law (v : Value) (es : List Stp) (tid at' : Int) (w : World) (h : StpsOf w v es) :
    Calls Try.prog 4 #[v, .int .i64 tid, .int .i64 at'] w fun e w' => e = .returned (.bool true) ∧ Below w.heap.size w w' := by
  obtain ⟨ao, cap, rfl, hc⟩ := h
  obtain ⟨n, hn⟩ : ∃ n, es.length = n := ⟨_, rfl⟩
  have HC := Lib.hid hc
  have HN := Lib.hid hn
  rw [hn]
  clear hc hn
  go_enter Try.func4, Try.ntmps4
  go_wp2_with fail
  refine (new_any w.heap.size w (Nat.le_refl _)).mono ?_
  rintro e w1 ⟨⟨b, v1, rfl, ht, hb⟩, hB1⟩
  have Q1 := Lib.hid ht
  have B1 := Lib.hid hB1
  clear ht hB1 hb
  by_cases hl : 200 < n
  · have hl' : (200 : Int) < (n : Int) := by omega
    go_wp2_with fail
    refine (turns_any w1).mono ?_
    rintro e w2 ⟨rfl, hb2⟩
    have B2 := Lib.hid (below_trans B1.out hb2 B1.out.size)
    clear hb2
    go_wp2_with fail
    go_ret
    exact ⟨rfl, B2.out⟩
  · have hl' : ¬ ((200 : Int) < (n : Int)) := by omega
    go_wp2_with fail
    go_loopw [8, 33] (fun m i wr => ∃ (k : Nat) (now : Int), k ≤ n ∧ m = .int .i64 now ∧ i = .int .i64 k ∧ (∃ v ps, Tb w.heap.size wr b v ps ∧ Srt ps ∧ One ps ∧ ps.length ≤ k + 1) ∧ Below w.heap.size w wr) (fun _ i _ => n - (intOf i).toNat)
    case atStart => exact ⟨0, -1, by omega, rfl, rfl, ⟨_, _, Q1.out, srt_one _, by intro r s hr hs hg; simp at hr hs; subst hr hs; exact absurd rfl hg, by simp⟩, B1.out⟩
    case round =>
      obtain ⟨k, now, hk, rfl, rfl, ⟨v, ps, ht, hs, ho, hlen⟩, hb⟩ := hrel
      have TB := Lib.hid ht
      have HS := Lib.hid hs
      have HO := Lib.hid ho
      have HB := Lib.hid hb
      have LEN := Lib.hid hlen
      clear ht hs ho hlen hb Q1 B1
      by_cases hlt : k < n
      · have hlt' : (k : Int) < (n : Int) := by omega
        obtain ⟨b', o, rfl, hcc⟩ := HC.out (by have := HN.out; omega)
        obtain ⟨c0, c1, c2, c3⟩ := (hcc k (by have := HN.out; omega)).below (Nat.le_refl _) HB.out
        obtain ⟨s, hs⟩ : ∃ s, es.getD k default = s := ⟨_, rfl⟩
        rw [hs] at c0 c1 c2 c3
        obtain ⟨wh, sg, sn, sa⟩ := s
        simp only at c0 c1 c2 c3
        have BX := Lib.hid (show ∀ X, Below wr.heap.size wr (wr.alloc X) from fun X => (Below.refl _ _).alloc (Nat.le_refl _) _)
        clear hcc hs
        by_cases hn1 : sa < now
        · go_wp2_with fail
          go_roundw
          case rel => exact ⟨k + 1, now, by omega, rfl, by go_num, ⟨_, _, TB.out.below (BX.out _), HS.out, HO.out, by have := LEN.out; omega⟩, below_trans HB.out (BX.out _) HB.out.size⟩
          case measure => simp [intOf] <;> omega
        · by_cases hw : wh < 2
          · go_wp2_with fail
            refine (born_any w.heap.size b v ps sg sn sa _ (TB.out.below (BX.out _)) (Nat.le_trans HB.out.size (BX.out _).size) HS.out (by have := LEN.out; omega)).mono ?_
            rintro e w2 hp
            obtain ⟨rfl, _⟩ := id hp
            obtain ⟨h1, v', ps', h2, h3, h4, h5⟩ := one_step_born hp HO.out
            have T := Lib.hid (show (∃ v ps, Tb w.heap.size w2 b v ps ∧ Srt ps ∧ One ps ∧ ps.length ≤ k + 1 + 1) ∧ Below w.heap.size w w2 from ⟨⟨v', ps', h2, h3, h4, by have := LEN.out; omega⟩, (below_trans HB.out (BX.out _) HB.out.size).trans h1⟩)
            clear hp h1 h2 h3 h4 h5
            go_wp2_with fail
            go_roundw
            case rel => exact ⟨k + 1, sa, by omega, rfl, by go_num, T.out.1, T.out.2⟩
            case measure => simp [intOf] <;> omega
          · go_wp2_with fail
            refine (gone_any w.heap.size b v ps sg sa sn _ (TB.out.below (BX.out _)) (Nat.le_trans HB.out.size (BX.out _).size) HS.out (by have := LEN.out; omega)).mono ?_
            rintro e w2 hp
            obtain ⟨rfl, _⟩ := id hp
            obtain ⟨h1, v', ps', h2, h3, h4, h5⟩ := one_step_gone hp HO.out
            have T := Lib.hid (show (∃ v ps, Tb w.heap.size w2 b v ps ∧ Srt ps ∧ One ps ∧ ps.length ≤ k + 1 + 1) ∧ Below w.heap.size w w2 from ⟨⟨v', ps', h2, h3, h4, by have := LEN.out; omega⟩, (below_trans HB.out (BX.out _) HB.out.size).trans h1⟩)
            clear hp h1 h2 h3 h4 h5
            go_wp2_with fail
            go_roundw
            case rel => exact ⟨k + 1, sa, by omega, rfl, by go_num, T.out.1, T.out.2⟩
            case measure => simp [intOf] <;> omega
      · have hge : (n : Int) ≤ k := by omega
        have hkn : k = n := by omega
        have HLP : ps.length ≤ 1000 := by have := LEN.out; omega
        clear hlt LEN
        go_wp2_with fail
        refine (all_any w.heap.size b v ps wr TB.out HLP).mono ?_
        rintro e w2 ⟨va, rfl, hr, hb2⟩
        obtain ⟨aa, ca, rfl, hca⟩ := hr
        obtain ⟨N, hN⟩ : ∃ N, ps.length = N := ⟨_, rfl⟩
        rw [hN] at HLP
        have HNP := Lib.hid hN
        have HCA := Lib.hid hca
        have TB2 := Lib.hid (TB.out.below hb2)
        have HB2 := Lib.hid (below_trans HB.out hb2 HB.out.size)
        rw [hN]
        clear hN hca hb2 TB HB
        go_wp2_with fail
        go_loopw [11, 66] (fun m i w' => ∃ (j : Nat), j ≤ N ∧ m = .int .i64 (cnt (ps.take j) tid at' : Nat) ∧ i = .int .i64 j ∧ Below w2.heap.size w2 w') (fun _ i _ => N - (intOf i).toNat)
        case atStart => exact ⟨0, by omega, rfl, rfl, Below.refl _ _⟩
        case round =>
          obtain ⟨j, hj, rfl, rfl, hbj⟩ := hrel
          have HJ := Lib.hid hbj
          clear hbj
          by_cases hjn : j < N
          · have hjn' : (j : Int) < (N : Int) := by omega
            obtain ⟨b2, o2, rfl, hcc⟩ := HCA.out (by have := HNP.out; omega)
            obtain ⟨c0, c1, c2, c3, c4, c5⟩ := (hcc j (by have := HNP.out; omega)).below (Nat.le_refl _) HJ.out
            have SN := Lib.hid (cnt_snoc (ps := ps) (tid := tid) (at' := at') (k := j) (by have := HNP.out; omega))
            obtain ⟨r, hrr⟩ : ∃ r, ps.getD j default = r := ⟨_, rfl⟩
            rw [hrr] at c0 c1 c2 c3 c4 c5 SN
            obtain ⟨cc, hcc2⟩ : ∃ cc, cnt (ps.take j) tid at' = cc := ⟨_, rfl⟩
            have hcl : cc ≤ 1000 := by
              rw [← hcc2]
              have := cnt_le (ps.take j) tid at'
              rw [List.length_take] at this
              omega
            rw [hcc2] at SN ⊢
            clear hcc hrr hcc2
            go_wp2_with fail
            refine (lref_any r _).mono ?_
            rintro e w3 ⟨rfl, hb3⟩
            have K3 := Lib.hid (below_trans (HJ.out.alloc HJ.out.size _) hb3 (by rw [size_alloc]; have := HJ.out.size; omega))
            clear hb3 c0 c1 c2 c3 c4 c5
            go_wp2_with fail
            refine (has_any r tid at' w3).mono ?_
            rintro e w4 ⟨rfl, hb4⟩
            have K4 := Lib.hid (below_trans K3.out hb4 K3.out.size)
            clear hb4
            cases hh : hasB r tid at' with
            | true =>
              rw [hh] at SN
              clear hh
              go_wp2_with fail
              go_roundw
              case rel => exact ⟨j + 1, by omega, by rw [SN.out]; simp, by go_num, K4.out⟩
              case measure => simp [intOf] <;> omega
            | false =>
              rw [hh] at SN
              clear hh
              go_wp2_with fail
              go_roundw
              case rel => exact ⟨j + 1, by omega, by rw [SN.out]; simp, by go_num, K4.out⟩
              case measure => simp [intOf] <;> omega
          · have hge2 : (N : Int) ≤ j := by omega
            have HBj := Lib.hid (below_trans HB2.out HJ.out HB2.out.size)
            have TBj := Lib.hid (TB2.out.below HJ.out)
            have E0 : ps.take j = ps := List.take_of_length_le (by have := HNP.out; omega)
            have CO := Lib.hid (cnt_one (tid := tid) (at' := at') HO.out (nd_of_srt HS.out))
            have CW := Lib.hid (cnt_own CO.out)
            rw [E0]
            obtain ⟨cc, hcc2⟩ : ∃ cc, cnt ps tid at' = cc := ⟨_, rfl⟩
            rw [hcc2] at CO CW ⊢
            clear hcc2 hjn E0
            go_wp2_with fail
            refine (owner_any w.heap.size b v ps tid at' _ TBj.out (by have := HNP.out; omega)).mono ?_
            rintro e w5 ⟨rfl, hb5⟩
            have TB5 := Lib.hid (TBj.out.below hb5)
            have HB5 := Lib.hid (below_trans HBj.out hb5 HBj.out.size)
            obtain ⟨⟨g, ok⟩, hX⟩ : ∃ X, ownOut ps tid at' = X := ⟨_, rfl⟩
            have OWN := Lib.hid hX
            rw [hX] at CW ⊢
            clear hX hb5
            dsimp only at CW ⊢
            go_wp2_with fail
            refine (of_any w.heap.size b v ps g w5 TB5.out HS.out (by have := HNP.out; omega)).mono ?_
            rintro e w6 ⟨rfl, hb6⟩
            have K6 := Lib.hid (show ∀ X, Below w.heap.size w (w6.alloc X) from fun X => (below_trans HB5.out hb6 HB5.out.size).alloc (Nat.le_trans HB5.out.size hb6.size) X)
            obtain ⟨⟨⟨a0, a1, a2, a3, a4, a5⟩, was⟩, hX⟩ : ∃ X, ofOut ps g = X := ⟨_, rfl⟩
            have OF := Lib.hid hX
            rw [hX]
            clear hX hb6
            unfold recV
            dsimp only
            cases ok with
            | true =>
              have e1 : cc = 1 := by simpa using CW.out
              obtain ⟨r, hr, h1, h2⟩ := own_of (nd_of_srt HS.out) OWN.out
              have h3 := OF.out
              rw [hr] at h3
              cases h3
              simp only at h1 h2
              subst e1 h1
              clear hr
              go_wp2_with fail
              refine (turns_any _).mono ?_
              rintro e w7 ⟨rfl, hb7⟩
              have K7 := Lib.hid (below_trans (K6.out _) hb7 (K6.out _).size)
              clear hb7
              go_wp2_with fail
              go_ret
              exact ⟨rfl, K7.out⟩
            | false =>
              have e1 : cc = 0 := by
                have h1 := CO.out
                have h2 : ¬ (cc = 1) := by simpa using CW.out
                omega
              subst e1
              go_wp2_with fail
              refine (turns_any _).mono ?_
              rintro e w7 ⟨rfl, hb7⟩
              have K7 := Lib.hid (below_trans (K6.out _) hb7 (K6.out _).size)
              clear hb7
              go_wp2_with fail
              go_ret
              exact ⟨rfl, K7.out⟩
end Go.Proofs.Ytmhonibalgddcaa

