
/-
  staithelaw18.looks.
-/
import Derived.Test.YtonegedenmchbaaCelQ
import Derived.Deep.QuietTactic
import Derived.BigQuiet
namespace Go.Proofs.Ytonegedenmchbaa
open Go.RowKit
set_option linter.unusedVariables false
set_option linter.unusedSimpArgs false
set_option maxRecDepth 100000

theorem tailed_q {B : Nat} {w : World} {b : Nat} {x : Int} {l : List Int} {tl : Bool} (h : Ce B w b x l tl) : Calls Try.prog 27 #[.pointer (some ⟨b, 0, none⟩)] w fun r w' => r = .returned (.bool tl) ∧ w = w' := by
  obtain ⟨⟨v, h1⟩, _⟩ := h
  exact tailed_any h1
theorem wide_q {B : Nat} {w : World} {b : Nat} {x : Int} {l : List Int} {tl : Bool} (h : Ce B w b x l tl) : Calls Try.prog 28 #[.pointer (some ⟨b, 0, none⟩)] w fun r w' => r = .returned (.bool (decide (1 < l.length))) ∧ w = w' := by
  obtain ⟨⟨v, h1⟩, _⟩ := h
  exact wide_any h1
theorem last_q {B : Nat} {w : World} {b : Nat} {x : Int} {l : List Int} {tl : Bool} (h : Ce B w b x l tl) : Calls Try.prog 25 #[.pointer (some ⟨b, 0, none⟩)] w fun r w' => r = .returned (.int .u64 x) ∧ w = w' := by
  obtain ⟨⟨v, h1⟩, _⟩ := h
  exact last_any h1
theorem reads_q {B : Nat} {w : World} {b : Nat} {x : Int} {l : List Int} {tl : Bool} (h : Ce B w b x l tl) : Calls Try.prog 26 #[.pointer (some ⟨b, 0, none⟩)] w (ClonePost l w) := by
  obtain ⟨⟨v, h1⟩, h2, _⟩ := h
  exact reads_any h1 (Nat.le_trans h2.len (by decide))

def LookPost (w : World) (e : Ending) (w' : World) : Prop := e = .returned (.bool true) ∧ Below w.heap.size w w'
set_option maxHeartbeats 8000000 in
theorem looks_any (B b c : Nat) (x : Int) (l : List Int) (tl : Bool) (m : M18) (w : World) (h : Bo B w b c x l tl m) :
    Calls Try.prog 23 #[.pointer (some ⟨b, 0, none⟩), .pointer (some ⟨c, 0, none⟩)] w (LookPost w) := by
  have H := Lib.hid h
  have UX := Lib.hid h.ce.2.1.u
  have SRT := Lib.hid h.ce.2.1.srt
  have OKL := Lib.hid h.ce.2.1.ok
  have LEN := h.ce.2.1.len
  clear h
  go_enter Try.func23, Try.ntmps23
  go_wp2_with fail
  refine (last_q H.out.ce).mono ?_
  rintro r w' ⟨rfl, rfl⟩
  go_wp2_with fail
  refine (split_any x w UX.out).mono ?_
  rintro r w1 ⟨rfl, hb1⟩
  unfold splitV rE
  -- the last write, in its three kinds
  obtain ⟨a0, ha0⟩ : ∃ a, nE x = a := ⟨_, rfl⟩
  obtain ⟨a1, ha1⟩ : ∃ a, xE x = a := ⟨_, rfl⟩
  obtain ⟨a2, ha2⟩ : ∃ a, tid0 x = a := ⟨_, rfl⟩
  obtain ⟨a3, ha3⟩ : ∃ a, clk0 x = a := ⟨_, rfl⟩
  obtain ⟨ok, hok⟩ : ∃ a, okE x = a := ⟨_, rfl⟩
  rw [ha0, ha1, ha2, ha3, hok]
  have WW := Lib.hid (show (x = 0 ∧ m.no = true ∧ m.ta = false) ∨ (x = 18446744073709551615 ∧ m.no = false ∧ m.ta = true) ∨ ((x == 0) = false ∧ (x == 18446744073709551615) = false ∧ ok = true ∧ a2 = m.t ∧ a3 = m.n ∧ m.no = false ∧ m.ta = false) from by
    rcases H.out.rel.w with h | h | ⟨h1, ⟨p1, p2, p3, p4⟩, h3, h4⟩
    · exact .inl h
    · exact .inr (.inl h)
    · have hk := okE_ep p1 p2 p3 p4
      rw [← h1] at hk
      have hn := ok_ne hk
      refine .inr (.inr ⟨by simp [hn.1], by simp [hn.2], hok.symm.trans hk, ?_, ?_, h3, h4⟩)
      · rw [← ha2]; unfold tid0; rw [if_pos hk, h1]; unfold ep; omega
      · rw [← ha3]; unfold clk0; rw [if_pos hk, h1]; unfold ep; omega)
  obtain ⟨W2, hW2⟩ : ∃ W2, w1.alloc (.cells #[.bool a0, .bool a1, .int .i64 a2, .int .i64 a3] 65) = W2 := ⟨_, rfl⟩
  have hb12 : Below w1.heap.size w1 W2 := by rw [← hW2]; exact (Below.refl _ _).alloc (Nat.le_refl _) _
  have V2 := Lib.hid (show W2.heap[w1.heap.size]? = some (.cells #[.bool a0, .bool a1, .int .i64 a2, .int .i64 a3] 65 (0, 0)) from by rw [← hW2]; exact heap_alloc_new w1 _)
  have B2 := Lib.hid (below_trans hb1 hb12 hb1.size)
  have HW2 := Lib.hid hW2
  have H2 := Lib.hid (H.out.below B2.out)
  have c0 := H2.out.rc.c0
  have c1 := H2.out.rc.c1
  have c2 := H2.out.rc.c2
  have c3 := H2.out.rc.c3
  rw [Nat.zero_add] at c1 c2 c3
  obtain ⟨v0, v1, v2, v3⟩ := four_cells V2.out
  obtain ⟨mt, mn, mno, mta, rd, mtl⟩ := m
  dsimp only at c0 c1 c2 c3
  have REL := Lib.hid H.out.rel.r
  have RT := Lib.hid H.out.rel.t
  clear hb1 hb12 hW2 ha0 ha1 ha2 ha3 hok
  go_upto_region 3 with fail
  rw [HW2.out]
  go_cut [75] (fun z wx => z = .bool false ∧ Below W2.heap.size W2 wx)
  case first =>
    rcases WW.out with ⟨rfl, h1, h2⟩ | ⟨rfl, h1, h2⟩ | ⟨e0, e1, rfl, e2, e3, h1, h2⟩
    · try dsimp only at h1 h2
      subst h1 h2
      go_quiet (fail)
      go_wp2_with fail
      go_meet
      exact ⟨rfl, below_drewN (Below.refl _ _) _⟩
    · try dsimp only at h1 h2
      subst h1 h2
      go_quiet (fail)
      go_wp2_with fail
      go_meet
      exact ⟨rfl, below_drewN (Below.refl _ _) _⟩
    · try dsimp only at e2 e3 h1 h2
      subst e2 e3 h1 h2
      go_quiet (fail)
      go_wp2_with fail
      go_meet
      exact ⟨rfl, below_drewN (Below.refl _ _) _⟩
  case rest =>
    obtain ⟨rfl, hb3⟩ := hcut
    have H3 := Lib.hid (H2.out.below hb3)
    have B3 := Lib.hid (below_trans B2.out hb3 B2.out.size)
    clear hb3 c0 c1 c2 c3 v0 v1 v2 v3
    go_wp2_with fail
    refine (reads_q H3.out.ce).mono ?_
    rintro r w4 ⟨v4, rfl, ho4, hb4⟩
    have H4 := Lib.hid (H3.out.below hb4)
    have B4 := Lib.hid (below_trans B3.out hb4 B3.out.size)
    obtain ⟨ao, cap, rfl, hno, hc⟩ := eps_of_owns ho4
    have HC := Lib.hid hc
    have CN := Lib.hid (fun k => cntR_step rd k)
    have RA := Lib.hid (fun k (hk : k < 256) (hp : 0 < rd.getD k 0) => reads_at REL.out SRT.out hk hp)
    have RL := Lib.hid (reads_len REL.out SRT.out)
    obtain ⟨n, hn⟩ : ∃ n, l.length = n := ⟨_, rfl⟩
    rw [hn] at LEN RL RA ⊢
    have HN := Lib.hid hn
    clear ho4 hb4 hno hc hn
    go_wp2_with fail
    go_loopw [10, 9] (fun t a wr => ∃ k : Nat, k ≤ 256 ∧ t = .int .i64 k ∧ a = .int .i64 (cntR rd k : Nat) ∧ Below w4.heap.size w4 wr) (fun t _ _ => 256 - (intOf t).toNat)
    case atStart => exact ⟨0, by omega, rfl, rfl, Below.refl _ _⟩
    case round =>
      obtain ⟨k, hk, rfl, rfl, hbr⟩ := hrel
      have HB := Lib.hid hbr
      have HR := Lib.hid (H4.out.below hbr)
      clear hbr
      by_cases hlt : k < 256
      · have hlt' : (k : Int) < 256 := by omega
        have cr := HR.out.rc.cr k hlt
        rw [Nat.zero_add] at cr
        dsimp only at cr
        have BD := Lib.hid (REL.out.bd k hlt)
        have RAK := Lib.hid (RA.out k hlt)
        have CNK := Lib.hid (CN.out k)
        obtain ⟨u, hu⟩ : ∃ u, rd.getD k 0 = u := ⟨_, rfl⟩
        try dsimp only at BD
        rw [hu] at cr BD RAK CNK
        obtain ⟨a, ha⟩ : ∃ a, cntR rd k = a := ⟨_, rfl⟩
        rw [ha] at RAK CNK ⊢
        clear hu ha
        by_cases hz : u = 0
        · subst hz
          have CK := Lib.hid (show cntR rd (k + 1) = a from by rw [CNK.out]; simp)
          go_wp2_with fail
          go_roundw
          case rel => exact ⟨k + 1, by omega, by go_num, by rw [CK.out], HB.out⟩
          case measure => simp [intOf] <;> omega
        · have hp : 0 < u := by have := BD.out; omega
          have hz' : (u == 0) = false := by simp [hz]
          obtain ⟨h1, h2⟩ := RAK.out hp
          have CK := Lib.hid (show cntR rd (k + 1) = a + 1 from by rw [CNK.out, if_pos hp])
          obtain ⟨g, rfl, hcc⟩ := HC.out (by have := HN.out; omega)
          have cg := hcc a (by have := HN.out; omega)
          rw [h2] at cg
          have cg2 := (HB.out.cell (p := ⟨g, a, none⟩) (block_lt_of_cell cg)).trans cg
          have hbd := BD.out
          have UE := Lib.hid (ep_u64 (t := (k : Int)) (c := u) (by omega) (by omega) (by omega) (by omega))
          have TE := Lib.hid (tidE_ep (t := (k : Int)) (c := u) (by omega) (by omega) (by omega) (by omega))
          have CE := Lib.hid (clkE_ep (t := (k : Int)) (c := u) (by omega) (by omega) (by omega) (by omega))
          obtain ⟨e, he⟩ : ∃ e, ep (k : Int) u = e := ⟨_, rfl⟩
          rw [he] at UE TE CE cg2
          have hat : (a : Int) < (n : Int) := by omega
          have hat2 : ¬ ((n : Int) ≤ (a : Int)) := by omega
          have hat3 : decide (n ≤ a) = false := decide_eq_false (by omega)
          have QT := Lib.hid (show ∀ X, Calls Try.prog 42 #[.int .u64 e] X fun r w' => r = .returned (.int .i64 k) ∧ X = w' from fun X => by have := etid_of e X UE.out; rw [TE.out] at this; exact this)
          have QC := Lib.hid (show ∀ X, Calls Try.prog 44 #[.int .u64 e] X fun r w' => r = .returned (.int .i64 u) ∧ X = w' from fun X => by have := eclk_of e X UE.out; rw [CE.out] at this; exact this)
          clear hcc cg h2 h1 hbd he
          go_upto_region 11 with fail
          go_cut [115] (fun z wx => z = .bool false ∧ Below wr.heap.size wr wx)
          case first =>
            go_region_held3 (fun w' => w'.cell? ⟨g, a, none⟩ = some (.int .u64 e) ∧ w'.cell? ⟨c, 4 + k, none⟩ = some (.int .i64 u)) (go_keep)
              (first | (go_at_call 42; (with_reducible refine (QT.out _).mono ?_); rintro r w8 ⟨rfl, rfl⟩) | (go_at_call 44; (with_reducible refine (QC.out _).mono ?_); rintro r w8 ⟨rfl, rfl⟩))
            go_wp2_with fail
            go_meet
            exact ⟨rfl, (Below.refl _ _).drew⟩
          case rest =>
            obtain ⟨rfl, hb8⟩ := hcut
            have B8 := Lib.hid (below_trans HB.out hb8 HB.out.size)
            clear hb8
            go_wp2_with fail
            go_roundw
            case rel => exact ⟨k + 1, by omega, by go_num, by rw [CK.out]; go_num, B8.out⟩
            case measure => simp [intOf] <;> omega
      · have hk2 : k = 256 := by omega
        have hge : (256 : Int) ≤ k := by omega
        have ct := HR.out.rc.ct
        rw [Nat.zero_add] at ct
        dsimp only at ct
        have BF := Lib.hid (below_trans B4.out HB.out B4.out.size)
        have EA := Lib.hid (show cntR rd k = n from by rw [hk2, RL.out])
        rw [EA.out]
        have QT := Lib.hid (tailed_q HR.out.drew.ce)
        have QW := Lib.hid (wide_q HR.out.drew.ce)
        rw [HN.out] at QW
        have RT2 := RT.out
        try dsimp only at RT2
        subst RT2
        obtain ⟨y, hy⟩ : ∃ y, decide (1 < n) = y := ⟨_, rfl⟩
        have hy' : decide ((1 : Int) < (n : Int)) = y := by rw [← hy]; exact decide_eq_decide.2 (by omega)
        rw [hy] at QW
        clear hk2 hk hlt hy
        go_wp2_with fail
        go_region_held3 (fun w' => w'.cell? ⟨c, 260, none⟩ = some (.bool tl)) (go_keep)
          (first | (go_at_call 27; (with_reducible refine QT.out.mono ?_); rintro r w8 ⟨rfl, rfl⟩) | (go_at_call 28; (with_reducible refine QW.out.mono ?_); rintro r w8 ⟨rfl, rfl⟩))
        go_wp2_with fail
        go_ret
        exact ⟨rfl, BF.out.drew⟩
end Go.Proofs.Ytonegedenmchbaa

