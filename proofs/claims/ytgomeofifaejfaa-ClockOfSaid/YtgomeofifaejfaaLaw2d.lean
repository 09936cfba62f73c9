/-
  The walk of the statement ClockOf.
-/
import Derived.Test.YtgomeofifaejfaaRefL
namespace Go.Proofs.Ytgomeofifaejfaa
open Go.RowKit
set_option linter.unusedVariables false
set_option linter.unusedSimpArgs false
set_option maxRecDepth 100000

theorem of_no (v : Value) (l : List Int) (w : World) (h : Src w v l) (h0 : ofE l ≠ 0) :
    Calls Try.prog 8 #[v] w fun r w' => r = .returned (.tuple #[.pointer none, .int .i64 (ofE l)]) ∧ w = w' := by
  refine (of_any v l w h).mono ?_
  rintro r w' (⟨h1, _⟩ | ⟨_, h⟩)
  · exact absurd h1 h0
  · exact h

/-- The world behind 'w, f := Of(l)': the reference's clock in a block of its own. -/
theorem rat_laid {w w1 w2 : World} {ns : List Int} {Z : Array Value} (hZ : (ints zeros).toArray = Z) (h : Turned (fun i => i = w1.heap.size) (w1.alloc (.cells Z 35)) w2) (hB : Below w.heap.size w w1) : Below w.heap.size w w2 ∧ Below w1.heap.size w1 w2 :=
  ⟨h.below (hB.alloc hB.size _) (Nat.le_refl _) (fun i e => by rw [e]; exact hB.size), h.below ((Below.refl _ _).alloc (Nat.le_refl _) _) (Nat.le_refl _) (fun i e => by rw [e]; exact Nat.le_refl _)⟩
theorem rat_lone (w : World) (Z : Array Value) (hZ : (ints zeros).toArray = Z) : RAt (w.alloc (.cells Z 35)) w.heap.size zeros := by
  subst hZ; exact rat_new w zeros rfl

set_option maxHeartbeats 1000000 in
theorem of_law (v : Value) (l : List Int) (t : Int) (w : World) (h : Src w v l) :
    Calls Try.prog 5 #[v, .int .i64 t] w (RetB (.bool true) w) := by
  obtain ⟨Z, hZ⟩ : ∃ Z, (ints zeros).toArray = Z := ⟨_, rfl⟩
  have hz := (zero_of_info rinfo).1
  rw [hZ] at hz
  have HZ := Lib.hid hZ
  clear hZ
  by_cases he : ofE l = 0
  · have E := Lib.hid he
    go_enter Try.func5, Try.ntmps5
    go_wp2_with fail
    refine (of_yes v l w h he).mono ?_
    rintro r w1 ⟨b, g, rfl, K, B1, _, _⟩
    have h1 := h.below (Nat.le_refl _) B1
    have ok := ofE_okL he
    clear h he
    go_wp2_with fail
    refine (rof_any v l w1 h1).mono ?_
    rintro r w2 ⟨ns, rfl, hlen, hat, B2⟩
    have hat := hat E.out
    rw [E.out]
    have A := Lib.hid hat
    have HL := hlen
    clear hat h1 hlen
    obtain ⟨Z2, hZ2⟩ : ∃ Z2, (ints ns).toArray = Z2 := ⟨_, rfl⟩
    rw [hZ2]
    have HZ2 := Lib.hid hZ2
    clear hZ2
    go_wp2_with (with_reducible refine wpList_store_clock rfl (.tmp 7) (.tmp 22) rfl w2.heap.size zeros ns ?hx Z2 ?hy HZ2.out ?h0 HL ?_)
    case hx => rfl
    case hy => rfl
    case h0 => exact rat_lone w2 Z HZ.out
    intro w3 R3 T3
    have B12 := below_trans B1 B2 B1.size
    obtain ⟨B3, B23⟩ := rat_laid (ns := ns) HZ.out T3 B12
    have K3 := (K.below B2).below B23
    have H3 := Lib.hid B3
    clear T3 B1 B2 B12 B3 B23 K
    go_wp2_with fail
    have hd : decide (trim l = trim ns) = true := decide_eq_true (trim_ext fun u => (A.out u).symm)
    have sm1 : (trim l).length ≤ 140737488351232 := Nat.le_trans (length_trim_le l) (Nat.le_trans ok.1 (by decide))
    have sm2 : (trim ns).length ≤ 140737488351232 := Nat.le_trans (length_trim_le ns) (by omega)
    have HD := Lib.hid hd
    clear hd
    obtain ⟨n, hn⟩ : ∃ n, at0 l t = n := ⟨_, rfl⟩
    have N := Lib.hid hn
    have hbd := at0_ok ok t
    rw [hn] at hbd
    refine (rget_any _ ns t w3 R3).mono ?_
    rintro r w' ⟨rfl, rfl⟩
    rw [A.out t, N.out]
    by_cases hp : 0 < n
    · have hT : okT t n = true := decide_eq_true (by
        have : 0 ≤ t ∧ t < l.length := by
          rcases Classical.em (0 ≤ t ∧ t < (l.length : Int)) with h | h
          · exact h
          · rw [at0_out (by omega)] at hn; omega
        have := ok.1
        omega)
      have hV : packV t n = ep t n := by unfold packV; rw [if_pos hT]
      have HV := Lib.hid hV
      have HT := Lib.hid hT
      clear hn hbd hV hT
      go_wp2_with fail
      refine (epoch_any b _ t w3 K3).mono ?_
      rintro r w' ⟨rfl, rfl⟩
      rw [N.out, HV.out]
      go_wp2_with fail
      refine (pack_yes t n w3 HT.out).mono ?_
      rintro r w' ⟨rfl, rfl⟩
      have hd := HD.out
      · skip
        go_wp2_with fail
        refine (get_any b _ t w3 K3).mono ?_
        rintro r w' ⟨rfl, rfl⟩
        rw [N.out]
        go_wp2_with fail
        refine (list_any b _ w3 K3).mono ?_
        rintro r w4 ⟨v1, rfl, ho, B4⟩
        have S4 := Src.of_owns ho
        have R4 := R3.below B4
        have H4 := Lib.hid (below_trans H3.out B4 H3.out.size)
        clear ho
        go_wp2_with fail
        refine (rlist_any _ ns w4 R4 (fun u => by rw [A.out u]; exact (at0_ok ok u).1)).mono ?_
        rintro r w5 ⟨v2, rfl, S5, B5⟩
        have S4' := S4.below (Nat.le_refl _) B5
        have H5 := Lib.hid (below_trans H4.out B5 H4.out.size)
        clear B4 B5 S4 R4
        go_wp2_with fail
        refine (ints_any v1 v2 (trim l) (trim ns) w5 S4' S5 sm1 sm2).mono ?_
        rintro r w6 ⟨rfl, m, hw6⟩
        rw [hd]
        have H6 := Lib.hid (show Below w.heap.size w w6 by rw [hw6]; exact below_drewN H5.out m)
        clear hw6 S4' S5
        go_wp2_with fail
        refine (joins_any _).mono ?_
        rintro r w7 ⟨rfl, B7⟩
        have H7 := Lib.hid (below_trans H6.out B7 H6.out.size)
        clear B7
        go_wp2_with fail
        go_ret
        exact ⟨rfl, H7.out⟩
    · have hn0 : n = 0 := by omega
      subst hn0
      have hV : packV t 0 = 0 := by unfold packV; rw [if_neg]; intro h; have := of_decide_eq_true h; omega
      have HV := Lib.hid hV
      clear hn hbd hV hp
      go_wp2_with fail
      refine (epoch_any b _ t w3 K3).mono ?_
      rintro r w' ⟨rfl, rfl⟩
      rw [N.out, HV.out]
      have hd := HD.out
      · skip
        go_wp2_with fail
        refine (get_any b _ t w3 K3).mono ?_
        rintro r w' ⟨rfl, rfl⟩
        rw [N.out]
        go_wp2_with fail
        refine (list_any b _ w3 K3).mono ?_
        rintro r w4 ⟨v1, rfl, ho, B4⟩
        have S4 := Src.of_owns ho
        have R4 := R3.below B4
        have H4 := Lib.hid (below_trans H3.out B4 H3.out.size)
        clear ho
        go_wp2_with fail
        refine (rlist_any _ ns w4 R4 (fun u => by rw [A.out u]; exact (at0_ok ok u).1)).mono ?_
        rintro r w5 ⟨v2, rfl, S5, B5⟩
        have S4' := S4.below (Nat.le_refl _) B5
        have H5 := Lib.hid (below_trans H4.out B5 H4.out.size)
        clear B4 B5 S4 R4
        go_wp2_with fail
        refine (ints_any v1 v2 (trim l) (trim ns) w5 S4' S5 sm1 sm2).mono ?_
        rintro r w6 ⟨rfl, m, hw6⟩
        rw [hd]
        have H6 := Lib.hid (show Below w.heap.size w w6 by rw [hw6]; exact below_drewN H5.out m)
        clear hw6 S4' S5
        go_wp2_with fail
        refine (joins_any _).mono ?_
        rintro r w7 ⟨rfl, B7⟩
        have H7 := Lib.hid (below_trans H6.out B7 H6.out.size)
        clear B7
        go_wp2_with fail
        go_ret
        exact ⟨rfl, H7.out⟩
  · have hne : (ofE l != 0) = true := by simpa using he
    have HE := Lib.hid he
    go_enter Try.func5, Try.ntmps5
    go_wp2_with fail
    refine (of_no v l w h he).mono ?_
    rintro r w1 ⟨rfl, rfl⟩
    go_wp2_with fail
    refine (rof_any v l w h).mono ?_
    rintro r w2 ⟨ns, rfl, hlen, hat, B2⟩
    have HL := hlen
    clear hat h hlen he
    obtain ⟨e, hge⟩ : ∃ e, ofE l = e := ⟨_, rfl⟩
    rw [hge] at hne
    rw [hge]
    clear hge
    obtain ⟨Z2, hZ2⟩ : ∃ Z2, (ints ns).toArray = Z2 := ⟨_, rfl⟩
    rw [hZ2]
    have HZ2 := Lib.hid hZ2
    clear hZ2
    go_wp2_with (with_reducible refine wpList_store_clock rfl (.tmp 7) (.tmp 22) rfl w2.heap.size zeros ns ?hx3 Z2 ?hy3 HZ2.out ?h03 HL ?_)
    case hx3 => rfl
    case hy3 => rfl
    case h03 => exact rat_lone w2 Z HZ.out
    intro w3 R3 T3
    obtain ⟨B3, B23⟩ := rat_laid (ns := ns) HZ.out T3 B2
    have H3 := Lib.hid B3
    clear T3 B2 B3 B23
    go_wp2_with fail
    refine (joins_any _).mono ?_
    rintro r w7 ⟨rfl, B7⟩
    have H7 := Lib.hid (below_trans H3.out B7 H3.out.size)
    clear B7
    go_wp2_with fail
    go_ret
    exact ⟨rfl, H7.out⟩

end Go.Proofs.Ytgomeofifaejfaa
