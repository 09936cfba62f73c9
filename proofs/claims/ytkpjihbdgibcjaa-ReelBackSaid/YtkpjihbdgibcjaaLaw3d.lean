/-
  The walk of the statement ReelBack.
-/
import Derived.Test.YtkpjihbdgibcjaaLaw3c
import Derived.Test.YtkpjihbdgibcjaaTakeL
namespace Go.Proofs.Ytkpjihbdgibcjaa
open Go.RowKit
set_option linter.unusedVariables false
set_option linter.unusedSimpArgs false
set_option maxRecDepth 100000

theorem tak_putS {n : Int} (h : okN n = true) (r : List UInt8) : tak (putS n ++ r) = some (n.toNat, sizeN n.toNat) ∧ (putS n ++ r).drop (sizeN n.toNat) = r ∧ (n.toNat : Int) = n := by
  have h' : 0 ≤ n ∧ n ≤ 1099511627776 := by simpa [okN] using h
  have hp : putS n = enc n.toNat := by unfold putS; rw [if_pos h]
  rw [hp]
  refine ⟨tak_enc (by unfold mostN; omega) r, ?_, by omega⟩
  rw [← length_enc, List.drop_left]
theorem tlist_flat : ∀ (l : List Int) (r : List UInt8), allOk l = true → tlist l.length (flat l ++ r) = some (l, r)
  | [], r, _ => rfl
  | a :: l, r, h => by
    have h' : okN a = true ∧ allOk l = true := by simpa [allOk] using h
    obtain ⟨t1, t2, t3⟩ := tak_putS h'.1 (flat l ++ r)
    have e : flat (a :: l) ++ r = putS a ++ (flat l ++ r) := by simp [flat]
    rw [e, List.length_cons]
    simp only [tlist, t1, t2, tlist_flat l r h'.2, t3]
theorem back_eq {l : List Int} (r : List UInt8) (h : allOk l = true) (hl : l.length ≤ 1000) : takeL (putLS l ++ r) l.length = (l, r, 0) := by
  have hk : okN (l.length : Int) = true := by simp [okN]; omega
  have e : putLS l ++ r = putS l.length ++ (flat l ++ r) := by unfold putLS; rw [if_pos h, List.append_assoc]
  obtain ⟨t1, t2, t3⟩ := tak_putS hk (flat l ++ r)
  rw [e]
  refine takeL_ok t1 (by omega) ?_
  rw [t2]
  exact tlist_flat l r h
theorem putLS_len (l : List Int) (hl : l.length ≤ 1000) : (putLS l).length ≤ 8000 := by
  unfold putLS
  split
  · have := putS_len l.length
    have := flat_len l
    rw [List.length_append]; omega
  · simp
theorem again_eq {s : List UInt8} {n z : Nat} (h : tak s = some (n, z)) : putE (n : Int) = 0 ∧ putS (n : Int) ++ s.drop z = s := by
  obtain ⟨h1, _⟩ := tak_some h
  have hk : okN (n : Int) = true := by simp [okN]; unfold mostN at h1; omega
  refine ⟨by simp [putE, hk], ?_⟩
  have hp : putS (n : Int) = enc n := by unfold putS; rw [if_pos hk]; rfl
  rw [hp]
  exact (tak_split h).symm

set_option maxHeartbeats 2000000 in
theorem back_law (v : Value) (l : List Int) (s : List UInt8) (w : World) (hs : SlI w v l) (hr : s.length ≤ 140737488351232) :
    Calls Try.prog 8 #[v, bs s] w (RetB (.bool true) w) := by
  have HS := Lib.hid hs
  obtain ⟨ao, cap, rfl⟩ := sli_form hs
  clear hs
  have longs : ∀ w1, Below w.heap.size w w1 → True := fun _ _ => trivial
  clear longs
  by_cases hl : l.length ≤ 1000
  · by_cases hb : s.length ≤ 5000
    · have hl' : (l.length : Int) ≤ 1000 := by omega
      have hb' : (s.length : Int) ≤ 5000 := by omega
      cases ha : allOk l with
      | false =>
        have Q := Lib.hid (show putLS l = [] ∧ putLE l = 1 by simp [putLS, putLE, ha])
        clear ha
        go_enter Try.func8, Try.ntmps8
        go_wp2_with fail
        refine (putL_any _ l w HS.out (by omega)).mono ?_
        rintro r w1 ⟨rfl, B1⟩
        rw [Q.out.1, Q.out.2]
        have HH := Lib.hid B1
        clear B1
        go_wp2_with fail
        refine (take_any s _ (by omega)).mono ?_
        rintro r w6 ⟨rfl, n6, hw6⟩
        have H6 := Lib.hid (show Below w.heap.size w w6 by rw [hw6]; exact below_drewN HH.out n6)
        clear hw6
        cases hq : tak s with
        | none =>
          have F := Lib.hid (takV_none hq)
          rw [F.out.1, F.out.2.1, F.out.2.2]
          clear hq
          go_wp2_with fail
          refine (long_any _).mono ?_
          rintro r w8 ⟨rfl, B8⟩
          have H8 := Lib.hid (H6.out.trans (B8.mono H6.out.size))
          clear B8
          go_wp2_with fail
          go_ret
          exact ⟨rfl, H8.out⟩
        | some pr =>
          obtain ⟨n, z⟩ := pr
          have F := Lib.hid (takV_eq hq)
          have G := Lib.hid (again_eq hq)
          rw [F.out.1, F.out.2.1, F.out.2.2]
          clear hq
          go_wp2_with fail
          refine (put_any _ w6).mono ?_
          rintro r w7 ⟨rfl, B7⟩
          have H7 := Lib.hid (H6.out.trans (B7.mono H6.out.size))
          rw [G.out.1]
          have n1 := putS_len n
          have n2 : (s.drop z).length ≤ 5000 := by simp; omega
          have E := G.out.2
          have hne : (putS (n : Int) ++ s.drop z == s) = true := by simpa using E
          clear B7 E
          go_wp2_with fail
          all_goals first | (exfalso; omega) | skip
          refine (long_any _).mono ?_
          rintro r w8 ⟨rfl, B8⟩
          have H8 := Lib.hid (H7.out.trans (B8.mono H7.out.size))
          clear B8
          go_wp2_with fail
          go_ret
          exact ⟨rfl, H8.out⟩
      | true =>
        have Q := Lib.hid (show putLE l = 0 by simp [putLE, ha])
        have K := Lib.hid (back_eq s ha hl)
        have m1 := putLS_len l hl
        clear ha
        go_enter Try.func8, Try.ntmps8
        go_wp2_with fail
        refine (putL_any _ l w HS.out (by omega)).mono ?_
        rintro r w1 ⟨rfl, B1⟩
        rw [Q.out]
        have H1 := Lib.hid B1
        clear B1
        go_wp2_with fail
        all_goals first | (exfalso; omega) | skip
        refine (takeL_any (putLS l ++ s) l.length w1 (by rw [List.length_append]; omega)).mono ?_
        rintro r w2 ⟨v2, rfl, ho, B2⟩
        rw [K.out] at ho ⊢
        have S2 : SlI w2 v2 l := SlI.of_owns ho
        have H2 := Lib.hid (H1.out.trans (B2.mono H1.out.size))
        clear ho B2
        go_wp2_with fail
        refine (ints_any v2 _ l l w2 S2 (HS.out.below H2.out) (by omega) (by omega)).mono ?_
        rintro r w3 ⟨rfl, n3, hw3⟩
        have hd : decide (l = l) = true := by simp
        rw [hd]
        have HH := Lib.hid (show Below w.heap.size w w3 by rw [hw3]; exact below_drewN H2.out n3)
        clear hw3 S2
        go_wp2_with fail
        refine (take_any s _ (by omega)).mono ?_
        rintro r w6 ⟨rfl, n6, hw6⟩
        have H6 := Lib.hid (show Below w.heap.size w w6 by rw [hw6]; exact below_drewN HH.out n6)
        clear hw6
        cases hq : tak s with
        | none =>
          have F := Lib.hid (takV_none hq)
          rw [F.out.1, F.out.2.1, F.out.2.2]
          clear hq
          go_wp2_with fail
          refine (long_any _).mono ?_
          rintro r w8 ⟨rfl, B8⟩
          have H8 := Lib.hid (H6.out.trans (B8.mono H6.out.size))
          clear B8
          go_wp2_with fail
          go_ret
          exact ⟨rfl, H8.out⟩
        | some pr =>
          obtain ⟨n, z⟩ := pr
          have F := Lib.hid (takV_eq hq)
          have G := Lib.hid (again_eq hq)
          rw [F.out.1, F.out.2.1, F.out.2.2]
          clear hq
          go_wp2_with fail
          refine (put_any _ w6).mono ?_
          rintro r w7 ⟨rfl, B7⟩
          have H7 := Lib.hid (H6.out.trans (B7.mono H6.out.size))
          rw [G.out.1]
          have n1 := putS_len n
          have n2 : (s.drop z).length ≤ 5000 := by simp; omega
          have E := G.out.2
          have hne : (putS (n : Int) ++ s.drop z == s) = true := by simpa using E
          clear B7 E
          go_wp2_with fail
          all_goals first | (exfalso; omega) | skip
          refine (long_any _).mono ?_
          rintro r w8 ⟨rfl, B8⟩
          have H8 := Lib.hid (H7.out.trans (B8.mono H7.out.size))
          clear B8
          go_wp2_with fail
          go_ret
          exact ⟨rfl, H8.out⟩
    · have hb' : (5000 : Int) < s.length := by omega
      have hl' : (l.length : Int) ≤ 1000 := by omega
      go_enter Try.func8, Try.ntmps8
      go_wp2_with fail
      refine (long_any w).mono ?_
      rintro r w3 ⟨rfl, B3⟩
      have H3 := Lib.hid B3
      clear B3
      go_wp2_with fail
      go_ret
      exact ⟨rfl, H3.out⟩
  · have hl' : (1000 : Int) < l.length := by omega
    go_enter Try.func8, Try.ntmps8
    go_wp2_with fail
    refine (long_any w).mono ?_
    rintro r w3 ⟨rfl, B3⟩
    have H3 := Lib.hid B3
    clear B3
    go_wp2_with fail
    go_ret
    exact ⟨rfl, H3.out⟩

theorem back_row (v : Value) (l : List Int) (s : ByteArray) (w : World) (hs : SlI w v l) (h : s.size ≤ 140737488351232) : Calls Try.prog 8 #[v, .string s] w (RetB (.bool true) w) := by
  rw [bs_of]
  exact back_law v l _ w hs (by rw [Array.length_toList]; exact h)

end Go.Proofs.Ytkpjihbdgibcjaa
