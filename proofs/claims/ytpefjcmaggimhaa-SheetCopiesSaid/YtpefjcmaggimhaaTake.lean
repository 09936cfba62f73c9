
/-
  The contract of reel.Take: it returns what 'tak' (Num) says of the string's bytes, and writes no memory.
-/
import Derived.Test.YtpefjcmaggimhaaReel
import Derived.Deep.QuietTactic
import Derived.BigQuiet
import Derived.Lib.Strings
namespace Go.Proofs.Ytpefjcmaggimhaa
open Go.RowKit
set_option linter.unusedVariables false
set_option linter.unusedSimpArgs false
set_option maxRecDepth 100000

/-- What Take returns of a string of bytes. -/
def takV (l : List UInt8) : Int := match tak l with | some (n, _) => (n : Int) | none => 0
def takR (l : List UInt8) : List UInt8 := match tak l with | some (_, z) => l.drop z | none => []
def takE (l : List UInt8) : Int := match tak l with | some _ => 0 | none => 4

theorem take_nil (w : World) : Calls Try.prog 66 #[bs []] w fun r w' => r = .returned (.tuple #[.int .i64 0, bs [], .int .i64 4]) ∧ ∃ n, w' = w.drewN n := by
  unfold bs
  go_enter Try.func66, Try.ntmps66
  go_wp2
  go_ret3
  exact ⟨rfl, 0, rfl⟩

theorem take_small (l : List UInt8) (w : World) (hne : l ≠ []) (hc : btI l 0 < 240) (hl : l.length ≤ 140737488351232) :
    Calls Try.prog 66 #[bs l] w fun e w' => e = .returned (.tuple #[.int .i64 (btI l 0), bs (l.drop 1), .int .i64 0]) ∧ ∃ n, w' = w.drewN n := by
  obtain ⟨s, hs⟩ : ∃ s : ByteArray, s = ⟨l.toArray⟩ := ⟨_, rfl⟩
  have hb := getb hs
  have hz := sizeb hs
  have he := extb hs
  obtain ⟨b0, b1⟩ := btI_bd l 0
  have hem := notEmpty hs hne
  have hlp : 0 < l.length := List.length_pos_iff.2 hne
  have e0 : bs l = .string s := by rw [hs]; rfl
  rw [e0]
  clear e0 hs
  go_enter Try.func66, Try.ntmps66
  go_wp2_with fail
  go_quiet (fail)
  go_wp2
  go_ret3
  exact ⟨by simp [he], _, rfl⟩

/-- What is no number: the first byte says more bytes than there are, or than there may be. -/
theorem take_bad (l : List UInt8) (k : Nat) (w : World) (hne : l ≠ []) (hk : btI l 0 = (k : Int) + 240) (hl : l.length ≤ 140737488351232) (h : k < 1 ∨ 6 < k ∨ l.length ≤ k) :
    Calls Try.prog 66 #[bs l] w fun e w' => e = .returned (.tuple #[.int .i64 0, bs [], .int .i64 4]) ∧ ∃ n, w' = w.drewN n := by
  obtain ⟨s, hs⟩ : ∃ s : ByteArray, s = ⟨l.toArray⟩ := ⟨_, rfl⟩
  have hb := getb hs
  have hz := sizeb hs
  have hk15 : k ≤ 15 := by have := (btI_bd l 0).2; omega
  have hem := notEmpty hs hne
  have hlp : 0 < l.length := List.length_pos_iff.2 hne
  have e0 : bs l = .string s := by rw [hs]; rfl
  rw [e0]
  clear e0 hs
  go_enter Try.func66, Try.ntmps66
  go_wp2_with fail
  all_goals (go_ret3; exact ⟨rfl, 0, rfl⟩)

theorem val_step {l : List UInt8} {i : Nat} (hi : 1 ≤ i) (h : i < l.length) : (val ((l.drop 1).take i) : Int) = (val ((l.drop 1).take (i - 1)) : Int) * 256 + btI l i := by
  obtain ⟨j, rfl⟩ : ∃ j, i = j + 1 := ⟨i - 1, by omega⟩
  have h1 : j < (l.drop 1).length := by simp; omega
  rw [List.take_succ_eq_append_getElem h1, val_snoc]
  have : ((l.drop 1)[j]'h1) = l.getD (j + 1) 0 := by
    simp only [List.getD, List.getElem?_eq_getElem h, Option.getD_some, List.getElem_drop]
    congr 1; omega
  rw [this]
  unfold btI
  simp
  omega

theorem i64_or (x y : Int) (h0 : 0 ≤ x) (h1 : x < 1099511627776) (g0 : 0 ≤ y) (g1 : y ≤ 255) : bits .or .i64 (x * 256) y = x * 256 + y := by
  have hk : ∀ n : Int, 0 ≤ n → n < 2 ^ 63 → IntKind.i64.wrap n = n := by
    intro n a b
    rw [IntKind.wrap_i64]; omega
  exact bits_join .i64 63 (by decide) hk 8 (x * 256) y (by omega) (by omega) (by omega) g0 (by omega) (by omega)

theorem val_lt6 (l : List UInt8) (j : Nat) (h : j ≤ 5) : val (l.take j) < 1099511627776 := by
  have h1 := val_lt (l.take j)
  have h2 : (l.take j).length ≤ 5 := by simp; omega
  have h3 : 256 ^ (l.take j).length ≤ 256 ^ 5 := Nat.pow_le_pow_right (by decide) h2
  omega

set_option maxHeartbeats 1000000 in
/-- Bytes enough: what they say, if it is what Put gives of it. -/
theorem take_long (l : List UInt8) (k : Nat) (w : World) (hne : l ≠ []) (hk : btI l 0 = (k : Int) + 240) (hl : l.length ≤ 140737488351232) (h1 : 1 ≤ k) (h6 : k ≤ 6) (hkl : k < l.length) (b : Bool) (B : Hid (b = decide (sizeI (val ((l.drop 1).take k)) = 1 + k))) :
    Calls Try.prog 66 #[bs l] w fun e w' => e = .returned (.tuple #[.int .i64 (if b then (val ((l.drop 1).take k) : Int) else 0), bs (if b then l.drop (1 + k) else []), .int .i64 (if b then 0 else 4)]) ∧ ∃ n, w' = w.drewN n := by
  obtain ⟨s, hs⟩ : ∃ s : ByteArray, s = ⟨l.toArray⟩ := ⟨_, rfl⟩
  have hb := getb hs
  have hz := sizeb hs
  have he := extb hs
  have hem := notEmpty hs hne
  have hlp : 0 < l.length := List.length_pos_iff.2 hne
  have e0 : bs l = .string s := by rw [hs]; rfl
  rw [e0]
  clear e0 hs
  have d1 : decide (l.length ≤ k) = false := decide_eq_false (by omega)
  have d2 : decide ((k : Int) < 1) = false := decide_eq_false (by omega)
  have d3 : decide (6 < (k : Int)) = false := decide_eq_false (by omega)
  go_enter Try.func66, Try.ntmps66
  go_wp2_with fail
  go_loop [6, 7] (fun n i => ∃ j : Nat, 1 ≤ j ∧ j ≤ k + 1 ∧ i = .int .i64 j ∧ n = .int .i64 (val ((l.drop 1).take (j - 1)) : Nat)) (fun _ i => k + 1 - (intOf i).toNat)
  case atStart => exact ⟨1, by omega, by omega, rfl, rfl⟩
  case round =>
    obtain ⟨j, hj1, hj2, rfl, rfl⟩ := hrel
    by_cases hlt : j ≤ k
    · obtain ⟨c0, c1⟩ := btI_bd l j
      have hv := val_lt6 (l.drop 1) (j - 1) (by omega)
      have hvs := val_step (l := l) (i := j) hj1 (by omega)
      obtain ⟨v, hV⟩ : ∃ v : Nat, val ((l.drop 1).take (j - 1)) = v := ⟨_, rfl⟩
      rw [hV] at hv hvs ⊢
      have hv' : (v : Int) < 1099511627776 := by omega
      have hor := i64_or v (btI l j) (by omega) hv' c0 c1
      have VS := Lib.hid hvs
      clear hvs hV hv
      go_wp2
      go_round
      case rel => exact ⟨j + 1, by omega, by omega, by go_num, by rw [show j + 1 - 1 = j by omega, VS.out]⟩
      case measure => simp [intOf]; omega
    · have hj : j = k + 1 := by omega
      subst hj
      have e2 : k + 1 - 1 = k := by omega
      rw [e2]
      obtain ⟨v, hV⟩ : ∃ v : Nat, val ((l.drop 1).take k) = v := ⟨_, rfl⟩
      rw [hV] at B ⊢
      have V := Lib.hid (show (val (List.take k l.tail) : Int) = v by rw [← List.drop_one, hV])
      clear e2 hV
      cases b with
      | true =>
        have hB : sizeI (v : Int) = 1 + k := of_decide_eq_true B.out.symm
        have hB2 := Lib.hid hB
        clear hB
        go_wp2_with fail
        refine (size_any _ _).mono ?_
        rintro r w' ⟨rfl, rfl⟩
        rw [hB2.out]
        go_wp2_with fail
        go_quiet (fail)
        go_wp2
        go_ret3
        exact ⟨by simp only [if_true]; rw [V.out]; rfl, _, rfl⟩
      | false =>
        have hB : ¬ sizeI (v : Int) = 1 + k := of_decide_eq_false B.out.symm
        have hB2 := Lib.hid (show (sizeI (v : Int) != 1 + (k : Int)) = true by simp [hB])
        clear hB
        go_wp2_with fail
        refine (size_any _ _).mono ?_
        rintro r w' ⟨rfl, rfl⟩
        have hB3 := hB2.out
        go_wp2
        go_ret3
        exact ⟨rfl, 0, rfl⟩


theorem btI_cons (c : UInt8) (r : List UInt8) : btI (c :: r) 0 = (c.toNat : Int) := rfl

/-- What Take returns: 'tak'. -/
theorem take_any (l : List UInt8) (w : World) (hl : l.length ≤ 140737488351232) :
    Calls Try.prog 66 #[bs l] w fun e w' => e = .returned (.tuple #[.int .i64 (takV l), bs (takR l), .int .i64 (takE l)]) ∧ ∃ n, w' = w.drewN n := by
  cases l with
  | nil => exact take_nil w
  | cons c r =>
    by_cases hc : c.toNat < 240
    · have ht : tak (c :: r) = some (c.toNat, 1) := by simp only [tak, if_pos hc]
      refine (take_small (c :: r) w (by simp) (by rw [btI_cons]; omega) hl).mono ?_
      rintro e w' ⟨rfl, hw⟩
      refine ⟨?_, hw⟩
      simp only [takV, takR, takE, ht, btI_cons]
    · obtain ⟨k, hk⟩ : ∃ k, c.toNat = k + 240 := ⟨c.toNat - 240, by omega⟩
      have hbt : btI (c :: r) 0 = (k : Int) + 240 := by rw [btI_cons, hk]; simp
      have hk2 : c.toNat - 240 = k := by omega
      by_cases hbad : k < 1 ∨ 6 < k ∨ (c :: r).length ≤ k
      · have ht : tak (c :: r) = none := by
          simp only [tak, if_neg hc, hk2]
          rw [if_neg]
          simp at hbad; omega
        refine (take_bad (c :: r) k w (by simp) hbt hl hbad).mono ?_
        rintro e w' ⟨rfl, hw⟩
        refine ⟨?_, hw⟩
        simp only [takV, takR, takE, ht]
      · have h1 : 1 ≤ k ∧ k ≤ 6 ∧ k < (c :: r).length := by omega
        obtain ⟨h1, h6, hkl⟩ := h1
        refine (take_long (c :: r) k w (by simp) hbt hl h1 h6 hkl _ (Lib.hid rfl)).mono ?_
        rintro e w' ⟨rfl, hw⟩
        refine ⟨?_, hw⟩
        have hd : List.drop 1 (c :: r) = r := rfl
        rw [hd]
        have hiff : (sizeI (val (r.take k)) = 1 + (k : Int)) ↔ (val (r.take k) ≤ mostN ∧ sizeN (val (r.take k)) = 1 + k) := by
          unfold sizeI okN mostN
          by_cases hm : val (r.take k) ≤ 1099511627776
          · have : decide (0 ≤ (val (r.take k) : Int) ∧ (val (r.take k) : Int) ≤ 1099511627776) = true := decide_eq_true ⟨by omega, by omega⟩
            rw [this]
            simp [hm]; omega
          · have : decide (0 ≤ (val (r.take k) : Int) ∧ (val (r.take k) : Int) ≤ 1099511627776) = false := decide_eq_false (by omega)
            rw [this]
            simp [hm]; omega
        have hlr : k ≤ r.length := by simp at hkl; omega
        by_cases hs : sizeI (val (r.take k)) = 1 + (k : Int)
        · have ht : tak (c :: r) = some (val (r.take k), 1 + k) := by
            simp only [tak, if_neg hc, hk2]
            rw [if_pos ⟨h1, h6, hlr, hiff.1 hs⟩]
          simp only [takV, takR, takE, ht, hs, decide_true, if_true]
        · have ht : tak (c :: r) = none := by
            simp only [tak, if_neg hc, hk2]
            rw [if_neg]
            rintro ⟨_, _, _, x, y⟩
            exact hs (hiff.2 ⟨x, y⟩)
          simp only [takV, takR, takE, ht, hs, decide_false]
          rfl

end Go.Proofs.Ytpefjcmaggimhaa

