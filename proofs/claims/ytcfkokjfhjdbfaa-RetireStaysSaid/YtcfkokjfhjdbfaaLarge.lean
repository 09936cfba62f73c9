
/-
  staithelaw20.large.
-/
import Derived.Test.YtcfkokjfhjdbfaaRows2
namespace Go.Proofs.Ytcfkokjfhjdbfaa
open Go.RowKit
set_option linter.unusedVariables false
set_option linter.unusedSimpArgs false
set_option maxRecDepth 100000

/-- No list is longer than n, xs far xs k. -/
def Short (k : Nat) (ls : List (List Int)) : Prop := ∀ j, j < k → (ls.getD j []).length ≤ 300
instance (k : Nat) (ls : List (List Int)) : Decidable (Short k ls) := by unfold Short; infer_instance
def largeB (xs ys : List (List Int)) : Bool := !decide ((xs.length ≤ 60 ∧ ys.length ≤ 60) ∧ Short xs.length xs ∧ Short ys.length ys)

theorem src_len {w : World} {v : Value} {l : List Int} (h : Src w v l) : ∃ ao cap, v = .slice ao l.length cap := by
  obtain ⟨ao, cap, rfl, _⟩ := h
  exact ⟨ao, cap, rfl⟩

set_option maxHeartbeats 1000000 in
theorem large_any (va vb : Value) (xs ys : List (List Int)) (w : World) (ha : RowsOf w va xs) (hb : RowsOf w vb ys) :
    Calls Try.prog 7 #[va, vb] w fun r w' => r = .returned (.bool (largeB xs ys)) ∧ w = w' := by
  obtain ⟨ao, ca, rfl, _, hca⟩ := ha
  obtain ⟨bo, cb, rfl, _, hcb⟩ := hb
  have HA := Lib.hid hca
  have HB := Lib.hid hcb
  clear hca hcb
  by_cases h1 : 60 < xs.length
  · have S := Lib.hid (show largeB xs ys = true by unfold largeB; rw [decide_eq_false (by omega)]; rfl)
    have h1' : (60 : Int) < xs.length := by omega
    go_enter Try.func7, Try.ntmps7
    go_wp2_with fail
    go_ret
    exact ⟨by rw [S.out]; rfl, rfl⟩
  · have h1' : (xs.length : Int) ≤ 60 := by omega
    by_cases h2 : 60 < ys.length
    · have S := Lib.hid (show largeB xs ys = true by unfold largeB; rw [decide_eq_false (by omega)]; rfl)
      have h2' : (60 : Int) < ys.length := by omega
      go_enter Try.func7, Try.ntmps7
      go_wp2_with fail
      go_ret
      exact ⟨by rw [S.out]; rfl, rfl⟩
    · have h2' : (ys.length : Int) ≤ 60 := by omega
      go_enter Try.func7, Try.ntmps7
      go_wp2_with fail
      go_loopw [19] (fun i wr => ∃ n : Nat, n ≤ xs.length ∧ i = .int .i64 n ∧ Short n xs ∧ wr = w) (fun i _ => xs.length - (intOf i).toNat)
      case atStart => exact ⟨0, by omega, rfl, fun j hj => by omega, rfl⟩
      case round =>
        obtain ⟨n, hn, rfl, hs, hw⟩ := hrel
        have hw' := hw.symm
        clear hw
        subst hw'
        have S := Lib.hid hs
        clear hs
        by_cases hlt : n < xs.length
        · have hlt' : (n : Int) < (xs.length : Int) := by omega
          obtain ⟨g, z, rfl, hc⟩ := HA.out (by omega)
          obtain ⟨u, hu, hus⟩ := hc n hlt
          obtain ⟨uo, uc, rfl⟩ := src_len hus
          clear hc hus
          by_cases hlong : 300 < (xs.getD n []).length
          · have F := Lib.hid (show largeB xs ys = true by unfold largeB; rw [decide_eq_false (fun hh => by have := hh.2.1 n hlt; omega)]; rfl)
            have hlong' : (300 : Int) < ((xs.getD n []).length : Int) := by omega
            obtain ⟨m, hm⟩ : ∃ m, (xs.getD n []).length = m := ⟨_, rfl⟩
            rw [hm] at hu hlong'
            clear hm hlong
            go_wp2_with fail
            go_ret
            exact ⟨by rw [F.out]; rfl, rfl⟩
          · have F := Lib.hid (show Short (n + 1) xs from fun j hj => by
              by_cases hjn : j = n
              · subst hjn; omega
              · exact S.out j (by omega))
            have hlong' : ((xs.getD n []).length : Int) ≤ 300 := by omega
            obtain ⟨m, hm⟩ : ∃ m, (xs.getD n []).length = m := ⟨_, rfl⟩
            rw [hm] at hu hlong'
            clear hm hlong
            go_wp2_with fail
            go_roundw
            case rel => exact ⟨n + 1, by omega, by go_num, F.out, by trivial⟩
            case measure => simp [intOf] <;> omega
        · have hge : (xs.length : Int) ≤ n := by omega
          have SA := Lib.hid (show Short xs.length xs from fun j hj => S.out j (by omega))
          clear hlt
          go_wp2_with fail
          go_loopw [29] (fun i wr => ∃ n : Nat, n ≤ ys.length ∧ i = .int .i64 n ∧ Short n ys ∧ wr = w) (fun i _ => ys.length - (intOf i).toNat)
          case atStart => exact ⟨0, by omega, rfl, fun j hj => by omega, rfl⟩
          case round =>
            obtain ⟨n, hn, rfl, hs, hw⟩ := hrel
            have hw' := hw.symm
            clear hw
            subst hw'
            have S2 := Lib.hid hs
            clear hs
            by_cases hlt : n < ys.length
            · have hlt' : (n : Int) < (ys.length : Int) := by omega
              obtain ⟨g, z, rfl, hc⟩ := HB.out (by omega)
              obtain ⟨u, hu, hus⟩ := hc n hlt
              obtain ⟨uo, uc, rfl⟩ := src_len hus
              clear hc hus
              by_cases hlong : 300 < (ys.getD n []).length
              · have F := Lib.hid (show largeB xs ys = true by unfold largeB; rw [decide_eq_false (fun hh => by have := hh.2.2 n hlt; omega)]; rfl)
                have hlong' : (300 : Int) < ((ys.getD n []).length : Int) := by omega
                obtain ⟨m, hm⟩ : ∃ m, (ys.getD n []).length = m := ⟨_, rfl⟩
                rw [hm] at hu hlong'
                clear hm hlong
                go_wp2_with fail
                go_ret
                exact ⟨by rw [F.out]; rfl, rfl⟩
              · have F := Lib.hid (show Short (n + 1) ys from fun j hj => by
                  by_cases hjn : j = n
                  · subst hjn; omega
                  · exact S2.out j (by omega))
                have hlong' : ((ys.getD n []).length : Int) ≤ 300 := by omega
                obtain ⟨m, hm⟩ : ∃ m, (ys.getD n []).length = m := ⟨_, rfl⟩
                rw [hm] at hu hlong'
                clear hm hlong
                go_wp2_with fail
                go_roundw
                case rel => exact ⟨n + 1, by omega, by go_num, F.out, by trivial⟩
                case measure => simp [intOf] <;> omega
            · have hge : (ys.length : Int) ≤ n := by omega
              have F := Lib.hid (show largeB xs ys = false by unfold largeB; rw [decide_eq_true ⟨⟨by omega, by omega⟩, SA.out, fun j hj => S2.out j (by omega)⟩]; rfl)
              clear hlt
              go_wp2_with fail
              go_ret
              exact ⟨by rw [F.out]; rfl, rfl⟩

end Go.Proofs.Ytcfkokjfhjdbfaa

