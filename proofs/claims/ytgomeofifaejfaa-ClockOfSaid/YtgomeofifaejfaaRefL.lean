/-
  staitheref02's List.
-/
import Derived.Test.YtgomeofifaejfaaRefC
namespace Go.Proofs.Ytgomeofifaejfaa
open Go.RowKit
set_option linter.unusedVariables false
set_option linter.unusedSimpArgs false
set_option maxRecDepth 100000

def RListPost (ns : List Int) (w : World) (r : Ending) (w' : World) : Prop := ∃ v, r = .returned v ∧ Src w' v (trim ns) ∧ Below w.heap.size w w'

theorem cell_new1 (W : World) (v : Value) (t : TypeId) : (W.alloc (.cells #[v] t)).cell? ⟨W.heap.size, 0, none⟩ = some v := by simp

set_option maxHeartbeats 1000000 in
theorem rlist_any (b : Nat) (ns : List Int) (w : World) (h : RAt w b ns) (hp : ∀ u : Int, 0 ≤ at0 ns u) :
    Calls Try.prog 20 #[.pointer (some ⟨b, 0, none⟩)] w (RListPost ns w) := by
  obtain ⟨i0, hi, hz0, hz1, hz2⟩ := info_parts info_int
  have H := Lib.hid h
  have HP := Lib.hid hp
  have hlen := h.1
  have HF := Lib.hid h.facts.1
  clear hp h
  go_enter Try.func20, Try.ntmps20
  go_wp2_with fail
  go_loopw [3, 4] (fun l i wr => ∃ k : Nat, k ≤ 256 ∧ i = .int .i64 k ∧ l = .int .i64 (trimN ns k : Nat) ∧ wr = w) (fun _ i _ => 256 - (intOf i).toNat)
  case atStart => exact ⟨0, by omega, rfl, rfl, rfl⟩
  case round =>
    obtain ⟨k, hk, rfl, rfl, hw⟩ := hrel
    have hw' := hw.symm
    clear hw
    subst hw'
    by_cases hlt : k < 256
    · have hlt' : (k : Int) < 256 := by omega
      have c0 := HF.out k hlt
      have P := HP.out k
      rw [at0_nat] at P
      by_cases hz : ns.getD k 0 = 0
      · have T := Lib.hid (show trimN ns (k + 1) = trimN ns k by rw [trimN_succ, if_pos hz])
        rw [hz] at c0
        clear hz P
        go_wp2_with fail
        go_roundw
        case rel => exact ⟨k + 1, by omega, by go_num, by rw [T.out], by trivial⟩
        case measure => simp [intOf] <;> omega
      · have T := Lib.hid (show trimN ns (k + 1) = k + 1 by rw [trimN_succ, if_neg hz])
        obtain ⟨u, hu⟩ : ∃ u, ns.getD k 0 = u := ⟨_, rfl⟩
        rw [hu] at c0 P hz
        clear hu
        have hu0 : 0 < u := by omega
        clear hz P
        go_wp2_with fail
        go_roundw
        case rel => exact ⟨k + 1, by omega, by go_num, by rw [T.out]; go_num, by trivial⟩
        case measure => simp [intOf] <;> omega
    · have hkk : k = 256 := by omega
      obtain ⟨L, hL⟩ : ∃ L, trimN ns k = L := ⟨_, rfl⟩
      have hLe : L ≤ 256 := by rw [← hL, ← hkk]; exact trimN_le ns k
      have T := Lib.hid (show trim ns = ns.take L by unfold trim; rw [hlen, ← hkk, hL])
      rw [hL]
      have hge : (256 : Int) ≤ k := by omega
      clear hL hkk hlt
      go_wp2_with fail
      go_loopw [5, 6] (fun v i w2 => ∃ k : Nat, k ≤ L ∧ i = .int .i64 k ∧ w2.ownsRow w.heap.size 3 1 v k (ints (ns.take k)) ∧ Below w.heap.size w w2) (fun _ i _ => L - (intOf i).toNat)
      case atStart => exact ⟨0, by omega, rfl, World.ownsRow_nil _ _ _ _, Below.refl _ _⟩
      case round =>
        obtain ⟨k, hk, rfl, hown, hb⟩ := hrel
        by_cases hlt : k < L
        · have hlt' : (k : Int) < (L : Int) := by omega
          have hk256 : (k : Int) < 256 := by omega
          have c00 := HF.out k (by omega)
          have c0 := (hb.cell (p := ⟨b, k, none⟩) (block_lt_of_cell c00)).trans c00
          have G := Lib.hid (show ns.take (k + 1) = ns.take k ++ [ns.getD k 0] by
            rw [List.take_add_one]; simp [List.getD, show k < ns.length by omega])
          obtain ⟨u, hu⟩ : ∃ u, ns.getD k 0 = u := ⟨_, rfl⟩
          rw [hu] at c0
          have U := Lib.hid hu
          clear hu c00
          go_wp2_with (at_builtin; refine wpList_append_own _ rfl _ _ 22 rfl w.heap.size 3 i0 (.int .i64 0) 1 8 Try.underlying22 hi hz0 hz1 hz2 rfl (by decide) _ _ _ rfl (show World.ownsRow _ _ _ _ _ _ _ from hown.alloc _) ⟨wr.heap.size, 0, none⟩ 1 1 [.int .i64 u] rfl rfl ?c1 ?c2 ?c3 ?c4 ?c5 ?_)
          case c1 =>
            intro j u hj
            match j, hj with
            | 0, hj => simp at hj; subst hj; exact cell_new1 wr _ _
          case c2 => intro u hu; simp at hu; subst hu; rfl
          case c3 => unfold maxLen; omega
          case c4 => omega
          case c5 => have := hb.size; simp; omega
          · intro v' w1 hown' hgrow _
            have hb' : Below w.heap.size w w1 := (hb.alloc hb.size _).grown hgrow (by have := hb.size; simp; omega) (fun k hk => (hown.lt k hk).1)
            have ho : w1.ownsRow w.heap.size 3 1 v' (k + 1) (ints (ns.take (k + 1))) := by
              rw [G.out, U.out, ints_append]; exact hown'
            clear hown' hgrow hown hb
            go_wp2
            go_roundw
            case rel => exact ⟨k + 1, by omega, by go_num, ho, hb'⟩
            case measure => simp [intOf] <;> omega
        · have hkL : k = L := by omega
          subst hkL
          go_wp2
          go_ret
          exact ⟨_, rfl, by rw [T.out]; exact Src.of_owns hown, hb⟩

end Go.Proofs.Ytgomeofifaejfaa
