
/-
  staitheref02: Get, Set, Tick, Join, Within, List of a clock that lies anywhere.
-/
import Derived.Test.YtlkfhobacgnckaaRefC
import Derived.Deep.QuietTactic
import Derived.Deep.RegionWith
namespace Go.Proofs.Ytlkfhobacgnckaa
open Go.RowKit
set_option linter.unusedVariables false
set_option linter.unusedSimpArgs false
set_option maxRecDepth 100000

/-- The 256 cells from a place on are this clock. -/
def RC (w : World) (b o : Nat) (ns : List Int) : Prop := ns.length = 256 ∧ (∀ i, i < 256 → w.cell? ⟨b, o + i, none⟩ = some (.int .i64 (ns.getD i 0))) ∧ ∀ i, w.frozen? ⟨b, i, none⟩ = false
theorem RC.range {w : World} {b o : Nat} {ns : List Int} (h : RC w b o ns) : w.rangeAt b o (ints ns) := by
  intro j v hj
  have hl : j < ns.length := by
    have := (List.getElem?_eq_some_iff.1 hj).1
    rwa [length_ints] at this
  rw [getElem?_ints ns j hl] at hj
  rw [h.2.1 j (by have := h.1; omega)]
  exact hj
theorem RC.lt {w : World} {b o : Nat} {ns : List Int} (h : RC w b o ns) : b < w.heap.size := block_lt_of_cell (h.2.1 0 (by omega))
theorem RC.below {w w' : World} {b o : Nat} {ns : List Int} (h : RC w b o ns) {n : Nat} (hn : w.heap.size ≤ n) (hB : Below n w w') : RC w' b o ns := by
  have hb : b < n := Nat.lt_of_lt_of_le h.lt hn
  exact ⟨h.1, fun i hi => by rw [hB.cell (p := ⟨b, o + i, none⟩) hb]; exact h.2.1 i hi, fun i => by rw [hB.frozen (p := ⟨b, i, none⟩) hb]; exact h.2.2 i⟩
theorem RC.set {w : World} {b o : Nat} {ns : List Int} (h : RC w b o ns) (t : Nat) (ht : t < 256) (n : Int) : RC (w.setCell ⟨b, o + t, none⟩ (.int .i64 n)) b o (ns.set t n) := by
  refine ⟨by rw [List.length_set]; exact h.1, fun i hi => ?_, fun i => by rw [World.frozen?_setCell]; exact h.2.2 i⟩
  have hl := h.1
  by_cases hit : i = t
  · subst hit
    rw [World.cell?_setCell_same _ _ _ (h.2.1 i hi)]
    simp [List.getD, hl, hi]
  · rw [World.cell?_setCell_other _ _ _ _ (by intro e; injection e with e1 e2; omega), h.2.1 i hi]
    simp [List.getD, List.getElem?_set, show ¬ t = i from fun e => hit e.symm]

theorem rc_set_no (p : Value) (t n : Int) (w : World) (h : ¬ ((0 ≤ t ∧ t < 256) ∧ 0 ≤ n ∧ n ≤ 1048576)) :
    Calls Try.prog 42 #[p, .int .i64 t, .int .i64 n] w fun r w' => r = .returned (.int .i64 1) ∧ w = w' := by
  cases a : decide (t < 0) <;> cases b : decide (256 ≤ t) <;> cases c : decide (n < 0) <;> cases d : decide (1048576 < n)
  all_goals first
    | (exfalso; simp at a b c d; omega)
    | (clear h
       go_enter Try.func42, Try.ntmps42
       go_wp2_with fail
       go_ret
       exact ⟨rfl, rfl⟩)
theorem rc_set (b o : Nat) (ns : List Int) (t : Nat) (n : Int) (w : World) (h : RC w b o ns) (ht : t < 256) (h0 : 0 ≤ n) (h1 : n ≤ 1048576) :
    Calls Try.prog 42 #[.pointer (some ⟨b, o, none⟩), .int .i64 t, .int .i64 n] w fun r w' => r = .returned (.int .i64 0) ∧ w' = w.setCell ⟨b, o + t, none⟩ (.int .i64 n) := by
  have c0 := h.2.1 t ht
  have f0 := h.2.2 (o + t)
  have ht' : (t : Int) < 256 := by omega
  have d1 : decide ((t : Int) < 0) = false := decide_eq_false (by omega)
  have d2 : decide (256 ≤ (t : Int)) = false := decide_eq_false (by omega)
  have d3 : decide (n < 0) = false := decide_eq_false (by omega)
  have d4 : decide (1048576 < n) = false := decide_eq_false (by omega)
  go_enter Try.func42, Try.ntmps42
  go_wp2_with fail
  go_ret
  exact ⟨rfl, rfl⟩

def RTick (b o : Nat) (ns : List Int) (t : Nat) (most : Int) (w : World) (r : Ending) (w' : World) : Prop :=
  (most ≤ ns.getD t 0 ∧ r = .returned (.int .i64 5) ∧ w = w') ∨ (ns.getD t 0 < most ∧ r = .returned (.int .i64 0) ∧ w' = (w.setCell ⟨b, o + t, none⟩ (.int .i64 (ns.getD t 0 + 1))).drew)
def LeT (n : Nat) (a b : List Int) : Prop := ∀ j, j < n → a.getD j 0 ≤ b.getD j 0
instance (n : Nat) (a b : List Int) : Decidable (LeT n a b) := by unfold LeT; infer_instance
def leB (a b : List Int) : Bool := decide (LeT 256 a b)

theorem boxed {w W : World} {Z : Array Value} {ns : List Int} {t : TypeId} (hZ : (ints ns).toArray = Z) (hl : ns.length = 256) (hW : w.alloc (.cells Z t) = W) : RC W w.heap.size 0 ns ∧ Below w.heap.size w W := by
  subst hZ hW
  refine ⟨⟨hl, fun i hi => ?_, fun i => by simp only [World.frozen?, heap_alloc_new]; simp⟩, (Below.refl _ _).alloc (Nat.le_refl _) _⟩
  have := getElem?_ints ns i (by omega)
  simp only [World.cell?, heap_alloc_new, Nat.zero_add]
  simpa using this

theorem cell_newS (W : World) (v : Value) (t : TypeId) : (W.alloc (.cells #[v] t)).cell? ⟨W.heap.size, 0, none⟩ = some v := by simp
def RCList (ns : List Int) (w : World) (r : Ending) (w' : World) : Prop := ∃ v, r = .returned v ∧ Src w' v (trim ns) ∧ Below w.heap.size w w'

set_option maxHeartbeats 1000000 in
theorem rc_list (b o : Nat) (ns : List Int) (w : World) (h : RC w b o ns) (hp : ∀ u : Int, 0 ≤ at0 ns u) :
    Calls Try.prog 41 #[.pointer (some ⟨b, o, none⟩)] w (RCList ns w) := by
  obtain ⟨i0, hi, hz0, hz1, hz2⟩ := info_parts info_int
  have H := Lib.hid h
  have HP := Lib.hid hp
  have hlen := h.1
  have HF := Lib.hid h.2.1
  clear hp h
  go_enter Try.func41, Try.ntmps41
  go_wp2_with fail
  go_loopw [3, 4] (fun l i wr => ∃ k : Nat, k ≤ 256 ∧ i = .int .i64 k ∧ l = .int .i64 (trimN ns k : Nat) ∧ wr = w) (fun _ i _ => 256 - (intOf i).toNat)
  case atStart => exact ⟨0, by omega, rfl, rfl, rfl⟩
  case round =>
    obtain ⟨k, hk, rfl, rfl, hw⟩ := hrel
    have hw' := hw.symm
    clear hw
    subst hw'
    by_cases hlt : k < 256
    · have hlt' : (k : Int) < 256 := by omega
      have c0 := HF.out k hlt
      have P := HP.out k
      rw [at0_nat] at P
      by_cases hz : ns.getD k 0 = 0
      · have T := Lib.hid (show trimN ns (k + 1) = trimN ns k by rw [trimN_succ, if_pos hz])
        rw [hz] at c0
        clear hz P
        go_wp2_with fail
        go_roundw
        case rel => exact ⟨k + 1, by omega, by go_num, by rw [T.out], by trivial⟩
        case measure => simp [intOf] <;> omega
      · have T := Lib.hid (show trimN ns (k + 1) = k + 1 by rw [trimN_succ, if_neg hz])
        obtain ⟨u, hu⟩ : ∃ u, ns.getD k 0 = u := ⟨_, rfl⟩
        rw [hu] at c0 P hz
        clear hu
        have hu0 : 0 < u := by omega
        clear hz P
        go_wp2_with fail
        go_roundw
        case rel => exact ⟨k + 1, by omega, by go_num, by rw [T.out]; go_num, by trivial⟩
        case measure => simp [intOf] <;> omega
    · have hkk : k = 256 := by omega
      obtain ⟨L, hL⟩ : ∃ L, trimN ns k = L := ⟨_, rfl⟩
      have hLe : L ≤ 256 := by rw [← hL, ← hkk]; exact trimN_le ns k
      have T := Lib.hid (show trim ns = ns.take L by unfold trim; rw [hlen, ← hkk, hL])
      rw [hL]
      have hge : (256 : Int) ≤ k := by omega
      clear hL hkk hlt
      go_wp2_with fail
      go_loopw [5, 6] (fun v i w2 => ∃ k : Nat, k ≤ L ∧ i = .int .i64 k ∧ w2.ownsRow w.heap.size 3 1 v k (ints (ns.take k)) ∧ Below w.heap.size w w2) (fun _ i _ => L - (intOf i).toNat)
      case atStart => exact ⟨0, by omega, rfl, World.ownsRow_nil _ _ _ _, Below.refl _ _⟩
      case round =>
        obtain ⟨k, hk, rfl, hown, hb⟩ := hrel
        by_cases hlt : k < L
        · have hlt' : (k : Int) < (L : Int) := by omega
          have hk256 : (k : Int) < 256 := by omega
          have c00 := HF.out k (by omega)
          have c0 := (hb.cell (p := ⟨b, o + k, none⟩) (block_lt_of_cell c00)).trans c00
          have G := Lib.hid (show ns.take (k + 1) = ns.take k ++ [ns.getD k 0] by
            rw [List.take_add_one]; simp [List.getD, show k < ns.length by omega])
          obtain ⟨u, hu⟩ : ∃ u, ns.getD k 0 = u := ⟨_, rfl⟩
          rw [hu] at c0
          have U := Lib.hid hu
          clear hu c00
          go_wp2_with (at_builtin; refine wpList_append_own _ rfl _ _ 31 rfl w.heap.size 3 i0 (.int .i64 0) 1 8 Try.underlying31 hi hz0 hz1 hz2 rfl (by decide) _ _ _ rfl (show World.ownsRow _ _ _ _ _ _ _ from hown.alloc _) ⟨wr.heap.size, 0, none⟩ 1 1 [.int .i64 u] rfl rfl ?c1 ?c2 ?c3 ?c4 ?c5 ?_)
          case c1 =>
            intro j u hj
            match j, hj with
            | 0, hj => simp at hj; subst hj; exact cell_newS wr _ _
          case c2 => intro u hu; simp at hu; subst hu; rfl
          case c3 => unfold maxLen; omega
          case c4 => omega
          case c5 => have := hb.size; simp; omega
          · intro v' w1 hown' hgrow _
            have hb' : Below w.heap.size w w1 := (hb.alloc hb.size _).grown hgrow (by have := hb.size; simp; omega) (fun k hk => (hown.lt k hk).1)
            have ho : w1.ownsRow w.heap.size 3 1 v' (k + 1) (ints (ns.take (k + 1))) := by
              rw [G.out, U.out, ints_append]; exact hown'
            clear hown' hgrow hown hb
            go_wp2
            go_roundw
            case rel => exact ⟨k + 1, by omega, by go_num, ho, hb'⟩
            case measure => simp [intOf] <;> omega
        · have hkL : k = L := by omega
          subst hkL
          go_wp2
          go_ret
          exact ⟨_, rfl, by rw [T.out]; exact Src.of_owns hown, hb⟩

/-- Of block b nothing but the n cells from o on has turned; of all other old blocks nothing. -/
structure Only (b o n : Nat) (w w' : World) : Prop where
  os : w'.os = w.os
  tape : w'.tape = w.tape
  output : w'.output = w.output
  size : w.heap.size ≤ w'.heap.size
  block : ∀ i, i < w.heap.size → i ≠ b → w'.heap[i]? = w.heap[i]?
  here : ∀ (cur : Array Value) (e : TypeId), w.heap[b]? = some (Obj.cells cur e (0, 0)) → ∃ cur' : Array Value, w'.heap[b]? = some (Obj.cells cur' e (0, 0)) ∧ cur'.size = cur.size ∧ ∀ j, (j < o ∨ o + n ≤ j) → cur'[j]? = cur[j]?
theorem Only.refl (b o n : Nat) (w : World) : Only b o n w w := ⟨rfl, rfl, rfl, Nat.le_refl _, fun _ _ _ => rfl, fun cur e h => ⟨cur, h, rfl, fun _ _ => rfl⟩⟩
theorem Only.trans {b o n : Nat} {u v w : World} (h : Only b o n u v) (k : Only b o n v w) : Only b o n u w := by
  refine ⟨k.os.trans h.os, k.tape.trans h.tape, k.output.trans h.output, Nat.le_trans h.size k.size, fun i hi hb => (k.block i (Nat.lt_of_lt_of_le hi h.size) hb).trans (h.block i hi hb), fun cur e hc => ?_⟩
  obtain ⟨c1, h1, s1, e1⟩ := h.here cur e hc
  obtain ⟨c2, h2, s2, e2⟩ := k.here c1 e h1
  exact ⟨c2, h2, s2.trans s1, fun j hj => (e2 j hj).trans (e1 j hj)⟩
theorem Only.of_below {b o n : Nat} {w w' : World} (hB : Below w.heap.size w w') : Only b o n w w' :=
  ⟨hB.os, hB.tape, hB.output, hB.size, fun i hi _ => hB.block i hi, fun cur e h => ⟨cur, (hB.block b (lt_of_heap h)).trans h, rfl, fun _ _ => rfl⟩⟩
theorem Only.of_set {b o n t : Nat} {w : World} (v : Value) (ht : t < n) : Only b o n w (w.setCell ⟨b, o + t, none⟩ v) := by
  refine ⟨rfl, rfl, rfl, by simp [World.setCell], fun i _ hb => heap_setCell_other _ _ _ _ hb, fun cur e h => ⟨_, heap_setCell_same w b (o + t) _ _ _ h, by rw [Array.size_setIfInBounds], fun j hj => ?_⟩⟩
  rw [Array.getElem?_setIfInBounds]
  rw [if_neg (by omega)]
theorem Only.drew {b o n : Nat} {w w' : World} (h : Only b o n w w') : Only b o n w w'.drew := ⟨h.os, h.tape, h.output, h.size, h.block, h.here⟩

theorem RC.drawn {w : World} {b o : Nat} {ns : List Int} (h : RC w b o ns) (m : Nat) : RC (w.drewN m) b o ns := ⟨h.1, h.2.1, h.2.2⟩
theorem RC.other {w : World} {b o c q : Nat} {ns : List Int} {v : Value} (h : RC w b o ns) (hne : b ≠ c) : RC (w.setCell ⟨c, q, none⟩ v) b o ns :=
  ⟨h.1, fun i hi => by rw [World.cell?_setCell_other _ _ _ _ (by intro e; injection e with e1 e2; exact hne e1.symm)]; exact h.2.1 i hi, fun i => by rw [World.frozen?_setCell]; exact h.2.2 i⟩

/-- Of each number the greater one. -/
def maxZ (xs ys : List Int) : List Int := (List.range 256).map fun j => if xs.getD j 0 < ys.getD j 0 then ys.getD j 0 else xs.getD j 0
def RJoin (b o : Nat) (xs ys : List Int) (w : World) (r : Ending) (w' : World) : Prop :=
  ∃ zs, r = .returned (.bool (!leB ys xs)) ∧ RC w' b o zs ∧ (∀ j, j < 256 → zs.getD j 0 = max (xs.getD j 0) (ys.getD j 0)) ∧ Only b o 256 w w'

end Go.Proofs.Ytlkfhobacgnckaa

