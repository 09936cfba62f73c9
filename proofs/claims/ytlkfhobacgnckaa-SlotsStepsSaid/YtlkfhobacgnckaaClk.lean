
/-
  Clocks in memory: a family of clocks, each a block of two cells (a slice of numbers, a mark), whose numbers lie in a block that clocks share only where both bear the mark. Contracts of package clock's functions that read.
-/
import Derived.Test.YtlkfhobacgnckaaProg
import Derived.WalkKit
import Derived.WalkSpells
import Derived.KernelRfl
import Derived.Lib.Hide
import Derived.Deep.QuietTactic
import Derived.BigQuiet
namespace Go.Proofs.Ytlkfhobacgnckaa
open Go.RowKit
set_option linter.unusedVariables false
set_option linter.unusedSimpArgs false
set_option maxRecDepth 100000

def ints (l : List Int) : List Value := l.map (Value.int .i64)
theorem length_ints (l : List Int) : (ints l).length = l.length := by simp [ints]
theorem ints_append (l m : List Int) : ints (l ++ m) = ints l ++ ints m := by simp [ints]
theorem getElem?_ints (l : List Int) (i : Nat) (h : i < l.length) : (ints l)[i]? = some (.int .i64 (l.getD i 0)) := by
  simp [ints, h]

/-- A list's number at a place; 0 beside it. -/
def at0 (l : List Int) (t : Int) : Int := if 0 ≤ t then l.getD t.toNat 0 else 0
theorem at0_out {l : List Int} {t : Int} (h : t < 0 ∨ (l.length : Int) ≤ t) : at0 l t = 0 := by
  unfold at0
  split
  · have : l.length ≤ t.toNat := by omega
    simp [List.getD, this]
  · rfl
theorem at0_nat (l : List Int) (t : Nat) : at0 l t = l.getD t 0 := by simp [at0]

/-- What a clock holds: where its numbers lie, its numbers, whether others may have them. -/
structure Ck where
  arr : Nat
  xs : List Int
  sh : Bool

/-- Numbers of a clock: at most 256, each from 0 to 2^20. -/
def OkL (xs : List Int) : Prop := xs.length ≤ 256 ∧ ∀ x, x ∈ xs → 0 ≤ x ∧ x ≤ 1048576

/-- Block b is this clock. -/
def CkAt (w : World) (b : Nat) (k : Ck) : Prop :=
  ∃ ao cap, w.heap[b]? = some (.cells #[.slice ao k.xs.length cap, .bool k.sh] 75 (0, 0)) ∧ (k.xs.length ≤ cap ∧ (ao = none → cap = 0)) ∧ OkL k.xs ∧
    (0 < k.xs.length → ao = some ⟨k.arr, 0, none⟩ ∧ ∃ cur, w.heap[k.arr]? = some (.cells cur 3 (0, 0)) ∧ cur.toList.take k.xs.length = ints k.xs)

/-- The plain facts of a clock that a walk reads. -/
theorem CkAt.facts {w : World} {b : Nat} {k : Ck} (h : CkAt w b k) : ∃ ao cap, w.cell? ⟨b, 0, none⟩ = some (.slice ao k.xs.length cap) ∧ w.cell? ⟨b, 1, none⟩ = some (.bool k.sh) ∧
    w.frozen? ⟨b, 0, none⟩ = false ∧ w.frozen? ⟨b, 1, none⟩ = false ∧ k.xs.length ≤ cap ∧ k.xs.length ≤ 256 ∧
    (0 < k.xs.length → ao = some ⟨k.arr, 0, none⟩ ∧ (∀ i, i < k.xs.length → w.cell? ⟨k.arr, i, none⟩ = some (.int .i64 (k.xs.getD i 0))) ∧ ∀ i, w.frozen? ⟨k.arr, i, none⟩ = false) := by
  obtain ⟨ao, cap, hb, hc, ho, hx⟩ := h
  refine ⟨ao, cap, by simp [World.cell?, hb], by simp [World.cell?, hb], by simp [World.frozen?, hb], by simp [World.frozen?, hb], hc.1, ho.1, fun hp => ?_⟩
  obtain ⟨h1, cur, h2, h3⟩ := hx hp
  refine ⟨h1, fun i hi => ?_, fun i => by simp [World.frozen?, h2]⟩
  have h4 := getElem?_ints k.xs i hi
  rw [← h3, List.getElem?_take_of_lt hi] at h4
  simp only [World.cell?, h2]
  simpa using h4

/-- The facts, and that a slice that is none has no room. -/
theorem CkAt.facts2 {w : World} {b : Nat} {k : Ck} (h : CkAt w b k) : ∃ ao cap, (ao = none → k.xs.length = 0 ∧ cap = 0) ∧ w.cell? ⟨b, 0, none⟩ = some (.slice ao k.xs.length cap) ∧ w.cell? ⟨b, 1, none⟩ = some (.bool k.sh) ∧
    w.frozen? ⟨b, 0, none⟩ = false ∧ w.frozen? ⟨b, 1, none⟩ = false ∧ k.xs.length ≤ cap ∧ k.xs.length ≤ 256 ∧
    (0 < k.xs.length → ao = some ⟨k.arr, 0, none⟩ ∧ (∀ i, i < k.xs.length → w.cell? ⟨k.arr, i, none⟩ = some (.int .i64 (k.xs.getD i 0))) ∧ ∀ i, w.frozen? ⟨k.arr, i, none⟩ = false) := by
  obtain ⟨ao, cap, hb, hc, ho, hx⟩ := h
  refine ⟨ao, cap, fun e => by have := hc.2 e; omega, by simp [World.cell?, hb], by simp [World.cell?, hb], by simp [World.frozen?, hb], by simp [World.frozen?, hb], hc.1, ho.1, fun hp => ?_⟩
  obtain ⟨h1, cur, h2, h3⟩ := hx hp
  refine ⟨h1, fun i hi => ?_, fun i => by simp [World.frozen?, h2]⟩
  have h4 := getElem?_ints k.xs i hi
  rw [← h3, List.getElem?_take_of_lt hi] at h4
  simp only [World.cell?, h2]
  simpa using h4

theorem tid_any (n : Int) (w : World) :
    Calls Try.prog 37 #[.int .i64 n] w fun r w' => r = .returned (.bool (decide (0 ≤ n ∧ n < 256))) ∧ w = w' := by
  by_cases a : 0 ≤ n <;> by_cases b : n < 256
  all_goals
    go_enter Try.func37, Try.ntmps37
    go_wp2
    go_ret
    exact ⟨by simp [a, b], rfl⟩
theorem number_any (n : Int) (w : World) :
    Calls Try.prog 32 #[.int .i64 n] w fun r w' => r = .returned (.bool (decide (0 ≤ n ∧ n ≤ 1048576))) ∧ w = w' := by
  by_cases a : 0 ≤ n <;> by_cases b : n ≤ 1048576
  all_goals
    go_enter Try.func32, Try.ntmps32
    go_wp2
    go_ret
    exact ⟨by simp [a, b], rfl⟩

theorem get_nil (t : Int) (w : World) :
    Calls Try.prog 38 #[.pointer none, .int .i64 t] w fun r w' => r = .returned (.int .i64 0) ∧ w = w' := by
  go_enter Try.func38, Try.ntmps38
  go_wp2
  go_ret
  exact ⟨rfl, rfl⟩

theorem get_any (b : Nat) (k : Ck) (t : Int) (w : World) (h : CkAt w b k) :
    Calls Try.prog 38 #[.pointer (some ⟨b, 0, none⟩), .int .i64 t] w fun r w' => r = .returned (.int .i64 (at0 k.xs t)) ∧ w = w' := by
  obtain ⟨ao, cap, h0, h1, h2, h3, h4, h5, h6⟩ := h.facts
  have hq : ((Value.pointer (some ⟨b, 0, none⟩) : Value) = .pointer none) = False := by simp
  by_cases ht : 0 ≤ t ∧ t < k.xs.length
  · obtain ⟨t1, t2⟩ := ht
    obtain ⟨rfl, hc, _⟩ := h6 (by omega)
    obtain ⟨n, rfl⟩ := Int.eq_ofNat_of_zero_le t1
    have hcn := hc n (by omega)
    have F := Lib.hid (at0_nat k.xs n)
    obtain ⟨u, hu⟩ : ∃ u, k.xs.getD n 0 = u := ⟨_, rfl⟩
    rw [hu] at hcn
    have U := Lib.hid hu
    clear hu hc h6
    go_enter Try.func38, Try.ntmps38
    go_wp2
    go_ret
    exact ⟨by rw [F.out, U.out]; rfl, rfl⟩
  · have F := Lib.hid (show at0 k.xs t = 0 from at0_out (by omega))
    clear h6
    have ht2 : t < 0 ∨ (k.xs.length : Int) ≤ t := by omega
    rcases ht2 with ht2 | ht2
    · go_enter Try.func38, Try.ntmps38
      go_wp2
      all_goals (go_ret; exact ⟨by rw [F.out]; rfl, rfl⟩)
    · go_enter Try.func38, Try.ntmps38
      go_wp2
      all_goals (go_ret; exact ⟨by rw [F.out]; rfl, rfl⟩)

end Go.Proofs.Ytlkfhobacgnckaa

