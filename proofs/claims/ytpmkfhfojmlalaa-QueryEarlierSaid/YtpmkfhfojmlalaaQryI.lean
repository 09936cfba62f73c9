
/-
  staithelaw22: cut, large.
-/
import Derived.Test.YtpmkfhfojmlalaaQryH
namespace Go.Proofs.Ytpmkfhfojmlalaa
open Go.RowKit
set_option linter.unusedVariables false
set_option linter.unusedSimpArgs false
set_option maxRecDepth 100000

def cutEv : List Ev := [⟨9, 1, 0, 0, 0, 0, false, false⟩, ⟨13, -1, 0, 0, 0, 0, false, false⟩, ⟨9, 0, 0, 0, 0, 0, false, false⟩]
def cutSt : List (Int × List Int) := [(8589934595, [0, 3]), (0, []), (4294967301, [5])]
def cutRec : List Rec := [⟨0, 0, -1, false, 0, 0⟩, ⟨1, 1, -1, true, 1, 3⟩]
abbrev cutO0 : Obj := .cells #[.int .i64 9, .int .i64 1, .int .i64 0, .int .i64 0, .int .i64 0, .int .i64 0, .bool false, .bool false, .int .i64 13, .int .i64 (-1), .int .i64 0, .int .i64 0, .int .i64 0, .int .i64 0, .bool false, .bool false, .int .i64 9, .int .i64 0, .int .i64 0, .int .i64 0, .int .i64 0, .int .i64 0, .bool false, .bool false] 50
abbrev cutO1 : Obj := .cells #[.int .i64 0, .int .i64 3] 3
abbrev cutO2 : Obj := .cells #[.int .i64 5] 3
abbrev cutO3 (n : Nat) : Obj := .cells #[.int .u64 8589934595, .slice (some ⟨n + 1, 0, none⟩) 2 2, .int .u64 0, .slice none 0 0, .int .u64 4294967301, .slice (some ⟨n + 1 + 1, 0, none⟩) 1 1] 55
abbrev cutO4 : Obj := .cells #[.int .i64 0, .int .i64 0, .int .i64 (-1), .bool false, .int .i64 0, .int .i64 0, .int .i64 1, .int .i64 1, .int .i64 (-1), .bool true, .int .i64 1, .int .i64 3] 45
abbrev cutO5 (n : Nat) : Obj := .cells #[.slice (some ⟨n, 0, none⟩) 3 3, .slice (some ⟨n + 1 + 1 + 1, 0, none⟩) 3 3, .slice (some ⟨n + 1 + 1 + 1 + 1, 0, none⟩) 2 2] 26
def cutW (w : World) : World := (((((w.alloc cutO0).alloc cutO1).alloc cutO2).alloc (cutO3 w.heap.size)).alloc cutO4).alloc (cutO5 w.heap.size)

theorem push_old (w : World) (o : Obj) {n : Nat} {x : Obj} (h : w.heap[n]? = some x) : (w.alloc o).heap[n]? = some x := by
  rw [heap_alloc_old w o (lt_of_heap h)]; exact h

theorem cut_heap (w : World) : (cutW w).heap[w.heap.size]? = some cutO0 ∧ (cutW w).heap[w.heap.size + 1]? = some cutO1 ∧ (cutW w).heap[w.heap.size + 1 + 1]? = some cutO2 ∧ (cutW w).heap[w.heap.size + 1 + 1 + 1]? = some (cutO3 w.heap.size) ∧ (cutW w).heap[w.heap.size + 1 + 1 + 1 + 1]? = some cutO4 ∧ (cutW w).heap[w.heap.size + 1 + 1 + 1 + 1 + 1]? = some (cutO5 w.heap.size) := by
  have a0 := heap_push w cutO0 rfl
  have a1 := heap_push (w.alloc cutO0) cutO1 (size_alloc w cutO0)
  have a2 := heap_push ((w.alloc cutO0).alloc cutO1) cutO2 (by rw [size_alloc, size_alloc])
  have a3 := heap_push (((w.alloc cutO0).alloc cutO1).alloc cutO2) (cutO3 w.heap.size) (by rw [size_alloc, size_alloc, size_alloc])
  have a4 := heap_push ((((w.alloc cutO0).alloc cutO1).alloc cutO2).alloc (cutO3 w.heap.size)) cutO4 (by rw [size_alloc, size_alloc, size_alloc, size_alloc])
  have a5 := heap_push (((((w.alloc cutO0).alloc cutO1).alloc cutO2).alloc (cutO3 w.heap.size)).alloc cutO4) (cutO5 w.heap.size) (by rw [size_alloc, size_alloc, size_alloc, size_alloc, size_alloc])
  unfold cutW
  exact ⟨push_old _ _ (push_old _ _ (push_old _ _ (push_old _ _ (push_old _ _ a0)))), push_old _ _ (push_old _ _ (push_old _ _ (push_old _ _ a1))), push_old _ _ (push_old _ _ (push_old _ _ a2)), push_old _ _ (push_old _ _ a3), push_old _ _ a4, a5⟩

theorem cut_below (w : World) : Below w.heap.size w (cutW w) := by
  unfold cutW
  exact ((((((Below.refl _ _).alloc (Nat.le_refl _) _).alloc (by simp) _).alloc (by simp; omega) _).alloc (by simp; omega) _).alloc (by simp; omega) _).alloc (by simp; omega) _

theorem cut_log (w : World) : LogOf (cutW w) (.slice (some ⟨w.heap.size, 0, none⟩) 3 3) (.slice (some ⟨w.heap.size + 1 + 1 + 1, 0, none⟩) 3 3) (.slice (some ⟨w.heap.size + 1 + 1 + 1 + 1, 0, none⟩) 2 2) cutEv cutSt cutRec := by
  obtain ⟨a0, a1, a2, a3, a4, a5⟩ := cut_heap w
  have s0 : Src (cutW w) (.slice (some ⟨w.heap.size + 1, 0, none⟩) 2 2) [0, 3] := ⟨_, _, rfl, (fun e => nomatch e), fun _ => ⟨_, 0, rfl, fun j hj => by
    simp only [World.cell?, a1]
    match j, hj with
    | 0, _ => rfl
    | 1, _ => rfl⟩⟩
  have s1 : Src (cutW w) (.slice (some ⟨w.heap.size + 1 + 1, 0, none⟩) 1 1) [5] := ⟨_, _, rfl, (fun e => nomatch e), fun _ => ⟨_, 0, rfl, fun j hj => by
    simp only [World.cell?, a2]
    match j, hj with
    | 0, _ => rfl⟩⟩
  refine ⟨⟨_, _, rfl, fun _ => ⟨_, 0, rfl, fun i hi => ?_⟩⟩, ⟨_, _, rfl, fun _ => ⟨_, 0, rfl, fun i hi => ?_⟩⟩, ⟨_, _, rfl, fun _ => ⟨_, 0, rfl, fun i hi => ?_⟩⟩, by decide, by decide, by decide⟩
  · match i, hi with
    | 0, _ => constructor <;> (simp only [World.cell?, a0]; rfl)
    | 1, _ => constructor <;> (simp only [World.cell?, a0]; rfl)
    | 2, _ => constructor <;> (simp only [World.cell?, a0]; rfl)
  · match i, hi with
    | 0, _ => exact ⟨by decide, by simp only [World.cell?, a3]; rfl, _, by simp only [World.cell?, a3]; rfl, s0⟩
    | 1, _ => exact ⟨by decide, by simp only [World.cell?, a3]; rfl, _, by simp only [World.cell?, a3]; rfl, Src.nil _⟩
    | 2, _ => exact ⟨by decide, by simp only [World.cell?, a3]; rfl, _, by simp only [World.cell?, a3]; rfl, s1⟩
  · match i, hi with
    | 0, _ => constructor <;> (simp only [World.cell?, a4]; rfl)
    | 1, _ => constructor <;> (simp only [World.cell?, a4]; rfl)

theorem cut_any (w : World) : Calls Try.prog 7 #[] w (RetB (.bool true) w) := by
  go_enter Try.func7, Try.ntmps7
  go_wp2_with fail
  refine (pack_yes 1 3 _ (by decide)).mono ?_
  rintro r w' ⟨rfl, rfl⟩
  go_wp2_with fail
  refine (pack_yes 0 5 _ (by decide)).mono ?_
  rintro r w' ⟨rfl, rfl⟩
  have p1 : ep 1 3 = 8589934595 := by decide
  have p2 : ep 0 5 = 4294967301 := by decide
  rw [p2]
  try rw [p1]
  clear p1 p2
  go_wp2_with fail
  have HL := Lib.hid (cut_heap w).2.2.2.2.2
  refine (before_any _ _ _ cutEv cutSt cutRec 0 2 (cutW w) (cut_log w)).mono ?_
  rintro r w1 ⟨rfl, hB1⟩
  rw [show beforeV cutEv cutSt cutRec 0 2 = (true, 0) by decide]
  have h1 := (hB1.block _ (lt_of_heap HL.out)).trans HL.out
  obtain ⟨m0, m1, m2⟩ := load_log h1
  have H1 := Lib.hid h1
  have L1 := Lib.hid ((cut_log w).below hB1)
  have B1 := Lib.hid (below_trans (cut_below w) hB1 (cut_below w).size)
  clear h1 hB1
  go_wp2_with fail
  refine (before_any _ _ _ cutEv cutSt cutRec 2 0 w1 L1.out).mono ?_
  rintro r w2 ⟨rfl, hB2⟩
  rw [show beforeV cutEv cutSt cutRec 2 0 = (false, 0) by decide]
  have h2 := (hB2.block _ (lt_of_heap H1.out)).trans H1.out
  obtain ⟨n0, n1, n2⟩ := load_log h2
  have L2 := Lib.hid (L1.out.below hB2)
  have B2 := Lib.hid (below_trans B1.out hB2 B1.out.size)
  clear h2 hB2 m0 m1 m2
  go_wp2_with fail
  refine (before_any _ _ _ cutEv cutSt cutRec 0 1 w2 L2.out).mono ?_
  rintro r w3 ⟨rfl, hB3⟩
  rw [show beforeV cutEv cutSt cutRec 0 1 = (false, 6) by decide]
  clear n0 n1 n2
  go_wp2_with fail
  go_ret
  exact ⟨rfl, below_trans B2.out hB3 B2.out.size⟩

def qlargeB (n m k : Nat) : Bool := decide (500 < n ∨ 500 < m ∨ 500 < k)
theorem qlarge_any (n m k cn cm ck : Nat) (ao bo co : Option Addr) (w : World) :
    Calls Try.prog 6 #[.agg #[.slice ao n cn, .slice bo m cm, .slice co k ck]] w (RetB (.bool (qlargeB n m k)) w) := by
  have hB := Lib.hid ((Below.refl w.heap.size w).alloc (Nat.le_refl _) (.cells #[.slice ao n cn, .slice bo m cm, .slice co k ck] 26))
  by_cases h1 : (500 : Int) < n
  · have S := Lib.hid (show qlargeB n m k = true from decide_eq_true (by omega))
    go_enter Try.func6, Try.ntmps6
    go_wp2_with fail
    go_ret
    exact ⟨by rw [S.out]; rfl, hB.out⟩
  · have d1 : decide ((500 : Int) < n) = false := decide_eq_false h1
    by_cases h2 : (500 : Int) < m
    · have S := Lib.hid (show qlargeB n m k = true from decide_eq_true (by omega))
      have d2 : decide ((500 : Int) < m) = true := decide_eq_true h2
      go_enter Try.func6, Try.ntmps6
      go_wp2_with fail
      go_ret
      exact ⟨by rw [S.out]; rfl, hB.out⟩
    · have d2 : decide ((500 : Int) < m) = false := decide_eq_false h2
      by_cases h3 : (500 : Int) < k
      · have S := Lib.hid (show qlargeB n m k = true from decide_eq_true (by omega))
        have d3 : decide ((500 : Int) < k) = true := decide_eq_true h3
        go_enter Try.func6, Try.ntmps6
        go_wp2_with fail
        go_ret
        exact ⟨by rw [S.out]; rfl, hB.out⟩
      · have S := Lib.hid (show qlargeB n m k = false from decide_eq_false (by omega))
        have d3 : decide ((500 : Int) < k) = false := decide_eq_false h3
        go_enter Try.func6, Try.ntmps6
        go_wp2_with fail
        go_ret
        exact ⟨by rw [S.out]; rfl, hB.out⟩

end Go.Proofs.Ytpmkfhfojmlalaa

