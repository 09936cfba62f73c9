
/-
  Package entry: spans, shapes.
-/
import Derived.Test.YtmmkdbcgkafolaaDoorRef3
namespace Go.Proofs.YtmmkdbcgkafolaaDoor
open Go.RowKit
set_option linter.unusedVariables false
set_option linter.unusedSimpArgs false
set_option maxRecDepth 100000

/-- What the package's variables hold: spans. -/
structure Glob (w : World) : Prop where
  n0 : w.cell? ⟨1, 0, none⟩ = some (.int .i64 (-1))
  n1 : w.cell? ⟨1, 1, none⟩ = some (.int .i64 (-1))
  i0 : w.cell? ⟨0, 0, none⟩ = some (.int .i64 0)
  i1 : w.cell? ⟨0, 1, none⟩ = some (.int .i64 511)
  m0 : w.cell? ⟨2, 0, none⟩ = some (.int .i64 (-1))
  m1 : w.cell? ⟨2, 1, none⟩ = some (.int .i64 511)
theorem Glob.below {w w' : World} (h : Glob w) (hB : Below w.heap.size w w') : Glob w' := by
  have f : ∀ b o v, w.cell? ⟨b, o, none⟩ = some v → w'.cell? ⟨b, o, none⟩ = some v := fun b o v hc => (hB.cell (p := ⟨b, o, none⟩) (block_lt_of_cell hc)).trans hc
  exact ⟨f _ _ _ h.n0, f _ _ _ h.n1, f _ _ _ h.i0, f _ _ _ h.i1, f _ _ _ h.m0, f _ _ _ h.m1⟩

theorem Glob.size {w : World} (h : Glob w) : 2 < w.heap.size := block_lt_of_cell h.m0
theorem in_any (l m n : Int) (w : World) (x : Bool) (hx : decide (l ≤ n ∧ n ≤ m) = x) :
    Calls Tryd.prog 26 #[.agg #[.int .i64 l, .int .i64 m], .int .i64 n] w fun r w' => r = .returned (.bool x) ∧ Below w.heap.size w w' := by
  by_cases h0 : l ≤ n
  · by_cases h1 : n ≤ m
    · have e : x = true := by rw [← hx]; exact decide_eq_true ⟨h0, h1⟩
      subst e
      clear hx
      go_enter Tryd.func26, Tryd.ntmps26
      go_wp2_with fail
      go_ret
      exact ⟨rfl, (Below.refl _ _).alloc (Nat.le_refl _) _⟩
    · have e : x = false := by rw [← hx]; exact decide_eq_false (fun h => h1 h.2)
      subst e
      have h1' : m < n := by omega
      have h2' : decide (n ≤ m) = false := decide_eq_false (by omega)
      clear hx h1
      go_enter Tryd.func26, Tryd.ntmps26
      go_wp2_with fail
      go_ret
      exact ⟨rfl, (Below.refl _ _).alloc (Nat.le_refl _) _⟩
  · have e : x = false := by rw [← hx]; exact decide_eq_false (fun h => h0 h.1)
    subst e
    have h0' : n < l := by omega
    clear hx h0
    go_enter Tryd.func26, Tryd.ntmps26
    go_wp2_with fail
    go_ret
    exact ⟨rfl, (Below.refl _ _).alloc (Nat.le_refl _) _⟩

/-- A kind's shape. -/
structure Shp where
  a : Int × Int
  b : Int × Int
  c : Int × Int
  d : Int × Int
  s : Bool
  o : Bool
def shpV (x : Shp) : Value := .agg #[.int .i64 x.a.1, .int .i64 x.a.2, .int .i64 x.b.1, .int .i64 x.b.2, .int .i64 x.c.1, .int .i64 x.c.2, .int .i64 x.d.1, .int .i64 x.d.2, .bool x.s, .bool x.o]
def shp (k : Int) : Shp :=
  if k = 1 then ⟨(-1, -1), (-1, -1), (0, 7), (0, 511), false, false⟩
  else if k = 2 then ⟨(0, 511), (-1, -1), (0, 4), (-1, -1), false, false⟩
  else if k = 3 then ⟨(0, 511), (-1, 3), (0, 99), (-1, 511), true, false⟩
  else if k = 4 then ⟨(0, 511), (-1, 3), (0, 99), (-1, 511), false, true⟩
  else if k = 5 then ⟨(0, 511), (-1, -1), (-1, -1), (-1, -1), false, false⟩
  else if k = 6 then ⟨(-1, 511), (-1, 4), (0, 99), (-1, -1), true, false⟩
  else if k = 7 then ⟨(0, 511), (-1, 3), (0, 99), (0, 511), true, true⟩
  else if k = 9 ∨ k = 10 then ⟨(-1, -1), (-1, -1), (0, 7), (-1, -1), false, false⟩
  else ⟨(-1, -1), (-1, -1), (-1, -1), (-1, -1), false, false⟩

theorem below3 (w : World) (a b c : Obj) : Below w.heap.size w (((w.alloc a).alloc b).alloc c) := (((Below.refl _ _).alloc (Nat.le_refl _) _).alloc (by simp) _).alloc (by simp; omega) _
theorem of_any1 (w : World) (hg : Glob w) :
    Calls Tryd.prog 25 #[.int .i64 1] w fun r w' => r = .returned (shpV (shp 1)) ∧ Below w.heap.size w w' := by
  have hs := hg.size
  obtain ⟨n0, n1, i0, i1, m0, m1⟩ := hg
  have s0 : 0 < w.heap.size := by omega
  have s1 : 1 < w.heap.size := by omega
  have t1 : 1 < w.heap.size + 1 := by omega
  have t2 : 2 < w.heap.size + 1 := by omega
  have t3 : 2 < w.heap.size + 1 + 1 := by omega
  go_enter Tryd.func25, Tryd.ntmps25
  go_wp2_with fail
  refine bodyPost_ret (v := shpV (shp 1)) (by simp [results, Tryd.results25, go_sem, shpV, shp]) rfl ⟨rfl, below3 _ _ _ _⟩
theorem of_any2 (w : World) (hg : Glob w) :
    Calls Tryd.prog 25 #[.int .i64 2] w fun r w' => r = .returned (shpV (shp 2)) ∧ Below w.heap.size w w' := by
  have hs := hg.size
  obtain ⟨n0, n1, i0, i1, m0, m1⟩ := hg
  have s0 : 0 < w.heap.size := by omega
  have s1 : 1 < w.heap.size := by omega
  have t1 : 1 < w.heap.size + 1 := by omega
  have t2 : 2 < w.heap.size + 1 := by omega
  have t3 : 2 < w.heap.size + 1 + 1 := by omega
  go_enter Tryd.func25, Tryd.ntmps25
  go_wp2_with fail
  refine bodyPost_ret (v := shpV (shp 2)) (by simp [results, Tryd.results25, go_sem, shpV, shp]) rfl ⟨rfl, below3 _ _ _ _⟩
theorem of_any3 (w : World) (hg : Glob w) :
    Calls Tryd.prog 25 #[.int .i64 3] w fun r w' => r = .returned (shpV (shp 3)) ∧ Below w.heap.size w w' := by
  have hs := hg.size
  obtain ⟨n0, n1, i0, i1, m0, m1⟩ := hg
  have s0 : 0 < w.heap.size := by omega
  have s1 : 1 < w.heap.size := by omega
  have t1 : 1 < w.heap.size + 1 := by omega
  have t2 : 2 < w.heap.size + 1 := by omega
  have t3 : 2 < w.heap.size + 1 + 1 := by omega
  go_enter Tryd.func25, Tryd.ntmps25
  go_wp2_with fail
  refine bodyPost_ret (v := shpV (shp 3)) (by simp [results, Tryd.results25, go_sem, shpV, shp]) rfl ⟨rfl, below3 _ _ _ _⟩
theorem of_any4 (w : World) (hg : Glob w) :
    Calls Tryd.prog 25 #[.int .i64 4] w fun r w' => r = .returned (shpV (shp 4)) ∧ Below w.heap.size w w' := by
  have hs := hg.size
  obtain ⟨n0, n1, i0, i1, m0, m1⟩ := hg
  have s0 : 0 < w.heap.size := by omega
  have s1 : 1 < w.heap.size := by omega
  have t1 : 1 < w.heap.size + 1 := by omega
  have t2 : 2 < w.heap.size + 1 := by omega
  have t3 : 2 < w.heap.size + 1 + 1 := by omega
  go_enter Tryd.func25, Tryd.ntmps25
  go_wp2_with fail
  refine bodyPost_ret (v := shpV (shp 4)) (by simp [results, Tryd.results25, go_sem, shpV, shp]) rfl ⟨rfl, below3 _ _ _ _⟩
theorem of_any5 (w : World) (hg : Glob w) :
    Calls Tryd.prog 25 #[.int .i64 5] w fun r w' => r = .returned (shpV (shp 5)) ∧ Below w.heap.size w w' := by
  have hs := hg.size
  obtain ⟨n0, n1, i0, i1, m0, m1⟩ := hg
  have s0 : 0 < w.heap.size := by omega
  have s1 : 1 < w.heap.size := by omega
  have t1 : 1 < w.heap.size + 1 := by omega
  have t2 : 2 < w.heap.size + 1 := by omega
  have t3 : 2 < w.heap.size + 1 + 1 := by omega
  go_enter Tryd.func25, Tryd.ntmps25
  go_wp2_with fail
  refine bodyPost_ret (v := shpV (shp 5)) (by simp [results, Tryd.results25, go_sem, shpV, shp]) rfl ⟨rfl, below3 _ _ _ _⟩
theorem of_any6 (w : World) (hg : Glob w) :
    Calls Tryd.prog 25 #[.int .i64 6] w fun r w' => r = .returned (shpV (shp 6)) ∧ Below w.heap.size w w' := by
  have hs := hg.size
  obtain ⟨n0, n1, i0, i1, m0, m1⟩ := hg
  have s0 : 0 < w.heap.size := by omega
  have s1 : 1 < w.heap.size := by omega
  have t1 : 1 < w.heap.size + 1 := by omega
  have t2 : 2 < w.heap.size + 1 := by omega
  have t3 : 2 < w.heap.size + 1 + 1 := by omega
  go_enter Tryd.func25, Tryd.ntmps25
  go_wp2_with fail
  refine bodyPost_ret (v := shpV (shp 6)) (by simp [results, Tryd.results25, go_sem, shpV, shp]) rfl ⟨rfl, below3 _ _ _ _⟩
theorem of_any7 (w : World) (hg : Glob w) :
    Calls Tryd.prog 25 #[.int .i64 7] w fun r w' => r = .returned (shpV (shp 7)) ∧ Below w.heap.size w w' := by
  have hs := hg.size
  obtain ⟨n0, n1, i0, i1, m0, m1⟩ := hg
  have s0 : 0 < w.heap.size := by omega
  have s1 : 1 < w.heap.size := by omega
  have t1 : 1 < w.heap.size + 1 := by omega
  have t2 : 2 < w.heap.size + 1 := by omega
  have t3 : 2 < w.heap.size + 1 + 1 := by omega
  go_enter Tryd.func25, Tryd.ntmps25
  go_wp2_with fail
  refine bodyPost_ret (v := shpV (shp 7)) (by simp [results, Tryd.results25, go_sem, shpV, shp]) rfl ⟨rfl, below3 _ _ _ _⟩
theorem of_any9 (w : World) (hg : Glob w) :
    Calls Tryd.prog 25 #[.int .i64 9] w fun r w' => r = .returned (shpV (shp 9)) ∧ Below w.heap.size w w' := by
  have hs := hg.size
  obtain ⟨n0, n1, i0, i1, m0, m1⟩ := hg
  have s0 : 0 < w.heap.size := by omega
  have s1 : 1 < w.heap.size := by omega
  have t1 : 1 < w.heap.size + 1 := by omega
  have t2 : 2 < w.heap.size + 1 := by omega
  have t3 : 2 < w.heap.size + 1 + 1 := by omega
  go_enter Tryd.func25, Tryd.ntmps25
  go_wp2_with fail
  refine bodyPost_ret (v := shpV (shp 9)) (by simp [results, Tryd.results25, go_sem, shpV, shp]) rfl ⟨rfl, below3 _ _ _ _⟩
theorem of_any10 (w : World) (hg : Glob w) :
    Calls Tryd.prog 25 #[.int .i64 10] w fun r w' => r = .returned (shpV (shp 10)) ∧ Below w.heap.size w w' := by
  have hs := hg.size
  obtain ⟨n0, n1, i0, i1, m0, m1⟩ := hg
  have s0 : 0 < w.heap.size := by omega
  have s1 : 1 < w.heap.size := by omega
  have t1 : 1 < w.heap.size + 1 := by omega
  have t2 : 2 < w.heap.size + 1 := by omega
  have t3 : 2 < w.heap.size + 1 + 1 := by omega
  go_enter Tryd.func25, Tryd.ntmps25
  go_wp2_with fail
  refine bodyPost_ret (v := shpV (shp 10)) (by simp [results, Tryd.results25, go_sem, shpV, shp]) rfl ⟨rfl, below3 _ _ _ _⟩
theorem of_other (k : Int) (w : World) (hg : Glob w) (hk : (k == 1) = false ∧ (k == 2) = false ∧ (k == 3) = false ∧ (k == 4) = false ∧ (k == 5) = false ∧ (k == 6) = false ∧ (k == 7) = false ∧ (k == 9) = false ∧ (k == 10) = false) :
    Calls Tryd.prog 25 #[.int .i64 k] w fun r w' => r = .returned (shpV (shp k)) ∧ Below w.heap.size w w' := by
  have E := Lib.hid (show shp k = ⟨(-1, -1), (-1, -1), (-1, -1), (-1, -1), false, false⟩ by
    simp only [beq_eq_false_iff_ne] at hk
    unfold shp
    rw [if_neg (by omega), if_neg (by omega), if_neg (by omega), if_neg (by omega), if_neg (by omega), if_neg (by omega), if_neg (by omega), if_neg (by omega)])
  obtain ⟨k1, k2, k3, k4, k5, k6, k7, k9, k10⟩ := hk
  have hs := hg.size
  obtain ⟨n0, n1, i0, i1, m0, m1⟩ := hg
  have s0 : 0 < w.heap.size := by omega
  have s1 : 1 < w.heap.size := by omega
  have t1 : 1 < w.heap.size + 1 := by omega
  have t2 : 2 < w.heap.size + 1 := by omega
  have t3 : 2 < w.heap.size + 1 + 1 := by omega
  rw [E.out]
  go_enter Tryd.func25, Tryd.ntmps25
  go_wp2_with fail
  refine bodyPost_ret (v := shpV ⟨(-1, -1), (-1, -1), (-1, -1), (-1, -1), false, false⟩) (by simp [results, Tryd.results25, go_sem, shpV]) rfl ⟨rfl, below3 _ _ _ _⟩
theorem of_any (k : Int) (w : World) (hg : Glob w) :
    Calls Tryd.prog 25 #[.int .i64 k] w fun r w' => r = .returned (shpV (shp k)) ∧ Below w.heap.size w w' := by
  by_cases h1 : k = 1
  · subst h1; exact of_any1 w hg
  by_cases h2 : k = 2
  · subst h2; exact of_any2 w hg
  by_cases h3 : k = 3
  · subst h3; exact of_any3 w hg
  by_cases h4 : k = 4
  · subst h4; exact of_any4 w hg
  by_cases h5 : k = 5
  · subst h5; exact of_any5 w hg
  by_cases h6 : k = 6
  · subst h6; exact of_any6 w hg
  by_cases h7 : k = 7
  · subst h7; exact of_any7 w hg
  by_cases h9 : k = 9
  · subst h9; exact of_any9 w hg
  by_cases h10 : k = 10
  · subst h10; exact of_any10 w hg
  exact of_other k w hg (by simp only [beq_eq_false_iff_ne]; omega)

/-! ### Plain events -/
structure Ev where
  kind : Int
  g : Int
  ch : Int
  cs : Int
  va : Int
  ma : Int
  sd : Bool
  ok : Bool
def evV (e : Ev) : Value := .agg #[.int .i64 e.kind, .int .i64 e.g, .int .i64 e.ch, .int .i64 e.cs, .int .i64 e.va, .int .i64 e.ma, .bool e.sd, .bool e.ok]
def oddB (e : Ev) : Bool :=
  if e.kind = 3 then !e.sd
  else if e.kind = 4 then !e.ok && (e.va != 0 || e.ma != -1)
  else if e.kind = 6 then (!e.sd && e.va != 0) || (decide (0 ≤ e.cs) && (decide (0 ≤ e.ch) || e.sd))
  else if e.kind = 7 then (e.sd && !e.ok) || (!e.ok && e.va != 0)
  else false

end Go.Proofs.YtmmkdbcgkafolaaDoor

