
/-
  Package cell: cells; New, wrong, Last, Reads, Tailed, Wide.
-/
import Derived.Test.YtkcnbkdpjlpppaaCelE
import Derived.Deep.RegionHeld3
import Derived.Deep.Draws
import Derived.IntWalk
namespace Go.Proofs.Ytkcnbkdpjlpppaa
open Go.RowKit
set_option linter.unusedVariables false
set_option linter.unusedSimpArgs false
set_option maxRecDepth 100000

structure Cl (B : Nat) (w : World) (b : Nat) (v : Value) (x : Int) (l : List Int) (tl : Bool) : Prop where
  blk : w.heap[b]? = some (.cells #[.int .u64 x, v, .bool tl] 97 (0, 0))
  low : B ≤ b
  row : w.ownsRow B 25 1 v l.length (eps l)
theorem Cl.below {B : Nat} {w w' : World} {b : Nat} {v : Value} {x : Int} {l : List Int} {tl : Bool} (h : Cl B w b v x l tl) (hB : Below w.heap.size w w') : Cl B w' b v x l tl :=
  ⟨(hB.block b (lt_of_heap h.blk)).trans h.blk, h.low, owns_below h.row hB⟩
theorem Cl.lt {B : Nat} {w : World} {b : Nat} {v : Value} {x : Int} {l : List Int} {tl : Bool} (h : Cl B w b v x l tl) : b < w.heap.size := lt_of_heap h.blk
theorem Cl.cells {B : Nat} {w : World} {b : Nat} {v : Value} {x : Int} {l : List Int} {tl : Bool} (h : Cl B w b v x l tl) : w.cell? ⟨b, 0, none⟩ = some (.int .u64 x) ∧ w.cell? ⟨b, 1, none⟩ = some v ∧ w.cell? ⟨b, 2, none⟩ = some (.bool tl) := by
  refine ⟨?_, ?_, ?_⟩ <;> (simp only [World.cell?, h.blk]; rfl)
theorem Cl.f {B : Nat} {w : World} {b : Nat} {v : Value} {x : Int} {l : List Int} {tl : Bool} (h : Cl B w b v x l tl) : ∀ o, w.frozen? ⟨b, o, none⟩ = false := fun o => by simp [World.frozen?, h.blk]
theorem Cl.eps {B : Nat} {w : World} {b : Nat} {v : Value} {x : Int} {l : List Int} {tl : Bool} (h : Cl B w b v x l tl) : EpsOf w v l := eps_of_owns h.row
theorem Cl.shape {B : Nat} {w : World} {b : Nat} {v : Value} {x : Int} {l : List Int} {tl : Bool} (h : Cl B w b v x l tl) : ∃ ao cap, v = .slice ao l.length cap ∧ (ao = none → l.length = 0 ∧ cap = 0) := by
  obtain ⟨ao, cap, e, h1, _⟩ := h.eps
  exact ⟨ao, cap, e, h1⟩
/-- What a cell's numbers are. -/
structure OkC (x : Int) (l : List Int) : Prop where
  u : U64 x
  srt : SrtE l
  ok : ∀ e, e ∈ l → okE e = true
  len : l.length ≤ 256

theorem cnew_any (B : Nat) (w : World) (hB : B ≤ w.heap.size) : Calls Try.prog 28 #[] w fun e w' => (∃ b, e = .returned (.pointer (some ⟨b, 0, none⟩)) ∧ Cl B w' b (.slice none 0 0) 0 [] false ∧ w.heap.size ≤ b) ∧ Below w.heap.size w w' := by
  go_enter Try.func28, Try.ntmps28
  go_wp2_with fail
  go_ret
  exact ⟨⟨w.heap.size, rfl, ⟨heap_alloc_new w _, hB, ⟨rfl, .inl ⟨rfl, rfl⟩⟩⟩, Nat.le_refl _⟩, (Below.refl _ _).alloc (Nat.le_refl _) _⟩

theorem wrong_bad (v : Value) (e : Int) (w : World) (h : U64 e) (hk : okE e = false) : Calls Try.prog 35 #[v, .int .u64 e] w fun r w' => r = .returned (.int .i64 1) ∧ w = w' := by
  have ht : tidE e < 0 := tidE_lt.2 hk
  have H := Lib.hid h
  clear hk h
  go_enter Try.func35, Try.ntmps35
  go_wp2_with fail
  refine (etid_of e w H.out).mono ?_
  rintro r w' ⟨rfl, rfl⟩
  go_wp2_with fail
  go_ret
  exact ⟨rfl, rfl⟩
theorem wrong_nil (e : Int) (w : World) (h : U64 e) (hk : okE e = true) : Calls Try.prog 35 #[.pointer none, .int .u64 e] w fun r w' => r = .returned (.int .i64 7) ∧ w = w' := by
  have ht : ¬ tidE e < 0 := fun h => by rw [tidE_lt.1 h] at hk; cases hk
  have H := Lib.hid h
  clear hk h
  go_enter Try.func35, Try.ntmps35
  go_wp2_with fail
  refine (etid_of e w H.out).mono ?_
  rintro r w' ⟨rfl, rfl⟩
  go_wp2_with fail
  go_ret
  exact ⟨rfl, rfl⟩
theorem wrong_ok (a : Addr) (e : Int) (w : World) (h : U64 e) (hk : okE e = true) : Calls Try.prog 35 #[.pointer (some a), .int .u64 e] w fun r w' => r = .returned (.int .i64 0) ∧ w = w' := by
  have ht : ¬ tidE e < 0 := fun h => by rw [tidE_lt.1 h] at hk; cases hk
  have H := Lib.hid h
  clear hk h
  go_enter Try.func35, Try.ntmps35
  go_wp2_with fail
  refine (etid_of e w H.out).mono ?_
  rintro r w' ⟨rfl, rfl⟩
  go_wp2_with fail
  go_ret
  exact ⟨rfl, rfl⟩

theorem reads_any {B : Nat} {w : World} {b : Nat} {v : Value} {x : Int} {l : List Int} {tl : Bool} (h : Cl B w b v x l tl) (hN : l.length ≤ 1000) : Calls Try.prog 20 #[.pointer (some ⟨b, 0, none⟩)] w (ClonePost l w) := by
  obtain ⟨c0, c1, c2⟩ := h.cells
  have H := Lib.hid h
  clear h
  go_enter Try.func20, Try.ntmps20
  go_wp2_with fail
  refine (clone_eps v l w H.out.eps hN).mono ?_
  rintro e w2 ⟨v2, rfl, h1, h2⟩
  have T := Lib.hid (show ClonePost l w (.returned v2) w2 from ⟨v2, rfl, h1, h2⟩)
  obtain ⟨ao, cap, rfl, _⟩ := eps_of_owns h1
  clear h1 h2
  go_wp2_with fail
  go_ret
  exact T.out
theorem reads_nil (w : World) : Calls Try.prog 20 #[.pointer none] w fun r w' => r = .returned (.slice none 0 0) ∧ w = w' := by
  go_enter Try.func20, Try.ntmps20
  go_wp2_with fail
  go_ret
  exact ⟨rfl, rfl⟩
end Go.Proofs.Ytkcnbkdpjlpppaa

