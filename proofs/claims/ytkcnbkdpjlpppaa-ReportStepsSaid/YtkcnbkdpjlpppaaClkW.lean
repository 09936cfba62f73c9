
/-
  Contracts of package clock's functions that write: own, Set, Tick, Copy, Join.
-/
import Derived.Test.YtkcnbkdpjlpppaaClk
import Derived.Laws.CopyOwn
import Derived.Deep.OwnRows
namespace Go.Proofs.Ytkcnbkdpjlpppaa
open Go.RowKit
set_option linter.unusedVariables false
set_option linter.unusedSimpArgs false
set_option maxRecDepth 100000

theorem info_int : (Try.prog.info? 3).map (fun i => (i.zero, i.size, i.bytes)) = some (some (.int .i64 0), 1, 8) := by kernel_rfl
theorem size_int : (Try.prog.info? 3).map (·.size) = some 1 := by kernel_rfl

@[local go_sem] theorem k_max2_int (k k' : IntKind) (x y : Int) : Builtin.max2 (.int k x) (.int k' y) = pure (.int k (if x < y then y else x)) := by simp only [Builtin.max2, gt_iff_lt]
@[local go_sem] theorem k_max_two (ats : Array TypeId) (ty : TypeId) (a b : Value) : Builtin.max_ ats ty #[a, b] = (Builtin.max2 a b >>= fun s => pure s) := by simp only [Builtin.max_, List.foldlM_cons, List.foldlM_nil]

/-- A list made longer with noughts. -/
def pad (m : Nat) (xs : List Int) : List Int := xs ++ List.replicate (m - xs.length) 0
theorem length_pad (m : Nat) (xs : List Int) (h : xs.length ≤ m) : (pad m xs).length = m := by simp [pad]; omega
theorem at0_pad (m : Nat) (xs : List Int) (t : Int) : at0 (pad m xs) t = at0 xs t := by
  unfold at0 pad
  split
  · simp only [List.getD]
    by_cases h : t.toNat < xs.length
    · rw [List.getElem?_append_left h]
    · rw [List.getElem?_append_right (by omega), List.getElem?_eq_none (show xs.length ≤ t.toNat by omega), List.getElem?_replicate]
      split <;> rfl
  · rfl
theorem OkL.pad {m : Nat} {xs : List Int} (h : OkL xs) (hm : xs.length ≤ m) (hm2 : m ≤ 256) : OkL (pad m xs) := by
  refine ⟨by rw [length_pad m xs hm]; exact hm2, fun x hx => ?_⟩
  rcases List.mem_append.1 hx with hx | hx
  · exact h.2 x hx
  · have := List.eq_of_mem_replicate hx; omega

/-- What own leaves: the same numbers, in a block of the call's own; nothing else has turned but the clock itself. -/
def OwnPost (b : Nat) (k : Ck) (m : Nat) (w : World) (r : Ending) (w' : World) : Prop :=
  r = .returned (.tuple #[]) ∧ ∃ g, w.heap.size ≤ g ∧ CkAt w' b ⟨g, pad m k.xs, false⟩ ∧ w.grownBy w' (some b)

theorem lt_of_heap {w : World} {b : Nat} {o : Obj} (h : w.heap[b]? = some o) : b < w.heap.size := by
  rcases Nat.lt_or_ge b w.heap.size with h1 | h1
  · exact h1
  · rw [Array.getElem?_eq_none h1] at h; cases h
theorem CkAt.lt {w : World} {b : Nat} {k : Ck} (h : CkAt w b k) : b < w.heap.size := by
  obtain ⟨ao, cap, hb, _⟩ := h
  exact lt_of_heap hb

theorem grown_of {w w2 : World} {b : Nat} (hb : b < w.heap.size) (hB : Below w.heap.size w w2) (u v : Value) : w.grownBy ((w2.setCell ⟨b, 0, none⟩ u).setCell ⟨b, 1, none⟩ v) (some b) :=
  ⟨hB.os, hB.tape, hB.output, by simpa [World.setCell] using hB.size, fun i hi hne => by
    have hib : i ≠ b := fun e => hne (by rw [e])
    rw [heap_setCell_other _ _ _ _ hib, heap_setCell_other _ _ _ _ hib]
    exact hB.block i hi⟩

/-- The clock behind own's stores. -/
theorem own_done {w w2 : World} {b g m : Nat} {k : Ck} (h : CkAt w b k) (hm : k.xs.length ≤ m) (hm2 : m ≤ 256) (hB : Below w.heap.size w w2) (hg : w.heap.size ≤ g) (hr : w2.heap[g]? = some (.cells (ints (pad m k.xs)).toArray 3 (0, 0))) :
    CkAt ((w2.setCell ⟨b, 0, none⟩ (.slice (some ⟨g, 0, none⟩) m m)).setCell ⟨b, 1, none⟩ (.bool false)) b ⟨g, pad m k.xs, false⟩ := by
  have hbl := h.lt
  obtain ⟨ao, cap, hb, hc, ho, hx⟩ := h
  have hb2 : w2.heap[b]? = some (.cells #[.slice ao k.xs.length cap, .bool k.sh] 88 (0, 0)) := by rw [hB.block b hbl]; exact hb
  have h1 := heap_setCell_same w2 b 0 _ _ (.slice (some ⟨g, 0, none⟩) m m) hb2
  have h2 := heap_setCell_same _ b 1 _ _ (.bool false) h1
  have hne : g ≠ b := by omega
  refine ⟨some ⟨g, 0, none⟩, m, ?_, ?_, ho.pad hm hm2, fun _ => ⟨rfl, (ints (pad m k.xs)).toArray, ?_, ?_⟩⟩
  · rw [h2, length_pad m k.xs hm]; rfl
  · rw [length_pad m k.xs hm]; exact ⟨Nat.le_refl _, fun e => by cases e⟩
  · rw [heap_setCell_other _ _ _ _ hne, heap_setCell_other _ _ _ _ hne]; exact hr
  · simp [List.take_of_length_le, length_ints]

theorem own_splice (m : Nat) (xs : List Int) (h : xs.length ≤ m) : splice (madeCells #[.int .i64 0] m).toList 0 (ints xs) = ints (pad m xs) := by
  rw [toList_madeCells_one]
  simp only [splice, List.take_zero, List.nil_append, Nat.zero_add, length_ints, List.drop_replicate]
  simp [pad, ints]

/-- Where own copies from. -/
theorem own_src {o : Obj} {ao : Option Addr} (w : World) (b : Nat) (k : Ck) (h : CkAt w b k) (hx : 0 < k.xs.length → ao = some ⟨k.arr, 0, none⟩ ∧ (∀ i, i < k.xs.length → w.cell? ⟨k.arr, i, none⟩ = some (.int .i64 (k.xs.getD i 0))) ∧ ∀ i, w.frozen? ⟨k.arr, i, none⟩ = false) :
    0 < (ints k.xs).length → ∃ ad, ao = some ad ∧ ∀ (j : Nat) (v : Value), (ints k.xs)[j]? = some v → (w.alloc o).cell? (ad.add j) = some v := by
  intro hp
  rw [length_ints] at hp
  obtain ⟨h1, h2, _⟩ := hx hp
  refine ⟨_, h1, fun j v hj => ?_⟩
  have hjl : j < k.xs.length := by
    have := (List.getElem?_eq_some_iff.1 hj).1
    rwa [length_ints] at this
  have ha : (⟨k.arr, 0, none⟩ : Addr).add j = ⟨k.arr, j, none⟩ := by unfold Addr.add; split <;> simp_all
  rw [getElem?_ints _ _ hjl] at hj
  rw [ha, ← hj]
  have hc := h2 j hjl
  rw [((Below.refl _ _).alloc (Nat.le_refl _) o).cell (p := ⟨k.arr, j, none⟩) (block_lt_of_cell hc)]
  exact hc

/-! ### What a write to one clock leaves of the world -/
/-- Only these blocks have turned; what is new comes behind. -/
structure Turned (S : Nat → Prop) (w w' : World) : Prop where
  os : w'.os = w.os
  tape : w'.tape = w.tape
  output : w'.output = w.output
  size : w.heap.size ≤ w'.heap.size
  block : ∀ i, i < w.heap.size → ¬ S i → w'.heap[i]? = w.heap[i]?

theorem Turned.refl (S : Nat → Prop) (w : World) : Turned S w w := ⟨rfl, rfl, rfl, Nat.le_refl _, fun _ _ _ => rfl⟩
theorem Turned.trans {S T U : Nat → Prop} {a b c : World} (h : Turned S a b) (k : Turned T b c) (hS : ∀ i, i < a.heap.size → S i → U i) (hT : ∀ i, i < a.heap.size → T i → U i) : Turned U a c :=
  ⟨k.os.trans h.os, k.tape.trans h.tape, k.output.trans h.output, Nat.le_trans h.size k.size, fun i hi hu => (k.block i (Nat.lt_of_lt_of_le hi h.size) (fun x => hu (hT i hi x))).trans (h.block i hi (fun x => hu (hS i hi x)))⟩
theorem Turned.of_grown {w w' : World} {b : Nat} (h : w.grownBy w' (some b)) : Turned (fun i => i = b) w w' :=
  ⟨h.os, h.tape, h.output, h.size, fun i hi hne => h.block i hi (fun e => hne (Option.some.inj e))⟩
theorem Turned.of_setCell {w : World} (a : Addr) (v : Value) : Turned (fun i => i = a.block) w (w.setCell a v) :=
  ⟨rfl, rfl, rfl, by simp [World.setCell], fun i _ hne => heap_setCell_other _ _ _ _ hne⟩
theorem Turned.mono {S T : Nat → Prop} {a b : World} (h : Turned S a b) (hS : ∀ i, i < a.heap.size → S i → T i) : Turned T a b :=
  ⟨h.os, h.tape, h.output, h.size, fun i hi hu => h.block i hi (fun x => hu (hS i hi x))⟩

/-- The blocks that a write to a clock may turn: its own, and that of its numbers, if nobody else may have them. -/
def Mine (b : Nat) (k : Ck) (i : Nat) : Prop := i = b ∨ (k.sh = false ∧ 0 < k.xs.length ∧ i = k.arr)

/-- A clock has been written. -/
def Wrote (w : World) (b : Nat) (k k' : Ck) (w' : World) : Prop :=
  CkAt w' b k' ∧ Turned (Mine b k) w w' ∧ ((k'.arr = k.arr ∧ k'.sh = k.sh ∧ k'.xs.length = k.xs.length) ∨ (w.heap.size ≤ k'.arr ∧ k'.sh = false))

/-- A number set in a list. -/
def put0 (xs : List Int) (t : Nat) (n : Int) : List Int := xs.set t n
theorem at0_set (xs : List Int) (t : Nat) (n : Int) (u : Int) (h : t < xs.length) : at0 (xs.set t n) u = if u = t then n else at0 xs u := by
  unfold at0
  by_cases hu : 0 ≤ u
  · rw [if_pos hu, if_pos hu]
    simp only [List.getD]
    by_cases he : u = t
    · rw [if_pos he]
      have : u.toNat = t := by omega
      rw [this, List.getElem?_set_self h]; rfl
    · rw [if_neg he, List.getElem?_set_ne (by omega)]
  · rw [if_neg hu, if_neg hu]
    rw [if_neg (by omega)]
theorem OkL.set {xs : List Int} (h : OkL xs) (t : Nat) (n : Int) (h0 : 0 ≤ n) (h1 : n ≤ 1048576) : OkL (xs.set t n) := by
  refine ⟨by simpa using h.1, fun x hx => ?_⟩
  rcases List.mem_or_eq_of_mem_set hx with hx | hx
  · exact h.2 x hx
  · omega

/-- A store into the numbers of a clock that are its own. -/
theorem stored_ck {w : World} {b : Nat} {k : Ck} (h : CkAt w b k) (t : Nat) (n : Int) (ht : t < k.xs.length) (h0 : 0 ≤ n) (h1 : n ≤ 1048576) : CkAt (w.setCell ⟨k.arr, t, none⟩ (.int .i64 n)) b ⟨k.arr, k.xs.set t n, k.sh⟩ := by
  obtain ⟨ao, cap, hb, hc, ho, hx⟩ := h
  obtain ⟨rfl, cur, hg, hcur⟩ := hx (by omega)
  have hne : b ≠ k.arr := by
    intro e
    rw [e] at hb
    rw [hb] at hg
    have := Option.some.inj hg
    injection this with e1 e2
    exact absurd e2 (by decide)
  refine ⟨_, cap, ?_, ⟨by simpa using hc.1, fun e => by cases e⟩, ho.set t n h0 h1, fun _ => ⟨rfl, cur.setIfInBounds t (.int .i64 n), ?_, ?_⟩⟩
  · rw [heap_setCell_other _ _ _ _ hne, hb]; simp
  · exact heap_setCell_same w k.arr t cur _ _ hg
  · rw [Array.toList_setIfInBounds, List.take_set, List.length_set, hcur]
    simp [ints, List.map_set]

def SetPost (b : Nat) (k : Ck) (t n : Int) (w : World) (r : Ending) (w' : World) : Prop :=
  ∃ k', r = .returned (.int .i64 0) ∧ Wrote w b k k' w' ∧ (∀ u, at0 k'.xs u = if u = t then n else at0 k.xs u)

/-- Behind own: the number is stored. -/
theorem wrote_own {w w1 : World} {b g t m : Nat} {k : Ck} {n : Int} (hg : w.heap.size ≤ g) (h1 : CkAt w1 b ⟨g, pad m k.xs, false⟩) (hw : w.grownBy w1 (some b)) (ht : t < (pad m k.xs).length) (h0 : 0 ≤ n) (h2 : n ≤ 1048576) :
    Wrote w b k ⟨g, (pad m k.xs).set t n, false⟩ (w1.setCell ⟨g, t, none⟩ (.int .i64 n)) ∧ ∀ u, at0 ((pad m k.xs).set t n) u = if u = t then n else at0 k.xs u := by
  refine ⟨⟨stored_ck h1 t n ht h0 h2, (Turned.of_grown hw).trans (Turned.of_setCell _ _) (fun i _ e => .inl e) (fun i hi e => ?_), .inr ⟨hg, rfl⟩⟩, fun u => by rw [at0_set _ _ _ _ ht, at0_pad]⟩
  have : i = g := e
  omega
theorem wrote_own0 {w : World} {b t : Nat} {k : Ck} {n : Int} (h : CkAt w b k) (hs : k.sh = false) (ht : t < k.xs.length) (h0 : 0 ≤ n) (h2 : n ≤ 1048576) :
    Wrote w b k ⟨k.arr, k.xs.set t n, k.sh⟩ (w.setCell ⟨k.arr, t, none⟩ (.int .i64 n)) ∧ ∀ u, at0 (k.xs.set t n) u = if u = t then n else at0 k.xs u :=
  ⟨⟨stored_ck h t n ht h0 h2, (Turned.of_setCell _ _).mono (fun i _ e => .inr ⟨hs, by omega, e⟩), .inl ⟨rfl, rfl, by simp⟩⟩, fun u => at0_set _ _ _ _ ht⟩

end Go.Proofs.Ytkcnbkdpjlpppaa

