
/-
  Contracts of package clock's functions that write: own, Set, Tick, Copy, Join.
-/
import Derived.Test.YtlkfhobacgnckaaClk
import Derived.Laws.CopyOwn
import Derived.Deep.OwnRows
namespace Go.Proofs.Ytlkfhobacgnckaa
open Go.RowKit
set_option linter.unusedVariables false
set_option linter.unusedSimpArgs false
set_option maxRecDepth 100000

theorem info_int : (Try.prog.info? 3).map (fun i => (i.zero, i.size, i.bytes)) = some (some (.int .i64 0), 1, 8) := by kernel_rfl
theorem size_int : (Try.prog.info? 3).map (·.size) = some 1 := by kernel_rfl

@[local go_sem] theorem k_max2_int (k k' : IntKind) (x y : Int) : Builtin.max2 (.int k x) (.int k' y) = pure (.int k (if x < y then y else x)) := by simp only [Builtin.max2, gt_iff_lt]
@[local go_sem] theorem k_max_two (ats : Array TypeId) (ty : TypeId) (a b : Value) : Builtin.max_ ats ty #[a, b] = (Builtin.max2 a b >>= fun s => pure s) := by simp only [Builtin.max_, List.foldlM_cons, List.foldlM_nil]

/-- A list made longer with noughts. -/
def pad (m : Nat) (xs : List Int) : List Int := xs ++ List.replicate (m - xs.length) 0
theorem length_pad (m : Nat) (xs : List Int) (h : xs.length ≤ m) : (pad m xs).length = m := by simp [pad]; omega
theorem at0_pad (m : Nat) (xs : List Int) (t : Int) : at0 (pad m xs) t = at0 xs t := by
  unfold at0 pad
  split
  · simp only [List.getD]
    by_cases h : t.toNat < xs.length
    · rw [List.getElem?_append_left h]
    · rw [List.getElem?_append_right (by omega), List.getElem?_eq_none (show xs.length ≤ t.toNat by omega), List.getElem?_replicate]
      split <;> rfl
  · rfl
theorem OkL.pad {m : Nat} {xs : List Int} (h : OkL xs) (hm : xs.length ≤ m) (hm2 : m ≤ 256) : OkL (pad m xs) := by
  refine ⟨by rw [length_pad m xs hm]; exact hm2, fun x hx => ?_⟩
  rcases List.mem_append.1 hx with hx | hx
  · exact h.2 x hx
  · have := List.eq_of_mem_replicate hx; omega

/-- What own leaves: the same numbers, in a block of the call's own; nothing else has turned but the clock itself. -/
def OwnPost (b : Nat) (k : Ck) (m : Nat) (w : World) (r : Ending) (w' : World) : Prop :=
  r = .returned (.tuple #[]) ∧ ∃ g, w.heap.size ≤ g ∧ CkAt w' b ⟨g, pad m k.xs, false⟩ ∧ w.grownBy w' (some b)

theorem lt_of_heap {w : World} {b : Nat} {o : Obj} (h : w.heap[b]? = some o) : b < w.heap.size := by
  rcases Nat.lt_or_ge b w.heap.size with h1 | h1
  · exact h1
  · rw [Array.getElem?_eq_none h1] at h; cases h
theorem CkAt.lt {w : World} {b : Nat} {k : Ck} (h : CkAt w b k) : b < w.heap.size := by
  obtain ⟨ao, cap, hb, _⟩ := h
  exact lt_of_heap hb

theorem grown_of {w w2 : World} {b : Nat} (hb : b < w.heap.size) (hB : Below w.heap.size w w2) (u v : Value) : w.grownBy ((w2.setCell ⟨b, 0, none⟩ u).setCell ⟨b, 1, none⟩ v) (some b) :=
  ⟨hB.os, hB.tape, hB.output, by simpa [World.setCell] using hB.size, fun i hi hne => by
    have hib : i ≠ b := fun e => hne (by rw [e])
    rw [heap_setCell_other _ _ _ _ hib, heap_setCell_other _ _ _ _ hib]
    exact hB.block i hi⟩

/-- The clock behind own's stores. -/
theorem own_done {w w2 : World} {b g m : Nat} {k : Ck} (h : CkAt w b k) (hm : k.xs.length ≤ m) (hm2 : m ≤ 256) (hB : Below w.heap.size w w2) (hg : w.heap.size ≤ g) (hr : w2.heap[g]? = some (.cells (ints (pad m k.xs)).toArray 3 (0, 0))) :
    CkAt ((w2.setCell ⟨b, 0, none⟩ (.slice (some ⟨g, 0, none⟩) m m)).setCell ⟨b, 1, none⟩ (.bool false)) b ⟨g, pad m k.xs, false⟩ := by
  have hbl := h.lt
  obtain ⟨ao, cap, hb, hc, ho, hx⟩ := h
  have hb2 : w2.heap[b]? = some (.cells #[.slice ao k.xs.length cap, .bool k.sh] 75 (0, 0)) := by rw [hB.block b hbl]; exact hb
  have h1 := heap_setCell_same w2 b 0 _ _ (.slice (some ⟨g, 0, none⟩) m m) hb2
  have h2 := heap_setCell_same _ b 1 _ _ (.bool false) h1
  have hne : g ≠ b := by omega
  refine ⟨some ⟨g, 0, none⟩, m, ?_, ?_, ho.pad hm hm2, fun _ => ⟨rfl, (ints (pad m k.xs)).toArray, ?_, ?_⟩⟩
  · rw [h2, length_pad m k.xs hm]; rfl
  · rw [length_pad m k.xs hm]; exact ⟨Nat.le_refl _, fun e => by cases e⟩
  · rw [heap_setCell_other _ _ _ _ hne, heap_setCell_other _ _ _ _ hne]; exact hr
  · simp [List.take_of_length_le, length_ints]

theorem own_splice (m : Nat) (xs : List Int) (h : xs.length ≤ m) : splice (madeCells #[.int .i64 0] m).toList 0 (ints xs) = ints (pad m xs) := by
  rw [toList_madeCells_one]
  simp only [splice, List.take_zero, List.nil_append, Nat.zero_add, length_ints, List.drop_replicate]
  simp [pad, ints]

/-- Where own copies from. -/
theorem own_src {o : Obj} {ao : Option Addr} (w : World) (b : Nat) (k : Ck) (h : CkAt w b k) (hx : 0 < k.xs.length → ao = some ⟨k.arr, 0, none⟩ ∧ (∀ i, i < k.xs.length → w.cell? ⟨k.arr, i, none⟩ = some (.int .i64 (k.xs.getD i 0))) ∧ ∀ i, w.frozen? ⟨k.arr, i, none⟩ = false) :
    0 < (ints k.xs).length → ∃ ad, ao = some ad ∧ ∀ (j : Nat) (v : Value), (ints k.xs)[j]? = some v → (w.alloc o).cell? (ad.add j) = some v := by
  intro hp
  rw [length_ints] at hp
  obtain ⟨h1, h2, _⟩ := hx hp
  refine ⟨_, h1, fun j v hj => ?_⟩
  have hjl : j < k.xs.length := by
    have := (List.getElem?_eq_some_iff.1 hj).1
    rwa [length_ints] at this
  have ha : (⟨k.arr, 0, none⟩ : Addr).add j = ⟨k.arr, j, none⟩ := by unfold Addr.add; split <;> simp_all
  rw [getElem?_ints _ _ hjl] at hj
  rw [ha, ← hj]
  have hc := h2 j hjl
  rw [((Below.refl _ _).alloc (Nat.le_refl _) o).cell (p := ⟨k.arr, j, none⟩) (block_lt_of_cell hc)]
  exact hc

set_option maxHeartbeats 1000000 in
/-- own where it is asked for more numbers than there are. -/
theorem own_more (b : Nat) (k : Ck) (n : Nat) (w : World) (h : CkAt w b k) (hn : n ≤ 256) (hm : k.xs.length < n) (sh : Bool) (hs : k.sh = sh) :
    Calls Try.prog 39 #[.pointer (some ⟨b, 0, none⟩), .int .i64 n] w (OwnPost b k n w) := by
  have hbl := h.lt
  have H := Lib.hid h
  obtain ⟨ao, cap, h0, h1, h2, h3, h4, h5, h6⟩ := h.facts
  rw [hs] at h1
  clear hs
  have hm' : (k.xs.length : Int) < n := by omega
  have H6 := Lib.hid h6
  clear h6
  have hmk := run_make_row' (P := Try.prog) 31 3 (.int .i64 0) 8 Try.underlying31 info_int rfl .i64 .i64 n (by omega) (by omega)
  cases sh
  · go_enter Try.func39, Try.ntmps39
    go_wp2_with (with_reducible refine wpList_copy_splice rfl (.tmp 26) (.tmp 30) 31 31 rfl 3 Try.underlying31 size_int _ _ _ _ _ _ rfl rfl w.heap.size 0 (madeCells #[.int .i64 0] n).toList 3 ?p1 (ints k.xs) ?p2 ?p3 ?p4 ?p5 w.heap.size w ?p6 ?p7 ?_)
    case p1 => rw [heap_alloc_new, Array.toArray_toList]
    case p2 => rw [length_ints]; exact (Nat.min_eq_left (by omega)).symm
    case p3 => exact own_src w b k H.out H6.out
    case p4 => rw [length_ints, toList_madeCells_one, List.length_replicate]; omega
    case p5 => exact ints_oneCell _ _
    case p6 => exact (Below.refl _ _).alloc (Nat.le_refl _) _
    case p7 => exact Nat.le_refl _
    · intro w2 HG hB
      have c0 : w2.cell? ⟨b, 0, none⟩ = some (.slice ao k.xs.length cap) := by rw [hB.cell (p := ⟨b, 0, none⟩) hbl]; exact h0
      have c1 := (hB.cell (p := ⟨b, 1, none⟩) hbl).trans h1
      have f0 : w2.frozen? ⟨b, 0, none⟩ = false := by rw [hB.frozen (p := ⟨b, 0, none⟩) hbl]; exact h2
      have f1 : w2.frozen? ⟨b, 1, none⟩ = false := by rw [hB.frozen (p := ⟨b, 1, none⟩) hbl]; exact h3
      have S := Lib.hid (own_splice n k.xs (by omega))
      have hB2 := Lib.hid hB
      clear hB
      go_wp2
      go_end0
      refine ⟨rfl, w.heap.size, Nat.le_refl _, own_done H.out (by omega) (by omega) hB2.out (Nat.le_refl _) ?_, grown_of hbl hB2.out _ _⟩
      have := HG.out
      rw [S.out] at this
      exact this
  · go_enter Try.func39, Try.ntmps39
    go_wp2_with (with_reducible refine wpList_copy_splice rfl (.tmp 26) (.tmp 30) 31 31 rfl 3 Try.underlying31 size_int _ _ _ _ _ _ rfl rfl w.heap.size 0 (madeCells #[.int .i64 0] n).toList 3 ?q1 (ints k.xs) ?q2 ?q3 ?q4 ?q5 w.heap.size w ?q6 ?q7 ?_)
    case q1 => rw [heap_alloc_new, Array.toArray_toList]
    case q2 => rw [length_ints]; exact (Nat.min_eq_left (by omega)).symm
    case q3 => exact own_src w b k H.out H6.out
    case q4 => rw [length_ints, toList_madeCells_one, List.length_replicate]; omega
    case q5 => exact ints_oneCell _ _
    case q6 => exact (Below.refl _ _).alloc (Nat.le_refl _) _
    case q7 => exact Nat.le_refl _
    · intro w2 HG hB
      have c0 : w2.cell? ⟨b, 0, none⟩ = some (.slice ao k.xs.length cap) := by rw [hB.cell (p := ⟨b, 0, none⟩) hbl]; exact h0
      have c1 := (hB.cell (p := ⟨b, 1, none⟩) hbl).trans h1
      have f0 : w2.frozen? ⟨b, 0, none⟩ = false := by rw [hB.frozen (p := ⟨b, 0, none⟩) hbl]; exact h2
      have f1 : w2.frozen? ⟨b, 1, none⟩ = false := by rw [hB.frozen (p := ⟨b, 1, none⟩) hbl]; exact h3
      have S := Lib.hid (own_splice n k.xs (by omega))
      have hB2 := Lib.hid hB
      clear hB
      go_wp2
      go_end0
      refine ⟨rfl, w.heap.size, Nat.le_refl _, own_done H.out (by omega) (by omega) hB2.out (Nat.le_refl _) ?_, grown_of hbl hB2.out _ _⟩
      have := HG.out
      rw [S.out] at this
      exact this

set_option maxHeartbeats 1000000 in
/-- own where there are numbers enough, but others have them. -/
theorem own_shared (b : Nat) (k : Ck) (n : Nat) (w : World) (h : CkAt w b k) (hm : n ≤ k.xs.length) (hs : k.sh = true) :
    Calls Try.prog 39 #[.pointer (some ⟨b, 0, none⟩), .int .i64 n] w (OwnPost b k k.xs.length w) := by
  have hbl := h.lt
  have H := Lib.hid h
  obtain ⟨ao, cap, h0, h1, h2, h3, h4, h5, h6⟩ := h.facts
  rw [hs] at h1
  clear hs
  have H6 := Lib.hid h6
  clear h6
  have hmk := run_make_row' (P := Try.prog) 31 3 (.int .i64 0) 8 Try.underlying31 info_int rfl .i64 .i64 k.xs.length (by omega) (by omega)
  by_cases hlt : n < k.xs.length
  · have hm' : (n : Int) < (k.xs.length : Int) := by omega
    go_enter Try.func39, Try.ntmps39
    go_wp2_with (with_reducible refine wpList_copy_splice rfl (.tmp 26) (.tmp 30) 31 31 rfl 3 Try.underlying31 size_int _ _ _ _ _ _ rfl rfl w.heap.size 0 (madeCells #[.int .i64 0] k.xs.length).toList 3 ?p1 (ints k.xs) ?p2 ?p3 ?p4 ?p5 w.heap.size w ?p6 ?p7 ?_)
    case p1 => rw [heap_alloc_new, Array.toArray_toList]
    case p2 => rw [length_ints]; exact (Nat.min_eq_left (by omega)).symm
    case p3 => exact own_src w b k H.out H6.out
    case p4 => rw [length_ints, toList_madeCells_one, List.length_replicate]; omega
    case p5 => exact ints_oneCell _ _
    case p6 => exact (Below.refl _ _).alloc (Nat.le_refl _) _
    case p7 => exact Nat.le_refl _
    · intro w2 HG hB
      have c0 : w2.cell? ⟨b, 0, none⟩ = some (.slice ao k.xs.length cap) := by rw [hB.cell (p := ⟨b, 0, none⟩) hbl]; exact h0
      have c1 := (hB.cell (p := ⟨b, 1, none⟩) hbl).trans h1
      have f0 : w2.frozen? ⟨b, 0, none⟩ = false := by rw [hB.frozen (p := ⟨b, 0, none⟩) hbl]; exact h2
      have f1 : w2.frozen? ⟨b, 1, none⟩ = false := by rw [hB.frozen (p := ⟨b, 1, none⟩) hbl]; exact h3
      have S := Lib.hid (own_splice k.xs.length k.xs (by omega))
      have hB2 := Lib.hid hB
      clear hB
      go_wp2
      go_end0
      refine ⟨rfl, w.heap.size, Nat.le_refl _, own_done H.out (by omega) (by omega) hB2.out (Nat.le_refl _) ?_, grown_of hbl hB2.out _ _⟩
      have := HG.out
      rw [S.out] at this
      exact this
  · have hm' : k.xs.length = n := by omega
    have hge : (k.xs.length : Int) ≤ n := by omega
    have hmk := run_make_row' (P := Try.prog) 31 3 (.int .i64 0) 8 Try.underlying31 info_int rfl .i64 .i64 n (by omega) (by omega)
    have hn2 : n ≤ 256 := by omega
    rw [hm']
    clear hm' hlt
    go_enter Try.func39, Try.ntmps39
    go_wp2_with (with_reducible refine wpList_copy_splice rfl (.tmp 26) (.tmp 30) 31 31 rfl 3 Try.underlying31 size_int _ _ _ _ _ _ rfl rfl w.heap.size 0 (madeCells #[.int .i64 0] n).toList 3 ?s1 (ints k.xs) ?s2 ?s3 ?s4 ?s5 w.heap.size w ?s6 ?s7 ?_)
    case s1 => rw [heap_alloc_new, Array.toArray_toList]
    case s2 => rw [length_ints]; exact (Nat.min_eq_left (by omega)).symm
    case s3 => exact own_src w b k H.out H6.out
    case s4 => rw [length_ints, toList_madeCells_one, List.length_replicate]; omega
    case s5 => exact ints_oneCell _ _
    case s6 => exact (Below.refl _ _).alloc (Nat.le_refl _) _
    case s7 => exact Nat.le_refl _
    · intro w2 HG hB
      have c0 : w2.cell? ⟨b, 0, none⟩ = some (.slice ao k.xs.length cap) := by rw [hB.cell (p := ⟨b, 0, none⟩) hbl]; exact h0
      have c1 := (hB.cell (p := ⟨b, 1, none⟩) hbl).trans h1
      have f0 : w2.frozen? ⟨b, 0, none⟩ = false := by rw [hB.frozen (p := ⟨b, 0, none⟩) hbl]; exact h2
      have f1 : w2.frozen? ⟨b, 1, none⟩ = false := by rw [hB.frozen (p := ⟨b, 1, none⟩) hbl]; exact h3
      have S := Lib.hid (own_splice n k.xs (by omega))
      have hB2 := Lib.hid hB
      clear hB
      go_wp2
      go_end0
      refine ⟨rfl, w.heap.size, Nat.le_refl _, own_done H.out (by omega) (by omega) hB2.out (Nat.le_refl _) ?_, grown_of hbl hB2.out _ _⟩
      have := HG.out
      rw [S.out] at this
      exact this


/-- own where nothing is to be done. -/
theorem own_none (b : Nat) (k : Ck) (n : Nat) (w : World) (h : CkAt w b k) (hm : n ≤ k.xs.length) (hs : k.sh = false) :
    Calls Try.prog 39 #[.pointer (some ⟨b, 0, none⟩), .int .i64 n] w fun r w' => r = .returned (.tuple #[]) ∧ w = w' := by
  obtain ⟨ao, cap, h0, h1, h2, h3, h4, h5, h6⟩ := h.facts
  rw [hs] at h1
  clear h6
  have hm' : (n : Int) ≤ (k.xs.length : Int) := by omega
  go_enter Try.func39, Try.ntmps39
  go_wp2
  go_end0
  exact ⟨rfl, rfl⟩

/-! ### What a write to one clock leaves of the world -/
/-- Only these blocks have turned; what is new comes behind. -/
structure Turned (S : Nat → Prop) (w w' : World) : Prop where
  os : w'.os = w.os
  tape : w'.tape = w.tape
  output : w'.output = w.output
  size : w.heap.size ≤ w'.heap.size
  block : ∀ i, i < w.heap.size → ¬ S i → w'.heap[i]? = w.heap[i]?

theorem Turned.refl (S : Nat → Prop) (w : World) : Turned S w w := ⟨rfl, rfl, rfl, Nat.le_refl _, fun _ _ _ => rfl⟩
theorem Turned.trans {S T U : Nat → Prop} {a b c : World} (h : Turned S a b) (k : Turned T b c) (hS : ∀ i, i < a.heap.size → S i → U i) (hT : ∀ i, i < a.heap.size → T i → U i) : Turned U a c :=
  ⟨k.os.trans h.os, k.tape.trans h.tape, k.output.trans h.output, Nat.le_trans h.size k.size, fun i hi hu => (k.block i (Nat.lt_of_lt_of_le hi h.size) (fun x => hu (hT i hi x))).trans (h.block i hi (fun x => hu (hS i hi x)))⟩
theorem Turned.of_grown {w w' : World} {b : Nat} (h : w.grownBy w' (some b)) : Turned (fun i => i = b) w w' :=
  ⟨h.os, h.tape, h.output, h.size, fun i hi hne => h.block i hi (fun e => hne (Option.some.inj e))⟩
theorem Turned.of_setCell {w : World} (a : Addr) (v : Value) : Turned (fun i => i = a.block) w (w.setCell a v) :=
  ⟨rfl, rfl, rfl, by simp [World.setCell], fun i _ hne => heap_setCell_other _ _ _ _ hne⟩
theorem Turned.mono {S T : Nat → Prop} {a b : World} (h : Turned S a b) (hS : ∀ i, i < a.heap.size → S i → T i) : Turned T a b :=
  ⟨h.os, h.tape, h.output, h.size, fun i hi hu => h.block i hi (fun x => hu (hS i hi x))⟩

/-- The blocks that a write to a clock may turn: its own, and that of its numbers, if nobody else may have them. -/
def Mine (b : Nat) (k : Ck) (i : Nat) : Prop := i = b ∨ (k.sh = false ∧ 0 < k.xs.length ∧ i = k.arr)

/-- A clock has been written. -/
def Wrote (w : World) (b : Nat) (k k' : Ck) (w' : World) : Prop :=
  CkAt w' b k' ∧ Turned (Mine b k) w w' ∧ ((k'.arr = k.arr ∧ k'.sh = k.sh ∧ k'.xs.length = k.xs.length) ∨ (w.heap.size ≤ k'.arr ∧ k'.sh = false))

/-- A number set in a list. -/
def put0 (xs : List Int) (t : Nat) (n : Int) : List Int := xs.set t n
theorem at0_set (xs : List Int) (t : Nat) (n : Int) (u : Int) (h : t < xs.length) : at0 (xs.set t n) u = if u = t then n else at0 xs u := by
  unfold at0
  by_cases hu : 0 ≤ u
  · rw [if_pos hu, if_pos hu]
    simp only [List.getD]
    by_cases he : u = t
    · rw [if_pos he]
      have : u.toNat = t := by omega
      rw [this, List.getElem?_set_self h]; rfl
    · rw [if_neg he, List.getElem?_set_ne (by omega)]
  · rw [if_neg hu, if_neg hu]
    rw [if_neg (by omega)]
theorem OkL.set {xs : List Int} (h : OkL xs) (t : Nat) (n : Int) (h0 : 0 ≤ n) (h1 : n ≤ 1048576) : OkL (xs.set t n) := by
  refine ⟨by simpa using h.1, fun x hx => ?_⟩
  rcases List.mem_or_eq_of_mem_set hx with hx | hx
  · exact h.2 x hx
  · omega

/-- A store into the numbers of a clock that are its own. -/
theorem stored_ck {w : World} {b : Nat} {k : Ck} (h : CkAt w b k) (t : Nat) (n : Int) (ht : t < k.xs.length) (h0 : 0 ≤ n) (h1 : n ≤ 1048576) : CkAt (w.setCell ⟨k.arr, t, none⟩ (.int .i64 n)) b ⟨k.arr, k.xs.set t n, k.sh⟩ := by
  obtain ⟨ao, cap, hb, hc, ho, hx⟩ := h
  obtain ⟨rfl, cur, hg, hcur⟩ := hx (by omega)
  have hne : b ≠ k.arr := by
    intro e
    rw [e] at hb
    rw [hb] at hg
    have := Option.some.inj hg
    injection this with e1 e2
    exact absurd e2 (by decide)
  refine ⟨_, cap, ?_, ⟨by simpa using hc.1, fun e => by cases e⟩, ho.set t n h0 h1, fun _ => ⟨rfl, cur.setIfInBounds t (.int .i64 n), ?_, ?_⟩⟩
  · rw [heap_setCell_other _ _ _ _ hne, hb]; simp
  · exact heap_setCell_same w k.arr t cur _ _ hg
  · rw [Array.toList_setIfInBounds, List.take_set, List.length_set, hcur]
    simp [ints, List.map_set]

def SetPost (b : Nat) (k : Ck) (t n : Int) (w : World) (r : Ending) (w' : World) : Prop :=
  ∃ k', r = .returned (.int .i64 0) ∧ Wrote w b k k' w' ∧ (∀ u, at0 k'.xs u = if u = t then n else at0 k.xs u)

theorem set_no (p : Value) (t n : Int) (w : World) (h : ¬ ((0 ≤ t ∧ t < 256) ∧ 0 ≤ n ∧ n ≤ 1048576)) : Calls Try.prog 18 #[p, .int .i64 t, .int .i64 n] w fun r w' => r = .returned (.int .i64 1) ∧ w = w' := by
  go_enter Try.func18, Try.ntmps18
  go_wp2_with (first
    | (go_at_call 37; refine (tid_any _ _).mono ?_; rintro r w' ⟨rfl, rfl⟩)
    | (go_at_call 32; refine (number_any _ _).mono ?_; rintro r w' ⟨rfl, rfl⟩))
  all_goals first
    | (go_ret; exact ⟨rfl, rfl⟩)
    | (exfalso; apply h; simp_all; done)

theorem set_nil (t n : Int) (w : World) (h : (0 ≤ t ∧ t < 256) ∧ 0 ≤ n ∧ n ≤ 1048576) : Calls Try.prog 18 #[.pointer none, .int .i64 t, .int .i64 n] w fun r w' => r = .returned (.int .i64 7) ∧ w = w' := by
  obtain ⟨⟨a, b⟩, c, d⟩ := h
  go_enter Try.func18, Try.ntmps18
  go_wp2_with (first
    | (go_at_call 37; refine (tid_any _ _).mono ?_; rintro r w' ⟨rfl, rfl⟩)
    | (go_at_call 32; refine (number_any _ _).mono ?_; rintro r w' ⟨rfl, rfl⟩))
  go_ret
  exact ⟨rfl, rfl⟩

/-- Behind own: the number is stored. -/
theorem wrote_own {w w1 : World} {b g t m : Nat} {k : Ck} {n : Int} (hg : w.heap.size ≤ g) (h1 : CkAt w1 b ⟨g, pad m k.xs, false⟩) (hw : w.grownBy w1 (some b)) (ht : t < (pad m k.xs).length) (h0 : 0 ≤ n) (h2 : n ≤ 1048576) :
    Wrote w b k ⟨g, (pad m k.xs).set t n, false⟩ (w1.setCell ⟨g, t, none⟩ (.int .i64 n)) ∧ ∀ u, at0 ((pad m k.xs).set t n) u = if u = t then n else at0 k.xs u := by
  refine ⟨⟨stored_ck h1 t n ht h0 h2, (Turned.of_grown hw).trans (Turned.of_setCell _ _) (fun i _ e => .inl e) (fun i hi e => ?_), .inr ⟨hg, rfl⟩⟩, fun u => by rw [at0_set _ _ _ _ ht, at0_pad]⟩
  have : i = g := e
  omega
theorem wrote_own0 {w : World} {b t : Nat} {k : Ck} {n : Int} (h : CkAt w b k) (hs : k.sh = false) (ht : t < k.xs.length) (h0 : 0 ≤ n) (h2 : n ≤ 1048576) :
    Wrote w b k ⟨k.arr, k.xs.set t n, k.sh⟩ (w.setCell ⟨k.arr, t, none⟩ (.int .i64 n)) ∧ ∀ u, at0 (k.xs.set t n) u = if u = t then n else at0 k.xs u :=
  ⟨⟨stored_ck h t n ht h0 h2, (Turned.of_setCell _ _).mono (fun i _ e => .inr ⟨hs, by omega, e⟩), .inl ⟨rfl, rfl, by simp⟩⟩, fun u => at0_set _ _ _ _ ht⟩

set_option maxHeartbeats 1000000 in
theorem set_yes (b : Nat) (k : Ck) (t : Nat) (n : Int) (w : World) (h : CkAt w b k) (ht : t < 256) (h0 : 0 ≤ n) (h1 : n ≤ 1048576) :
    Calls Try.prog 18 #[.pointer (some ⟨b, 0, none⟩), .int .i64 t, .int .i64 n] w (SetPost b k t n w) := by
  have ht' : (t : Int) < 256 := by omega
  by_cases he : at0 k.xs t = n
  · have hd : (at0 k.xs t != n) = false := by simpa using he
    have E := Lib.hid he
    clear he
    go_enter Try.func18, Try.ntmps18
    go_wp2_with (first
      | (go_at_call 37; refine (tid_any _ _).mono ?_; rintro r w' ⟨rfl, rfl⟩)
      | (go_at_call 32; refine (number_any _ _).mono ?_; rintro r w' ⟨rfl, rfl⟩)
      | (go_at_call 38; refine (get_any b k t _ h).mono ?_; rintro r w' ⟨rfl, rfl⟩))
    go_ret
    exact ⟨k, rfl, ⟨h, Turned.refl _ _, .inl ⟨rfl, rfl, rfl⟩⟩, fun u => by
      split
      · rename_i hu; rw [hu, E.out]
      · rfl⟩
  · have hd : (at0 k.xs t != n) = true := by simpa using he
    clear he
    by_cases hlt : k.xs.length < t + 1
    · have HL := Lib.hid hlt
      clear hlt
      go_enter Try.func18, Try.ntmps18
      go_wp2_with (first
        | (go_at_call 37; refine (tid_any _ _).mono ?_; rintro r w' ⟨rfl, rfl⟩)
        | (go_at_call 32; refine (number_any _ _).mono ?_; rintro r w' ⟨rfl, rfl⟩)
        | (go_at_call 38; refine (get_any b k t _ h).mono ?_; rintro r w' ⟨rfl, rfl⟩))
      refine (own_more b k (t + 1) _ h (by omega) HL.out _ rfl).mono ?_
      rintro r w1 ⟨rfl, g, hg, HK, hgr⟩
      have LT := Lib.hid (show t < (pad (t + 1) k.xs).length by rw [length_pad _ _ (by have := HL.out; omega)]; omega)
      obtain ⟨ao, cap, c0, c1, c2, c3, c4, c5, c6⟩ := CkAt.facts HK
      obtain ⟨rfl, hcell, hfr⟩ := c6 (Nat.lt_of_le_of_lt (Nat.zero_le _) LT.out)
      have g0 := hcell t LT.out
      have g1 := hfr t
      have g2 := LT.out
      obtain ⟨u, hu⟩ : ∃ u, (pad (t + 1) k.xs).getD t 0 = u := ⟨_, rfl⟩
      rw [hu] at g0
      clear hu hcell hfr c6
      simp only at c0 c1 c2 c3 c4 c5 g0 g1 g2
      go_wp2
      go_ret
      exact ⟨_, rfl, wrote_own hg HK hgr LT.out h0 h1⟩
    · have hge : t + 1 ≤ k.xs.length := by omega
      have HL := Lib.hid hge
      clear hlt hge
      cases hs : k.sh with
      | true =>
        go_enter Try.func18, Try.ntmps18
        go_wp2_with (first
          | (go_at_call 37; refine (tid_any _ _).mono ?_; rintro r w' ⟨rfl, rfl⟩)
          | (go_at_call 32; refine (number_any _ _).mono ?_; rintro r w' ⟨rfl, rfl⟩)
          | (go_at_call 38; refine (get_any b k t _ h).mono ?_; rintro r w' ⟨rfl, rfl⟩))
        refine (own_shared b k (t + 1) _ h HL.out hs).mono ?_
        rintro r w1 ⟨rfl, g, hg, HK, hgr⟩
        have LT := Lib.hid (show t < (pad k.xs.length k.xs).length by rw [length_pad _ _ (Nat.le_refl _)]; have := HL.out; omega)
        obtain ⟨ao, cap, c0, c1, c2, c3, c4, c5, c6⟩ := CkAt.facts HK
        obtain ⟨rfl, hcell, hfr⟩ := c6 (Nat.lt_of_le_of_lt (Nat.zero_le _) LT.out)
        have g0 := hcell t LT.out
        have g1 := hfr t
        have g2 := LT.out
        obtain ⟨u, hu⟩ : ∃ u, (pad k.xs.length k.xs).getD t 0 = u := ⟨_, rfl⟩
        rw [hu] at g0
        clear hu hcell hfr c6
        simp only at c0 c1 c2 c3 c4 c5 g0 g1 g2
        go_wp2
        go_ret
        exact ⟨_, rfl, wrote_own hg HK hgr LT.out h0 h1⟩
      | false =>
        go_enter Try.func18, Try.ntmps18
        go_wp2_with (first
          | (go_at_call 37; refine (tid_any _ _).mono ?_; rintro r w' ⟨rfl, rfl⟩)
          | (go_at_call 32; refine (number_any _ _).mono ?_; rintro r w' ⟨rfl, rfl⟩)
          | (go_at_call 38; refine (get_any b k t _ h).mono ?_; rintro r w' ⟨rfl, rfl⟩))
        refine (own_none b k (t + 1) _ h HL.out hs).mono ?_
        rintro r w1 ⟨rfl, rfl⟩
        have HK := h
        have LT := Lib.hid (show t < k.xs.length by have := HL.out; omega)
        obtain ⟨ao, cap, c0, c1, c2, c3, c4, c5, c6⟩ := CkAt.facts HK
        obtain ⟨rfl, hcell, hfr⟩ := c6 (Nat.lt_of_le_of_lt (Nat.zero_le _) LT.out)
        have g0 := hcell t LT.out
        have g1 := hfr t
        have g2 := LT.out
        obtain ⟨u, hu⟩ : ∃ u, (k.xs).getD t 0 = u := ⟨_, rfl⟩
        rw [hu] at g0
        clear hu hcell hfr c6
        try simp only at c0 c1 c2 c3 c4 c5 g0 g1 g2
        go_wp2
        go_ret
        exact ⟨_, rfl, wrote_own0 h hs LT.out h0 h1⟩

end Go.Proofs.Ytlkfhobacgnckaa

