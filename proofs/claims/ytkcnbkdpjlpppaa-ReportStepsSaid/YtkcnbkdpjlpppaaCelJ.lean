
/-
  Package cell: Retire.
-/
import Derived.Test.YtkcnbkdpjlpppaaCelI
namespace Go.Proofs.Ytkcnbkdpjlpppaa
open Go.RowKit
set_option linter.unusedVariables false
set_option linter.unusedSimpArgs false
set_option maxRecDepth 100000

def retX (x tid cut : Int) : Int := if tidE x = tid then (if clkE x ≤ cut then 0 else 18446744073709551615) else x
def retL (l : List Int) (tid : Int) : List Int := l.filter (fun r => !ownB r tid)
def retT (l : List Int) (tl : Bool) (tid cut : Int) : Bool := tl || l.any (fun r => ownB r tid && gtB r cut)
def CRetPost (B b : Nat) (x : Int) (l : List Int) (tl : Bool) (tid cut : Int) (w : World) (r : Ending) (w' : World) : Prop :=
  r = .returned (.int .i64 0) ∧ Turned (fun i => i = b) w w' ∧ ∃ v', Cl B w' b v' (retX x tid cut) (retL l tid) (retT l tl tid cut)
theorem any_snoc {l : List Int} {q : Int → Bool} {j : Nat} (hj : j < l.length) : (l.take (j + 1)).any q = ((l.take j).any q || q (l.getD j 0)) := by
  rw [List.take_add_one, List.any_append, List.getD_eq_getElem?_getD, List.getElem?_eq_getElem hj]
  simp

/-- What the calls in DeleteFunc leave. -/
def RetI (b : Nat) (v : Value) (x : Int) (l : List Int) (tl : Bool) (tid cut : Int) (W5 w6 : World) (j : Nat) (w' : World) : Prop :=
  Turned (fun i => i = b) W5 w' ∧ w6.heap.size ≤ w'.heap.size ∧ w'.heap[b]? = some (.cells #[.int .u64 x, v, .bool (tl || (l.take j).any (fun r => ownB r tid && gtB r cut))] 97 (0, 0))
def RetDone (B b : Nat) (v : Value) (x : Int) (l' : List Int) (t : Bool) (W5 : World) (r : Ending) (w7 : World) : Prop :=
  ∃ a7 p7, r = .returned (.slice a7 l'.length p7) ∧ Turned (fun i => i = b) W5 w7 ∧ w7.cell? ⟨b, 1, none⟩ = some v ∧ w7.frozen? ⟨b, 1, none⟩ = false ∧ Cl B (w7.setCell ⟨b, 1, none⟩ (.slice a7 l'.length p7)) b (.slice a7 l'.length p7) x l' t ∧ Turned (fun i => i = b) W5 (w7.setCell ⟨b, 1, none⟩ (.slice a7 l'.length p7))
theorem ret_delete {B b : Nat} {v : Value} {x : Int} {l : List Int} {tl : Bool} (tid cut : Int) {W5 w6 : World} {v6 : Value} (q1 q2 q3 : Nat) (h : Cl B W5 b v x l tl) (hB : B ≤ W5.heap.size) (hl : l.length ≤ 1000) (ho : ∀ e, e ∈ l → okE e = true)
    (b1 : W5.cell? ⟨q1, 0, none⟩ = some (.int .i64 tid)) (b2 : W5.cell? ⟨q2, 0, none⟩ = some (.pointer (some ⟨b, 0, none⟩))) (b3 : W5.cell? ⟨q3, 0, none⟩ = some (.int .i64 cut)) (n1 : q1 ≠ b) (n2 : q2 ≠ b) (n3 : q3 ≠ b)
    (hr : w6.ownsRow W5.heap.size 25 1 v6 l.length (eps l)) (h6 : Below W5.heap.size W5 w6) :
    Calls Try.prog 36 #[v6, .func (.func 46) #[] #[.pointer (some ⟨q1, 0, none⟩), .pointer (some ⟨q2, 0, none⟩), .pointer (some ⟨q3, 0, none⟩)]] w6 (RetDone B b v x (retL l tid) (retT l tl tid cut) W5) := by
  have hlt := h.lt
  have lt6 : ∀ g, v6.ownBlock = some g → W5.heap.size ≤ g ∧ g < w6.heap.size := fun g hg => hr.lt g hg
  refine (delete_retire W5.heap.size l (fun r => ownB r tid) (RetI b v x l tl tid cut W5 w6) q1 q2 q3 v6 l.length w6 rfl hl hr ?_ ?_ ?_).mono ?_
  · intro j w' hj ⟨i1, i2, i3⟩
    have k1 := (turned_cell i1 (p := ⟨q1, 0, none⟩) (block_lt_of_cell b1) n1).trans b1
    have k2 := (turned_cell i1 (p := ⟨q2, 0, none⟩) (block_lt_of_cell b2) n2).trans b2
    have k3 := (turned_cell i1 (p := ⟨q3, 0, none⟩) (block_lt_of_cell b3) n3).trans b3
    refine (retire1_any (l.getD j 0) tid cut q1 q2 q3 b v x _ w' (okE_u64 (u64_at ho hj)) k1 k2 k3 i3).mono ?_
    rintro r w'' ⟨e1, e2, e3⟩
    refine ⟨e1, ⟨i1.trans e2 (fun _ _ h => h) (fun _ _ h => h), Nat.le_trans i2 e2.size, ?_⟩, fun g hg => ?_⟩
    · rw [e3, any_snoc hj, Bool.or_assoc]
    · have := lt6 g hg
      exact e2.block g (by omega) (by show g ≠ b; omega)
  · rintro j w' w'' g hg ⟨i1, i2, i3⟩ ht
    have := lt6 g hg
    refine ⟨⟨ht.os.trans i1.os, ht.tape.trans i1.tape, ht.output.trans i1.output, Nat.le_trans i1.size ht.size, fun i hi hne => (ht.block i (Nat.lt_of_lt_of_le hi i1.size) (by show i ≠ g; omega)).trans (i1.block i hi hne)⟩, Nat.le_trans i2 ht.size, (ht.block b (Nat.lt_of_lt_of_le hlt i1.size) (by show b ≠ g; omega)).trans i3⟩
  · refine ⟨turned_below h6, Nat.le_refl _, (h6.block b hlt).trans ?_⟩
    rw [h.blk]; simp
  · rintro r w7 ⟨v7, rfl, e1, e2, i1, i2, i3⟩
    rw [List.take_of_length_le (Nat.le_refl _)] at i3
    obtain ⟨a7, p7, rfl, _⟩ := eps_of_owns e1
    have hk : ∀ g, (Value.slice a7 (retL l tid).length p7).ownBlock = some g → W5.heap.size ≤ g := fun g hg => (e1.lt g hg).1
    have hset : (w7.setCell ⟨b, 1, none⟩ (.slice a7 (retL l tid).length p7)).heap[b]? = _ := heap_setCell_same w7 b 1 _ _ _ i3
    refine ⟨a7, p7, rfl, i1, by simp only [World.cell?, i3]; rfl, by simp [World.frozen?, i3], ⟨hset, h.low, ⟨e1.1, ?_⟩⟩, i1.trans (Turned.of_setCell ⟨b, 1, none⟩ _) (fun _ _ h => h) (fun _ _ h => h)⟩
    rcases e1.2 with h2 | ⟨g, cap, cur, e, hbg, hg, h3⟩
    · exact .inl h2
    · exact .inr ⟨g, cap, cur, e, by omega, (heap_setCell_other w7 ⟨b, 1, none⟩ g _ (by show g ≠ b; omega)).trans hg, h3⟩

/-- Three boxes. -/
theorem three_boxes {w W : World} {x y z : Value} {s t u : TypeId} (hW : ((w.alloc (.cells #[x] s)).alloc (.cells #[y] t)).alloc (.cells #[z] u) = W) : Below w.heap.size w W ∧ W.cell? ⟨w.heap.size, 0, none⟩ = some x ∧ W.cell? ⟨w.heap.size + 1, 0, none⟩ = some y ∧ W.cell? ⟨w.heap.size + 1 + 1, 0, none⟩ = some z ∧ W.heap.size = w.heap.size + 3 := by
  obtain ⟨W2, h2⟩ : ∃ W2, (w.alloc (.cells #[x] s)).alloc (.cells #[y] t) = W2 := ⟨_, rfl⟩
  obtain ⟨k1, k2, k3, k4⟩ := two_boxes h2
  rw [h2] at hW
  subst hW
  have hb : Below W2.heap.size W2 (W2.alloc (.cells #[z] u)) := (Below.refl _ _).alloc (Nat.le_refl _) _
  refine ⟨k1.trans (hb.mono k1.size), (hb.cell (p := ⟨w.heap.size, 0, none⟩) (by rw [k4]; show w.heap.size < _; omega)).trans k2, (hb.cell (p := ⟨w.heap.size + 1, 0, none⟩) (by rw [k4]; show w.heap.size + 1 < _; omega)).trans k3, ?_, by rw [size_alloc, k4]⟩
  have := heap_alloc_new W2 (.cells #[z] u)
  rw [k4] at this
  simp only [World.cell?, this]; rfl
def retBad (tid cut : Int) : Bool := decide (tid < 0 ∨ 256 ≤ tid ∨ cut < 0 ∨ 1048576 < cut)
theorem ret_cases (tid cut : Int) : (retBad tid cut = true ∧ (tid < 0 ∨ (¬ tid < 0 ∧ 256 ≤ tid) ∨ (¬ tid < 0 ∧ ¬ 256 ≤ tid ∧ cut < 0) ∨ (¬ tid < 0 ∧ ¬ 256 ≤ tid ∧ ¬ cut < 0 ∧ 1048576 < cut))) ∨ (retBad tid cut = false ∧ ¬ tid < 0 ∧ ¬ 256 ≤ tid ∧ ¬ cut < 0 ∧ ¬ 1048576 < cut) := by
  unfold retBad
  by_cases h1 : tid < 0
  · exact .inl ⟨decide_eq_true (.inl h1), .inl h1⟩
  · by_cases h2 : 256 ≤ tid
    · exact .inl ⟨decide_eq_true (.inr (.inl h2)), .inr (.inl ⟨h1, h2⟩)⟩
    · by_cases h3 : cut < 0
      · exact .inl ⟨decide_eq_true (.inr (.inr (.inl h3))), .inr (.inr (.inl ⟨h1, h2, h3⟩))⟩
      · by_cases h4 : 1048576 < cut
        · exact .inl ⟨decide_eq_true (.inr (.inr (.inr h4))), .inr (.inr (.inr ⟨h1, h2, h3, h4⟩))⟩
        · exact .inr ⟨decide_eq_false (by omega), h1, h2, h3, h4⟩
theorem ret_bad_cases {tid cut : Int} (h : retBad tid cut = true) : tid < 0 ∨ (¬ tid < 0 ∧ 256 ≤ tid) ∨ (¬ tid < 0 ∧ ¬ 256 ≤ tid ∧ cut < 0) ∨ (¬ tid < 0 ∧ ¬ 256 ≤ tid ∧ ¬ cut < 0 ∧ 1048576 < cut) := by
  rcases ret_cases tid cut with h1 | h1
  · exact h1.2
  · exact absurd (h.symm.trans h1.1) (by decide)
theorem cret_bad (ac : Option Addr) (tid cut : Int) (w : World) (h : retBad tid cut = true) : Calls Try.prog 25 #[.pointer ac, .int .i64 tid, .int .i64 cut] w fun r w' => r = .returned (.int .i64 1) ∧ Below w.heap.size w w' := by
  obtain ⟨W, hW⟩ : ∃ W, ((w.alloc (.cells #[.pointer ac] 43)).alloc (.cells #[.int .i64 tid] 3)).alloc (.cells #[.int .i64 cut] 3) = W := ⟨_, rfl⟩
  have TB := Lib.hid (three_boxes hW)
  have HW := Lib.hid hW
  clear hW
  rcases ret_bad_cases h with h1 | ⟨h1, h2⟩ | ⟨h1, h2, h3⟩ | ⟨h1, h2, h3, h4⟩ <;> (
    clear h
    go_enter Try.func25, Try.ntmps25
    go_wp2_with fail
    rw [HW.out]
    go_ret
    exact ⟨rfl, TB.out.1⟩)
theorem cret_nil (tid cut : Int) (w : World) (h : retBad tid cut = false) : Calls Try.prog 25 #[.pointer none, .int .i64 tid, .int .i64 cut] w fun r w' => r = .returned (.int .i64 7) ∧ Below w.heap.size w w' := by
  obtain ⟨W, hW⟩ : ∃ W, ((w.alloc (.cells #[.pointer none] 43)).alloc (.cells #[.int .i64 tid] 3)).alloc (.cells #[.int .i64 cut] 3) = W := ⟨_, rfl⟩
  have TB := Lib.hid (three_boxes hW)
  have HW := Lib.hid hW
  clear hW
  rcases ret_cases tid cut with ⟨h2, _⟩ | ⟨_, h1, h2, h3, h4⟩
  · exact absurd (h2.symm.trans h) (by decide)
  · clear h
    go_enter Try.func25, Try.ntmps25
    go_wp2_with fail
    rw [HW.out]
    go_ret
    exact ⟨rfl, TB.out.1⟩
theorem cl_write {B : Nat} {w : World} {b : Nat} {v : Value} {x : Int} {l : List Int} {tl : Bool} (h : Cl B w b v x l tl) (hB : ∀ g, v.ownBlock = some g → g ≠ b) (y : Int) : Cl B (w.setCell ⟨b, 0, none⟩ (.int .u64 y)) b v y l tl := by
  refine ⟨heap_setCell_same w b 0 _ _ _ h.blk, h.low, ⟨h.row.1, ?_⟩⟩
  rcases h.row.2 with h2 | ⟨g, cap, cur, rfl, hbg, hg, h3⟩
  · exact .inl h2
  · exact .inr ⟨g, cap, cur, rfl, hbg, (heap_setCell_other w ⟨b, 0, none⟩ g _ (hB g rfl)).trans hg, h3⟩
theorem Cl.apart {B : Nat} {w : World} {b : Nat} {v : Value} {x : Int} {l : List Int} {tl : Bool} (h : Cl B w b v x l tl) : ∀ g, v.ownBlock = some g → g ≠ b := by
  intro g hg e
  subst e
  rcases h.row.2 with ⟨rfl, _⟩ | ⟨g', cap, cur, rfl, hbg, hgg, _⟩
  · cases hg
  · cases hg
    rw [h.blk] at hgg
    have := Option.some.inj hgg
    injection this with e1 e2
    cases e2

set_option maxHeartbeats 4000000 in
theorem cret_any (B b : Nat) (v : Value) (x : Int) (l : List Int) (tl : Bool) (tid cut : Int) (w : World) (h : Cl B w b v x l tl) (hk : OkC x l) (hB : B ≤ w.heap.size) (hg : retBad tid cut = false) :
    Calls Try.prog 25 #[.pointer (some ⟨b, 0, none⟩), .int .i64 tid, .int .i64 cut] w (CRetPost B b x l tl tid cut w) := by
  obtain ⟨W, hW⟩ : ∃ W, ((w.alloc (.cells #[.pointer (some ⟨b, 0, none⟩)] 43)).alloc (.cells #[.int .i64 tid] 3)).alloc (.cells #[.int .i64 cut] 3) = W := ⟨_, rfl⟩
  obtain ⟨hBW, hq2, hq1, hq3, hsz⟩ := three_boxes hW
  have hbl := h.lt
  have hh := h.below hBW
  have H := Lib.hid hh
  have OC := Lib.hid hk
  have SZ := Lib.hid hsz
  have BW := Lib.hid hBW
  have HW := Lib.hid hW
  obtain ⟨ao, cap, rfl, hno⟩ := hh.shape
  obtain ⟨c0, c1, c2⟩ := hh.cells
  have f0 := hh.f 0
  have f1 := hh.f 1
  have hN : l.length ≤ 1000 := Nat.le_trans hk.len (by decide)
  obtain ⟨q2, hq2'⟩ : ∃ q2, w.heap.size = q2 := ⟨_, rfl⟩
  obtain ⟨q1, hq1'⟩ : ∃ q1, w.heap.size + 1 = q1 := ⟨_, rfl⟩
  obtain ⟨q3, hq3'⟩ : ∃ q3, w.heap.size + 1 + 1 = q3 := ⟨_, rfl⟩
  have N1 : q1 ≠ b := by omega
  have N2 : q2 ≠ b := by omega
  have N3 : q3 ≠ b := by omega
  have N1' : b ≠ q1 := Ne.symm N1
  have N2' : b ≠ q2 := Ne.symm N2
  have N3' : b ≠ q3 := Ne.symm N3
  have UX := Lib.hid hk.u
  have hBW5 : B ≤ W.heap.size := by omega
  rcases ret_cases tid cut with ⟨h2, _⟩ | ⟨_, h1, h2, h3, h4⟩
  · exact absurd (h2.symm.trans hg) (by decide)
  have T := Lib.hid (show ∀ x' W5 w7 v7, retX x tid cut = x' → Turned (fun i => i = b) W W5 → Cl B (w7) b v7 x' (retL l tid) (retT l tl tid cut) → Turned (fun i => i = b) W5 w7 → CRetPost B b x l tl tid cut w (.returned (.int .i64 0)) w7 from fun x' W5 w7 v7 hx ht hc ht2 =>
    ⟨rfl, ((turned_below BW.out).trans ht (fun _ _ h => h) (fun _ _ h => h)).trans ht2 (fun _ _ h => h) (fun _ _ h => h), v7, by rw [hx]; exact hc⟩)
  have DL := Lib.hid (show ∀ (x' : Int) (W5 w6 : World) (v6 : Value), Cl B W5 b (.slice ao l.length cap) x' l tl → Turned (fun i => i = b) W W5 → w6.ownsRow W5.heap.size 25 1 v6 l.length (eps l) → Below W5.heap.size W5 w6 → Calls Try.prog 36 #[v6, .func (.func 46) #[] #[.pointer (some ⟨q1, 0, none⟩), .pointer (some ⟨q2, 0, none⟩), .pointer (some ⟨q3, 0, none⟩)]] w6 (RetDone B b (.slice ao l.length cap) x' (retL l tid) (retT l tl tid cut) W5) from fun x' W5 w6 v6 hc ht hr hb => by
    subst hq1' hq2' hq3'
    exact ret_delete tid cut _ _ _ hc (Nat.le_trans hBW5 ht.size) hN OC.out.ok ((turned_cell ht (p := ⟨w.heap.size + 1, 0, none⟩) (block_lt_of_cell hq1) N1).trans hq1) ((turned_cell ht (p := ⟨w.heap.size, 0, none⟩) (block_lt_of_cell hq2) N2).trans hq2) ((turned_cell ht (p := ⟨w.heap.size + 1 + 1, 0, none⟩) (block_lt_of_cell hq3) N3).trans hq3) N1 N2 N3 hr hb)
  rw [hq2'] at hq2
  rw [hq1'] at hq1
  rw [hq3'] at hq3
  have QW := Lib.hid (show ∀ w', Turned (fun i => i = b) W w' → w'.cell? ⟨q1, 0, none⟩ = some (.int .i64 tid) ∧ w'.cell? ⟨q2, 0, none⟩ = some (.pointer (some ⟨b, 0, none⟩)) ∧ w'.cell? ⟨q3, 0, none⟩ = some (.int .i64 cut) from fun w' ht =>
    ⟨(turned_cell ht (p := ⟨q1, 0, none⟩) (block_lt_of_cell hq1) N1).trans hq1, (turned_cell ht (p := ⟨q2, 0, none⟩) (block_lt_of_cell hq2) N2).trans hq2, (turned_cell ht (p := ⟨q3, 0, none⟩) (block_lt_of_cell hq3) N3).trans hq3⟩)
  have HQ1 := Lib.hid hq1'
  have HQ2 := Lib.hid hq2'
  have HQ3 := Lib.hid hq3'
  have e1 : (((w.alloc (.cells #[.pointer (some ⟨b, 0, none⟩)] 43)).alloc (.cells #[.int .i64 tid] 3)).alloc (.cells #[.int .i64 cut] 3)).cell? ⟨b, 0, none⟩ = some (.int .u64 x) := by rw [hW]; exact c0
  clear h hk hBW hsz hW hh hg hno hq1' hq2' hq3'
  go_enter Try.func25, Try.ntmps25
  go_wp2_with fail
  rw [HW.out, HQ3.out, HQ1.out, HQ2.out]
  clear e1
  have HT := Lib.hid (show ∀ y, decide (tidE x = tid) = y → (tidE x == tid) = y from fun y h => by rw [← h]; rfl)
  obtain ⟨y, hy⟩ : ∃ y, decide (tidE x = tid) = y := ⟨_, rfl⟩
  have hy' := HT.out y hy
  have HY := Lib.hid hy
  clear hy HT
  go_region_held3 (fun w' => w'.cell? ⟨q1, 0, none⟩ = some (.int .i64 tid) ∧ w'.cell? ⟨q2, 0, none⟩ = some (.pointer (some ⟨b, 0, none⟩)) ∧ w'.cell? ⟨b, 0, none⟩ = some (.int .u64 x)) (go_keep)
    (first | (go_at_call 22; (with_reducible refine (etid_of x _ UX.out).mono ?_); rintro r w8 ⟨rfl, rfl⟩))
  cases y with
  | false =>
    go_wp2_with fail
    have C5 := Lib.hid (show Cl B W.drew.drew b (.slice ao l.length cap) x l tl from ⟨H.out.blk, H.out.low, H.out.row⟩)
    have T5 := Lib.hid ((turned_drew (fun i => i = b) W).trans (turned_drew (fun i => i = b) W.drew) (fun _ _ h => h) (fun _ _ h => h))
    have X6 := Lib.hid (show retX x tid cut = x from by unfold retX; rw [if_neg (of_decide_eq_false HY.out)])
    obtain ⟨W5, hW5⟩ : ∃ W5, W.drew = W5 := ⟨_, rfl⟩
    rw [hW5] at C5 T5 ⊢
    clear hW5
    obtain ⟨k1, k2, k3⟩ := QW.out W5.drew T5.out
    have d1 : W5.drew.cell? ⟨b, 1, none⟩ = some (.slice ao l.length cap) := C5.out.cells.2.1
    have CLN := Lib.hid (clone_eps (.slice ao l.length cap) l W5.drew C5.out.eps hN)
    refine wp_region_held_drew (S := (fun w' => w'.cell? ⟨q1, 0, none⟩ = some (.int .i64 tid) ∧ w'.cell? ⟨q2, 0, none⟩ = some (.pointer (some ⟨b, 0, none⟩)) ∧ w'.cell? ⟨q3, 0, none⟩ = some (.int .i64 cut))) (by kernel_rfl) (by (try dsimp only); go_keep) (fun hHeld => ?_)
    refine wpAnyH_take (i := 0) (v := ?vp0) rfl (by kernel_rfl) (by kernel_rfl) (by kernel_rfl) (fun _ _ _ h => h) (Or.inl ⟨by kernel_rfl, ?hyp0⟩) (by assumption) ?restp0
    case hyp0 => (intro w hSw; (try dsimp only at hSw); go_simp; try with_reducible rfl)
    try simp only [Act.put, List.getElem_toArray, List.getElem_cons_succ, List.getElem_cons_zero, List.setIfInBounds_toArray, List.set_cons_zero, List.set_cons_succ]
    refine wpAnyH_take (i := 1) (v := ?vp1) rfl (by kernel_rfl) (by kernel_rfl) (by kernel_rfl) (fun _ _ _ h => h) (Or.inl ⟨by kernel_rfl, ?hyp1⟩) (by assumption) ?restp1
    case hyp1 => (intro w hSw; (try dsimp only at hSw); go_simp; try with_reducible rfl)
    try simp only [Act.put, List.getElem_toArray, List.getElem_cons_succ, List.getElem_cons_zero, List.setIfInBounds_toArray, List.set_cons_zero, List.set_cons_succ]
    refine wpAnyH_take (i := 2) (v := ?vp2) rfl (by kernel_rfl) (by kernel_rfl) (by kernel_rfl) (fun _ _ _ h => h) (Or.inl ⟨by kernel_rfl, ?hyp2⟩) (by assumption) ?restp2
    case hyp2 => (intro w hSw; (try dsimp only at hSw); go_simp; try with_reducible rfl)
    try simp only [Act.put, List.getElem_toArray, List.getElem_cons_succ, List.getElem_cons_zero, List.setIfInBounds_toArray, List.set_cons_zero, List.set_cons_succ]
    refine wpAnyH_take (i := 3) (v := ?vp3) rfl (by kernel_rfl) (by kernel_rfl) (by kernel_rfl) (fun _ _ _ h => h) (Or.inl ⟨by kernel_rfl, ?hyp3⟩) (by assumption) ?restp3
    case hyp3 => (intro w hSw; (try dsimp only at hSw); go_simp; try with_reducible rfl)
    try simp only [Act.put, List.getElem_toArray, List.getElem_cons_succ, List.getElem_cons_zero, List.setIfInBounds_toArray, List.set_cons_zero, List.set_cons_succ]
    refine wpAnyH_take (i := 6) (v := ?vp6) rfl (by kernel_rfl) (by kernel_rfl) (by kernel_rfl) (fun _ _ _ h => h) (Or.inl ⟨by kernel_rfl, ?hyp6⟩) (by assumption) ?restp6
    case hyp6 => (intro w hSw; (try dsimp only at hSw); go_simp; try with_reducible rfl)
    try simp only [Act.put, List.getElem_toArray, List.getElem_cons_succ, List.getElem_cons_zero, List.setIfInBounds_toArray, List.set_cons_zero, List.set_cons_succ]
    refine wpAnyH_ready (rs := [4]) (by kernel_rfl) (by simp) ?_
    refine AllReadyH.cons rfl (fun K hK => ?_) AllReadyH.nil
    go_simp
    refine hK.out _ _ (by (try dsimp only); go_keep) (fun hHeld => ?_)
    clear hK K
    try simp only [Act.put, List.getElem_toArray, List.getElem_cons_succ, List.getElem_cons_zero, List.setIfInBounds_toArray, List.set_cons_zero, List.set_cons_succ]
    refine wpAnyH_ready (rs := [5]) (by kernel_rfl) (by simp) ?_
    refine AllReadyH.cons rfl (fun K hK => ?_) AllReadyH.nil
    go_simp
    go_at_call 33; (with_reducible refine CLN.out.mono ?_); rintro r w6 ⟨v6, rfl, hr6, hb6⟩; obtain ⟨a6, p6, rfl, _⟩ := eps_of_owns hr6; obtain ⟨m1, m2, m3⟩ := QW.out w6 (T5.out.trans (turned_below hb6) (fun _ _ h => h) (fun _ _ h => h)); have R6 := Lib.hid hr6; have B6 := Lib.hid hb6; clear hr6 hb6
    refine hK.out _ _ (by (try dsimp only); go_keep) (fun hHeld => ?_)
    clear hK K
    try simp only [Act.put, List.getElem_toArray, List.getElem_cons_succ, List.getElem_cons_zero, List.setIfInBounds_toArray, List.set_cons_zero, List.set_cons_succ]
    refine wpAnyH_ready (rs := [7]) (by kernel_rfl) (by simp) ?_
    refine AllReadyH.cons rfl (fun K hK => ?_) AllReadyH.nil
    go_simp
    go_at_call 36; (with_reducible refine (DL.out _ W5.drew w6 _ C5.out T5.out R6.out B6.out).mono ?_); rintro r w7 ⟨a7, p7, rfl, t7, f1, f2, f3, f4⟩; obtain ⟨o1, o2, o3⟩ := QW.out w7 (T5.out.trans t7 (fun _ _ h => h) (fun _ _ h => h)); have F3 := Lib.hid f3; have F4 := Lib.hid f4; clear t7 f3 f4
    refine hK.out _ _ (by (try dsimp only); go_keep) (fun hHeld => ?_)
    clear hK K
    try simp only [Act.put, List.getElem_toArray, List.getElem_cons_succ, List.getElem_cons_zero, List.setIfInBounds_toArray, List.set_cons_zero, List.set_cons_succ]
    refine wpAnyH_take (i := 8) (v := ?vp8) rfl (by kernel_rfl) (by kernel_rfl) (by kernel_rfl) (fun _ _ _ h => h) (Or.inl ⟨by kernel_rfl, ?hyp8⟩) (by assumption) ?restp8
    case hyp8 => (intro w hSw; (try dsimp only at hSw); go_simp; try with_reducible rfl)
    try simp only [Act.put, List.getElem_toArray, List.getElem_cons_succ, List.getElem_cons_zero, List.setIfInBounds_toArray, List.set_cons_zero, List.set_cons_succ]
    refine wpAnyH_take (i := 9) (v := ?vp9) rfl (by kernel_rfl) (by kernel_rfl) (by kernel_rfl) (fun _ _ _ h => h) (Or.inl ⟨by kernel_rfl, ?hyp9⟩) (by assumption) ?restp9
    case hyp9 => (intro w hSw; (try dsimp only at hSw); go_simp; try with_reducible rfl)
    try simp only [Act.put, List.getElem_toArray, List.getElem_cons_succ, List.getElem_cons_zero, List.setIfInBounds_toArray, List.set_cons_zero, List.set_cons_succ]
    refine wpAnyH_ready (rs := [10]) (by kernel_rfl) (by simp) ?_
    refine AllReadyH.cons rfl (fun K hK => ?_) AllReadyH.nil
    go_simp
    refine hK.out _ _ (by (try dsimp only); go_keep) (fun hHeld => ?_)
    clear hK K
    try simp only [Act.put, List.getElem_toArray, List.getElem_cons_succ, List.getElem_cons_zero, List.setIfInBounds_toArray, List.set_cons_zero, List.set_cons_succ]
    refine wpAnyH_done (by kernel_rfl) ?_ _
    go_wp2_with fail
    go_ret
    exact T.out _ W5.drew _ _ X6.out T5.out F3.out F4.out
  | true =>
    go_wp2_with fail
    obtain ⟨z, hz⟩ : ∃ z, decide (clkE x ≤ cut) = z := ⟨_, rfl⟩
    have HZ := Lib.hid hz
    go_region_held3 (fun w' => w'.cell? ⟨q3, 0, none⟩ = some (.int .i64 cut) ∧ w'.cell? ⟨q2, 0, none⟩ = some (.pointer (some ⟨b, 0, none⟩)) ∧ w'.cell? ⟨b, 0, none⟩ = some (.int .u64 x)) (go_keep)
      (first | (go_at_call 45; (with_reducible refine (eclk_of x _ UX.out).mono ?_); rintro r w8 ⟨rfl, rfl⟩))
    cases z with
    | true =>
      have hz1 : clkE x ≤ cut := of_decide_eq_true hz
      clear hz
      go_wp2_with fail
      have hcw := cl_write H.out H.out.apart 0
      have C5 := Lib.hid (show Cl B (W.setCell ⟨b, 0, none⟩ (.int .u64 0)).drew.drew.drew b (.slice ao l.length cap) 0 l tl from ⟨hcw.blk, hcw.low, hcw.row⟩)
      have T5 := Lib.hid (show Turned (fun i => i = b) W (W.setCell ⟨b, 0, none⟩ (.int .u64 0)).drew.drew.drew from (Turned.of_setCell ⟨b, 0, none⟩ (.int .u64 0)).trans (show Turned (fun i => i = b) (W.setCell ⟨b, 0, none⟩ (.int .u64 0)) (W.setCell ⟨b, 0, none⟩ (.int .u64 0)).drew.drew.drew from ⟨rfl, rfl, rfl, Nat.le_refl _, fun _ _ _ => rfl⟩) (fun _ _ h => h) (fun _ _ h => h))
      have X6 := Lib.hid (show retX x tid cut = 0 from by unfold retX; rw [if_pos (of_decide_eq_true HY.out), if_pos (of_decide_eq_true HZ.out)])
      obtain ⟨W5, hW5⟩ : ∃ W5, (W.setCell ⟨b, 0, none⟩ (.int .u64 0)).drew.drew = W5 := ⟨_, rfl⟩
      rw [hW5] at C5 T5 ⊢
      clear hW5 hcw
      obtain ⟨k1, k2, k3⟩ := QW.out W5.drew T5.out
      have d1 : W5.drew.cell? ⟨b, 1, none⟩ = some (.slice ao l.length cap) := C5.out.cells.2.1
      have CLN := Lib.hid (clone_eps (.slice ao l.length cap) l W5.drew C5.out.eps hN)
      refine wp_region_held_drew (S := (fun w' => w'.cell? ⟨q1, 0, none⟩ = some (.int .i64 tid) ∧ w'.cell? ⟨q2, 0, none⟩ = some (.pointer (some ⟨b, 0, none⟩)) ∧ w'.cell? ⟨q3, 0, none⟩ = some (.int .i64 cut))) (by kernel_rfl) (by (try dsimp only); go_keep) (fun hHeld => ?_)
      refine wpAnyH_take (i := 0) (v := ?vq0) rfl (by kernel_rfl) (by kernel_rfl) (by kernel_rfl) (fun _ _ _ h => h) (Or.inl ⟨by kernel_rfl, ?hyq0⟩) (by assumption) ?restq0
      case hyq0 => (intro w hSw; (try dsimp only at hSw); go_simp; try with_reducible rfl)
      try simp only [Act.put, List.getElem_toArray, List.getElem_cons_succ, List.getElem_cons_zero, List.setIfInBounds_toArray, List.set_cons_zero, List.set_cons_succ]
      refine wpAnyH_take (i := 1) (v := ?vq1) rfl (by kernel_rfl) (by kernel_rfl) (by kernel_rfl) (fun _ _ _ h => h) (Or.inl ⟨by kernel_rfl, ?hyq1⟩) (by assumption) ?restq1
      case hyq1 => (intro w hSw; (try dsimp only at hSw); go_simp; try with_reducible rfl)
      try simp only [Act.put, List.getElem_toArray, List.getElem_cons_succ, List.getElem_cons_zero, List.setIfInBounds_toArray, List.set_cons_zero, List.set_cons_succ]
      refine wpAnyH_take (i := 2) (v := ?vq2) rfl (by kernel_rfl) (by kernel_rfl) (by kernel_rfl) (fun _ _ _ h => h) (Or.inl ⟨by kernel_rfl, ?hyq2⟩) (by assumption) ?restq2
      case hyq2 => (intro w hSw; (try dsimp only at hSw); go_simp; try with_reducible rfl)
      try simp only [Act.put, List.getElem_toArray, List.getElem_cons_succ, List.getElem_cons_zero, List.setIfInBounds_toArray, List.set_cons_zero, List.set_cons_succ]
      refine wpAnyH_take (i := 3) (v := ?vq3) rfl (by kernel_rfl) (by kernel_rfl) (by kernel_rfl) (fun _ _ _ h => h) (Or.inl ⟨by kernel_rfl, ?hyq3⟩) (by assumption) ?restq3
      case hyq3 => (intro w hSw; (try dsimp only at hSw); go_simp; try with_reducible rfl)
      try simp only [Act.put, List.getElem_toArray, List.getElem_cons_succ, List.getElem_cons_zero, List.setIfInBounds_toArray, List.set_cons_zero, List.set_cons_succ]
      refine wpAnyH_take (i := 6) (v := ?vq6) rfl (by kernel_rfl) (by kernel_rfl) (by kernel_rfl) (fun _ _ _ h => h) (Or.inl ⟨by kernel_rfl, ?hyq6⟩) (by assumption) ?restq6
      case hyq6 => (intro w hSw; (try dsimp only at hSw); go_simp; try with_reducible rfl)
      try simp only [Act.put, List.getElem_toArray, List.getElem_cons_succ, List.getElem_cons_zero, List.setIfInBounds_toArray, List.set_cons_zero, List.set_cons_succ]
      refine wpAnyH_ready (rs := [4]) (by kernel_rfl) (by simp) ?_
      refine AllReadyH.cons rfl (fun K hK => ?_) AllReadyH.nil
      go_simp
      refine hK.out _ _ (by (try dsimp only); go_keep) (fun hHeld => ?_)
      clear hK K
      try simp only [Act.put, List.getElem_toArray, List.getElem_cons_succ, List.getElem_cons_zero, List.setIfInBounds_toArray, List.set_cons_zero, List.set_cons_succ]
      refine wpAnyH_ready (rs := [5]) (by kernel_rfl) (by simp) ?_
      refine AllReadyH.cons rfl (fun K hK => ?_) AllReadyH.nil
      go_simp
      go_at_call 33; (with_reducible refine CLN.out.mono ?_); rintro r w6 ⟨v6, rfl, hr6, hb6⟩; obtain ⟨a6, p6, rfl, _⟩ := eps_of_owns hr6; obtain ⟨m1, m2, m3⟩ := QW.out w6 (T5.out.trans (turned_below hb6) (fun _ _ h => h) (fun _ _ h => h)); have R6 := Lib.hid hr6; have B6 := Lib.hid hb6; clear hr6 hb6
      refine hK.out _ _ (by (try dsimp only); go_keep) (fun hHeld => ?_)
      clear hK K
      try simp only [Act.put, List.getElem_toArray, List.getElem_cons_succ, List.getElem_cons_zero, List.setIfInBounds_toArray, List.set_cons_zero, List.set_cons_succ]
      refine wpAnyH_ready (rs := [7]) (by kernel_rfl) (by simp) ?_
      refine AllReadyH.cons rfl (fun K hK => ?_) AllReadyH.nil
      go_simp
      go_at_call 36; (with_reducible refine (DL.out _ W5.drew w6 _ C5.out T5.out R6.out B6.out).mono ?_); rintro r w7 ⟨a7, p7, rfl, t7, f1, f2, f3, f4⟩; obtain ⟨o1, o2, o3⟩ := QW.out w7 (T5.out.trans t7 (fun _ _ h => h) (fun _ _ h => h)); have F3 := Lib.hid f3; have F4 := Lib.hid f4; clear t7 f3 f4
      refine hK.out _ _ (by (try dsimp only); go_keep) (fun hHeld => ?_)
      clear hK K
      try simp only [Act.put, List.getElem_toArray, List.getElem_cons_succ, List.getElem_cons_zero, List.setIfInBounds_toArray, List.set_cons_zero, List.set_cons_succ]
      refine wpAnyH_take (i := 8) (v := ?vq8) rfl (by kernel_rfl) (by kernel_rfl) (by kernel_rfl) (fun _ _ _ h => h) (Or.inl ⟨by kernel_rfl, ?hyq8⟩) (by assumption) ?restq8
      case hyq8 => (intro w hSw; (try dsimp only at hSw); go_simp; try with_reducible rfl)
      try simp only [Act.put, List.getElem_toArray, List.getElem_cons_succ, List.getElem_cons_zero, List.setIfInBounds_toArray, List.set_cons_zero, List.set_cons_succ]
      refine wpAnyH_take (i := 9) (v := ?vq9) rfl (by kernel_rfl) (by kernel_rfl) (by kernel_rfl) (fun _ _ _ h => h) (Or.inl ⟨by kernel_rfl, ?hyq9⟩) (by assumption) ?restq9
      case hyq9 => (intro w hSw; (try dsimp only at hSw); go_simp; try with_reducible rfl)
      try simp only [Act.put, List.getElem_toArray, List.getElem_cons_succ, List.getElem_cons_zero, List.setIfInBounds_toArray, List.set_cons_zero, List.set_cons_succ]
      refine wpAnyH_ready (rs := [10]) (by kernel_rfl) (by simp) ?_
      refine AllReadyH.cons rfl (fun K hK => ?_) AllReadyH.nil
      go_simp
      refine hK.out _ _ (by (try dsimp only); go_keep) (fun hHeld => ?_)
      clear hK K
      try simp only [Act.put, List.getElem_toArray, List.getElem_cons_succ, List.getElem_cons_zero, List.setIfInBounds_toArray, List.set_cons_zero, List.set_cons_succ]
      refine wpAnyH_done (by kernel_rfl) ?_ _
      go_wp2_with fail
      go_ret
      exact T.out _ W5.drew _ _ X6.out T5.out F3.out F4.out
    | false =>
      have hz1 : ¬ clkE x ≤ cut := of_decide_eq_false hz
      clear hz
      go_wp2_with fail
      have hcw := cl_write H.out H.out.apart 18446744073709551615
      have C5 := Lib.hid (show Cl B (W.setCell ⟨b, 0, none⟩ (.int .u64 18446744073709551615)).drew.drew.drew b (.slice ao l.length cap) 18446744073709551615 l tl from ⟨hcw.blk, hcw.low, hcw.row⟩)
      have T5 := Lib.hid (show Turned (fun i => i = b) W (W.setCell ⟨b, 0, none⟩ (.int .u64 18446744073709551615)).drew.drew.drew from (Turned.of_setCell ⟨b, 0, none⟩ (.int .u64 18446744073709551615)).trans (show Turned (fun i => i = b) (W.setCell ⟨b, 0, none⟩ (.int .u64 18446744073709551615)) (W.setCell ⟨b, 0, none⟩ (.int .u64 18446744073709551615)).drew.drew.drew from ⟨rfl, rfl, rfl, Nat.le_refl _, fun _ _ _ => rfl⟩) (fun _ _ h => h) (fun _ _ h => h))
      have X6 := Lib.hid (show retX x tid cut = 18446744073709551615 from by unfold retX; rw [if_pos (of_decide_eq_true HY.out), if_neg (of_decide_eq_false HZ.out)])
      obtain ⟨W5, hW5⟩ : ∃ W5, (W.setCell ⟨b, 0, none⟩ (.int .u64 18446744073709551615)).drew.drew = W5 := ⟨_, rfl⟩
      rw [hW5] at C5 T5 ⊢
      clear hW5 hcw
      obtain ⟨k1, k2, k3⟩ := QW.out W5.drew T5.out
      have d1 : W5.drew.cell? ⟨b, 1, none⟩ = some (.slice ao l.length cap) := C5.out.cells.2.1
      have CLN := Lib.hid (clone_eps (.slice ao l.length cap) l W5.drew C5.out.eps hN)
      refine wp_region_held_drew (S := (fun w' => w'.cell? ⟨q1, 0, none⟩ = some (.int .i64 tid) ∧ w'.cell? ⟨q2, 0, none⟩ = some (.pointer (some ⟨b, 0, none⟩)) ∧ w'.cell? ⟨q3, 0, none⟩ = some (.int .i64 cut))) (by kernel_rfl) (by (try dsimp only); go_keep) (fun hHeld => ?_)
      refine wpAnyH_take (i := 0) (v := ?vs0) rfl (by kernel_rfl) (by kernel_rfl) (by kernel_rfl) (fun _ _ _ h => h) (Or.inl ⟨by kernel_rfl, ?hys0⟩) (by assumption) ?rests0
      case hys0 => (intro w hSw; (try dsimp only at hSw); go_simp; try with_reducible rfl)
      try simp only [Act.put, List.getElem_toArray, List.getElem_cons_succ, List.getElem_cons_zero, List.setIfInBounds_toArray, List.set_cons_zero, List.set_cons_succ]
      refine wpAnyH_take (i := 1) (v := ?vs1) rfl (by kernel_rfl) (by kernel_rfl) (by kernel_rfl) (fun _ _ _ h => h) (Or.inl ⟨by kernel_rfl, ?hys1⟩) (by assumption) ?rests1
      case hys1 => (intro w hSw; (try dsimp only at hSw); go_simp; try with_reducible rfl)
      try simp only [Act.put, List.getElem_toArray, List.getElem_cons_succ, List.getElem_cons_zero, List.setIfInBounds_toArray, List.set_cons_zero, List.set_cons_succ]
      refine wpAnyH_take (i := 2) (v := ?vs2) rfl (by kernel_rfl) (by kernel_rfl) (by kernel_rfl) (fun _ _ _ h => h) (Or.inl ⟨by kernel_rfl, ?hys2⟩) (by assumption) ?rests2
      case hys2 => (intro w hSw; (try dsimp only at hSw); go_simp; try with_reducible rfl)
      try simp only [Act.put, List.getElem_toArray, List.getElem_cons_succ, List.getElem_cons_zero, List.setIfInBounds_toArray, List.set_cons_zero, List.set_cons_succ]
      refine wpAnyH_take (i := 3) (v := ?vs3) rfl (by kernel_rfl) (by kernel_rfl) (by kernel_rfl) (fun _ _ _ h => h) (Or.inl ⟨by kernel_rfl, ?hys3⟩) (by assumption) ?rests3
      case hys3 => (intro w hSw; (try dsimp only at hSw); go_simp; try with_reducible rfl)
      try simp only [Act.put, List.getElem_toArray, List.getElem_cons_succ, List.getElem_cons_zero, List.setIfInBounds_toArray, List.set_cons_zero, List.set_cons_succ]
      refine wpAnyH_take (i := 6) (v := ?vs6) rfl (by kernel_rfl) (by kernel_rfl) (by kernel_rfl) (fun _ _ _ h => h) (Or.inl ⟨by kernel_rfl, ?hys6⟩) (by assumption) ?rests6
      case hys6 => (intro w hSw; (try dsimp only at hSw); go_simp; try with_reducible rfl)
      try simp only [Act.put, List.getElem_toArray, List.getElem_cons_succ, List.getElem_cons_zero, List.setIfInBounds_toArray, List.set_cons_zero, List.set_cons_succ]
      refine wpAnyH_ready (rs := [4]) (by kernel_rfl) (by simp) ?_
      refine AllReadyH.cons rfl (fun K hK => ?_) AllReadyH.nil
      go_simp
      refine hK.out _ _ (by (try dsimp only); go_keep) (fun hHeld => ?_)
      clear hK K
      try simp only [Act.put, List.getElem_toArray, List.getElem_cons_succ, List.getElem_cons_zero, List.setIfInBounds_toArray, List.set_cons_zero, List.set_cons_succ]
      refine wpAnyH_ready (rs := [5]) (by kernel_rfl) (by simp) ?_
      refine AllReadyH.cons rfl (fun K hK => ?_) AllReadyH.nil
      go_simp
      go_at_call 33; (with_reducible refine CLN.out.mono ?_); rintro r w6 ⟨v6, rfl, hr6, hb6⟩; obtain ⟨a6, p6, rfl, _⟩ := eps_of_owns hr6; obtain ⟨m1, m2, m3⟩ := QW.out w6 (T5.out.trans (turned_below hb6) (fun _ _ h => h) (fun _ _ h => h)); have R6 := Lib.hid hr6; have B6 := Lib.hid hb6; clear hr6 hb6
      refine hK.out _ _ (by (try dsimp only); go_keep) (fun hHeld => ?_)
      clear hK K
      try simp only [Act.put, List.getElem_toArray, List.getElem_cons_succ, List.getElem_cons_zero, List.setIfInBounds_toArray, List.set_cons_zero, List.set_cons_succ]
      refine wpAnyH_ready (rs := [7]) (by kernel_rfl) (by simp) ?_
      refine AllReadyH.cons rfl (fun K hK => ?_) AllReadyH.nil
      go_simp
      go_at_call 36; (with_reducible refine (DL.out _ W5.drew w6 _ C5.out T5.out R6.out B6.out).mono ?_); rintro r w7 ⟨a7, p7, rfl, t7, f1, f2, f3, f4⟩; obtain ⟨o1, o2, o3⟩ := QW.out w7 (T5.out.trans t7 (fun _ _ h => h) (fun _ _ h => h)); have F3 := Lib.hid f3; have F4 := Lib.hid f4; clear t7 f3 f4
      refine hK.out _ _ (by (try dsimp only); go_keep) (fun hHeld => ?_)
      clear hK K
      try simp only [Act.put, List.getElem_toArray, List.getElem_cons_succ, List.getElem_cons_zero, List.setIfInBounds_toArray, List.set_cons_zero, List.set_cons_succ]
      refine wpAnyH_take (i := 8) (v := ?vs8) rfl (by kernel_rfl) (by kernel_rfl) (by kernel_rfl) (fun _ _ _ h => h) (Or.inl ⟨by kernel_rfl, ?hys8⟩) (by assumption) ?rests8
      case hys8 => (intro w hSw; (try dsimp only at hSw); go_simp; try with_reducible rfl)
      try simp only [Act.put, List.getElem_toArray, List.getElem_cons_succ, List.getElem_cons_zero, List.setIfInBounds_toArray, List.set_cons_zero, List.set_cons_succ]
      refine wpAnyH_take (i := 9) (v := ?vs9) rfl (by kernel_rfl) (by kernel_rfl) (by kernel_rfl) (fun _ _ _ h => h) (Or.inl ⟨by kernel_rfl, ?hys9⟩) (by assumption) ?rests9
      case hys9 => (intro w hSw; (try dsimp only at hSw); go_simp; try with_reducible rfl)
      try simp only [Act.put, List.getElem_toArray, List.getElem_cons_succ, List.getElem_cons_zero, List.setIfInBounds_toArray, List.set_cons_zero, List.set_cons_succ]
      refine wpAnyH_ready (rs := [10]) (by kernel_rfl) (by simp) ?_
      refine AllReadyH.cons rfl (fun K hK => ?_) AllReadyH.nil
      go_simp
      refine hK.out _ _ (by (try dsimp only); go_keep) (fun hHeld => ?_)
      clear hK K
      try simp only [Act.put, List.getElem_toArray, List.getElem_cons_succ, List.getElem_cons_zero, List.setIfInBounds_toArray, List.set_cons_zero, List.set_cons_succ]
      refine wpAnyH_done (by kernel_rfl) ?_ _
      go_wp2_with fail
      go_ret
      exact T.out _ W5.drew _ _ X6.out T5.out F3.out F4.out
end Go.Proofs.Ytkcnbkdpjlpppaa

