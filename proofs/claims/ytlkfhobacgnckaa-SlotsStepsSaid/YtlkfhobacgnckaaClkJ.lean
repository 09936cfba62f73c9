
/-
  Contracts of package clock's functions Of, New, Copy, Tick, Join.
-/
import Derived.Test.YtlkfhobacgnckaaClkR
import Derived.Deep.RegionHeld3
namespace Go.Proofs.Ytlkfhobacgnckaa
open Go.RowKit
set_option linter.unusedVariables false
set_option linter.unusedSimpArgs false
set_option maxRecDepth 100000

/-- A slice value that reads as these numbers. -/
def Src (w : World) (v : Value) (l : List Int) : Prop :=
  ∃ ao cap, v = .slice ao l.length cap ∧ (ao = none → l.length = 0 ∧ cap = 0) ∧ (0 < l.length → ∃ g z, ao = some ⟨g, z, none⟩ ∧ ∀ j, j < l.length → w.cell? ⟨g, z + j, none⟩ = some (.int .i64 (l.getD j 0)))
theorem Src.below {w w' : World} {v : Value} {l : List Int} (h : Src w v l) {n : Nat} (hn : w.heap.size ≤ n) (hB : Below n w w') : Src w' v l := by
  obtain ⟨ao, cap, rfl, h1, h2⟩ := h
  refine ⟨ao, cap, rfl, h1, fun hp => ?_⟩
  obtain ⟨g, z, rfl, h3⟩ := h2 hp
  exact ⟨g, z, rfl, fun j hj => by rw [hB.cell (p := ⟨g, z + j, none⟩) (Nat.lt_of_lt_of_le (block_lt_of_cell (h3 j hj)) hn)]; exact h3 j hj⟩

theorem CkAt.below {w w' : World} {b : Nat} {k : Ck} (h : CkAt w b k) (hB : Below w.heap.size w w') : CkAt w' b k := by
  obtain ⟨ao, cap, hb, hc, ho, hx⟩ := h
  refine ⟨ao, cap, by rw [hB.block b (lt_of_heap hb)]; exact hb, hc, ho, fun hp => ?_⟩
  obtain ⟨h1, cur, h2, h3⟩ := hx hp
  exact ⟨h1, cur, by rw [hB.block k.arr (lt_of_heap h2)]; exact h2, h3⟩

def okN (x : Int) : Prop := 0 ≤ x ∧ x ≤ 1048576
instance (x : Int) : Decidable (okN x) := by unfold okN; infer_instance
def ofE (l : List Int) : Int := if 256 < l.length then 2 else if ∀ j, j < l.length → okN (l.getD j 0) then 0 else 1
theorem ofE_okL {l : List Int} (h : ofE l = 0) : OkL l := by
  unfold ofE at h
  split at h
  · omega
  · split at h
    · rename_i h1 h2
      refine ⟨by omega, fun x hx => ?_⟩
      obtain ⟨i, hi, rfl⟩ := List.mem_iff_getElem.1 hx
      have := h2 i hi
      simpa [List.getD, hi, okN] using this
    · omega

def OfPost (l : List Int) (w : World) (r : Ending) (w' : World) : Prop :=
  (ofE l = 0 ∧ ∃ b g, r = .returned (.tuple #[.pointer (some ⟨b, 0, none⟩), .int .i64 0]) ∧ CkAt w' b ⟨g, l, false⟩ ∧ Below w.heap.size w w' ∧ w.heap.size ≤ g ∧ w.heap.size ≤ b) ∨
  (ofE l ≠ 0 ∧ r = .returned (.tuple #[.pointer none, .int .i64 (ofE l)]) ∧ w = w')

theorem new_ck {w w' : World} {g cap : Nat} {l : List Int} {sh : Bool} (h : w'.ownsRow w.heap.size 3 1 (.slice (some ⟨g, 0, none⟩) l.length cap) l.length (ints l)) (hc : l.length ≤ cap) (ho : OkL l) :
    CkAt (w'.alloc (.cells #[.slice (some ⟨g, 0, none⟩) l.length cap, .bool sh] 75 (0, 0))) w'.heap.size ⟨g, l, sh⟩ := by
  rcases h.2 with ⟨h', _⟩ | ⟨g', cap', cur, h', hbg, hg, _, _, _, ht⟩
  · cases h'
  · cases h'
    have hlt := lt_of_heap hg
    exact ⟨_, cap, heap_alloc_new w' _, ⟨hc, fun e => by cases e⟩, ho, fun _ => ⟨rfl, cur, by rw [heap_alloc_old w' _ hlt]; exact hg, by simpa using ht⟩⟩

theorem of_any (v : Value) (l : List Int) (w : World) (h : Src w v l) :
    Calls Try.prog 10 #[v] w (OfPost l w) := by
  obtain ⟨ao, cap, rfl, hno, hc⟩ := h
  by_cases hlong : 256 < l.length
  · have S := Lib.hid (show ofE l = 2 by unfold ofE; rw [if_pos hlong])
    have hlong' : (256 : Int) < l.length := by omega
    clear hno hc hlong
    go_enter Try.func10, Try.ntmps10
    go_wp2_with fail
    go_ret2
    exact .inr ⟨by rw [S.out]; decide, by rw [S.out]; rfl, rfl⟩
  · have hl : l.length ≤ 256 := by omega
    have hl' : (l.length : Int) ≤ 256 := by omega
    have HC := Lib.hid hc
    have HN := Lib.hid hno
    clear hlong hc hno
    go_enter Try.func10, Try.ntmps10
    go_wp2_with fail
    go_loopw [11] (fun i wr => ∃ n : Nat, n ≤ l.length ∧ i = .int .i64 n ∧ (∀ j, j < n → okN (l.getD j 0)) ∧ wr = w) (fun i _ => l.length - (intOf i).toNat)
    case atStart => exact ⟨0, by omega, rfl, fun j hj => by omega, rfl⟩
    case round =>
      obtain ⟨n, hn, rfl, hle, rfl⟩ := hrel
      have L := Lib.hid hle
      clear hle
      by_cases hlt : n < l.length
      · have hlt' : (n : Int) < (l.length : Int) := by omega
        obtain ⟨g, z, rfl, hcc⟩ := HC.out (by omega)
        have c0 := hcc n hlt
        clear hcc
        obtain ⟨u, hu⟩ : ∃ u, l.getD n 0 = u := ⟨_, rfl⟩
        rw [hu] at c0
        have U := Lib.hid hu
        clear hu
        by_cases hok : 0 ≤ u ∧ u ≤ 1048576
        · have S := Lib.hid (show ∀ j, j < n + 1 → okN (l.getD j 0) from fun j hj => by
            by_cases hjn : j = n
            · subst hjn; rw [U.out]; exact hok
            · exact L.out j (by omega))
          go_wp2_with (go_at_call 32; refine (number_any _ _).mono ?_; rintro r w' ⟨rfl, rfl⟩)
          go_roundw
          case rel => exact ⟨n + 1, by omega, by go_num, S.out, by trivial⟩
          case measure => simp [intOf] <;> omega
        · have S := Lib.hid (show ofE l = 1 by unfold ofE; rw [if_neg (by omega), if_neg (fun hh => hok (by have := hh n hlt; rw [U.out] at this; exact this))])
          go_wp2_with (go_at_call 32; refine (number_any _ _).mono ?_; rintro r w' ⟨rfl, rfl⟩)
          go_ret2
          exact .inr ⟨by rw [S.out]; decide, by rw [S.out]; rfl, rfl⟩
      · have hnk : n = l.length := by omega
        subst hnk
        have S := Lib.hid (show ofE l = 0 by unfold ofE; rw [if_neg (by omega), if_pos L.out])
        go_wp2_with (at_builtin; refine wpList_clone wr _ rfl _ _ rfl rfl rfl ao l.length cap l rfl rfl HN.out HC.out (by omega) ?_; intro g cap' w' hg hcap hB hown)
        go_ret2
        exact .inl ⟨S.out, _, g, rfl, new_ck hown hcap (ofE_okL S.out), hB.alloc hB.size _, hg, hB.size⟩

theorem new_any (w : World) :
    Calls Try.prog 44 #[] w fun r w' => r = .returned (.pointer (some ⟨w.heap.size, 0, none⟩)) ∧ CkAt w' w.heap.size ⟨w.heap.size, [], false⟩ ∧ Below w.heap.size w w' := by
  go_enter Try.func44, Try.ntmps44
  go_wp2
  go_ret
  exact ⟨rfl, ⟨none, 0, heap_alloc_new w _, ⟨Nat.le_refl _, fun _ => rfl⟩, ⟨Nat.zero_le _, fun x hx => by cases hx⟩, fun h => absurd h (by simp)⟩, (Below.refl _ _).alloc (Nat.le_refl _) _⟩

theorem copy_nil (w : World) :
    Calls Try.prog 35 #[.pointer none] w fun r w' => r = .returned (.pointer (some ⟨w.heap.size, 0, none⟩)) ∧ CkAt w' w.heap.size ⟨w.heap.size, [], false⟩ ∧ Below w.heap.size w w' := by
  go_enter Try.func35, Try.ntmps35
  go_wp2_with (go_at_call 44; refine (new_any _).mono ?_; rintro r w' ⟨rfl, h1, h2⟩)
  go_ret
  exact ⟨rfl, h1, h2⟩

/-- A copy: both bear the mark; a new block at the heap's end has the same numbers. -/
def CopyPost (b : Nat) (k : Ck) (w : World) (r : Ending) (w' : World) : Prop :=
  ∃ b', w.heap.size ≤ b' ∧ r = .returned (.pointer (some ⟨b', 0, none⟩)) ∧ CkAt w' b' ⟨k.arr, k.xs, true⟩ ∧ CkAt w' b ⟨k.arr, k.xs, true⟩ ∧ Turned (fun i => i = b) w w'


theorem CkAt.rest {w : World} {b : Nat} {k : Ck} {ao : Option Addr} {cap : Nat} (h : CkAt w b k) (h0 : w.cell? ⟨b, 0, none⟩ = some (.slice ao k.xs.length cap)) :
    w.heap[b]? = some (.cells #[.slice ao k.xs.length cap, .bool k.sh] 75 (0, 0)) ∧ (k.xs.length ≤ cap ∧ (ao = none → cap = 0)) ∧ OkL k.xs ∧ (0 < k.xs.length → ao = some ⟨k.arr, 0, none⟩ ∧ ∃ cur, w.heap[k.arr]? = some (.cells cur 3 (0, 0)) ∧ cur.toList.take k.xs.length = ints k.xs) := by
  obtain ⟨ao', cap', hb, hc, ho, hx⟩ := h
  have : w.cell? ⟨b, 0, none⟩ = some (.slice ao' k.xs.length cap') := by simp [World.cell?, hb]
  rw [this] at h0
  cases h0
  exact ⟨hb, hc, ho, hx⟩

theorem copy_done {w W2 : World} {b : Nat} {k : Ck} {ao : Option Addr} {cap : Nat} (h : CkAt w b k) (h0 : w.cell? ⟨b, 0, none⟩ = some (.slice ao k.xs.length cap)) (hB : Below (w.setCell ⟨b, 1, none⟩ (.bool true)).heap.size (w.setCell ⟨b, 1, none⟩ (.bool true)) W2) :
    CopyPost b k w (.returned (.pointer (some ⟨W2.heap.size, 0, none⟩))) (W2.alloc (.cells #[.slice ao k.xs.length k.xs.length, .bool true] 75 (0, 0))) := by
  obtain ⟨hb, hc, ho, hx⟩ := h.rest h0
  have hbl := h.lt
  have hsz : (w.setCell ⟨b, 1, none⟩ (.bool true)).heap.size = w.heap.size := by simp [World.setCell]
  have hsz2 : w.heap.size ≤ W2.heap.size := by have := hB.size; omega
  have hold : ∀ i, i < w.heap.size → i ≠ b → (W2.alloc (.cells #[.slice ao k.xs.length k.xs.length, .bool true] 75 (0, 0))).heap[i]? = w.heap[i]? := fun i hi hne => by
    rw [heap_alloc_old _ _ (by omega), hB.block i (by omega), heap_setCell_other _ _ _ _ hne]
  have hcells : 0 < k.xs.length → ao = some ⟨k.arr, 0, none⟩ ∧ ∃ cur, (W2.alloc (.cells #[.slice ao k.xs.length k.xs.length, .bool true] 75 (0, 0))).heap[k.arr]? = some (.cells cur 3 (0, 0)) ∧ cur.toList.take k.xs.length = ints k.xs := fun hp => by
    obtain ⟨e, cur, hg, ht⟩ := hx hp
    have hne : k.arr ≠ b := by
      intro e2
      rw [e2, hb] at hg
      have := Option.some.inj hg
      injection this with e3 e4
      exact absurd e4 (by decide)
    exact ⟨e, cur, by rw [hold _ (lt_of_heap hg) hne]; exact hg, ht⟩
  refine ⟨_, hsz2, rfl, ⟨ao, k.xs.length, heap_alloc_new _ _, ⟨Nat.le_refl _, fun e => by have := hc.2 e; have := hc.1; show k.xs.length = 0; omega⟩, ho, hcells⟩, ⟨ao, cap, ?_, hc, ho, hcells⟩,
    ⟨hB.os, hB.tape, hB.output, Nat.le_trans (Nat.le_of_eq hsz.symm) (hB.alloc hB.size _).size, fun i hi hne => hold i hi hne⟩⟩
  rw [heap_alloc_old _ _ (by omega), hB.block b (by omega), heap_setCell_same w b 1 _ _ (.bool true) hb]
  rfl

theorem CopyPost.drew {b : Nat} {k : Ck} {w w' : World} {r : Ending} (h : CopyPost b k w r w') : CopyPost b k w r w'.drew := by
  obtain ⟨b', h1, h2, h3, h4, h5⟩ := h
  exact ⟨b', h1, h2, h3, h4, ⟨h5.os, h5.tape, h5.output, h5.size, h5.block⟩⟩

theorem copy_any (b : Nat) (k : Ck) (w : World) (h : CkAt w b k) :
    Calls Try.prog 35 #[.pointer (some ⟨b, 0, none⟩)] w (CopyPost b k w) := by
  have hbl := h.lt
  have H := Lib.hid h
  obtain ⟨ao, cap, hno, h0, h1, h2, h3, h4, h5, h6⟩ := h.facts2
  clear h6
  have HN := Lib.hid hno
  have H0 := Lib.hid h0
  clear hno
  have hB0 := Below.refl (w.setCell ⟨b, 1, none⟩ (.bool true)).heap.size (w.setCell ⟨b, 1, none⟩ (.bool true))
  have hc0 : (w.setCell ⟨b, 1, none⟩ (.bool true)).cell? ⟨b, 0, none⟩ = some (.slice ao k.xs.length cap) := by rw [World.cell?_setCell_other _ _ _ _ (by simp)]; exact h0
  obtain ⟨W, hW⟩ : ∃ W, w.setCell ⟨b, 1, none⟩ (.bool true) = W := ⟨_, rfl⟩
  have HW := Lib.hid hW
  rw [hW] at hB0 hc0
  cases ao with
  | none =>
    obtain ⟨hx, rfl⟩ := HN.out rfl
    have HX := Lib.hid hx
    rw [hx] at h0 hc0
    clear hx
    go_enter Try.func35, Try.ntmps35
    go_wp2_with fail
    try rw [HW.out]
    clear hW
    go_region_held3 (fun w' => w'.cell? ⟨b, 0, none⟩ = some (.slice none 0 0) ∧ Below W.heap.size W w')
      (first | (simp [*]; done) | (refine ⟨by simp [*, World.cell?_alloc_some], ?_⟩; first | exact hB0.alloc hB0.size _ | exact (hB0.alloc hB0.size _).drew | exact hB0.drew | assumption))
      (fail)
    go_wp2
    go_ret
    obtain rfl := HW.out
    have h := copy_done H.out H0.out hB0
    rw [HX.out] at h
    exact h.drew
  | some ad =>
    go_enter Try.func35, Try.ntmps35
    go_wp2_with fail
    try rw [HW.out]
    clear hW
    go_region_held3 (fun w' => w'.cell? ⟨b, 0, none⟩ = some (.slice (some ad) k.xs.length cap) ∧ Below W.heap.size W w')
      (first | (simp [*]; done) | (refine ⟨by simp [*, World.cell?_alloc_some], ?_⟩; first | exact hB0.alloc hB0.size _ | exact (hB0.alloc hB0.size _).drew | exact hB0.drew | assumption))
      (fail)
    go_wp2
    go_ret
    obtain rfl := HW.out
    exact (copy_done H.out H0.out hB0).drew

def TickPost (b : Nat) (k : Ck) (t most : Int) (w : World) (r : Ending) (w' : World) : Prop :=
  (most ≤ at0 k.xs t ∧ r = .returned (.int .i64 5) ∧ w = w') ∨ (at0 k.xs t < most ∧ SetPost b k t (at0 k.xs t + 1) w r w')

theorem tick_no (p : Value) (t most : Int) (w : World) (h : ¬ ((0 ≤ t ∧ t < 256) ∧ 1 ≤ most ∧ most ≤ 1048576)) :
    Calls Try.prog 21 #[p, .int .i64 t, .int .i64 most] w fun r w' => r = .returned (.int .i64 1) ∧ w = w' := by
  by_cases h1 : 0 ≤ t ∧ t < 256
  · by_cases h2 : most < 1
    · go_enter Try.func21, Try.ntmps21
      go_wp2_with (go_at_call 37; refine (tid_any _ _).mono ?_; rintro r w' ⟨rfl, rfl⟩)
      all_goals (go_ret; exact ⟨rfl, rfl⟩)
    · have h3 : 1048576 < most := by omega
      go_enter Try.func21, Try.ntmps21
      go_wp2_with (go_at_call 37; refine (tid_any _ _).mono ?_; rintro r w' ⟨rfl, rfl⟩)
      all_goals (go_ret; exact ⟨rfl, rfl⟩)
  · have hd : decide (0 ≤ t ∧ t < 256) = false := decide_eq_false h1
    have H := Lib.hid h
    clear h h1
    go_enter Try.func21, Try.ntmps21
    go_wp2_with (go_at_call 37; refine (tid_any _ _).mono ?_; rintro r w' ⟨rfl, rfl⟩)
    all_goals (go_ret; exact ⟨rfl, rfl⟩)

theorem tick_nil (t most : Int) (w : World) (h : (0 ≤ t ∧ t < 256) ∧ 1 ≤ most ∧ most ≤ 1048576) :
    Calls Try.prog 21 #[.pointer none, .int .i64 t, .int .i64 most] w fun r w' => r = .returned (.int .i64 7) ∧ w = w' := by
  obtain ⟨⟨a, b⟩, c, d⟩ := h
  go_enter Try.func21, Try.ntmps21
  go_wp2_with (go_at_call 37; refine (tid_any _ _).mono ?_; rintro r w' ⟨rfl, rfl⟩)
  go_ret
  exact ⟨rfl, rfl⟩

theorem at0_ok {xs : List Int} (h : OkL xs) (t : Int) : 0 ≤ at0 xs t ∧ at0 xs t ≤ 1048576 := by
  unfold at0
  split
  · by_cases hl : t.toNat < xs.length
    · have := h.2 _ (List.getElem_mem hl)
      simpa [List.getD, hl] using this
    · simp [List.getD, List.getElem?_eq_none (show xs.length ≤ t.toNat by omega)]
  · omega
theorem CkAt.ok {w : World} {b : Nat} {k : Ck} (h : CkAt w b k) : OkL k.xs := by
  obtain ⟨_, _, _, _, ho, _⟩ := h
  exact ho

theorem tick_any (b : Nat) (k : Ck) (t : Nat) (most : Int) (w : World) (h : CkAt w b k) (ht : t < 256) (h1 : 1 ≤ most) (h2 : most ≤ 1048576) :
    Calls Try.prog 21 #[.pointer (some ⟨b, 0, none⟩), .int .i64 t, .int .i64 most] w (TickPost b k t most w) := by
  have ht' : (t : Int) < 256 := by omega
  have hk := at0_ok h.ok t
  by_cases hm : most ≤ at0 k.xs t
  · go_enter Try.func21, Try.ntmps21
    go_wp2_with (first
      | (go_at_call 37; refine (tid_any _ _).mono ?_; rintro r w' ⟨rfl, rfl⟩)
      | (go_at_call 38; refine (get_any b k t _ h).mono ?_; rintro r w' ⟨rfl, rfl⟩))
    go_ret
    exact .inl ⟨hm, rfl, rfl⟩
  · have hm2 : at0 k.xs t < most := by omega
    obtain ⟨hk1, hk2⟩ := hk
    have hs := set_yes b k t (at0 k.xs t + 1) w h ht (by omega) (by omega)
    clear hm
    go_enter Try.func21, Try.ntmps21
    go_wp2_with (first
      | (go_at_call 37; refine (tid_any _ _).mono ?_; rintro r w' ⟨rfl, rfl⟩)
      | (go_at_call 38; refine (get_any b k t _ h).mono ?_; rintro r w' ⟨rfl, rfl⟩)
      | (go_at_call 18; refine hs.mono ?_; rintro r w' ⟨k', rfl, hp⟩))
    go_ret
    exact .inr ⟨hm2, k', rfl, hp⟩

end Go.Proofs.Ytlkfhobacgnckaa

