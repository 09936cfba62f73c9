
/-
  Package sheet: slices.Clone of ints and of cases; slices.DeleteFunc with Bare's function (printed by genshes.py).
  Package sheet: copies: rows all of whose blocks are one's own; Copy's functions, each.
  Package sheet: each, of operations and of programs, with Copy's functions.
-/
import Derived.Test.YtpefjcmaggimhaaSheP
import Derived.Lib.SliceRun
import Derived.Deep.WholeRow
namespace Go.Proofs.Ytpefjcmaggimhaa
open Go.RowKit
set_option linter.unusedVariables false
set_option linter.unusedSimpArgs false
set_option maxRecDepth 100000

theorem info_int2 : (Try.prog.info? 3).map (fun i => (i.zero, i.size)) = some (some (.int .i64 0), 1) := by kernel_rfl
theorem ints_get (l : List Int) (i : Nat) (h : i < l.length) : (ints l)[i]? = some (.int .i64 (l.getD i 0)) := by
  simp [ints, List.getElem?_map, List.getD_eq_getElem?_getD, List.getElem?_eq_getElem h]
theorem ints_take (l : List Int) (i : Nat) : ints (l.take i) = (ints l).take i := by simp [ints, List.map_take]
theorem gr_setCells (w : World) (g o : Nat) (vs : List Value) : w.grownBy (w.setCells g o vs) (some g) := by
  induction vs generalizing o w with
  | nil => exact gr_refl _ _
  | cons v vs ih => exact (gr_set w ⟨g, o, none⟩ v).trans (ih _ _)
theorem setCells_here : ∀ (vs : List Value) (o : Nat) (w : World) (g : Nat) (cur : Array Value) (t : TypeId), w.heap[g]? = some (.cells cur t (0, 0)) →
    ∃ cur', (w.setCells g o vs).heap[g]? = some (.cells cur' t (0, 0)) ∧ cur'.size = cur.size ∧ (∀ i, i < o → cur'[i]? = cur[i]?)
  | [], o, w, g, cur, t, h => ⟨cur, h, rfl, fun _ _ => rfl⟩
  | v :: vs, o, w, g, cur, t, h => by
    have h1 := heap_setCell_same w g o cur t v h
    obtain ⟨cur', a, b, c⟩ := setCells_here vs (o + 1) _ g _ t h1
    refine ⟨cur', a, by rw [b]; simp, fun i hi => ?_⟩
    rw [c i (by omega), Array.getElem?_setIfInBounds]
    rw [if_neg (by omega)]

/-! ### slices.Clone -/
/-- append([]int{}, l...) -/
theorem wpList_clone_ints {ops : Array Oper} {rest : List Oper} {o : Oper} {a : Act} {Q : Exit → Act → World → Prop} (w W : World) (hgd : o.guard = none) (s x : Operand)
    (ho : o.op = .call { callee := .builtin .append, args := #[s, x], argTypes := #[23, 23] })
    (hW : W = w.alloc (.cells #[] 3)) (hs : a.eval s = .slice (some ⟨w.heap.size, 0, none⟩) 0 0)
    (ad : Addr) (n cap : Nat) (l : List Int) (hx : a.eval x = .slice (some ad) n cap) (hl : l.length = n)
    (hc : 0 < n → ∃ g o, ad = ⟨g, o, none⟩ ∧ ∀ j, j < n → w.cell? ⟨g, o + j, none⟩ = some (.int .i64 (l.getD j 0))) (hn : n ≤ 1000000)
    (h : ∀ v' w', Below w.heap.size w w' → w'.ownsRow w.heap.size 3 1 v' n (ints l) → wpList Try.prog ops Q rest (a.put o.dst v') w') :
    wpList Try.prog ops Q (o :: rest) a W := by
  subst hW
  obtain ⟨i0, hi, hz0, hz1, hz2⟩ := info_parts info_int
  have hown : (w.alloc (.cells #[] 3)).ownsRow w.heap.size 3 1 (.slice (some ⟨w.heap.size, 0, none⟩) 0 0) 0 [] :=
    World.ownsRow_lit w #[] 0 (Nat.le_refl _) (Nat.zero_le _) rfl
  refine wpList_append_own _ hgd s x 23 ho w.heap.size 3 i0 (.int .i64 0) 1 8 Try.underlying23 hi hz0 hz1 hz2 rfl (by decide) _ 0 [] hs hown ad n cap (ints l) hx (by rw [length_ints]; omega) ?_ (ints1 l) (by unfold maxLen; omega) (by omega) (by simp) ?_
  · intro j u hj
    have hjl : j < l.length := by
      have := (List.getElem?_eq_some_iff.1 hj).1
      rwa [length_ints] at this
    obtain ⟨g, o, rfl, hcc⟩ := hc (by omega)
    rw [ints_get l j hjl] at hj
    have h1 := hcc j (by omega)
    rw [Addr.add_lit, ((Below.refl w.heap.size w).alloc (Nat.le_refl _) _).cell (p := ⟨g, o + j, none⟩) (block_lt_of_cell h1), h1]
    exact hj
  · intro v' w' h1 h2 h3
    simp only [Nat.zero_add, List.nil_append] at h1
    exact h v' w' (((Below.refl _ _).alloc (Nat.le_refl _) _).grown h2 (by simp) (fun k hk => (hown.lt k hk).1)) h1
/-- What slices.Clone answers: a row of its own. -/
def CloneI (l : List Int) (w : World) (e : Ending) (w' : World) : Prop := ∃ v, e = .returned v ∧ w'.ownsRow w.heap.size 3 1 v l.length (ints l) ∧ Below w.heap.size w w'
theorem clone_ints (v : Value) (l : List Int) (w : World) (h : SlI w v l) (hN : l.length ≤ 1000000) :
    Calls Try.prog 49 #[v] w (CloneI l w) := by
  obtain ⟨ao, cap, rfl, hc⟩ := h
  have HC := Lib.hid hc
  obtain ⟨n, hn⟩ : ∃ n, l.length = n := ⟨_, rfl⟩
  rw [hn] at hN ⊢
  have HN := Lib.hid hn
  clear hc hn
  have q : ∀ (w : World) (a : Option Addr) (n c n' c' : Nat), (binOp .eql 23 (.slice a n c) (.slice none n' c')).run Try.prog w = .ok (.bool a.isNone) w := fun w a n c n' c' => Lib.run_eql_slice_nil w _ _ a n c n' c' Try.underlying23
  cases ao with
  | none =>
    have hz : n = 0 := by
      rcases Nat.eq_zero_or_pos n with h | h
      · exact h
      · obtain ⟨b, o, e, _⟩ := HC.out (by rw [HN.out]; exact h)
        cases e
    subst hz
    go_enter Try.func49, Try.ntmps49
    go_wp2_with fail
    go_ret
    refine ⟨_, rfl, ?_, Below.refl _ _⟩
    obtain rfl := List.eq_nil_of_length_eq_zero HN.out
    exact ⟨rfl, .inl ⟨rfl, rfl⟩⟩
  | some ad =>
    have hcc : 0 < n → ∃ g o, ad = ⟨g, o, none⟩ ∧ ∀ j, j < n → w.cell? ⟨g, o + j, none⟩ = some (.int .i64 (l.getD j 0)) := fun hp => by
      obtain ⟨g, o, e, h1⟩ := HC.out (by rw [HN.out]; exact hp)
      cases e
      exact ⟨g, o, rfl, fun j hj => h1 j (by rw [HN.out]; exact hj)⟩
    have HCC := Lib.hid hcc
    clear hcc
    go_enter Try.func49, Try.ntmps49
    go_wp2_with (at_builtin; refine wpList_clone_ints w _ rfl _ _ rfl rfl rfl ad n cap l rfl HN.out HCC.out (by omega) ?_)
    intro v' w' h3 h4
    have T := Lib.hid (show CloneI l w (.returned v') w' from ⟨_, rfl, by rw [HN.out]; exact h4, h3⟩)
    clear h3 h4
    go_wp2_with fail
    go_ret
    exact T.out
theorem csCells_len (l : List Cs) : (csCells l).length = l.length * 3 := by
  induction l with
  | nil => rfl
  | cons e l ih => show ((csC e).toList ++ csCells l).length = _; rw [List.length_append, ih]; simp [csC]; omega
theorem csCells_one (l : List Cs) : ∀ u ∈ csCells l, u.oneCell' = true := by
  intro u hu
  obtain ⟨e, _, h2⟩ := List.mem_flatMap.1 hu
  exact csC_one e u h2
/-- append([]Case{}, l...) -/
theorem wpList_clone_css {ops : Array Oper} {rest : List Oper} {o : Oper} {a : Act} {Q : Exit → Act → World → Prop} (w W : World) (hgd : o.guard = none) (s x : Operand)
    (ho : o.op = .call { callee := .builtin .append, args := #[s, x], argTypes := #[46, 46] })
    (hW : W = w.alloc (.cells #[] 50)) (hs : a.eval s = .slice (some ⟨w.heap.size, 0, none⟩) 0 0)
    (ad : Addr) (n cap : Nat) (l : List Cs) (hx : a.eval x = .slice (some ad) n cap) (hl : l.length = n)
    (hc : 0 < n → ∃ g o, ad = ⟨g, o, none⟩ ∧ ∀ j, j < n → CsC w g (o + j * 3) (l.getD j default)) (hn : n ≤ 1000000)
    (h : ∀ v' w', Below w.heap.size w w' → w'.ownsRow w.heap.size 50 3 v' n (csCells l) → wpList Try.prog ops Q rest (a.put o.dst v') w') :
    wpList Try.prog ops Q (o :: rest) a W := by
  subst hW
  obtain ⟨i0, hi, hz0, hz1, hz2⟩ := info_parts csinfo
  have hown : (w.alloc (.cells #[] 50)).ownsRow w.heap.size 50 3 (.slice (some ⟨w.heap.size, 0, none⟩) 0 0) 0 [] :=
    World.ownsRow_lit w #[] 0 (Nat.le_refl _) (Nat.zero_le _) rfl
  refine wpList_append_own _ hgd s x 46 ho w.heap.size 50 i0 _ 3 24 Try.underlying46 hi hz0 hz1 hz2 rfl (by decide) _ 0 [] hs hown ad n cap (csCells l) hx (by rw [csCells_len]; omega) ?_ (csCells_one l) (by unfold maxLen; omega) (by omega) (by simp) ?_
  · intro j u hj
    have hjl : j < l.length * 3 := by
      have := (List.getElem?_eq_some_iff.1 hj).1
      rwa [csCells_len] at this
    obtain ⟨g, o, rfl, hcc⟩ := hc (by omega)
    have hdm : j = j / 3 * 3 + j % 3 := by omega
    rw [hdm, csCells_at l (j / 3) (by omega) (j % 3) (by omega)] at hj
    have key := hcc (j / 3) (by omega)
    have hbw : g < w.heap.size := block_lt_of_cell key.c0
    rw [Addr.add_lit, show o + j = o + j / 3 * 3 + j % 3 by omega]
    have e : ∀ o, (w.alloc (.cells #[] 50)).cell? ⟨g, o, none⟩ = w.cell? ⟨g, o, none⟩ := fun o => World.cell?_of_block (heap_alloc_old w _ hbw)
    rw [e]
    obtain ⟨k0, k1, k2⟩ := key
    have h3 : j % 3 < 3 := by omega
    revert hj h3
    generalize j % 3 = c
    intro hj h3
    match c, hj, h3 with
    | 0, hj, _ => rw [Nat.add_zero, k0]; simpa [csC] using hj
    | 1, hj, _ => rw [k1]; simpa [csC] using hj
    | 2, hj, _ => rw [k2]; simpa [csC] using hj
  · intro v' w' h1 h2 h3
    simp only [Nat.zero_add, List.nil_append] at h1
    exact h v' w' (((Below.refl _ _).alloc (Nat.le_refl _) _).grown h2 (by simp) (fun k hk => (hown.lt k hk).1)) h1
def CloneC (l : List Cs) (w : World) (e : Ending) (w' : World) : Prop := ∃ v, e = .returned v ∧ w'.ownsRow w.heap.size 50 3 v l.length (csCells l) ∧ Below w.heap.size w w'
theorem clone_css (v : Value) (l : List Cs) (w : World) (h : CssOf w v l) (hN : l.length ≤ 1000000) :
    Calls Try.prog 48 #[v] w (CloneC l w) := by
  obtain ⟨ao, cap, rfl, hc⟩ := h
  have HC := Lib.hid hc
  obtain ⟨n, hn⟩ : ∃ n, l.length = n := ⟨_, rfl⟩
  rw [hn] at hN ⊢
  have HN := Lib.hid hn
  clear hc hn
  have q : ∀ (w : World) (a : Option Addr) (n c n' c' : Nat), (binOp .eql 46 (.slice a n c) (.slice none n' c')).run Try.prog w = .ok (.bool a.isNone) w := fun w a n c n' c' => Lib.run_eql_slice_nil w _ _ a n c n' c' Try.underlying46
  cases ao with
  | none =>
    have hz : n = 0 := by
      rcases Nat.eq_zero_or_pos n with h | h
      · exact h
      · obtain ⟨b, o, e, _⟩ := HC.out (by rw [HN.out]; exact h)
        cases e
    subst hz
    go_enter Try.func48, Try.ntmps48
    go_wp2_with fail
    go_ret
    refine ⟨_, rfl, ?_, Below.refl _ _⟩
    obtain rfl := List.eq_nil_of_length_eq_zero HN.out
    exact ⟨rfl, .inl ⟨rfl, rfl⟩⟩
  | some ad =>
    have hcc : 0 < n → ∃ g o, ad = ⟨g, o, none⟩ ∧ ∀ j, j < n → CsC w g (o + j * 3) (l.getD j default) := fun hp => by
      obtain ⟨g, o, e, h1⟩ := HC.out (by rw [HN.out]; exact hp)
      cases e
      exact ⟨g, o, rfl, fun j hj => h1 j (by rw [HN.out]; exact hj)⟩
    have HCC := Lib.hid hcc
    clear hcc
    go_enter Try.func48, Try.ntmps48
    go_wp2_with (at_builtin; refine wpList_clone_css w _ rfl _ _ rfl rfl rfl ad n cap l rfl HN.out HCC.out (by omega) ?_)
    intro v' w' h3 h4
    have T := Lib.hid (show CloneC l w (.returned v') w' from ⟨_, rfl, by rw [HN.out]; exact h4, h3⟩)
    clear h3 h4
    go_wp2_with fail
    go_ret
    exact T.out

/-! ### slices.DeleteFunc -/
/-- What IndexFunc answers: the calls keep I, from element to element. -/
def IdxPost (l : List Int) (n : Nat) (p : Int → Bool) (I : Nat → World → Prop) (e : Ending) (w' : World) : Prop :=
  ∃ i : Int, e = .returned (.int .i64 i) ∧ ((i = -1 ∧ (∀ j, j < n → p (l.getD j 0) = false) ∧ I n w') ∨ ∃ k : Nat, k < n ∧ i = k ∧ p (l.getD k 0) = true ∧ (∀ j, j < k → p (l.getD j 0) = false) ∧ I (k + 1) w')
def AnyPost (l : List Int) (n : Nat) (p : Int → Bool) (I : Nat → World → Prop) (e : Ending) (w' : World) : Prop := e = .returned (.bool (l.any p)) ∧ ∃ k, k ≤ n ∧ I k w'
/-- What DeleteFunc answers. -/
def DelPost (B : Nat) (v : Value) (l : List Int) (p : Int → Bool) (I : Nat → World → Prop) (e : Ending) (w' : World) : Prop :=
  ∃ v', e = .returned v' ∧ w'.ownsRow B 3 1 v' (l.filter (fun x => !p x)).length (ints (l.filter (fun x => !p x))) ∧ v'.ownBlock = v.ownBlock ∧ I l.length w'

theorem any_no {l : List Int} {p : Int → Bool} (h : ∀ j, j < l.length → p (l.getD j 0) = false) : l.any p = false := by
  rw [List.any_eq_false]
  intro x hx
  obtain ⟨j, hj, rfl⟩ := List.getElem_of_mem hx
  have := h j hj
  rw [List.getD_eq_getElem?_getD, List.getElem?_eq_getElem hj] at this
  simpa using this
theorem any_yes {l : List Int} {p : Int → Bool} {k : Nat} (hk : k < l.length) (h : p (l.getD k 0) = true) : l.any p = true := by
  rw [List.any_eq_true]
  refine ⟨l.getD k 0, ?_, h⟩
  rw [List.getD_eq_getElem?_getD, List.getElem?_eq_getElem hk]; exact List.getElem_mem _
def filt (l : List Int) (p : Int → Bool) (j : Nat) : List Int := (l.take j).filter (fun x => !p x)
theorem filt_snoc {l : List Int} {p : Int → Bool} {j : Nat} (hj : j < l.length) : filt l p (j + 1) = filt l p j ++ (if p (l.getD j 0) then [] else [l.getD j 0]) := by
  unfold filt
  rw [List.take_add_one, List.filter_append, List.getD_eq_getElem?_getD, List.getElem?_eq_getElem hj]
  congr 1
  simp only [Option.toList_some, Option.getD_some, List.filter_cons, List.filter_nil]
  cases p l[j] <;> simp
theorem filt_len (l : List Int) (p : Int → Bool) (j : Nat) : (filt l p j).length ≤ j := by
  unfold filt
  exact Nat.le_trans (List.length_filter_le _ _) (List.length_take_le _ _)
theorem filt_all {l : List Int} {p : Int → Bool} {j : Nat} (h : ∀ i, i < j → p (l.getD i 0) = false) (hj : j ≤ l.length) : filt l p j = l.take j := by
  unfold filt
  rw [List.filter_eq_self]
  intro x hx
  obtain ⟨i, hi, rfl⟩ := List.getElem_of_mem hx
  rw [List.length_take] at hi
  have := h i (by omega)
  rw [List.getD_eq_getElem?_getD, List.getElem?_eq_getElem (by omega)] at this
  simpa using this
theorem filt_full (l : List Int) (p : Int → Bool) {n : Nat} (h : l.length = n) : filt l p n = l.filter (fun x => !p x) := by
  unfold filt
  rw [List.take_of_length_le (by omega)]
theorem getEl_of_take {cur : Array Value} {l : List Int} {n : Nat} (h : cur.toList.take n = ints l) (hl : l.length = n) {t : Nat} (ht : t < n) : cur[t]? = some (.int .i64 (l.getD t 0)) := by
  have h1 : (cur.toList.take n)[t]? = some (.int .i64 (l.getD t 0)) := by rw [h]; exact ints_get l t (by omega)
  rw [List.getElem?_take, if_pos ht] at h1
  simpa using h1
theorem take_set_self {cur : Array Value} {i : Nat} {u : Value} (hi : i < cur.size) : (cur.setIfInBounds i u).toList.take (i + 1) = cur.toList.take i ++ [u] := by
  apply List.ext_getElem?
  intro j
  simp only [List.getElem?_take, Array.toList_setIfInBounds, List.getElem?_set, List.getElem?_append, List.length_take, Array.length_toList, Nat.min_eq_left (Nat.le_of_lt hi)]
  by_cases h1 : j < i
  · rw [if_pos (by omega), if_neg (by omega), if_pos h1, if_pos h1]
  · by_cases h2 : j = i
    · subst h2
      simp [hi]
    · rw [if_neg (by omega), if_neg h1]
      rw [List.getElem?_eq_none (by simp; omega)]

theorem index_bare (l : List Int) (p : Int → Bool) (I : Nat → World → Prop) (ao : Option Addr) (n cap : Nat) (w : World) (hl : l.length = n) (hN : n ≤ 1000000)
    (hcell : ∀ j w', I j w' → 0 < n → ∃ g, ao = some ⟨g, 0, none⟩ ∧ ∀ i, i < n → w'.cell? ⟨g, i, none⟩ = some (.int .i64 (l.getD i 0)))
    (hcall : ∀ j w', j < n → I j w' → Calls Try.prog 51 #[.int .i64 (l.getD j 0)] w' fun e w2 => e = .returned (.bool (p (l.getD j 0))) ∧ I (j + 1) w2) (h0 : I 0 w) :
    Calls Try.prog 71 #[.slice ao n cap, .func (.func 51) #[] #[]] w (IdxPost l n p I) := by
  have HC := Lib.hid hcell
  have HA := Lib.hid hcall
  have H0 := Lib.hid h0
  clear hcell hcall h0 hl
  go_enter Try.func71, Try.ntmps71
  go_wp2_with fail
  go_loopw [8] (fun i wr => ∃ k : Nat, k ≤ n ∧ i = .int .i64 k ∧ (∀ j, j < k → p (l.getD j 0) = false) ∧ I k wr) (fun i _ => n - (intOf i).toNat)
  case atStart => exact ⟨0, by omega, rfl, fun j hj => by omega, H0.out⟩
  case round =>
    obtain ⟨k, hk, rfl, hp, hi⟩ := hrel
    have K := Lib.hid hp
    have HI := Lib.hid hi
    clear hp hi
    by_cases hlt : k < n
    · have hlt' : (k : Int) < (n : Int) := by omega
      obtain ⟨g, rfl, hcc⟩ := HC.out k _ HI.out (by omega)
      have c0 := hcc k hlt
      have CA := Lib.hid (HA.out k _ hlt HI.out)
      obtain ⟨x, hx⟩ : ∃ x, l.getD k 0 = x := ⟨_, rfl⟩
      rw [hx] at c0 CA
      have HX := Lib.hid hx
      clear hx hcc
      go_wp2_with fail
      refine CA.out.mono ?_
      rintro e w1 ⟨rfl, hi1⟩
      have I1 := Lib.hid hi1
      clear hi1
      cases hh : p x with
      | true =>
        have T := Lib.hid (show p (l.getD k 0) = true by rw [HX.out]; exact hh)
        clear hh
        go_wp2_with fail
        go_ret
        exact ⟨_, rfl, .inr ⟨k, hlt, rfl, T.out, K.out, I1.out⟩⟩
      | false =>
        have T := Lib.hid (show ∀ j, j < k + 1 → p (l.getD j 0) = false from fun j hj => by
          by_cases hjk : j = k
          · subst hjk; rw [HX.out]; exact hh
          · exact K.out j (by omega))
        clear hh
        go_wp2_with fail
        go_roundw
        case rel => exact ⟨k + 1, by omega, by go_num, T.out, I1.out⟩
        case measure => simp [intOf] <;> omega
    · obtain rfl : k = n := by omega
      go_wp2_with fail
      go_ret
      exact ⟨_, rfl, .inl ⟨rfl, K.out, HI.out⟩⟩

set_option maxHeartbeats 1000000 in
theorem delete_bare (B : Nat) (l : List Int) (p : Int → Bool) (I : Nat → World → Prop) (v : Value) (n : Nat) (w : World) (hl : l.length = n) (hN : n ≤ 1000000)
    (hown : w.ownsRow B 3 1 v n (ints l))
    (hcall : ∀ j w', j < n → I j w' → Calls Try.prog 51 #[.int .i64 (l.getD j 0)] w' fun e w2 => e = .returned (.bool (p (l.getD j 0))) ∧ I (j + 1) w2 ∧ ∀ g, v.ownBlock = some g → w2.heap[g]? = w'.heap[g]?)
    (hkeep : ∀ j w' w2 g, v.ownBlock = some g → I j w' → w'.grownBy w2 (some g) → I j w2) (h0 : I 0 w) :
    Calls Try.prog 50 #[v, .func (.func 51) #[] #[]] w (DelPost B v l p I) := by
  rcases hown.2 with ⟨rfl, hz⟩ | ⟨g, cap, cur, rfl, hBg, hg, hnc, hcm, hcs, htake⟩
  · obtain rfl : n = 0 := hz
    obtain rfl := List.eq_nil_of_length_eq_zero hl
    have HI := Lib.hid (index_bare [] p I none 0 0 w rfl (by omega) (fun j w' _ h => by omega) (fun j w' h _ => by omega) h0)
    clear hcall hkeep h0
    have T := Lib.hid (show ∀ w', I 0 w' → DelPost B (.slice none 0 0) [] p I (.returned (.slice none 0 0)) w' from fun w' h => ⟨_, rfl, ⟨rfl, .inl ⟨rfl, rfl⟩⟩, rfl, h⟩)
    go_enter Try.func50, Try.ntmps50
    go_wp2_with fail
    refine HI.out.mono ?_
    rintro e w1 ⟨i, rfl, ⟨rfl, _, hi⟩ | ⟨k, hk, _⟩⟩
    · have I1 := Lib.hid hi
      clear hi
      go_wp2_with fail
      go_ret
      exact T.out _ I1.out
    · omega
  · have hcm2 := hcm
    unfold maxLen at hcm2
    rw [Nat.mul_one] at htake
    have hcur : ∀ t, t < n → cur[t]? = some (.int .i64 (l.getD t 0)) := fun t ht => getEl_of_take htake hl ht
    have HI := Lib.hid (index_bare l p (fun j w' => I j w' ∧ w'.heap[g]? = some (.cells cur 3 (0, 0))) (some ⟨g, 0, none⟩) n cap w hl hN
      (fun j w' h _ => ⟨g, rfl, fun i hi => by simp only [World.cell?, h.2]; exact hcur i hi⟩)
      (fun j w' hj h => (hcall j w' hj h.1).mono (fun e w2 h2 => ⟨h2.1, h2.2.1, (h2.2.2 g rfl).trans h.2⟩)) ⟨h0, hg⟩)
    have HA := Lib.hid hcall
    have HK := Lib.hid hkeep
    have HL := Lib.hid hl
    have HT := Lib.hid htake
    have HCU := Lib.hid hcur
    have HCS := Lib.hid hcs
    clear hcall hkeep h0 hown hg htake hl hcur hcs
    go_enter Try.func50, Try.ntmps50
    go_wp2_with fail
    refine HI.out.mono ?_
    rintro e w1 ⟨i, rfl, ⟨rfl, hall, hi, hg1⟩ | ⟨k0, hk0, rfl, hpk, hall, hi, hg1⟩⟩
    · have T := Lib.hid (show DelPost B (.slice (some ⟨g, 0, none⟩) n cap) l p I (.returned (.slice (some ⟨g, 0, none⟩) n cap)) w1 from by
        have e : l.filter (fun x => !p x) = l := by
          have := filt_all (l := l) (p := p) (j := n) hall (by have := HL.out; omega)
          rw [filt_full l p HL.out, List.take_of_length_le (by have := HL.out; omega)] at this
          exact this
        refine ⟨_, rfl, ?_, rfl, by rw [HL.out]; exact hi⟩
        rw [e, HL.out]
        exact ⟨by rw [length_ints, HL.out]; omega, .inr ⟨g, cap, cur, rfl, hBg, hg1, hnc, hcm, HCS.out, by rw [Nat.mul_one]; exact HT.out⟩⟩)
      clear hall hi hg1
      go_wp2_with fail
      go_ret
      exact T.out
    · have I1 := Lib.hid hi
      have G1 := Lib.hid hg1
      have S1 := Lib.hid (show cur.toList.take k0 = ints (filt l p (k0 + 1)) ∧ k0 = (filt l p (k0 + 1)).length from by
        have h1 := filt_all (l := l) (p := p) (j := k0) hall (by have := HL.out; omega)
        have h2 : filt l p (k0 + 1) = l.take k0 := by
          rw [filt_snoc (by have := HL.out; omega), hpk, if_pos rfl, List.append_nil, h1]
        rw [h2]
        refine ⟨?_, by rw [List.length_take, HL.out]; omega⟩
        have h3 := congrArg (List.take k0) HT.out
        rw [List.take_take, Nat.min_eq_left (by omega)] at h3
        rw [h3, ints_take])
      have hne1 : ((k0 : Int) == -1) = false := beq_eq_false_iff_ne.2 (by omega)
      have hk0' : (k0 : Int) < (n : Int) := by omega
      clear hpk hall hi hg1 HI
      go_wp2_with fail
      go_loopw [5, 6, 7] (fun a b _ wr => ∃ (i j : Nat) (cu : Array Value), a = .int .i64 i ∧ b = .int .i64 j ∧ i < j ∧ j ≤ n ∧ wr.heap[g]? = some (.cells cu 3 (0, 0)) ∧ cu.size = cap ∧ cu.toList.take i = ints (filt l p j) ∧ i = (filt l p j).length ∧ (∀ t, j ≤ t → t < n → cu[t]? = some (.int .i64 (l.getD t 0))) ∧ I j wr) (fun _ b _ _ => n - (intOf b).toNat)
      case atStart => exact ⟨k0, k0 + 1, cur, rfl, by go_num, by omega, by omega, G1.out, by have := HCS.out; omega, S1.out.1, S1.out.2, fun t _ ht => HCU.out t ht, I1.out⟩
      case round =>
        obtain ⟨i, j, cu, rfl, rfl, hij, hjn, hgr, hcu, htk, hlen, hhi, hir⟩ := hrel
        have GR := Lib.hid hgr
        have CU := Lib.hid hcu
        have TK := Lib.hid htk
        have LE := Lib.hid hlen
        have HH := Lib.hid hhi
        have IR := Lib.hid hir
        clear hgr hcu htk hlen hhi hir
        have hin : i < n := by omega
        have hin' : (i : Int) < (n : Int) := by omega
        by_cases hlt : j < n
        · have hlt' : (j : Int) < (n : Int) := by omega
          have c0 : wr.cell? ⟨g, j, none⟩ = some (.int .i64 (l.getD j 0)) := by simp only [World.cell?, GR.out]; exact HH.out j (Nat.le_refl _) hlt
          have CA := Lib.hid (HA.out j _ hlt IR.out)
          have SN := Lib.hid (filt_snoc (l := l) (p := p) (j := j) (by have := HL.out; omega))
          obtain ⟨x, hx⟩ : ∃ x, l.getD j 0 = x := ⟨_, rfl⟩
          rw [hx] at c0 CA SN
          clear hx
          go_wp2_with fail
          refine CA.out.mono ?_
          rintro e w2 ⟨rfl, hi2, hg2⟩
          have I2 := Lib.hid hi2
          have hg3 := (hg2 g rfl).trans GR.out
          have G2 := Lib.hid hg3
          obtain ⟨old, hold⟩ : ∃ old, cu[i]? = some old := ⟨_, Array.getElem?_eq_getElem (show i < cu.size by have := CU.out; omega)⟩
          have ci : w2.cell? ⟨g, i, none⟩ = some old := by simp only [World.cell?, hg3]; exact hold
          have fi : w2.frozen? ⟨g, i, none⟩ = false := by simp [World.frozen?, hg3]
          clear hi2 hg2 hg3 hold c0
          cases hh : p x with
          | true =>
            rw [hh] at SN
            clear hh
            go_wp2_with fail
            go_roundw
            case rel => exact ⟨i, j + 1, cu, rfl, by go_num, by omega, by omega, G2.out, CU.out, by rw [SN.out]; simpa using TK.out, by rw [SN.out]; simpa using LE.out, fun t h1 h2 => HH.out t (by omega) h2, I2.out⟩
            case measure => simp [intOf] <;> omega
          | false =>
            rw [hh] at SN
            clear hh
            go_wp2_with fail
            go_roundw
            case rel => exact ⟨i + 1, j + 1, cu.setIfInBounds i (.int .i64 x), by go_num, by go_num, by omega, by omega, heap_setCell_same w2 g i cu _ _ G2.out, by have := CU.out; simpa using this, by
                rw [SN.out, take_set_self (by have := CU.out; omega), TK.out, ints_append]; simp [ints], by rw [SN.out]; have := LE.out; simp; omega, fun t h1 h2 => by
                rw [Array.getElem?_setIfInBounds, if_neg (by omega)]; exact HH.out t (by omega) h2, HK.out (j + 1) w2 _ g rfl I2.out (gr_set _ ⟨g, i, none⟩ _)⟩
            case measure => simp [intOf] <;> omega
        · obtain rfl : j = n := by omega
          have hcl : ∀ ty, (Builtin.clear_ #[23] ty #[.slice (some ⟨g, i, none⟩) (j - i) (cap - i)]).run Try.prog wr = .ok (.tuple #[]) (wr.setCells g i (List.replicate (j - i) (.int .i64 0))) := fun ty =>
            Lib.run_clear_slice wr _ 3 ty (.int .i64 0) Try.underlying23 (zero_of_info info_int2).1 rfl rfl g i _ _ (by omega)
              (fun t ht => by
                have : i + t < cu.size := by have := CU.out; omega
                simp only [World.cell?, GR.out]
                simp [this]) (fun t ht => by simp [World.frozen?, GR.out])
          have T := Lib.hid (show DelPost B (.slice (some ⟨g, 0, none⟩) j cap) l p I (.returned (.slice (some ⟨g, 0, none⟩) i cap)) (wr.setCells g i (List.replicate (j - i) (.int .i64 0))) from by
            obtain ⟨c', h1, h2, h3⟩ := setCells_here (List.replicate (j - i) (.int .i64 0)) i wr g cu _ GR.out
            refine ⟨_, rfl, ?_, rfl, by rw [HL.out]; exact HK.out j wr _ g rfl IR.out (gr_setCells _ _ _ _)⟩
            rw [← filt_full l p HL.out, ← LE.out]
            refine ⟨by rw [length_ints, ← LE.out]; omega, .inr ⟨g, cap, c', rfl, hBg, h1, by omega, hcm, by have := CU.out; omega, ?_⟩⟩
            rw [Nat.mul_one, ← TK.out]
            apply List.ext_getElem?
            intro t
            rw [List.getElem?_take, List.getElem?_take]
            split
            · rename_i ht
              have := h3 t ht
              simpa using this
            · rfl)
          have hci : ¬ (cap = i) := by omega
          clear hlt
          go_wp2_with fail
          go_ret
          exact T.out


theorem bare1_any (x : Int) (w : World) : Calls Try.prog 51 #[.int .i64 x] w fun r w' => r = .returned (.bool (x == -1)) ∧ w = w' := by
  go_enter Try.func51, Try.ntmps51
  go_wp2_with fail
  go_ret
  exact ⟨rfl, rfl⟩
def barL (l : List Int) : List Int := l.filter (fun x => !(x == -1))
def BarePost (B : Nat) (v : Value) (l : List Int) (w : World) (e : Ending) (w' : World) : Prop := ∃ v', e = .returned v' ∧ w'.ownsRow B 3 1 v' (barL l).length (ints (barL l)) ∧ w.grownBy w' v.ownBlock ∧ v'.ownBlock = v.ownBlock
theorem del_any (B : Nat) (v : Value) (l : List Int) (w : World) (hown : w.ownsRow B 3 1 v l.length (ints l)) (hN : l.length ≤ 1000000) :
    Calls Try.prog 50 #[v, .func (.func 51) #[] #[]] w (BarePost B v l w) := by
  refine (delete_bare B l (fun x => x == -1) (fun _ w' => w.grownBy w' v.ownBlock) v l.length w rfl hN hown ?_ ?_ (gr_refl _ _)).mono ?_
  · intro j w' hj hi
    refine (bare1_any _ w').mono ?_
    rintro e w2 ⟨rfl, rfl⟩
    exact ⟨rfl, hi, fun _ _ => rfl⟩
  · intro j w' w2 g hg hi ht
    rw [hg] at hi ⊢
    exact hi.trans ht
  · rintro e w' ⟨v', rfl, h1, h2, h3⟩
    exact ⟨v', rfl, h1, h3, h2⟩
end Go.Proofs.Ytpefjcmaggimhaa
namespace Go.Proofs.Ytpefjcmaggimhaa
open Go.RowKit
set_option linter.unusedVariables false
set_option linter.unusedSimpArgs false
set_option maxRecDepth 100000

/-! ### Rows of one's own -/
/-- Operations in a row of one's own, the cases too. -/
structure OpsC (base : Nat) (w : World) (v : Value) (es : List (Opn × Value)) : Prop where
  row : w.ownsRow base 48 5 v es.length (opCells es)
  cs : ∀ x ∈ es, w.ownsRow base 50 3 x.2 x.1.cs.length (csCells x.1.cs)
theorem own_below {w w' : World} {base : Nat} {e : TypeId} {k : Nat} {v : Value} {n : Nat} {us : List Value} (h : w.ownsRow base e k v n us) {m : Nat} (hm : w.heap.size ≤ m) (hB : Below m w w') : w'.ownsRow base e k v n us :=
  h.kept (below_none (hB.mono hm)) (by cases v.ownBlock <;> simp)
theorem OpsC.below {base : Nat} {w w' : World} {v : Value} {es : List (Opn × Value)} (h : OpsC base w v es) {m : Nat} (hm : w.heap.size ≤ m) (hB : Below m w w') : OpsC base w' v es :=
  ⟨own_below h.row hm hB, fun x hx => own_below (h.cs x hx) hm hB⟩
theorem OpsC.low {base base' : Nat} {w : World} {v : Value} {es : List (Opn × Value)} (h : OpsC base w v es) (hb : base' ≤ base) : OpsC base' w v es :=
  ⟨owns_low h.row hb, fun x hx => owns_low (h.cs x hx) hb⟩
theorem OpsC.keep {base : Nat} {w w' : World} {v : Value} {es : List (Opn × Value)} (h : OpsC base w v es) {o : Option Nat} (hg : w.grownBy w' o) {ts : List TypeId} (ho : OthB w o ts) (ht : 50 ∈ ts) (hu : 48 ∈ ts) : OpsC base w' v es :=
  ⟨own_keep h.row hg ho hu, fun x hx => own_keep (h.cs x hx) hg ho ht⟩
theorem OpsC.opRow {base : Nat} {w : World} {v : Value} {es : List (Opn × Value)} (h : OpsC base w v es) : OpRow base w v es :=
  ⟨h.row, fun i hi => cssTy_of_own (h.cs _ (by rw [List.getD_eq_getElem?_getD, List.getElem?_eq_getElem hi]; exact List.getElem_mem _))⟩
theorem OpsC.nil (base : Nat) (w : World) : OpsC base w (.slice none 0 0) [] := ⟨World.ownsRow_nil _ _ _ _, fun x hx => by simp at hx⟩
theorem OpsC.app {base : Nat} {w w' : World} {v v' : Value} {es : List (Opn × Value)} {x : Opn × Value} (h : OpsC base w v es) (hx : w.ownsRow base 50 3 x.2 x.1.cs.length (csCells x.1.cs)) (hr : w'.ownsRow base 48 5 v' (es.length + 1) (opCells es ++ opL x)) (hg : w.grownBy w' v.ownBlock) : OpsC base w' v' (es ++ [x]) := by
  have ho : OthB w v.ownBlock [50] := othB_row h.row (by decide)
  refine ⟨by rw [List.length_append, List.length_singleton, opCells_snoc]; exact hr, fun y hy => ?_⟩
  rcases List.mem_append.1 hy with hy | hy
  · exact own_keep (h.cs y hy) hg ho (by simp)
  · rw [List.mem_singleton.1 hy]; exact own_keep hx hg ho (by simp)
/-- Programs in a row of one's own. -/
structure PrsC (base : Nat) (w : World) (v : Value) (qs : List Pr) : Prop where
  row : w.ownsRow base 45 1 v qs.length (qs.map (·.2))
  pr : ∀ q ∈ qs, OpsC base w q.2 q.1
theorem PrsC.below {base : Nat} {w w' : World} {v : Value} {qs : List Pr} (h : PrsC base w v qs) {m : Nat} (hm : w.heap.size ≤ m) (hB : Below m w w') : PrsC base w' v qs :=
  ⟨own_below h.row hm hB, fun q hq => (h.pr q hq).below hm hB⟩
theorem PrsC.low {base base' : Nat} {w : World} {v : Value} {qs : List Pr} (h : PrsC base w v qs) (hb : base' ≤ base) : PrsC base' w v qs :=
  ⟨owns_low h.row hb, fun q hq => (h.pr q hq).low hb⟩
theorem PrsC.keep {base : Nat} {w w' : World} {v : Value} {qs : List Pr} (h : PrsC base w v qs) {o : Option Nat} (hg : w.grownBy w' o) (ho : OthB w o [50, 48, 45]) : PrsC base w' v qs :=
  ⟨own_keep h.row hg ho (by simp), fun q hq => (h.pr q hq).keep hg ho (by simp) (by simp)⟩
theorem PrsC.prRow {base : Nat} {w : World} {v : Value} {qs : List Pr} (h : PrsC base w v qs) : PrRow base w v qs := ⟨h.row, fun q hq => ((h.pr q hq).low (Nat.zero_le _)).opRow⟩
theorem PrsC.nil (base : Nat) (w : World) : PrsC base w (.slice none 0 0) [] := ⟨World.ownsRow_nil _ _ _ _, fun x hx => by simp at hx⟩
theorem PrsC.app {base : Nat} {w w' : World} {v v' : Value} {qs : List Pr} {x : Pr} (h : PrsC base w v qs) (hx : OpsC base w x.2 x.1) (hr : w'.ownsRow base 45 1 v' (qs.length + 1) (qs.map (·.2) ++ [x.2])) (hg : w.grownBy w' v.ownBlock) : PrsC base w' v' (qs ++ [x]) := by
  have ho : OthB w v.ownBlock [50, 48] := othB_row h.row (by decide)
  refine ⟨by rw [List.length_append, List.length_singleton, List.map_append]; exact hr, fun q hq => ?_⟩
  rcases List.mem_append.1 hq with hq | hq
  · exact (h.pr q hq).keep hg ho (by simp) (by simp)
  · rw [List.mem_singleton.1 hq]; exact hx.keep hg ho (by simp) (by simp)

/-! ### One operation -/
def CopO (o : Opn) (w : World) (r : Ending) (w' : World) : Prop := ∃ v', r = .returned (opV v' o) ∧ w'.ownsRow w.heap.size 50 3 v' o.cs.length (csCells o.cs) ∧ Below w.heap.size w w'
theorem cop_end {o : Opn} {w V : World} {B : Nat} {v : Value} {tmps : Array Value} (hc : V.heap[B]? = some (Obj.cells (opC v o) 48 (0, 0))) (hb : Below w.heap.size w V)
    (ht : tmps.getD 2 undef = .pointer (some ⟨B, 0, none⟩)) (hs : V.ownsRow w.heap.size 50 3 v o.cs.length (csCells o.cs)) :
    bodyPost Try.prog Try.f47 (CopO o w) Exit.ret { tmps := tmps, defers := [] } V := by
  have ht' : tmps[2]?.getD undef = .pointer (some ⟨B, 0, none⟩) := by simpa using ht
  obtain ⟨z0, z1, z2, z3, z4⟩ := five_cells hc
  refine bodyPost_ret (v := opV v o) ?_ rfl ⟨v, rfl, hs, hb⟩
  simp [results, Try.results47, ht', asAddr, go_sem, z0, z1, z2, z3, z4, opV]
set_option maxHeartbeats 1000000 in
theorem copo_any (o : Opn) (v : Value) (w : World) (h : CssOf w v o.cs) (hN : o.cs.length ≤ 1000000) : Calls Try.prog 47 #[opV v o] w (CopO o w) := by
  obtain ⟨k, a, b, cs, df⟩ := o
  obtain ⟨ao, cap, rfl⟩ := h.shape
  dsimp only at h hN
  have h0 : CssOf ((w.alloc (.cells (opC (.slice ao cs.length cap) ⟨k, a, b, cs, df⟩) 48)).alloc (.cells (opC (.slice none 0 0) zeroOp) 48)) (.slice ao cs.length cap) cs :=
    (h.below (Nat.le_refl _) (below1 _ _)).below (Nat.le_refl _) (below1 _ _)
  have CL := Lib.hid (clone_css _ cs _ h0 hN)
  have e1 := (heap_alloc_old _ (.cells (opC (.slice none 0 0) zeroOp) 48) (by simp)).trans (heap_alloc_new w (.cells (opC (.slice ao cs.length cap) ⟨k, a, b, cs, df⟩) 48))
  have e2 := heap_alloc_new (w.alloc (.cells (opC (.slice ao cs.length cap) ⟨k, a, b, cs, df⟩) 48)) (.cells (opC (.slice none 0 0) zeroOp) 48)
  rw [World.size_alloc] at e2
  have e3 : Below w.heap.size w ((w.alloc (.cells (opC (.slice ao cs.length cap) ⟨k, a, b, cs, df⟩) 48)).alloc (.cells (opC (.slice none 0 0) zeroOp) 48)) := ((Below.refl _ _).alloc (Nat.le_refl _) _).alloc (by simp) _
  have E1 := Lib.hid e1
  have E2 := Lib.hid e2
  have E3 := Lib.hid e3
  unfold CloneC at CL
  unfold opC at CL E1 E2 E3
  dsimp only [zeroOp] at CL E1 E2 E3
  unfold opV
  dsimp only
  clear h h0 e1 e2 e3
  go_enter Try.func47, Try.ntmps47
  go_wp2_with fail
  refine CL.out.mono ?_
  rintro r w1 ⟨v', rfl, hown, hB⟩
  have F1 := (hB.block w.heap.size (by rw [World.size_alloc, World.size_alloc]; omega)).trans E1.out
  have F2 := (hB.block (w.heap.size + 1) (by rw [World.size_alloc, World.size_alloc]; omega)).trans E2.out
  have F3 := Lib.hid (E3.out.trans (hB.mono (by simp; omega)))
  have O1 := Lib.hid (owns_low (base' := w.heap.size) hown (by simp; omega))
  obtain ⟨a', c', rfl⟩ := owns_slice hown
  have G1 := Lib.hid F1
  have G2 := Lib.hid F2
  obtain ⟨z0, z1, z2, z3, z4⟩ := five_cells F1
  obtain ⟨y0, y1, y2, y3, y4⟩ := five_cells F2
  have zf : ∀ o, World.frozen? w1 ⟨w.heap.size, o, none⟩ = false := fun o => frozen_of_row _ _ o _ _ F1
  have yf : ∀ o, World.frozen? w1 ⟨w.heap.size + 1, o, none⟩ = false := fun o => frozen_of_row _ _ o _ _ F2
  clear hown hB CL E1 E2 E3 F1 F2
  go_wp2_with fail
  obtain ⟨V, hV⟩ : ∃ V, (((((((w1.setCell ⟨w.heap.size, 3, none⟩ (.slice a' cs.length c')).setCell ⟨w.heap.size + 1, 0, none⟩ (.int .i64 k)).setCell ⟨w.heap.size + 1, 1, none⟩ (.int .i64 a)).setCell ⟨w.heap.size + 1, 2, none⟩ (.int .i64 b)).setCell ⟨w.heap.size + 1, 3, none⟩ (.slice a' cs.length c')).setCell ⟨w.heap.size + 1, 4, none⟩ (.bool df))) = V := ⟨_, rfl⟩
  have g1 : w1.grownBy (w1.setCell ⟨w.heap.size, 3, none⟩ (.slice a' cs.length c')) (some w.heap.size) := gr_set _ _ _
  have o1 : OthB w1 (some w.heap.size) [50] := othB_cell G1.out (by decide)
  have r1 := own_keep O1.out g1 o1 (by simp)
  have h2 := (heap_setCell_other w1 ⟨w.heap.size, 3, none⟩ (w.heap.size + 1) (Value.slice a' cs.length c') (by show w.heap.size + 1 ≠ w.heap.size; omega)).trans G2.out
  have o2 : OthB (w1.setCell ⟨w.heap.size, 3, none⟩ (.slice a' cs.length c')) (some (w.heap.size + 1)) [50] := othB_cell h2 (by decide)
  have g2 : (w1.setCell ⟨w.heap.size, 3, none⟩ (.slice a' cs.length c')).grownBy V (some (w.heap.size + 1)) := by
    rw [← hV]
    exact ((((gr_set _ ⟨w.heap.size + 1, 0, none⟩ _).trans (gr_set _ ⟨w.heap.size + 1, 1, none⟩ _)).trans (gr_set _ ⟨w.heap.size + 1, 2, none⟩ _)).trans (gr_set _ ⟨w.heap.size + 1, 3, none⟩ _)).trans (gr_set _ ⟨w.heap.size + 1, 4, none⟩ _)
  have r2 := own_keep r1 g2 o2 (by simp)
  have b2 : Below w.heap.size w V := by
    rw [← hV]
    exact (((((F3.out.setCell (Nat.le_refl _) _).setCell (by simp) _).setCell (by simp) _).setCell (by simp) _).setCell (by simp) _).setCell (by simp) _
  have c2 : V.heap[w.heap.size + 1]? = some (Obj.cells (opC (.slice a' cs.length c') ⟨k, a, b, cs, df⟩) 48 (0, 0)) := by
    rw [← hV, heap_setCell_same _ _ 4 _ _ _ (heap_setCell_same _ _ 3 _ _ _ (heap_setCell_same _ _ 2 _ _ _ (heap_setCell_same _ _ 1 _ _ _ (heap_setCell_same _ _ 0 _ _ _ h2))))]
    rfl
  rw [hV]
  exact cop_end c2 b2 rfl r2
end Go.Proofs.Ytpefjcmaggimhaa
namespace Go.Proofs.Ytpefjcmaggimhaa
open Go.RowKit
set_option linter.unusedVariables false
set_option linter.unusedSimpArgs false
set_option maxRecDepth 100000

def EachO (es : List Opn) (w : World) (r : Ending) (w' : World) : Prop := ∃ v' qs, r = .returned v' ∧ qs.map (·.1) = es ∧ OpsC w.heap.size w' v' qs ∧ Below w.heap.size w w'
theorem getD_mem_ops {es : List Opn} {k : Nat} (hk : k < es.length) : es.getD k default ∈ es := by
  rw [List.getD_eq_getElem?_getD, List.getElem?_eq_getElem hk]; exact List.getElem_mem _
set_option maxHeartbeats 2000000 in
theorem each_ops (v : Value) (es : List Opn) (w : World) (h : OpsOf w v es) (hN : es.length ≤ 1000000) (hc : ∀ o ∈ es, o.cs.length ≤ 1000000) :
    Calls Try.prog 46 #[v, .func (.func 47) #[] #[]] w (EachO es w) := by
  obtain ⟨ao, cap, rfl⟩ := h.shape
  obtain ⟨n, hn⟩ : ∃ n, es.length = n := ⟨_, rfl⟩
  rw [hn] at h hN ⊢
  have H := Lib.hid h
  have HN := Lib.hid hn
  have HC := Lib.hid hc
  clear h hn hc
  go_enter Try.func46, Try.ntmps46
  go_wp2_with fail
  go_loopw [10, 5] (fun i z wr => ∃ (k : Nat) (qs : List (Opn × Value)), k ≤ n ∧ i = .int .i64 k ∧ qs.map (·.1) = es.take k ∧ OpsC w.heap.size wr z qs ∧ Below w.heap.size w wr) (fun i _ _ => n - (intOf i).toNat)
  case atStart => exact ⟨0, [], by omega, rfl, rfl, OpsC.nil _ _, Below.refl _ _⟩
  case round =>
    obtain ⟨k, qs, hk, rfl, hq, hrow, hb⟩ := hrel
    have hlen : qs.length = k := by
      have := congrArg List.length hq
      rw [List.length_map, List.length_take, HN.out] at this
      omega
    obtain ⟨az, cz, hv⟩ := owns_slice hrow.row
    rw [hlen] at hv
    subst hv
    have HB := Lib.hid hb
    have ROW := Lib.hid hrow
    have HQ := Lib.hid hq
    have HL := Lib.hid hlen
    clear hb hrow hq hlen
    by_cases hlt : k < n
    · have hlt' : (k : Int) < (n : Int) := by omega
      obtain ⟨b', o', rfl, u, c0, c1, c2, c3, c4, c5⟩ := (H.out.below (Nat.le_refl _) HB.out).at k (by have := HN.out; omega)
      have TK := Lib.hid (show es.take (k + 1) = es.take k ++ [es.getD k default] from by
        rw [List.take_add_one, List.getD_eq_getElem?_getD, List.getElem?_eq_getElem (by have := HN.out; omega)]; rfl)
      have EC := HC.out _ (getD_mem_ops (es := es) (k := k) (by have := HN.out; omega))
      obtain ⟨e, he⟩ : ∃ e, es.getD k default = e := ⟨_, rfl⟩
      rw [he] at c0 c1 c2 c4 c5 TK EC
      obtain ⟨ek, ea, eb, ecs, edf⟩ := e
      dsimp only at c0 c1 c2 c4 c5 EC
      obtain ⟨uo, uc, rfl⟩ := c5.shape
      have CA := Lib.hid (copo_any ⟨ek, ea, eb, ecs, edf⟩ (.slice uo ecs.length uc) (wr.alloc (.cells (opC (.slice uo ecs.length uc) ⟨ek, ea, eb, ecs, edf⟩) 48)) (c5.below (Nat.le_refl _) (below1 _ _)) EC)
      unfold CopO opV opC at CA
      dsimp only at CA
      clear he c5
      go_wp2_with fail
      refine CA.out.mono ?_
      rintro r w2 ⟨v', rfl, hown, hB2⟩
      obtain ⟨av, cv, rfl⟩ := owns_slice hown
      have SZ := HB.out.size
      have B2 := Lib.hid ((below1 wr _).trans (hB2.mono (by simp)))
      have O2 := Lib.hid (owns_low (base' := w.heap.size) hown (by simp; omega))
      have B3 := Lib.hid (below1 w2 (.cells (opC (.slice av ecs.length cv) ⟨ek, ea, eb, ecs, edf⟩) 48))
      have R3 := Lib.hid ((ROW.out.below (Nat.le_refl _) B2.out).below (Nat.le_refl _) B3.out)
      have O3 := Lib.hid (own_below O2.out (Nat.le_refl _) B3.out)
      have HB3 := Lib.hid ((HB.out.trans (B2.out.mono SZ)).trans (B3.out.mono (Nat.le_trans SZ B2.out.size)))
      have SZ3 := HB3.out.size
      obtain ⟨i0, hi, hzz, hzz1, hzz2⟩ := info_parts opinfo
      clear hown hB2 CA c0 c1 c2 c3 c4
      go_wp2_with (at_builtin; refine wpList_append_own _ rfl _ _ 45 rfl w.heap.size 48 i0 _ 5 56 Try.underlying45 hi hzz hzz1 hzz2 rfl (by decide) _ _ _ rfl (show World.ownsRow _ _ _ _ _ _ _ from by have h := R3.out.row; rw [HL.out] at h; exact h) ⟨w2.heap.size, 0, none⟩ 1 1 (opL (⟨ek, ea, eb, ecs, edf⟩, .slice av ecs.length cv)) rfl rfl ?c1 ?c2 ?c3 ?c4 ?c5 ?_)
      case c1 => exact fun i u hu => range_lit w2 (opL (⟨ek, ea, eb, ecs, edf⟩, .slice av ecs.length cv)) 48 i u hu
      case c2 => exact opL_one (w := w2) (css_of_own O2.out)
      case c3 => unfold maxLen; omega
      case c4 => omega
      case c5 => exact SZ3
      intro v9 w9 hown hgr _
      have R9 := Lib.hid (R3.out.app (x := (⟨ek, ea, eb, ecs, edf⟩, .slice av ecs.length cv)) O3.out (by rw [HL.out]; exact hown) hgr)
      have B9 := Lib.hid (HB3.out.grown hgr SZ3 (fun j hj => (R3.out.row.lt j hj).1))
      clear hown hgr
      go_wp2_with fail
      go_roundw
      case rel => exact ⟨k + 1, _, by omega, by go_num, by rw [List.map_append, TK.out, HQ.out]; rfl, R9.out, B9.out⟩
      case measure => simp [intOf] <;> omega
    · obtain rfl : k = n := by omega
      have T := Lib.hid (show es.take k = es from List.take_of_length_le (by have := HN.out; omega))
      go_wp2_with fail
      go_ret
      exact ⟨_, _, rfl, by rw [HQ.out, T.out], ROW.out, HB.out⟩
theorem copp_any (v : Value) (es : List Opn) (w : World) (h : OpsOf w v es) (hN : es.length ≤ 1000000) (hc : ∀ o ∈ es, o.cs.length ≤ 1000000) :
    Calls Try.prog 45 #[v] w (EachO es w) := by
  have CA := Lib.hid (each_ops v es w h hN hc)
  obtain ⟨ao, cap, rfl⟩ := h.shape
  clear h hc
  go_enter Try.func45, Try.ntmps45
  go_wp2_with fail
  refine CA.out.mono ?_
  rintro r w2 ⟨v', qs, rfl, h1, h2, h3⟩
  have T := Lib.hid (show EachO es w (.returned v') w2 from ⟨v', qs, rfl, h1, h2, h3⟩)
  clear h1 h2 h3
  go_wp2_with fail
  go_ret
  exact T.out

/-! ### Programs -/
def EachP (ps : List (List Opn)) (w : World) (r : Ending) (w' : World) : Prop := ∃ v' qs, r = .returned v' ∧ qs.map Pr.ops = ps ∧ PrsC w.heap.size w' v' qs ∧ Below w.heap.size w w'
/-- The sizes of a script's programs and cases. -/
structure PsN (ps : List (List Opn)) : Prop where
  n : ps.length ≤ 1000000
  o : ∀ p ∈ ps, p.length ≤ 1000000
  c : ∀ p ∈ ps, ∀ o ∈ p, o.cs.length ≤ 1000000
set_option maxHeartbeats 2000000 in
theorem each_prs (v : Value) (ps : List (List Opn)) (w : World) (h : PrsOf w v ps) (hN : PsN ps) :
    Calls Try.prog 44 #[v, .func (.func 45) #[] #[]] w (EachP ps w) := by
  obtain ⟨ao, cap, rfl⟩ := h.shape
  have hn1 := hN.n
  obtain ⟨n, hn⟩ : ∃ n, ps.length = n := ⟨_, rfl⟩
  rw [hn] at h hn1 ⊢
  have H := Lib.hid h
  have HN := Lib.hid hn
  have HC := Lib.hid hN
  clear h hn hN
  go_enter Try.func44, Try.ntmps44
  go_wp2_with fail
  go_loopw [10, 5] (fun i z wr => ∃ (k : Nat) (qs : List Pr), k ≤ n ∧ i = .int .i64 k ∧ qs.map Pr.ops = ps.take k ∧ PrsC w.heap.size wr z qs ∧ Below w.heap.size w wr) (fun i _ _ => n - (intOf i).toNat)
  case atStart => exact ⟨0, [], by omega, rfl, rfl, PrsC.nil _ _, Below.refl _ _⟩
  case round =>
    obtain ⟨k, qs, hk, rfl, hq, hrow, hb⟩ := hrel
    have hlen : qs.length = k := by
      have := congrArg List.length hq
      rw [List.length_map, List.length_take, HN.out] at this
      omega
    obtain ⟨az, cz, hv⟩ := owns_slice hrow.row
    rw [hlen] at hv
    subst hv
    have HB := Lib.hid hb
    have ROW := Lib.hid hrow
    have HQ := Lib.hid hq
    have HL := Lib.hid hlen
    clear hb hrow hq hlen
    by_cases hlt : k < n
    · have hlt' : (k : Int) < (n : Int) := by omega
      obtain ⟨b', o', u, rfl, c0, c5⟩ := (H.out.below (Nat.le_refl _) HB.out).at k (by have := HN.out; omega)
      have TK := Lib.hid (show ps.take (k + 1) = ps.take k ++ [ps.getD k []] from by
        rw [List.take_add_one, List.getD_eq_getElem?_getD, List.getElem?_eq_getElem (by have := HN.out; omega)]; rfl)
      have MM := getD_mem (ps := ps) (k := k) (by have := HN.out; omega)
      have EC := HC.out.c _ MM
      have EN := HC.out.o _ MM
      obtain ⟨e, he⟩ : ∃ e, ps.getD k [] = e := ⟨_, rfl⟩
      rw [he] at c5 TK EC EN
      have CA := Lib.hid (copp_any u e wr c5 EN EC)
      obtain ⟨uo, uc, rfl⟩ := c5.shape
      unfold EachO at CA
      clear he c5 EC EN MM
      go_wp2_with fail
      refine CA.out.mono ?_
      rintro r w2 ⟨v', es, rfl, hes, hown, hB2⟩
      have hel : es.length = e.length := by rw [← hes, List.length_map]
      obtain ⟨av, cv, hv⟩ := owns_slice hown.row
      subst hv
      have SZ := HB.out.size
      have B2 := Lib.hid hB2
      have O2 := Lib.hid (hown.low (base' := w.heap.size) SZ)
      have B3 := Lib.hid (below1 w2 (.cells #[.slice av es.length cv] 45))
      have R3 := Lib.hid ((ROW.out.below (Nat.le_refl _) B2.out).below (Nat.le_refl _) B3.out)
      have O3 := Lib.hid (O2.out.below (Nat.le_refl _) B3.out)
      have HB3 := Lib.hid ((HB.out.trans (B2.out.mono SZ)).trans (B3.out.mono (Nat.le_trans SZ B2.out.size)))
      have SZ3 := HB3.out.size
      have HES := Lib.hid hes
      obtain ⟨i0, hi, hzz, hzz1, hzz2⟩ := info_parts prinfo
      clear hown hB2 CA c0 hes hel
      go_wp2_with (at_builtin; refine wpList_append_own _ rfl _ _ 22 rfl w.heap.size 45 i0 _ 1 24 Try.underlying22 hi hzz hzz1 hzz2 rfl (by decide) _ _ _ rfl (show World.ownsRow _ _ _ _ _ _ _ from by have h := R3.out.row; rw [HL.out] at h; exact h) ⟨w2.heap.size, 0, none⟩ 1 1 [.slice av es.length cv] rfl rfl ?c1 ?c2 ?c3 ?c4 ?c5 ?_)
      case c1 => exact fun i u hu => range_lit w2 [.slice av es.length cv] 45 i u hu
      case c2 => intro u hu; rw [List.mem_singleton.1 hu]; rfl
      case c3 => unfold maxLen; omega
      case c4 => omega
      case c5 => exact SZ3
      intro v9 w9 hown hgr _
      have R9 := Lib.hid (R3.out.app (x := (es, .slice av es.length cv)) O3.out (by rw [HL.out]; exact hown) hgr)
      have B9 := Lib.hid (HB3.out.grown hgr SZ3 (fun j hj => (R3.out.row.lt j hj).1))
      clear hown hgr
      go_wp2_with fail
      go_roundw
      case rel => exact ⟨k + 1, _, by omega, by go_num, by rw [List.map_append, TK.out, HQ.out, ← HES.out]; rfl, R9.out, B9.out⟩
      case measure => simp [intOf] <;> omega
    · obtain rfl : k = n := by omega
      have T := Lib.hid (show ps.take k = ps from List.take_of_length_le (by have := HN.out; omega))
      go_wp2_with fail
      go_ret
      exact ⟨_, _, rfl, by rw [HQ.out, T.out], ROW.out, HB.out⟩
end Go.Proofs.Ytpefjcmaggimhaa

