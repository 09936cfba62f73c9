
/-
  staitheref02: Get, Set, Tick, Join, Within, List of a clock that lies anywhere.
-/
import Derived.Test.YtonegedenmchbaaRefC
import Derived.Deep.QuietTactic
import Derived.Deep.RegionWith
namespace Go.Proofs.Ytonegedenmchbaa
open Go.RowKit
set_option linter.unusedVariables false
set_option linter.unusedSimpArgs false
set_option maxRecDepth 100000

/-- The 256 cells from a place on are this clock. -/
def RC (w : World) (b o : Nat) (ns : List Int) : Prop := ns.length = 256 ∧ (∀ i, i < 256 → w.cell? ⟨b, o + i, none⟩ = some (.int .i64 (ns.getD i 0))) ∧ ∀ i, w.frozen? ⟨b, i, none⟩ = false
theorem RC.range {w : World} {b o : Nat} {ns : List Int} (h : RC w b o ns) : w.rangeAt b o (ints ns) := by
  intro j v hj
  have hl : j < ns.length := by
    have := (List.getElem?_eq_some_iff.1 hj).1
    rwa [length_ints] at this
  rw [getElem?_ints ns j hl] at hj
  rw [h.2.1 j (by have := h.1; omega)]
  exact hj
theorem RC.lt {w : World} {b o : Nat} {ns : List Int} (h : RC w b o ns) : b < w.heap.size := block_lt_of_cell (h.2.1 0 (by omega))
theorem RC.below {w w' : World} {b o : Nat} {ns : List Int} (h : RC w b o ns) {n : Nat} (hn : w.heap.size ≤ n) (hB : Below n w w') : RC w' b o ns := by
  have hb : b < n := Nat.lt_of_lt_of_le h.lt hn
  exact ⟨h.1, fun i hi => by rw [hB.cell (p := ⟨b, o + i, none⟩) hb]; exact h.2.1 i hi, fun i => by rw [hB.frozen (p := ⟨b, i, none⟩) hb]; exact h.2.2 i⟩
theorem RC.set {w : World} {b o : Nat} {ns : List Int} (h : RC w b o ns) (t : Nat) (ht : t < 256) (n : Int) : RC (w.setCell ⟨b, o + t, none⟩ (.int .i64 n)) b o (ns.set t n) := by
  refine ⟨by rw [List.length_set]; exact h.1, fun i hi => ?_, fun i => by rw [World.frozen?_setCell]; exact h.2.2 i⟩
  have hl := h.1
  by_cases hit : i = t
  · subst hit
    rw [World.cell?_setCell_same _ _ _ (h.2.1 i hi)]
    simp [List.getD, hl, hi]
  · rw [World.cell?_setCell_other _ _ _ _ (by intro e; injection e with e1 e2; omega), h.2.1 i hi]
    simp [List.getD, List.getElem?_set, show ¬ t = i from fun e => hit e.symm]

theorem rc_get (b o : Nat) (ns : List Int) (t : Int) (w : World) (h : RC w b o ns) :
    Calls Try.prog 11 #[.pointer (some ⟨b, o, none⟩), .int .i64 t] w fun r w' => r = .returned (.int .i64 (at0 ns t)) ∧ w = w' := by
  by_cases ht : 0 ≤ t ∧ t < 256
  · obtain ⟨n, rfl⟩ := Int.eq_ofNat_of_zero_le ht.1
    have h2 : (n : Int) < 256 := ht.2
    have c0 := h.2.1 n (by omega)
    have E := Lib.hid (at0_nat ns n)
    obtain ⟨u, hu⟩ : ∃ u, ns.getD n 0 = u := ⟨_, rfl⟩
    rw [hu] at c0
    have U := Lib.hid hu
    clear hu ht
    go_enter Try.func11, Try.ntmps11
    go_wp2_with fail
    go_ret
    exact ⟨by rw [E.out, U.out]; rfl, rfl⟩
  · have hz := Lib.hid (show at0 ns t = 0 from at0_out (by have := h.1; omega))
    by_cases h0 : t < 0
    · go_enter Try.func11, Try.ntmps11
      go_wp2_with fail
      go_ret
      exact ⟨by rw [hz.out]; rfl, rfl⟩
    · have h0' : 0 ≤ t := by omega
      have h1 : 256 ≤ t := by omega
      go_enter Try.func11, Try.ntmps11
      go_wp2_with fail
      go_ret
      exact ⟨by rw [hz.out]; rfl, rfl⟩

theorem rc_set_no (p : Value) (t n : Int) (w : World) (h : ¬ ((0 ≤ t ∧ t < 256) ∧ 0 ≤ n ∧ n ≤ 1048576)) :
    Calls Try.prog 10 #[p, .int .i64 t, .int .i64 n] w fun r w' => r = .returned (.int .i64 1) ∧ w = w' := by
  cases a : decide (t < 0) <;> cases b : decide (256 ≤ t) <;> cases c : decide (n < 0) <;> cases d : decide (1048576 < n)
  all_goals first
    | (exfalso; simp at a b c d; omega)
    | (clear h
       go_enter Try.func10, Try.ntmps10
       go_wp2_with fail
       go_ret
       exact ⟨rfl, rfl⟩)
theorem rc_set (b o : Nat) (ns : List Int) (t : Nat) (n : Int) (w : World) (h : RC w b o ns) (ht : t < 256) (h0 : 0 ≤ n) (h1 : n ≤ 1048576) :
    Calls Try.prog 10 #[.pointer (some ⟨b, o, none⟩), .int .i64 t, .int .i64 n] w fun r w' => r = .returned (.int .i64 0) ∧ w' = w.setCell ⟨b, o + t, none⟩ (.int .i64 n) := by
  have c0 := h.2.1 t ht
  have f0 := h.2.2 (o + t)
  have ht' : (t : Int) < 256 := by omega
  have d1 : decide ((t : Int) < 0) = false := decide_eq_false (by omega)
  have d2 : decide (256 ≤ (t : Int)) = false := decide_eq_false (by omega)
  have d3 : decide (n < 0) = false := decide_eq_false (by omega)
  have d4 : decide (1048576 < n) = false := decide_eq_false (by omega)
  go_enter Try.func10, Try.ntmps10
  go_wp2_with fail
  go_ret
  exact ⟨rfl, rfl⟩

theorem rc_tick_no (p : Value) (t n : Int) (w : World) (h : ¬ ((0 ≤ t ∧ t < 256) ∧ 1 ≤ n ∧ n ≤ 1048576)) :
    Calls Try.prog 18 #[p, .int .i64 t, .int .i64 n] w fun r w' => r = .returned (.int .i64 1) ∧ w = w' := by
  cases a : decide (t < 0) <;> cases b : decide (256 ≤ t) <;> cases c : decide (n < 1) <;> cases d : decide (1048576 < n)
  all_goals first
    | (exfalso; simp at a b c d; omega)
    | (clear h
       go_enter Try.func18, Try.ntmps18
       go_wp2_with fail
       go_ret
       exact ⟨rfl, rfl⟩)
def RTick (b o : Nat) (ns : List Int) (t : Nat) (most : Int) (w : World) (r : Ending) (w' : World) : Prop :=
  (most ≤ ns.getD t 0 ∧ r = .returned (.int .i64 5) ∧ w = w') ∨ (ns.getD t 0 < most ∧ r = .returned (.int .i64 0) ∧ w' = (w.setCell ⟨b, o + t, none⟩ (.int .i64 (ns.getD t 0 + 1))).drew)
theorem rc_tick (b o : Nat) (ns : List Int) (t : Nat) (most : Int) (w : World) (h : RC w b o ns) (ht : t < 256) (h0 : 1 ≤ most) (h1 : most ≤ 1048576) (hb : -1048576 ≤ ns.getD t 0) :
    Calls Try.prog 18 #[.pointer (some ⟨b, o, none⟩), .int .i64 t, .int .i64 most] w (RTick b o ns t most w) := by
  have c0 := h.2.1 t ht
  have f0 := h.2.2 (o + t)
  have ht' : (t : Int) < 256 := by omega
  have d1 : decide ((t : Int) < 0) = false := decide_eq_false (by omega)
  have d2 : decide (256 ≤ (t : Int)) = false := decide_eq_false (by omega)
  have d3 : decide (most < 1) = false := decide_eq_false (by omega)
  have d4 : decide (1048576 < most) = false := decide_eq_false (by omega)
  obtain ⟨u, hu⟩ : ∃ u, ns.getD t 0 = u := ⟨_, rfl⟩
  rw [hu] at c0 hb
  have U := Lib.hid hu
  clear hu
  by_cases hm : most ≤ u
  · have d5 : decide (most ≤ u) = true := decide_eq_true hm
    go_enter Try.func18, Try.ntmps18
    go_wp2_with fail
    go_ret
    exact .inl ⟨by rw [U.out]; exact hm, rfl, rfl⟩
  · have d5 : decide (most ≤ u) = false := decide_eq_false hm
    have hlt : u < most := by omega
    have hw : IntKind.i64.wrap (u + 1) = u + 1 := by simp [IntKind.wrap, IntKind.bits, IntKind.signed]; omega
    go_enter Try.func18, Try.ntmps18
    go_wp2_with fail
    go_region_with (fail)
    all_goals go_wp2_with fail
    all_goals go_ret
    all_goals exact .inr ⟨by rw [U.out]; exact hlt, rfl, by rw [U.out]⟩

def LeT (n : Nat) (a b : List Int) : Prop := ∀ j, j < n → a.getD j 0 ≤ b.getD j 0
instance (n : Nat) (a b : List Int) : Decidable (LeT n a b) := by unfold LeT; infer_instance
def leB (a b : List Int) : Bool := decide (LeT 256 a b)

theorem boxed {w W : World} {Z : Array Value} {ns : List Int} {t : TypeId} (hZ : (ints ns).toArray = Z) (hl : ns.length = 256) (hW : w.alloc (.cells Z t) = W) : RC W w.heap.size 0 ns ∧ Below w.heap.size w W := by
  subst hZ hW
  refine ⟨⟨hl, fun i hi => ?_, fun i => by simp only [World.frozen?, heap_alloc_new]; simp⟩, (Below.refl _ _).alloc (Nat.le_refl _) _⟩
  have := getElem?_ints ns i (by omega)
  simp only [World.cell?, heap_alloc_new, Nat.zero_add]
  simpa using this

theorem cell_newS (W : World) (v : Value) (t : TypeId) : (W.alloc (.cells #[v] t)).cell? ⟨W.heap.size, 0, none⟩ = some v := by simp
def RCList (ns : List Int) (w : World) (r : Ending) (w' : World) : Prop := ∃ v, r = .returned v ∧ Src w' v (trim ns) ∧ Below w.heap.size w w'

set_option maxHeartbeats 1000000 in
theorem rc_list (b o : Nat) (ns : List Int) (w : World) (h : RC w b o ns) (hp : ∀ u : Int, 0 ≤ at0 ns u) :
    Calls Try.prog 14 #[.pointer (some ⟨b, o, none⟩)] w (RCList ns w) := by
  obtain ⟨i0, hi, hz0, hz1, hz2⟩ := info_parts info_int
  have H := Lib.hid h
  have HP := Lib.hid hp
  have hlen := h.1
  have HF := Lib.hid h.2.1
  clear hp h
  go_enter Try.func14, Try.ntmps14
  go_wp2_with fail
  go_loopw [3, 4] (fun l i wr => ∃ k : Nat, k ≤ 256 ∧ i = .int .i64 k ∧ l = .int .i64 (trimN ns k : Nat) ∧ wr = w) (fun _ i _ => 256 - (intOf i).toNat)
  case atStart => exact ⟨0, by omega, rfl, rfl, rfl⟩
  case round =>
    obtain ⟨k, hk, rfl, rfl, hw⟩ := hrel
    have hw' := hw.symm
    clear hw
    subst hw'
    by_cases hlt : k < 256
    · have hlt' : (k : Int) < 256 := by omega
      have c0 := HF.out k hlt
      have P := HP.out k
      rw [at0_nat] at P
      by_cases hz : ns.getD k 0 = 0
      · have T := Lib.hid (show trimN ns (k + 1) = trimN ns k by rw [trimN_succ, if_pos hz])
        rw [hz] at c0
        clear hz P
        go_wp2_with fail
        go_roundw
        case rel => exact ⟨k + 1, by omega, by go_num, by rw [T.out], by trivial⟩
        case measure => simp [intOf] <;> omega
      · have T := Lib.hid (show trimN ns (k + 1) = k + 1 by rw [trimN_succ, if_neg hz])
        obtain ⟨u, hu⟩ : ∃ u, ns.getD k 0 = u := ⟨_, rfl⟩
        rw [hu] at c0 P hz
        clear hu
        have hu0 : 0 < u := by omega
        clear hz P
        go_wp2_with fail
        go_roundw
        case rel => exact ⟨k + 1, by omega, by go_num, by rw [T.out]; go_num, by trivial⟩
        case measure => simp [intOf] <;> omega
    · have hkk : k = 256 := by omega
      obtain ⟨L, hL⟩ : ∃ L, trimN ns k = L := ⟨_, rfl⟩
      have hLe : L ≤ 256 := by rw [← hL, ← hkk]; exact trimN_le ns k
      have T := Lib.hid (show trim ns = ns.take L by unfold trim; rw [hlen, ← hkk, hL])
      rw [hL]
      have hge : (256 : Int) ≤ k := by omega
      clear hL hkk hlt
      go_wp2_with fail
      go_loopw [5, 6] (fun v i w2 => ∃ k : Nat, k ≤ L ∧ i = .int .i64 k ∧ w2.ownsRow w.heap.size 3 1 v k (ints (ns.take k)) ∧ Below w.heap.size w w2) (fun _ i _ => L - (intOf i).toNat)
      case atStart => exact ⟨0, by omega, rfl, World.ownsRow_nil _ _ _ _, Below.refl _ _⟩
      case round =>
        obtain ⟨k, hk, rfl, hown, hb⟩ := hrel
        by_cases hlt : k < L
        · have hlt' : (k : Int) < (L : Int) := by omega
          have hk256 : (k : Int) < 256 := by omega
          have c00 := HF.out k (by omega)
          have c0 := (hb.cell (p := ⟨b, o + k, none⟩) (block_lt_of_cell c00)).trans c00
          have G := Lib.hid (show ns.take (k + 1) = ns.take k ++ [ns.getD k 0] by
            rw [List.take_add_one]; simp [List.getD, show k < ns.length by omega])
          obtain ⟨u, hu⟩ : ∃ u, ns.getD k 0 = u := ⟨_, rfl⟩
          rw [hu] at c0
          have U := Lib.hid hu
          clear hu c00
          go_wp2_with (at_builtin; refine wpList_append_own _ rfl _ _ 46 rfl w.heap.size 3 i0 (.int .i64 0) 1 8 Try.underlying46 hi hz0 hz1 hz2 rfl (by decide) _ _ _ rfl (show World.ownsRow _ _ _ _ _ _ _ from hown.alloc _) ⟨wr.heap.size, 0, none⟩ 1 1 [.int .i64 u] rfl rfl ?c1 ?c2 ?c3 ?c4 ?c5 ?_)
          case c1 =>
            intro j u hj
            match j, hj with
            | 0, hj => simp at hj; subst hj; exact cell_newS wr _ _
          case c2 => intro u hu; simp at hu; subst hu; rfl
          case c3 => unfold maxLen; omega
          case c4 => omega
          case c5 => have := hb.size; simp; omega
          · intro v' w1 hown' hgrow _
            have hb' : Below w.heap.size w w1 := (hb.alloc hb.size _).grown hgrow (by have := hb.size; simp; omega) (fun k hk => (hown.lt k hk).1)
            have ho : w1.ownsRow w.heap.size 3 1 v' (k + 1) (ints (ns.take (k + 1))) := by
              rw [G.out, U.out, ints_append]; exact hown'
            clear hown' hgrow hown hb
            go_wp2
            go_roundw
            case rel => exact ⟨k + 1, by omega, by go_num, ho, hb'⟩
            case measure => simp [intOf] <;> omega
        · have hkL : k = L := by omega
          subst hkL
          go_wp2
          go_ret
          exact ⟨_, rfl, by rw [T.out]; exact Src.of_owns hown, hb⟩

/-- Of block b nothing but the n cells from o on has turned; of all other old blocks nothing. -/
structure Only (b o n : Nat) (w w' : World) : Prop where
  os : w'.os = w.os
  tape : w'.tape = w.tape
  output : w'.output = w.output
  size : w.heap.size ≤ w'.heap.size
  block : ∀ i, i < w.heap.size → i ≠ b → w'.heap[i]? = w.heap[i]?
  here : ∀ (cur : Array Value) (e : TypeId), w.heap[b]? = some (Obj.cells cur e (0, 0)) → ∃ cur' : Array Value, w'.heap[b]? = some (Obj.cells cur' e (0, 0)) ∧ cur'.size = cur.size ∧ ∀ j, (j < o ∨ o + n ≤ j) → cur'[j]? = cur[j]?
theorem Only.refl (b o n : Nat) (w : World) : Only b o n w w := ⟨rfl, rfl, rfl, Nat.le_refl _, fun _ _ _ => rfl, fun cur e h => ⟨cur, h, rfl, fun _ _ => rfl⟩⟩
theorem Only.trans {b o n : Nat} {u v w : World} (h : Only b o n u v) (k : Only b o n v w) : Only b o n u w := by
  refine ⟨k.os.trans h.os, k.tape.trans h.tape, k.output.trans h.output, Nat.le_trans h.size k.size, fun i hi hb => (k.block i (Nat.lt_of_lt_of_le hi h.size) hb).trans (h.block i hi hb), fun cur e hc => ?_⟩
  obtain ⟨c1, h1, s1, e1⟩ := h.here cur e hc
  obtain ⟨c2, h2, s2, e2⟩ := k.here c1 e h1
  exact ⟨c2, h2, s2.trans s1, fun j hj => (e2 j hj).trans (e1 j hj)⟩
theorem Only.of_below {b o n : Nat} {w w' : World} (hB : Below w.heap.size w w') : Only b o n w w' :=
  ⟨hB.os, hB.tape, hB.output, hB.size, fun i hi _ => hB.block i hi, fun cur e h => ⟨cur, (hB.block b (lt_of_heap h)).trans h, rfl, fun _ _ => rfl⟩⟩
theorem Only.of_set {b o n t : Nat} {w : World} (v : Value) (ht : t < n) : Only b o n w (w.setCell ⟨b, o + t, none⟩ v) := by
  refine ⟨rfl, rfl, rfl, by simp [World.setCell], fun i _ hb => heap_setCell_other _ _ _ _ hb, fun cur e h => ⟨_, heap_setCell_same w b (o + t) _ _ _ h, by rw [Array.size_setIfInBounds], fun j hj => ?_⟩⟩
  rw [Array.getElem?_setIfInBounds]
  rw [if_neg (by omega)]
theorem Only.drew {b o n : Nat} {w w' : World} (h : Only b o n w w') : Only b o n w w'.drew := ⟨h.os, h.tape, h.output, h.size, h.block, h.here⟩

theorem RC.drawn {w : World} {b o : Nat} {ns : List Int} (h : RC w b o ns) (m : Nat) : RC (w.drewN m) b o ns := ⟨h.1, h.2.1, h.2.2⟩
theorem RC.other {w : World} {b o c q : Nat} {ns : List Int} {v : Value} (h : RC w b o ns) (hne : b ≠ c) : RC (w.setCell ⟨c, q, none⟩ v) b o ns :=
  ⟨h.1, fun i hi => by rw [World.cell?_setCell_other _ _ _ _ (by intro e; injection e with e1 e2; exact hne e1.symm)]; exact h.2.1 i hi, fun i => by rw [World.frozen?_setCell]; exact h.2.2 i⟩

/-- Of each number the greater one. -/
def maxZ (xs ys : List Int) : List Int := (List.range 256).map fun j => if xs.getD j 0 < ys.getD j 0 then ys.getD j 0 else xs.getD j 0
def RJoin (b o : Nat) (xs ys : List Int) (w : World) (r : Ending) (w' : World) : Prop :=
  ∃ zs, r = .returned (.bool (!leB ys xs)) ∧ RC w' b o zs ∧ (∀ j, j < 256 → zs.getD j 0 = max (xs.getD j 0) (ys.getD j 0)) ∧ Only b o 256 w w'

theorem rc_join (b o : Nat) (xs ys : List Int) (Y : Array Value) (hY : (ints ys).toArray = Y) (hy : ys.length = 256) (w : World) (h : RC w b o xs) :
    Calls Try.prog 17 #[.pointer (some ⟨b, o, none⟩), .agg Y] w (RJoin b o xs ys w) := by
  have hbl := h.lt
  obtain ⟨W2, hW2⟩ : ∃ W, w.alloc (.cells Y 28) = W := ⟨_, rfl⟩
  obtain ⟨R2, B2⟩ := boxed hY hy hW2
  have HR1 := Lib.hid (h.below (Nat.le_refl _) B2)
  have HR2 := Lib.hid R2
  have HB := Lib.hid B2
  have HW2 := Lib.hid hW2
  clear R2 B2 hY h
  go_enter Try.func17, Try.ntmps17
  go_wp2_with fail
  clear hW2
  go_loopw [6, 5] (fun i c wr => ∃ (k : Nat) (zs : List Int) (ch : Bool), k ≤ 256 ∧ i = .int .i64 k ∧ c = .bool ch ∧ (ch = true ↔ ¬ LeT k ys xs) ∧ (RC wr b o zs ∧ RC wr w.heap.size 0 ys) ∧ (∀ j, j < 256 → zs.getD j 0 = if j < k then max (xs.getD j 0) (ys.getD j 0) else xs.getD j 0) ∧ Only b o 256 w wr) (fun i _ _ => 256 - (intOf i).toNat)
  case atStart => exact ⟨0, xs, false, by omega, rfl, rfl, by simp [LeT], ⟨HR1.out, HR2.out⟩, fun j hj => by simp, Only.of_below HB.out⟩
  case round =>
    obtain ⟨k, zs, ch, hk, rfl, rfl, hch, ⟨hr1, hr2⟩, hz, ho⟩ := hrel
    have CH := Lib.hid hch
    have Z1 := Lib.hid hr1
    have Z2 := Lib.hid hr2
    have ZZ := Lib.hid hz
    have OO := Lib.hid ho
    clear hch hz ho
    by_cases hlt : k < 256
    · have hlt' : (k : Int) < 256 := by omega
      have c0 := hr1.2.1 k hlt
      have c1 := hr2.2.1 k hlt
      have f0 := hr1.2.2 (o + k)
      rw [Nat.zero_add] at c1
      obtain ⟨x, hx⟩ : ∃ x, zs.getD k 0 = x := ⟨_, rfl⟩
      obtain ⟨y, hy'⟩ : ∃ y, ys.getD k 0 = y := ⟨_, rfl⟩
      rw [hx] at c0
      rw [hy'] at c1
      have hxx : x = xs.getD k 0 := by rw [← hx, ZZ.out k hlt, if_neg (by omega)]
      have XX := Lib.hid hxx
      have YY := Lib.hid hy'
      clear hx hy' hxx hr1 hr2
      by_cases hxy : x < y
      · have S := Lib.hid (show ¬ LeT (k + 1) ys xs from fun h => by have := h k (by omega); rw [YY.out, ← XX.out] at this; omega)
        have hne : b ≠ w.heap.size := by omega
        go_wp2_with fail
        go_quiet (fail)
        go_wp2_with fail
        go_region_with (fail)
        all_goals go_wp2_with fail
        all_goals
          refine ⟨⟨k + 1, zs.set k y, true, by omega, by go_num, rfl, ⟨fun _ => S.out, fun _ => rfl⟩, ⟨(Z1.out.drawn _).set k hlt y, (Z2.out.drawn _).other hne.symm⟩, fun j hj => ?_, (OO.out.trans (Only.of_below (below_drewN (Below.refl _ _) _))).trans (Only.of_set _ hlt)⟩, by simp [intOf] <;> omega⟩
          have hl := Z1.out.1
          by_cases hjk : j = k
          · subst hjk
            rw [if_pos (by omega), YY.out, ← XX.out]
            simp [List.getD, hl, hlt]
            omega
          · have e : (zs.set k y).getD j 0 = zs.getD j 0 := by simp [List.getD, List.getElem?_set, show ¬ k = j from fun e => hjk e.symm]
            rw [e, ZZ.out j hj]
            by_cases hjl : j < k
            · rw [if_pos hjl, if_pos (by omega)]
            · rw [if_neg hjl, if_neg (by omega)]
      · have S := Lib.hid (show (LeT (k + 1) ys xs ↔ LeT k ys xs) from ⟨fun h j hj => h j (by omega), fun h j hj => by
          by_cases hjk : j = k
          · subst hjk; rw [YY.out, ← XX.out]; omega
          · exact h j (by omega)⟩)
        go_wp2_with fail
        go_quiet (fail)
        go_wp2_with fail
        refine ⟨⟨k + 1, zs, ch, by omega, by go_num, rfl, by rw [S.out]; exact CH.out, ⟨Z1.out.drawn _, Z2.out.drawn _⟩, fun j hj => ?_, OO.out.trans (Only.of_below (below_drewN (Below.refl _ _) _))⟩, by simp [intOf] <;> omega⟩
        rw [ZZ.out j hj]
        by_cases hjl : j < k
        · rw [if_pos hjl, if_pos (by omega)]
        · rw [if_neg hjl]
          by_cases hjk : j = k
          · subst hjk; rw [if_pos (by omega), YY.out, ← XX.out]; omega
          · rw [if_neg (by omega)]
    · have hk2 : k = 256 := by omega
      have hge : (256 : Int) ≤ k := by omega
      have S := Lib.hid (show (!leB ys xs) = ch by
        unfold leB
        rw [← hk2]
        cases hc : ch with
        | true => rw [decide_eq_false (CH.out.1 hc)]; rfl
        | false =>
          rw [decide_eq_true (Decidable.byContradiction fun h => by have := CH.out.2 h; rw [hc] at this; cases this)]; rfl)
      have ZE := Lib.hid (show ∀ j, j < 256 → zs.getD j 0 = max (xs.getD j 0) (ys.getD j 0) from fun j hj => by rw [ZZ.out j hj, if_pos (by omega)])
      clear hlt hk2
      go_wp2_with fail
      go_ret
      exact ⟨zs, by rw [S.out]; rfl, Z1.out, ZE.out, OO.out⟩

end Go.Proofs.Ytonegedenmchbaa

