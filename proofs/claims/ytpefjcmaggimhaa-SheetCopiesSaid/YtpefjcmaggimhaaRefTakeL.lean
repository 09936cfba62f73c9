
/-
  The contract of staitheref03.TakeList: what 'takeL' (NumL) says; how many bytes were taken is how many are not left.
-/
import Derived.Test.YtpefjcmaggimhaaTakeL
namespace Go.Proofs.Ytpefjcmaggimhaa
open Go.RowKit
set_option linter.unusedVariables false
set_option linter.unusedSimpArgs false
set_option maxRecDepth 100000

/-- What the reference's TakeList returns: a list of the call's own, and how many bytes it has. -/
def RTLPost (s : List UInt8) (t : List Int × List UInt8 × Int) (w : World) (r : Ending) (w' : World) : Prop :=
  ∃ v, ∃ z : Nat, r = .returned (.tuple #[.agg #[v, .int .i64 z], .int .i64 t.2.2]) ∧ w'.ownsRow w.heap.size 3 1 v t.1.length (ints t.1) ∧ Below w.heap.size w w' ∧
    (t.2.2 = 0 → z ≤ s.length ∧ t.2.1 = s.drop z)

/-- The call's own blocks in a round: the result's (b), the head's (g), the list's (g + 1). -/
structure Own3 (b g : Nat) (c at_ : Int) (ov : Value) (W : World) : Prop where
  r0 : ∃ u, W.cell? ⟨b, 0, none⟩ = some u
  r1 : ∃ u, W.cell? ⟨b, 1, none⟩ = some u
  fr0 : W.frozen? ⟨b, 0, none⟩ = false
  fr1 : W.frozen? ⟨b, 1, none⟩ = false
  h0 : W.cell? ⟨g, 0, none⟩ = some (.int .i64 c)
  o0 : W.cell? ⟨g + 1, 0, none⟩ = some ov
  o1 : W.cell? ⟨g + 1, 1, none⟩ = some (.int .i64 at_)
  fo0 : W.frozen? ⟨g + 1, 0, none⟩ = false
  fo1 : W.frozen? ⟨g + 1, 1, none⟩ = false

theorem Own3.keep {b g : Nat} {c at_ : Int} {ov : Value} {W W' : World} (h : Own3 b g c at_ ov W) (hb : b < g) (hk : ∀ k, k < g + 2 → W'.heap[k]? = W.heap[k]?) : Own3 b g c at_ ov W' := by
  have e : ∀ k o, k < g + 2 → W'.cell? ⟨k, o, none⟩ = W.cell? ⟨k, o, none⟩ := fun k o hk2 => World.cell?_of_block (hk k hk2)
  have f : ∀ k o, k < g + 2 → W'.frozen? ⟨k, o, none⟩ = W.frozen? ⟨k, o, none⟩ := fun k o hk2 => World.frozen?_of_block (hk k hk2)
  obtain ⟨a1, a2, a3, a4, a5, a6, a7, a8, a9⟩ := h
  exact ⟨by rw [e _ _ (by omega)]; exact a1, by rw [e _ _ (by omega)]; exact a2, by rw [f _ _ (by omega)]; exact a3, by rw [f _ _ (by omega)]; exact a4, by rw [e _ _ (by omega)]; exact a5,
    by rw [e _ _ (by omega)]; exact a6, by rw [e _ _ (by omega)]; exact a7, by rw [f _ _ (by omega)]; exact a8, by rw [f _ _ (by omega)]; exact a9⟩
theorem Own3.below {b g : Nat} {c at_ : Int} {ov : Value} {W W' : World} (h : Own3 b g c at_ ov W) (hb : b < g) (hk : Below W.heap.size W W') (hg : g + 2 ≤ W.heap.size) : Own3 b g c at_ ov W' :=
  h.keep hb fun k hk2 => hk.block k (by omega)
theorem Own3.grown {b g : Nat} {c at_ : Int} {ov : Value} {W W' : World} {row : Option Nat} (h : Own3 b g c at_ ov W) (hb : b < g) (hk : W.grownBy W' row) (hg : g + 2 ≤ W.heap.size) (hr : ∀ k, row = some k → g + 2 ≤ k) : Own3 b g c at_ ov W' :=
  h.keep hb fun k hk2 => hk.block k (by omega) (fun e => by have := hr k e.symm; omega)

theorem Own3.put0 {b g : Nat} {c at_ : Int} {ov : Value} {W : World} (h : Own3 b g c at_ ov W) (hb : b < g) (v : Value) : Own3 b g c at_ v (W.setCell ⟨g + 1, 0, none⟩ v) := by
  obtain ⟨⟨u0, a1⟩, ⟨u1, a2⟩, a3, a4, a5, a6, a7, a8, a9⟩ := h
  refine ⟨⟨u0, ?_⟩, ⟨u1, ?_⟩, ?_, ?_, ?_, ?_, ?_, ?_, ?_⟩
  · rw [World.cell?_setCell_other _ _ _ _ (by intro e; injection e; omega)]; exact a1
  · rw [World.cell?_setCell_other _ _ _ _ (by intro e; injection e; omega)]; exact a2
  · rw [World.frozen?_setCell]; exact a3
  · rw [World.frozen?_setCell]; exact a4
  · rw [World.cell?_setCell_other _ _ _ _ (by intro e; injection e; omega)]; exact a5
  · exact World.cell?_setCell_same _ _ _ a6
  · rw [World.cell?_setCell_other _ _ _ _ (by intro e; injection e; omega)]; exact a7
  · rw [World.frozen?_setCell]; exact a8
  · rw [World.frozen?_setCell]; exact a9
theorem Own3.put1 {b g : Nat} {c at_ n : Int} {ov : Value} {W : World} (h : Own3 b g c at_ ov W) (hb : b < g) : Own3 b g c n ov (W.setCell ⟨g + 1, 1, none⟩ (.int .i64 n)) := by
  obtain ⟨⟨u0, a1⟩, ⟨u1, a2⟩, a3, a4, a5, a6, a7, a8, a9⟩ := h
  refine ⟨⟨u0, ?_⟩, ⟨u1, ?_⟩, ?_, ?_, ?_, ?_, ?_, ?_, ?_⟩
  · rw [World.cell?_setCell_other _ _ _ _ (by intro e; injection e; omega)]; exact a1
  · rw [World.cell?_setCell_other _ _ _ _ (by intro e; injection e; omega)]; exact a2
  · rw [World.frozen?_setCell]; exact a3
  · rw [World.frozen?_setCell]; exact a4
  · rw [World.cell?_setCell_other _ _ _ _ (by intro e; injection e; omega)]; exact a5
  · rw [World.cell?_setCell_other _ _ _ _ (by intro e; injection e; omega)]; exact a6
  · exact World.cell?_setCell_same _ _ _ a7
  · rw [World.frozen?_setCell]; exact a8
  · rw [World.frozen?_setCell]; exact a9

theorem owns_shape {w : World} {base : Nat} {e : TypeId} {v : Value} {n : Nat} {xs : List Value} (h : w.ownsRow base e 1 v n xs) : ∃ ao cap, v = .slice ao n cap := by
  rcases h.2 with ⟨rfl, rfl⟩ | ⟨g, cap, cur, rfl, _⟩
  · exact ⟨_, _, rfl⟩
  · exact ⟨_, _, rfl⟩

theorem owns_mono {w : World} {base base' : Nat} {e : TypeId} {v : Value} {n : Nat} {xs : List Value} (h : w.ownsRow base e 1 v n xs) (hb : base' ≤ base) : w.ownsRow base' e 1 v n xs := by
  obtain ⟨h1, h2⟩ := h
  refine ⟨h1, ?_⟩
  rcases h2 with h2 | ⟨g, cap, cur, h3, h4, h5⟩
  · exact .inl h2
  · exact .inr ⟨g, cap, cur, h3, by omega, h5⟩
theorem owns_below {w w' : World} {base : Nat} {e : TypeId} {v : Value} {n : Nat} {xs : List Value} (h : w.ownsRow base e 1 v n xs) (hb : Below w.heap.size w w') : w'.ownsRow base e 1 v n xs := by
  obtain ⟨h1, h2⟩ := h
  refine ⟨h1, ?_⟩
  rcases h2 with h2 | ⟨g, cap, cur, h3, h4, h5, h6⟩
  · exact .inl h2
  · have hg : g < w.heap.size := by
      rcases Nat.lt_or_ge g w.heap.size with hlt | hge
      · exact hlt
      · rw [Array.getElem?_eq_none hge] at h5; cases h5
    exact .inr ⟨g, cap, cur, h3, h4, by rw [hb.block g hg]; exact h5, h6⟩

/-- In a round: k numbers are in hand, up to byte at. -/
def MidA (s : List UInt8) (c z k : Nat) (l : List Int) (a : Nat) : Prop := Mid c (s.drop z) k l (s.drop a) ∧ a ≤ s.length ∧ z ≤ s.length

theorem MidA.next {s : List UInt8} {c z k a : Nat} {l : List Int} (h : MidA s c z k l a) (hk : k < c) {x y : Nat} (ht : tak (s.drop a) = some (x, y)) : MidA s c z (k + 1) (l ++ [(x : Int)]) (a + y) := by
  obtain ⟨h1, h2, h3⟩ := h
  have hy := (tak_some ht).2.2.1
  simp at hy
  refine ⟨?_, by omega, h3⟩
  have := h1.next hk ht
  rwa [List.drop_drop] at this

set_option maxHeartbeats 4000000 in
theorem ref_takeL_any (s : List UInt8) (most : Int) (w : World) (hl : s.length ≤ 1000000) :
    Calls Try.prog 70 #[bs s, .int .i64 most] w (RTLPost s (takeL s most) w) := by
  obtain ⟨i0, hi, hz0, hz1, hz2'⟩ := info_parts info_int
  cases ht : tak s with
  | none =>
    have F := Lib.hid (RT_none ht)
    have G := Lib.hid (takeL_none (most := most) ht)
    clear ht
    go_enter Try.func70, Try.ntmps70
    go_wp2_with fail
    refine (ref_take_any s _ (by omega)).mono ?_
    rintro r w1 ⟨rfl, hb⟩
    rw [F.out.1, F.out.2]
    have hcc := (bcell hb).1
    have hff := (bcell hb).2
    have hz : w.heap.size < w1.heap.size := by have := hb.size; simp at this; omega
    simp at hcc hff
    have hb1 : Below w.heap.size w w1 := ((Below.refl _ _).alloc (Nat.le_refl _) _).trans (hb.mono (by simp))
    go_wp2
    refine bodyPost_ret (v := .tuple #[.agg #[.slice none 0 0, .int .i64 0], .int .i64 4]) (by simp [results, Try.results70, go_sem, hcc, hff, hz]) rfl ?_
    rw [G.out]
    refine ⟨_, 0, rfl, World.ownsRow_nil _ _ _ _, ?_, fun h => by simp at h⟩
    exact ((hb1.setCell (Nat.le_refl _) _).setCell (Nat.le_refl _) _).alloc (by simp; omega) _
  | some p =>
    obtain ⟨c, z⟩ := p
    have F := Lib.hid (RT_some ht)
    by_cases hm : most < (c : Int)
    · have G := Lib.hid (takeL_long ht hm)
      clear ht
      go_enter Try.func70, Try.ntmps70
      go_wp2_with fail
      refine (ref_take_any s _ (by omega)).mono ?_
      rintro r w1 ⟨rfl, hb⟩
      rw [F.out.1, F.out.2]
      have hcc := (bcell hb).1
      have hff := (bcell hb).2
      have hz : w.heap.size < w1.heap.size := by have := hb.size; simp at this; omega
      simp at hcc hff
      have hb1 : Below w.heap.size w w1 := ((Below.refl _ _).alloc (Nat.le_refl _) _).trans (hb.mono (by simp))
      go_wp2
      refine bodyPost_ret (v := .tuple #[.agg #[.slice none 0 0, .int .i64 0], .int .i64 2]) (by simp [results, Try.results70, go_sem, hcc, hff, hz]) rfl ?_
      rw [G.out]
      refine ⟨_, 0, rfl, World.ownsRow_nil _ _ _ _, ?_, fun h => by simp at h⟩
      exact ((hb1.setCell (Nat.le_refl _) _).setCell (Nat.le_refl _) _).alloc (by simp; omega) _
    · have T := Lib.hid ht
      have hc : (c : Int) ≤ 1099511627776 := by have := (tak_some ht).1; unfold mostN at this; omega
      have hzs : z ≤ s.length := (tak_some ht).2.2.1
      clear ht
      have hm2 : (c : Int) ≤ most := by omega
      clear hm
      go_enter Try.func70, Try.ntmps70
      go_wp2_with fail
      refine (ref_take_any s _ (by omega)).mono ?_
      rintro r w1 ⟨rfl, hb⟩
      rw [F.out.1, F.out.2]
      have hcc := (bcell hb).1
      have hff := (bcell hb).2
      have hz : w.heap.size < w1.heap.size := by have := hb.size; simp at this; omega
      simp at hcc hff
      have hb1 : Below w.heap.size w w1 := ((Below.refl _ _).alloc (Nat.le_refl _) _).trans (hb.mono (by simp))
      clear hb
      go_wp2_with fail
      go_loopw [9] (fun iv wr => ∃ (k : Nat) (l : List Int) (a : Nat) (ov : Value), iv = .int .i64 k ∧ MidA s c z k l a ∧ Own3 w.heap.size w1.heap.size c a ov wr ∧ wr.ownsRow (w1.heap.size + 2) 3 1 ov l.length (ints l) ∧ Below w.heap.size w wr ∧ w1.heap.size + 2 ≤ wr.heap.size) (fun iv _ => c - (intOf iv).toNat)
      case atStart =>
        refine ⟨0, [], z, .slice none 0 0, rfl, ⟨Mid.start _ _, hzs, hzs⟩, ?_, World.ownsRow_nil _ _ _ _, (hb1.alloc hb1.size _).alloc (by simp; omega) _, by simp⟩
        have hA : Below w1.heap.size w1 ((w1.alloc (.cells #[.int .i64 (c : Int), .int .i64 (z : Int)] 112)).alloc (.cells #[.slice none 0 0, .int .i64 (z : Int)] 118)) := ((Below.refl _ _).alloc (Nat.le_refl _) _).alloc (by simp) _
        refine ⟨⟨.slice none 0 0, ?_⟩, ⟨.int .i64 0, ?_⟩, ?_, ?_, by simp, by simp, by simp, by simp, by simp⟩
        · rw [hA.cell (p := ⟨w.heap.size, 0, none⟩) hz, hcc _ _ (by omega)]; simp
        · rw [hA.cell (p := ⟨w.heap.size, 1, none⟩) hz, hcc _ _ (by omega)]; simp
        · rw [hA.frozen (p := ⟨w.heap.size, 0, none⟩) hz, hff _ _ (by omega)]; simp
        · rw [hA.frozen (p := ⟨w.heap.size, 1, none⟩) hz, hff _ _ (by omega)]; simp
      case round =>
        obtain ⟨k, l, a, ov, rfl, hmid, hown3, hown, hbr, hsz⟩ := hrel
        obtain ⟨ao0, cap0, rfl⟩ := owns_shape hown
        have hk := hmid.1.1
        have hal : a ≤ s.length := hmid.2.1
        have hll : l.length ≤ 1000000 := by have := hmid.1.2.2.1; simp at this; omega
        have H := Lib.hid hmid
        clear hmid
        have O := Lib.hid hown3
        obtain ⟨⟨u0, a1⟩, ⟨u1, a2⟩, a3, a4, a5, a6, a7, a8, a9⟩ := hown3
        by_cases hlt : k < c
        · have hlt' : (k : Int) < c := by omega
          clear hcc hff
          cases hq : tak (s.drop a) with
          | none =>
            have Q := Lib.hid (RT_none hq)
            have G := Lib.hid (takeL_bad T.out (show ¬ most < (c : Int) by omega) (H.out.1.fails hlt hq))
            clear hq
            go_wp2_with fail
            refine (ref_take_any _ _ (by simp; omega)).mono ?_
            rintro r w2 ⟨rfl, hb2⟩
            rw [Q.out.1, Q.out.2]
            have O2 := O.out.below hz hb2 hsz
            have hb3 := hbr.trans (hb2.mono hbr.size)
            have hz2 := hb2.size
            have hz3 : w.heap.size < w2.heap.size := by omega
            have hz4 : w1.heap.size + 1 < w2.heap.size := by omega
            have hz5 : w1.heap.size < w2.heap.size := by omega
            obtain ⟨⟨v0, b1⟩, ⟨v1, b2⟩, b3, b4, b5, b6, b7, b8, b9⟩ := O2
            clear a1 a2 a3 a4 a5 a6 a7 a8 a9 O hb2
            go_wp2
            refine bodyPost_ret (v := .tuple #[.agg #[.slice none 0 0, .int .i64 0], .int .i64 4]) (by simp [results, Try.results70, go_sem, *]) rfl ?_
            rw [G.out]
            refine ⟨_, 0, rfl, World.ownsRow_nil _ _ _ _, ?_, fun h => by simp at h⟩
            exact ((hb3.setCell (Nat.le_refl _) _).setCell (Nat.le_refl _) _).alloc (by simp; omega) _
          | some p =>
            obtain ⟨x, y⟩ := p
            have Q := Lib.hid (RT_some hq)
            have N := Lib.hid (H.out.next hlt hq)
            have hy : y ≤ s.length := by have := (tak_some hq).2.2.1; simp at this; omega
            clear hq
            go_wp2_with fail
            refine (ref_take_any _ _ (by simp; omega)).mono ?_
            rintro r w2 ⟨rfl, hb2⟩
            rw [Q.out.1, Q.out.2]
            have O2 := O.out.below hz hb2 hsz
            have P := Lib.hid O2
            have hb3 := hbr.trans (hb2.mono hbr.size)
            have hz2 := hb2.size
            have hown2 := owns_below hown hb2
            have hz3 : w.heap.size < w2.heap.size := by omega
            have hz4 : w1.heap.size + 1 < w2.heap.size := by omega
            have hz5 : w1.heap.size < w2.heap.size := by omega
            obtain ⟨⟨v0, b1⟩, ⟨v1, b2⟩, b3, b4, b5, b6, b7, b8, b9⟩ := O2
            clear a1 a2 a3 a4 a5 a6 a7 a8 a9 O hb2 hown
            go_wp2_with (at_builtin; refine wpList_append_own _ rfl _ _ 23 rfl (w1.heap.size + 2) 3 i0 (.int .i64 0) 1 8 Try.underlying23 hi hz0 hz1 hz2' rfl (by decide) _ _ _ rfl ((hown2.alloc _).alloc _) ⟨w2.heap.size + 1, 0, none⟩ 1 1 [.int .i64 (x : Int)] rfl rfl ?c1 ?c2 ?c3 ?c4 ?c5 ?_)
            case c1 =>
              intro j u hj
              match j, hj with
              | 0, hj => simp at hj; subst hj; simp [Addr.add]
            case c2 => intro u hu; simp at hu; subst hu; rfl
            case c3 => unfold maxLen; omega
            case c4 => omega
            case c5 => simp; omega
            · intro v' w3 hown' hgrow _
              obtain ⟨ao, cap, hv'⟩ := owns_shape hown'
              rw [hv']
              have O3 := (P.out.below hz ((((Below.refl _ _).alloc (Nat.le_refl _) _).alloc (by simp) _)) (by omega)).grown hz hgrow (by simp; omega) (fun k hk => (hown2.lt k hk).1)
              have hb4 : Below w.heap.size w w3 := ((hb3.alloc hb3.size _).alloc (by have := hb3.size; simp; omega) _).grown hgrow (by simp; omega) (fun k hk => by have := (hown2.lt k hk).1; omega)
              have hz6 := hgrow.size
              simp at hz6
              have hnot : ∀ o, some (⟨w2.heap.size, o, none⟩ : Addr).block ≠ (Value.slice ao0 l.length cap0).ownBlock := fun o e => by
                have := (hown2.lt _ e.symm).2
                simp at this
              have n0 : w3.cell? ⟨w2.heap.size, 0, none⟩ = some (.int .i64 (x : Int)) := hgrow.cell (by simp) (hnot 0)
              have n1 : w3.cell? ⟨w2.heap.size, 1, none⟩ = some (.int .i64 (y : Int)) := hgrow.cell (by simp) (hnot 1)
              have ho : w3.ownsRow (w1.heap.size + 2) 3 1 (.slice ao (l.length + 1) cap) (l ++ [(x : Int)]).length (ints (l ++ [(x : Int)])) := by
                rw [hv'] at hown'
                simpa [ints] using hown'
              have PP := Lib.hid O3
              obtain ⟨⟨q0, d1⟩, ⟨q1, d2⟩, d3, d4, d5, d6, d7, d8, d9⟩ := O3
              have HO := Lib.hid ho
              clear hown' hgrow hown2 hv' P b1 b2 b3 b4 b5 b6 b7 b8 b9 ho hnot
              go_wp2
              go_roundw
              case rel =>
                have hx : w.heap.size ≤ w1.heap.size + 1 := by omega
                refine ⟨k + 1, _, a + y, _, by go_num, N.out, ?_, ownsRow_setCell_below (ownsRow_setCell_below HO.out (by show w1.heap.size + 1 < w1.heap.size + 2; omega) _) (by show w1.heap.size + 1 < w1.heap.size + 2; omega) _, (hb4.setCell hx _).setCell hx _, by simp; omega⟩
                exact (PP.out.put0 hz _).put1 hz
              case measure => simp [intOf]; omega
        · have hkc : k = c := by omega
          subst hkc
          have G := Lib.hid (takeL_ok T.out (show ¬ most < (k : Int) by omega) H.out.1.ends)
          go_wp2
          refine bodyPost_ret (v := .tuple #[.agg #[.slice ao0 l.length cap0, .int .i64 a], .int .i64 0]) (by simp [results, Try.results70, go_sem, *]) rfl ?_
          rw [G.out]
          refine ⟨_, a, rfl, ?_, ?_, fun _ => ⟨hal, rfl⟩⟩
          · exact owns_mono (ownsRow_setCell_below (ownsRow_setCell_below hown (by show w.heap.size < _; omega) _) (by show w.heap.size < _; omega) _) (by omega)
          · exact ((hbr.setCell (Nat.le_refl _) _).setCell (Nat.le_refl _) _)

end Go.Proofs.Ytpefjcmaggimhaa

