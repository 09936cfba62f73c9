
/-
  Package cell: rows of epochs; slices.Clone; which blocks turn.
-/
import Derived.Test.YtkcnbkdpjlpppaaCelA
import Derived.Laws.IdiomCopy
namespace Go.Proofs.Ytkcnbkdpjlpppaa
open Go.RowKit
set_option linter.unusedVariables false
set_option linter.unusedSimpArgs false
set_option maxRecDepth 100000

def eps (l : List Int) : List Value := l.map (Value.int .u64)
theorem eps_len (l : List Int) : (eps l).length = l.length := by simp [eps]
theorem eps_append (l m : List Int) : eps (l ++ m) = eps l ++ eps m := by simp [eps]
theorem eps_get (l : List Int) (i : Nat) (h : i < l.length) : (eps l)[i]? = some (.int .u64 (l.getD i 0)) := by
  simp [eps, List.getD_eq_getElem?_getD, List.getElem?_eq_getElem h]
theorem eps_take (l : List Int) (i : Nat) : eps (l.take i) = (eps l).take i := by simp [eps, List.map_take]
theorem eps_drop (l : List Int) (i : Nat) : eps (l.drop i) = (eps l).drop i := by simp [eps, List.map_drop]
theorem eps1 (l : List Int) : ∀ u ∈ eps l, u.oneCell' = true := by
  intro u hu
  simp only [eps, List.mem_map] at hu
  obtain ⟨x, _, rfl⟩ := hu
  rfl
theorem info_ep : (Try.prog.info? 25).map (fun i => (i.zero, i.size, i.bytes)) = some (some (.int .u64 0), 1, 8) := by kernel_rfl
theorem size_ep : (Try.prog.info? 25).map (·.size) = some 1 := by kernel_rfl

/-- A slice that reads as these epochs. -/
def EpsOf (w : World) (v : Value) (l : List Int) : Prop :=
  ∃ ao cap, v = .slice ao l.length cap ∧ (ao = none → l.length = 0 ∧ cap = 0) ∧ (0 < l.length → ∃ g, ao = some ⟨g, 0, none⟩ ∧ ∀ i, i < l.length → w.cell? ⟨g, i, none⟩ = some (.int .u64 (l.getD i 0)))
theorem EpsOf.below {w w' : World} {v : Value} {l : List Int} (h : EpsOf w v l) (hB : Below w.heap.size w w') : EpsOf w' v l := by
  obtain ⟨ao, cap, rfl, hn, hc⟩ := h
  refine ⟨ao, cap, rfl, hn, fun hp => ?_⟩
  obtain ⟨g, rfl, h1⟩ := hc hp
  exact ⟨g, rfl, fun i hi => (hB.cell (p := ⟨g, i, none⟩) (block_lt_of_cell (h1 i hi))).trans (h1 i hi)⟩
theorem eps_of_owns {w : World} {base : Nat} {e : TypeId} {v : Value} {l : List Int} (h : w.ownsRow base e 1 v l.length (eps l)) : EpsOf w v l := by
  rcases h.2 with ⟨rfl, h0⟩ | ⟨g, cap, cur, rfl, hbg, hg, hnc, hcm, hcs, htake⟩
  · exact ⟨none, 0, by rw [h0], fun _ => ⟨h0, rfl⟩, fun hp => by omega⟩
  · refine ⟨some ⟨g, 0, none⟩, cap, rfl, (fun e => by cases e), fun _ => ⟨g, rfl, fun i hi => ?_⟩⟩
    have := h.cells (g := g) rfl i _ (eps_get l i hi)
    rw [show (⟨g, 0, none⟩ : Addr).add i = ⟨g, i, none⟩ from by unfold Addr.add; split <;> simp_all] at this
    exact this
theorem owns_below {w w' : World} {base : Nat} {e : TypeId} {v : Value} {n : Nat} {us : List Value} (h : w.ownsRow base e 1 v n us) (hB : Below w.heap.size w w') : w'.ownsRow base e 1 v n us := by
  refine ⟨h.1, ?_⟩
  rcases h.2 with h2 | ⟨g, cap, cur, rfl, hbg, hg, h3⟩
  · exact .inl h2
  · exact .inr ⟨g, cap, cur, rfl, hbg, (hB.block g (lt_of_heap hg)).trans hg, h3⟩

/-- append([]Epoch{}, l...) -/
theorem wpList_clone_eps {ops : Array Oper} {rest : List Oper} {o : Oper} {a : Act} {Q : Exit → Act → World → Prop} (w W : World) (hgd : o.guard = none) (s x : Operand)
    (ho : o.op = .call { callee := .builtin .append, args := #[s, x], argTypes := #[73, 73] })
    (hW : W = w.alloc (.cells #[] 25)) (hs : a.eval s = .slice (some ⟨w.heap.size, 0, none⟩) 0 0)
    (ad : Addr) (n cap : Nat) (l : List Int) (hx : a.eval x = .slice (some ad) n cap) (hl : l.length = n)
    (hc : 0 < n → ∃ g, ad = ⟨g, 0, none⟩ ∧ ∀ j, j < n → w.cell? ⟨g, j, none⟩ = some (.int .u64 (l.getD j 0))) (hn : n ≤ 1000000)
    (h : ∀ g cap' w', w.heap.size ≤ g → n ≤ cap' → Below w.heap.size w w' → w'.ownsRow w.heap.size 25 1 (.slice (some ⟨g, 0, none⟩) n cap') n (eps l) → wpList Try.prog ops Q rest (a.put o.dst (.slice (some ⟨g, 0, none⟩) n cap')) w') :
    wpList Try.prog ops Q (o :: rest) a W := by
  subst hW
  obtain ⟨i0, hi, hz0, hz1, hz2⟩ := info_parts info_ep
  have hown : (w.alloc (.cells #[] 25)).ownsRow w.heap.size 25 1 (.slice (some ⟨w.heap.size, 0, none⟩) 0 0) 0 [] :=
    World.ownsRow_lit w #[] 0 (Nat.le_refl _) (Nat.zero_le _) rfl
  refine wpList_append_own _ hgd s x 73 ho w.heap.size 25 i0 (.int .u64 0) 1 8 Try.underlying73 hi hz0 hz1 hz2 rfl (by decide) _ 0 [] hs hown ad n cap (eps l) hx (by rw [eps_len]; omega) ?_ (eps1 l) (by unfold maxLen; omega) (by omega) (by simp) ?_
  · intro j u hj
    have hjl : j < l.length := by
      have := (List.getElem?_eq_some_iff.1 hj).1
      rwa [eps_len] at this
    obtain ⟨g, rfl, hcc⟩ := hc (by omega)
    rw [eps_get l j hjl] at hj
    have h1 := hcc j (by omega)
    have ha : (⟨g, 0, none⟩ : Addr).add j = ⟨g, j, none⟩ := by unfold Addr.add; split <;> simp_all
    rw [ha, ((Below.refl w.heap.size w).alloc (Nat.le_refl _) _).cell (p := ⟨g, j, none⟩) (block_lt_of_cell h1), h1]
    exact hj
  · intro v' w' h1 h2 h3
    simp only [Nat.zero_add, List.nil_append] at h1
    have hB : Below w.heap.size w w' := ((Below.refl _ _).alloc (Nat.le_refl _) _).grown h2 (by simp) (fun k hk => (hown.lt k hk).1)
    have h1' := h1
    rcases h1.2 with ⟨rfl, _⟩ | ⟨g, cap', cur, rfl, hg, _, hcp, _⟩
    · exact absurd (h3.1 rfl).1 (by simp)
    · exact h g cap' w' hg hcp hB h1'

/-- What slices.Clone answers: a row of its own. -/
def ClonePost (l : List Int) (w : World) (e : Ending) (w' : World) : Prop := ∃ v, e = .returned v ∧ w'.ownsRow w.heap.size 25 1 v l.length (eps l) ∧ Below w.heap.size w w'
theorem clone_eps (v : Value) (l : List Int) (w : World) (h : EpsOf w v l) (hN : l.length ≤ 1000) :
    Calls Try.prog 33 #[v] w (ClonePost l w) := by
  obtain ⟨ao, cap, rfl, hno, hc⟩ := h
  have HC := Lib.hid hc
  obtain ⟨n, hn⟩ : ∃ n, l.length = n := ⟨_, rfl⟩
  rw [hn] at hN hno ⊢
  have HN := Lib.hid hn
  clear hc hn
  have q : ∀ (w : World) (a : Option Addr) (n c n' c' : Nat), (binOp .eql 73 (.slice a n c) (.slice none n' c')).run Try.prog w = .ok (.bool a.isNone) w := fun w a n c n' c' => Lib.run_eql_slice_nil w _ _ a n c n' c' Try.underlying73
  cases ao with
  | none =>
    obtain ⟨rfl, rfl⟩ := hno rfl
    go_enter Try.func33, Try.ntmps33
    go_wp2_with fail
    go_ret
    refine ⟨_, rfl, ?_, Below.refl _ _⟩
    obtain rfl := List.eq_nil_of_length_eq_zero HN.out
    exact ⟨rfl, .inl ⟨rfl, rfl⟩⟩
  | some ad =>
    have hcc : 0 < n → ∃ g, ad = ⟨g, 0, none⟩ ∧ ∀ j, j < n → w.cell? ⟨g, j, none⟩ = some (.int .u64 (l.getD j 0)) := fun hp => by
      obtain ⟨g, e, h1⟩ := HC.out (by rw [HN.out]; exact hp)
      cases e
      exact ⟨g, rfl, fun j hj => h1 j (by rw [HN.out]; exact hj)⟩
    have HCC := Lib.hid hcc
    clear hcc hno
    go_enter Try.func33, Try.ntmps33
    go_wp2_with (at_builtin; refine wpList_clone_eps w _ rfl _ _ rfl rfl rfl ad n cap l rfl HN.out HCC.out (by omega) ?_)
    intro g cap' w' h1 h2 h3 h4
    have T := Lib.hid (show ClonePost l w (.returned (.slice (some ⟨g, 0, none⟩) n cap')) w' from ⟨_, rfl, by rw [HN.out]; exact h4, h3⟩)
    clear h1 h2 h3 h4
    go_wp2_with fail
    go_ret
    exact T.out

/-! ### Which blocks turn -/
theorem turned_below {S : Nat → Prop} {w w' : World} (h : Below w.heap.size w w') : Turned S w w' := ⟨h.os, h.tape, h.output, h.size, fun i hi _ => h.block i hi⟩
theorem below_turned {B : Nat} {S : Nat → Prop} {a w w' : World} (h : Below B a w) (ht : Turned S w w') (hB : B ≤ a.heap.size) (hs : ∀ i, S i → B ≤ i) : Below B a w' :=
  ⟨ht.os.trans h.os, ht.tape.trans h.tape, ht.output.trans h.output, Nat.le_trans h.size ht.size, fun i hi => (ht.block i (Nat.lt_of_lt_of_le hi (Nat.le_trans hB h.size)) (fun hx => by have := hs i hx; omega)).trans (h.block i hi)⟩
theorem setCells_here : ∀ (vs : List Value) (o : Nat) (w : World) (g : Nat) (cur : Array Value) (t : TypeId), w.heap[g]? = some (.cells cur t (0, 0)) →
    ∃ cur', (w.setCells g o vs).heap[g]? = some (.cells cur' t (0, 0)) ∧ cur'.size = cur.size ∧ (∀ i, i < o → cur'[i]? = cur[i]?)
  | [], o, w, g, cur, t, h => ⟨cur, h, rfl, fun _ _ => rfl⟩
  | v :: vs, o, w, g, cur, t, h => by
    have h1 := heap_setCell_same w g o cur t v h
    obtain ⟨cur', a, b, c⟩ := setCells_here vs (o + 1) _ g _ t h1
    refine ⟨cur', a, by rw [b]; simp, fun i hi => ?_⟩
    rw [c i (by omega), Array.getElem?_setIfInBounds]
    rw [if_neg (by omega)]
theorem turned_setCells (w : World) (g o : Nat) (vs : List Value) : Turned (fun i => i = g) w (w.setCells g o vs) := by
  induction vs generalizing o w with
  | nil => exact Turned.refl _ _
  | cons v vs ih => exact (Turned.of_setCell ⟨g, o, none⟩ v).trans (ih _ _) (fun _ _ h => h) (fun _ _ h => h)
end Go.Proofs.Ytkcnbkdpjlpppaa

