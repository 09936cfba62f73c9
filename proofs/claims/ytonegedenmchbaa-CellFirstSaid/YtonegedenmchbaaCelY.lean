
/-
  CellFirst: what stands together in a round; what an append, a join, a tick leave of it.
-/
import Derived.Test.YtonegedenmchbaaCelX
namespace Go.Proofs.Ytonegedenmchbaa
open Go.RowKit
set_option linter.unusedVariables false
set_option linter.unusedSimpArgs false
set_option maxRecDepth 100000

structure Sta (w0 : World) (b cb q : Nat) (qv : Array Value) (ns : Nat → List Int) (x : Int) (l : List Int) (w : World) : Prop where
  f : C4 w cb ns
  c : Ce w0.heap.size w b x l false
  q : w.heap[q]? = some (.cells qv 34 (0, 0))
  b : Below w0.heap.size w0 w
theorem Sta.keep {w0 w w' : World} {b cb q : Nat} {qv : Array Value} {ns : Nat → List Int} {x : Int} {l : List Int} (h : Sta w0 b cb q qv ns x l w) (h1 : KeepT 29 w w') (h2 : KeepT 74 w w') (h3 : KeepT 39 w w') (h4 : KeepT 34 w w') (hs : w.heap.size ≤ w'.heap.size) (hB : Below w0.heap.size w0 w') : Sta w0 b cb q qv ns x l w' :=
  ⟨h.f.keep h1, h.c.keep h2 h3 hs, (h4 _ _ _ h.q).trans h.q, hB⟩
theorem Sta.drew {w0 w : World} {b cb q : Nat} {qv : Array Value} {ns : Nat → List Int} {x : Int} {l : List Int} (h : Sta w0 b cb q qv ns x l w) : Sta w0 b cb q qv ns x l w.drew :=
  h.keep (fun _ _ _ _ => rfl) (fun _ _ _ _ => rfl) (fun _ _ _ _ => rfl) (fun _ _ _ _ => rfl) (Nat.le_refl _) h.b.drew
theorem put_acc {w0 w w' : World} {b cb q : Nat} {qv : Array Value} {ns : Nat → List Int} {x : Int} {l : List Int} {v6 v7 v' : Value} {D : List Ac} {d : Ac} {n : Nat} {o : Obj} (h : Sta w0 b cb q qv ns x l w) (hd : Dn w0.heap.size w v6 v7 D) (hn : D.length = n)
    (hr1 : w'.ownsRow w0.heap.size 37 4 v' (n + 1) (accs D ++ accL d)) (hr2 : (w.alloc o).grownBy w' v6.ownBlock) :
    Sta w0 b cb q qv ns x l w' ∧ w'.ownsRow w0.heap.size 37 4 v' (n + 1) (accs (D ++ [d])) ∧ w'.ownsRow w0.heap.size 4 1 v7 n (wrs D) := by
  have hb : Below w.heap.size w (w.alloc o) := (Below.refl _ _).alloc (Nat.le_refl _) _
  have ha := ownsRow_keep hd.a (keepT_below hb)
  have hk : ∀ e, e ≠ 37 → KeepT e w w' := fun e he => (keepT_below hb).trans (keepT_grown ha hr2 he)
  have hB : Below w0.heap.size w0 w' := (h.b.alloc h.b.size _).grown hr2 (by have := h.b.size; rw [size_alloc]; omega) (fun k hk => (ha.lt k hk).1)
  subst hn
  exact ⟨h.keep (hk _ (by decide)) (hk _ (by decide)) (hk _ (by decide)) (hk _ (by decide)) (Nat.le_trans hb.size hr2.size) hB, by rw [accs_snoc]; exact hr1, ownsRow_keep hd.b (hk _ (by decide))⟩
theorem put_wr {w0 w w' : World} {b cb q : Nat} {qv : Array Value} {ns : Nat → List Int} {x : Int} {l : List Int} {v6 v7 v' : Value} {D : List Ac} {d : Ac} {n : Nat} {o : Obj} (h : Sta w0 b cb q qv ns x l w) (hn : D.length = n)
    (ha : w.ownsRow w0.heap.size 37 4 v6 (n + 1) (accs (D ++ [d]))) (hb7 : w.ownsRow w0.heap.size 4 1 v7 n (wrs D))
    (hr1 : w'.ownsRow w0.heap.size 4 1 v' (n + 1) (wrs D ++ [.bool d.wr])) (hr2 : (w.alloc o).grownBy w' v7.ownBlock) :
    Sta w0 b cb q qv ns x l w' ∧ Dn w0.heap.size w' v6 v' (D ++ [d]) := by
  have hb : Below w.heap.size w (w.alloc o) := (Below.refl _ _).alloc (Nat.le_refl _) _
  have hb' := ownsRow_keep hb7 (keepT_below hb)
  have hk : ∀ e, e ≠ 4 → KeepT e w w' := fun e he => (keepT_below hb).trans (keepT_grown hb' hr2 he)
  have hB : Below w0.heap.size w0 w' := (h.b.alloc h.b.size _).grown hr2 (by have := h.b.size; rw [size_alloc]; omega) (fun k hk => (hb'.lt k hk).1)
  subst hn
  refine ⟨h.keep (hk _ (by decide)) (hk _ (by decide)) (hk _ (by decide)) (hk _ (by decide)) (Nat.le_trans hb.size hr2.size) hB, ?_, ?_⟩
  · rw [List.length_append]; exact ownsRow_keep ha (hk _ (by decide))
  · rw [List.length_append, wrs_snoc]; exact hr1
theorem Sta.only {w0 w w' : World} {b cb q g : Nat} {qv : Array Value} {ns : Nat → List Int} {zs : List Int} {x : Int} {l : List Int} (h : Sta w0 b cb q qv ns x l w) (hcb : w0.heap.size ≤ cb) (hg : g < 4) (ho : Only cb (g * 256) 256 w w') (hr : RC w' cb (g * 256) zs) : Sta w0 b cb q qv (upC ns g zs) x l w' :=
  ⟨h.f.only hg ho hr, h.c.keep (keepT_only h.f ho (by decide)) (keepT_only h.f ho (by decide)) ho.size, (keepT_only h.f ho (by decide) _ _ _ h.q).trans h.q, below_turned h.b (only_turned ho) (Nat.le_refl _) (fun i hi => by have : i = cb := hi; omega)⟩
theorem Dn.only {w w' : World} {B cb g : Nat} {ns : Nat → List Int} {v6 v7 : Value} {D : List Ac} (h : Dn B w v6 v7 D) (hf : C4 w cb ns) (ho : Only cb (g * 256) 256 w w') : Dn B w' v6 v7 D :=
  h.keep (keepT_only hf ho (by decide)) (keepT_only hf ho (by decide))
theorem Dn.drew {w : World} {B : Nat} {v6 v7 : Value} {D : List Ac} (h : Dn B w v6 v7 D) : Dn B w.drew v6 v7 D := h.keep (fun _ _ _ _ => rfl) (fun _ _ _ _ => rfl)
theorem join_same {zs ys : List Int} (h1 : zs.length = 256) (h2 : ys.length = 256) (h : ∀ j, j < 256 → zs.getD j 0 = max (ys.getD j 0) (ys.getD j 0)) : zs = ys := by
  refine List.ext_getElem (by omega) fun i hi hi' => ?_
  have := h i (by omega)
  rw [List.getD_eq_getElem?_getD, List.getD_eq_getElem?_getD, List.getElem?_eq_getElem hi, List.getElem?_eq_getElem hi'] at this
  simpa using this
theorem upC_at (ns : Nat → List Int) (g : Nat) (zs : List Int) : upC ns g zs g = zs := by unfold upC; rw [if_pos rfl]
theorem upC_ne (ns : Nat → List Int) {g i : Nat} (zs : List Int) (h : i ≠ g) : upC ns g zs i = ns i := by unfold upC; rw [if_neg h]
/-- Of whom is told stays as it was. -/
theorem upC_told {ns : Nat → List Int} {G T : Nat} {zs : List Int} (hG : (ns G).length = 256) (hz : zs.length = 256) (hm : ∀ j, j < 256 → zs.getD j 0 = max ((ns T).getD j 0) ((ns G).getD j 0)) : upC ns T zs G = ns G := by
  by_cases h : G = T
  · subst h; rw [upC_at]; exact join_same hz hG hm
  · exact upC_ne _ _ h
theorem getD_beyond {l : List Int} {t : Nat} (h : l.length ≤ t) : l.getD t 0 = 0 := by simp [List.getD, List.getElem?_eq_none h]
theorem tell_cN {ns : Nat → List Int} {C : Nat → Nat → Int} {G T : Nat} {zs : List Int} (hl : ∀ g, g < 4 → (ns g).length = 256) (hz : zs.length = 256) (hG : G < 4) (hT : T < 4) (hcn : ∀ g t, g < 4 → cN ns g t = C g t) (hm : ∀ j, j < 256 → zs.getD j 0 = max ((ns T).getD j 0) ((ns G).getD j 0)) :
    ∀ g t, g < 4 → cN (upC (upC ns T zs) G ((ns G).set G (C G G + 1))) g t = tell C G T g t := by
  intro g t hg
  unfold tell
  by_cases h1 : g = G
  · subst h1
    rw [if_pos rfl]
    unfold cN
    rw [upC_at, getD_set256 (hl g hg) (by omega)]
    by_cases h2 : t = g
    · rw [if_pos h2, if_pos h2]
    · rw [if_neg h2, if_neg h2]; exact hcn g t hg
  · rw [if_neg h1]
    unfold cN
    rw [upC_ne _ _ h1]
    by_cases h2 : g = T
    · subst h2
      rw [if_pos rfl, upC_at]
      have e1 : (ns g).getD t 0 = C g t := hcn g t hg
      have e2 : (ns G).getD t 0 = C G t := hcn G t hG
      by_cases h3 : t < 256
      · rw [hm t h3, e1, e2]
      · rw [← e1, ← e2, getD_beyond (by omega), getD_beyond (by rw [hl g hg]; omega), getD_beyond (by rw [hl G hG]; omega)]
        rfl
    · rw [if_neg h2, upC_ne _ _ h2]
      exact hcn g t hg
end Go.Proofs.Ytonegedenmchbaa

