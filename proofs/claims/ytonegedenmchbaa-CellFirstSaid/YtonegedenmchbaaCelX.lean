
/-
  CellFirst: four clocks of the reference in one block; rows of accesses and of bools.
-/
import Derived.Test.YtonegedenmchbaaCelV
import Derived.Test.YtonegedenmchbaaCelS
import Derived.Test.YtonegedenmchbaaKeep
namespace Go.Proofs.Ytonegedenmchbaa
open Go.RowKit
set_option linter.unusedVariables false
set_option linter.unusedSimpArgs false
set_option maxRecDepth 100000

/-! ### Four clocks -/
structure C4 (w : World) (b : Nat) (ns : Nat → List Int) : Prop where
  rc : ∀ g, g < 4 → RC w b (g * 256) (ns g)
  ty : ∃ cur, w.heap[b]? = some (Obj.cells cur 29 (0, 0))
theorem C4.lt {w : World} {b : Nat} {ns : Nat → List Int} (h : C4 w b ns) : b < w.heap.size := (h.rc 0 (by omega)).lt
theorem C4.keep {w w' : World} {b : Nat} {ns : Nat → List Int} (h : C4 w b ns) (hk : KeepT 29 w w') : C4 w' b ns := by
  obtain ⟨cur, hc⟩ := h.ty
  have e := hk b _ _ hc
  refine ⟨fun g hg => ?_, cur, e.trans hc⟩
  obtain ⟨h1, h2, h3⟩ := h.rc g hg
  exact ⟨h1, fun i hi => (World.cell?_of_block e).trans (h2 i hi), fun i => by have := h3 i; simp only [World.frozen?, e] at this ⊢; exact this⟩
theorem C4.below {w w' : World} {b : Nat} {ns : Nat → List Int} (h : C4 w b ns) (hB : Below w.heap.size w w') : C4 w' b ns := h.keep (keepT_below hB)
def upC (ns : Nat → List Int) (g : Nat) (zs : List Int) : Nat → List Int := fun i => if i = g then zs else ns i
theorem C4.only {w w' : World} {b g : Nat} {ns : Nat → List Int} {zs : List Int} (h : C4 w b ns) (hg : g < 4) (ho : Only b (g * 256) 256 w w') (hr : RC w' b (g * 256) zs) : C4 w' b (upC ns g zs) := by
  obtain ⟨cur, hc⟩ := h.ty
  obtain ⟨cur', h1, h2, h3⟩ := ho.here cur _ hc
  refine ⟨fun i hi => ?_, cur', h1⟩
  by_cases hig : i = g
  · subst hig; unfold upC; rw [if_pos rfl]; exact hr
  · unfold upC; rw [if_neg hig]
    obtain ⟨k1, k2, k3⟩ := h.rc i hi
    refine ⟨k1, fun j hj => ?_, hr.2.2⟩
    have k4 := k2 j hj
    simp only [World.cell?, hc] at k4
    have k5 := h3 (i * 256 + j) (by omega)
    simp only [World.cell?, h1]
    have k6 : cur[i * 256 + j]? = some (.int .i64 ((ns i).getD j 0)) := by simpa using k4
    rw [← k5] at k6
    simpa using k6
theorem keepT_only {e : TypeId} {w w' : World} {b o n : Nat} {ns : Nat → List Int} (h : C4 w b ns) (ho : Only b o n w w') (hne : e ≠ 29) : KeepT e w w' := fun i cur fz hi => by
  refine ho.block i (lt_of_heap hi) ?_
  rintro rfl
  obtain ⟨cur', hc⟩ := h.ty
  rw [hc] at hi
  have := Option.some.inj hi
  injection this with e1 e2
  exact hne e2.symm
theorem keepT_cell {e : TypeId} {B : Nat} {w w' : World} {b : Nat} {x : Int} {l : List Int} {tl : Bool} (h : Ce B w b x l tl) (ht : Turned (fun i => i = b) w w') (hne : e ≠ 74) : KeepT e w w' := fun i cur fz hi => by
  refine ht.block i (lt_of_heap hi) ?_
  rintro rfl
  obtain ⟨⟨v, h1⟩, _⟩ := h
  rw [h1.blk] at hi
  have := Option.some.inj hi
  injection this with e1 e2
  exact hne e2.symm
theorem Ce.keep {B : Nat} {w w' : World} {b : Nat} {x : Int} {l : List Int} {tl : Bool} (h : Ce B w b x l tl) (h1 : KeepT 74 w w') (h2 : KeepT 39 w w') (hs : w.heap.size ≤ w'.heap.size) : Ce B w' b x l tl := by
  obtain ⟨⟨v, k1⟩, k2, k3⟩ := h
  exact ⟨⟨v, ⟨(h1 b _ _ k1.blk).trans k1.blk, k1.low, ownsRow_keep k1.row h2⟩⟩, k2, Nat.le_trans k3 hs⟩
def zeros4 : List Int := List.replicate 1024 0
theorem getD_rep (n i : Nat) : (List.replicate n (0 : Int)).getD i 0 = 0 := by
  by_cases h : i < n <;> simp [List.getD, List.getElem?_replicate, h]
theorem info29 : (Try.prog.info? 29).map (fun i => (i.zero, i.size)) = some (some (.agg (ints zeros4).toArray), 1024) := by kernel_rfl
theorem c4_new {w : World} {Z : Array Value} (hZ : (ints zeros4).toArray = Z) : C4 (w.alloc (.cells Z 29)) w.heap.size (fun _ => zeros) := by
  subst hZ
  refine ⟨fun g hg => ⟨rfl, fun i hi => ?_, fun i => by simp only [World.frozen?, heap_alloc_new]; simp⟩, _, heap_alloc_new w _⟩
  have h1 : (ints zeros4)[g * 256 + i]? = some (.int .i64 (zeros4.getD (g * 256 + i) 0)) := getElem?_ints zeros4 _ (by simp [zeros4]; omega)
  have h2 : zeros4.getD (g * 256 + i) 0 = 0 := getD_rep 1024 _
  have h3 : zeros.getD i 0 = 0 := getD_rep 256 _
  simp only [World.cell?, heap_alloc_new]
  rw [h3]
  rw [h2] at h1
  simpa using h1
/-- The numbers of the four clocks. -/
def cN (ns : Nat → List Int) (g t : Nat) : Int := (ns g).getD t 0
theorem at0_cN (ns : Nat → List Int) (g : Nat) (t : Nat) : at0 (ns g) t = cN ns g t := at0_nat (ns g) t

/-! ### What was done, as rows -/
def accL (d : Ac) : List Value := [.int .i64 d.g, .int .i64 d.n, .bool false, .bool false]
def accs (D : List Ac) : List Value := D.flatMap accL
def wrs (D : List Ac) : List Value := D.map (fun d => .bool d.wr)
theorem accs_len (D : List Ac) : (accs D).length = D.length * 4 := by
  induction D with
  | nil => rfl
  | cons d D ih =>
    show (accL d ++ accs D).length = _
    rw [List.length_append, ih, List.length_cons]
    show 4 + _ = _
    omega
theorem accs_snoc (D : List Ac) (d : Ac) : accs (D ++ [d]) = accs D ++ accL d := by simp [accs]
theorem wrs_snoc (D : List Ac) (d : Ac) : wrs (D ++ [d]) = wrs D ++ [.bool d.wr] := by simp [wrs]
theorem accs_at : ∀ (D : List Ac) (i : Nat) (hi : i < D.length) (c : Nat), c < 4 → (accs D)[i * 4 + c]? = (accL D[i])[c]?
  | [], i, h, c, hc => by simp at h
  | d :: D, 0, h, c, hc => by
    show (accL d ++ accs D)[0 * 4 + c]? = _
    rw [List.getElem?_append_left (by show 0 * 4 + c < 4; omega)]
    simp
  | d :: D, i + 1, h, c, hc => by
    show (accL d ++ accs D)[(i + 1) * 4 + c]? = _
    rw [List.getElem?_append_right (by show 4 ≤ _; omega), show (i + 1) * 4 + c - (accL d).length = i * 4 + c by show (i + 1) * 4 + c - 4 = _; omega, accs_at D i (by simpa using h) c hc]
    simp
theorem accs1 (D : List Ac) : ∀ u ∈ accs D, u.oneCell' = true := by
  intro u hu
  simp only [accs, List.mem_flatMap] at hu
  obtain ⟨r, _, hu⟩ := hu
  simp [accL] at hu
  rcases hu with rfl | rfl | rfl <;> rfl
theorem acc_info : (Try.prog.info? 37).map (fun i => (i.zero, i.size, i.bytes)) = some (some (.agg #[.int .i64 0, .int .i64 0, .bool false, .bool false]), 4, 24) := by kernel_rfl
theorem bool_info : (Try.prog.info? 4).map (fun i => (i.zero, i.size, i.bytes)) = some (some (.bool false), 1, 1) := by kernel_rfl
/-- The two rows of what was done. -/
structure Dn (B : Nat) (w : World) (v6 v7 : Value) (D : List Ac) : Prop where
  a : w.ownsRow B 37 4 v6 D.length (accs D)
  b : w.ownsRow B 4 1 v7 D.length (wrs D)
theorem Dn.keep {B : Nat} {w w' : World} {v6 v7 : Value} {D : List Ac} (h : Dn B w v6 v7 D) (h1 : KeepT 37 w w') (h2 : KeepT 4 w w') : Dn B w' v6 v7 D := ⟨ownsRow_keep h.a h1, ownsRow_keep h.b h2⟩
theorem Dn.below {B : Nat} {w w' : World} {v6 v7 : Value} {D : List Ac} (h : Dn B w v6 v7 D) (hB : Below w.heap.size w w') : Dn B w' v6 v7 D := h.keep (keepT_below hB) (keepT_below hB)
theorem Dn.shape {B : Nat} {w : World} {v6 v7 : Value} {D : List Ac} (h : Dn B w v6 v7 D) : (∃ ao cap, v6 = .slice ao D.length cap) ∧ ∃ ao cap, v7 = .slice ao D.length cap := by
  constructor
  · rcases h.a.2 with ⟨rfl, h0⟩ | ⟨g, cap, cur, rfl, _⟩
    · exact ⟨_, _, by rw [h0]⟩
    · exact ⟨_, _, rfl⟩
  · rcases h.b.2 with ⟨rfl, h0⟩ | ⟨g, cap, cur, rfl, _⟩
    · exact ⟨_, _, by rw [h0]⟩
    · exact ⟨_, _, rfl⟩
theorem Dn.at' {B : Nat} {w : World} {v6 v7 : Value} {D : List Ac} (h : Dn B w v6 v7 D) (i : Nat) (hi : i < D.length) :
    ∃ g6 c6 g7 c7, v6 = .slice (some ⟨g6, 0, none⟩) D.length c6 ∧ v7 = .slice (some ⟨g7, 0, none⟩) D.length c7 ∧ w.cell? ⟨g6, i * 4, none⟩ = some (.int .i64 D[i].g) ∧ w.cell? ⟨g6, i * 4 + 1, none⟩ = some (.int .i64 D[i].n) ∧ w.cell? ⟨g6, i * 4 + 2, none⟩ = some (.bool false) ∧ w.cell? ⟨g6, i * 4 + 3, none⟩ = some (.bool false) ∧ w.cell? ⟨g7, i, none⟩ = some (.bool D[i].wr) := by
  rcases h.a.2 with ⟨_, h0⟩ | ⟨g6, c6, cur6, rfl, _, hg6, _⟩
  · omega
  rcases h.b.2 with ⟨_, h0⟩ | ⟨g7, c7, cur7, rfl, _, hg7, _⟩
  · omega
  have key : ∀ c u, c < 4 → (accL D[i])[c]? = some u → w.cell? ⟨g6, i * 4 + c, none⟩ = some u := fun c u hc hu => by
    have := h.a.cells (g := g6) rfl (i * 4 + c) u (by rw [accs_at D i hi c hc]; exact hu)
    rw [Go.WideShapes.add_plain, Nat.zero_add] at this
    exact this
  have kb : w.cell? ⟨g7, i, none⟩ = some (.bool D[i].wr) := by
    have := h.b.cells (g := g7) rfl i (.bool D[i].wr) (by simp [wrs, hi])
    rw [Go.WideShapes.add_plain, Nat.zero_add] at this
    exact this
  exact ⟨g6, c6, g7, c7, rfl, rfl, key 0 _ (by omega) rfl, key 1 _ (by omega) rfl, key 2 _ (by omega) rfl, key 3 _ (by omega) rfl, kb⟩
end Go.Proofs.Ytonegedenmchbaa

