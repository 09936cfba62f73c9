
/-
  Events as arguments, and slices of events.
-/
import Derived.Test.YtmmkdbcgkafolaaDoorEntD
import Derived.Test.YtmmkdbcgkafolaaDoorStructs
import Derived.Lib.SmallJoins
import Derived.Laws.AppendOwn
namespace Go.Proofs.YtmmkdbcgkafolaaDoor
open Go.RowKit Go.ChangeShapes Go.WideShapes Go.Deep Go.Joins
set_option linter.unusedVariables false
set_option linter.unusedSimpArgs false
set_option maxRecDepth 100000

instance : Inhabited Ev := ⟨zeroEv⟩
/-- These cells are this event. -/
structure EvC (w : World) (b o : Nat) (e : Ev) : Prop where
  c0 : w.cell? ⟨b, o, none⟩ = some (.int .i64 e.kind)
  c1 : w.cell? ⟨b, o + 1, none⟩ = some (.int .i64 e.g)
  c2 : w.cell? ⟨b, o + 2, none⟩ = some (.int .i64 e.ch)
  c3 : w.cell? ⟨b, o + 3, none⟩ = some (.int .i64 e.cs)
  c4 : w.cell? ⟨b, o + 4, none⟩ = some (.int .i64 e.va)
  c5 : w.cell? ⟨b, o + 5, none⟩ = some (.int .i64 e.ma)
  c6 : w.cell? ⟨b, o + 6, none⟩ = some (.bool e.sd)
  c7 : w.cell? ⟨b, o + 7, none⟩ = some (.bool e.ok)
theorem EvC.below {w w' : World} {b o : Nat} {r : Ev} (h : EvC w b o r) {n : Nat} (hn : w.heap.size ≤ n) (hB : Below n w w') : EvC w' b o r := by
  have hb : b < n := Nat.lt_of_lt_of_le (block_lt_of_cell h.c0) hn
  obtain ⟨c0, c1, c2, c3, c4, c5, c6, c7⟩ := h
  have e : ∀ o, w'.cell? ⟨b, o, none⟩ = w.cell? ⟨b, o, none⟩ := fun o => hB.cell (p := ⟨b, o, none⟩) hb
  exact ⟨(e _).trans c0, (e _).trans c1, (e _).trans c2, (e _).trans c3, (e _).trans c4, (e _).trans c5, (e _).trans c6, (e _).trans c7⟩
/-- The value is a slice of these events. -/
def EvsOf (w : World) (v : Value) (es : List Ev) : Prop :=
  ∃ ao cap, v = .slice ao es.length cap ∧ (0 < es.length → ∃ b o, ao = some ⟨b, o, none⟩ ∧ ∀ i, i < es.length → EvC w b (o + i * 8) (es.getD i default))
theorem EvsOf.below {w w' : World} {v : Value} {rs : List Ev} (h : EvsOf w v rs) {n : Nat} (hn : w.heap.size ≤ n) (hB : Below n w w') : EvsOf w' v rs := by
  obtain ⟨ao, cap, rfl, hc⟩ := h
  refine ⟨ao, cap, rfl, fun hp => ?_⟩
  obtain ⟨b, o, rfl, hd⟩ := hc hp
  exact ⟨b, o, rfl, fun i hi => (hd i hi).below hn hB⟩
theorem EvsOf.shape {w : World} {v : Value} {rs : List Ev} (h : EvsOf w v rs) : ∃ ao cap, v = .slice ao rs.length cap := by
  obtain ⟨ao, cap, rfl, hc⟩ := h
  exact ⟨ao, cap, rfl⟩
theorem EvsOf.at {w : World} {ao : Option Addr} {n cap : Nat} {rs : List Ev} (h : EvsOf w (.slice ao n cap) rs) (i : Nat) (hi : i < rs.length) : ∃ b o, ao = some ⟨b, o, none⟩ ∧ EvC w b (o + i * 8) (rs.getD i default) := by
  obtain ⟨_, _, e, hc⟩ := h
  cases e
  obtain ⟨b, o, rfl, hd⟩ := hc (by omega)
  exact ⟨b, o, rfl, hd i hi⟩
theorem EvsOf.nil (w : World) : EvsOf w (.slice none 0 0) [] := ⟨none, 0, rfl, fun h => by simp at h⟩

/-! ### Rows of events that a call owns -/
def evCells (es : List Ev) : List Value := es.flatMap fun e => (evC e).toList
theorem evC_len (e : Ev) : (evC e).toList.length = 8 := rfl
theorem evCells_at : ∀ (es : List Ev) (i : Nat), i < es.length → ∀ c, c < 8 → (evCells es)[i * 8 + c]? = (evC (es.getD i default)).toList[c]?
  | [], i, h, c, hc => by simp at h
  | e :: es, 0, h, c, hc => by
    show ((evC e).toList ++ evCells es)[0 * 8 + c]? = _
    rw [List.getElem?_append_left (by rw [evC_len]; omega)]
    simp
  | e :: es, i + 1, h, c, hc => by
    show ((evC e).toList ++ evCells es)[(i + 1) * 8 + c]? = _
    rw [List.getElem?_append_right (by rw [evC_len]; omega), evC_len, show (i + 1) * 8 + c - 8 = i * 8 + c by omega, evCells_at es i (by simpa using h) c hc]
    simp
theorem evCells_snoc (es : List Ev) (e : Ev) : evCells (es ++ [e]) = evCells es ++ (evC e).toList := by
  simp [evCells, List.flatMap_append]
theorem evC_one (e : Ev) : ∀ u ∈ (evC e).toList, u.oneCell' = true := by
  intro u hu
  simp [evC] at hu
  rcases hu with rfl | rfl | rfl | rfl | rfl | rfl | rfl | rfl <;> rfl
theorem evs_of_own {w : World} {base : Nat} {v : Value} {es : List Ev} (h : w.ownsRow base 23 8 v es.length (evCells es)) : EvsOf w v es := by
  rcases h.2 with ⟨rfl, h0⟩ | ⟨g, cap, cur, rfl, hbg, hg, hnc, hcm, hcs, htake⟩
  · exact ⟨none, 0, by rw [h0], fun hp => by omega⟩
  · refine ⟨some ⟨g, 0, none⟩, cap, rfl, fun _ => ⟨g, 0, rfl, fun i hi => ?_⟩⟩
    have key : ∀ c u, c < 8 → (evC (es.getD i default)).toList[c]? = some u → w.cell? ⟨g, 0 + i * 8 + c, none⟩ = some u := fun c u hc hu => by
      have := h.cells (g := g) rfl (i * 8 + c) u (by rw [evCells_at es i hi c hc]; exact hu)
      rw [Go.WideShapes.add_plain, ← Nat.add_assoc] at this
      exact this
    exact ⟨key 0 _ (by omega) rfl, key 1 _ (by omega) rfl, key 2 _ (by omega) rfl, key 3 _ (by omega) rfl, key 4 _ (by omega) rfl, key 5 _ (by omega) rfl, key 6 _ (by omega) rfl, key 7 _ (by omega) rfl⟩

/-! ### Arguments -/
theorem evs_arg {H : Type} {enc : TypeId × Value → H} {W : World} {b0 base : Nat} {spare : Nat → Bool} {held : Bool} {v : Value} {d : DataW H} {ps : List MemPlace}
    (hval : Value.okWide Tryd.prog W .any b0 43 v) (h : DataW.Trod enc Tryd.prog W base spare held 43 v d ps) : ∃ es, EvsOf W v es := by
  obtain ⟨fuel, hf⟩ := h
  obtain ⟨a0, len0, cap0, rfl⟩ := Go.WideShapes.okWide_slice Tryd.underlying43 hval
  obtain ⟨ao, len, cap, hcs, hle, hno, hc⟩ := open_structs Tryd.underlying43 Tryd.underlying23 (hone_of (by kernel_rfl)) (by kernel_rfl) (by decide) hf
  simp [Value.cells] at hcs
  obtain ⟨rfl, rfl, rfl⟩ := hcs
  by_cases hp : 0 < len0
  · obtain ⟨b, o, rfl, hx⟩ := hc hp
    have each : ∀ i, i < len0 → ∃ p : Ev, EvC W b (o + i * 8) p := by
      intro i hi
      obtain ⟨v0, n0, y0, h0, t0⟩ := hx i hi 0 _ rfl
      obtain ⟨v1, n1, y1, h1, t1⟩ := hx i hi 1 _ rfl
      obtain ⟨v2, n2, y2, h2, t2⟩ := hx i hi 2 _ rfl
      obtain ⟨v3, n3, y3, h3, t3⟩ := hx i hi 3 _ rfl
      obtain ⟨v4, n4, y4, h4, t4⟩ := hx i hi 4 _ rfl
      obtain ⟨v5, n5, y5, h5, t5⟩ := hx i hi 5 _ rfl
      obtain ⟨v6, n6, y6, h6, t6⟩ := hx i hi 6 _ rfl
      obtain ⟨v7, n7, y7, h7, t7⟩ := hx i hi 7 _ rfl
      obtain ⟨x0, e0, _⟩ := DataW.trod_int Tryd.underlying3 t0
      obtain ⟨x1, e1, _⟩ := DataW.trod_int Tryd.underlying3 t1
      obtain ⟨x2, e2, _⟩ := DataW.trod_int Tryd.underlying3 t2
      obtain ⟨x3, e3, _⟩ := DataW.trod_int Tryd.underlying3 t3
      obtain ⟨x4, e4, _⟩ := DataW.trod_int Tryd.underlying3 t4
      obtain ⟨x5, e5, _⟩ := DataW.trod_int Tryd.underlying3 t5
      obtain ⟨x6, e6, _⟩ := DataW.trod_bool Tryd.underlying4 t6
      obtain ⟨x7, e7, _⟩ := DataW.trod_bool Tryd.underlying4 t7
      cases e0; cases e1; cases e2; cases e3; cases e4; cases e5; cases e6; cases e7
      exact ⟨⟨x0, x1, x2, x3, x4, x5, x6, x7⟩, h0, h1, h2, h3, h4, h5, h6, h7⟩
    obtain ⟨f, hfx⟩ := choose_lt each
    refine ⟨(List.range len0).map f, some ⟨b, o, none⟩, cap0, by simp, fun _ => ⟨b, o, rfl, fun i hi => ?_⟩⟩
    have hi' : i < len0 := by simpa using hi
    have : ((List.range len0).map f).getD i default = f i := by simp [List.getD, hi']
    rw [this]
    exact hfx i hi'
  · have h0 : len0 = 0 := by omega
    subst h0
    exact ⟨[], a0, cap0, rfl, fun h => by simp at h⟩

theorem array8 {α : Type} {cs : Array α} (h : cs.size = 8) : ∃ c0 c1 c2 c3 c4 c5 c6 c7, cs = #[c0, c1, c2, c3, c4, c5, c6, c7] := by
  obtain ⟨l⟩ := cs
  match l, h with
  | [c0, c1, c2, c3, c4, c5, c6, c7], _ => exact ⟨c0, c1, c2, c3, c4, c5, c6, c7, rfl⟩
/-- A struct of one-cell fields by value: each field's reading. -/
theorem open_agg_one {H : Type} {enc : TypeId × Value → H} {P : Program} {w : World} {base b0 : Nat} {spare : Nat → Bool} {held : Bool} {r : Reach} {t : TypeId} {fs : Array Field} {v : Value} {d : DataW H} {ps : List MemPlace}
    (hs : P.underlying t = some (.struct fs)) (hone : ∀ (i : Nat) (f : Field), fs[i]? = some f → f.offset = i ∧ P.cellsOf f.type = 1) (hC : P.cellsOf t = fs.size)
    (hv : Value.okWide P w r b0 t v) (h : DataW.Trod enc P w base spare held t v d ps) :
    ∃ cs : Array Value, v = .agg cs ∧ cs.size = fs.size ∧ ∀ (c : Nat) (f : Field), fs[c]? = some f → ∃ n y, DataW.trod enc P w base spare held n f.type [cs.toList.getD c undef] = some y := by
  obtain ⟨cs, rfl, hsz⟩ := okWide_struct hs hv
  obtain ⟨fuel, hf⟩ := h
  obtain ⟨xs, k, hk, hxy, _, hxl, hfs⟩ := DataW.trod_struct hs hf
  refine ⟨cs, rfl, hsz.trans hC, fun c f hf => ?_⟩
  have hc : c < fs.size := (Array.getElem?_eq_some_iff.1 hf).1
  obtain ⟨ho, hc1⟩ := hone c f hf
  have g := hfs c f hf
  rw [ho, hc1, show (Value.agg cs).cells = cs from rfl, take1_drop cs.toList c undef (by simp; omega)] at g
  exact ⟨_, xs[c]'(by omega), by rw [g]; simp [show c < xs.length by omega]⟩
theorem ev_arg {H : Type} {enc : TypeId × Value → H} {W : World} {b0 base : Nat} {spare : Nat → Bool} {held : Bool} {v : Value} {d : DataW H} {ps : List MemPlace}
    (hval : Value.okWide Tryd.prog W .any b0 23 v) (h : DataW.Trod enc Tryd.prog W base spare held 23 v d ps) : ∃ e, v = evV e := by
  obtain ⟨cs, rfl, hsz, hx⟩ := open_agg_one Tryd.underlying23 (hone_of (by kernel_rfl)) (by kernel_rfl) hval h
  obtain ⟨v0, v1, v2, v3, v4, v5, v6, v7, rfl⟩ := array8 hsz
  obtain ⟨n0, y0, t0⟩ := hx 0 _ rfl
  obtain ⟨n1, y1, t1⟩ := hx 1 _ rfl
  obtain ⟨n2, y2, t2⟩ := hx 2 _ rfl
  obtain ⟨n3, y3, t3⟩ := hx 3 _ rfl
  obtain ⟨n4, y4, t4⟩ := hx 4 _ rfl
  obtain ⟨n5, y5, t5⟩ := hx 5 _ rfl
  obtain ⟨n6, y6, t6⟩ := hx 6 _ rfl
  obtain ⟨n7, y7, t7⟩ := hx 7 _ rfl
  obtain ⟨x0, e0, _⟩ := DataW.trod_int Tryd.underlying3 t0
  obtain ⟨x1, e1, _⟩ := DataW.trod_int Tryd.underlying3 t1
  obtain ⟨x2, e2, _⟩ := DataW.trod_int Tryd.underlying3 t2
  obtain ⟨x3, e3, _⟩ := DataW.trod_int Tryd.underlying3 t3
  obtain ⟨x4, e4, _⟩ := DataW.trod_int Tryd.underlying3 t4
  obtain ⟨x5, e5, _⟩ := DataW.trod_int Tryd.underlying3 t5
  obtain ⟨x6, e6, _⟩ := DataW.trod_bool Tryd.underlying4 t6
  obtain ⟨x7, e7, _⟩ := DataW.trod_bool Tryd.underlying4 t7
  simp at e0 e1 e2 e3 e4 e5 e6 e7
  subst e0; subst e1; subst e2; subst e3; subst e4; subst e5; subst e6; subst e7
  exact ⟨⟨x0, x1, x2, x3, x4, x5, x6, x7⟩, rfl⟩
end Go.Proofs.YtmmkdbcgkafolaaDoor

