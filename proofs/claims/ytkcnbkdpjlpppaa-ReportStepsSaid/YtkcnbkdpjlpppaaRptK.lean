
/-
  Report: the argument: a slice of steps.
-/
import Derived.Test.YtkcnbkdpjlpppaaRptJ
import Derived.Test.YtkcnbkdpjlpppaaRptArg
import Derived.ChangeSlices
import Derived.OpenShut
import Derived.WideShapes
import Derived.Deep.Slices
import Derived.ChangeArms
namespace Go.Proofs.Ytkcnbkdpjlpppaa
open Go.RowKit Go.ChangeShapes Go.WideShapes Go.Deep
set_option linter.unusedVariables false
set_option linter.unusedSimpArgs false
set_option maxRecDepth 100000

/-- A slice of structs with fields of any size: each place's cells, each field's reading. -/
theorem open_structs_any {H : Type} {enc : TypeId × Value → H} {P : Program} {w : World} {base : Nat} {spare : Nat → Bool} {held : Bool} {t e : TypeId} {fs : Array Field} {fuel : Nat} {cs : List Value} {x : DataW H × List MemPlace} {K : Nat}
    (ht : P.underlying t = some (.slice e)) (he : P.underlying e = some (.struct fs)) (hC : P.cellsOf e = K) (hpos : 0 < K)
    (h : DataW.trod enc P w base spare held fuel t cs = some x) :
    ∃ (ao : Option Addr) (len cap : Nat), cs = [.slice ao len cap] ∧ len ≤ cap ∧ (ao = none → cap = 0) ∧ (0 < len → ∃ b o, ao = some ⟨b, o, none⟩ ∧
      ∀ i, i < len → ∃ vs : List Value, vs.length = K ∧ (∀ j, j < K → w.cell? ⟨b, o + i * K + j, none⟩ = some (vs.getD j undef)) ∧ ∀ (c : Nat) (f : Field), fs[c]? = some f → ∃ n y, DataW.trod enc P w base spare held n f.type ((vs.drop f.offset).take (P.cellsOf f.type)) = some y) := by
  rcases open_slice ht h with ⟨rfl, _⟩ | ⟨a, len, cap, m, n, D, Pl, rfl, hb, hl, hm, hmm, rfl, hx⟩
  · exact ⟨none, 0, 0, rfl, Nat.le_refl _, fun _ => rfl, fun h => by omega⟩
  · refine ⟨some a, len, cap, rfl, hl, (fun e => nomatch e), fun hp => ?_⟩
    have hlm : len ≤ m := by rw [hmm]; split <;> omega
    obtain ⟨b, o, spot⟩ := a
    have hspot : spot = none := by
      obtain ⟨cs', h1, _⟩ := hx 0 (by omega)
      rw [hC] at h1
      obtain ⟨_, hlen, hcell⟩ := World.cells?_some h1
      have h0 := hcell 0 hpos
      rw [List.getElem?_eq_getElem (by omega)] at h0
      simpa [Addr.add] using World.cell?_spot h0
    subst hspot
    refine ⟨b, o, rfl, fun i hi => ?_⟩
    obtain ⟨cs', h1, h2⟩ := hx i (by omega)
    rw [hC] at h1
    obtain ⟨_, hlen, hcell⟩ := World.cells?_some h1
    obtain ⟨xs, k, hk, hxy, _, hxl, hfs⟩ := DataW.trod_struct he h2
    refine ⟨cs', hlen, fun j hj => ?_, fun c f hf => ?_⟩
    · have e := hcell j hj
      rw [show cs'[j]? = some (cs'.getD j undef) by simp [List.getD, show j < cs'.length by omega], add_add, Go.WideShapes.add_plain, ← Nat.add_assoc] at e
      exact e
    · have hc : c < fs.size := (Array.getElem?_eq_some_iff.1 hf).1
      have g := hfs c f hf
      rw [List.getElem?_eq_getElem (by omega)] at g
      exact ⟨_, _, g⟩

/-- A step. -/
structure RStp where
  x : Acc
  e : Int
  cv : Value
  cl : List Int
  tid : Int
  cut : Int
instance : Inhabited RStp := ⟨⟨⟨0, 0, 0, false⟩, 0, .slice none 0 0, [], 0, 0⟩⟩
structure RStpC (w : World) (b o : Nat) (s : RStp) : Prop where
  c0 : w.cell? ⟨b, o, none⟩ = some (.int .i64 s.x.a)
  c1 : w.cell? ⟨b, o + 1, none⟩ = some (.int .i64 s.x.b)
  c2 : w.cell? ⟨b, o + 2, none⟩ = some (.int .i64 s.x.c)
  c3 : w.cell? ⟨b, o + 3, none⟩ = some (.bool s.x.wr)
  c4 : w.cell? ⟨b, o + 4, none⟩ = some (.int .u64 s.e)
  c5 : w.cell? ⟨b, o + 5, none⟩ = some s.cv
  c6 : w.cell? ⟨b, o + 6, none⟩ = some (.int .i64 s.tid)
  c7 : w.cell? ⟨b, o + 7, none⟩ = some (.int .i64 s.cut)
  src : Src w s.cv s.cl
  u : U64 s.e
theorem RStpC.below {w w' : World} {b o : Nat} {r : RStp} (h : RStpC w b o r) {n : Nat} (hn : w.heap.size ≤ n) (hB : Below n w w') : RStpC w' b o r := by
  have hb : b < n := Nat.lt_of_lt_of_le (block_lt_of_cell h.c0) hn
  obtain ⟨c0, c1, c2, c3, c4, c5, c6, c7, c8, c9⟩ := h
  have e : ∀ o, w'.cell? ⟨b, o, none⟩ = w.cell? ⟨b, o, none⟩ := fun o => hB.cell (p := ⟨b, o, none⟩) hb
  exact ⟨(e _).trans c0, (e _).trans c1, (e _).trans c2, (e _).trans c3, (e _).trans c4, (e _).trans c5, (e _).trans c6, (e _).trans c7, c8.below hn hB, c9⟩
def RStpsOf (w : World) (v : Value) (es : List RStp) : Prop :=
  ∃ ao cap, v = .slice ao es.length cap ∧ (0 < es.length → ∃ b o, ao = some ⟨b, o, none⟩ ∧ ∀ i, i < es.length → RStpC w b (o + i * 8) (es.getD i default))
theorem rsrc_trod {H : Type} {enc : TypeId × Value → H} {W : World} {base : Nat} {spare : Nat → Bool} {held : Bool} {v : Value} {fuel : Nat} {x : DataW H × List MemPlace}
    (hf : DataW.trod enc Try.prog W base spare held fuel 49 [v] = some x) : ∃ l, Src W v l := by
  rcases Go.ChangeShapes.open_ints Try.underlying49 Try.underlying3 (by kernel_rfl) hf with ⟨hcs, _⟩ | ⟨a, len', cap', zs, hcs, _, hle, _, hall, _, hcell, _⟩
  · simp at hcs
    subst hcs
    exact ⟨[], Src.nil W⟩
  · simp at hcs
    subst hcs
    have hz : len' ≤ zs.length := by rw [hall]; split <;> omega
    refine ⟨zs.take len', some a, cap', by rw [List.length_take, Nat.min_eq_left hz], (fun e => nomatch e), fun hp => ?_⟩
    rw [List.length_take, Nat.min_eq_left hz] at hp ⊢
    obtain ⟨b, off, rfl, hc⟩ := ints_at hcell (by omega)
    refine ⟨b, off, rfl, fun j hj => ?_⟩
    rw [hc j (by omega)]
    simp [List.getD, hj]
theorem ru64_of_wf {x : Int} (h : (Lit.int .u64 x).wf = true) : U64 x := by
  simp [Lit.wf, IntKind.min, IntKind.max, IntKind.signed, IntKind.bits] at h
  exact ⟨by omega, by omega⟩
theorem list8 {α : Type} {l : List α} (h : l.length = 8) : ∃ c0 c1 c2 c3 c4 c5 c6 c7, l = [c0, c1, c2, c3, c4, c5, c6, c7] := by
  match l, h with
  | [c0, c1, c2, c3, c4, c5, c6, c7], _ => exact ⟨c0, c1, c2, c3, c4, c5, c6, c7, rfl⟩
theorem rstps_arg {H : Type} {enc : TypeId × Value → H} {W : World} {b0 : Nat} {held : Bool} {v : Value} {d : DataW H} {ps : List MemPlace}
    (hval : Value.okWide Try.prog W .any b0 47 v) (h : DataW.Trod enc Try.prog W 0 (fun _ => true) held 47 v d ps) : ∃ l, RStpsOf W v l := by
  obtain ⟨a0, len0, cap0, rfl⟩ := Go.WideShapes.okWide_slice Try.underlying47 hval
  obtain ⟨fuel, hf⟩ := h
  obtain ⟨ao, len, cap, hcs, hle, hno, hc⟩ := open_structs_any (K := 8) Try.underlying47 Try.underlying51 (by kernel_rfl) (by decide) hf
  simp [Value.cells] at hcs
  obtain ⟨rfl, rfl, rfl⟩ := hcs
  by_cases hp : 0 < len0
  · obtain ⟨b, o, rfl, hx⟩ := hc hp
    have each : ∀ i, i < len0 → ∃ p : RStp, RStpC W b (o + i * 8) p := by
      intro i hi
      obtain ⟨vs, hvl, hcell, hfs⟩ := hx i hi
      obtain ⟨v0, v1, v2, v3, v4, v5, v6, v7, rfl⟩ := list8 hvl
      obtain ⟨n0, y0, t0⟩ := hfs 0 _ rfl
      obtain ⟨n1, y1, t1⟩ := hfs 1 _ rfl
      obtain ⟨n2, y2, t2⟩ := hfs 2 _ rfl
      obtain ⟨n3, y3, t3⟩ := hfs 3 _ rfl
      obtain ⟨n4, y4, t4⟩ := hfs 4 _ rfl
      have k23 : Try.prog.cellsOf 23 = 4 := by kernel_rfl
      have k3 : Try.prog.cellsOf 3 = 1 := by kernel_rfl
      have k4 : Try.prog.cellsOf 4 = 1 := by kernel_rfl
      have k25 : Try.prog.cellsOf 25 = 1 := by kernel_rfl
      have k49 : Try.prog.cellsOf 49 = 1 := by kernel_rfl
      replace t0 : DataW.trod enc Try.prog W 0 (fun _ => true) held n0 23 (([v0, v1, v2, v3, v4, v5, v6, v7].drop 0).take (Try.prog.cellsOf 23)) = some y0 := t0
      rw [k23] at t0
      replace t1 : DataW.trod enc Try.prog W 0 (fun _ => true) held n1 25 (([v0, v1, v2, v3, v4, v5, v6, v7].drop 4).take (Try.prog.cellsOf 25)) = some y1 := t1
      rw [k25] at t1
      replace t2 : DataW.trod enc Try.prog W 0 (fun _ => true) held n2 49 (([v0, v1, v2, v3, v4, v5, v6, v7].drop 5).take (Try.prog.cellsOf 49)) = some y2 := t2
      rw [k49] at t2
      replace t3 : DataW.trod enc Try.prog W 0 (fun _ => true) held n3 3 (([v0, v1, v2, v3, v4, v5, v6, v7].drop 6).take (Try.prog.cellsOf 3)) = some y3 := t3
      rw [k3] at t3
      replace t4 : DataW.trod enc Try.prog W 0 (fun _ => true) held n4 3 (([v0, v1, v2, v3, v4, v5, v6, v7].drop 7).take (Try.prog.cellsOf 3)) = some y4 := t4
      rw [k3] at t4
      replace t0 : DataW.trod enc Try.prog W 0 (fun _ => true) held n0 23 [v0, v1, v2, v3] = some y0 := t0
      replace t1 : DataW.trod enc Try.prog W 0 (fun _ => true) held n1 25 [v4] = some y1 := t1
      replace t2 : DataW.trod enc Try.prog W 0 (fun _ => true) held n2 49 [v5] = some y2 := t2
      replace t3 : DataW.trod enc Try.prog W 0 (fun _ => true) held n3 3 [v6] = some y3 := t3
      replace t4 : DataW.trod enc Try.prog W 0 (fun _ => true) held n4 3 [v7] = some y4 := t4
      obtain ⟨xs, k, hk, hxy, _, hxl, hfa⟩ := DataW.trod_struct Try.underlying23 t0
      have g0 := hfa 0 _ rfl
      have g1 := hfa 1 _ rfl
      have g2 := hfa 2 _ rfl
      have g3 := hfa 3 _ rfl
      replace g0 : DataW.trod enc Try.prog W 0 (fun _ => true) held k 3 (([v0, v1, v2, v3].drop 0).take (Try.prog.cellsOf 3)) = xs[0]? := g0
      rw [k3] at g0
      replace g1 : DataW.trod enc Try.prog W 0 (fun _ => true) held k 3 (([v0, v1, v2, v3].drop 1).take (Try.prog.cellsOf 3)) = xs[1]? := g1
      rw [k3] at g1
      replace g2 : DataW.trod enc Try.prog W 0 (fun _ => true) held k 3 (([v0, v1, v2, v3].drop 2).take (Try.prog.cellsOf 3)) = xs[2]? := g2
      rw [k3] at g2
      replace g3 : DataW.trod enc Try.prog W 0 (fun _ => true) held k 4 (([v0, v1, v2, v3].drop 3).take (Try.prog.cellsOf 4)) = xs[3]? := g3
      rw [k4] at g3
      replace g0 : DataW.trod enc Try.prog W 0 (fun _ => true) held k 3 [v0] = xs[0]? := g0
      replace g1 : DataW.trod enc Try.prog W 0 (fun _ => true) held k 3 [v1] = xs[1]? := g1
      replace g2 : DataW.trod enc Try.prog W 0 (fun _ => true) held k 3 [v2] = xs[2]? := g2
      replace g3 : DataW.trod enc Try.prog W 0 (fun _ => true) held k 4 [v3] = xs[3]? := g3
      have hl : xs.length = 4 := by first | exact hxl | (rw [hxl]; rfl) | (simpa using hxl)
      rw [List.getElem?_eq_getElem (by omega)] at g0 g1 g2 g3
      obtain ⟨x0, e0, _⟩ := DataW.trod_int Try.underlying3 g0
      obtain ⟨x1, e1, _⟩ := DataW.trod_int Try.underlying3 g1
      obtain ⟨x2, e2, _⟩ := DataW.trod_int Try.underlying3 g2
      obtain ⟨x3, e3, _⟩ := DataW.trod_bool Try.underlying4 g3
      obtain ⟨x4, e4, _, w4⟩ := DataW.trod_int Try.underlying25 t1
      obtain ⟨l, hl5⟩ := rsrc_trod t2
      obtain ⟨x6, e6, _⟩ := DataW.trod_int Try.underlying3 t3
      obtain ⟨x7, e7, _⟩ := DataW.trod_int Try.underlying3 t4
      cases e0; cases e1; cases e2; cases e3; cases e4; cases e6; cases e7
      exact ⟨⟨⟨x0, x1, x2, x3⟩, x4, v5, l, x6, x7⟩, hcell 0 (by omega), hcell 1 (by omega), hcell 2 (by omega), hcell 3 (by omega), hcell 4 (by omega), hcell 5 (by omega), hcell 6 (by omega), hcell 7 (by omega), hl5, ru64_of_wf w4⟩
    obtain ⟨f, hfx⟩ := Go.Deep.choose_lt each
    refine ⟨(List.range len0).map f, some ⟨b, o, none⟩, cap0, by simp, fun _ => ⟨b, o, rfl, fun i hi => ?_⟩⟩
    have hi' : i < len0 := by simpa using hi
    have : ((List.range len0).map f).getD i default = f i := by simp [List.getD, hi']
    rw [this]
    exact hfx i hi'
  · have h0 : len0 = 0 := by omega
    subst h0
    exact ⟨[], a0, cap0, rfl, fun h => by simp at h⟩
end Go.Proofs.Ytkcnbkdpjlpppaa

