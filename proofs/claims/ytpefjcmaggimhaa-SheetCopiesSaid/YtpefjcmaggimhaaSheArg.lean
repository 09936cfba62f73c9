
/-
  Layer 5: a script as an argument of a row.
-/
import Derived.Test.YtpefjcmaggimhaaSheA
import Derived.Test.YtpefjcmaggimhaaDeeArg
import Derived.SizedLaws
namespace Go.Proofs.Ytpefjcmaggimhaa
open Go.RowKit Go.ChangeShapes Go.WideShapes Go.Deep Go.Joins
set_option linter.unusedVariables false
set_option linter.unusedSimpArgs false
set_option maxRecDepth 100000

theorem sli_trod {H : Type} {enc : TypeId × Value → H} {W : World} {base : Nat} {spare : Nat → Bool} {held : Bool} {v : Value}
    {fuel : Nat} {x : DataW H × List MemPlace} (hf : DataW.trod enc Try.prog W base spare held fuel 23 [v] = some x) : ∃ l, SlI W v l := by
  rcases Go.ChangeShapes.open_ints Try.underlying23 Try.underlying3 (by kernel_rfl) hf with ⟨hcs, _⟩ | ⟨a, len', cap', zs, hcs, _, hle, _, hall, _, hcell, _⟩
  · cases hcs
    exact ⟨[], none, 0, rfl, fun h => by simp at h⟩
  · cases hcs
    have hz : len' ≤ zs.length := by rw [hall]; split <;> omega
    refine ⟨zs.take len', some a, cap', by rw [List.length_take, Nat.min_eq_left hz], fun hp => ?_⟩
    rw [List.length_take, Nat.min_eq_left hz] at hp ⊢
    obtain ⟨b, off, rfl, hc⟩ := ints_at hcell (by omega)
    refine ⟨b, off, rfl, fun j hj => ?_⟩
    rw [hc j (by omega)]
    simp [List.getD, hj]
/-- The length of a slice that came in. -/
theorem len_trod {H : Type} {enc : TypeId × Value → H} {W : World} {base : Nat} {spare : Nat → Bool} {held : Bool} {v : Value} {fuel : Nat} {x : DataW H × List MemPlace}
    (hf : DataW.trod enc Try.prog W base spare held fuel 46 [v] = some x) {cs : List Cs} (h : CssOf W v cs) : cs.length ≤ maxLen := by
  obtain ⟨ao, cap, rfl⟩ := h.shape
  rcases open_slice Try.underlying46 hf with ⟨hcs, _⟩ | ⟨a, len, cap, m, n, D, Pl, hcs, hb, hl, hm, _⟩
  · injection hcs with h1
    injection h1 with h2 h3
    omega
  · injection hcs with h1
    injection h1 with h2 h3
    omega
theorem ops_trod {H : Type} {enc : TypeId × Value → H} {W : World} {base : Nat} {spare : Nat → Bool} {held : Bool} {v : Value} {fuel : Nat} {x : DataW H × List MemPlace}
    (hf : DataW.trod enc Try.prog W base spare held fuel 45 [v] = some x) : ∃ es, OpsOf W v es ∧ ∀ o ∈ es, o.cs.length ≤ maxLen := by
  obtain ⟨ao, len, cap, hcs, hle, hno, hc⟩ := open_structs Try.underlying45 Try.underlying48 (hone_of (by kernel_rfl)) (by kernel_rfl) (by decide) hf
  cases hcs
  by_cases hp : 0 < len
  · obtain ⟨b, o, rfl, hx⟩ := hc hp
    have each : ∀ i, i < len → ∃ p : Opn, OpC W b (o + i * 5) p ∧ p.cs.length ≤ maxLen := by
      intro i hi
      obtain ⟨v0, n0, y0, h0, t0⟩ := hx i hi 0 _ rfl
      obtain ⟨v1, n1, y1, h1, t1⟩ := hx i hi 1 _ rfl
      obtain ⟨v2, n2, y2, h2, t2⟩ := hx i hi 2 _ rfl
      obtain ⟨v3, n3, y3, h3, t3⟩ := hx i hi 3 _ rfl
      obtain ⟨v4, n4, y4, h4, t4⟩ := hx i hi 4 _ rfl
      obtain ⟨x0, e0, _⟩ := DataW.trod_int Try.underlying3 t0
      obtain ⟨x1, e1, _⟩ := DataW.trod_int Try.underlying3 t1
      obtain ⟨x2, e2, _⟩ := DataW.trod_int Try.underlying3 t2
      obtain ⟨cs, h5⟩ := css_trod t3
      obtain ⟨x4, e4, _⟩ := DataW.trod_bool Try.underlying4 t4
      cases e0; cases e1; cases e2; cases e4
      exact ⟨⟨x0, x1, x2, cs, x4⟩, ⟨v3, h0, h1, h2, h3, h4, h5⟩, len_trod t3 h5⟩
    obtain ⟨f, hfx⟩ := choose_lt each
    refine ⟨(List.range len).map f, ⟨some ⟨b, o, none⟩, cap, by simp, fun _ => ⟨b, o, rfl, fun i hi => ?_⟩⟩, fun e he => ?_⟩
    · have hi' : i < len := by simpa using hi
      have : ((List.range len).map f).getD i default = f i := by simp [List.getD, hi']
      rw [this]
      exact (hfx i hi').1
    · obtain ⟨i, hi, rfl⟩ := List.mem_map.1 he
      exact (hfx i (List.mem_range.1 hi)).2
  · have h0 : len = 0 := by omega
    subst h0
    exact ⟨[], ⟨ao, cap, rfl, fun h => by simp at h⟩, fun e he => by simp at he⟩
theorem prs_trod {H : Type} {enc : TypeId × Value → H} {W : World} {base : Nat} {spare : Nat → Bool} {held : Bool} {v : Value} {fuel : Nat} {x : DataW H × List MemPlace}
    (hf : DataW.trod enc Try.prog W base spare held fuel 22 [v] = some x) : ∃ ps, PrsOf W v ps ∧ ∀ p ∈ ps, ∀ o ∈ p, o.cs.length ≤ maxLen := by
  rcases open_slice Try.underlying22 hf with ⟨hcs, _⟩ | ⟨a, len, cap, m, n, D, Pl, hcs, hb, hl, hm, hmm, _, hx⟩
  · cases hcs
    exact ⟨[], PrsOf.nil W, fun p hp => by simp at hp⟩
  · cases hcs
    by_cases hp : 0 < len
    · have hlm : len ≤ m := by rw [hmm]; split <;> omega
      have hC : Try.prog.cellsOf 45 = 1 := by kernel_rfl
      obtain ⟨b, o, spot⟩ := a
      have hspot : spot = none := by
        obtain ⟨cs', h1, _⟩ := hx 0 (by omega)
        rw [hC] at h1
        obtain ⟨_, hlen, hcell⟩ := World.cells?_some h1
        have h0 := hcell 0 (by omega)
        rw [List.getElem?_eq_getElem (by omega)] at h0
        simpa [Addr.add] using World.cell?_spot h0
      subst hspot
      have each : ∀ i, i < len → ∃ p : Value × List Opn, W.cell? ⟨b, o + i, none⟩ = some p.1 ∧ OpsOf W p.1 p.2 ∧ ∀ o ∈ p.2, o.cs.length ≤ maxLen := by
        intro i hi
        obtain ⟨cs', h1, h2⟩ := hx i (by omega)
        rw [hC] at h1
        obtain ⟨_, hlen, hcell⟩ := World.cells?_some h1
        obtain ⟨u, rfl⟩ : ∃ u, cs' = [u] := by
          match cs', hlen with
          | [u], _ => exact ⟨u, rfl⟩
        have e := hcell 0 (by omega)
        rw [add_add, Go.WideShapes.add_plain] at e
        obtain ⟨es, h3⟩ := ops_trod h2
        exact ⟨(u, es), by simpa using e, h3⟩
      obtain ⟨f, hfx⟩ := choose_lt each
      refine ⟨(List.range len).map (fun i => (f i).2), ⟨some ⟨b, o, none⟩, cap, by simp, fun _ => ⟨b, o, rfl, fun i hi => ?_⟩⟩, fun p hp => ?_⟩
      · have hi' : i < len := by simpa using hi
        have : ((List.range len).map (fun i => (f i).2)).getD i [] = (f i).2 := by simp [List.getD, hi']
        rw [this]
        exact ⟨_, (hfx i hi').1, (hfx i hi').2.1⟩
      · obtain ⟨i, hi, rfl⟩ := List.mem_map.1 hp
        exact (hfx i (List.mem_range.1 hi)).2.2
    · have h0 : len = 0 := by omega
      subst h0
      exact ⟨[], ⟨some a, cap, rfl, fun h => by simp at h⟩, fun p hp => by simp at hp⟩
theorem scr_arg {H : Type} {enc : TypeId × Value → H} {W : World} {b0 base : Nat} {spare : Nat → Bool} {held : Bool} {v : Value} {d : DataW H} {ps : List MemPlace}
    (hval : Value.okWide Try.prog W .any b0 25 v) (h : DataW.Trod enc Try.prog W base spare held 25 v d ps) : ∃ s vp vl vd, v = scrV vp vl vd s ∧ ScrAt W vp vl vd s ∧ ∀ p ∈ s.ps, ∀ o ∈ p, o.cs.length ≤ maxLen := by
  obtain ⟨cs, rfl, hsz, hx⟩ := open_agg_one Try.underlying25 (hone_of (by kernel_rfl)) (by kernel_rfl) hval h
  obtain ⟨v0, v1, v2, v3, v4, rfl⟩ := array5 hsz
  obtain ⟨n0, y0, t0⟩ := hx 0 _ rfl
  obtain ⟨n1, y1, t1⟩ := hx 1 _ rfl
  obtain ⟨n2, y2, t2⟩ := hx 2 _ rfl
  obtain ⟨n3, y3, t3⟩ := hx 3 _ rfl
  obtain ⟨n4, y4, t4⟩ := hx 4 _ rfl
  obtain ⟨x0, e0, _⟩ := DataW.trod_int Try.underlying3 t0
  obtain ⟨x1, e1, _⟩ := DataW.trod_int Try.underlying3 t1
  obtain ⟨ps, h2, h5⟩ := prs_trod t2
  obtain ⟨pl, h3⟩ := sli_trod t3
  obtain ⟨dr, h4⟩ := sli_trod t4
  simp at e0 e1 h2 h3 h4
  subst e0; subst e1
  exact ⟨⟨x0, x1, ps, pl, dr⟩, v2, v3, v4, rfl, ⟨h2, h3, h4⟩, h5⟩
/-! ### The lengths of the cases: by the form's own reach -/
theorem weights_mem_all {H : Type} {P : Program} {e : TypeId} : ∀ {ds : List (DataW H)} {d : DataW H}, d ∈ ds → ∀ n ∈ d.weights P e, n ∈ DataW.weightsAll P e ds
  | d0 :: ds, d, hd, n, hn => by
    simp only [DataW.weightsAll, List.mem_append]
    rcases List.mem_cons.1 hd with rfl | hd
    · exact .inl hn
    · exact .inr (weights_mem_all hd n hn)
theorem weights_slice {H : Type} {P : Program} {t e : TypeId} {elems spare : List (DataW H)} (ht : P.underlying t = some (.slice e)) : (DataW.slice elems spare).weights P t = (elems.length + spare.length) * P.bytesOf e :: (DataW.weightsAll P e elems ++ DataW.weightsAll P e spare) := by
  simp only [DataW.weights, ht]
theorem weights_struct {H : Type} {P : Program} {t : TypeId} {fs : Array Field} {parts : List (DataW H)} (ht : P.underlying t = some (.struct fs)) : (DataW.agg parts).weights P t = DataW.weightsEach P (fs.toList.map (·.type)) parts := by
  simp only [DataW.weights, ht]
theorem cs_reach {H : Type} {enc : TypeId × Value → H} {W : World} {base : Nat} {spare : Nat → Bool} {held : Bool} {v : Value} {fuel : Nat} {d : DataW H} {q : List MemPlace}
    (hf : DataW.trod enc Try.prog W base spare held fuel 46 [v] = some (d, q)) (hw : ∀ n ∈ d.weights Try.prog 46, n ≤ reachBytes) {cs : List Cs} (h : CssOf W v cs) : cs.length ≤ reachBytes := by
  obtain ⟨ao, cap, rfl⟩ := h.shape
  rcases open_slice Try.underlying46 hf with ⟨hcs, _⟩ | ⟨a, len, cap', m, n, D, Pl, hcs, hb, hl, hm, hmm, hx, _⟩
  · injection hcs with h1
    injection h1 with h2 h3
    omega
  · injection hcs with h1
    injection h1 with h2 h3
    injection hx with hd _
    rw [hd] at hw
    have hlm : len ≤ m := by rw [hmm]; split <;> omega
    have := hw _ (by rw [weights_slice Try.underlying46]; exact List.mem_cons_self ..)
    have hb : Try.prog.bytesOf 50 = 24 := by kernel_rfl
    rw [hb, List.length_map, List.length_range, List.length_map, List.length_range] at this
    omega
/-- The elements of a slice: where each lies, its data, and that its weights are the slice's. -/
theorem elem_reach {H : Type} {enc : TypeId × Value → H} {W : World} {base : Nat} {spare : Nat → Bool} {held : Bool} {fuel : Nat} {d : DataW H} {q : List MemPlace} {t e : TypeId} {a : Option Addr} {len cap : Nat}
    (ht : Try.prog.underlying t = some (.slice e)) (hf : DataW.trod enc Try.prog W base spare held fuel t [.slice a len cap] = some (d, q)) (hw : ∀ n ∈ d.weights Try.prog t, n ≤ reachBytes) (i : Nat) (hi : i < len) :
    ∃ b cs' n d' q', a = some b ∧ W.cells? base (b.add (i * Try.prog.cellsOf e)) (Try.prog.cellsOf e) = some cs' ∧ DataW.trod enc Try.prog W base spare held n e cs' = some (d', q') ∧ ∀ x ∈ d'.weights Try.prog e, x ≤ reachBytes := by
  rcases open_slice ht hf with ⟨hcs, _⟩ | ⟨b, len', cap', m, n, D, Pl, hcs, hb, hl, hm, hmm, hx, hy⟩
  · injection hcs with h1
    injection h1 with h2 h3
    omega
  · injection hcs with h1
    injection h1 with h2 h3 h4
    subst h2; subst h3
    injection hx with hd _
    rw [hd] at hw
    have hlm : len ≤ m := by rw [hmm]; split <;> omega
    obtain ⟨cs', e1, e2⟩ := hy i (by omega)
    refine ⟨b, cs', n, D i, Pl i, rfl, e1, e2, fun x hx => hw x ?_⟩
    rw [weights_slice ht]
    exact List.mem_cons_of_mem _ (List.mem_append_left _ (weights_mem_all (List.mem_map.2 ⟨i, List.mem_range.2 hi, rfl⟩) x hx))
theorem ops_reach {H : Type} {enc : TypeId × Value → H} {W : World} {base : Nat} {spare : Nat → Bool} {held : Bool} {v : Value} {fuel : Nat} {d : DataW H} {q : List MemPlace}
    (hf : DataW.trod enc Try.prog W base spare held fuel 45 [v] = some (d, q)) (hw : ∀ n ∈ d.weights Try.prog 45, n ≤ reachBytes) {es : List Opn} (h : OpsOf W v es) (i : Nat) (hi : i < es.length) : (es.getD i default).cs.length ≤ reachBytes := by
  obtain ⟨ao, cap, rfl⟩ := h.shape
  obtain ⟨b', o', e1, u, c0, c1, c2, c3, c4, c5⟩ := h.at i hi
  obtain ⟨b, cs', n, d', q', rfl, g1, g2, g3⟩ := elem_reach Try.underlying45 hf hw i hi
  cases e1
  have hC : Try.prog.cellsOf 48 = 5 := by kernel_rfl
  rw [hC] at g1
  obtain ⟨_, hlen, hcell⟩ := World.cells?_some g1
  obtain ⟨xs, k, hk, hxy, _, hxl, hfs⟩ := DataW.trod_struct Try.underlying48 g2
  injection hxy with hd _
  rw [hd, weights_struct Try.underlying48] at g3
  have g := hfs 3 _ rfl
  have hc1 : Try.prog.cellsOf 46 = 1 := by kernel_rfl
  have e := hcell 3 (by omega)
  rw [show cs'[3]? = some (cs'.getD 3 undef) by simp [List.getD, show 3 < cs'.length by omega], add_add, Go.WideShapes.add_plain, ← Nat.add_assoc, c3] at e
  have hl3 : 3 < xs.length := by rw [hxl]; decide
  have g' : DataW.trod enc Try.prog W base spare held k 46 [u] = some xs[3] := by
    rw [Option.some.inj e, ← List.getElem?_eq_getElem hl3, ← g]
    congr 1
    exact (take1_drop cs' 3 undef (by omega)).symm
  exact cs_reach (d := xs[3].1) (q := xs[3].2) g' (fun x hx => g3 x (DataW.weights_mem_each (j := 3) (t := 46) rfl (by rw [List.getElem?_map, List.getElem?_eq_getElem hl3]; rfl) x hx)) c5
theorem prs_reach {H : Type} {enc : TypeId × Value → H} {W : World} {base : Nat} {spare : Nat → Bool} {held : Bool} {v : Value} {fuel : Nat} {d : DataW H} {q : List MemPlace}
    (hf : DataW.trod enc Try.prog W base spare held fuel 22 [v] = some (d, q)) (hw : ∀ n ∈ d.weights Try.prog 22, n ≤ reachBytes) {ps : List (List Opn)} (h : PrsOf W v ps) (k : Nat) (hk : k < ps.length) (j : Nat) (hj : j < (ps.getD k []).length) : ((ps.getD k []).getD j default).cs.length ≤ reachBytes := by
  obtain ⟨ao, cap, rfl⟩ := h.shape
  obtain ⟨b', o', u, e1, c0, c1⟩ := h.at k hk
  obtain ⟨b, cs', n, d', q', rfl, g1, g2, g3⟩ := elem_reach Try.underlying22 hf hw k hk
  cases e1
  have hC : Try.prog.cellsOf 45 = 1 := by kernel_rfl
  rw [hC] at g1
  obtain ⟨_, hlen, hcell⟩ := World.cells?_some g1
  obtain ⟨u', rfl⟩ : ∃ u, cs' = [u] := by
    match cs', hlen with
    | [u], _ => exact ⟨u, rfl⟩
  have e := hcell 0 (by omega)
  rw [add_add, Go.WideShapes.add_plain] at e
  simp only [Nat.mul_one, Nat.add_zero] at e
  rw [c0] at e
  simp only [List.getElem?_cons_zero, Option.some.injEq] at e
  subst e
  exact ops_reach g2 g3 c1 j hj
theorem scr_reach {H : Type} {enc : TypeId × Value → H} {W : World} {base : Nat} {spare : Nat → Bool} {held : Bool} {s : Scr} {vp vl vd : Value} {d : DataW H} {ps : List MemPlace}
    (h : DataW.Trod enc Try.prog W base spare held 25 (scrV vp vl vd s) d ps) (hw : ∀ n ∈ d.weights Try.prog 25, n ≤ reachBytes) (hs : ScrAt W vp vl vd s) (k : Nat) (hk : k < s.ps.length) (j : Nat) (hj : j < (s.ps.getD k []).length) : ((s.ps.getD k []).getD j default).cs.length ≤ reachBytes := by
  obtain ⟨fuel, hf⟩ := h
  obtain ⟨xs, k', hk', hxy, _, hxl, hfs⟩ := DataW.trod_struct Try.underlying25 hf
  injection hxy with hd _
  rw [hd, weights_struct Try.underlying25] at hw
  have g := hfs 2 _ rfl
  have hl2 : 2 < xs.length := by rw [hxl]; decide
  have g' : DataW.trod enc Try.prog W base spare held k' 22 [vp] = some xs[2] := by
    rw [← List.getElem?_eq_getElem hl2, ← g]
    rfl
  exact prs_reach (d := xs[2].1) (q := xs[2].2) g' (fun x hx => hw x (DataW.weights_mem_each (j := 2) (t := 22) rfl (by rw [List.getElem?_map, List.getElem?_eq_getElem hl2]; rfl) x hx)) hs.p k hk j hj
end Go.Proofs.Ytpefjcmaggimhaa

