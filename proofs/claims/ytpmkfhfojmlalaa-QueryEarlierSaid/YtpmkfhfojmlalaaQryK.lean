
/-
  staithelaw22.ref: the walk.
-/
import Derived.Test.YtpmkfhfojmlalaaQryJ
namespace Go.Proofs.Ytpmkfhfojmlalaa
open Go.RowKit
set_option linter.unusedVariables false
set_option linter.unusedSimpArgs false
set_option maxRecDepth 100000

/-- These cells stand for the first k stamps. -/
def Stands (w : World) (ss : List (Int × List Int)) (l : List (Int × Int × Value)) : Prop :=
  ∀ j, j < l.length → ∃ u, l[j]? = some (tidE (ss.getD j (0, [])).1, clkE (ss.getD j (0, [])).1, u) ∧ Src w u (ss.getD j (0, [])).2
theorem Stands.more {w : World} {ss : List (Int × List Int)} {l : List (Int × Int × Value)} (h : Stands w ss l) {u : Value} (hs : Src w u (ss.getD l.length (0, [])).2) : Stands w ss (l ++ [(tidE (ss.getD l.length (0, [])).1, clkE (ss.getD l.length (0, [])).1, u)]) := by
  intro j hj
  rw [List.length_append, List.length_singleton] at hj
  by_cases hjl : j < l.length
  · obtain ⟨v, h1, h2⟩ := h j hjl
    exact ⟨v, by rw [List.getElem?_append_left hjl]; exact h1, h2⟩
  · have : j = l.length := by omega
    subst this
    exact ⟨u, by simp, hs⟩

theorem load_three {w : World} {p : Nat} {a b c : Value} (h : w.heap[p]? = some (Obj.cells #[a, b, c] 37 (0, 0))) :
    (loadVar 37 ⟨p, 0, none⟩).run Try.prog w = .ok (.agg #[a, b, c]) w :=
  run_loadVar_mid (P := Try.prog) w p 0 37 [a, b, c] _ (by
    intro j v hj
    simp only [World.cell?, h, Nat.zero_add]
    match j, hj with
    | 0, hj => simpa using hj
    | 1, hj => simpa using hj
    | 2, hj => simpa using hj
    | j + 3, hj => simp at hj) Try.underlying37 rfl (by kernel_rfl)
theorem results_cell_one {P : Program} {fn : Func} {t : Tmp} {ty : TypeId} (h : fn.results = #[.cell t ty]) (tmps : Array Value) (w : World) (ad : Addr) (v : Value) (ht : tmps.getD t undef = .pointer (some ad)) (hl : (loadVar ty ad).run P w = .ok v w) :
    (results fn tmps).run P w = .ok v w := by
  have ht' : tmps[t]?.getD undef = .pointer (some ad) := by simpa using ht
  simp [results, h, ht', asAddr, hl]
theorem rsts_of {w0 w : World} {base cap : Nat} {ao : Option Addr} {e : TypeId} {l : List (Int × Int × Value)} {ss : List (Int × List Int)} (h : w.ownsRow base e 3 (.slice ao l.length cap) l.length (r3 l)) (hs : Stands w0 ss l) (hB : Below w0.heap.size w0 w) (hl : l.length = ss.length) : RStsOf w (.slice ao l.length cap) ss := by
  rcases h.2 with ⟨he, h0⟩ | ⟨g, c, cur, he, _, hg, _, _, hcs, ht⟩
  · exact ⟨ao, cap, by rw [hl], fun hp => by omega⟩
  · cases he
    refine ⟨_, cap, by rw [hl], fun hp => ⟨g, 0, rfl, fun i hi => ?_⟩⟩
    obtain ⟨u, h1, h2⟩ := hs i (by omega)
    obtain ⟨q0, q1, q2⟩ := r3_at l i _ h1
    have cell : ∀ c v, c < 3 → (r3 l)[i * 3 + c]? = some v → w.cell? ⟨g, 0 + i * 3 + c, none⟩ = some v := fun c v hc hv => by
      rw [← ht, List.getElem?_take_of_lt (by omega)] at hv
      simp only [World.cell?, hg, Nat.zero_add]
      show cur[i * 3 + c]? = _
      rw [← Array.getElem?_toList]; exact hv
    exact ⟨cell 0 _ (by omega) q0, cell 1 _ (by omega) q1, u, cell 2 _ (by omega) q2, h2.below (Nat.le_refl _) hB⟩
theorem recs_of {w : World} {base cap : Nat} {ao : Option Addr} {e : TypeId} {rs : List Rec} (h : w.ownsRow base e 6 (.slice ao rs.length cap) rs.length (r6 rs)) : RecsOf w (.slice ao rs.length cap) rs := by
  rcases h.2 with ⟨he, h0⟩ | ⟨g, c, cur, he, _, hg, _, _, hcs, ht⟩
  · exact ⟨ao, cap, rfl, fun hp => by omega⟩
  · cases he
    refine ⟨_, cap, rfl, fun hp => ⟨g, 0, rfl, fun i hi => ?_⟩⟩
    have hr : rs[i]? = some (rs.getD i default) := by simp [List.getD, hi]
    have at' := r6_at rs i _ hr
    have cell : ∀ c v, c < 6 → (r6 rs)[i * 6 + c]? = some v → w.cell? ⟨g, 0 + i * 6 + c, none⟩ = some v := fun c v hc hv => by
      rw [← ht, List.getElem?_take_of_lt (by omega)] at hv
      simp only [World.cell?, hg, Nat.zero_add]
      show cur[i * 6 + c]? = _
      rw [← Array.getElem?_toList]; exact hv
    exact ⟨cell 0 _ (by omega) (at' 0 _ rfl), cell 1 _ (by omega) (at' 1 _ rfl), cell 2 _ (by omega) (at' 2 _ rfl), cell 3 _ (by omega) (at' 3 _ rfl), cell 4 _ (by omega) (at' 4 _ rfl), cell 5 _ (by omega) (at' 5 _ rfl)⟩

def RefPost (ve : Value) (es : List Ev) (ss : List (Int × List Int)) (rs : List Rec) (w : World) (r : Ending) (w' : World) : Prop :=
  ∃ vS vR, r = .returned (.agg #[ve, vS, vR]) ∧ RLogOf w' ve vS vR es ss rs ∧ Below w.heap.size w w'

theorem ref_start (w : World) (ve vs vr : Value) :
    S1At w ve vs vr (.slice none 0 0) [] (((w.alloc (.cells #[ve, vs, vr] 26)).alloc (.cells #[.slice none 0 0, .slice none 0 0, .slice none 0 0] 37)).alloc (.cells #[ve, .slice none 0 0, .slice none 0 0] 37)) := by
  have a0 := heap_push w (.cells #[ve, vs, vr] 26) rfl
  have a1 := heap_push (w.alloc (.cells #[ve, vs, vr] 26)) (.cells #[.slice none 0 0, .slice none 0 0, .slice none 0 0] 37) (size_alloc w _)
  have a2 := heap_push ((w.alloc (.cells #[ve, vs, vr] 26)).alloc (.cells #[.slice none 0 0, .slice none 0 0, .slice none 0 0] 37)) (.cells #[ve, .slice none 0 0, .slice none 0 0] 37) (n := w.heap.size + 1 + 1) (by rw [size_alloc, size_alloc])
  exact ⟨push_old _ _ (push_old _ _ a0), push_old _ _ a1, a2, ⟨rfl, .inl ⟨rfl, rfl⟩⟩, (((Below.refl _ _).alloc (Nat.le_refl _) _).alloc (by simp) _).alloc (by simp; omega) _⟩

set_option maxHeartbeats 2000000 in
theorem ref_any (ve vs vr : Value) (es : List Ev) (ss : List (Int × List Int)) (rs : List Rec) (w : World) (h : LogOf w ve vs vr es ss rs) :
    Calls Try.prog 10 #[.agg #[ve, vs, vr]] w (RefPost ve es ss rs w) := by
  have LW := Lib.hid h
  obtain ⟨ao, ca, rfl⟩ := h.evs.shape
  obtain ⟨bo, cb, rfl⟩ := h.sts.shape
  obtain ⟨co, cc, rfl⟩ := h.recs.shape
  have hls := h.ls
  have hlr := h.lr
  obtain ⟨si, hsi, hs0, hs1, hs2⟩ := info_parts sinfo
  obtain ⟨ri, hri, hr0, hr1, hr2⟩ := info_parts recinfo
  clear h
  go_enter Try.func10, Try.ntmps10
  go_wp2_with fail
  go_loopw [17] (fun i wr => ∃ (l : List (Int × Int × Value)) (vS : Value), l.length ≤ ss.length ∧ i = .int .i64 l.length ∧ Stands w ss l ∧ S1At w (.slice ao es.length ca) (.slice bo ss.length cb) (.slice co rs.length cc) vS l wr) (fun i _ => ss.length - (intOf i).toNat)
  case atStart => exact ⟨[], .slice none 0 0, by simp, rfl, fun j hj => by simp at hj, ref_start w _ _ _⟩
  case round =>
    obtain ⟨l, vS, hk, rfl, hst, hat⟩ := hrel
    obtain ⟨aS, cS, rfl⟩ := owns_slice hat.row
    have AT := Lib.hid hat
    have ST := Lib.hid hst
    clear hat hst
    by_cases hlt : l.length < ss.length
    · have hlt' : (l.length : Int) < ss.length := by omega
      obtain ⟨sb, so, rfl, hsa⟩ := (LW.out.below AT.out.bel).sts.at l.length hlt
      obtain ⟨hwf, c0, u, c1, hsrc⟩ := hsa
      obtain ⟨_, _, e, hsw⟩ := LW.out.sts.at l.length hlt
      cases e
      have hu : Src w u (ss.getD l.length (0, [])).2 := by
        obtain ⟨_, _, u', h1, h2⟩ := hsw
        have := (AT.out.bel.cell (p := ⟨sb, so + l.length * 2 + 1, none⟩) (block_lt_of_cell h1)).trans h1
        rw [c1] at this
        cases this
        exact h2
      obtain ⟨au, cu, rfl⟩ := src_len hu
      have SU := Lib.hid hu
      have MORE := Lib.hid (ST.out.more hu)
      obtain ⟨⟨e, cs⟩, hse⟩ : ∃ s, ss.getD l.length (0, []) = s := ⟨_, rfl⟩
      rw [hse] at hwf c0 c1 MORE
      have WF := Lib.hid hwf
      have h0 := hwf.1
      have h1 := hwf.2
      dsimp only at h0 h1 c0
      have hlow := u64_low e h0 h1
      clear hsrc hsw hu hse hwf
      go_wp2_with fail
      refine (ref_read_any e _ h0 h1).mono ?_
      rintro r w1 ⟨rfl, hB1⟩
      have BR := (Below.refl wr.heap.size wr).alloc (Nat.le_refl _) (.cells #[.int .u64 e, .slice au cs.length cu] 55)
      have hs1' : (wr.alloc (.cells #[.int .u64 e, .slice au cs.length cu] 55)).heap[wr.heap.size]? = _ := heap_alloc_new wr _
      have hst1 := (hB1.block _ (lt_of_heap hs1')).trans hs1'
      have B1 := below_trans BR hB1 (by simp)
      obtain ⟨W2, hW2⟩ : ∃ W2, w1.alloc (.cells #[.bool (nE e), .bool (xE e), .int .i64 (tid0 e), .int .i64 (clk0 e)] 65) = W2 := ⟨_, rfl⟩
      have BB2 : Below w1.heap.size w1 W2 := by rw [← hW2]; exact (Below.refl _ _).alloc (Nat.le_refl _) _
      have hz2 : W2.heap.size = w1.heap.size + 1 := by rw [← hW2, size_alloc]
      have he2 : W2.heap[w1.heap.size]? = some (Obj.cells #[.bool (nE e), .bool (xE e), .int .i64 (tid0 e), .int .i64 (clk0 e)] 65 (0, 0)) := by rw [← hW2]; exact heap_alloc_new w1 _
      have hst2 := (BB2.block _ (lt_of_heap hst1)).trans hst1
      have u1 : W2.cell? ⟨wr.heap.size, 1, none⟩ = some (.slice au cs.length cu) := by simp only [World.cell?, hst2]; rfl
      have B2 := below_trans B1 BB2 B1.size
      obtain ⟨W3, hW3⟩ : ∃ W3, W2.alloc (.cells #[.int .i64 (-1), .int .i64 0, .slice au cs.length cu] 63) = W3 := ⟨_, rfl⟩
      have BB3 : Below W2.heap.size W2 W3 := by rw [← hW3]; exact (Below.refl _ _).alloc (Nat.le_refl _) _
      have hr3 : W3.heap[w1.heap.size + 1]? = some (Obj.cells #[.int .i64 (-1), .int .i64 0, .slice au cs.length cu] 63 (0, 0)) := by rw [← hW3]; exact heap_push W2 _ hz2
      have he3 := (BB3.block _ (lt_of_heap he2)).trans he2
      have k0 : W3.cell? ⟨w1.heap.size, 0, none⟩ = some (.bool (nE e)) := by simp only [World.cell?, he3]; rfl
      have k1 : W3.cell? ⟨w1.heap.size, 1, none⟩ = some (.bool (xE e)) := by simp only [World.cell?, he3]; rfl
      have k2 : W3.cell? ⟨w1.heap.size, 2, none⟩ = some (.int .i64 (tid0 e)) := by simp only [World.cell?, he3]; rfl
      have k3 : W3.cell? ⟨w1.heap.size, 3, none⟩ = some (.int .i64 (clk0 e)) := by simp only [World.cell?, he3]; rfl
      have B3 := below_trans B2 BB3 B2.size
      have HLE := Lib.hid (show wr.heap.size ≤ w1.heap.size + 1 by have := B1.size; omega)
      have HB3 := Lib.hid B3
      have HE3 := Lib.hid he3
      have HR3 := Lib.hid hr3
      clear hs1' hst1 BR BB2 BB3 B1 B2 B3 he2 he3 hst2 hr3 hB1
      obtain ⟨pl, hpl⟩ : ∃ pl, okE e = pl := ⟨_, rfl⟩
      have PL := Lib.hid ((plE e).trans hpl)
      go_wp2_with fail
      refine (ref_plain_val _ _ _ _ _ pl PL.out _).mono ?_
      rintro r w4 ⟨rfl, hB4⟩
      have BB4 := Lib.hid (below_trans HB3.out hB4 HB3.out.size)
      have r4 := (hB4.block _ (lt_of_heap HR3.out)).trans HR3.out
      have e4 := (hB4.block _ (lt_of_heap HE3.out)).trans HE3.out
      clear hB4 k0 k1 k2 k3 hW2 hW3 hz2 u1
      cases pl with
      | false =>
        have t0 : tidE e = -1 := by unfold tidE; rw [hpl]; rfl
        have t1 : clkE e = 0 := by unfold clkE; rw [hpl]; rfl
        rw [t0, t1] at MORE
        have A4 := AT.out.below BB4.out
        have HA4 := Lib.hid A4
        obtain ⟨x0, x1, x2, xf⟩ := three_cells r4
        obtain ⟨y0, y1, y2, yf⟩ := three_cells A4.out
        clear A4 r4 e4 t0 t1 hpl c0 c1 h0 h1 hlow
        go_wp2_with (at_builtin; refine wpList_append_own _ rfl _ _ 34 rfl w.heap.size 63 si _ 3 40 Try.underlying34 hsi hs0 hs1 hs2 rfl (by decide) _ _ _ rfl (show World.ownsRow _ _ _ _ _ _ _ from HA4.out.row.alloc _) ⟨w4.heap.size, 0, none⟩ 1 1 [.int .i64 (-1), .int .i64 0, .slice au cs.length cu] rfl rfl ?c1 ?c2 ?c3 ?c4 ?c5 ?_)
        case c1 => exact fun j u hj => range_lit w4 [.int .i64 (-1), .int .i64 0, .slice au cs.length cu] _ j u hj
        case c2 => intro u hu; simp at hu; rcases hu with rfl | rfl | rfl <;> rfl
        case c3 => unfold maxLen; omega
        case c4 => omega
        case c5 => have := HA4.out.bel.size; rw [size_alloc]; omega
        intro vS' w7 hown7 hgrow7 _
        obtain ⟨aS', cS', rfl⟩ := owns_slice hown7
        obtain ⟨o7, A7⟩ := s1_next HA4.out hown7 hgrow7
        obtain ⟨z0, z1, z2, zf⟩ := three_cells o7
        have A8 := Lib.hid A7
        clear hown7 hgrow7 o7 A7 x0 x1 x2 xf y0 y1 y2 yf
        go_wp2_with fail
        go_roundw
        case rel => exact ⟨_, _, by rw [List.length_append, List.length_singleton]; omega, by rw [List.length_append, List.length_singleton]; go_num, MORE.out, A8.out⟩
        case measure => simp [intOf] <;> omega
      | true =>
        have t0 : tidE e = tid0 e := by unfold tidE tid0; rw [hpl]; rfl
        have t1 : clkE e = clk0 e := by unfold clkE clk0; rw [hpl]
        rw [t0, t1] at MORE
        obtain ⟨f0, f1, f2, ff⟩ := three_cells r4
        have q2 : w4.cell? ⟨w1.heap.size, 2, none⟩ = some (.int .i64 (tid0 e)) := by simp only [World.cell?, e4]; rfl
        have q3 : w4.cell? ⟨w1.heap.size, 3, none⟩ = some (.int .i64 (clk0 e)) := by simp only [World.cell?, e4]; rfl
        obtain ⟨X5, hX5⟩ : ∃ X, (w4.setCell ⟨w1.heap.size + 1, 0, none⟩ (.int .i64 (tid0 e))).setCell ⟨w1.heap.size + 1, 1, none⟩ (.int .i64 (clk0 e)) = X := ⟨_, rfl⟩
        have r5 : X5.heap[w1.heap.size + 1]? = some (Obj.cells #[.int .i64 (tid0 e), .int .i64 (clk0 e), .slice au cs.length cu] 63 (0, 0)) := by rw [← hX5]; exact three_set1 (three_set0 r4)
        have hle : wr.heap.size ≤ w1.heap.size + 1 := HLE.out
        have A4 := AT.out.below (show Below wr.heap.size wr X5 by rw [← hX5]; exact (BB4.out.setCell hle _).setCell hle _)
        have HA4 := Lib.hid A4
        obtain ⟨x0, x1, x2, xf⟩ := three_cells r5
        obtain ⟨y0, y1, y2, yf⟩ := three_cells A4.out
        clear A4 r4 r5 e4 t0 t1 hpl c0 c1 h0 h1 hlow
        go_wp2_with (at_builtin; refine wpList_append_own _ rfl _ _ 34 rfl w.heap.size 63 si _ 3 40 Try.underlying34 hsi hs0 hs1 hs2 rfl (by decide) _ _ _ rfl (show World.ownsRow _ _ _ _ _ _ _ from HA4.out.row.alloc _) ⟨X5.heap.size, 0, none⟩ 1 1 [.int .i64 (tid0 e), .int .i64 (clk0 e), .slice au cs.length cu] rfl rfl ?c1 ?c2 ?c3 ?c4 ?c5 ?_)
        case c1 => exact fun j u hj => range_lit X5 [.int .i64 (tid0 e), .int .i64 (clk0 e), .slice au cs.length cu] _ j u hj
        case c2 => intro u hu; simp at hu; rcases hu with rfl | rfl | rfl <;> rfl
        case c3 => unfold maxLen; omega
        case c4 => omega
        case c5 => have := HA4.out.bel.size; rw [size_alloc]; omega
        intro vS' w7 hown7 hgrow7 _
        obtain ⟨aS', cS', rfl⟩ := owns_slice hown7
        obtain ⟨o7, A7⟩ := s1_next HA4.out hown7 hgrow7
        obtain ⟨z0, z1, z2, zf⟩ := three_cells o7
        have A8 := Lib.hid A7
        clear hown7 hgrow7 o7 A7 x0 x1 x2 xf y0 y1 y2 yf
        go_wp2_with fail
        go_roundw
        case rel => exact ⟨_, _, by rw [List.length_append, List.length_singleton]; omega, by rw [List.length_append, List.length_singleton]; go_num, MORE.out, A8.out⟩
        case measure => simp [intOf] <;> omega
    · have hll : l.length = ss.length := by omega
      obtain ⟨y0, y1, y2, yf⟩ := three_cells AT.out.out
      obtain ⟨x0, x1, x2, xf⟩ := three_cells AT.out.box
      have S2 := Lib.hid (show S2At w (.slice ao es.length ca) (.slice bo ss.length cb) (.slice co rs.length cc) (.slice aS l.length cS) (.slice none 0 0) l (rs.take 0) wr from ⟨AT.out.box, AT.out.res, AT.out.out, AT.out.row, ⟨rfl, .inl ⟨rfl, rfl⟩⟩, AT.out.bel⟩)
      have HLL := Lib.hid hll
      have hge : decide ((l.length : Int) < (ss.length : Int)) = false := decide_eq_false (by omega)
      have hge' : decide (l.length < ss.length) = false := decide_eq_false (by omega)
      clear hlt hll
      go_wp2_with fail
      go_loopw [55] (fun i w9 => ∃ (k : Nat) (vR : Value), k ≤ rs.length ∧ i = .int .i64 k ∧ S2At w (.slice ao es.length ca) (.slice bo ss.length cb) (.slice co rs.length cc) (.slice aS l.length cS) vR l (rs.take k) w9) (fun i _ => rs.length - (intOf i).toNat)
      case atStart => exact ⟨0, .slice none 0 0, by omega, rfl, S2.out⟩
      case round =>
        obtain ⟨k, vR, hk2, rfl, hat2⟩ := hrel
        have htl : (rs.take k).length = k := by rw [List.length_take]; omega
        have hrow := hat2.recs
        rw [htl] at hrow
        obtain ⟨aR, cR, rfl⟩ := owns_slice hrow
        have TL := Lib.hid htl
        clear htl hrow
        have AT2 := Lib.hid hat2
        clear hat2 x0 x1 x2 xf y0 y1 y2 yf
        by_cases hlt : k < rs.length
        · have hlt' : (k : Int) < rs.length := by omega
          obtain ⟨rb, ro, rfl, hra⟩ := (LW.out.below AT2.out.bel).recs.at k hlt
          obtain ⟨c0, c1, c2, c3, c4, c5⟩ := hra
          have TK := Lib.hid (show rs.take (k + 1) = rs.take k ++ [rs.getD k default] by
            rw [List.take_add_one]; simp [List.getD, show k < rs.length by omega])
          obtain ⟨rr, hrr⟩ : ∃ r, rs.getD k default = r := ⟨_, rfl⟩
          rw [hrr] at c0 c1 c2 c3 c4 c5 TK
          obtain ⟨X, hX⟩ : ∃ X, wr.alloc (.cells #[.int .i64 rr.g, .int .i64 rr.tid, .int .i64 rr.frm, .bool rr.gone, .int .i64 rr.till, .int .i64 rr.cut] 45) = X := ⟨_, rfl⟩
          have BX : Below wr.heap.size wr X := by rw [← hX]; exact (Below.refl _ _).alloc (Nat.le_refl _) _
          have hrX : X.heap[wr.heap.size]? = some (Obj.cells #[.int .i64 rr.g, .int .i64 rr.tid, .int .i64 rr.frm, .bool rr.gone, .int .i64 rr.till, .int .i64 rr.cut] 45 (0, 0)) := by rw [← hX]; exact heap_alloc_new wr _
          obtain ⟨r0, r1, r2, r3', r4, r5, _⟩ := six_cells hrX
          have AX := Lib.hid (AT2.out.below BX)
          obtain ⟨y0, y1, y2, yf⟩ := three_cells AX.out.out
          have ROW := Lib.hid (show X.ownsRow w.heap.size 70 6 (.slice aR k cR) k (r6 (rs.take k)) by have := AX.out.recs; rw [TL.out] at this; exact this)
          clear hrr BX hrX
          go_wp2_with (at_builtin; refine wpList_append_own _ rfl _ _ 35 rfl w.heap.size 70 ri _ 6 48 Try.underlying35 hri hr0 hr1 hr2 rfl (by decide) _ _ _ rfl (show World.ownsRow _ _ _ _ _ _ _ from ROW.out.alloc _) ⟨X.heap.size, 0, none⟩ 1 1 [.int .i64 rr.g, .int .i64 rr.tid, .int .i64 rr.frm, .bool rr.gone, .int .i64 rr.till, .int .i64 rr.cut] rfl rfl ?c1 ?c2 ?c3 ?c4 ?c5 ?_)
          case c1 => exact fun j u hj => range_lit X [.int .i64 rr.g, .int .i64 rr.tid, .int .i64 rr.frm, .bool rr.gone, .int .i64 rr.till, .int .i64 rr.cut] _ j u hj
          case c2 => intro u hu; simp at hu; rcases hu with rfl | rfl | rfl | rfl | rfl | rfl <;> rfl
          case c3 => unfold maxLen; omega
          case c4 => omega
          case c5 => have := AX.out.bel.size; rw [size_alloc]; omega
          intro vR' w7 hown7 hgrow7 _
          obtain ⟨aR', cR', rfl⟩ := owns_slice hown7
          obtain ⟨o7, A7⟩ := s2_next (rs := rs.take k) (r := rr) AX.out (by rw [TL.out]; exact hown7) hgrow7
          obtain ⟨z0, z1, z2, zf⟩ := three_cells o7
          rw [← TK.out] at A7
          have A8 := Lib.hid A7
          clear hown7 hgrow7 o7 A7 r0 r1 r2 r3' r4 r5 y0 y1 y2 yf c0 c1 c2 c3 c4 c5
          go_wp2_with fail
          go_roundw
          case rel => exact ⟨k + 1, _, by omega, by go_num, A8.out⟩
          case measure => simp [intOf] <;> omega
        · have hge2 : (rs.length : Int) ≤ k := by omega
          have TK := Lib.hid (show rs.take k = rs by rw [List.take_of_length_le (by omega)])
          obtain ⟨y0, y1, y2, yf⟩ := three_cells AT2.out.out
          obtain ⟨x0, x1, x2, xf⟩ := three_cells AT2.out.res
          clear hlt
          go_wp2_with fail
          have hres := three_set2 (u := .slice aR k cR) (three_set1 (u := .slice aS l.length cS) (three_set0 (u := .slice ao es.length ca) AT2.out.res))
          have hb1 : w.heap.size ≤ w.heap.size + 1 := by omega
          have kq : ∀ e, e ≠ 37 → KeepT e wr (((wr.setCell ⟨w.heap.size + 1, 0, none⟩ (.slice ao es.length ca)).setCell ⟨w.heap.size + 1, 1, none⟩ (.slice aS l.length cS)).setCell ⟨w.heap.size + 1, 2, none⟩ (.slice aR k cR)) := fun e he => ((keepT_set AT2.out.res he).trans (keepT_set (three_set0 AT2.out.res) he)).trans (keepT_set (three_set1 (three_set0 AT2.out.res)) he)
          have BE := ((AT2.out.bel.setCell hb1 (p := ⟨w.heap.size + 1, 0, none⟩) (.slice ao es.length ca)).setCell hb1 (p := ⟨w.heap.size + 1, 1, none⟩) (.slice aS l.length cS)).setCell hb1 (p := ⟨w.heap.size + 1, 2, none⟩) (.slice aR k cR)
          have RS := ownsRow_keep AT2.out.row (kq _ (by decide))
          have RR := ownsRow_keep AT2.out.recs (kq _ (by decide))
          rw [TL.out] at RR
          refine bodyPost_ret (v := .agg #[.slice ao es.length ca, .slice aS l.length cS, .slice aR k cR]) (results_cell_one Try.results10 _ _ _ _ rfl (load_three hres)) rfl ⟨_, _, rfl, ⟨LW.out.evs.below (Nat.le_refl _) BE, ?_, ?_, LW.out.le, LW.out.ls, LW.out.lr⟩, BE⟩
          · exact rsts_of RS ST.out BE HLL.out
          · have hkl : k = rs.length := by omega
            rw [TK.out] at RR
            subst hkl
            exact recs_of RR

end Go.Proofs.Ytpmkfhfojmlalaa

