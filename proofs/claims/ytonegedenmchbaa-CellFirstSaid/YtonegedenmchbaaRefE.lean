
/-
  staitheref01.Read and Plain (out of XRef1), staithelaw18.split, the example races.
-/
import Derived.Test.YtonegedenmchbaaCelJ
import Derived.Deep.DeepCutAuto
import Derived.Deep.MidRow
namespace Go.Proofs.Ytonegedenmchbaa
open Go.RowKit
set_option linter.unusedVariables false
set_option linter.unusedSimpArgs false
set_option maxRecDepth 100000

/-- Is it None, Tail; the reference's tid and clock; is it one at all. -/
def nE (e : Int) : Bool := decide (e = 0)
def xE (e : Int) : Bool := decide (e = 18446744073709551615)
def tid0 (e : Int) : Int := if okE e then e / 4294967296 - 1 else 0
def clk0 (e : Int) : Int := if okE e then e % 4294967296 else 0
def rdk (e : Int) : Bool := okE e || nE e || xE e

/-- An epoch of the reference as a value. -/
abbrev rE (e : Int) : Value := .agg #[.bool (nE e), .bool (xE e), .int .i64 (tid0 e), .int .i64 (clk0 e)]


theorem okE_nE {e : Int} (h : okE e = true) : nE e = false ∧ xE e = false := by
  obtain ⟨a, b, d, c⟩ := of_decide_eq_true h
  unfold nE xE
  constructor <;> (apply decide_eq_false; omega)

theorem ref_read_any (e : Int) (w : World) (h0 : 0 ≤ e) (h1 : e < 18446744073709551616) :
    Calls Try.prog 50 #[.int .i64 (e / 4294967296), .int .i64 (e % 4294967296)] w (RetB (.tuple #[rE e, .bool (rdk e)]) w) := by
  by_cases k1 : e = 0
  · subst k1
    have F := Lib.hid (show rE 0 = .agg #[.bool true, .bool false, .int .i64 0, .int .i64 0] ∧ rdk 0 = true from ⟨rfl, rfl⟩)
    go_enter Try.func50, Try.ntmps50
    go_wp2
    refine bodyPost_ret (v := .tuple #[.agg #[.bool true, .bool false, .int .i64 0, .int .i64 0], .bool true]) (by simp [results, Try.results50, go_sem]) rfl ⟨?_, (Below.refl _ _).alloc (Nat.le_refl _) _⟩
    rw [F.out.1, F.out.2]
  by_cases k2 : e = 18446744073709551615
  · subst k2
    have F := Lib.hid (show rE 18446744073709551615 = .agg #[.bool false, .bool true, .int .i64 0, .int .i64 0] ∧ rdk 18446744073709551615 = true from ⟨rfl, rfl⟩)
    go_enter Try.func50, Try.ntmps50
    go_wp2
    refine bodyPost_ret (v := .tuple #[.agg #[.bool false, .bool true, .int .i64 0, .int .i64 0], .bool true]) (by simp [results, Try.results50, go_sem]) rfl ⟨?_, (Below.refl _ _).alloc (Nat.le_refl _) _⟩
    rw [F.out.1, F.out.2]
  have m1 : nE e = false := decide_eq_false k1
  have m2 : xE e = false := decide_eq_false k2
  cases k3 : okE e with
  | true =>
    obtain ⟨a, b, c, d⟩ := of_decide_eq_true k3
    have F := Lib.hid (show rE e = .agg #[.bool false, .bool false, .int .i64 (e / 4294967296 - 1), .int .i64 (e % 4294967296)] ∧ rdk e = true from ⟨by simp [m1, m2, tid0, clk0, k3], by simp [rdk, k3]⟩)
    clear k1 k2 m1 m2 k3
    go_enter Try.func50, Try.ntmps50
    go_wp2
    refine bodyPost_ret (v := .tuple #[.agg #[.bool false, .bool false, .int .i64 (e / 4294967296 - 1), .int .i64 (e % 4294967296)], .bool true]) (by simp [results, Try.results50, go_sem]) rfl ⟨?_, (Below.refl _ _).alloc (Nat.le_refl _) _⟩
    rw [F.out.1, F.out.2]
  | false =>
    have hn := of_decide_eq_false k3
    have F := Lib.hid (show rE e = .agg #[.bool false, .bool false, .int .i64 0, .int .i64 0] ∧ rdk e = false from ⟨by simp [m1, m2, tid0, clk0, k3], by simp [rdk, k3, m1, m2]⟩)
    clear m1 m2 k3
    go_enter Try.func50, Try.ntmps50
    go_wp2
    all_goals (
      refine bodyPost_ret (v := .tuple #[.agg #[.bool false, .bool false, .int .i64 0, .int .i64 0], .bool false]) (by simp [results, Try.results50, go_sem]) rfl ⟨?_, (Below.refl _ _).alloc (Nat.le_refl _) _⟩
      rw [F.out.1, F.out.2])

theorem plE (e : Int) : (rdk e && !nE e && !xE e) = okE e := by
  cases h : okE e with
  | true => obtain ⟨a, b⟩ := okE_nE h; simp [rdk, h, a, b]
  | false => cases a : nE e <;> cases b : xE e <;> simp [rdk, h, a, b]

theorem ref_plain_val (n x ok : Bool) (t c : Int) (b : Bool) (h : (ok && !n && !x) = b) (w : World) :
    Calls Try.prog 51 #[.agg #[.bool n, .bool x, .int .i64 t, .int .i64 c], .bool ok] w (RetB (.bool b) w) := by
  have F := Lib.hid h
  clear h
  cases ok <;> cases n <;> cases x
  all_goals
    go_enter Try.func51, Try.ntmps51
    go_wp2
    go_ret
    exact ⟨by rw [← F.out]; rfl, (Below.refl _ _).alloc (Nat.le_refl _) _⟩


def splitV (e : Int) : Value := .tuple #[rE e, .bool (okE e)]
theorem below_drew {w w' : World} (h : Below w.drew.heap.size w.drew w') : Below w.heap.size w w' := ⟨h.os, h.tape, h.output, h.size, h.block⟩
theorem results_cell_tmp2 {P : Program} {fn : Func} {t u : Tmp} {ty : TypeId} (h : fn.results = #[.cell t ty, .tmp u]) (tmps : Array Value) (w : World) (ad : Addr) (v : Value) (ht : tmps.getD t undef = .pointer (some ad)) (hl : (loadVar ty ad).run P w = .ok v w) :
    (results fn tmps).run P w = .ok (.tuple #[v, tmps.getD u undef]) w := by
  have ht' : tmps[t]?.getD undef = .pointer (some ad) := by simpa using ht
  simp [results, h, ht', asAddr, hl]
theorem four_set {w : World} {p : Nat} {t : TypeId} {a0 a1 a2 a3 : Value} (u0 u1 u2 u3 : Value) (h : w.heap[p]? = some (Obj.cells #[a0, a1, a2, a3] t (0, 0))) :
    ((((w.setCell ⟨p, 0, none⟩ u0).setCell ⟨p, 1, none⟩ u1).setCell ⟨p, 2, none⟩ u2).setCell ⟨p, 3, none⟩ u3).heap[p]? = some (Obj.cells #[u0, u1, u2, u3] t (0, 0)) := by
  have h0 : (w.setCell ⟨p, 0, none⟩ u0).heap[p]? = _ := heap_setCell_same w p 0 _ _ _ h
  have h1 : (World.setCell _ ⟨p, 1, none⟩ u1).heap[p]? = _ := heap_setCell_same _ p 1 _ _ _ h0
  have h2 : (World.setCell _ ⟨p, 2, none⟩ u2).heap[p]? = _ := heap_setCell_same _ p 2 _ _ _ h1
  exact heap_setCell_same _ p 3 _ _ _ h2
theorem four_cells {w : World} {k : Nat} {t : TypeId} {a0 a1 a2 a3 : Value} (h : w.heap[k]? = some (Obj.cells #[a0, a1, a2, a3] t (0, 0))) :
    w.cell? ⟨k, 0, none⟩ = some a0 ∧ w.cell? ⟨k, 1, none⟩ = some a1 ∧ w.cell? ⟨k, 2, none⟩ = some a2 ∧ w.cell? ⟨k, 3, none⟩ = some a3 := by
  refine ⟨?_, ?_, ?_, ?_⟩ <;> (simp only [World.cell?, h]; rfl)
theorem load_four {w : World} {p : Nat} {t : TypeId} (n x : Bool) (a c : Int) (h : w.heap[p]? = some (Obj.cells #[.bool n, .bool x, .int .i64 a, .int .i64 c] t (0, 0))) :
    (loadVar 65 ⟨p, 0, none⟩).run Try.prog w = .ok (.agg #[.bool n, .bool x, .int .i64 a, .int .i64 c]) w :=
  run_loadVar_mid (P := Try.prog) w p 0 65 [.bool n, .bool x, .int .i64 a, .int .i64 c] _ (by
    intro j v hj
    simp only [World.cell?, h, Nat.zero_add]
    match j, hj with
    | 0, hj => simpa using hj
    | 1, hj => simpa using hj
    | 2, hj => simpa using hj
    | 3, hj => simpa using hj
    | j + 4, hj => simp at hj) Try.underlying65 rfl (by kernel_rfl)
theorem split_end {n x k : Bool} {a c : Int} {w W : World} {p : Nat} {t : TypeId} {a0 a1 a2 a3 : Value} {tmps : Array Value} (h : W.heap[p]? = some (Obj.cells #[a0, a1, a2, a3] t (0, 0))) (hb : Below w.heap.size w W) (hp : w.heap.size ≤ p)
    (ht : tmps.getD 2 undef = .pointer (some ⟨p, 0, none⟩)) (hk : tmps.getD 3 undef = .bool k) :
    bodyPost Try.prog Try.f24 (RetB (.tuple #[.agg #[.bool n, .bool x, .int .i64 a, .int .i64 c], .bool k]) w) Exit.ret { tmps := tmps, defers := [] }
      ((((W.setCell ⟨p, 0, none⟩ (.bool n)).setCell ⟨p, 1, none⟩ (.bool x)).setCell ⟨p, 2, none⟩ (.int .i64 a)).setCell ⟨p, 3, none⟩ (.int .i64 c)) := by
  refine bodyPost_ret (v := .tuple #[.agg #[.bool n, .bool x, .int .i64 a, .int .i64 c], tmps.getD 3 undef]) (results_cell_tmp2 Try.results24 _ _ _ _ ht (load_four n x a c (four_set _ _ _ _ h))) rfl ⟨by rw [hk], (((hb.setCell hp _).setCell hp _).setCell hp _).setCell hp _⟩
set_option maxHeartbeats 400000 in
theorem split_any (e : Int) (w : World) (h : U64 e) : Calls Try.prog 24 #[.int .u64 e] w (RetB (splitV e) w) := by
  have h0 := h.1
  have h1 := h.2
  have hb := u64_low e h0 h1
  unfold splitV
  obtain ⟨W0, hW0⟩ : ∃ W0, w.alloc (.cells #[.bool false, .bool false, .int .i64 0, .int .i64 0] 65) = W0 := ⟨_, rfl⟩
  have HW0 := Lib.hid hW0
  have Z0 := Lib.hid (show W0.heap[w.heap.size]? = some (.cells #[.bool false, .bool false, .int .i64 0, .int .i64 0] 65 (0, 0)) from by rw [← hW0]; exact heap_alloc_new w _)
  have B0 := Lib.hid (show Below w.heap.size w W0 from by rw [← hW0]; exact (Below.refl _ _).alloc (Nat.le_refl _) _)
  have H0 := Lib.hid h0
  have H1 := Lib.hid h1
  have PL := Lib.hid (plE e)
  clear hW0 h
  go_enter Try.func24, Try.ntmps24
  go_wp2_with fail
  rw [HW0.out]
  refine (ref_read_any e W0 H0.out H1.out).mono ?_
  rintro r w1 ⟨rfl, hb1⟩
  have Z1 := Lib.hid ((hb1.block _ (lt_of_heap Z0.out)).trans Z0.out)
  have B1 := Lib.hid (below_trans B0.out hb1 B0.out.size)
  have hne : w.heap.size ≠ w1.heap.size := by have := lt_of_heap Z1.out; omega
  unfold rE
  obtain ⟨n, hn⟩ : ∃ n, nE e = n := ⟨_, rfl⟩
  obtain ⟨x, hx⟩ : ∃ x, xE e = x := ⟨_, rfl⟩
  obtain ⟨a, ha⟩ : ∃ a, tid0 e = a := ⟨_, rfl⟩
  obtain ⟨c, hc⟩ : ∃ c, clk0 e = c := ⟨_, rfl⟩
  obtain ⟨k, hk⟩ : ∃ k, rdk e = k := ⟨_, rfl⟩
  obtain ⟨y, hy⟩ : ∃ y, okE e = y := ⟨_, rfl⟩
  have HV := Lib.hid (show rE e = .agg #[.bool n, .bool x, .int .i64 a, .int .i64 c] ∧ okE e = y from ⟨by show Value.agg _ = _; rw [hn, hx, ha, hc], hy⟩)
  rw [hn, hx, hk, hy] at PL
  rw [hn, hx, ha, hc, hk, hy]
  obtain ⟨W1, hW1⟩ : ∃ W1, w1.alloc (.cells #[.bool n, .bool x, .int .i64 a, .int .i64 c] 65) = W1 := ⟨_, rfl⟩
  have HW1 := Lib.hid hW1
  have BW1 := Lib.hid (show Below w1.heap.size w1 W1 from by rw [← hW1]; exact (Below.refl _ _).alloc (Nat.le_refl _) _)
  have Z2 := Lib.hid (show W1.heap[w1.heap.size]? = some (.cells #[.bool n, .bool x, .int .i64 a, .int .i64 c] 65 (0, 0)) from by rw [← hW1]; exact heap_alloc_new w1 _)
  clear hb1 hn hx ha hc hk hy h0 h1 hb hW1
  go_upto_region 2 with fail
  rw [HW1.out]
  obtain ⟨z0, z1, z2, z3⟩ := four_cells Z2.out
  have PC := Lib.hid (ref_plain_val n x k a c y PL.out W1.drew)
  go_region_held3 (fun w' => w'.cell? ⟨w1.heap.size, 0, none⟩ = some (.bool n) ∧ w'.cell? ⟨w1.heap.size, 1, none⟩ = some (.bool x) ∧ w'.cell? ⟨w1.heap.size, 2, none⟩ = some (.int .i64 a) ∧ w'.cell? ⟨w1.heap.size, 3, none⟩ = some (.int .i64 c)) (go_keep)
    (first | (go_at_call 51; (with_reducible refine PC.out.mono ?_); rintro r w2 ⟨rfl, hb2'⟩; have hb2 := below_drew hb2'; clear hb2'; have B2 := Lib.hid (below_trans (below_trans B1.out BW1.out B1.out.size) hb2 (Nat.le_trans B1.out.size BW1.out.size)); have hz := (hb2.block _ (Nat.lt_of_lt_of_le (lt_of_heap Z1.out) BW1.out.size)).trans ((BW1.out.block _ (lt_of_heap Z1.out)).trans Z1.out); have Z3 := Lib.hid hz; have f0 : w2.frozen? ⟨w.heap.size, 0, none⟩ = false := (by simp [World.frozen?, hz]); have f1 : w2.frozen? ⟨w.heap.size, 1, none⟩ = false := (by simp [World.frozen?, hz]); have f2 : w2.frozen? ⟨w.heap.size, 2, none⟩ = false := (by simp [World.frozen?, hz]); have f3 : w2.frozen? ⟨w.heap.size, 3, none⟩ = false := (by simp [World.frozen?, hz]); obtain ⟨y0, y1, y2, y3⟩ := four_cells hz; obtain ⟨x0, x1, x2, x3⟩ := four_cells ((hb2.block _ (lt_of_heap Z2.out)).trans Z2.out); clear hb2 hz))
  go_wp2_with fail
  rw [HV.out.1, HV.out.2]
  exact split_end Z3.out B2.out (Nat.le_refl _) rfl rfl
end Go.Proofs.Ytonegedenmchbaa

