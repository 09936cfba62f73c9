
/-
  staitheref01.Read and Plain (out of XRef1), staithelaw18.split, the example races.
-/
import Derived.Test.YtkcnbkdpjlpppaaCelJ
import Derived.Deep.DeepCutAuto
import Derived.Deep.MidRow
namespace Go.Proofs.Ytkcnbkdpjlpppaa
open Go.RowKit
set_option linter.unusedVariables false
set_option linter.unusedSimpArgs false
set_option maxRecDepth 100000

/-- Is it None, Tail; the reference's tid and clock; is it one at all. -/
def nE (e : Int) : Bool := decide (e = 0)
def xE (e : Int) : Bool := decide (e = 18446744073709551615)
def tid0 (e : Int) : Int := if okE e then e / 4294967296 - 1 else 0
def clk0 (e : Int) : Int := if okE e then e % 4294967296 else 0
def rdk (e : Int) : Bool := okE e || nE e || xE e

/-- An epoch of the reference as a value. -/
abbrev rE (e : Int) : Value := .agg #[.bool (nE e), .bool (xE e), .int .i64 (tid0 e), .int .i64 (clk0 e)]


theorem okE_nE {e : Int} (h : okE e = true) : nE e = false ∧ xE e = false := by
  obtain ⟨a, b, d, c⟩ := of_decide_eq_true h
  unfold nE xE
  constructor <;> (apply decide_eq_false; omega)

theorem ref_read_any (e : Int) (w : World) (h0 : 0 ≤ e) (h1 : e < 18446744073709551616) :
    Calls Try.prog 6 #[.int .i64 (e / 4294967296), .int .i64 (e % 4294967296)] w (RetB (.tuple #[rE e, .bool (rdk e)]) w) := by
  by_cases k1 : e = 0
  · subst k1
    have F := Lib.hid (show rE 0 = .agg #[.bool true, .bool false, .int .i64 0, .int .i64 0] ∧ rdk 0 = true from ⟨rfl, rfl⟩)
    go_enter Try.func6, Try.ntmps6
    go_wp2
    refine bodyPost_ret (v := .tuple #[.agg #[.bool true, .bool false, .int .i64 0, .int .i64 0], .bool true]) (by simp [results, Try.results6, go_sem]) rfl ⟨?_, (Below.refl _ _).alloc (Nat.le_refl _) _⟩
    rw [F.out.1, F.out.2]
  by_cases k2 : e = 18446744073709551615
  · subst k2
    have F := Lib.hid (show rE 18446744073709551615 = .agg #[.bool false, .bool true, .int .i64 0, .int .i64 0] ∧ rdk 18446744073709551615 = true from ⟨rfl, rfl⟩)
    go_enter Try.func6, Try.ntmps6
    go_wp2
    refine bodyPost_ret (v := .tuple #[.agg #[.bool false, .bool true, .int .i64 0, .int .i64 0], .bool true]) (by simp [results, Try.results6, go_sem]) rfl ⟨?_, (Below.refl _ _).alloc (Nat.le_refl _) _⟩
    rw [F.out.1, F.out.2]
  have m1 : nE e = false := decide_eq_false k1
  have m2 : xE e = false := decide_eq_false k2
  cases k3 : okE e with
  | true =>
    obtain ⟨a, b, c, d⟩ := of_decide_eq_true k3
    have F := Lib.hid (show rE e = .agg #[.bool false, .bool false, .int .i64 (e / 4294967296 - 1), .int .i64 (e % 4294967296)] ∧ rdk e = true from ⟨by simp [m1, m2, tid0, clk0, k3], by simp [rdk, k3]⟩)
    clear k1 k2 m1 m2 k3
    go_enter Try.func6, Try.ntmps6
    go_wp2
    refine bodyPost_ret (v := .tuple #[.agg #[.bool false, .bool false, .int .i64 (e / 4294967296 - 1), .int .i64 (e % 4294967296)], .bool true]) (by simp [results, Try.results6, go_sem]) rfl ⟨?_, (Below.refl _ _).alloc (Nat.le_refl _) _⟩
    rw [F.out.1, F.out.2]
  | false =>
    have hn := of_decide_eq_false k3
    have F := Lib.hid (show rE e = .agg #[.bool false, .bool false, .int .i64 0, .int .i64 0] ∧ rdk e = false from ⟨by simp [m1, m2, tid0, clk0, k3], by simp [rdk, k3, m1, m2]⟩)
    clear m1 m2 k3
    go_enter Try.func6, Try.ntmps6
    go_wp2
    all_goals (
      refine bodyPost_ret (v := .tuple #[.agg #[.bool false, .bool false, .int .i64 0, .int .i64 0], .bool false]) (by simp [results, Try.results6, go_sem]) rfl ⟨?_, (Below.refl _ _).alloc (Nat.le_refl _) _⟩
      rw [F.out.1, F.out.2])

theorem plE (e : Int) : (rdk e && !nE e && !xE e) = okE e := by
  cases h : okE e with
  | true => obtain ⟨a, b⟩ := okE_nE h; simp [rdk, h, a, b]
  | false => cases a : nE e <;> cases b : xE e <;> simp [rdk, h, a, b]

theorem ref_plain_val (n x ok : Bool) (t c : Int) (b : Bool) (h : (ok && !n && !x) = b) (w : World) :
    Calls Try.prog 8 #[.agg #[.bool n, .bool x, .int .i64 t, .int .i64 c], .bool ok] w (RetB (.bool b) w) := by
  have F := Lib.hid h
  clear h
  cases ok <;> cases n <;> cases x
  all_goals
    go_enter Try.func8, Try.ntmps8
    go_wp2
    go_ret
    exact ⟨by rw [← F.out]; rfl, (Below.refl _ _).alloc (Nat.le_refl _) _⟩


def splitV (e : Int) : Value := .tuple #[rE e, .bool (okE e)]
theorem below_drew {w w' : World} (h : Below w.drew.heap.size w.drew w') : Below w.heap.size w w' := ⟨h.os, h.tape, h.output, h.size, h.block⟩
theorem results_cell_tmp2 {P : Program} {fn : Func} {t u : Tmp} {ty : TypeId} (h : fn.results = #[.cell t ty, .tmp u]) (tmps : Array Value) (w : World) (ad : Addr) (v : Value) (ht : tmps.getD t undef = .pointer (some ad)) (hl : (loadVar ty ad).run P w = .ok v w) :
    (results fn tmps).run P w = .ok (.tuple #[v, tmps.getD u undef]) w := by
  have ht' : tmps[t]?.getD undef = .pointer (some ad) := by simpa using ht
  simp [results, h, ht', asAddr, hl]
theorem four_set {w : World} {p : Nat} {t : TypeId} {a0 a1 a2 a3 : Value} (u0 u1 u2 u3 : Value) (h : w.heap[p]? = some (Obj.cells #[a0, a1, a2, a3] t (0, 0))) :
    ((((w.setCell ⟨p, 0, none⟩ u0).setCell ⟨p, 1, none⟩ u1).setCell ⟨p, 2, none⟩ u2).setCell ⟨p, 3, none⟩ u3).heap[p]? = some (Obj.cells #[u0, u1, u2, u3] t (0, 0)) := by
  have h0 : (w.setCell ⟨p, 0, none⟩ u0).heap[p]? = _ := heap_setCell_same w p 0 _ _ _ h
  have h1 : (World.setCell _ ⟨p, 1, none⟩ u1).heap[p]? = _ := heap_setCell_same _ p 1 _ _ _ h0
  have h2 : (World.setCell _ ⟨p, 2, none⟩ u2).heap[p]? = _ := heap_setCell_same _ p 2 _ _ _ h1
  exact heap_setCell_same _ p 3 _ _ _ h2
theorem four_cells {w : World} {k : Nat} {t : TypeId} {a0 a1 a2 a3 : Value} (h : w.heap[k]? = some (Obj.cells #[a0, a1, a2, a3] t (0, 0))) :
    w.cell? ⟨k, 0, none⟩ = some a0 ∧ w.cell? ⟨k, 1, none⟩ = some a1 ∧ w.cell? ⟨k, 2, none⟩ = some a2 ∧ w.cell? ⟨k, 3, none⟩ = some a3 := by
  refine ⟨?_, ?_, ?_, ?_⟩ <;> (simp only [World.cell?, h]; rfl)
theorem load_four {w : World} {p : Nat} {t : TypeId} (n x : Bool) (a c : Int) (h : w.heap[p]? = some (Obj.cells #[.bool n, .bool x, .int .i64 a, .int .i64 c] t (0, 0))) :
    (loadVar 28 ⟨p, 0, none⟩).run Try.prog w = .ok (.agg #[.bool n, .bool x, .int .i64 a, .int .i64 c]) w :=
  run_loadVar_mid (P := Try.prog) w p 0 28 [.bool n, .bool x, .int .i64 a, .int .i64 c] _ (by
    intro j v hj
    simp only [World.cell?, h, Nat.zero_add]
    match j, hj with
    | 0, hj => simpa using hj
    | 1, hj => simpa using hj
    | 2, hj => simpa using hj
    | 3, hj => simpa using hj
    | j + 4, hj => simp at hj) Try.underlying28 rfl (by kernel_rfl)
end Go.Proofs.Ytkcnbkdpjlpppaa

