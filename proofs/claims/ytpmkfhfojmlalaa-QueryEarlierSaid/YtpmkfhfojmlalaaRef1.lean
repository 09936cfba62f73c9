
/-
  The contracts of package staitheref01's functions and of the law's own helpers: what each call returns; no old memory is written.
-/
import Derived.Test.YtpmkfhfojmlalaaEpoch
import Derived.Deep.QuietTactic
import Derived.BigQuiet
namespace Go.Proofs.Ytpmkfhfojmlalaa
open Go.RowKit
set_option linter.unusedVariables false
set_option linter.unusedSimpArgs false

theorem bcell {W w1 : World} (hb : Below W.heap.size W w1) : (∀ b o, b < W.heap.size → w1.cell? ⟨b, o, none⟩ = W.cell? ⟨b, o, none⟩) ∧ (∀ b o, b < W.heap.size → w1.frozen? ⟨b, o, none⟩ = W.frozen? ⟨b, o, none⟩) :=
  ⟨fun b o h => hb.cell (p := ⟨b, o, none⟩) h, fun b o h => hb.frozen (p := ⟨b, o, none⟩) h⟩

/-- A contract that leaves the world alone, inside a region that draws its order and only reads. -/
theorem quiet_add_left {P : Program} {f : FuncId} {args : Array Value} {w : World} {a n : Nat} {v : Value}
    (h : Calls P f args (w.drewN (a + n)) fun e w' => e = .returned v ∧ w.drewN (a + n) = w') :
    Calls P f args (w.drewN (a + n)) fun e w'' => e = .returned v ∧ ∃ m, w'' = w.drewN (a + m) :=
  h.mono fun _ _ ⟨he, hm⟩ => ⟨he, n, hm.symm⟩
theorem quiet_left {P : Program} {f : FuncId} {args : Array Value} {w : World} {n : Nat} {v : Value}
    (h : Calls P f args (w.drewN n) fun e w' => e = .returned v ∧ w.drewN n = w') : Calls P f args (w.drewN n) fun e w'' => e = .returned v ∧ ∃ m, w'' = w.drewN m :=
  h.mono fun _ _ ⟨he, hm⟩ => ⟨he, n, hm.symm⟩
theorem below_drewN {B : Nat} {a w : World} (h : Below B a w) (n : Nat) : Below B a (w.drewN n) := ⟨h.os, h.tape, h.output, h.size, h.block⟩

/-- Is it None, Tail; the reference's tid and clock; is it one at all. -/
def nE (e : Int) : Bool := decide (e = 0)
def xE (e : Int) : Bool := decide (e = 18446744073709551615)
def tid0 (e : Int) : Int := if okE e then e / 4294967296 - 1 else 0
def clk0 (e : Int) : Int := if okE e then e % 4294967296 else 0
def rdk (e : Int) : Bool := okE e || nE e || xE e

/-- An epoch of the reference as a value. -/
abbrev rE (e : Int) : Value := .agg #[.bool (nE e), .bool (xE e), .int .i64 (tid0 e), .int .i64 (clk0 e)]

def RetB (v : Value) (w : World) (r : Ending) (w' : World) : Prop := r = .returned v ∧ Below w.heap.size w w'

theorem okE_nE {e : Int} (h : okE e = true) : nE e = false ∧ xE e = false := by
  obtain ⟨a, b, d, c⟩ := of_decide_eq_true h
  unfold nE xE
  constructor <;> (apply decide_eq_false; omega)

theorem ref_read_any (e : Int) (w : World) (h0 : 0 ≤ e) (h1 : e < 18446744073709551616) :
    Calls Try.prog 20 #[.int .i64 (e / 4294967296), .int .i64 (e % 4294967296)] w (RetB (.tuple #[rE e, .bool (rdk e)]) w) := by
  by_cases k1 : e = 0
  · subst k1
    have F := Lib.hid (show rE 0 = .agg #[.bool true, .bool false, .int .i64 0, .int .i64 0] ∧ rdk 0 = true from ⟨rfl, rfl⟩)
    go_enter Try.func20, Try.ntmps20
    go_wp2
    refine bodyPost_ret (v := .tuple #[.agg #[.bool true, .bool false, .int .i64 0, .int .i64 0], .bool true]) (by simp [results, Try.results20, go_sem]) rfl ⟨?_, (Below.refl _ _).alloc (Nat.le_refl _) _⟩
    rw [F.out.1, F.out.2]
  by_cases k2 : e = 18446744073709551615
  · subst k2
    have F := Lib.hid (show rE 18446744073709551615 = .agg #[.bool false, .bool true, .int .i64 0, .int .i64 0] ∧ rdk 18446744073709551615 = true from ⟨rfl, rfl⟩)
    go_enter Try.func20, Try.ntmps20
    go_wp2
    refine bodyPost_ret (v := .tuple #[.agg #[.bool false, .bool true, .int .i64 0, .int .i64 0], .bool true]) (by simp [results, Try.results20, go_sem]) rfl ⟨?_, (Below.refl _ _).alloc (Nat.le_refl _) _⟩
    rw [F.out.1, F.out.2]
  have m1 : nE e = false := decide_eq_false k1
  have m2 : xE e = false := decide_eq_false k2
  cases k3 : okE e with
  | true =>
    obtain ⟨a, b, c, d⟩ := of_decide_eq_true k3
    have F := Lib.hid (show rE e = .agg #[.bool false, .bool false, .int .i64 (e / 4294967296 - 1), .int .i64 (e % 4294967296)] ∧ rdk e = true from ⟨by simp [m1, m2, tid0, clk0, k3], by simp [rdk, k3]⟩)
    clear k1 k2 m1 m2 k3
    go_enter Try.func20, Try.ntmps20
    go_wp2
    refine bodyPost_ret (v := .tuple #[.agg #[.bool false, .bool false, .int .i64 (e / 4294967296 - 1), .int .i64 (e % 4294967296)], .bool true]) (by simp [results, Try.results20, go_sem]) rfl ⟨?_, (Below.refl _ _).alloc (Nat.le_refl _) _⟩
    rw [F.out.1, F.out.2]
  | false =>
    have hn := of_decide_eq_false k3
    have F := Lib.hid (show rE e = .agg #[.bool false, .bool false, .int .i64 0, .int .i64 0] ∧ rdk e = false from ⟨by simp [m1, m2, tid0, clk0, k3], by simp [rdk, k3, m1, m2]⟩)
    clear m1 m2 k3
    go_enter Try.func20, Try.ntmps20
    go_wp2
    all_goals (
      refine bodyPost_ret (v := .tuple #[.agg #[.bool false, .bool false, .int .i64 0, .int .i64 0], .bool false]) (by simp [results, Try.results20, go_sem]) rfl ⟨?_, (Below.refl _ _).alloc (Nat.le_refl _) _⟩
      rw [F.out.1, F.out.2])

theorem plE (e : Int) : (rdk e && !nE e && !xE e) = okE e := by
  cases h : okE e with
  | true => obtain ⟨a, b⟩ := okE_nE h; simp [rdk, h, a, b]
  | false => cases a : nE e <;> cases b : xE e <;> simp [rdk, h, a, b]

theorem ref_plain_val (n x ok : Bool) (t c : Int) (b : Bool) (h : (ok && !n && !x) = b) (w : World) :
    Calls Try.prog 21 #[.agg #[.bool n, .bool x, .int .i64 t, .int .i64 c], .bool ok] w (RetB (.bool b) w) := by
  have F := Lib.hid h
  clear h
  cases ok <;> cases n <;> cases x
  all_goals
    go_enter Try.func21, Try.ntmps21
    go_wp2
    go_ret
    exact ⟨by rw [← F.out]; rfl, (Below.refl _ _).alloc (Nat.le_refl _) _⟩

def rpkHi (t c : Int) : Int := if okT t c then t + 1 else 0
def rpkLo (t c : Int) : Int := if okT t c then c else 0
end Go.Proofs.Ytpmkfhfojmlalaa

