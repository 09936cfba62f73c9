
/-
  Package sheet: scripts in memory; long, outside.
-/
import Derived.Test.YtpefjcmaggimhaaDeeN
import Derived.Test.YtpefjcmaggimhaaDeeO
import Derived.Test.YtpefjcmaggimhaaDeeM
import Derived.Test.YtpefjcmaggimhaaDeeJ
import Derived.Test.YtpefjcmaggimhaaRefTakeL
import Derived.Deep.DeepCutAuto
import Derived.Deep.RegionHeld3
import Derived.Deep.QuietTactic
namespace Go.Proofs.Ytpefjcmaggimhaa
open Go.RowKit
set_option linter.unusedVariables false
set_option linter.unusedSimpArgs false
set_option maxRecDepth 100000

theorem below_trans {n m : Nat} {w w1 w2 : World} (h : Below n w w1) (h2 : Below m w1 w2) (hm : n ≤ m) : Below n w w2 := h.trans (h2.mono hm)
instance : Inhabited Opn := ⟨zeroOp⟩
/-- A script. -/
structure Scr where
  t : Int
  m : Int
  ps : List (List Opn)
  pl : List Int
  dr : List Int
deriving DecidableEq
/-- These cells are this operation. -/
def OpC (w : World) (b o : Nat) (e : Opn) : Prop :=
  ∃ v, w.cell? ⟨b, o, none⟩ = some (.int .i64 e.k) ∧ w.cell? ⟨b, o + 1, none⟩ = some (.int .i64 e.a) ∧ w.cell? ⟨b, o + 2, none⟩ = some (.int .i64 e.b) ∧ w.cell? ⟨b, o + 3, none⟩ = some v ∧ w.cell? ⟨b, o + 4, none⟩ = some (.bool e.df) ∧ CssOf w v e.cs
theorem OpC.below {w w' : World} {b o : Nat} {e : Opn} (h : OpC w b o e) {n : Nat} (hn : w.heap.size ≤ n) (hB : Below n w w') : OpC w' b o e := by
  obtain ⟨v, c0, c1, c2, c3, c4, c5⟩ := h
  have hb : b < n := Nat.lt_of_lt_of_le (block_lt_of_cell c0) hn
  have f : ∀ o, w'.cell? ⟨b, o, none⟩ = w.cell? ⟨b, o, none⟩ := fun o => hB.cell (p := ⟨b, o, none⟩) hb
  exact ⟨v, (f _).trans c0, (f _).trans c1, (f _).trans c2, (f _).trans c3, (f _).trans c4, c5.below hn hB⟩
def OpsOf (w : World) (v : Value) (es : List Opn) : Prop :=
  ∃ ao cap, v = .slice ao es.length cap ∧ (0 < es.length → ∃ b o, ao = some ⟨b, o, none⟩ ∧ ∀ i, i < es.length → OpC w b (o + i * 5) (es.getD i default))
theorem OpsOf.below {w w' : World} {v : Value} {rs : List Opn} (h : OpsOf w v rs) {n : Nat} (hn : w.heap.size ≤ n) (hB : Below n w w') : OpsOf w' v rs := by
  obtain ⟨ao, cap, rfl, hc⟩ := h
  refine ⟨ao, cap, rfl, fun hp => ?_⟩
  obtain ⟨b, o, rfl, hd⟩ := hc hp
  exact ⟨b, o, rfl, fun i hi => (hd i hi).below hn hB⟩
theorem OpsOf.shape {w : World} {v : Value} {rs : List Opn} (h : OpsOf w v rs) : ∃ ao cap, v = .slice ao rs.length cap := by
  obtain ⟨ao, cap, rfl, hc⟩ := h
  exact ⟨ao, cap, rfl⟩
theorem OpsOf.at {w : World} {ao : Option Addr} {n cap : Nat} {rs : List Opn} (h : OpsOf w (.slice ao n cap) rs) (i : Nat) (hi : i < rs.length) : ∃ b o, ao = some ⟨b, o, none⟩ ∧ OpC w b (o + i * 5) (rs.getD i default) := by
  obtain ⟨_, _, e, hc⟩ := h
  cases e
  obtain ⟨b, o, rfl, hd⟩ := hc (by omega)
  exact ⟨b, o, rfl, hd i hi⟩
theorem OpsOf.nil (w : World) : OpsOf w (.slice none 0 0) [] := ⟨none, 0, rfl, fun h => by simp at h⟩
/-- A slice of slices of operations. -/
def PrsOf (w : World) (v : Value) (ps : List (List Opn)) : Prop :=
  ∃ ao cap, v = .slice ao ps.length cap ∧ (0 < ps.length → ∃ b o, ao = some ⟨b, o, none⟩ ∧ ∀ i, i < ps.length → ∃ u, w.cell? ⟨b, o + i, none⟩ = some u ∧ OpsOf w u (ps.getD i []))
theorem PrsOf.below {w w' : World} {v : Value} {rs : List (List Opn)} (h : PrsOf w v rs) {n : Nat} (hn : w.heap.size ≤ n) (hB : Below n w w') : PrsOf w' v rs := by
  obtain ⟨ao, cap, rfl, hc⟩ := h
  refine ⟨ao, cap, rfl, fun hp => ?_⟩
  obtain ⟨b, o, rfl, hd⟩ := hc hp
  refine ⟨b, o, rfl, fun i hi => ?_⟩
  obtain ⟨u, h1, h2⟩ := hd i hi
  exact ⟨u, (hB.cell (p := ⟨b, o + i, none⟩) (Nat.lt_of_lt_of_le (block_lt_of_cell h1) hn)).trans h1, h2.below hn hB⟩
theorem PrsOf.shape {w : World} {v : Value} {rs : List (List Opn)} (h : PrsOf w v rs) : ∃ ao cap, v = .slice ao rs.length cap := by
  obtain ⟨ao, cap, rfl, hc⟩ := h
  exact ⟨ao, cap, rfl⟩
theorem PrsOf.at {w : World} {ao : Option Addr} {n cap : Nat} {rs : List (List Opn)} (h : PrsOf w (.slice ao n cap) rs) (i : Nat) (hi : i < rs.length) : ∃ b o u, ao = some ⟨b, o, none⟩ ∧ w.cell? ⟨b, o + i, none⟩ = some u ∧ OpsOf w u (rs.getD i []) := by
  obtain ⟨_, _, e, hc⟩ := h
  cases e
  obtain ⟨b, o, rfl, hd⟩ := hc (by omega)
  obtain ⟨u, h1, h2⟩ := hd i hi
  exact ⟨b, o, u, rfl, h1, h2⟩
theorem PrsOf.nil (w : World) : PrsOf w (.slice none 0 0) [] := ⟨none, 0, rfl, fun h => by simp at h⟩
theorem slI_below {w w' : World} {v : Value} {xs : List Int} (h : SlI w v xs) {n : Nat} (hn : w.heap.size ≤ n) (hB : Below n w w') : SlI w' v xs :=
  h.next fun b o u hu => by rw [hB.cell (p := ⟨b, o, none⟩) (Nat.lt_of_lt_of_le (block_lt_of_cell hu) hn)]; exact hu
theorem slI_shape {w : World} {v : Value} {xs : List Int} (h : SlI w v xs) : ∃ ao cap, v = .slice ao xs.length cap := by
  obtain ⟨ao, cap, rfl, hc⟩ := h
  exact ⟨ao, cap, rfl⟩
theorem slI_at {w : World} {ao : Option Addr} {n cap : Nat} {xs : List Int} (h : SlI w (.slice ao n cap) xs) (i : Nat) (hi : i < xs.length) : ∃ b o, ao = some ⟨b, o, none⟩ ∧ w.cell? ⟨b, o + i, none⟩ = some (.int .i64 (xs.getD i 0)) := by
  obtain ⟨_, _, e, hc⟩ := h
  cases e
  obtain ⟨b, o, rfl, hd⟩ := hc (by omega)
  exact ⟨b, o, rfl, hd i hi⟩
/-- The values vp, vl, vd are this script's programs, plan and draws. -/
structure ScrAt (w : World) (vp vl vd : Value) (s : Scr) : Prop where
  p : PrsOf w vp s.ps
  l : SlI w vl s.pl
  d : SlI w vd s.dr
theorem ScrAt.below {w w' : World} {vp vl vd : Value} {s : Scr} (h : ScrAt w vp vl vd s) {n : Nat} (hn : w.heap.size ≤ n) (hB : Below n w w') : ScrAt w' vp vl vd s := ⟨h.p.below hn hB, slI_below h.l hn hB, slI_below h.d hn hB⟩
def scrC (vp vl vd : Value) (s : Scr) : Array Value := #[.int .i64 s.t, .int .i64 s.m, vp, vl, vd]
def scrV (vp vl vd : Value) (s : Scr) : Value := .agg (scrC vp vl vd s)

/-! ### long -/
def long1 (p : List Opn) : Bool := decide (32 < p.length)
def longB (s : Scr) : Bool := decide (8 < s.ps.length) || (decide (200 < s.pl.length) || (decide (64 < s.dr.length) || s.ps.any long1))
theorem long1_any (v : Value) (p : List Opn) (w : World) (h : OpsOf w v p) : Calls Try.prog 58 #[v] w fun r w' => r = .returned (.bool (long1 p)) ∧ w = w' := by
  obtain ⟨ao, cap, rfl⟩ := h.shape
  unfold long1
  obtain ⟨n, hn⟩ : ∃ n, p.length = n := ⟨_, rfl⟩
  rw [hn]
  clear hn h
  by_cases h1 : 32 < n
  · have h2 : (32 : Int) < n := by omega
    have h3 : decide (32 < n) = true := decide_eq_true h1
    rw [h3]
    clear h1
    go_enter Try.func58, Try.ntmps58
    go_wp2_with fail
    go_ret
    exact ⟨by simp [*], rfl⟩
  · have h2 : ¬ (32 : Int) < n := by omega
    have h3 : decide (32 < n) = false := decide_eq_false h1
    rw [h3]
    clear h1
    go_enter Try.func58, Try.ntmps58
    go_wp2_with fail
    go_ret
    exact ⟨by simp [*], rfl⟩
theorem getD_mem {ps : List (List Opn)} {k : Nat} (hk : k < ps.length) : ps.getD k [] ∈ ps := by
  rw [List.getD_eq_getElem?_getD, List.getElem?_eq_getElem hk]; exact List.getElem_mem _
theorem lidx_any (v : Value) (ps : List (List Opn)) (w : World) (h : PrsOf w v ps) (hN : ps.length ≤ 1000000) :
    Calls Try.prog 75 #[v, .func (.func 58) #[] #[]] w fun r w' => (∃ i : Int, r = .returned (.int .i64 i) ∧ (i = -1 ∧ ps.any long1 = false ∨ 0 ≤ i ∧ ps.any long1 = true)) ∧ w = w' := by
  obtain ⟨ao, cap, rfl⟩ := h.shape
  obtain ⟨n, hn⟩ : ∃ n, ps.length = n := ⟨_, rfl⟩
  rw [hn] at h hN ⊢
  have H := Lib.hid h
  have HN := Lib.hid hn
  clear h hn
  go_enter Try.func75, Try.ntmps75
  go_wp2_with fail
  go_loopw [8] (fun i wr => ∃ k : Nat, k ≤ n ∧ i = .int .i64 k ∧ (∀ j, j < k → long1 (ps.getD j []) = false) ∧ w = wr) (fun i _ => n - (intOf i).toNat)
  case atStart => exact ⟨0, by omega, rfl, fun j hj => by omega, rfl⟩
  case round =>
    obtain ⟨k, hk, rfl, hp, rfl⟩ := hrel
    have K := Lib.hid hp
    clear hp
    by_cases hlt : k < n
    · have hlt' : (k : Int) < (n : Int) := by omega
      obtain ⟨b, o, u, rfl, c0, hu⟩ := H.out.at k (by have := HN.out; omega)
      have CA := Lib.hid (long1_any u _ w hu)
      cases hh : long1 (ps.getD k []) with
      | true =>
        rw [hh] at CA
        have T := Lib.hid (show ps.any long1 = true from by rw [List.any_eq_true]; exact ⟨_, getD_mem (by have := HN.out; omega), hh⟩)
        clear hh hu
        go_wp2_with fail
        refine CA.out.mono ?_
        rintro e w1 ⟨rfl, rfl⟩
        go_wp2_with fail
        go_ret
        exact ⟨⟨_, rfl, .inr ⟨by omega, T.out⟩⟩, by first | rfl | trivial⟩
      | false =>
        rw [hh] at CA
        have T := Lib.hid (show ∀ j, j < k + 1 → long1 (ps.getD j []) = false from fun j hj => by
          by_cases hjk : j = k
          · subst hjk; exact hh
          · exact K.out j (by omega))
        clear hh hu
        go_wp2_with fail
        refine CA.out.mono ?_
        rintro e w1 ⟨rfl, rfl⟩
        go_wp2_with fail
        go_roundw
        case rel => exact ⟨k + 1, by omega, by go_num, T.out, by first | rfl | trivial⟩
        case measure => simp [intOf] <;> omega
    · obtain rfl : k = n := by omega
      have T := Lib.hid (show ps.any long1 = false from by
        rw [List.any_eq_false]
        intro x hx
        obtain ⟨j, hj, rfl⟩ := List.getElem_of_mem hx
        have := K.out j (by have := HN.out; omega)
        rw [List.getD_eq_getElem?_getD, List.getElem?_eq_getElem hj] at this
        simpa using this)
      go_wp2_with fail
      go_ret
      exact ⟨⟨_, rfl, .inl ⟨rfl, T.out⟩⟩, by first | rfl | trivial⟩
theorem lcon_any (v : Value) (ps : List (List Opn)) (w : World) (h : PrsOf w v ps) (hN : ps.length ≤ 1000000) :
    Calls Try.prog 57 #[v, .func (.func 58) #[] #[]] w fun r w' => r = .returned (.bool (ps.any long1)) ∧ w = w' := by
  have CA := Lib.hid (lidx_any v ps w h hN)
  obtain ⟨ao, cap, rfl⟩ := h.shape
  obtain ⟨y, hy⟩ : ∃ y, ps.any long1 = y := ⟨_, rfl⟩
  rw [hy] at CA ⊢
  clear hy h
  go_enter Try.func57, Try.ntmps57
  go_wp2_with fail
  refine CA.out.mono ?_
  rintro e w1 ⟨⟨i, rfl, ⟨rfl, rfl⟩ | ⟨h0, rfl⟩⟩, rfl⟩
  · go_wp2_with fail
    go_ret
    exact ⟨rfl, rfl⟩
  · go_wp2_with fail
    go_ret
    exact ⟨by simp [*], rfl⟩
end Go.Proofs.Ytpefjcmaggimhaa

