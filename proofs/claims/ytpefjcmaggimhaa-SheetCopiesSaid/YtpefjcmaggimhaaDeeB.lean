
/-
  Package deed: slices of cases, Check.
-/
import Derived.Test.YtpefjcmaggimhaaDeeA
namespace Go.Proofs.Ytpefjcmaggimhaa
open Go.RowKit
set_option linter.unusedVariables false
set_option linter.unusedSimpArgs false
set_option maxRecDepth 100000

/-- These cells are this case. -/
structure CsC (w : World) (b o : Nat) (e : Cs) : Prop where
  c0 : w.cell? ⟨b, o, none⟩ = some (.bool e.sd)
  c1 : w.cell? ⟨b, o + 1, none⟩ = some (.int .i64 e.ch)
  c2 : w.cell? ⟨b, o + 2, none⟩ = some (.int .i64 e.va)
theorem CsC.below {w w' : World} {b o : Nat} {r : Cs} (h : CsC w b o r) {n : Nat} (hn : w.heap.size ≤ n) (hB : Below n w w') : CsC w' b o r := by
  have hb : b < n := Nat.lt_of_lt_of_le (block_lt_of_cell h.c0) hn
  obtain ⟨c0, c1, c2⟩ := h
  have e : ∀ o, w'.cell? ⟨b, o, none⟩ = w.cell? ⟨b, o, none⟩ := fun o => hB.cell (p := ⟨b, o, none⟩) hb
  exact ⟨(e _).trans c0, (e _).trans c1, (e _).trans c2⟩
/-- The value is a slice of these cases. -/
def CssOf (w : World) (v : Value) (es : List Cs) : Prop :=
  ∃ ao cap, v = .slice ao es.length cap ∧ (0 < es.length → ∃ b o, ao = some ⟨b, o, none⟩ ∧ ∀ i, i < es.length → CsC w b (o + i * 3) (es.getD i default))
theorem CssOf.below {w w' : World} {v : Value} {rs : List Cs} (h : CssOf w v rs) {n : Nat} (hn : w.heap.size ≤ n) (hB : Below n w w') : CssOf w' v rs := by
  obtain ⟨ao, cap, rfl, hc⟩ := h
  refine ⟨ao, cap, rfl, fun hp => ?_⟩
  obtain ⟨b, o, rfl, hd⟩ := hc hp
  exact ⟨b, o, rfl, fun i hi => (hd i hi).below hn hB⟩
theorem CssOf.shape {w : World} {v : Value} {rs : List Cs} (h : CssOf w v rs) : ∃ ao cap, v = .slice ao rs.length cap := by
  obtain ⟨ao, cap, rfl, hc⟩ := h
  exact ⟨ao, cap, rfl⟩
theorem CssOf.at {w : World} {ao : Option Addr} {n cap : Nat} {rs : List Cs} (h : CssOf w (.slice ao n cap) rs) (i : Nat) (hi : i < rs.length) : ∃ b o, ao = some ⟨b, o, none⟩ ∧ CsC w b (o + i * 3) (rs.getD i default) := by
  obtain ⟨_, _, e, hc⟩ := h
  cases e
  obtain ⟨b, o, rfl, hd⟩ := hc (by omega)
  exact ⟨b, o, rfl, hd i hi⟩
theorem CssOf.nil (w : World) : CssOf w (.slice none 0 0) [] := ⟨none, 0, rfl, fun h => by simp at h⟩

def opV (v : Value) (o : Opn) : Value := .agg #[.int .i64 o.k, .int .i64 o.a, .int .i64 o.b, v, .bool o.df]
def csB (c : Cs) : Bool := belB c.ch 8 && belB c.va 100 && (c.sd || c.va == 0)
def okO (o : Opn) (p : Int) : Bool := fitB o.a (limA o.k p) && fitB o.b (limB o.k) && (o.k == 6 || (o.cs.length == 0 && !o.df)) && o.cs.all csB
def chkO (o : Opn) (p : Int) : Int := if p < 1 ∨ 8 < p ∨ o.k < 1 ∨ 9 < o.k then 1 else if 4 < o.cs.length then 2 else if okO o p then 0 else 4

theorem five_cells {w : World} {b : Nat} {x0 x1 x2 x3 x4 : Value} {t : TypeId} (h : w.heap[b]? = some (Obj.cells #[x0, x1, x2, x3, x4] t (0, 0))) :
    w.cell? ⟨b, 0, none⟩ = some x0 ∧ w.cell? ⟨b, 1, none⟩ = some x1 ∧ w.cell? ⟨b, 2, none⟩ = some x2 ∧ w.cell? ⟨b, 3, none⟩ = some x3 ∧ w.cell? ⟨b, 4, none⟩ = some x4 := by
  refine ⟨?_, ?_, ?_, ?_, ?_⟩ <;> (simp only [World.cell?, h]; rfl)
theorem lt_of_heap {w : World} {b : Nat} {x : Obj} (h : w.heap[b]? = some x) : b < w.heap.size := by
  rcases Nat.lt_or_ge b w.heap.size with h' | h'
  · exact h'
  · simp [Array.getElem?_eq_none h'] at h
theorem below1 (w : World) (a : Obj) : Below w.heap.size w (w.alloc a) := (Below.refl _ _).alloc (Nat.le_refl _) _

/-- A boxed operation. -/
structure OpAt (v : Value) (o : Opn) (b : Nat) (w0 w : World) : Prop where
  ev : w.heap[b]? = some (Obj.cells #[.int .i64 o.k, .int .i64 o.a, .int .i64 o.b, v, .bool o.df] 48 (0, 0))
  bel : Below w0.heap.size w0 w
theorem OpAt.below {v : Value} {o : Opn} {b : Nat} {w0 w w' : World} (h : OpAt v o b w0 w) (hB : Below w.heap.size w w') : OpAt v o b w0 w' :=
  ⟨(hB.block _ (lt_of_heap h.ev)).trans h.ev, h.bel.trans (hB.mono h.bel.size)⟩
theorem OpAt.new (v : Value) (o : Opn) (w : World) : OpAt v o w.heap.size w (w.alloc (.cells #[.int .i64 o.k, .int .i64 o.a, .int .i64 o.b, v, .bool o.df] 48)) := ⟨heap_alloc_new _ _, below1 _ _⟩

theorem all_bad {cs : List Cs} {j : Nat} (h : j < cs.length) (hb : csB (cs.getD j default) = false) : cs.all csB = false := by
  rw [List.all_eq_false]
  exact ⟨cs[j], List.getElem_mem h, by simpa [List.getD, h] using hb⟩
theorem all_good {cs : List Cs} (h : ∀ j, j < cs.length → csB (cs.getD j default) = true) : cs.all csB = true := by
  rw [List.all_eq_true]
  intro x hx
  obtain ⟨i, hi, rfl⟩ := List.mem_iff_getElem.1 hx
  have := h i hi
  simpa [List.getD, hi] using this

set_option maxHeartbeats 4000000 in
theorem dcheck_any (o : Opn) (v : Value) (p : Int) (w : World) (h : CssOf w v o.cs) : Calls Try.prog 34 #[opV v o, .int .i64 p] w fun r w' => r = .returned (.int .i64 (chkO o p)) ∧ Below w.heap.size w w' := by
  obtain ⟨k, a, b, cs, df⟩ := o
  obtain ⟨ao, cap, rfl⟩ := h.shape
  dsimp only at h ⊢
  obtain ⟨n, hn⟩ : ∃ n, cs.length = n := ⟨_, rfl⟩
  rw [hn] at h
  have HC := Lib.hid h
  have HN := Lib.hid hn
  have E0 := OpAt.new (.slice ao n cap) ⟨k, a, b, cs, df⟩ w
  rw [hn]
  obtain ⟨W, hW⟩ : ∃ W, w.alloc (.cells #[.int .i64 k, .int .i64 a, .int .i64 b, .slice ao n cap, .bool df] 48) = W := ⟨_, rfl⟩
  dsimp only at E0 ⊢
  rw [hW] at E0
  have EW := Lib.hid E0
  obtain ⟨z0, z1, z2, z3, z4⟩ := five_cells E0.ev
  dsimp only at z0 z1 z2 z3 z4
  unfold opV
  dsimp only
  obtain ⟨c, hcc⟩ : ∃ c, chkO ⟨k, a, b, cs, df⟩ p = c := ⟨_, rfl⟩
  rw [hcc]
  have CC := Lib.hid hcc
  clear E0 h hcc hn
  by_cases hp1 : p < 1
  · have E : c = 1 := by rw [← CC.out]; unfold chkO; rw [if_pos (Or.inl hp1)]
    subst E
    go_enter Try.func34, Try.ntmps34
    go_wp2_with fail
    go_ret
    exact ⟨rfl, EW.out.bel⟩
  have d1 : decide (p < 1) = false := decide_eq_false hp1
  by_cases hp2 : 8 < p
  · have E : c = 1 := by rw [← CC.out]; unfold chkO; rw [if_pos (Or.inr (Or.inl hp2))]
    subst E
    go_enter Try.func34, Try.ntmps34
    go_wp2_with fail
    go_ret
    exact ⟨rfl, EW.out.bel⟩
  have d2 : decide (8 < p) = false := decide_eq_false hp2
  by_cases hk1 : k < 1
  · have E : c = 1 := by rw [← CC.out]; unfold chkO; rw [if_pos (Or.inr (Or.inr (Or.inl hk1)))]
    subst E
    go_enter Try.func34, Try.ntmps34
    go_wp2_with fail
    go_ret
    exact ⟨rfl, EW.out.bel⟩
  have d3 : decide (k < 1) = false := decide_eq_false hk1
  by_cases hk2 : 9 < k
  · have E : c = 1 := by rw [← CC.out]; unfold chkO; rw [if_pos (Or.inr (Or.inr (Or.inr hk2)))]
    subst E
    go_enter Try.func34, Try.ntmps34
    go_wp2_with fail
    go_ret
    exact ⟨rfl, EW.out.bel⟩
  have d4 : decide (9 < k) = false := decide_eq_false hk2
  have CD := Lib.hid (show c = if 4 < n then 2 else if okO ⟨k, a, b, cs, df⟩ p then 0 else 4 by
    rw [← CC.out, ← HN.out]; unfold chkO; rw [if_neg (by rintro (x | x | x | x) <;> contradiction)])
  clear CC hp1 hp2 hk1 hk2
  by_cases hl : 4 < n
  · have E : c = 2 := by rw [CD.out, if_pos hl]
    subst E
    have hl' : (4 : Int) < n := by omega
    clear hl
    go_enter Try.func34, Try.ntmps34
    go_wp2_with fail
    go_ret
    exact ⟨rfl, EW.out.bel⟩
  have d5 : decide ((4 : Int) < n) = false := decide_eq_false (by omega)
  have d5' : ¬ (4 : Int) < n := by omega
  obtain ⟨q1, hq1⟩ : ∃ q, fitB a (limA k p) = q := ⟨_, rfl⟩
  obtain ⟨q2, hq2⟩ : ∃ q, fitB b (limB k) = q := ⟨_, rfl⟩
  obtain ⟨q3, hq3⟩ : ∃ q, (k == 6 || (n == 0 && !df)) = q := ⟨_, rfl⟩
  obtain ⟨q4, hq4⟩ : ∃ q, cs.all csB = q := ⟨_, rfl⟩
  have CE := Lib.hid (show c = if (q1 && q2 && q3 && q4) = true then 0 else 4 by
    rw [CD.out, if_neg hl]; unfold okO; dsimp only; rw [HN.out, hq1, hq2, hq3, hq4])
  have F1 := Lib.hid (fun w => fits_any a (limA k p) w q1 hq1)
  have F2 := Lib.hid (fun w => fits_any b (limB k) w q2 hq2)
  have L := Lib.hid (fun w => limits_any k p w)
  have Q3 := Lib.hid hq3
  have Q4 := Lib.hid hq4
  have CL := Lib.hid hl
  clear CD hl hq1 hq2 hq3 hq4
  obtain ⟨la, hla⟩ : ∃ x, limA k p = x := ⟨_, rfl⟩
  obtain ⟨lb, hlb⟩ : ∃ x, limB k = x := ⟨_, rfl⟩
  rw [hla, hlb] at L
  rw [hla] at F1
  rw [hlb] at F2
  clear hla hlb
  cases q1 with
  | false =>
    have E : c = 4 := CE.out
    subst E
    go_enter Try.func34, Try.ntmps34
    go_wp2_with fail
    refine (L.out _).mono ?_
    rintro r w1 ⟨rfl, rfl⟩
    go_wp2_with fail
    refine (F1.out _).mono ?_
    rintro r w1 ⟨rfl, rfl⟩
    go_wp2_with fail
    go_ret
    exact ⟨rfl, EW.out.bel⟩
  | true =>
  cases q2 with
  | false =>
    have E : c = 4 := CE.out
    subst E
    go_enter Try.func34, Try.ntmps34
    go_wp2_with fail
    refine (L.out _).mono ?_
    rintro r w1 ⟨rfl, rfl⟩
    go_wp2_with fail
    refine (F1.out _).mono ?_
    rintro r w1 ⟨rfl, rfl⟩
    go_wp2_with fail
    refine (F2.out _).mono ?_
    rintro r w1 ⟨rfl, rfl⟩
    go_wp2_with fail
    go_ret
    exact ⟨rfl, EW.out.bel⟩
  | true =>
  cases q3 with
  | false =>
    have E : c = 4 := CE.out
    subst E
    have h3 := Q3.out
    rw [Bool.or_eq_false_iff] at h3
    obtain ⟨h6, h7⟩ := h3
    have h6' : (k != 6) = true := by simpa using h6
    by_cases hn : n = 0
    · have hdf : df = true := by simpa [hn] using h7
      have hn' : decide (0 < n) = false := decide_eq_false (by omega)
      subst hdf
      clear hn h7 h6
      go_enter Try.func34, Try.ntmps34
      go_wp2_with fail
      refine (L.out _).mono ?_
      rintro r w1 ⟨rfl, rfl⟩
      go_wp2_with fail
      refine (F1.out _).mono ?_
      rintro r w1 ⟨rfl, rfl⟩
      go_wp2_with fail
      refine (F2.out _).mono ?_
      rintro r w1 ⟨rfl, rfl⟩
      go_wp2_with fail
      go_ret
      exact ⟨rfl, EW.out.bel⟩
    · have hn' : decide (0 < n) = true := decide_eq_true (by omega)
      clear hn h7 h6
      go_enter Try.func34, Try.ntmps34
      go_wp2_with fail
      refine (L.out _).mono ?_
      rintro r w1 ⟨rfl, rfl⟩
      go_wp2_with fail
      refine (F1.out _).mono ?_
      rintro r w1 ⟨rfl, rfl⟩
      go_wp2_with fail
      refine (F2.out _).mono ?_
      rintro r w1 ⟨rfl, rfl⟩
      go_wp2_with fail
      go_ret
      exact ⟨rfl, EW.out.bel⟩
  | true =>
  have CF := Lib.hid (show c = if q4 = true then 0 else 4 by rw [CE.out]; rfl)
  clear CE
  have h3 := Q3.out
  by_cases h6 : k = 6
  · have h6' : (k != 6) = false := by simpa using h6
    clear h3 h6
    go_enter Try.func34, Try.ntmps34
    go_wp2_with fail
    refine (L.out _).mono ?_
    rintro r w1 ⟨rfl, rfl⟩
    go_wp2_with fail
    refine (F1.out _).mono ?_
    rintro r w1 ⟨rfl, rfl⟩
    go_wp2_with fail
    refine (F2.out _).mono ?_
    rintro r w1 ⟨rfl, rfl⟩
    go_wp2_with fail
    go_loopw [66] (fun i wr => ∃ j : Nat, j ≤ n ∧ i = .int .i64 j ∧ (∀ x, x < j → csB (cs.getD x default) = true) ∧ Below w.heap.size w wr) (fun i _ => n - (intOf i).toNat)
    case atStart => exact ⟨0, by omega, rfl, fun x hx => by omega, EW.out.bel⟩
    case round =>
      obtain ⟨j, hj, rfl, hok, hb⟩ := hrel
      have K := Lib.hid hok
      have HB := Lib.hid hb
      clear hok hb z0 z1 z2 z3 z4 hW
      by_cases hlt : j < n
      · have hlt' : (j : Int) < (n : Int) := by omega
        obtain ⟨g, z, rfl, cc⟩ := HC.out.at j (by have := HN.out; omega)
        obtain ⟨c0, c1, c2⟩ := cc.below (Nat.le_refl _) HB.out
        have BAD := Lib.hid (fun h => all_bad (cs := cs) (j := j) (by have := HN.out; omega) h)
        obtain ⟨⟨sd, ch, va⟩, he⟩ : ∃ e, cs.getD j default = e := ⟨_, rfl⟩
        rw [he] at c0 c1 c2 BAD
        have U := Lib.hid he
        have BN := Lib.hid (HB.out.alloc HB.out.size (.cells #[.bool sd, .int .i64 ch, .int .i64 va] 50))
        obtain ⟨x1, hx1⟩ : ∃ x, belB ch 8 = x := ⟨_, rfl⟩
        obtain ⟨x2, hx2⟩ : ∃ x, belB va 100 = x := ⟨_, rfl⟩
        have CB := Lib.hid (show csB ⟨sd, ch, va⟩ = (x1 && x2 && (sd || va == 0)) by unfold csB; dsimp only; rw [hx1, hx2])
        have P1 := Lib.hid (fun w => below_any ch 8 w x1 hx1)
        have P2 := Lib.hid (fun w => below_any va 100 w x2 hx2)
        dsimp only at c0 c1 c2
        clear he cc hx1 hx2
        have NO : Hid (csB ⟨sd, ch, va⟩ = false → c = 4) := Lib.hid (fun h => by rw [CF.out, ← Q4.out, BAD.out h]; rfl)
        cases x1 with
        | false =>
          have E := NO.out CB.out
          subst E
          go_wp2_with fail
          refine (P1.out _).mono ?_
          rintro r w3 ⟨rfl, rfl⟩
          go_wp2_with fail
          go_ret
          exact ⟨rfl, BN.out⟩
        | true =>
        cases x2 with
        | false =>
          have E := NO.out CB.out
          subst E
          go_wp2_with fail
          refine (P1.out _).mono ?_
          rintro r w3 ⟨rfl, rfl⟩
          go_wp2_with fail
          refine (P2.out _).mono ?_
          rintro r w3 ⟨rfl, rfl⟩
          go_wp2_with fail
          go_ret
          exact ⟨rfl, BN.out⟩
        | true =>
        cases sd with
        | true =>
          have OK := Lib.hid (show csB ⟨true, ch, va⟩ = true from CB.out)
          go_wp2_with fail
          refine (P1.out _).mono ?_
          rintro r w3 ⟨rfl, rfl⟩
          go_wp2_with fail
          refine (P2.out _).mono ?_
          rintro r w3 ⟨rfl, rfl⟩
          go_wp2_with fail
          go_roundw
          case rel =>
            refine ⟨j + 1, by omega, by go_num, fun x hx => ?_, BN.out⟩
            by_cases hxj : x = j
            · subst hxj; rw [U.out]; exact OK.out
            · exact K.out x (by omega)
          case measure => simp [intOf] <;> omega
        | false =>
        cases hv : (va == 0) with
        | true =>
          have OK := Lib.hid (show csB ⟨false, ch, va⟩ = true by rw [CB.out, hv]; rfl)
          have hv' : (va != 0) = false := by simpa using hv
          clear hv
          go_wp2_with fail
          refine (P1.out _).mono ?_
          rintro r w3 ⟨rfl, rfl⟩
          go_wp2_with fail
          refine (P2.out _).mono ?_
          rintro r w3 ⟨rfl, rfl⟩
          go_wp2_with fail
          go_roundw
          case rel =>
            refine ⟨j + 1, by omega, by go_num, fun x hx => ?_, BN.out⟩
            by_cases hxj : x = j
            · subst hxj; rw [U.out]; exact OK.out
            · exact K.out x (by omega)
          case measure => simp [intOf] <;> omega
        | false =>
          have E := NO.out (by rw [CB.out, hv]; rfl)
          subst E
          have hv' : (va != 0) = true := by simpa using hv
          clear hv
          go_wp2_with fail
          refine (P1.out _).mono ?_
          rintro r w3 ⟨rfl, rfl⟩
          go_wp2_with fail
          refine (P2.out _).mono ?_
          rintro r w3 ⟨rfl, rfl⟩
          go_wp2_with fail
          go_ret
          exact ⟨rfl, BN.out⟩
      · have hge : (n : Int) ≤ j := by omega
        have A := all_good (cs := cs) (fun x hx => K.out x (by have := HN.out; omega))
        have E : c = 0 := by rw [CF.out, ← Q4.out, A]; rfl
        subst E
        clear A hlt
        go_wp2_with fail
        go_ret
        exact ⟨rfl, HB.out⟩
  · have h6' : (k != 6) = true := by simpa using h6
    have h7 : n = 0 ∧ df = false := by simpa [h6] using h3
    obtain ⟨h8, h9⟩ := h7
    have h10 : decide (0 < n) = false := decide_eq_false (by omega)
    subst h9
    clear h3 h6 h8
    go_enter Try.func34, Try.ntmps34
    go_wp2_with fail
    refine (L.out _).mono ?_
    rintro r w1 ⟨rfl, rfl⟩
    go_wp2_with fail
    refine (F1.out _).mono ?_
    rintro r w1 ⟨rfl, rfl⟩
    go_wp2_with fail
    refine (F2.out _).mono ?_
    rintro r w1 ⟨rfl, rfl⟩
    go_wp2_with fail
    go_loopw [66] (fun i wr => ∃ j : Nat, j ≤ n ∧ i = .int .i64 j ∧ (∀ x, x < j → csB (cs.getD x default) = true) ∧ Below w.heap.size w wr) (fun i _ => n - (intOf i).toNat)
    case atStart => exact ⟨0, by omega, rfl, fun x hx => by omega, EW.out.bel⟩
    case round =>
      obtain ⟨j, hj, rfl, hok, hb⟩ := hrel
      have K := Lib.hid hok
      have HB := Lib.hid hb
      clear hok hb z0 z1 z2 z3 z4 hW
      by_cases hlt : j < n
      · have hlt' : (j : Int) < (n : Int) := by omega
        obtain ⟨g, z, rfl, cc⟩ := HC.out.at j (by have := HN.out; omega)
        obtain ⟨c0, c1, c2⟩ := cc.below (Nat.le_refl _) HB.out
        have BAD := Lib.hid (fun h => all_bad (cs := cs) (j := j) (by have := HN.out; omega) h)
        obtain ⟨⟨sd, ch, va⟩, he⟩ : ∃ e, cs.getD j default = e := ⟨_, rfl⟩
        rw [he] at c0 c1 c2 BAD
        have U := Lib.hid he
        have BN := Lib.hid (HB.out.alloc HB.out.size (.cells #[.bool sd, .int .i64 ch, .int .i64 va] 50))
        obtain ⟨x1, hx1⟩ : ∃ x, belB ch 8 = x := ⟨_, rfl⟩
        obtain ⟨x2, hx2⟩ : ∃ x, belB va 100 = x := ⟨_, rfl⟩
        have CB := Lib.hid (show csB ⟨sd, ch, va⟩ = (x1 && x2 && (sd || va == 0)) by unfold csB; dsimp only; rw [hx1, hx2])
        have P1 := Lib.hid (fun w => below_any ch 8 w x1 hx1)
        have P2 := Lib.hid (fun w => below_any va 100 w x2 hx2)
        dsimp only at c0 c1 c2
        clear he cc hx1 hx2
        have NO : Hid (csB ⟨sd, ch, va⟩ = false → c = 4) := Lib.hid (fun h => by rw [CF.out, ← Q4.out, BAD.out h]; rfl)
        cases x1 with
        | false =>
          have E := NO.out CB.out
          subst E
          go_wp2_with fail
          refine (P1.out _).mono ?_
          rintro r w3 ⟨rfl, rfl⟩
          go_wp2_with fail
          go_ret
          exact ⟨rfl, BN.out⟩
        | true =>
        cases x2 with
        | false =>
          have E := NO.out CB.out
          subst E
          go_wp2_with fail
          refine (P1.out _).mono ?_
          rintro r w3 ⟨rfl, rfl⟩
          go_wp2_with fail
          refine (P2.out _).mono ?_
          rintro r w3 ⟨rfl, rfl⟩
          go_wp2_with fail
          go_ret
          exact ⟨rfl, BN.out⟩
        | true =>
        cases sd with
        | true =>
          have OK := Lib.hid (show csB ⟨true, ch, va⟩ = true from CB.out)
          go_wp2_with fail
          refine (P1.out _).mono ?_
          rintro r w3 ⟨rfl, rfl⟩
          go_wp2_with fail
          refine (P2.out _).mono ?_
          rintro r w3 ⟨rfl, rfl⟩
          go_wp2_with fail
          go_roundw
          case rel =>
            refine ⟨j + 1, by omega, by go_num, fun x hx => ?_, BN.out⟩
            by_cases hxj : x = j
            · subst hxj; rw [U.out]; exact OK.out
            · exact K.out x (by omega)
          case measure => simp [intOf] <;> omega
        | false =>
        cases hv : (va == 0) with
        | true =>
          have OK := Lib.hid (show csB ⟨false, ch, va⟩ = true by rw [CB.out, hv]; rfl)
          have hv' : (va != 0) = false := by simpa using hv
          clear hv
          go_wp2_with fail
          refine (P1.out _).mono ?_
          rintro r w3 ⟨rfl, rfl⟩
          go_wp2_with fail
          refine (P2.out _).mono ?_
          rintro r w3 ⟨rfl, rfl⟩
          go_wp2_with fail
          go_roundw
          case rel =>
            refine ⟨j + 1, by omega, by go_num, fun x hx => ?_, BN.out⟩
            by_cases hxj : x = j
            · subst hxj; rw [U.out]; exact OK.out
            · exact K.out x (by omega)
          case measure => simp [intOf] <;> omega
        | false =>
          have E := NO.out (by rw [CB.out, hv]; rfl)
          subst E
          have hv' : (va != 0) = true := by simpa using hv
          clear hv
          go_wp2_with fail
          refine (P1.out _).mono ?_
          rintro r w3 ⟨rfl, rfl⟩
          go_wp2_with fail
          refine (P2.out _).mono ?_
          rintro r w3 ⟨rfl, rfl⟩
          go_wp2_with fail
          go_ret
          exact ⟨rfl, BN.out⟩
      · have hge : (n : Int) ≤ j := by omega
        have A := all_good (cs := cs) (fun x hx => K.out x (by have := HN.out; omega))
        have E : c = 0 := by rw [CF.out, ← Q4.out, A]; rfl
        subst E
        clear A hlt
        go_wp2_with fail
        go_ret
        exact ⟨rfl, HB.out⟩
end Go.Proofs.Ytpefjcmaggimhaa

