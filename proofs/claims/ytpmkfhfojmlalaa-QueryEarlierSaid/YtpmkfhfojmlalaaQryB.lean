
/-
  Package query: place, asked, at.
-/
import Derived.Test.YtpmkfhfojmlalaaQry
import Derived.Deep.RegionHeld3
namespace Go.Proofs.Ytpmkfhfojmlalaa
open Go.RowKit
set_option linter.unusedVariables false
set_option linter.unusedSimpArgs false
set_option maxRecDepth 100000

structure Ev where
  kind : Int
  g : Int
  chan : Int
  kase : Int
  value : Int
  mate : Int
  send : Bool
  ok : Bool
instance : Inhabited Ev := ⟨⟨0, 0, 0, 0, 0, 0, false, false⟩⟩

structure EvAt (w : World) (b o : Nat) (e : Ev) : Prop where
  c0 : w.cell? ⟨b, o, none⟩ = some (.int .i64 e.kind)
  c1 : w.cell? ⟨b, o + 1, none⟩ = some (.int .i64 e.g)
  c2 : w.cell? ⟨b, o + 2, none⟩ = some (.int .i64 e.chan)
  c3 : w.cell? ⟨b, o + 3, none⟩ = some (.int .i64 e.kase)
  c4 : w.cell? ⟨b, o + 4, none⟩ = some (.int .i64 e.value)
  c5 : w.cell? ⟨b, o + 5, none⟩ = some (.int .i64 e.mate)
  c6 : w.cell? ⟨b, o + 6, none⟩ = some (.bool e.send)
  c7 : w.cell? ⟨b, o + 7, none⟩ = some (.bool e.ok)
theorem EvAt.below {w w' : World} {b o : Nat} {r : Ev} (h : EvAt w b o r) {n : Nat} (hn : w.heap.size ≤ n) (hB : Below n w w') : EvAt w' b o r := by
  have hb : b < n := Nat.lt_of_lt_of_le (block_lt_of_cell h.c0) hn
  obtain ⟨c0, c1, c2, c3, c4, c5, c6, c7⟩ := h
  have e : ∀ o, w'.cell? ⟨b, o, none⟩ = w.cell? ⟨b, o, none⟩ := fun o => hB.cell (p := ⟨b, o, none⟩) hb
  exact ⟨(e _).trans c0, (e _).trans c1, (e _).trans c2, (e _).trans c3, (e _).trans c4, (e _).trans c5, (e _).trans c6, (e _).trans c7⟩
def EvsOf (w : World) (v : Value) (es : List Ev) : Prop :=
  ∃ ao cap, v = .slice ao es.length cap ∧ (0 < es.length → ∃ b o, ao = some ⟨b, o, none⟩ ∧ ∀ i, i < es.length → EvAt w b (o + i * 8) (es.getD i default))
theorem EvsOf.below {w w' : World} {v : Value} {rs : List Ev} (h : EvsOf w v rs) {n : Nat} (hn : w.heap.size ≤ n) (hB : Below n w w') : EvsOf w' v rs := by
  obtain ⟨ao, cap, rfl, hc⟩ := h
  refine ⟨ao, cap, rfl, fun hp => ?_⟩
  obtain ⟨b, o, rfl, hd⟩ := hc hp
  exact ⟨b, o, rfl, fun i hi => (hd i hi).below hn hB⟩
theorem EvsOf.shape {w : World} {v : Value} {rs : List Ev} (h : EvsOf w v rs) : ∃ ao cap, v = .slice ao rs.length cap := by
  obtain ⟨ao, cap, rfl, hc⟩ := h
  exact ⟨ao, cap, rfl⟩
theorem EvsOf.at {w : World} {ao : Option Addr} {n cap : Nat} {rs : List Ev} (h : EvsOf w (.slice ao n cap) rs) (i : Nat) (hi : i < rs.length) : ∃ b o, ao = some ⟨b, o, none⟩ ∧ EvAt w b (o + i * 8) (rs.getD i default) := by
  obtain ⟨_, _, e, hc⟩ := h
  cases e
  obtain ⟨b, o, rfl, hd⟩ := hc (by omega)
  exact ⟨b, o, rfl, hd i hi⟩

/-- These cells are this stamp: an epoch, and what was known. -/
def StAt (w : World) (b o : Nat) (s : Int × List Int) : Prop := (0 ≤ s.1 ∧ s.1 < 18446744073709551616) ∧ w.cell? ⟨b, o, none⟩ = some (.int .u64 s.1) ∧ ∃ u, w.cell? ⟨b, o + 1, none⟩ = some u ∧ Src w u s.2
theorem StAt.below {w w' : World} {b o : Nat} {s : Int × List Int} (h : StAt w b o s) {n : Nat} (hn : w.heap.size ≤ n) (hB : Below n w w') : StAt w' b o s := by
  obtain ⟨hw, h0, u, h1, h2⟩ := h
  have hb : b < n := Nat.lt_of_lt_of_le (block_lt_of_cell h0) hn
  exact ⟨hw, by rw [hB.cell (p := ⟨b, o, none⟩) hb]; exact h0, u, by rw [hB.cell (p := ⟨b, o + 1, none⟩) hb]; exact h1, h2.below hn hB⟩
def StsOf (w : World) (v : Value) (ss : List (Int × List Int)) : Prop :=
  ∃ ao cap, v = .slice ao ss.length cap ∧ (0 < ss.length → ∃ b o, ao = some ⟨b, o, none⟩ ∧ ∀ i, i < ss.length → StAt w b (o + i * 2) (ss.getD i (0, [])))
theorem StsOf.below {w w' : World} {v : Value} {rs : List (Int × List Int)} (h : StsOf w v rs) {n : Nat} (hn : w.heap.size ≤ n) (hB : Below n w w') : StsOf w' v rs := by
  obtain ⟨ao, cap, rfl, hc⟩ := h
  refine ⟨ao, cap, rfl, fun hp => ?_⟩
  obtain ⟨b, o, rfl, hd⟩ := hc hp
  exact ⟨b, o, rfl, fun i hi => (hd i hi).below hn hB⟩
theorem StsOf.shape {w : World} {v : Value} {rs : List (Int × List Int)} (h : StsOf w v rs) : ∃ ao cap, v = .slice ao rs.length cap := by
  obtain ⟨ao, cap, rfl, hc⟩ := h
  exact ⟨ao, cap, rfl⟩
theorem StsOf.at {w : World} {ao : Option Addr} {n cap : Nat} {rs : List (Int × List Int)} (h : StsOf w (.slice ao n cap) rs) (i : Nat) (hi : i < rs.length) : ∃ b o, ao = some ⟨b, o, none⟩ ∧ StAt w b (o + i * 2) (rs.getD i (0, [])) := by
  obtain ⟨_, _, e, hc⟩ := h
  cases e
  obtain ⟨b, o, rfl, hd⟩ := hc (by omega)
  exact ⟨b, o, rfl, hd i hi⟩
theorem RecsOf.shape {w : World} {v : Value} {rs : List Rec} (h : RecsOf w v rs) : ∃ ao cap, v = .slice ao rs.length cap := by
  obtain ⟨ao, cap, rfl, hc⟩ := h
  exact ⟨ao, cap, rfl⟩

/-- Is there an event at a place? -/
def placeB (n m : Nat) (i : Int) : Bool := decide (n = m ∧ 0 ≤ i ∧ i < m)

theorem place_any (ve vs vr : Value) (n m r cn cm cr : Nat) (ao bo co : Option Addr) (i : Int) (w : World) :
    Calls Try.prog 17 #[.agg #[.slice ao m cm, .slice bo n cn, .slice co r cr], .int .i64 i] w fun x w' => x = .returned (.bool (placeB n m i)) ∧ Below w.heap.size w w' := by
  have hB := Lib.hid ((Below.refl w.heap.size w).alloc (Nat.le_refl _) (.cells #[.slice ao m cm, .slice bo n cn, .slice co r cr] 26))
  by_cases h1 : n = m
  · by_cases h2 : 0 ≤ i
    · by_cases h3 : i < m
      · have S := Lib.hid (show placeB n m i = true from decide_eq_true ⟨h1, h2, h3⟩)
        subst h1
        go_enter Try.func17, Try.ntmps17
        go_wp2_with fail
        go_ret
        exact ⟨by rw [S.out]; rfl, hB.out⟩
      · have S := Lib.hid (show placeB n m i = false from decide_eq_false (fun h => h3 h.2.2))
        have h3' : (m : Int) ≤ i := by omega
        subst h1
        go_enter Try.func17, Try.ntmps17
        go_wp2_with fail
        go_ret
        exact ⟨by rw [S.out]; rfl, hB.out⟩
    · have S := Lib.hid (show placeB n m i = false from decide_eq_false (fun h => h2 h.2.1))
      subst h1
      go_enter Try.func17, Try.ntmps17
      go_wp2_with fail
      go_ret
      exact ⟨by rw [S.out]; rfl, hB.out⟩
  · have S := Lib.hid (show placeB n m i = false from decide_eq_false (fun h => h1 h.1))
    have h1' : ((n : Int) == (m : Int)) = false := by simp; omega
    go_enter Try.func17, Try.ntmps17
    go_wp2_with fail
    go_ret
    exact ⟨by rw [S.out]; rfl, hB.out⟩

theorem qat_any (e : Int) (u : Value) (cs : List Int) (t : Int) (w : World) (h : Src w u cs) :
    Calls Try.prog 22 #[.agg #[.int .u64 e, u], .int .i64 t] w fun x w' => x = .returned (.int .i64 (at0 cs t)) ∧ Below w.heap.size w w' := by
  obtain ⟨ao, cap, rfl, hno, hc⟩ := h
  have hB := Lib.hid ((Below.refl w.heap.size w).alloc (Nat.le_refl _) (.cells #[.int .u64 e, .slice ao cs.length cap] 55))
  by_cases h1 : t < 0
  · have S := Lib.hid (show at0 cs t = 0 from at0_out (.inl h1))
    have d1 : decide (t < 0) = true := decide_eq_true h1
    go_enter Try.func22, Try.ntmps22
    go_wp2_with fail
    go_ret
    exact ⟨by rw [S.out]; rfl, hB.out⟩
  · have d1 : decide (t < 0) = false := decide_eq_false h1
    by_cases h2 : (cs.length : Int) ≤ t
    · have S := Lib.hid (show at0 cs t = 0 from at0_out (.inr h2))
      have d2 : decide ((cs.length : Int) ≤ t) = true := decide_eq_true h2
      go_enter Try.func22, Try.ntmps22
      go_wp2_with fail
      go_ret
      exact ⟨by rw [S.out]; rfl, hB.out⟩
    · have d2 : decide ((cs.length : Int) ≤ t) = false := decide_eq_false h2
      obtain ⟨n, rfl⟩ := Int.eq_ofNat_of_zero_le (show 0 ≤ t by omega)
      have hn : n < cs.length := by omega
      have hn' : (n : Int) < (cs.length : Int) := by omega
      obtain ⟨g, z, rfl, hcc⟩ := hc (by omega)
      have c00 := hcc n hn
      have c0 : (w.alloc (.cells #[.int .u64 e, .slice (some ⟨g, z, none⟩) cs.length cap] 55)).cell? ⟨g, z + n, none⟩ = some (.int .i64 (cs.getD n 0)) := by
        rw [hB.out.cell (p := ⟨g, z + n, none⟩) (block_lt_of_cell c00)]; exact c00
      have S := Lib.hid (at0_nat cs n)
      obtain ⟨x, hx⟩ : ∃ x, cs.getD n 0 = x := ⟨_, rfl⟩
      rw [hx] at c0 S
      clear hcc c00 hx hc
      go_enter Try.func22, Try.ntmps22
      go_wp2_with fail
      go_ret
      exact ⟨by rw [S.out]; rfl, hB.out⟩

end Go.Proofs.Ytpmkfhfojmlalaa

