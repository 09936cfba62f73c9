
/-
  There and back of many events, in plain words; equal lists of events (staitheplain.Events).
-/
import Derived.Test.YtmmkdbcgkafolaaDoorEntU
import Derived.Test.YtmmkdbcgkafolaaDoorEntQ
namespace Go.Proofs.YtmmkdbcgkafolaaDoor
open Go.RowKit
set_option linter.unusedVariables false
set_option linter.unusedSimpArgs false
set_option maxRecDepth 100000

theorem take_put {l : List UInt8} (h : takE l = 0) : putS (takV l) ++ takR l = l := by
  obtain ⟨n, z, hz⟩ := takE_zero h
  obtain ⟨h1, h2, h3, h4⟩ := tak_some hz
  have hk : okN (n : Int) = true := by unfold okN; unfold mostN at h1; simp; omega
  have e : putS (n : Int) = enc n := by unfold putS; rw [if_pos hk]; rfl
  simp only [takV, takR, hz]
  rw [e, ← h4]
  exact List.take_append_drop z l
theorem okJ_at (l : List UInt8) : ∀ j, okJ l j = true → ∀ i, i < j → takE (rst l i) = 0
  | 0, _, i, hi => by omega
  | j + 1, h, i, hi => by
    rw [okJ, Bool.and_eq_true] at h
    by_cases he : i = j
    · subst he; simpa using h.2
    · exact okJ_at l j h.1 i (by omega)
theorem marks_of {m : Int} (h0 : 0 ≤ m) (h3 : m ≤ 3) : ((if m1 m then (1 : Int) else 0) + if m2 m then 2 else 0) = m := by
  have : m = 0 ∨ m = 1 ∨ m = 2 ∨ m = 3 := by omega
  rcases this with rfl | rfl | rfl | rfl <;> decide
theorem dec_canon {l : List UInt8} (h : decB l = true) : chk (decE l) = 0 ∧ encS (decE l) ++ decR l = l := by
  have hE : decE l = evOf l := by unfold decE; rw [if_pos h]
  have hR : decR l = rst l 7 := by unfold decR; rw [if_pos h]
  unfold decB at h
  simp only [Bool.and_eq_true, decide_eq_true_eq, beq_iff_eq] at h
  obtain ⟨hok, h3, hc⟩ := h
  have t := fun i hi => take_put (okJ_at l 7 hok i hi)
  have mk : marksI (evOf l) = num l 6 := marks_of (num_bd l 6).1 h3
  rw [hE, hR]
  refine ⟨hc, ?_⟩
  rw [show encS (evOf l) = accS (evOf l) 5 ++ putS (marksI (evOf l)) from if_pos hc, mk]
  have g1 : num l 1 - 1 + 1 = num l 1 := by omega
  have g2 : num l 2 - 1 + 1 = num l 2 := by omega
  have g3 : num l 3 - 1 + 1 = num l 3 := by omega
  have g4 : num l 4 - 1 + 1 = num l 4 := by omega
  have g5 : num l 5 - 1 + 1 = num l 5 := by omega
  show (((((putS (num l 0) ++ putS (num l 1 - 1 + 1)) ++ putS (num l 2 - 1 + 1)) ++ putS (num l 3 - 1 + 1)) ++ putS (num l 4 - 1 + 1)) ++ putS (num l 5 - 1 + 1)) ++ putS (num l 6) ++ rst l 7 = _
  rw [g1, g2, g3, g4, g5]
  simp only [List.append_assoc]
  have s6 : putS (num l 6) ++ rst l 7 = rst l 6 := t 6 (by omega)
  have s5 : putS (num l 5) ++ rst l 6 = rst l 5 := t 5 (by omega)
  have s4 : putS (num l 4) ++ rst l 5 = rst l 4 := t 4 (by omega)
  have s3 : putS (num l 3) ++ rst l 4 = rst l 3 := t 3 (by omega)
  have s2 : putS (num l 2) ++ rst l 3 = rst l 2 := t 2 (by omega)
  have s1 : putS (num l 1) ++ rst l 2 = rst l 1 := t 1 (by omega)
  have s0 : putS (num l 0) ++ rst l 1 = rst l 0 := t 0 (by omega)
  rw [s6, s5, s4, s3, s2, s1, s0]
  rfl

theorem firstBad_all : ∀ {es : List Ev}, firstBad es = 0 → ∀ e ∈ es, chk e = 0
  | [], _, e, he => by simp at he
  | a :: es, h, e, he => by
    unfold firstBad at h
    split at h
    · rename_i ha
      rcases List.mem_cons.1 he with rfl | hm
      · exact ha
      · exact firstBad_all h e hm
    · rename_i ha; exact absurd h ha
theorem firstBad_of : ∀ {es : List Ev}, (∀ e ∈ es, chk e = 0) → firstBad es = 0
  | [], _ => rfl
  | a :: es, h => by
    rw [firstBad, if_pos (h a (by simp))]
    exact firstBad_of fun e he => h e (by simp [he])
theorem readA_flat : ∀ (es : List Ev), (∀ e ∈ es, chk e = 0) → readA (flatE es) = (es, [])
  | [], _ => by
    rw [show flatE [] = [] from rfl, readA_no decB_nil]
  | a :: es, h => by
    have ha := h a (by simp)
    have e : flatE (a :: es) = encS a ++ flatE es := by simp [flatE]
    obtain ⟨d1, d2, d3⟩ := dec_enc ha (flatE es)
    have hE : decE (encS a ++ flatE es) = a := by unfold decE; rw [if_pos d1, d2]
    have hR : decR (encS a ++ flatE es) = flatE es := by unfold decR; rw [if_pos d1, d3]
    rw [e, readA_yes d1, hE, hR, readA_flat es fun x hx => h x (by simp [hx])]
theorem back_one {es : List Ev} (h : allF es = 0) : rdF (allS es) = 0 ∧ rdE (allS es) = es := by
  have hS : allS es = flatE es := by unfold allS; rw [if_pos h]
  unfold allF at h
  split at h
  · omega
  · rename_i hl
    have r := readA_flat es (firstBad_all h)
    have f : rdF (flatE es) = 0 := by unfold rdF; rw [r]; simp [hl]
    rw [hS]
    exact ⟨f, by unfold rdE; rw [if_pos f, r]⟩
theorem flat_readA (l : List UInt8) : (∀ e ∈ (readA l).1, chk e = 0) ∧ flatE (readA l).1 ++ (readA l).2 = l := by
  cases h : decB l with
  | false =>
    rw [readA_no h]
    exact ⟨fun e he => by simp at he, by simp [flatE]⟩
  | true =>
    obtain ⟨c1, c2⟩ := dec_canon h
    obtain ⟨i1, i2⟩ := flat_readA (decR l)
    rw [readA_yes h]
    refine ⟨fun e he => ?_, ?_⟩
    · rcases List.mem_cons.1 he with rfl | hm
      · exact c1
      · exact i1 e hm
    · show flatE (decE l :: (readA (decR l)).1) ++ (readA (decR l)).2 = l
      have : flatE (decE l :: (readA (decR l)).1) = encS (decE l) ++ flatE (readA (decR l)).1 := by simp [flatE]
      rw [this, List.append_assoc, i2, c2]
termination_by l.length
decreasing_by exact decR_lt h
theorem back_two {l : List UInt8} (h : rdF l = 0) : allF (rdE l) = 0 ∧ allS (rdE l) = l ∧ (rdE l).length ≤ 2000 := by
  have hE : rdE l = (readA l).1 := by unfold rdE; rw [if_pos h]
  obtain ⟨i1, i2⟩ := flat_readA l
  unfold rdF at h
  split at h
  · rename_i hn
    split at h
    · omega
    · rename_i hl
      have f : allF (rdE l) = 0 := by unfold allF; rw [hE, if_neg hl]; exact firstBad_of i1
      refine ⟨f, ?_, by rw [hE]; omega⟩
      unfold allS
      rw [if_pos f, hE]
      rw [hn, List.append_nil] at i2
      exact i2
  · omega

theorem readA_len (l : List UInt8) : (readA l).1.length + (readA l).2.length ≤ l.length := by
  cases h : decB l with
  | false => rw [readA_no h]; simp
  | true =>
    have := readA_len (decR l)
    have h2 := decR_lt h
    rw [readA_yes h]
    simp only [List.length_cons]
    omega
termination_by l.length
decreasing_by exact decR_lt h
theorem rdE_len (l : List UInt8) : (rdE l).length ≤ l.length := by
  have := readA_len l
  unfold rdE
  split
  · omega
  · simp

/-! ### Equal lists -/
theorem events_any (v1 v2 : Value) (es : List Ev) (w : World) (h1 : EvsOf w v1 es) (h2 : EvsOf w v2 es) (hn : es.length ≤ 1000000) :
    Calls Tryd.prog 21 #[v1, v2] w fun r w' => r = .returned (.bool true) ∧ Below w.heap.size w w' := by
  obtain ⟨ao, ca, rfl⟩ := h1.shape
  obtain ⟨bo, cb, rfl⟩ := h2.shape
  have H1 := Lib.hid h1
  have H2 := Lib.hid h2
  clear h1 h2
  go_enter Tryd.func21, Tryd.ntmps21
  go_wp2_with fail
  go_loopw [8] (fun i wr => ∃ k : Nat, k ≤ es.length ∧ i = .int .i64 k ∧ Below w.heap.size w wr) (fun i _ => es.length - (intOf i).toNat)
  case atStart => exact ⟨0, by omega, rfl, Below.refl _ _⟩
  case round =>
    obtain ⟨k, hk, rfl, hb⟩ := hrel
    have HB := Lib.hid hb
    clear hb
    by_cases hlt : k < es.length
    · have hlt' : (k : Int) < (es.length : Int) := by omega
      have hd1 : decide (es.length ≤ k) = false := decide_eq_false (by omega)
      obtain ⟨g, z, rfl, c⟩ := H1.out.at k hlt
      obtain ⟨g', z', rfl, c'⟩ := H2.out.at k hlt
      obtain ⟨c0, c1, c2, c3, c4, c5, c6, c7⟩ := c.below (Nat.le_refl _) HB.out
      obtain ⟨d0, d1, d2, d3, d4, d5, d6, d7⟩ := c'.below (Nat.le_refl _) HB.out
      obtain ⟨e, he⟩ : ∃ e, es.getD k default = e := ⟨_, rfl⟩
      rw [he] at c0 c1 c2 c3 c4 c5 c6 c7 d0 d1 d2 d3 d4 d5 d6 d7
      clear he c c'
      go_wp2_with fail
      go_quiet (fail)
      go_wp2_with fail
      go_roundw
      case rel => exact ⟨k + 1, by omega, by go_num, below_drewN HB.out _⟩
      case measure => simp [intOf] <;> omega
    · have hge : (es.length : Int) ≤ k := by omega
      clear hlt
      go_wp2_with fail
      go_ret
      exact ⟨rfl, HB.out⟩
end Go.Proofs.YtmmkdbcgkafolaaDoor

