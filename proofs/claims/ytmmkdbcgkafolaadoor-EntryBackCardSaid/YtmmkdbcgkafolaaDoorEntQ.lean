
/-
  There and back, in plain words: what was encoded is decoded.
-/
import Derived.Test.YtmmkdbcgkafolaaDoorEntE
import Derived.Test.YtmmkdbcgkafolaaDoorEntD
namespace Go.Proofs.YtmmkdbcgkafolaaDoor
set_option linter.unusedVariables false
set_option linter.unusedSimpArgs false

theorem tk_put {v : Int} (h0 : 0 ≤ v) (h1 : v ≤ 1000000) (r : List UInt8) : takV (putS v ++ r) = v ∧ takR (putS v ++ r) = r ∧ takE (putS v ++ r) = 0 := by
  obtain ⟨n, rfl⟩ := Int.eq_ofNat_of_zero_le h0
  have hk : okN (n : Int) = true := by unfold okN; simp; omega
  obtain ⟨a, b⟩ := putS_ok hk
  have t := tak_enc a r
  rw [b]
  refine ⟨by simp [takV, t], ?_, by simp [takE, t]⟩
  simp only [takR, t]
  rw [← length_enc n, List.drop_left]
theorem marks_bd (e : Ev) : 0 ≤ marksI e ∧ marksI e ≤ 3 := by
  unfold marksI
  cases e.sd <;> cases e.ok <;> decide
theorem marks_back (e : Ev) : m1 (marksI e) = e.sd ∧ m2 (marksI e) = e.ok := by
  unfold marksI
  cases e.sd <;> cases e.ok <;> decide

theorem dec_enc {e : Ev} (h : chk e = 0) (r : List UInt8) : decB (encS e ++ r) = true ∧ evOf (encS e ++ r) = e ∧ rst (encS e ++ r) 7 = r := by
  obtain ⟨⟨k0, k1⟩, _⟩ := chk_zero h
  obtain ⟨⟨a1, b1⟩, ⟨a2, b2⟩, ⟨a3, b3⟩, ⟨a4, b4⟩, ⟨a5, b5⟩⟩ := chk_bd h
  obtain ⟨c0, c1⟩ := marks_bd e
  have EN : encS e ++ r = putS e.kind ++ (putS (e.g + 1) ++ (putS (e.ch + 1) ++ (putS (e.cs + 1) ++ (putS (e.va + 1) ++ (putS (e.ma + 1) ++ (putS (marksI e) ++ r)))))) := by
    rw [show encS e = accS e 5 ++ putS (marksI e) from if_pos h]
    show (((((putS e.kind ++ putS (e.g + 1)) ++ putS (e.ch + 1)) ++ putS (e.cs + 1)) ++ putS (e.va + 1)) ++ putS (e.ma + 1)) ++ putS (marksI e) ++ r = _
    simp only [List.append_assoc]
  rw [EN]
  generalize hl : putS e.kind ++ (putS (e.g + 1) ++ (putS (e.ch + 1) ++ (putS (e.cs + 1) ++ (putS (e.va + 1) ++ (putS (e.ma + 1) ++ (putS (marksI e) ++ r)))))) = l
  have r0 : rst l 0 = putS e.kind ++ (putS (e.g + 1) ++ (putS (e.ch + 1) ++ (putS (e.cs + 1) ++ (putS (e.va + 1) ++ (putS (e.ma + 1) ++ (putS (marksI e) ++ r)))))) := hl.symm
  obtain ⟨v0, q0, e0⟩ := tk_put (v := e.kind) (by omega) (by omega) (putS (e.g + 1) ++ (putS (e.ch + 1) ++ (putS (e.cs + 1) ++ (putS (e.va + 1) ++ (putS (e.ma + 1) ++ (putS (marksI e) ++ r))))))
  rw [← r0] at v0 q0 e0
  have r1 : rst l 1 = _ := q0
  obtain ⟨v1, q1, e1⟩ := tk_put (v := e.g + 1) (by omega) (by omega) (putS (e.ch + 1) ++ (putS (e.cs + 1) ++ (putS (e.va + 1) ++ (putS (e.ma + 1) ++ (putS (marksI e) ++ r)))))
  rw [← r1] at v1 q1 e1
  have r2 : rst l 2 = _ := q1
  obtain ⟨v2, q2, e2⟩ := tk_put (v := e.ch + 1) (by omega) (by omega) (putS (e.cs + 1) ++ (putS (e.va + 1) ++ (putS (e.ma + 1) ++ (putS (marksI e) ++ r))))
  rw [← r2] at v2 q2 e2
  have r3 : rst l 3 = _ := q2
  obtain ⟨v3, q3, e3⟩ := tk_put (v := e.cs + 1) (by omega) (by omega) (putS (e.va + 1) ++ (putS (e.ma + 1) ++ (putS (marksI e) ++ r)))
  rw [← r3] at v3 q3 e3
  have r4 : rst l 4 = _ := q3
  obtain ⟨v4, q4, e4⟩ := tk_put (v := e.va + 1) (by omega) (by omega) (putS (e.ma + 1) ++ (putS (marksI e) ++ r))
  rw [← r4] at v4 q4 e4
  have r5 : rst l 5 = _ := q4
  obtain ⟨v5, q5, e5⟩ := tk_put (v := e.ma + 1) (by omega) (by omega) (putS (marksI e) ++ r)
  rw [← r5] at v5 q5 e5
  have r6 : rst l 6 = _ := q5
  obtain ⟨v6, q6, e6⟩ := tk_put (v := marksI e) (by omega) (by omega) r
  rw [← r6] at v6 q6 e6
  have r7 : rst l 7 = r := q6
  obtain ⟨s1, s2⟩ := marks_back e
  have ev : evOf l = e := by
    unfold evOf num
    rw [v0, v1, v2, v3, v4, v5, v6, s1, s2]
    obtain ⟨k, g, ch, cs, va, ma, sd, ok⟩ := e
    simp only [Ev.mk.injEq]
    refine ⟨trivial, ?_, ?_, ?_, ?_, ?_, trivial, trivial⟩ <;> omega
  refine ⟨?_, ev, r7⟩
  unfold decB
  rw [ev, h]
  have : num l 6 ≤ 3 := by unfold num; rw [v6]; exact c1
  simp [okJ, e0, e1, e2, e3, e4, e5, e6, this]

/-- No one's bytes are the beginning of another one's. -/
theorem enc_apart {a b : Ev} (ha : chk a = 0) (hb : chk b = 0) (r : List UInt8) (h : encS b = encS a ++ r) : a = b := by
  have h1 := (dec_enc ha r).2.1
  have h2 := (dec_enc hb []).2.1
  rw [List.append_nil, h] at h2
  rw [← h1, ← h2]
end Go.Proofs.YtmmkdbcgkafolaaDoor

