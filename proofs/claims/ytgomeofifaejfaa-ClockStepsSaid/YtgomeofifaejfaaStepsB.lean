
/-
  ClockSteps: copies; the steps among the arguments; the beginning.
-/
import Derived.Test.YtgomeofifaejfaaSteps
import Derived.Test.YtgomeofifaejfaaArg
import Derived.Deep.RegionHeld3
namespace Go.Proofs.Ytgomeofifaejfaa
open Go.RowKit
set_option linter.unusedVariables false
set_option linter.unusedSimpArgs false
set_option maxRecDepth 100000

/-- Pointers of three. -/
abbrev ptr3 (bs : Nat → Nat) : Array Value := #[.pointer (some ⟨bs 0, 0, none⟩), .pointer (some ⟨bs 1, 0, none⟩), .pointer (some ⟨bs 2, 0, none⟩)]
def updB (bs : Nat → Nat) (i b : Nat) : Nat → Nat := fun j => if j = i then b else bs j
theorem ptr3_set (bs : Nat → Nat) (i b : Nat) (hi : i < 3) : (ptr3 bs).setIfInBounds i (.pointer (some ⟨b, 0, none⟩)) = ptr3 (updB bs i b) := by
  match i, hi with
  | 0, _ => rfl
  | 1, _ => rfl
  | 2, _ => rfl

def PCopy (B g : Nat) (bs : Nat → Nat) (ns : Nat → List Int) (k : Nat) (w : World) (r : Ending) (w' : World) : Prop :=
  ∃ b', r = .returned (.pointer (some ⟨b', 0, none⟩)) ∧ PH B g w' bs ns ∧ KeepP B w w' ∧ ∀ i, i < 3 → PH B g (w'.setCell ⟨g, i, none⟩ (.pointer (some ⟨b', 0, none⟩))) (updB bs i b') (updT ns i (ns k))

theorem p_copy {B g : Nat} {w : World} {bs : Nat → Nat} {ns : Nat → List Int} (h : PH B g w bs ns) (hB : B ≤ w.heap.size) (k : Nat) (hk3 : k < 3) :
    Calls Try.prog 13 #[.pointer (some ⟨bs k, 0, none⟩)] w (PCopy B g bs ns k w) := by
  obtain ⟨F, hF, hc⟩ := h.clk
  obtain ⟨kk, hkk, hkka⟩ := hc k hk3
  have hcb := hF.here _ _ hkk
  have hlt := hcb.lt
  have hlo := hF.low _ _ hkk
  refine (copy_any (bs k) kk w hcb).mono ?_
  rintro r w' ⟨b', hb', rfl, hn, hs, htu⟩
  have hnew : ∀ b'' k'', F b'' = some k'' → b'' ≠ b' := fun b'' k'' e => by have := (hF.here b'' k'' e).lt; omega
  -- the old one is shared now
  have hF1 : Fam B w' (upd F (bs k) ⟨kk.arr, kk.xs, true⟩) := by
    refine ⟨fun b k' e => ?_, fun b c k1 k2 e1 e2 hne hp hp' ea => ?_, fun b k' e => ?_⟩
    · by_cases hb : b = bs k
      · subst hb; rw [upd_self] at e; cases e; exact hs
      · simp [upd, hb] at e
        have hc2 := hF.here b k' e
        refine hc2.frame fun q hq hh => htu.block q hq ?_
        rintro rfl
        rcases hh with hh | ⟨hp, hh⟩
        · exact hb hh.symm
        · exact (hcb.ne hc2 hp) hh
    · by_cases h1 : b = bs k <;> by_cases h2 : c = bs k
      · exact absurd (h1.trans h2.symm) hne
      · subst h1; rw [upd_self] at e1; cases e1; simp [upd, h2] at e2
        exact ⟨rfl, (hF.apart _ _ kk k2 hkk e2 hne hp hp' ea).2⟩
      · subst h2; rw [upd_self] at e2; cases e2; simp [upd, h1] at e1
        exact ⟨(hF.apart _ _ k1 kk e1 hkk hne hp hp' ea).1, rfl⟩
      · simp [upd, h1] at e1; simp [upd, h2] at e2
        exact hF.apart _ _ k1 k2 e1 e2 hne hp hp' ea
    · by_cases hb : b = bs k
      · subst hb; rw [upd_self] at e; cases e; exact hlo
      · simp [upd, hb] at e; exact hF.low b k' e
  have hF2 : Fam B w' (upd (upd F (bs k) ⟨kk.arr, kk.xs, true⟩) b' ⟨kk.arr, kk.xs, true⟩) := by
    refine hF1.new hn (by omega) hlo.2 fun b'' k'' e => ?_
    by_cases hb : b'' = bs k
    · subst hb; rw [upd_self] at e; cases e
      exact ⟨by omega, fun _ _ _ => ⟨rfl, rfl⟩⟩
    · simp [upd, hb] at e
      exact ⟨hnew _ _ e, fun hp hp' ea => ⟨rfl, (hF.apart _ _ kk k'' hkk e (fun e => hb e.symm) hp hp' ea).2⟩⟩
  have hkeep : KeepP B w w' := by
    refine ⟨fun e h1 h2 => keepT_turned htu fun q cur fz hq => ?_, fun w0 hle hB0 => ⟨htu.os.trans hB0.os, htu.tape.trans hB0.tape, htu.output.trans hB0.output, Nat.le_trans hB0.size htu.size, fun q hq => (htu.block q (by have := hB0.size; omega) (by have := hlo.1; omega)).trans (hB0.block q hq)⟩⟩
    rintro rfl
    obtain ⟨ao, cap, hb, _⟩ := hcb
    rw [hb] at hq
    have := Option.some.inj hq
    injection this with e1 e2
    exact h1 e2.symm
  have hptr := (hkeep.1 _ (by decide) (by decide) _ _ _ h.ptr).trans h.ptr
  have hget : ∀ j, j < 3 → ∃ kj, (upd (upd F (bs k) ⟨kk.arr, kk.xs, true⟩) b' ⟨kk.arr, kk.xs, true⟩) (bs j) = some kj ∧ ∀ u : Int, at0 kj.xs u = at0 (ns j) u := fun j hj => by
    obtain ⟨kj, h1, h2⟩ := hc j hj
    by_cases hjk : bs j = bs k
    · have : j = k := h.inj j k hj hk3 hjk
      subst this
      exact ⟨⟨kk.arr, kk.xs, true⟩, upd_ne (hnew _ _ hkk) (upd_self _ _ _), hkka⟩
    · exact ⟨kj, upd_ne (hnew _ _ h1) (upd_ne hjk h1), h2⟩
  refine ⟨b', rfl, ⟨hptr, ⟨_, hF2, hget⟩, h.inj, h.ok⟩, hkeep, fun i hi => ?_⟩
  have kt : ∀ e, e ≠ 23 → KeepT e w' (w'.setCell ⟨g, i, none⟩ (.pointer (some ⟨b', 0, none⟩))) := fun e he => keepT_set hptr he
  refine ⟨?_, ⟨_, hF2.keep (kt _ (by decide)) (kt _ (by decide)), fun j hj => ?_⟩, fun a c ha hc2 e => ?_, fun j hj => ?_⟩
  · rw [heap_setCell_same w' g i _ _ _ hptr]
    exact congrArg (fun c => some (Obj.cells c 23 (0, 0))) (ptr3_set bs i b' hi)
  · by_cases hji : j = i
    · subst hji
      exact ⟨⟨kk.arr, kk.xs, true⟩, by simp [updB, upd_self], by rw [updT_self]; exact hkka⟩
    · obtain ⟨kj, h1, h2⟩ := hget j hj
      exact ⟨kj, by simp only [updB, if_neg hji]; exact h1, by rw [updT_ne _ _ hji]; exact h2⟩
  · have hne : ∀ j, j < 3 → bs j ≠ b' := fun j hj => by
      obtain ⟨kj, h1, _⟩ := hc j hj
      exact hnew _ _ h1
    unfold updB at e
    by_cases h1 : a = i <;> by_cases h2 : c = i
    · exact h1.trans h2.symm
    · rw [if_pos h1, if_neg h2] at e; exact absurd e.symm (hne c hc2)
    · rw [if_neg h1, if_pos h2] at e; exact absurd e (hne a ha)
    · rw [if_neg h1, if_neg h2] at e; exact h.inj a c ha hc2 e
  · by_cases hji : j = i
    · subst hji; rw [updT_self]; exact h.ok k hk3
    · rw [updT_ne _ _ hji]; exact h.ok j hj

structure Stp where
  what : Int
  i : Int
  k : Int
  tid : Int
  n : Int
instance : Inhabited Stp := ⟨⟨0, 0, 0, 0, 0⟩⟩
structure StpAt (w : World) (b o : Nat) (s : Stp) : Prop where
  c0 : w.cell? ⟨b, o, none⟩ = some (.int .i64 s.what)
  c1 : w.cell? ⟨b, o + 1, none⟩ = some (.int .i64 s.i)
  c2 : w.cell? ⟨b, o + 2, none⟩ = some (.int .i64 s.k)
  c3 : w.cell? ⟨b, o + 3, none⟩ = some (.int .i64 s.tid)
  c4 : w.cell? ⟨b, o + 4, none⟩ = some (.int .i64 s.n)
theorem StpAt.below {w w' : World} {b o : Nat} {s : Stp} (h : StpAt w b o s) {n : Nat} (hn : w.heap.size ≤ n) (hB : Below n w w') : StpAt w' b o s := by
  have hb : b < n := Nat.lt_of_lt_of_le (block_lt_of_cell h.c0) hn
  obtain ⟨c0, c1, c2, c3, c4⟩ := h
  have e : ∀ o, w'.cell? ⟨b, o, none⟩ = w.cell? ⟨b, o, none⟩ := fun o => hB.cell (p := ⟨b, o, none⟩) hb
  exact ⟨(e _).trans c0, (e _).trans c1, (e _).trans c2, (e _).trans c3, (e _).trans c4⟩
def StpsOf (w : World) (v : Value) (ss : List Stp) : Prop :=
  ∃ ao cap, v = .slice ao ss.length cap ∧ (0 < ss.length → ∃ b o, ao = some ⟨b, o, none⟩ ∧ ∀ i, i < ss.length → StpAt w b (o + i * 5) (ss.getD i default))

theorem stps_arg {H : Type} {enc : TypeId × Value → H} {W : World} {b0 : Nat} {held : Bool} {v : Value} {d : DataW H} {ps : List MemPlace}
    (hval : Value.okWide Try.prog W .any b0 45 v) (h : DataW.Trod enc Try.prog W 0 (fun _ => true) held 45 v d ps) : ∃ ss, StpsOf W v ss := by
  obtain ⟨a0, len0, cap0, rfl⟩ := Go.WideShapes.okWide_slice Try.underlying45 hval
  obtain ⟨fuel, hf⟩ := h
  obtain ⟨ao, len, cap, hcs, hle, hno, hc⟩ := open_structs Try.underlying45 Try.underlying49 (Go.Deep.hone_of (by kernel_rfl)) (by kernel_rfl) (by decide) hf
  simp [Value.cells] at hcs
  obtain ⟨rfl, rfl, rfl⟩ := hcs
  by_cases hp : 0 < len0
  · obtain ⟨b, o, rfl, hx⟩ := hc hp
    have each : ∀ i, i < len0 → ∃ p : Stp, StpAt W b (o + i * 5) p := by
      intro i hi
      obtain ⟨v0, n0, y0, h0, t0⟩ := hx i hi 0 _ rfl
      obtain ⟨v1, n1, y1, h1, t1⟩ := hx i hi 1 _ rfl
      obtain ⟨v2, n2, y2, h2, t2⟩ := hx i hi 2 _ rfl
      obtain ⟨v3, n3, y3, h3, t3⟩ := hx i hi 3 _ rfl
      obtain ⟨v4, n4, y4, h4, t4⟩ := hx i hi 4 _ rfl
      obtain ⟨x0, e0, _⟩ := DataW.trod_int Try.underlying3 t0
      obtain ⟨x1, e1, _⟩ := DataW.trod_int Try.underlying3 t1
      obtain ⟨x2, e2, _⟩ := DataW.trod_int Try.underlying3 t2
      obtain ⟨x3, e3, _⟩ := DataW.trod_int Try.underlying3 t3
      obtain ⟨x4, e4, _⟩ := DataW.trod_int Try.underlying3 t4
      cases e0; cases e1; cases e2; cases e3; cases e4
      exact ⟨⟨x0, x1, x2, x3, x4⟩, h0, h1, h2, h3, h4⟩
    obtain ⟨f, hfx⟩ := Go.Deep.choose_lt each
    refine ⟨(List.range len0).map f, some ⟨b, o, none⟩, cap0, by simp, fun _ => ⟨b, o, rfl, fun i hi => ?_⟩⟩
    have hi' : i < len0 := by simpa using hi
    have : ((List.range len0).map f).getD i default = f i := by simp [List.getD, hi']
    rw [this]
    exact hfx i hi'
  · have h0 : len0 = 0 := by omega
    subst h0
    exact ⟨[], a0, cap0, rfl, fun h => by simp at h⟩

end Go.Proofs.Ytgomeofifaejfaa

