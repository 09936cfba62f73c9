
/-
  Package slots: Send, Recv, Close.
-/
import Derived.Test.YtlkfhobacgnckaaSlE
import Derived.Deep.DrawnRows
import Derived.Deep.RegionLaw
namespace Go.Proofs.Ytlkfhobacgnckaa
open Go.RowKit
set_option linter.unusedVariables false
set_option linter.unusedSimpArgs false
set_option maxRecDepth 100000
attribute [local go_sem ↓] Go.wp_at_zero Go.wp_at_succ
@[local go_sem] theorem sk_max2_int (k k' : IntKind) (x y : Int) : Builtin.max2 (.int k x) (.int k' y) = pure (.int k (if x < y then y else x)) := by simp only [Builtin.max2, gt_iff_lt]
@[local go_sem] theorem sk_max_two (ats : Array TypeId) (ty : TypeId) (a b : Value) : Builtin.max_ ats ty #[a, b] = (Builtin.max2 a b >>= fun s => pure s) := by simp only [Builtin.max_, List.foldlM_cons, List.foldlM_nil]

theorem send_nil (p : Value) (w : World) : Calls Try.prog 11 #[.pointer none, p] w fun r w' => r = .returned (.tuple #[.pointer none, .int .i64 7]) ∧ w = w' := by
  go_enter Try.func11, Try.ntmps11
  go_wp2_with fail
  go_ret2
  exact ⟨rfl, rfl⟩
theorem recv_nil (p : Value) (w : World) : Calls Try.prog 13 #[.pointer none, p] w fun r w' => r = .returned (.tuple #[.pointer none, .int .i64 7]) ∧ w = w' := by
  go_enter Try.func13, Try.ntmps13
  go_wp2_with fail
  go_ret2
  exact ⟨rfl, rfl⟩
theorem sclose_nil (p : Value) (w : World) : Calls Try.prog 15 #[.pointer none, p] w fun r w' => r = .returned (.int .i64 7) ∧ w = w' := by
  go_enter Try.func15, Try.ntmps15
  go_wp2_with fail
  go_ret
  exact ⟨rfl, rfl⟩

def SendPost (B s : Nat) (F : Nat → Option Ck) (K : List Nat) (cb : Option Nat) (M : Md) (l : List Int) (w : World) (r : Ending) (w' : World) : Prop :=
  ∃ p vS vR sb rb F', r = .returned (.tuple #[.pointer p, .int .i64 M.sendE]) ∧ SlAt B s w' F' vS vR sb rb cb (M.send l) ∧ Same F F' ∧ Fetched F' (sb ++ rb ++ cb.toList) p M.sendF ∧ (∀ b, b ∈ sb ++ rb ++ cb.toList → b ∈ K ∨ w.heap.size ≤ b) ∧ KeepS B w w'

theorem send_closed {B s : Nat} {w : World} {F : Nat → Option Ck} {vS vR : Value} {sb rb : List Nat} {b0 : Nat} {M : Md} (h : SlAt B s w F vS vR sb rb (some b0) M) (p : Value) (l : List Int) :
    Calls Try.prog 11 #[.pointer (some ⟨s, 0, none⟩), p] w (SendPost B s F (sb ++ rb ++ [b0]) (some b0) M l w) := by
  have H := Lib.hid h
  obtain ⟨⟨c0, c1, c2, c3, c4, c5⟩, hf⟩ := h.cells
  have hc := h.hC
  have E := Lib.hid (show M.sendE = 90 ∧ M.send l = M ∧ M.sendF = none from by
    have hs : M.C.isSome = true := by
      cases hC : M.C with
      | none => rw [hC] at hc; exact hc.elim
      | some _ => rfl
    have he : M.sendE = 90 := by unfold Md.sendE; rw [if_pos hs]
    exact ⟨he, by unfold Md.send; rw [if_neg (by rw [he]; decide)], by unfold Md.sendF; rw [if_neg (by rw [he]; decide)]⟩)
  simp only [Option.map_some] at c5
  clear c0 c1 c2 c3 c4 h hc hf
  go_enter Try.func11, Try.ntmps11
  go_wp2_with fail
  go_ret2
  exact ⟨none, vS, vR, sb, rb, F, by rw [E.out.1]; rfl, by rw [E.out.2.1]; exact H.out, Same.refl _, by rw [E.out.2.2]; rfl, fun b hb => .inl hb, KeepS.refl _ _⟩


theorem send_full {B s : Nat} {w : World} {F : Nat → Option Ck} {vS vR : Value} {sb rb : List Nat} {M : Md} (h : SlAt B s w F vS vR sb rb none M) (ok : M.Ok) (hsm : M.sn ≤ 100000) (hfull : M.full = true) (p : Value) (l : List Int) :
    Calls Try.prog 11 #[.pointer (some ⟨s, 0, none⟩), p] w (SendPost B s F (sb ++ rb) none M l w) := by
  have H := Lib.hid h
  obtain ⟨⟨c0, c1, c2, c3, c4, c5⟩, hf⟩ := h.cells
  have hc := h.hC
  have E := Lib.hid (show M.sendE = 5 ∧ M.send l = M ∧ M.sendF = none from by
    have hs : M.C.isSome = false := by
      cases hC : M.C with
      | none => rfl
      | some _ => rw [hC] at hc; exact hc.elim
    have he : M.sendE = 5 := by unfold Md.sendE; rw [hs, hfull]; rfl
    exact ⟨he, by unfold Md.send; rw [if_neg (by rw [he]; decide)], by unfold Md.sendF; rw [if_neg (by rw [he]; decide)]⟩)
  simp only [Option.map_none] at c5
  have h1 := ok.ls
  have h4 := ok.sz
  have h2 := of_decide_eq_true hfull
  obtain ⟨sz, hsz⟩ : ∃ n, M.size = n := ⟨_, rfl⟩
  obtain ⟨sn, hsn⟩ : ∃ n, M.sn = n := ⟨_, rfl⟩
  obtain ⟨rn, hrn⟩ : ∃ n, M.rn = n := ⟨_, rfl⟩
  rw [hsz] at c0 h2 h4
  rw [hsn] at c3 h1 hsm
  rw [hrn] at c4 h1
  have b1 : (rn : Int) ≤ sn := by omega
  have b2 : (sn : Int) ≤ 100000 := by omega
  by_cases hs : 1 < sz
  · have b3 : (1 : Int) < sz := by omega
    have b4 : (sz : Int) ≤ sn - rn := by omega
    clear c1 c2 h hc hf h1 h2 hsz hsn hrn hfull ok hsm h4 hs
    go_enter Try.func11, Try.ntmps11
    go_wp2_with fail
    go_quiet (fail)
    go_wp2_with fail
    go_ret2
    exact ⟨none, vS, vR, sb, rb, F, by rw [E.out.1]; rfl, by rw [E.out.2.1]; exact H.out.below (below_drewN (Below.refl _ _) _), Same.refl _, by rw [E.out.2.2]; rfl, fun b hb => .inl (by simpa using hb), keepS_below H.out.bw (below_drewN (Below.refl _ _) _)⟩
  · have b3 : (sz : Int) ≤ 1 := by omega
    have b4 : (1 : Int) ≤ sn - rn := by omega
    clear c1 c2 h hc hf h1 h2 hsz hsn hrn hfull ok hsm h4 hs
    go_enter Try.func11, Try.ntmps11
    go_wp2_with fail
    go_quiet (fail)
    go_wp2_with fail
    go_ret2
    exact ⟨none, vS, vR, sb, rb, F, by rw [E.out.1]; rfl, by rw [E.out.2.1]; exact H.out.below (below_drewN (Below.refl _ _) _), Same.refl _, by rw [E.out.2.2]; rfl, fun b hb => .inl (by simpa using hb), keepS_below H.out.bw (below_drewN (Below.refl _ _) _)⟩

theorem SlAt.drawn {B s : Nat} {w : World} {F : Nat → Option Ck} {vS vR : Value} {sb rb : List Nat} {cb : Option Nat} {M : Md} (h : SlAt B s w F vS vR sb rb cb M) (n : Nat) : SlAt B s (w.drewN n) F vS vR sb rb cb M := h.below (below_drewN (Below.refl _ _) _)
theorem SlAt.setSn' {B s : Nat} {w : World} {F : Nat → Option Ck} {vS vR : Value} {sb rb : List Nat} {cb : Option Nat} {M : Md} (h : SlAt B s w F vS vR sb rb cb M) :
    SlAt B s (w.setCell ⟨s, 3, none⟩ (.int .i64 ((M.sn : Int) + 1))) F vS vR sb rb cb ⟨M.size, M.S, M.R, M.sn + 1, M.rn, M.C⟩ := by
  have := h.setSn (M.sn + 1)
  rwa [show ((M.sn + 1 : Nat) : Int) = (M.sn : Int) + 1 by omega] at this
theorem SlAt.setRn' {B s : Nat} {w : World} {F : Nat → Option Ck} {vS vR : Value} {sb rb : List Nat} {cb : Option Nat} {M : Md} (h : SlAt B s w F vS vR sb rb cb M) :
    SlAt B s (w.setCell ⟨s, 4, none⟩ (.int .i64 ((M.rn : Int) + 1))) F vS vR sb rb cb ⟨M.size, M.S, M.R, M.sn, M.rn + 1, M.C⟩ := by
  have := h.setRn (M.rn + 1)
  rwa [show ((M.rn + 1 : Nat) : Int) = (M.rn : Int) + 1 by omega] at this
theorem SlAt.begun {B s : Nat} {w : World} {F : Nat → Option Ck} {vS vR : Value} {sb rb : List Nat} {cb : Option Nat} {M : Md} (h : SlAt B s w F vS vR sb rb cb M) {sn : Nat} (e : M.sn = sn) (n : Nat) :
    SlAt B s ((w.drewN n).setCell ⟨s, 3, none⟩ (.int .i64 ((sn : Int) + 1))) F vS vR sb rb cb ⟨M.size, M.S, M.R, M.sn + 1, M.rn, M.C⟩ ∧ KeepS B w ((w.drewN n).setCell ⟨s, 3, none⟩ (.int .i64 ((sn : Int) + 1))) := by
  subst e
  exact ⟨(h.drawn n).setSn', (keepS_below h.bw (below_drewN (Below.refl _ _) n)).trans (keepS_set (h.drawn n).blk h.low)⟩
/-- A copy laid into a literal, beside slots. -/
theorem SlAt.copied {B s : Nat} {w w' : World} {F F' : Nat → Option Ck} {vS vR : Value} {sb rb : List Nat} {cb : Option Nat} {M : Md} (h : SlAt B s w F vS vR sb rb cb M) (hf : Fam B w' F') (hs : Same F F') (hk : KeepP B w w') (o : Obj) :
    SlAt B s (w'.alloc o) F' vS vR sb rb cb M ∧ KeepS B w (w'.alloc o) := by
  have h1 := h.keepP hf hs hk
  have hB := (Below.refl w'.heap.size w').alloc (Nat.le_refl _) o
  exact ⟨h1.below hB, hk.s.trans (keepS_below h1.bw hB)⟩

theorem SlAt.old {B s : Nat} {w : World} {F : Nat → Option Ck} {vS vR : Value} {sb rb : List Nat} {cb : Option Nat} {M : Md} (h : SlAt B s w F vS vR sb rb cb M) : ∀ b, b ∈ sb ++ rb ++ cb.toList → b < w.heap.size := fun b hb => by
  obtain ⟨l, hl⟩ := Hass.mem h.all b hb
  exact h.fam.lt hl
/-- A copy appended to what was sent, and stored. -/
theorem SlAt.appS' {B s : Nat} {W w3 w5 : World} {F F' : Nat → Option Ck} {vS vR : Value} {sb rb : List Nat} {cb : Option Nat} {M : Md} (A : SlAt B s W F vS vR sb rb cb M) (A3 : SlAt B s w3 F' vS vR sb rb cb M ∧ KeepS B W w3)
    {b' g cap : Nat} {l : List Int} (hb : Has F' b' l) (hlt : W.heap.size ≤ b') (X : w5.ownsRow B 28 1 (.slice (some ⟨g, 0, none⟩) (sb.length + 1) cap) (sb.length + 1) (ptrs (sb ++ [b'])) ∧ w3.grownBy w5 vS.ownBlock ∧ (vS.ownBlock = some g ∨ g = w3.heap.size)) :
    SlAt B s (w5.setCell ⟨s, 1, none⟩ (.slice (some ⟨g, 0, none⟩) (sb.length + 1) cap)) F' (.slice (some ⟨g, 0, none⟩) (sb.length + 1) cap) vR (sb ++ [b']) rb cb ⟨M.size, M.S ++ [l], M.R, M.sn, M.rn, M.C⟩ ∧ KeepS B W (w5.setCell ⟨s, 1, none⟩ (.slice (some ⟨g, 0, none⟩) (sb.length + 1) cap)) ∧ ∀ x, x ∈ sb ++ [b'] ++ rb ++ cb.toList → x ∈ sb ++ rb ++ cb.toList ∨ W.heap.size ≤ x := by
  have T := A3.1.appS hb (fun hm => by have := A.old _ hm; omega) X.1 X.2.1 (X.2.2.imp id (fun e => by omega))
  refine ⟨T.1, A3.2.trans T.2, fun x hx => ?_⟩
  simp only [List.mem_append, List.mem_singleton] at hx ⊢
  rcases hx with ((hx | hx) | hx) | hx
  · exact .inl (.inl (.inl hx))
  · subst hx; exact .inr hlt
  · exact .inl (.inl (.inr hx))
  · exact .inl (.inr hx)
theorem SlAt.appR' {B s : Nat} {W w3 w5 : World} {F F' : Nat → Option Ck} {vS vR : Value} {sb rb : List Nat} {cb : Option Nat} {M : Md} (A : SlAt B s W F vS vR sb rb cb M) (A3 : SlAt B s w3 F' vS vR sb rb cb M ∧ KeepS B W w3)
    {b' g cap : Nat} {l : List Int} (hb : Has F' b' l) (hlt : W.heap.size ≤ b') (X : w5.ownsRow B 28 1 (.slice (some ⟨g, 0, none⟩) (rb.length + 1) cap) (rb.length + 1) (ptrs (rb ++ [b'])) ∧ w3.grownBy w5 vR.ownBlock ∧ (vR.ownBlock = some g ∨ g = w3.heap.size)) :
    SlAt B s (w5.setCell ⟨s, 2, none⟩ (.slice (some ⟨g, 0, none⟩) (rb.length + 1) cap)) F' vS (.slice (some ⟨g, 0, none⟩) (rb.length + 1) cap) sb (rb ++ [b']) cb ⟨M.size, M.S, M.R ++ [l], M.sn, M.rn, M.C⟩ ∧ KeepS B W (w5.setCell ⟨s, 2, none⟩ (.slice (some ⟨g, 0, none⟩) (rb.length + 1) cap)) ∧ ∀ x, x ∈ sb ++ (rb ++ [b']) ++ cb.toList → x ∈ sb ++ rb ++ cb.toList ∨ W.heap.size ≤ x := by
  have T := A3.1.appR hb (fun hm => by have := A.old _ hm; omega) X.1 X.2.1 (X.2.2.imp id (fun e => by omega))
  refine ⟨T.1, A3.2.trans T.2, fun x hx => ?_⟩
  simp only [List.mem_append, List.mem_singleton] at hx ⊢
  rcases hx with (hx | hx | hx) | hx
  · exact .inl (.inl (.inl hx))
  · exact .inl (.inl (.inr hx))
  · subst hx; exact .inr hlt
  · exact .inl (.inr hx)
theorem keepS_drawn {B : Nat} (w : World) (n : Nat) : KeepS B w (w.drewN n) := ⟨fun _ _ _ _ _ => fun _ _ _ _ => rfl, fun w0 _ h => below_drewN h n⟩

set_option maxHeartbeats 2000000 in
theorem send_not {B s : Nat} {w : World} {F : Nat → Option Ck} {vS vR : Value} {sb rb : List Nat} {M : Md} (h : SlAt B s w F vS vR sb rb none M) (ok : M.Ok) (hsm : M.sn ≤ 50000) (hfull : M.full = false) (hdue : M.due = false) (b : Nat) (l : List Int) (hb : Has F b l) :
    Calls Try.prog 11 #[.pointer (some ⟨s, 0, none⟩), .pointer (some ⟨b, 0, none⟩)] w (SendPost B s F (sb ++ rb) none M l w) := by
  have H := Lib.hid h
  obtain ⟨⟨c0, c1, c2, c3, c4, c5⟩, hf⟩ := h.cells
  have hc := h.hC
  have HB := Lib.hid hb
  have DUE := Lib.hid hdue
  have E := Lib.hid (show M.sendE = 0 ∧ M.send l = ⟨M.size, M.S ++ [l], M.R, M.sn + 1, M.rn, M.C⟩ ∧ M.sendF = none from by
    have hs : M.C.isSome = false := by
      cases hC : M.C with
      | none => rfl
      | some _ => rw [hC] at hc; exact hc.elim
    have he : M.sendE = 0 := by unfold Md.sendE; rw [hs, hfull]; rfl
    exact ⟨he, by unfold Md.send; rw [if_pos he, hdue]; rfl, by unfold Md.sendF; rw [if_pos he, hdue]; rfl⟩)
  simp only [Option.map_none] at c5
  have h1 := ok.ls
  have h4 := ok.sz
  have h2 := of_decide_eq_false hfull
  have hSl := h.hS.len
  have HSL := Lib.hid (show sb.length ≤ 100000 by omega)
  obtain ⟨sz, hsz⟩ : ∃ n, M.size = n := ⟨_, rfl⟩
  obtain ⟨sn, hsn⟩ : ∃ n, M.sn = n := ⟨_, rfl⟩
  obtain ⟨rn, hrn⟩ : ∃ n, M.rn = n := ⟨_, rfl⟩
  have SN := Lib.hid hsn
  rw [hsz] at c0 h2 h4
  rw [hsn] at c3 h1 hsm
  rw [hrn] at c4 h1
  have b1 : (rn : Int) ≤ sn := by omega
  have b2 : (sn : Int) ≤ 50000 := by omega
  have b3 : ((1 : Int) < sz ∧ (sn : Int) - rn < sz) ∨ ((sz : Int) ≤ 1 ∧ (sn : Int) - rn < 1) := by omega
  have f3 := hf 3
  clear c1 c2 h hc hf h1 h2 hsz hsn hrn hfull ok hsm h4 hdue hb hSl
  rcases b3 with ⟨b3, b4⟩ | ⟨b3, b4⟩
  all_goals
    go_enter Try.func11, Try.ntmps11
    go_wp2_with fail
    go_quiet (fail)
    go_wp2_with fail
    refine (due_any (H.out.drawn _) false DUE.out).mono ?_
    rintro r w1 ⟨rfl, m, rfl⟩
    go_wp2_with fail
    generalize hW : World.setCell _ _ _ = W
    have A2 : SlAt B s W F vS vR sb rb none ⟨M.size, M.S, M.R, M.sn + 1, M.rn, M.C⟩ ∧ KeepS B w W := by
      rw [← hW]
      exact H.out.begun SN.out _
    clear hW c0 c3 c4 c5 f3
    obtain ⟨⟨_, g1, _, _, _, _⟩, hf⟩ := A2.1.cells
    have g2 := hf 1
    have A := Lib.hid A2
    clear A2 hf
    go_region_law
      (first
        | (go_simp; go_at_call 35; refine (fam_copy (show Fam B W.drew F from (A.out.1.drawn 1).fam) (show B ≤ W.drew.heap.size from A.out.1.bw) b l HB.out).mono ?_; rintro r w3 ⟨b', F', rfl, hF3, hb3, hlt3, hS3, hK3⟩; have A3 := Lib.hid ((A.out.1.drawn 1).copied hF3 hS3 hK3 (.cells #[.pointer (some ⟨b', 0, none⟩)] 28)); have K3 := Lib.hid ((A.out.1.drawn 1).keepP hF3 hS3 hK3); have g3 := K3.out.cells.1.2.1; have g4 := A3.out.1.cells.1.2.1; have X3 := Lib.hid (show Has F' b' l ∧ W.heap.size ≤ b' ∧ Same F F' from ⟨hb3, hlt3, hS3⟩); clear hF3 hb3 hlt3 hS3 hK3)
        | (refine step_append_ptr rfl _ _ (by rfl) B vS sb.length sb (by rfl) A3.out.1.rowS w3.heap.size b' _ (by rfl) (heap_alloc_new _ _) HSL.out A3.out.1.bw ?_; intro g cap w5 hown hgr hg hlt; have g5 := ((keepT_grown A3.out.1.rowS hgr (by decide) _ _ _ A3.out.1.blk).trans A3.out.1.blk); have g6 : w5.cell? ⟨s, 1, none⟩ = some vS := (by simp only [World.cell?, g5]; rfl); have g7 : w5.frozen? ⟨s, 1, none⟩ = false := (by simp [World.frozen?, g5]); have X5 := Lib.hid (And.intro hown (And.intro hgr hg)); clear hown hgr hg g5))
    all_goals
      have T := Lib.hid ((A.out.1.drawn 1).appS' A3.out X3.out.1 X3.out.2.1 X5.out)
      have K := Lib.hid (A.out.2.trans (keepS_drawn W 1))
      have SZ := Lib.hid (A.out.2.size H.out.bw)
      clear X5 A3 K3 A g6 g7
      go_wp2_with fail
      go_ret2
      exact ⟨none, _, vR, _, rb, F', by rw [E.out.1]; rfl, by rw [E.out.2.1]; exact T.out.1, X3.out.2.2, by rw [E.out.2.2]; rfl, fun x hx => (T.out.2.2 x hx).imp (fun h => by simpa using h) (fun h => Nat.le_trans SZ.out h), K.out.trans T.out.2.1⟩

set_option maxHeartbeats 2000000 in
theorem send_due {B s : Nat} {w : World} {F : Nat → Option Ck} {vS vR : Value} {sb rb : List Nat} {M : Md} (h : SlAt B s w F vS vR sb rb none M) (ok : M.Ok) (hsm : M.sn ≤ 50000) (hfull : M.full = false) (hdue : M.due = true) (b : Nat) (l : List Int) (hb : Has F b l) :
    Calls Try.prog 11 #[.pointer (some ⟨s, 0, none⟩), .pointer (some ⟨b, 0, none⟩)] w (SendPost B s F (sb ++ rb) none M l w) := by
  have hrl := h.hR.len
  have hpos := Md.due_R ok hfull hdue
  have hsmall := Md.small ok
  cases rb with
  | nil => simp at hrl; omega
  | cons b0 tl =>
  have H := Lib.hid h
  obtain ⟨⟨c0, c1, c2, c3, c4, c5⟩, hf⟩ := h.cells
  have hc := h.hC
  have HB := Lib.hid hb
  have DUE := Lib.hid hdue
  have E := Lib.hid (show M.sendE = 0 ∧ M.send l = ⟨M.size, M.S ++ [l], M.R.tail, M.sn + 1, M.rn, M.C⟩ ∧ M.sendF = some (M.R.headD []) from by
    have hs : M.C.isSome = false := by
      cases hC : M.C with
      | none => rfl
      | some _ => rw [hC] at hc; exact hc.elim
    have he : M.sendE = 0 := by unfold Md.sendE; rw [hs, hfull]; rfl
    exact ⟨he, by unfold Md.send; rw [if_pos he, hdue]; rfl, by unfold Md.sendF; rw [if_pos he, hdue]; rfl⟩)
  simp only [Option.map_none] at c5
  have h1 := ok.ls
  have h4 := ok.sz
  have h2 := of_decide_eq_false hfull
  have hSl := h.hS.len
  have HSL := Lib.hid (show sb.length ≤ 100000 by omega)
  have HRL := Lib.hid (show tl.length ≤ 60000 by
    have hlr := ok.lr
    have hd := of_decide_eq_true hdue
    rw [if_neg (by omega)] at hlr
    simp at hrl
    omega)
  have RR := Lib.hid h.rowR
  obtain ⟨sz, hsz⟩ : ∃ n, M.size = n := ⟨_, rfl⟩
  obtain ⟨sn, hsn⟩ : ∃ n, M.sn = n := ⟨_, rfl⟩
  obtain ⟨rn, hrn⟩ : ∃ n, M.rn = n := ⟨_, rfl⟩
  have SN := Lib.hid hsn
  rw [hsz] at c0 h2 h4
  rw [hsn] at c3 h1 hsm
  rw [hrn] at c4 h1
  have b1 : (rn : Int) ≤ sn := by omega
  have b2 : (sn : Int) ≤ 50000 := by omega
  have b3 : ((1 : Int) < sz ∧ (sn : Int) - rn < sz) ∨ ((sz : Int) ≤ 1 ∧ (sn : Int) - rn < 1) := by omega
  clear c1 c2 h hc hf h1 h2 hsz hsn hrn hfull ok hsm h4 hdue hb hSl hrl hpos hsmall
  rcases b3 with ⟨b3, b4⟩ | ⟨b3, b4⟩
  all_goals
    go_enter Try.func11, Try.ntmps11
    go_wp2_with fail
    go_quiet (fail)
    go_wp2_with fail
    refine (due_any (H.out.drawn _) true DUE.out).mono ?_
    rintro r w1 ⟨rfl, m, rfl⟩
    go_wp2_with fail
    refine (fetch_yes B s 2 b0 tl vR _ (H.out.drawn _).cells.1.2.2.1 ((H.out.drawn _).cells.2 2) (H.out.drawn _).rowR HRL.out).mono ?_
    rintro r w1 ⟨rfl, g0, cap0, w2, hw1, hg0, hB0, hown0⟩
    have A1 : (SlAt B s w1 F vS (.slice (some ⟨g0, 0, none⟩) tl.length cap0) sb tl none ⟨M.size, M.S, M.R.tail, M.sn, M.rn, M.C⟩ ∧ Has F b0 (M.R.headD []) ∧ b0 ∉ sb ++ tl ++ (none : Option Nat).toList) ∧ KeepS B w w1 := by
      have T := (H.out.drawn _).fetR hg0 hB0 hown0
      rw [hw1]
      exact ⟨⟨T.1, T.2.2.1, T.2.2.2⟩, (keepS_drawn w _).trans T.2.1⟩
    have G := Lib.hid A1
    obtain ⟨⟨_, _, _, c3', _, _⟩, hf⟩ := A1.1.1.cells
    have f3' := hf 3
    simp only [SN.out] at c3'
    clear hw1 hg0 hB0 hown0 A1 hf c0 c3 c4 c5
    go_wp2_with fail
    generalize hW : World.setCell _ _ _ = W
    have A2 : SlAt B s W F vS (.slice (some ⟨g0, 0, none⟩) tl.length cap0) sb tl none ⟨M.size, M.S, M.R.tail, M.sn + 1, M.rn, M.C⟩ ∧ KeepS B w W := by
      rw [← hW]
      have := G.out.1.1.setSn'
      simp only [SN.out] at this ⊢
      exact ⟨this, G.out.2.trans (keepS_set G.out.1.1.blk G.out.1.1.low)⟩
    clear hW c3' f3'
    obtain ⟨⟨_, g1, _, _, _, _⟩, hf⟩ := A2.1.cells
    have g2 := hf 1
    have A := Lib.hid A2
    clear A2 hf
    go_region_law
      (first
        | (go_simp; go_at_call 35; refine (fam_copy (show Fam B W.drew F from (A.out.1.drawn 1).fam) (show B ≤ W.drew.heap.size from A.out.1.bw) b l HB.out).mono ?_; rintro r w3 ⟨b', F', rfl, hF3, hb3, hlt3, hS3, hK3⟩; have A3 := Lib.hid ((A.out.1.drawn 1).copied hF3 hS3 hK3 (.cells #[.pointer (some ⟨b', 0, none⟩)] 28)); have K3 := Lib.hid ((A.out.1.drawn 1).keepP hF3 hS3 hK3); have g3 := K3.out.cells.1.2.1; have g4 := A3.out.1.cells.1.2.1; have X3 := Lib.hid (show Has F' b' l ∧ W.heap.size ≤ b' ∧ Same F F' from ⟨hb3, hlt3, hS3⟩); clear hF3 hb3 hlt3 hS3 hK3)
        | (refine step_append_ptr rfl _ _ (by rfl) B vS sb.length sb (by rfl) A3.out.1.rowS w3.heap.size b' _ (by rfl) (heap_alloc_new _ _) HSL.out A3.out.1.bw ?_; intro g cap w5 hown hgr hg hlt; have g5 := ((keepT_grown A3.out.1.rowS hgr (by decide) _ _ _ A3.out.1.blk).trans A3.out.1.blk); have g6 : w5.cell? ⟨s, 1, none⟩ = some vS := (by simp only [World.cell?, g5]; rfl); have g7 : w5.frozen? ⟨s, 1, none⟩ = false := (by simp [World.frozen?, g5]); have X5 := Lib.hid (And.intro hown (And.intro hgr hg)); clear hown hgr hg g5))
    all_goals
      have T := Lib.hid ((A.out.1.drawn 1).appS' A3.out X3.out.1 X3.out.2.1 X5.out)
      have K := Lib.hid (A.out.2.trans (keepS_drawn W 1))
      have SZ := Lib.hid (A.out.2.size H.out.bw)
      have OLD := Lib.hid (A.out.1.fam.lt G.out.1.2.1)
      clear X5 A3 K3 A g6 g7
      go_wp2_with fail
      go_ret2
      exact ⟨some ⟨b0, 0, none⟩, _, _, _, tl, F', by rw [E.out.1]; rfl, by rw [E.out.2.1]; exact T.out.1, X3.out.2.2, by rw [E.out.2.2]; exact ⟨b0, rfl, G.out.1.2.1.same X3.out.2.2, fun hm => by
        rcases T.out.2.2 b0 hm with h | h
        · exact G.out.1.2.2 h
        · exact absurd OLD.out (Nat.not_lt.2 h)⟩, fun x hx => (T.out.2.2 x hx).imp (fun h => by simp only [List.mem_append, List.mem_cons] at h ⊢; rcases h with (h | h) | h; exact .inl h; exact .inr (.inr h); simp at h) (fun h => Nat.le_trans SZ.out h), K.out.trans T.out.2.1⟩

end Go.Proofs.Ytlkfhobacgnckaa

