
/-
  Package slots: Send whole; Recv.
-/
import Derived.Test.YtlkfhobacgnckaaSlF
namespace Go.Proofs.Ytlkfhobacgnckaa
open Go.RowKit
set_option linter.unusedVariables false
set_option linter.unusedSimpArgs false
set_option maxRecDepth 100000
attribute [local go_sem ↓] Go.wp_at_zero Go.wp_at_succ

theorem send_any {B s : Nat} {w : World} {F : Nat → Option Ck} {vS vR : Value} {sb rb : List Nat} {cb : Option Nat} {M : Md} (h : SlAt B s w F vS vR sb rb cb M) (ok : M.Ok) (hsm : M.sn ≤ 50000) (b : Nat) (l : List Int) (hb : Has F b l) :
    Calls Try.prog 11 #[.pointer (some ⟨s, 0, none⟩), .pointer (some ⟨b, 0, none⟩)] w (SendPost B s F (sb ++ rb ++ cb.toList) cb M l w) := by
  cases cb with
  | some b0 => exact send_closed h _ l
  | none =>
    rw [show (none : Option Nat).toList = [] from rfl, List.append_nil]
    cases hf : M.full with
    | true => exact send_full h ok (by omega) hf _ l
    | false =>
      cases hd : M.due with
      | true => exact send_due h ok hsm hf hd b l hb
      | false => exact send_not h ok hsm hf hd b l hb

def RecvPost (B s : Nat) (F : Nat → Option Ck) (K : List Nat) (cb : Option Nat) (M : Md) (l : List Int) (w : World) (r : Ending) (w' : World) : Prop :=
  ∃ p vS vR sb rb F', r = .returned (.tuple #[.pointer p, .int .i64 M.recvE]) ∧ SlAt B s w' F' vS vR sb rb cb (M.recv l) ∧ Same F F' ∧ Fetched F' (sb ++ rb ++ cb.toList) p M.recvF ∧ (∀ b, b ∈ sb ++ rb ++ cb.toList → b ∈ K ∨ w.heap.size ≤ b) ∧ KeepS B w w'

theorem recv_none {B s : Nat} {w : World} {F : Nat → Option Ck} {vS vR : Value} {sb rb : List Nat} {cb : Option Nat} {M : Md} (h : SlAt B s w F vS vR sb rb cb M) (ok : M.Ok) (h0 : M.S.length = 0) (p : Value) (l : List Int) :
    Calls Try.prog 13 #[.pointer (some ⟨s, 0, none⟩), p] w (RecvPost B s F (sb ++ rb ++ cb.toList) cb M l w) := by
  have H := Lib.hid h
  obtain ⟨⟨c0, c1, c2, c3, c4, c5⟩, hf⟩ := h.cells
  have E := Lib.hid (show M.recvE = 6 ∧ M.recv l = M ∧ M.recvF = none from by
    have he : M.recvE = 6 := by unfold Md.recvE; rw [if_pos h0]
    exact ⟨he, by unfold Md.recv; rw [if_neg (by rw [he]; decide)], by unfold Md.recvF; rw [if_neg (by rw [he]; decide)]⟩)
  have h1 := ok.ls
  have e : M.rn = M.sn := by omega
  rw [e] at c4
  clear c0 c1 c2 c5 h hf h1 e h0 ok
  go_enter Try.func13, Try.ntmps13
  go_wp2_with fail
  go_quiet (fail)
  go_wp2_with fail
  go_ret2
  exact ⟨none, vS, vR, sb, rb, F, by rw [E.out.1]; rfl, by rw [E.out.2.1]; exact H.out.below (below_drewN (Below.refl _ _) _), Same.refl _, by rw [E.out.2.2]; rfl, fun b hb => .inl hb, keepS_below H.out.bw (below_drewN (Below.refl _ _) _)⟩

theorem SlAt.begunR {B s : Nat} {w : World} {F : Nat → Option Ck} {vS vR : Value} {sb rb : List Nat} {cb : Option Nat} {M : Md} (h : SlAt B s w F vS vR sb rb cb M) {rn : Nat} (e : M.rn = rn) (n : Nat) :
    SlAt B s ((w.drewN n).setCell ⟨s, 4, none⟩ (.int .i64 ((rn : Int) + 1))) F vS vR sb rb cb ⟨M.size, M.S, M.R, M.sn, M.rn + 1, M.C⟩ ∧ KeepS B w ((w.drewN n).setCell ⟨s, 4, none⟩ (.int .i64 ((rn : Int) + 1))) := by
  subst e
  exact ⟨(h.drawn n).setRn', (keepS_below h.bw (below_drewN (Below.refl _ _) n)).trans (keepS_set (h.drawn n).blk h.low)⟩

set_option maxHeartbeats 2000000 in
theorem recv_yes {B s : Nat} {w : World} {F : Nat → Option Ck} {vS vR : Value} {sb rb : List Nat} {cb : Option Nat} {M : Md} (h : SlAt B s w F vS vR sb rb cb M) (ok : M.Ok) (hsm : M.sn ≤ 50000) (h0 : 0 < M.S.length) (b : Nat) (l : List Int) (hb : Has F b l) :
    Calls Try.prog 13 #[.pointer (some ⟨s, 0, none⟩), .pointer (some ⟨b, 0, none⟩)] w (RecvPost B s F (sb ++ rb ++ cb.toList) cb M l w) := by
  have hsl := h.hS.len
  cases sb with
  | nil => simp at hsl; omega
  | cons b0 tl =>
  have H := Lib.hid h
  obtain ⟨⟨c0, c1, c2, c3, c4, c5⟩, hf⟩ := h.cells
  have HB := Lib.hid hb
  have h1 := ok.ls
  have hSl := h.hR.len
  have hsmall := Md.small ok
  have HRL := Lib.hid (show rb.length ≤ 100000 by omega)
  have HTL := Lib.hid (show tl.length + 1 = M.S.length by simpa using hsl)
  have f4 := hf 4
  have he : M.recvE = 0 := by unfold Md.recvE; rw [if_neg (by omega)]
  have hFF : M.recvF = some (M.S.headD []) := by unfold Md.recvF; rw [if_pos he]
  by_cases hz : M.size = 0
  · have E := Lib.hid (show M.recvE = 0 ∧ M.recv l = ⟨M.size, M.S.tail, M.R, M.sn, M.rn + 1, M.C⟩ ∧ M.recvF = some (M.S.headD []) from ⟨he, by unfold Md.recv; rw [if_pos he, if_pos hz], hFF⟩)
    have HTL2 := Lib.hid (show tl.length ≤ 60000 by simp at hsl; omega)
    obtain ⟨sn, hsn⟩ : ∃ n, M.sn = n := ⟨_, rfl⟩
    obtain ⟨rn, hrn⟩ : ∃ n, M.rn = n := ⟨_, rfl⟩
    have RN := Lib.hid hrn
    have SZ := Lib.hid hz
    rw [hz] at c0
    rw [hsn] at c3 h1 hsm
    rw [hrn] at c4 h1
    have b1 : (rn : Int) < sn := by omega
    have b2 : (sn : Int) ≤ 50000 := by omega
    have d1 : ((sn : Int) == (rn : Int)) = false := by simp; omega
    clear c1 c2 c5 h hf h1 hz hsn hrn ok hsm hsmall hb hSl hsl he hFF h0
    go_enter Try.func13, Try.ntmps13
    go_wp2_with fail
    go_quiet (fail)
    go_wp2_with fail
    generalize hW : World.setCell _ _ _ = W
    have A : SlAt B s W F vS vR (b0 :: tl) rb cb ⟨M.size, M.S, M.R, M.sn, M.rn + 1, M.C⟩ ∧ KeepS B w W := by
      rw [← hW]
      exact H.out.begunR RN.out _
    have AA := Lib.hid A
    clear A hW c0 c3 c4 f4
    refine (fetch_yes B s 1 b0 tl vS _ AA.out.1.cells.1.2.1 (AA.out.1.cells.2 1) AA.out.1.rowS HTL2.out).mono ?_
    rintro r w1 ⟨rfl, g0, cap0, w2, hw1, hg0, hB0, hown0⟩
    have T := AA.out.1.fetS hg0 hB0 hown0
    rw [← hw1] at T
    have TT := Lib.hid T
    clear T hw1 hg0 hB0 hown0
    go_wp2_with fail
    go_ret2
    exact ⟨some ⟨b0, 0, none⟩, _, _, tl, rb, F, by rw [E.out.1]; rfl, by rw [E.out.2.1]; exact TT.out.1, Same.refl _, by rw [E.out.2.2]; exact ⟨b0, rfl, TT.out.2.2.1, TT.out.2.2.2⟩, fun x hx => .inl (by have := List.mem_cons_of_mem b0 hx; simpa using this), AA.out.2.trans TT.out.2.1⟩
  · have E := Lib.hid (show M.recvE = 0 ∧ M.recv l = ⟨M.size, M.S.tail, M.R ++ [l], M.sn, M.rn + 1, M.C⟩ ∧ M.recvF = some (M.S.headD []) from ⟨he, by unfold Md.recv; rw [if_pos he, if_neg hz], hFF⟩)
    have HTL2 := Lib.hid (show tl.length ≤ 60000 by simp at hsl; omega)
    obtain ⟨sz, hsz⟩ : ∃ n, M.size = n := ⟨_, rfl⟩
    obtain ⟨sn, hsn⟩ : ∃ n, M.sn = n := ⟨_, rfl⟩
    obtain ⟨rn, hrn⟩ : ∃ n, M.rn = n := ⟨_, rfl⟩
    have RN := Lib.hid hrn
    rw [hsz] at c0 hz
    rw [hsn] at c3 h1 hsm
    rw [hrn] at c4 h1
    have b1 : (rn : Int) < sn := by omega
    have b2 : (sn : Int) ≤ 50000 := by omega
    have b3 : (0 : Int) < sz := by omega
    have d1 : ((sn : Int) == (rn : Int)) = false := by simp; omega
    clear c1 c2 c5 h hf h1 hz hsz hsn hrn ok hsm hsmall hb hSl hsl he hFF h0
    go_enter Try.func13, Try.ntmps13
    go_wp2_with fail
    go_quiet (fail)
    go_wp2_with fail
    generalize hW : World.setCell _ _ _ = W
    have A2 : SlAt B s W F vS vR (b0 :: tl) rb cb ⟨M.size, M.S, M.R, M.sn, M.rn + 1, M.C⟩ ∧ KeepS B w W := by
      rw [← hW]
      exact H.out.begunR RN.out _
    clear hW c0 c3 c4 f4
    obtain ⟨⟨_, _, g1, _, _, _⟩, hf⟩ := A2.1.cells
    have g2 := hf 2
    have A := Lib.hid A2
    clear A2 hf
    go_region_law
      (first
        | (go_simp; go_at_call 35; refine (fam_copy (show Fam B W.drew F from (A.out.1.drawn 1).fam) (show B ≤ W.drew.heap.size from A.out.1.bw) b l HB.out).mono ?_; rintro r w3 ⟨b', F', rfl, hF3, hb3, hlt3, hS3, hK3⟩; have A3 := Lib.hid ((A.out.1.drawn 1).copied hF3 hS3 hK3 (.cells #[.pointer (some ⟨b', 0, none⟩)] 28)); have K3 := Lib.hid ((A.out.1.drawn 1).keepP hF3 hS3 hK3); have g3 := K3.out.cells.1.2.2.1; have g4 := A3.out.1.cells.1.2.2.1; have X3 := Lib.hid (show Has F' b' l ∧ W.heap.size ≤ b' ∧ Same F F' from ⟨hb3, hlt3, hS3⟩); clear hF3 hb3 hlt3 hS3 hK3)
        | (refine step_append_ptr rfl _ _ (by rfl) B vR rb.length rb (by rfl) A3.out.1.rowR w3.heap.size b' _ (by rfl) (heap_alloc_new _ _) HRL.out A3.out.1.bw ?_; intro g cap w5 hown hgr hg hlt; have g5 := ((keepT_grown A3.out.1.rowR hgr (by decide) _ _ _ A3.out.1.blk).trans A3.out.1.blk); have g6 : w5.cell? ⟨s, 2, none⟩ = some vR := (by simp only [World.cell?, g5]; rfl); have g7 : w5.frozen? ⟨s, 2, none⟩ = false := (by simp [World.frozen?, g5]); have X5 := Lib.hid (And.intro hown (And.intro hgr hg)); clear hown hgr hg g5))
    all_goals
      have T := Lib.hid ((A.out.1.drawn 1).appR' A3.out X3.out.1 X3.out.2.1 X5.out)
      have K := Lib.hid (A.out.2.trans (keepS_drawn W 1))
      have SZ := Lib.hid (A.out.2.size H.out.bw)
      clear X5 A3 K3 A g6 g7
      go_wp2_with fail
      refine (fetch_yes B s 1 b0 tl vS _ T.out.1.cells.1.2.1 (T.out.1.cells.2 1) T.out.1.rowS HTL2.out).mono ?_
      rintro r w6 ⟨rfl, g0, cap0, w7, hw1, hg0, hB0, hown0⟩
      have T2 := T.out.1.fetS hg0 hB0 hown0
      rw [← hw1] at T2
      have TT := Lib.hid T2
      clear T2 hw1 hg0 hB0 hown0
      go_wp2_with fail
      go_ret2
      exact ⟨some ⟨b0, 0, none⟩, _, _, tl, _, F', by rw [E.out.1]; rfl, by rw [E.out.2.1]; exact TT.out.1, X3.out.2.2, by rw [E.out.2.2]; exact ⟨b0, rfl, TT.out.2.2.1, TT.out.2.2.2⟩, fun x hx => by
        have hx' : x ∈ b0 :: tl ++ (rb ++ [b']) ++ cb.toList := by
          rw [List.append_assoc] at hx ⊢
          exact List.mem_cons_of_mem _ hx
        exact (T.out.2.2 x hx').imp (fun h => by simpa using h) (fun h => Nat.le_trans SZ.out h), (K.out.trans T.out.2.1).trans TT.out.2.1⟩

theorem recv_any {B s : Nat} {w : World} {F : Nat → Option Ck} {vS vR : Value} {sb rb : List Nat} {cb : Option Nat} {M : Md} (h : SlAt B s w F vS vR sb rb cb M) (ok : M.Ok) (hsm : M.sn ≤ 50000) (b : Nat) (l : List Int) (hb : Has F b l) :
    Calls Try.prog 13 #[.pointer (some ⟨s, 0, none⟩), .pointer (some ⟨b, 0, none⟩)] w (RecvPost B s F (sb ++ rb ++ cb.toList) cb M l w) := by
  by_cases h0 : M.S.length = 0
  · exact recv_none h ok h0 _ l
  · exact recv_yes h ok hsm (by omega) b l hb

end Go.Proofs.Ytlkfhobacgnckaa

