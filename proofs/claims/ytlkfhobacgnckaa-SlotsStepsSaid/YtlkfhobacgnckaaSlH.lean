
/-
  Package slots: Close, Closed, Counts, Peek, kept.
-/
import Derived.Test.YtlkfhobacgnckaaSlG
namespace Go.Proofs.Ytlkfhobacgnckaa
open Go.RowKit
set_option linter.unusedVariables false
set_option linter.unusedSimpArgs false
set_option maxRecDepth 100000
attribute [local go_sem ↓] Go.wp_at_zero Go.wp_at_succ

/-! ### append of pointers, in a region that draws -/
theorem wp_append_psrc {o : Oper} {a : Act} {w : World} {K : Act → World → Prop} {Q : Exit → Act → World → Prop} (s x : Operand)
    (ho : o.op = .call { callee := .builtin .append, args := #[s, x], argTypes := #[34, 34] })
    (base : Nat) (v : Value) (n : Nat) (bs : List Nat) (hs : a.eval s = v) (hown : w.ownsRow base 28 1 v n (ptrs bs))
    (u : Value) (cs : List Nat) (hx : a.eval x = u) (hu : PSrc w u cs) (hn : n + cs.length ≤ 100000) (hbase : base ≤ w.heap.size)
    (h : ∀ v' w', w'.ownsRow base 28 1 v' (n + cs.length) (ptrs (bs ++ cs)) → w.grownBy w' v.ownBlock → K (a.put o.dst v') w') : Oper.wp Try.prog o a w K Q := by
  obtain ⟨pi, hpi, hp0, hp1, hp2⟩ := info_parts pinfo
  obtain ⟨ao, cap, rfl, hno, hc⟩ := hu
  cases ao with
  | none =>
    obtain ⟨h0, rfl⟩ := hno rfl
    obtain rfl := List.eq_nil_of_length_eq_zero h0
    have hrun := run_append_owned_none (P := Try.prog) (w := w) base 34 o.type 28 pi 1 Try.underlying34 hpi v n (ptrs bs) hown
    have hx' : a.eval x = .slice none 0 0 := hx
    unfold Oper.wp
    simp [execOp, ho, resolve, invoke, builtin, hs, hx', hrun, Result.andThen]
    exact h _ _ (by simpa using hown) ⟨rfl, rfl, rfl, Nat.le_refl _, fun _ _ _ => rfl⟩
  | some ad =>
    refine wp_append_own w s x 34 ho base 28 pi (.pointer none) 1 8 Try.underlying34 hpi hp0 hp1 hp2 rfl (by decide) v n (ptrs bs) hs hown ad cs.length cap (ptrs cs) hx (by rw [length_ptrs]; omega) ?_ (ptrs1 cs) (by unfold maxLen; omega) (by omega) hbase ?_
    · intro j z hj
      have hjl : j < cs.length := by
        have := (List.getElem?_eq_some_iff.1 hj).1
        rwa [length_ptrs] at this
      obtain ⟨g, y, e, hcc⟩ := hc (by omega)
      cases e
      rw [getElem?_ptrs cs j hjl] at hj
      have ha : (⟨g, y, none⟩ : Addr).add j = ⟨g, y + j, none⟩ := by unfold Addr.add; split <;> simp_all
      rw [ha, hcc j hjl]
      exact hj
    · intro v' w' h1 h2 h3
      exact h v' w' (by rw [ptrs_append]; exact h1) h2
theorem step_append_psrc {ops : Array Oper} {o : Oper} {a : Act} {w : World} {K : Act → World → Prop} {Q : Exit → Act → World → Prop} {E : Prop} (hgd : o.guard = none) (s x : Operand)
    (ho : o.op = .call { callee := .builtin .append, args := #[s, x], argTypes := #[34, 34] })
    (base : Nat) (v : Value) (n : Nat) (bs : List Nat) (hs : a.eval s = v) (hown : w.ownsRow base 28 1 v n (ptrs bs))
    (u : Value) (cs : List Nat) (hx : a.eval x = u) (hu : PSrc w u cs) (hn : n + cs.length ≤ 100000) (hbase : base ≤ w.heap.size)
    (h : ∀ v' w', w'.ownsRow base 28 1 v' (n + cs.length) (ptrs (bs ++ cs)) → w.grownBy w' v.ownBlock → K (a.put o.dst v') w') :
    if Region.wanted o (yielded ops a.tmps) = true then Oper.wp Try.prog o a w K Q else E := by
  have hw : Region.wanted o (yielded ops a.tmps) = true := by simp [Region.wanted, hgd]
  rw [if_pos hw]
  exact wp_append_psrc s x ho base v n bs hs hown u cs hx hu hn hbase h

/-! ### Close, Closed, Counts, Peek -/
def ClosePost (B s : Nat) (F : Nat → Option Ck) (vS vR : Value) (sb rb K : List Nat) (M : Md) (l : List Int) (w : World) (r : Ending) (w' : World) : Prop :=
  ∃ cb F', r = .returned (.int .i64 M.closeE) ∧ SlAt B s w' F' vS vR sb rb cb (M.close l) ∧ Same F F' ∧ (∀ b, b ∈ sb ++ rb ++ cb.toList → b ∈ K ∨ w.heap.size ≤ b) ∧ KeepS B w w'

theorem sclose_any {B s : Nat} {w : World} {F : Nat → Option Ck} {vS vR : Value} {sb rb : List Nat} {cb : Option Nat} {M : Md} (h : SlAt B s w F vS vR sb rb cb M) (b : Nat) (l : List Int) (hb : Has F b l) :
    Calls Try.prog 15 #[.pointer (some ⟨s, 0, none⟩), .pointer (some ⟨b, 0, none⟩)] w (ClosePost B s F vS vR sb rb (sb ++ rb ++ cb.toList) M l w) := by
  have H := Lib.hid h
  have HB := Lib.hid hb
  obtain ⟨⟨c0, c1, c2, c3, c4, c5⟩, hf⟩ := h.cells
  have hc := h.hC
  clear c0 c1 c2 c3 c4
  cases cb with
  | some b0 =>
    have E := Lib.hid (show M.closeE = 90 ∧ M.close l = M from by
      have hs : M.C.isSome = true := by
        cases hC : M.C with
        | none => rw [hC] at hc; exact hc.elim
        | some _ => rfl
      have he : M.closeE = 90 := by unfold Md.closeE; rw [if_pos hs]
      exact ⟨he, by unfold Md.close; rw [if_neg (by rw [he]; decide)]⟩)
    simp only [Option.map_some] at c5
    clear h hc hf hb
    go_enter Try.func15, Try.ntmps15
    go_wp2_with fail
    go_ret
    exact ⟨some b0, F, by rw [E.out.1]; rfl, by rw [E.out.2]; exact H.out, Same.refl _, fun b hb => .inl hb, KeepS.refl _ _⟩
  | none =>
    have E := Lib.hid (show M.closeE = 0 ∧ M.close l = ⟨M.size, M.S, M.R, M.sn, M.rn, some l⟩ from by
      have hs : M.C.isSome = false := by
        cases hC : M.C with
        | none => rfl
        | some _ => rw [hC] at hc; exact hc.elim
      have he : M.closeE = 0 := by unfold Md.closeE; rw [hs]; rfl
      exact ⟨he, by unfold Md.close; rw [if_pos he]⟩)
    simp only [Option.map_none] at c5
    clear h hc hf hb
    go_enter Try.func15, Try.ntmps15
    go_wp2_with fail
    refine (fam_copy H.out.fam H.out.bw b l HB.out).mono ?_
    rintro r w3 ⟨b', F', rfl, hF3, hb3, hlt3, hS3, hK3⟩
    have K3 := Lib.hid (H.out.keepP hF3 hS3 hK3)
    have g3 := K3.out.cells.1.2.2.2.2.2
    have g4 := K3.out.cells.2 5
    simp only [Option.map_none] at g3
    have X := Lib.hid (show Has F' b' l ∧ w.heap.size ≤ b' ∧ Same F F' ∧ KeepS B w w3 from ⟨hb3, hlt3, hS3, hK3.s⟩)
    clear hF3 hb3 hlt3 hS3 hK3 c5
    go_wp2_with fail
    go_ret
    have OLD := H.out.old
    simp only [Option.toList, List.append_nil] at OLD
    have T := K3.out.setC X.out.1 (fun hm => by have := OLD _ hm; have := X.out.2.1; omega)
    exact ⟨some b', F', by rw [E.out.1]; rfl, by rw [E.out.2]; exact T, X.out.2.2.1, fun x hx => by
      rcases List.mem_append.1 hx with hx | hx
      · exact .inl (by simpa using hx)
      · simp at hx; subst hx; exact .inr X.out.2.1, X.out.2.2.2.trans (keepS_set K3.out.blk K3.out.low)⟩

def PeekPost (B s : Nat) (F : Nat → Option Ck) (vS vR : Value) (sb rb : List Nat) (cb : Option Nat) (M : Md) (o : Option (List Int)) (w : World) (r : Ending) (w' : World) : Prop :=
  ∃ p F', r = .returned (.tuple #[.pointer p, .bool o.isSome]) ∧ SlAt B s w' F' vS vR sb rb cb M ∧ Same F F' ∧ Fetched F' (sb ++ rb ++ cb.toList) p o ∧ KeepS B w w'

theorem closed_nil (w : World) : Calls Try.prog 31 #[.pointer none] w fun r w' => r = .returned (.tuple #[.pointer none, .bool false]) ∧ w = w' := by
  go_enter Try.func31, Try.ntmps31
  go_wp2_with fail
  go_ret2
  exact ⟨rfl, rfl⟩
theorem closed_any {B s : Nat} {w : World} {F : Nat → Option Ck} {vS vR : Value} {sb rb : List Nat} {cb : Option Nat} {M : Md} (h : SlAt B s w F vS vR sb rb cb M) :
    Calls Try.prog 31 #[.pointer (some ⟨s, 0, none⟩)] w (PeekPost B s F vS vR sb rb cb M M.C w) := by
  have H := Lib.hid h
  obtain ⟨⟨c0, c1, c2, c3, c4, c5⟩, hf⟩ := h.cells
  have hc := h.hC
  clear c0 c1 c2 c3 c4
  cases cb with
  | none =>
    have E := Lib.hid (show M.C = none from by
      cases hC : M.C with
      | none => rfl
      | some _ => rw [hC] at hc; exact hc.elim)
    simp only [Option.map_none] at c5
    clear h hc hf
    go_enter Try.func31, Try.ntmps31
    go_wp2_with fail
    go_ret2
    exact ⟨none, F, by rw [E.out]; rfl, H.out, Same.refl _, by rw [E.out]; rfl, KeepS.refl _ _⟩
  | some b0 =>
    obtain ⟨l, hl⟩ : ∃ l, M.C = some l := by
      cases hC : M.C with
      | none => rw [hC] at hc; exact hc.elim
      | some l => exact ⟨l, rfl⟩
    have E := Lib.hid hl
    have HB := Lib.hid (show Has F b0 l by rw [hl] at hc; exact hc.1)
    simp only [Option.map_some] at c5
    clear h hc hf hl
    go_enter Try.func31, Try.ntmps31
    go_wp2_with fail
    refine (fam_copy H.out.fam H.out.bw b0 l HB.out).mono ?_
    rintro r w3 ⟨b', F', rfl, hF3, hb3, hlt3, hS3, hK3⟩
    go_wp2_with fail
    go_ret2
    exact ⟨some ⟨b', 0, none⟩, F', by rw [E.out]; rfl, H.out.keepP hF3 hS3 hK3, hS3, by rw [E.out]; exact ⟨b', rfl, hb3, fun hm => by have := H.out.old _ hm; omega⟩, hK3.s⟩

theorem counts_nil (w : World) : Calls Try.prog 16 #[.pointer none] w fun r w' => r = .returned (.tuple #[.int .i64 0, .int .i64 0]) ∧ w = w' := by
  go_enter Try.func16, Try.ntmps16
  go_wp2_with fail
  go_ret2
  exact ⟨rfl, rfl⟩
theorem counts_any {B s : Nat} {w : World} {F : Nat → Option Ck} {vS vR : Value} {sb rb : List Nat} {cb : Option Nat} {M : Md} (h : SlAt B s w F vS vR sb rb cb M) :
    Calls Try.prog 16 #[.pointer (some ⟨s, 0, none⟩)] w fun r w' => r = .returned (.tuple #[.int .i64 (M.sn : Nat), .int .i64 (M.rn : Nat)]) ∧ ∃ n, w' = w.drewN n := by
  obtain ⟨⟨c0, c1, c2, c3, c4, c5⟩, hf⟩ := h.cells
  clear c0 c1 c2 c5 h hf
  go_enter Try.func16, Try.ntmps16
  go_wp2_with fail
  go_quiet (fail)
  go_wp2_with fail
  go_ret2
  exact ⟨rfl, _, rfl⟩

end Go.Proofs.Ytlkfhobacgnckaa

