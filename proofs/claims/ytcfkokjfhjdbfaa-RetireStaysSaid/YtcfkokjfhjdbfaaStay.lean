
/-
  RetireStays: what its walk is made of.
-/
import Derived.Test.YtcfkokjfhjdbfaaLaw20c
import Derived.Test.YtcfkokjfhjdbfaaStructs
import Derived.Test.YtcfkokjfhjdbfaaArg
namespace Go.Proofs.Ytcfkokjfhjdbfaa
open Go.RowKit
set_option linter.unusedVariables false
set_option linter.unusedSimpArgs false
set_option maxRecDepth 100000

/-- A slice of pairs of numbers. -/
def JsOf (w : World) (v : Value) (js : List (Int × Int)) : Prop :=
  ∃ ao cap, v = .slice ao js.length cap ∧ (0 < js.length → ∃ b o, ao = some ⟨b, o, none⟩ ∧ ∀ i, i < js.length → w.cell? ⟨b, o + i * 2, none⟩ = some (.int .i64 (js.getD i (0, 0)).1) ∧ w.cell? ⟨b, o + i * 2 + 1, none⟩ = some (.int .i64 (js.getD i (0, 0)).2))

theorem js_arg {H : Type} {enc : TypeId × Value → H} {W : World} {b0 : Nat} {held : Bool} {v : Value} {d : DataW H} {ps : List MemPlace}
    (hval : Value.okWide Try.prog W .any b0 45 v) (h : DataW.Trod enc Try.prog W 0 (fun _ => true) held 45 v d ps) : ∃ js, JsOf W v js := by
  obtain ⟨a0, len0, cap0, rfl⟩ := Go.WideShapes.okWide_slice Try.underlying45 hval
  obtain ⟨fuel, hf⟩ := h
  obtain ⟨ao, len, cap, hcs, hle, hno, hc⟩ := open_structs Try.underlying45 Try.underlying47 (Go.Deep.hone_of (by kernel_rfl)) (by kernel_rfl) (by decide) hf
  simp [Value.cells] at hcs
  obtain ⟨rfl, rfl, rfl⟩ := hcs
  by_cases hp : 0 < len0
  · obtain ⟨b, o, rfl, hx⟩ := hc hp
    have each : ∀ i, i < len0 → ∃ p : Int × Int, W.cell? ⟨b, o + i * 2, none⟩ = some (.int .i64 p.1) ∧ W.cell? ⟨b, o + i * 2 + 1, none⟩ = some (.int .i64 p.2) := by
      intro i hi
      obtain ⟨v0, n0, y0, h0, t0⟩ := hx i hi 0 _ rfl
      obtain ⟨v1, n1, y1, h1, t1⟩ := hx i hi 1 _ rfl
      obtain ⟨x0, e0, _⟩ := DataW.trod_int Try.underlying3 t0
      obtain ⟨x1, e1, _⟩ := DataW.trod_int Try.underlying3 t1
      cases e0; cases e1
      exact ⟨(x0, x1), h0, h1⟩
    obtain ⟨f, hfx⟩ := Go.Deep.choose_lt each
    refine ⟨(List.range len0).map f, some ⟨b, o, none⟩, cap0, by simp, fun _ => ⟨b, o, rfl, fun i hi => ?_⟩⟩
    have hi' : i < len0 := by simpa using hi
    have : ((List.range len0).map f).getD i (0, 0) = f i := by simp [List.getD, hi']
    rw [this]
    exact hfx i hi'
  · have h0 : len0 = 0 := by omega
    subst h0
    exact ⟨[], a0, cap0, rfl, fun h => by simp at h⟩

theorem rows_arg' {H : Type} {enc : TypeId × Value → H} {W : World} {b0 : Nat} {held : Bool} {v : Value} {d : DataW H} {ps : List MemPlace}
    (hval : Value.okWide Try.prog W .any b0 22 v) (h : DataW.Trod enc Try.prog W 0 (fun _ => true) held 22 v d ps) : ∃ ls, RowsOf W v ls ∧ ∀ ao n c, v = .slice ao n c → n ≤ c := by
  obtain ⟨ls, hr⟩ := rows_arg hval h
  refine ⟨ls, hr, ?_⟩
  obtain ⟨a0, len, cap, rfl⟩ := Go.WideShapes.okWide_slice Try.underlying22 hval
  obtain ⟨fuel, hf⟩ := h
  rintro ao n c e
  cases e
  rcases Go.Deep.open_int_rows Try.underlying22 Try.underlying39 Try.underlying3 (by kernel_rfl) (by kernel_rfl) hf with ⟨hcs, _⟩ | ⟨a, len', cap', A, L, C, Z, hcs, _, hle, _⟩
  · simp [Value.cells] at hcs
    omega
  · simp [Value.cells] at hcs
    omega

theorem JsOf.below {w w' : World} {v : Value} {js : List (Int × Int)} (h : JsOf w v js) (hB : Below w.heap.size w w') : JsOf w' v js := by
  obtain ⟨ao, cap, rfl, hc⟩ := h
  refine ⟨ao, cap, rfl, fun hp => ?_⟩
  obtain ⟨b, o, rfl, hd⟩ := hc hp
  refine ⟨b, o, rfl, fun i hi => ?_⟩
  obtain ⟨h1, h2⟩ := hd i hi
  exact ⟨by rw [hB.cell (p := ⟨b, o + i * 2, none⟩) (block_lt_of_cell h1)]; exact h1, by rw [hB.cell (p := ⟨b, o + i * 2 + 1, none⟩) (block_lt_of_cell h2)]; exact h2⟩

/-- The first n rows; those behind. -/
theorem RowsOf.parts {w : World} {ao : Option Addr} {cap : Nat} {ls : List (List Int)} (h : RowsOf w (.slice ao ls.length cap) ls) (n : Nat) (hn : n < ls.length) : ∃ b o, ao = some ⟨b, o, none⟩ ∧ (∀ c, RowsOf w (.slice (some ⟨b, o, none⟩) n c) (ls.take n)) ∧ ∀ c, RowsOf w (.slice (some ⟨b, o + n, none⟩) (ls.length - n) c) (ls.drop n) := by
  obtain ⟨_, _, e, hno, hc⟩ := h
  cases e
  obtain ⟨b, o, rfl, hd⟩ := hc (by omega)
  refine ⟨b, o, rfl, fun c => ⟨some ⟨b, o, none⟩, c, by rw [List.length_take, Nat.min_eq_left (by omega)], (fun e => nomatch e), fun hp => ⟨b, o, rfl, fun j hj => ?_⟩⟩, fun c => ⟨some ⟨b, o + n, none⟩, c, by rw [List.length_drop], (fun e => nomatch e), fun hp => ⟨b, o + n, rfl, fun j hj => ?_⟩⟩⟩
  · rw [List.length_take] at hj
    obtain ⟨u, hu, hs⟩ := hd j (by omega)
    exact ⟨u, hu, by simpa [List.getD, List.getElem?_take_of_lt (show j < n by omega)] using hs⟩
  · rw [List.length_drop] at hj
    obtain ⟨u, hu, hs⟩ := hd (n + j) (by omega)
    exact ⟨u, by rw [Nat.add_assoc]; exact hu, by simpa [List.getD] using hs⟩

/-- Two families, of which the one lies below a line and the other above. -/
theorem Fam.union {B L : Nat} {w : World} {F G : Nat → Option Ck} (hF : Fam B w F) (hG : Fam L w G) (hBL : B ≤ L) (hl : ∀ b k, F b = some k → b < L ∧ (0 < k.xs.length → k.arr < L)) : Fam B w (fun b => if b < L then F b else G b) := by
  have cases' : ∀ b k, (if b < L then F b else G b) = some k → (F b = some k ∧ b < L) ∨ (G b = some k ∧ ¬ b < L) := fun b k e => by
    by_cases h : b < L
    · rw [if_pos h] at e; exact .inl ⟨e, h⟩
    · rw [if_neg h] at e; exact .inr ⟨e, h⟩
  refine ⟨fun b k e => ?_, fun b b' k k' e e' hne hp hp' ea => ?_, fun b k e => ?_⟩
  · rcases cases' b k e with ⟨h, _⟩ | ⟨h, _⟩
    · exact hF.here b k h
    · exact hG.here b k h
  · rcases cases' b k e with ⟨h, _⟩ | ⟨h, _⟩ <;> rcases cases' b' k' e' with ⟨h', _⟩ | ⟨h', _⟩
    · exact hF.apart b b' k k' h h' hne hp hp' ea
    · have := (hl b k h).2 hp
      have := (hG.low b' k' h').2 hp'
      omega
    · have := (hl b' k' h').2 hp'
      have := (hG.low b k h).2 hp
      omega
    · exact hG.apart b b' k k' h h' hne hp hp' ea
  · rcases cases' b k e with ⟨h, _⟩ | ⟨h, _⟩
    · exact hF.low b k h
    · exact ⟨Nat.le_trans hBL (hG.low b k h).1, fun hp => Nat.le_trans hBL ((hG.low b k h).2 hp)⟩

theorem Turned.low {S : Nat → Prop} {B : Nat} {w0 w w' : World} (h : Turned S w w') (hB : Below B w0 w) (hle : B ≤ w0.heap.size) (hs : ∀ i, S i → B ≤ i) : Below B w0 w' := by
  refine ⟨h.os.trans hB.os, h.tape.trans hB.tape, h.output.trans hB.output, Nat.le_trans hB.size h.size, fun i hi => ?_⟩
  exact (h.block i (by have := hB.size; omega) (fun e => by have := hs i e; omega)).trans (hB.block i hi)

theorem join_self (b : Nat) (k : Ck) (w : World) (h : CkAt w b k) :
    Calls Try.prog 15 #[.pointer (some ⟨b, 0, none⟩), .pointer (some ⟨b, 0, none⟩)] w fun r w' => r = .returned (.bool false) ∧ w = w' := by
  have e : withinB k.xs k.xs = true := (withinB_iff h.ok).2 fun u => Int.le_refl _
  have E := Lib.hid e
  clear e
  go_enter Try.func15, Try.ntmps15
  go_wp2_with fail
  refine (within_any b b k k w h h).mono ?_
  rintro r w' ⟨rfl, rfl⟩
  rw [E.out]
  go_wp2_with fail
  go_ret
  exact ⟨rfl, rfl⟩

def FamJoin (B : Nat) (H : Nat → Option Ck) (b : Nat) (k ko : Ck) (w : World) (r : Ending) (w' : World) : Prop :=
  ∃ x H' k', r = .returned (.bool x) ∧ Fam B w' H' ∧ H' b = some k' ∧ (∀ u : Int, at0 k'.xs u = max (at0 k.xs u) (at0 ko.xs u)) ∧ (∀ b', b' ≠ b → H' b' = H b') ∧ (∀ e, e ≠ 60 → e ≠ 3 → KeepT e w w') ∧ (∀ w0 : World, B ≤ w0.heap.size → Below B w0 w → Below B w0 w')

theorem fam_join {B : Nat} {H : Nat → Option Ck} {w : World} (h : Fam B w H) (b bo : Nat) (k ko : Ck) (hk : H b = some k) (hko : H bo = some ko) :
    Calls Try.prog 15 #[.pointer (some ⟨b, 0, none⟩), .pointer (some ⟨bo, 0, none⟩)] w (FamJoin B H b k ko w) := by
  by_cases hne : b = bo
  · subst hne
    rw [hk] at hko
    cases hko
    refine (join_self b k w (h.here b k hk)).mono ?_
    rintro r w' ⟨rfl, rfl⟩
    exact ⟨false, H, k, rfl, h, hk, fun u => by omega, fun _ _ => rfl, fun e _ _ => KeepT.refl e w, fun _ _ hB => hB⟩
  · have hap : k.sh = false → 0 < k.xs.length → 0 < ko.xs.length → k.arr ≠ ko.arr := fun hs hp hp' ea => by
      have := (h.apart b bo k ko hk hko hne hp hp' ea).1
      rw [hs] at this
      cases this
    refine (join_any b bo k ko w (h.here b k hk) (h.here bo ko hko) hap hne).mono ?_
    rintro r w' (⟨hw, rfl, rfl⟩ | ⟨hw, rfl, k', hwr, hmx⟩)
    · refine ⟨false, H, k, rfl, h, hk, fun u => ?_, fun _ _ => rfl, fun e _ _ => KeepT.refl e w, fun _ _ hB => hB⟩
      have := (withinB_iff (h.here b k hk).ok).1 hw u
      omega
    · exact ⟨true, upd H b k', k', rfl, h.wrote hk hwr, upd_self _ _ _, hmx, fun b' hb => by simp [upd, hb], fun e h1 h2 => keepT_wrote (h.here b k hk) hwr h1 h2, fun w0 hle hB => hwr.2.1.low hB hle (Mine.low h hk)⟩

theorem wpList_append_ptrs {ops : Array Oper} {rest : List Oper} {o : Oper} {a : Act} {w : World} {Q : Exit → Act → World → Prop} (hgd : o.guard = none) (s x : Operand)
    (ho : o.op = .call { callee := .builtin .append, args := #[s, x], argTypes := #[25, 25] }) (base base' : Nat) (v u : Value) (n m : Nat) (bs cs : List Nat) (hs : a.eval s = v) (hx : a.eval x = u)
    (hown : w.ownsRow base 48 1 v n (ptrs bs)) (hu : w.ownsRow base' 48 1 u m (ptrs cs)) (hnm : n + m ≤ 1000) (hbase : base ≤ w.heap.size)
    (h : ∀ v' w', w'.ownsRow base 48 1 v' (n + m) (ptrs (bs ++ cs)) → w.grownBy w' v.ownBlock → wpList Try.prog ops Q rest (a.put o.dst v') w') : wpList Try.prog ops Q (o :: rest) a w := by
  obtain ⟨pi, hpi, hp0, hp1, hp2⟩ := info_parts pinfo
  have hcl : (ptrs cs).length = m := by have := hu.1; omega
  rcases hu.2 with ⟨rfl, rfl⟩ | ⟨g, cap, cur, rfl, hbg, hg, hle, _, hcs, ht⟩
  · obtain rfl : cs = [] := by cases cs with
      | nil => rfl
      | cons _ _ => simp [ptrs] at hcl
    refine wpList_append_own_none hgd s x 25 ho base 48 pi 1 Try.underlying25 hpi v n (ptrs bs) hs hown hx (h _ _ (by simpa using hown) ?_)
    exact ⟨rfl, rfl, rfl, Nat.le_refl _, fun _ _ _ => rfl⟩
  · refine wpList_append_own _ hgd s x 25 ho base 48 pi (.pointer none) 1 8 Try.underlying25 hpi hp0 hp1 hp2 rfl (by decide) v n (ptrs bs) hs hown ⟨g, 0, none⟩ m cap (ptrs cs) hx (by omega) ?_ ?_ (by unfold maxLen; omega) (by omega) hbase ?_
    · intro j z hj
      rw [Addr.add_mid]
      simp only [World.cell?, hg, Nat.zero_add]
      rw [← Array.getElem?_toList, ← hj, ← ht]
      have hjl : j < m := by
        have := (List.getElem?_eq_some_iff.1 hj).1
        omega
      rw [List.getElem?_take_of_lt (by omega)]
      rfl
    · intro z hz
      simp only [ptrs, List.mem_map] at hz
      obtain ⟨b, _, rfl⟩ := hz
      rfl
    · intro v' w' h1 h2 h3
      exact h v' w' (by simpa [ptrs] using h1) h2

theorem KeepT.cell {e : TypeId} {w w' : World} (h : KeepT e w w') {b : Nat} {cur : Array Value} {fz : Nat × Nat} (hb : w.heap[b]? = some (Obj.cells cur e fz)) (o : Nat) : w'.cell? ⟨b, o, none⟩ = w.cell? ⟨b, o, none⟩ := by simp only [World.cell?, h b cur fz hb]
theorem row_at {w : World} {base n cap : Nat} {ao : Option Addr} {bs : List Nat} (h : w.ownsRow base 48 1 (.slice ao n cap) bs.length (ptrs bs)) (j : Nat) (hj : j < bs.length) : ∃ g cur, ao = some ⟨g, 0, none⟩ ∧ w.heap[g]? = some (Obj.cells cur 48 (0, 0)) ∧ w.cell? ⟨g, j, none⟩ = some (.pointer (some ⟨bs.getD j 0, 0, none⟩)) := by
  rcases h.2 with ⟨_, h0⟩ | ⟨g, cap, cur, e, _, hg, _, _, hcs, ht⟩
  · omega
  · cases e
    refine ⟨g, cur, rfl, hg, ?_⟩
    have h1 : (cur.toList.take (bs.length * 1))[j]? = (ptrs bs)[j]? := by rw [ht]
    rw [Nat.mul_one, List.getElem?_take_of_lt hj] at h1
    simp only [World.cell?, hg]
    show cur[j]? = _
    rw [← Array.getElem?_toList, h1]
    simp [ptrs, hj, List.getD]

/-- A row of clocks of a family. -/
theorem cks_row {B base : Nat} {w : World} {F : Nat → Option Ck} {v : Value} {bs : List Nat} (hf : Fam B w F) (h : w.ownsRow base 48 1 v bs.length (ptrs bs)) (hh : ∀ j, j < bs.length → ∃ k, F (bs.getD j 0) = some k) : CksOf w v bs.length (fun j => bs.getD j 0) (ckOf F bs) := by
  rcases h.2 with ⟨rfl, h0⟩ | ⟨g, cap, cur, rfl, _, hg, _, _, hcs, ht⟩
  · exact ⟨none, 0, by rw [h0], fun hp => by omega⟩
  · refine ⟨_, cap, rfl, fun hp => ⟨g, 0, rfl, fun j hj => ⟨?_, ?_⟩⟩⟩
    · have h1 : (cur.toList.take (bs.length * 1))[j]? = (ptrs bs)[j]? := by rw [ht]
      rw [Nat.mul_one, List.getElem?_take_of_lt hj] at h1
      simp only [World.cell?, hg, Nat.zero_add]
      rw [← Array.getElem?_toList, h1]
      simp [ptrs, hj, List.getD]
    · obtain ⟨k, hk⟩ := hh j hj
      show CkAt w (bs.getD j 0) (ckOf F bs j)
      unfold ckOf
      rw [hk]
      exact hf.here _ _ hk

end Go.Proofs.Ytcfkokjfhjdbfaa

