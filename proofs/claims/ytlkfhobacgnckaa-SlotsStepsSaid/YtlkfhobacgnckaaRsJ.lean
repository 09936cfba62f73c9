
/-
  SlotsSteps: the program's slots and the reference's, plainly.
-/
import Derived.Test.YtlkfhobacgnckaaRsI
import Derived.Test.YtlkfhobacgnckaaSlB
namespace Go.Proofs.Ytlkfhobacgnckaa
open Go.RowKit
set_option linter.unusedVariables false
set_option linter.unusedSimpArgs false
set_option maxRecDepth 100000

def Eq0 (l m : List Int) : Prop := ∀ u : Int, at0 l u = at0 m u
def Pos0 (l : List Int) : Prop := ∀ u : Int, 0 ≤ at0 l u
def Eqs : List (List Int) → List (List Int) → Prop
  | [], [] => True
  | l :: ls, m :: ms => Eq0 l m ∧ Eqs ls ms
  | _, _ => False
theorem Eqs.len : ∀ {ls ms : List (List Int)}, Eqs ls ms → ls.length = ms.length
  | [], [], _ => rfl
  | _ :: _, _ :: _, h => by simp [Eqs.len h.2]
  | [], _ :: _, h => h.elim
  | _ :: _, [], h => h.elim
theorem Eqs.app : ∀ {ls ms ls' ms' : List (List Int)}, Eqs ls ms → Eqs ls' ms' → Eqs (ls ++ ls') (ms ++ ms')
  | [], [], _, _, _, k => k
  | _ :: _, _ :: _, _, _, h, k => ⟨h.1, Eqs.app h.2 k⟩
  | [], _ :: _, _, _, h, _ => h.elim
  | _ :: _, [], _, _, h, _ => h.elim
theorem Eqs.one {l m : List Int} (h : Eq0 l m) : Eqs [l] [m] := ⟨h, trivial⟩
theorem Eqs.tail : ∀ {ls ms : List (List Int)}, Eqs ls ms → Eqs ls.tail ms.tail
  | [], [], h => h
  | _ :: _, _ :: _, h => h.2
  | [], _ :: _, h => h.elim
  | _ :: _, [], h => h.elim
theorem Eqs.at : ∀ {ls ms : List (List Int)}, Eqs ls ms → ∀ j, j < ls.length → Eq0 (ls.getD j []) (ms.getD j [])
  | _ :: _, _ :: _, h, 0, _ => h.1
  | _ :: _, _ :: _, h, j + 1, hj => by
    simp only [List.getD_cons_succ]
    exact Eqs.at h.2 j (by simpa using hj)
  | [], _, _, _, hj => by simp at hj
  | _ :: _, [], h, _, _ => h.elim
theorem eq0_drop {l m : List Int} (t : Int) (h : Eq0 l m) : Eq0 (drop0 t l) (putT t m) := fun u => at0_drop0 t h u
theorem Eqs.map (t : Int) : ∀ {ls ms : List (List Int)}, Eqs ls ms → Eqs (ls.map (drop0 t)) (ms.map (putT t))
  | [], [], h => h
  | _ :: _, _ :: _, h => ⟨eq0_drop t h.1, Eqs.map t h.2⟩
  | [], _ :: _, h => h.elim
  | _ :: _, [], h => h.elim
theorem pos0_put {l : List Int} (t : Int) (h : Pos0 l) : Pos0 (putT t l) := fun u => by
  unfold putT
  split
  · rw [at0_set0]
    split
    · omega
    · exact h u
  · exact h u
/-- What is fetched, alike. -/
def OptE : Option (List Int) → Option (List Int) → Prop
  | none, none => True
  | some l, some m => Eq0 l m ∧ Pos0 m
  | _, _ => False

structure Rel (M : Md) (Q : Rf) : Prop where
  sz : M.size = Q.size
  sn : M.sn = Q.S.length
  rn : M.rn = Q.R.length
  S : Eqs M.S (Q.S.drop Q.R.length)
  R : Eqs M.R (if 0 < Q.size then Q.R.drop (Q.S.length - Q.size) else [])
  C : if Q.cl then ∃ c, M.C = some c ∧ Eq0 c Q.cg else M.C = none
  pS : ∀ x ∈ Q.S, Pos0 x
  pR : ∀ x ∈ Q.R, Pos0 x
  pC : Pos0 Q.cg
theorem Rel.cl {M : Md} {Q : Rf} (h : Rel M Q) : M.C.isSome = Q.cl := by
  have hC := h.C
  cases e : Q.cl with
  | false => rw [e, if_neg (by decide)] at hC; rw [hC]; rfl
  | true => rw [e, if_pos rfl] at hC; obtain ⟨c, hc, _⟩ := hC; rw [hc]; rfl
theorem Rel.full {M : Md} {Q : Rf} (h : Rel M Q) (ok : M.Ok) : M.full = Q.full := by
  unfold Md.full Rf.full
  have h1 := ok.ls
  have h2 := h.sn
  have h3 := h.rn
  have h4 := h.sz
  refine decide_eq_decide.2 ⟨fun h => ⟨by omega, by omega⟩, fun h => by omega⟩
theorem Rel.sendE {M : Md} {Q : Rf} (h : Rel M Q) (ok : M.Ok) : M.sendE = Q.sendE := by
  unfold Md.sendE Rf.sendE
  rw [h.cl, h.full ok]
theorem getD_mem {L : List (List Int)} {k : Nat} (h : k < L.length) : L.getD k [] ∈ L := by
  rw [List.getD_eq_getElem?_getD, List.getElem?_eq_getElem h]; exact List.getElem_mem _
theorem head_drop (L : List (List Int)) (k : Nat) : (L.drop k).getD 0 [] = L.getD k [] := by simp [List.getD]
theorem headD_getD (L : List (List Int)) : L.headD [] = L.getD 0 [] := by cases L <;> rfl
theorem Rel.sendF {M : Md} {Q : Rf} (h : Rel M Q) (ok : M.Ok) : OptE M.sendF Q.sendF := by
  unfold Md.sendF Rf.sendF
  rw [← h.sendE ok]
  by_cases e : M.sendE = 0
  · rw [if_pos e, if_pos e]
    have hf : M.full = false := by
      cases hf : M.full with
      | false => rfl
      | true => unfold Md.sendE at e; rw [hf] at e; split at e <;> simp at e
    have hf' := of_decide_eq_false hf
    have h1 := ok.ls
    have h2 := h.sn
    have h3 := h.rn
    have h4 := h.sz
    unfold Rf.peek
    rw [if_pos rfl]
    cases hd : M.due with
    | false =>
      have hd' := of_decide_eq_false hd
      simp only [Bool.false_eq_true, if_false]
      rw [if_neg (by omega)]
      trivial
    | true =>
      have hd' := of_decide_eq_true hd
      have hp := Md.due_R ok hf hd
      simp only [if_true]
      rw [if_pos (by omega)]
      have hR := h.R
      rw [if_pos (by omega)] at hR
      have := hR.at 0 hp
      rw [head_drop] at this
      exact ⟨by rw [headD_getD]; exact this, h.pR _ (getD_mem (by omega))⟩
  · rw [if_neg e, if_neg e]
    trivial
theorem Rel.send {M : Md} {Q : Rf} (h : Rel M Q) (ok : M.Ok) {l m : List Int} (hl : Eq0 l m) (hp : Pos0 m) : Rel (M.send l) (Q.send m) := by
  unfold Md.send Rf.send
  rw [← h.sendE ok]
  by_cases e : M.sendE = 0
  · rw [if_pos e, if_pos e]
    have hf : M.full = false := by
      cases hf : M.full with
      | false => rfl
      | true => unfold Md.sendE at e; rw [hf] at e; split at e <;> simp at e
    have h1 := ok.ls
    have h2 := h.sn
    have h3 := h.rn
    have h4 := h.sz
    refine ⟨h.sz, by simp [h.sn], h.rn, ?_, ?_, h.C, fun x hx => ?_, h.pR, h.pC⟩
    · show Eqs (M.S ++ [l]) ((Q.S ++ [m]).drop Q.R.length)
      rw [List.drop_append_of_le_length (by omega)]
      exact h.S.app (Eqs.one hl)
    · show Eqs (if M.due then M.R.tail else M.R) (if 0 < Q.size then Q.R.drop ((Q.S ++ [m]).length - Q.size) else [])
      have hR := h.R
      rw [List.length_append, List.length_singleton]
      cases hd : M.due with
      | false =>
        have hd' := of_decide_eq_false hd
        simp only [Bool.false_eq_true, if_false]
        by_cases h0 : 0 < Q.size
        · rw [if_pos h0] at hR ⊢
          rw [show Q.S.length + 1 - Q.size = Q.S.length - Q.size by omega]
          exact hR
        · rw [if_neg h0] at hR ⊢
          exact hR
      | true =>
        have hd' := of_decide_eq_true hd
        simp only [if_true]
        rw [if_pos (by omega)] at hR ⊢
        have := hR.tail
        rw [List.tail_drop] at this
        rw [show Q.S.length + 1 - Q.size = Q.S.length - Q.size + 1 by omega]
        exact this
    · rcases List.mem_append.1 hx with hx | hx
      · exact h.pS x hx
      · rw [List.mem_singleton.1 hx]; exact hp
  · rw [if_neg e, if_neg e]
    exact h
theorem Rel.peekR {M : Md} {Q : Rf} (h : Rel M Q) (ok : M.Ok) : (Q.peek false).isSome = decide (0 < M.S.length) ∧ OptE M.S.head? (Q.peek false) := by
  have h1 := ok.ls
  have h2 := h.sn
  have h3 := h.rn
  unfold Rf.peek
  rw [if_neg (by decide)]
  by_cases e : Q.R.length < Q.S.length
  · rw [if_pos e, decide_eq_true (by omega)]
    refine ⟨rfl, ?_⟩
    have hS := h.S.at 0 (by omega)
    rw [head_drop] at hS
    cases hM : M.S with
    | nil => rw [hM] at h1; simp at h1; omega
    | cons x xs =>
      rw [hM] at hS
      exact ⟨hS, h.pS _ (getD_mem e)⟩
  · rw [if_neg e, decide_eq_false (by omega)]
    refine ⟨rfl, ?_⟩
    have : M.S = [] := List.length_eq_zero_iff.1 (by omega)
    rw [this]
    trivial
theorem Rel.recvE {M : Md} {Q : Rf} (h : Rel M Q) (ok : M.Ok) : M.recvE = Q.recvE := by
  unfold Md.recvE Rf.recvE
  rw [(h.peekR ok).1]
  by_cases e : 0 < M.S.length
  · rw [if_neg (by omega), decide_eq_true e, if_pos rfl]
  · rw [if_pos (by omega), decide_eq_false e, if_neg (by decide)]
theorem Rel.recvF {M : Md} {Q : Rf} (h : Rel M Q) (ok : M.Ok) : OptE M.recvF (Q.peek false) := by
  have hp := (h.peekR ok).2
  unfold Md.recvF Md.recvE
  cases hM : M.S with
  | nil => rw [hM] at hp; simpa using hp
  | cons x xs => rw [hM] at hp; simpa using hp
theorem Rel.recv {M : Md} {Q : Rf} (h : Rel M Q) (ok : M.Ok) {l m : List Int} (hl : Eq0 l m) (hp : Pos0 m) : Rel (M.recv l) (Q.recv m) := by
  have hp1 := (h.peekR ok).1
  unfold Md.recv Rf.recv Md.recvE
  rw [hp1]
  have h1 := ok.ls
  have h2 := h.sn
  have h3 := h.rn
  have h4 := h.sz
  have h5 := ok.lr
  by_cases e : 0 < M.S.length
  · rw [if_pos (by rw [if_neg (by omega)]), decide_eq_true e, if_pos rfl]
    refine ⟨h.sz, h.sn, by simp [h.rn], ?_, ?_, h.C, h.pS, fun x hx => ?_, h.pC⟩
    · show Eqs M.S.tail (Q.S.drop (Q.R ++ [m]).length)
      have := h.S.tail
      rw [List.tail_drop] at this
      rw [List.length_append, List.length_singleton]
      exact this
    · show Eqs (if M.size = 0 then M.R else M.R ++ [l]) (if 0 < Q.size then (Q.R ++ [m]).drop (Q.S.length - Q.size) else [])
      have hR := h.R
      by_cases h0 : 0 < Q.size
      · rw [if_pos h0] at hR ⊢
        rw [if_neg (by omega)] at h5 ⊢
        rw [List.drop_append_of_le_length (by omega)]
        exact hR.app (Eqs.one hl)
      · rw [if_neg h0] at hR ⊢
        rw [if_pos (by omega)]
        exact hR
    · rcases List.mem_append.1 hx with hx | hx
      · exact h.pR x hx
      · rw [List.mem_singleton.1 hx]; exact hp
  · rw [if_neg (by rw [if_pos (by omega)]; decide), decide_eq_false e, if_neg (by decide)]
    exact h
theorem Rel.closeE {M : Md} {Q : Rf} (h : Rel M Q) : M.closeE = if Q.cl then 90 else 0 := by
  unfold Md.closeE
  rw [h.cl]
theorem Rel.close {M : Md} {Q : Rf} (h : Rel M Q) {l m : List Int} (hl : Eq0 l m) (hp : Pos0 m) : Rel (M.close l) (Q.close m) := by
  unfold Md.close Rf.close
  rw [h.closeE]
  cases e : Q.cl with
  | false =>
    simp only [Bool.false_eq_true, if_false, if_true]
    exact ⟨h.sz, h.sn, h.rn, h.S, h.R, ⟨l, rfl, hl⟩, h.pS, h.pR, hp⟩
  | true =>
    simp only [if_true]
    rw [if_neg (by decide)]
    exact h
theorem Rel.drop {M : Md} {Q : Rf} (h : Rel M Q) (t : Int) : Rel (M.drop t) (Q.drop t) := by
  refine ⟨h.sz, by show M.sn = (Q.S.map (putT t)).length; rw [List.length_map]; exact h.sn, by show M.rn = (Q.R.map (putT t)).length; rw [List.length_map]; exact h.rn, ?_, ?_, ?_, fun x hx => ?_, fun x hx => ?_, pos0_put t h.pC⟩
  · show Eqs (M.S.map (drop0 t)) ((Q.S.map (putT t)).drop (Q.R.map (putT t)).length)
    rw [List.length_map, ← List.map_drop]
    exact h.S.map t
  · show Eqs (M.R.map (drop0 t)) (if 0 < Q.size then (Q.R.map (putT t)).drop ((Q.S.map (putT t)).length - Q.size) else [])
    have hR := h.R.map t
    rw [List.length_map, ← List.map_drop]
    split at hR
    · rename_i h0; rw [if_pos h0]; exact hR
    · rename_i h0; rw [if_neg h0]; exact hR
  · show if Q.cl then ∃ c, M.C.map (drop0 t) = some c ∧ Eq0 c (putT t Q.cg) else M.C.map (drop0 t) = none
    have hC := h.C
    cases e : Q.cl with
    | false => rw [e, if_neg (by decide)] at hC; rw [hC, if_neg (by decide)]; rfl
    | true =>
      rw [e, if_pos rfl] at hC
      obtain ⟨c, hc, he⟩ := hC
      rw [hc, if_pos rfl]
      exact ⟨_, rfl, eq0_drop t he⟩
  · obtain ⟨y, hy, rfl⟩ := List.mem_map.1 hx
    exact pos0_put t (h.pS y hy)
  · obtain ⟨y, hy, rfl⟩ := List.mem_map.1 hx
    exact pos0_put t (h.pR y hy)
theorem Rel.peek {M : Md} {Q : Rf} (h : Rel M Q) (ok : M.Ok) (x : Bool) : OptE (M.peekF x) (Q.peek x) := by
  cases x with
  | false => exact (h.peekR ok).2
  | true =>
    unfold Md.peekF Rf.peek
    rw [if_pos rfl, if_pos rfl]
    have h1 := ok.ls
    have h2 := h.sn
    have h3 := h.rn
    have h4 := h.sz
    have h5 := ok.lr
    have hR := h.R
    cases hd : M.due with
    | false =>
      have hd' := of_decide_eq_false hd
      simp only [Bool.false_eq_true, if_false]
      rw [if_neg (by omega)]
      trivial
    | true =>
      have hd' := of_decide_eq_true hd
      rw [if_neg (by omega)] at h5
      rw [if_pos (by omega)] at hR
      simp only [if_true]
      by_cases e : Q.S.length - Q.size < Q.R.length
      · rw [if_pos (by omega)]
        have hS := hR.at 0 (by omega)
        rw [head_drop] at hS
        cases hM : M.R with
        | nil => rw [hM] at h5; simp at h5; omega
        | cons x xs =>
          rw [hM] at hS
          exact ⟨hS, h.pR _ (getD_mem e)⟩
      · rw [if_neg (by omega)]
        have : M.R = [] := List.length_eq_zero_iff.1 (by omega)
        rw [this]
        trivial
theorem Rel.held {M : Md} {Q : Rf} (h : Rel M Q) : Eqs M.kept Q.held ∧ ∀ x ∈ Q.held, Pos0 x := by
  have e : Q.heldR Q.R.length = if 0 < Q.size then Q.R.drop (Q.S.length - Q.size) else [] := by
    unfold Rf.heldR
    rw [List.take_length]
  unfold Md.kept Rf.held
  rw [e]
  have hC := h.C
  refine ⟨(h.S.app h.R).app ?_, fun x hx => ?_⟩
  · cases ec : Q.cl with
    | false => rw [ec, if_neg (by decide)] at hC; rw [hC, if_neg (by decide)]; trivial
    | true =>
      rw [ec, if_pos rfl] at hC
      obtain ⟨c, hc, he⟩ := hC
      rw [hc, if_pos rfl]
      exact Eqs.one he
  · rcases List.mem_append.1 hx with hx | hx
    · rcases List.mem_append.1 hx with hx | hx
      · exact h.pS x (List.mem_of_mem_drop hx)
      · split at hx
        · exact h.pR x (List.mem_of_mem_drop hx)
        · simp at hx
    · split at hx
      · rw [List.mem_singleton.1 hx]; exact h.pC
      · simp at hx
end Go.Proofs.Ytlkfhobacgnckaa

