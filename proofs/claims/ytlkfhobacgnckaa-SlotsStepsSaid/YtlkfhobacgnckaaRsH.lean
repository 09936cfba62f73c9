
/-
  staitheref15: Drop: the plain parts.
-/
import Derived.Test.YtlkfhobacgnckaaRsG
namespace Go.Proofs.Ytlkfhobacgnckaa
open Go.RowKit
set_option linter.unusedVariables false
set_option linter.unusedSimpArgs false
set_option maxRecDepth 100000

def putT (t : Int) (l : List Int) : List Int := if 0 ≤ t ∧ t < 256 then l.set t.toNat 0 else l
theorem putT_len (t : Int) (l : List Int) : (putT t l).length = l.length := by unfold putT; split <;> simp
def RPut (b o : Nat) (ns : List Int) (t : Int) (w : World) (r : Ending) (w' : World) : Prop := ∃ e, r = .returned (.int .i64 e) ∧ RC w' b o (putT t ns) ∧ Only b o 256 w w'
theorem rc_put (b o : Nat) (ns : List Int) (t : Int) (w : World) (h : RC w b o ns) :
    Calls Try.prog 42 #[.pointer (some ⟨b, o, none⟩), .int .i64 t, .int .i64 0] w (RPut b o ns t w) := by
  by_cases ht : 0 ≤ t ∧ t < 256
  · obtain ⟨n, rfl⟩ : ∃ n : Nat, t = n := ⟨t.toNat, by omega⟩
    refine (rc_set b o ns n 0 w h (by omega) (by omega) (by omega)).mono ?_
    rintro r w' ⟨rfl, rfl⟩
    refine ⟨0, rfl, ?_, Only.of_set _ (by omega)⟩
    have := h.set n (by omega) 0
    unfold putT
    rw [if_pos ht]
    exact this
  · refine (rc_set_no _ t 0 w (by omega)).mono ?_
    rintro r w' ⟨rfl, rfl⟩
    exact ⟨1, rfl, by unfold putT; rw [if_neg ht]; exact h, Only.refl _ _ _ _⟩
theorem Lg.rc {w : World} {b o : Nat} {ns : List Int} (h : Lg w b o (ints ns)) (hl : ns.length = 256) : RC w b o ns := by
  refine ⟨hl, fun i hi => ?_, h.fz⟩
  refine h.range i _ ?_
  unfold ints
  rw [List.getElem?_map, List.getD_eq_getElem?_getD, List.getElem?_eq_getElem (by omega)]
  rfl
theorem RC.lg {w : World} {b o : Nat} {ns : List Int} (h : RC w b o ns) : Lg w b o (ints ns) := ⟨h.range, h.2.2⟩
/-- One clock of a row has turned. -/
theorem row_set {w w' : World} {base g n cap : Nat} {us : List (List Int)} (h : w.ownsRow base 56 256 (.slice (some ⟨g, 0, none⟩) n cap) us.length (flatV us)) (hl : ∀ x ∈ us, x.length = 256) {k : Nat} (hk : k < us.length) {l : List Int} (hll : l.length = 256)
    (ho : Only g (k * 256) 256 w w') (L : Lg w' g (k * 256) (ints l)) : w'.ownsRow base 56 256 (.slice (some ⟨g, 0, none⟩) n cap) us.length (flatV (us.set k l)) := by
  have hl' : ∀ x ∈ us.set k l, x.length = 256 := fun x hx => by
    rcases List.mem_or_eq_of_mem_set hx with hx | rfl
    · exact hl x hx
    · exact hll
  have flen : ∀ us : List (List Int), (∀ x ∈ us, x.length = 256) → (flatV us).length = us.length * 256 := by
    intro us
    induction us with
    | nil => intro _; rfl
    | cons x us ih =>
      intro hu
      have h1 := ih (fun y hy => hu y (by simp [hy]))
      have h2 := hu x (by simp)
      unfold flatV at h1 ⊢
      rw [length_ints] at h1 ⊢
      simp only [List.flatten_cons, List.length_append, List.length_cons]
      omega
  have at' : ∀ us : List (List Int), (∀ x ∈ us, x.length = 256) → ∀ j i, j < us.length → i < 256 → (flatV us)[j * 256 + i]? = (ints (us.getD j []))[i]? := fun us hu j i hj hi => by
    unfold flatV ints
    rw [List.getElem?_map, flat_at us hu j i hj hi, ← List.getElem?_map]
  refine ⟨by rw [flen _ hl', List.length_set], ?_⟩
  rcases h.2 with ⟨h1, h0⟩ | ⟨g', cap', cur, e, hb, hg, hnc, hcm, hcs, htake⟩
  · omega
  · cases e
    obtain ⟨cur', hg', hs', hout⟩ := ho.here cur _ hg
    refine .inr ⟨g, cap, cur', rfl, hb, hg', hnc, hcm, hs'.trans hcs, ?_⟩
    apply List.ext_getElem?
    intro i
    by_cases hi : i < us.length * 256
    · rw [List.getElem?_take, if_pos hi, Array.getElem?_toList]
      obtain ⟨j, r, hjr, hr, hj⟩ : ∃ j r, i = j * 256 + r ∧ r < 256 ∧ j < us.length := ⟨i / 256, i % 256, by omega, by omega, by omega⟩
      subst hjr
      rw [at' _ hl' j r (by simpa using hj) hr]
      by_cases hjk : j = k
      · subst hjk
        have hv : (ints l)[r]? = some ((ints l)[r]'(by rw [length_ints, hll]; exact hr)) := List.getElem?_eq_getElem _
        have := L.range r _ hv
        rw [show (us.set j l).getD j [] = l from by simp [List.getD, hk], hv, ← this]
        simp [World.cell?, hg']
      · rw [hout _ (by rcases Nat.lt_or_gt_of_ne hjk with h | h <;> omega), show (us.set k l).getD j [] = us.getD j [] from by simp only [List.getD]; rw [List.getElem?_set_ne (fun e => hjk e.symm)], ← at' us hl j r hj hr, ← htake, List.getElem?_take, if_pos hi, Array.getElem?_toList]
    · rw [List.getElem?_eq_none (by simp; omega), List.getElem?_eq_none (by rw [flen _ hl', List.length_set]; omega)]
theorem ownsRow_block {w w' : World} {base n : Nat} {v : Value} {xs : List Value} {e : TypeId} {s : Nat} (h : w.ownsRow base e s v n xs) (hb : ∀ g, v.ownBlock = some g → w'.heap[g]? = w.heap[g]?) : w'.ownsRow base e s v n xs := by
  refine ⟨h.1, ?_⟩
  rcases h.2 with hn | ⟨g, cap, cur, rfl, h1, hg, h2⟩
  · exact .inl hn
  · exact .inr ⟨g, cap, cur, rfl, h1, (hb g rfl).trans hg, h2⟩
theorem QAt.setS {B q : Nat} {w w' : World} {g n cap : Nat} {vR : Value} {Q : Rf} (h : QAt B q w (.slice (some ⟨g, 0, none⟩) n cap) vR Q) {k : Nat} (hk : k < Q.S.length) {l : List Int} (hl : l.length = 256) (ho : Only g (k * 256) 256 w w') (L : Lg w' g (k * 256) (ints l)) :
    QAt B q w' (.slice (some ⟨g, 0, none⟩) n cap) vR ⟨Q.size, Q.S.set k l, Q.R, Q.cl, Q.cg⟩ ∧ KeepQ B w w' := by
  obtain ⟨cur, hc⟩ := h.ty
  obtain ⟨curg, hg, hBg⟩ : ∃ cur, w.heap[g]? = some (.cells cur 56 (0, 0)) ∧ B ≤ g := by
    rcases h.rowS.2 with ⟨h1, _⟩ | ⟨g', cap', cur, e, hb, hg, _⟩
    · cases h1
    · cases e; exact ⟨cur, hg, hb⟩
  have hne : q ≠ g := fun e => by
    subst e
    rw [hc] at hg
    have := Option.some.inj hg
    injection this with e1 e2
    exact absurd e2 (by decide)
  have hq : w'.heap[q]? = w.heap[q]? := ho.block q (lt_of_heap hc) hne
  have f : ∀ i, w'.cell? ⟨q, i, none⟩ = w.cell? ⟨q, i, none⟩ := fun i => World.cell?_of_block (a := ⟨q, i, none⟩) hq
  refine ⟨⟨⟨cur, hq.trans hc⟩, (f 0).trans h.c0, (f 1).trans h.c1, (f 2).trans h.c2, (f 3).trans h.c3, h.cg.block hq, h.lg, ?_, ownsRow_block h.rowR fun g' e => ho.block g' (own_lt h.rowR e).1 fun e' => h.apart g rfl (by rw [e, e']), fun x hx => ?_, h.lR, h.apart, h.low, Nat.le_trans h.bw ho.size, h.sz⟩, keepQ_turned hg (.inl rfl) hBg ho.turned⟩
  · have := row_set h.rowS h.lS hk hl ho L
    rw [List.length_set]
    exact this
  · rcases List.mem_or_eq_of_mem_set hx with hx | rfl
    · exact h.lS x hx
    · exact hl
theorem QAt.setR {B q : Nat} {w w' : World} {g n cap : Nat} {vS : Value} {Q : Rf} (h : QAt B q w vS (.slice (some ⟨g, 0, none⟩) n cap) Q) {k : Nat} (hk : k < Q.R.length) {l : List Int} (hl : l.length = 256) (ho : Only g (k * 256) 256 w w') (L : Lg w' g (k * 256) (ints l)) :
    QAt B q w' vS (.slice (some ⟨g, 0, none⟩) n cap) ⟨Q.size, Q.S, Q.R.set k l, Q.cl, Q.cg⟩ ∧ KeepQ B w w' := by
  obtain ⟨cur, hc⟩ := h.ty
  obtain ⟨curg, hg, hBg⟩ : ∃ cur, w.heap[g]? = some (.cells cur 56 (0, 0)) ∧ B ≤ g := by
    rcases h.rowR.2 with ⟨h1, _⟩ | ⟨g', cap', cur, e, hb, hg, _⟩
    · cases h1
    · cases e; exact ⟨cur, hg, hb⟩
  have hne : q ≠ g := fun e => by
    subst e
    rw [hc] at hg
    have := Option.some.inj hg
    injection this with e1 e2
    exact absurd e2 (by decide)
  have hq : w'.heap[q]? = w.heap[q]? := ho.block q (lt_of_heap hc) hne
  have f : ∀ i, w'.cell? ⟨q, i, none⟩ = w.cell? ⟨q, i, none⟩ := fun i => World.cell?_of_block (a := ⟨q, i, none⟩) hq
  refine ⟨⟨⟨cur, hq.trans hc⟩, (f 0).trans h.c0, (f 1).trans h.c1, (f 2).trans h.c2, (f 3).trans h.c3, h.cg.block hq, h.lg, ownsRow_block h.rowS fun g' e => ho.block g' (own_lt h.rowS e).1 fun e' => h.apart g' e (by rw [e']; rfl), ?_, h.lS, fun x hx => ?_, h.apart, h.low, Nat.le_trans h.bw ho.size, h.sz⟩, keepQ_turned hg (.inl rfl) hBg ho.turned⟩
  · have := row_set h.rowR h.lR hk hl ho L
    rw [List.length_set]
    exact this
  · rcases List.mem_or_eq_of_mem_set hx with hx | rfl
    · exact h.lR x hx
    · exact hl
/-- Behind k of the drops. -/
def dropK (t : Int) (k : Nat) (L : List (List Int)) : List (List Int) := (L.take k).map (putT t) ++ L.drop k
theorem dropK_len (t : Int) (k : Nat) (L : List (List Int)) : (dropK t k L).length = L.length := by
  unfold dropK; rw [List.length_append, List.length_map, ← List.length_append, List.take_append_drop]
theorem dropK_zero (t : Int) (L : List (List Int)) : dropK t 0 L = L := by simp [dropK]
theorem dropK_all (t : Int) (L : List (List Int)) : dropK t L.length L = L.map (putT t) := by simp [dropK]
theorem dropK_at (t : Int) (k : Nat) (L : List (List Int)) (hk : k < L.length) : (dropK t k L).getD k [] = L.getD k [] := by
  unfold dropK
  simp only [List.getD]
  rw [List.getElem?_append_right (by simp; omega)]
  simp [Nat.min_eq_left (Nat.le_of_lt hk)]
theorem dropK_succ (t : Int) (k : Nat) (L : List (List Int)) (hk : k < L.length) : dropK t (k + 1) L = (dropK t k L).set k (putT t (L.getD k [])) := by
  unfold dropK
  rw [take_snoc L k hk, List.map_append, List.set_append_right _ _ (by simp; omega), show k - (List.map (putT t) (L.take k)).length = 0 from by simp; omega, List.drop_eq_getElem_cons hk, List.set_cons_zero, List.append_assoc]
  simp
/-- The store of a whole clock, as a def of one's own. -/
def st56 (p v : Value) := Instr.storeAt 56 p v
theorem exec_st56 (d : Option Tmp) (x y : Operand) (ty : TypeId) (pos : String) (after : Array Edge) (gd : Option (Nat × Bool)) (ρ : Operand → Value) : execOp ρ (Oper.mk d (.store 56 x y) ty pos after gd) = (do st56 (ρ x) (ρ y); pure .skip) := rfl
theorem run_st56 (b o : Nat) (l m : List Int) (hl : l.length = 256) (hm : m.length = 256) (Z : Array Value) (hZ : (ints l).toArray = Z) (w : World) (h : Lg w b o (ints m)) : (st56 (.pointer (some ⟨b, o, none⟩)) (.agg Z)).run Try.prog w = .ok () (w.setCells b o (ints l)) := by
  subst hZ
  have hs : (ints l).toArray.size = 256 := by rw [List.size_toArray, length_ints, hl]
  have h' := h.rc hm
  exact run_storeAt_mid w b o 56 (ints l).toArray (fun j hj => ⟨by rw [h'.2.1 j (by omega)]; rfl, h'.2.2 (o + j)⟩) (by rw [hs]; exact rsize) (all_oneCell_toArray (ints1 l))
theorem lg_stored {w : World} {b o : Nat} {l m : List Int} (h : Lg w b o (ints m)) (hl : l.length = 256) (hm : m.length = 256) : Lg (w.setCells b o (ints l)) b o (ints l) ∧ Only b o 256 w (w.setCells b o (ints l)) := by
  have h' := h.rc hm
  have ht : w.there b o (ints l).length := fun j hj => ⟨by rw [h'.2.1 j (by rw [length_ints, hl] at hj; exact hj)]; rfl, h'.2.2 (o + j)⟩
  refine ⟨⟨World.rangeAt_setCells_same w b o (ints l) ht, fun i => by rw [World.frozen?_setCells]; exact h.fz i⟩, ?_⟩
  have := only_setCells (b := b) (o := o) (n := 256) (ints l) 0 w (by rw [length_ints, hl]; omega)
  simpa using this
end Go.Proofs.Ytlkfhobacgnckaa

