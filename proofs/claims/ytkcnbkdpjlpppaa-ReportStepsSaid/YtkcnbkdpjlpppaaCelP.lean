
/-
  Cell: the program's cell and the reference's: plain.
-/
import Derived.Test.YtkcnbkdpjlpppaaCelK
import Derived.Test.YtkcnbkdpjlpppaaRcD
namespace Go.Proofs.Ytkcnbkdpjlpppaa
open Go.RowKit
set_option linter.unusedVariables false
set_option linter.unusedSimpArgs false
set_option maxRecDepth 100000

def okTN (t n : Int) : Prop := 0 ≤ t ∧ t < 256 ∧ 1 ≤ n ∧ n ≤ 1048576
/-- The last write, here and there. -/
def RelW (x : Int) (m : M18) : Prop := (x = 0 ∧ m.no = true ∧ m.ta = false) ∨ (x = 18446744073709551615 ∧ m.no = false ∧ m.ta = true) ∨ (x = ep m.t m.n ∧ okTN m.t m.n ∧ m.no = false ∧ m.ta = false)
/-- The reads. -/
structure RelL (l : List Int) (rd : List Int) : Prop where
  mem : ∀ y, y ∈ l ↔ ∃ t : Nat, t < 256 ∧ 0 < rd.getD t 0 ∧ y = ep t (rd.getD t 0)
  bd : ∀ t : Nat, t < 256 → 0 ≤ rd.getD t 0 ∧ rd.getD t 0 ≤ 1048576
  len : rd.length = 256
structure RelC (x : Int) (l : List Int) (tl : Bool) (m : M18) : Prop where
  w : RelW x m
  r : RelL l m.rd
  t : tl = m.tl

theorem known_ep {t n : Int} (h : okTN t n) (e : Int) (f : Int → Int) : knownB (ep t n) e f = (decide (t = tidE e) || decide (n ≤ f t)) := by
  obtain ⟨a, b, c, d⟩ := h
  have hk := okE_ep a b c d
  have h0 := ok_ne hk
  unfold knownB seenB
  rw [tidE_ep a b c d, hk]
  have h3 : ep t n % 4294967296 = n := by unfold ep; omega
  simp [h0.1, h0.2, h3]
theorem known_w {x e : Int} {m : M18} {f : Int → Int} {tid : Int} {ns : List Int} (h : RelW x m) (he : tidE e = tid) (hf : ∀ u, f u = at0 ns u) : knownB x e f = rkB m.t m.n m.no m.ta tid ns := by
  rcases h with ⟨rfl, h1, h2⟩ | ⟨rfl, h1, h2⟩ | ⟨rfl, h3, h1, h2⟩
  · simp [knownB, rkB, h1]
  · simp [knownB, rkB, h1, h2]
  · rw [known_ep h3, he, hf]
    simp [rkB, h1, h2]
theorem known_r {rd : List Int} {l : List Int} (h : RelL l rd) {t : Nat} (ht : t < 256) (hp : 0 < rd.getD t 0) {e : Int} {f : Int → Int} {tid : Int} {ns : List Int} (he : tidE e = tid) (hf : ∀ u, f u = at0 ns u) : knownB (ep t (rd.getD t 0)) e f = kn18 rd tid ns t := by
  rw [known_ep ⟨by omega, by omega, by omega, (h.bd t ht).2⟩, he, hf]
  simp [kn18, rkB]
theorem rel_new : RelC 0 [] false ⟨0, 0, true, false, zeroR, false⟩ := by
  refine ⟨.inl ⟨rfl, rfl, rfl⟩, ⟨fun y => ⟨fun h => by simp at h, fun ⟨t, ht, hp, _⟩ => ?_⟩, fun t ht => ?_, zeroK_len _ _⟩, rfl⟩
  · unfold zeroR at hp; rw [zeroK_get _ _ ht, if_pos ht] at hp; omega
  · unfold zeroR; rw [zeroK_get _ _ ht, if_pos ht]; omega
theorem ep_inj {t u : Nat} {n k : Int} (h1 : 0 ≤ n) (h2 : n ≤ 1048576) (h3 : 0 ≤ k) (h4 : k ≤ 1048576) (h : ep t n = ep u k) : t = u ∧ n = k := by
  unfold ep at h
  constructor <;> omega
theorem rel_read {x : Int} {l : List Int} {tl : Bool} {m : M18} {f : Int → Int} {ns : List Int} {tid : Nat} {n : Int} (h : RelC x l tl m) (ht : tid < 256) (hn : 1 ≤ n) (hn2 : n ≤ 1048576) (hf : ∀ u, f u = at0 ns u) :
    RelC x (readL l (ep tid n) f) tl ⟨m.t, m.n, m.no, m.ta, readR m.rd tid n ns, m.tl⟩ := by
  have he : tidE (ep (tid : Nat) n) = tid := tidE_ep (by omega) (by omega) hn hn2
  have hc := clearK_len m.rd tid ns 256
  have hg : ∀ j, j < 256 → (readR m.rd tid n ns).getD j 0 = if j = tid then n else if 0 < m.rd.getD j 0 ∧ kn18 m.rd tid ns j = true then 0 else m.rd.getD j 0 := fun j hj => by
    unfold readR
    rw [getD_set256 hc ht]
    by_cases h1 : j = tid
    · rw [if_pos h1, if_pos h1]
    · rw [if_neg h1, if_neg h1, clearK_get _ _ _ _ hj]
      simp [hj]
  refine ⟨h.w, ⟨fun y => ?_, fun t htt => ?_, by unfold readR; simp [hc]⟩, h.t⟩
  · unfold readL
    rw [mem_ins]
    constructor
    · rintro (rfl | hy)
      · exact ⟨tid, ht, by show 0 < (readR m.rd tid n ns).getD tid 0; rw [hg tid ht, if_pos rfl]; omega, by show _ = ep tid ((readR m.rd tid n ns).getD tid 0); rw [hg tid ht, if_pos rfl]⟩
      · obtain ⟨h1, h2⟩ := List.mem_filter.1 hy
        obtain ⟨t, htt, hp, rfl⟩ := (h.r.mem y).1 h1
        rw [known_r h.r htt hp he hf] at h2
        have hkn : ¬ (kn18 m.rd tid ns t = true) := by simpa using h2
        have htn : t ≠ tid := by
          rintro rfl
          apply hkn
          simp [kn18, rkB]
        refine ⟨t, htt, ?_, ?_⟩
        · show 0 < (readR m.rd tid n ns).getD t 0
          rw [hg t htt, if_neg htn, if_neg (fun hh => hkn hh.2)]; exact hp
        · show _ = ep t ((readR m.rd tid n ns).getD t 0)
          rw [hg t htt, if_neg htn, if_neg (fun hh => hkn hh.2)]
    · rintro ⟨t, htt, hp, rfl⟩
      show ep t ((readR m.rd tid n ns).getD t 0) = _ ∨ _
      have hp : 0 < (readR m.rd tid n ns).getD t 0 := hp
      rw [hg t htt] at hp ⊢
      by_cases htn : t = tid
      · subst htn; rw [if_pos rfl]; exact .inl rfl
      · rw [if_neg htn] at hp ⊢
        right
        by_cases hk : 0 < m.rd.getD t 0 ∧ kn18 m.rd tid ns t = true
        · rw [if_pos hk] at hp; omega
        · rw [if_neg hk] at hp ⊢
          refine List.mem_filter.2 ⟨(h.r.mem _).2 ⟨t, htt, hp, rfl⟩, ?_⟩
          rw [known_r h.r htt hp he hf]
          have : ¬ (kn18 m.rd tid ns t = true) := fun hh => hk ⟨hp, hh⟩
          simpa using this
  · show 0 ≤ (readR m.rd tid n ns).getD t 0 ∧ (readR m.rd tid n ns).getD t 0 ≤ 1048576
    rw [hg t htt]
    have := h.r.bd t htt
    split
    · omega
    · split <;> omega
theorem rel_write {tid : Nat} {n : Int} (ht : tid < 256) (hn : 1 ≤ n) (hn2 : n ≤ 1048576) : RelC (ep tid n) [] false ⟨tid, n, false, false, zeroR, false⟩ :=
  ⟨.inr (.inr ⟨rfl, ⟨by show (0 : Int) ≤ (tid : Int); omega, by show (tid : Int) < 256; omega, hn, hn2⟩, rfl, rfl⟩), rel_new.r, rfl⟩
theorem put_eq {x : Int} {l : List Int} {tl : Bool} {m : M18} {f : Int → Int} {ns : List Int} {tid : Nat} {n : Int} (h : RelC x l tl m) (ht : tid < 256) (hn : 1 ≤ n) (hn2 : n ≤ 1048576) (hf : ∀ u, f u = at0 ns u) :
    writeV x l tl (ep tid n) f = putV m tid ns := by
  have he : tidE (ep (tid : Nat) n) = tid := tidE_ep (by omega) (by omega) hn hn2
  have ha : l.any (fun y => !knownB y (ep tid n) f) = putA m.rd tid ns 256 := by
    rw [Bool.eq_iff_iff]
    unfold putA
    rw [List.any_eq_true, List.any_eq_true]
    constructor
    · rintro ⟨y, hy, hk⟩
      obtain ⟨t, htt, hp, rfl⟩ := (h.r.mem y).1 hy
      rw [known_r h.r htt hp he hf] at hk
      exact ⟨t, by simpa using htt, by rw [hk, decide_eq_true hp]; rfl⟩
    · rintro ⟨t, htt, hk⟩
      have htt' : t < 256 := by simpa using htt
      rw [Bool.and_eq_true] at hk
      have hp : 0 < m.rd.getD t 0 := of_decide_eq_true hk.1
      exact ⟨_, (h.r.mem _).2 ⟨t, htt', hp, rfl⟩, by rw [known_r h.r htt' hp he hf]; exact hk.2⟩
  unfold writeV putV putW
  rw [known_w h.w he hf, ha, h.t]
theorem rel_ret {x : Int} {l : List Int} {tl : Bool} {m : M18} {tid : Nat} {cut : Int} (h : RelC x l tl m) (ht : tid < 256) (hc : 0 ≤ cut) : RelC (retX x tid cut) (retL l tid) (retT l tl tid cut) (retM m tid cut) := by
  have hg : ∀ j, j < 256 → (m.rd.set tid 0).getD j 0 = if j = tid then 0 else m.rd.getD j 0 := fun j hj => getD_set256 h.r.len ht 0
  have hel : ∀ t : Nat, t < 256 → 0 < m.rd.getD t 0 → tidE (ep t (m.rd.getD t 0)) = t ∧ clkE (ep t (m.rd.getD t 0)) = m.rd.getD t 0 := fun t htt hp => by
    have := h.r.bd t htt
    exact ⟨tidE_ep (by omega) (by omega) (by omega) this.2, clkE_ep (by omega) (by omega) (by omega) this.2⟩
  refine ⟨?_, ⟨fun y => ?_, fun t htt => ?_, by show (m.rd.set tid 0).length = 256; simp [h.r.len]⟩, ?_⟩
  · have key : ∀ (t n : Int) (no ta : Bool), retW m tid cut = (t, n, no, ta) → RelW (retX x tid cut) ⟨t, n, no, ta, m.rd, m.tl⟩ → RelW (retX x tid cut) (retM m tid cut) := by
      intro t n no ta h1 h2
      unfold retM
      rw [h1]
      exact h2
    rcases h.w with ⟨rfl, h1, h2⟩ | ⟨rfl, h1, h2⟩ | ⟨rfl, h3, h1, h2⟩
    · have hx : retX 0 tid cut = 0 := by unfold retX; rw [if_neg (by rw [tidE_no (by decide)]; omega)]
      refine key _ _ _ _ (by unfold retW; rw [if_neg (by simp [h1])]) ?_
      rw [hx]
      exact .inl ⟨rfl, h1, h2⟩
    · have hx : retX 18446744073709551615 tid cut = 18446744073709551615 := by unfold retX; rw [if_neg (by rw [tidE_no (by decide)]; omega)]
      refine key _ _ _ _ (by unfold retW; rw [if_neg (by simp [h2])]) ?_
      rw [hx]
      exact .inr (.inl ⟨rfl, h1, h2⟩)
    · obtain ⟨a, b, c, d⟩ := h3
      by_cases h4 : m.t = tid
      · by_cases h5 : m.n ≤ cut
        · have hx : retX (ep m.t m.n) tid cut = 0 := by unfold retX; rw [tidE_ep a b c d, clkE_ep a b c d, if_pos h4, if_pos h5]
          refine key _ _ _ _ (by unfold retW; rw [if_pos ⟨h1, h2, h4⟩, if_pos h5]) ?_
          rw [hx]
          exact .inl ⟨rfl, rfl, rfl⟩
        · have hx : retX (ep m.t m.n) tid cut = 18446744073709551615 := by unfold retX; rw [tidE_ep a b c d, clkE_ep a b c d, if_pos h4, if_neg h5]
          refine key _ _ _ _ (by unfold retW; rw [if_pos ⟨h1, h2, h4⟩, if_neg h5]) ?_
          rw [hx]
          exact .inr (.inl ⟨rfl, rfl, rfl⟩)
      · have hx : retX (ep m.t m.n) tid cut = ep m.t m.n := by unfold retX; rw [tidE_ep a b c d, if_neg h4]
        refine key _ _ _ _ (by unfold retW; rw [if_neg (fun hh => h4 hh.2.2)]) ?_
        rw [hx]
        exact .inr (.inr ⟨rfl, ⟨a, b, c, d⟩, h1, h2⟩)
  · unfold retL
    rw [List.mem_filter, h.r.mem y]
    show _ ↔ ∃ t : Nat, t < 256 ∧ 0 < (m.rd.set tid 0).getD t 0 ∧ y = ep t ((m.rd.set tid 0).getD t 0)
    constructor
    · rintro ⟨⟨t, htt, hp, rfl⟩, hk⟩
      have hne : t ≠ tid := by
        rintro rfl
        unfold ownB at hk
        rw [(hel t htt hp).1] at hk
        simp at hk
      exact ⟨t, htt, by rw [hg t htt, if_neg hne]; exact hp, by rw [hg t htt, if_neg hne]⟩
    · rintro ⟨t, htt, hp, rfl⟩
      rw [hg t htt] at hp ⊢
      by_cases hne : t = tid
      · rw [if_pos hne] at hp; omega
      · rw [if_neg hne] at hp ⊢
        refine ⟨⟨t, htt, hp, rfl⟩, ?_⟩
        unfold ownB
        rw [(hel t htt hp).1]
        have : ¬ ((t : Int) = tid) := by omega
        simp [this]
  · show 0 ≤ (m.rd.set tid 0).getD t 0 ∧ (m.rd.set tid 0).getD t 0 ≤ 1048576
    rw [hg t htt]
    have := h.r.bd t htt
    split <;> omega
  · show retT l tl tid cut = (m.tl || decide (cut < m.rd.getD tid 0))
    unfold retT
    rw [h.t]
    congr 1
    rw [Bool.eq_iff_iff, List.any_eq_true, decide_eq_true_iff]
    constructor
    · rintro ⟨y, hy, hk⟩
      obtain ⟨t, htt, hp, rfl⟩ := (h.r.mem y).1 hy
      unfold ownB gtB at hk
      rw [(hel t htt hp).1, (hel t htt hp).2] at hk
      simp at hk
      obtain ⟨h1, h2⟩ := hk
      have : t = tid := by omega
      subst this
      simpa using h2
    · intro hlt
      have hp : 0 < m.rd.getD tid 0 := by omega
      refine ⟨_, (h.r.mem _).2 ⟨tid, ht, hp, rfl⟩, ?_⟩
      unfold ownB gtB
      rw [(hel tid ht hp).1, (hel tid ht hp).2]
      simpa using hlt

/-! ### The reads in the order of their tids -/
def cntR (rd : List Int) (k : Nat) : Nat := ((List.range k).filter (fun t => decide (0 < rd.getD t 0))).length
theorem cntR_step (rd : List Int) (k : Nat) : cntR rd (k + 1) = cntR rd k + if 0 < rd.getD k 0 then 1 else 0 := by
  unfold cntR
  rw [List.range_succ, List.filter_append, List.length_append]
  congr 1
  by_cases h : 0 < rd.getD k 0
  · rw [if_pos h, List.filter_cons, decide_eq_true h]; rfl
  · rw [if_neg h, List.filter_cons, decide_eq_false h]; rfl
def readsOf (rd : List Int) : List Int := ((List.range 256).filter (fun t : Nat => decide (0 < rd.getD t 0))).map (fun t : Nat => ep (t : Int) (rd.getD t 0))
theorem pw_eq {l1 l2 : List Int} (h1 : l1.Pairwise (fun a b => tidE a < tidE b)) (h2 : l2.Pairwise (fun a b => tidE a < tidE b)) (h : ∀ y, y ∈ l1 ↔ y ∈ l2) : l1 = l2 := by
  induction l1 generalizing l2 with
  | nil =>
    cases l2 with
    | nil => rfl
    | cons b l2 => exact absurd ((h b).2 (by simp)) (by simp)
  | cons a l1 ih =>
    cases l2 with
    | nil => exact absurd ((h a).1 (by simp)) (by simp)
    | cons b l2 =>
      rw [List.pairwise_cons] at h1 h2
      have hab : a = b := by
        rcases List.mem_cons.1 ((h a).1 (by simp)) with h3 | h3
        · exact h3
        · rcases List.mem_cons.1 ((h b).2 (by simp)) with h4 | h4
          · exact h4.symm
          · have := h2.1 a h3; have := h1.1 b h4; omega
      subst hab
      rw [ih h1.2 h2.2 (fun y => ?_)]
      have h5 := h y
      rw [List.mem_cons, List.mem_cons] at h5
      constructor
      · intro hy
        rcases h5.1 (.inr hy) with rfl | h6
        · have := h1.1 y hy; omega
        · exact h6
      · intro hy
        rcases h5.2 (.inr hy) with rfl | h6
        · have := h2.1 y hy; omega
        · exact h6
theorem srt_pw {l : List Int} (h : SrtE l) : l.Pairwise (fun a b => tidE a < tidE b) := by
  rw [List.pairwise_iff_getElem]
  intro i j hi hj hij
  have := h i j hij hj
  unfold tAt at this
  rw [List.getD_eq_getElem?_getD, List.getD_eq_getElem?_getD, List.getElem?_eq_getElem hi, List.getElem?_eq_getElem hj] at this
  exact this
theorem reads_eq {l rd : List Int} (h : RelL l rd) (hs : SrtE l) : l = readsOf rd := by
  refine pw_eq (srt_pw hs) ?_ (fun y => ?_)
  · unfold readsOf
    rw [List.pairwise_map]
    refine List.Pairwise.imp_of_mem (R := fun (a b : Nat) => a < b) ?_ ((List.pairwise_lt_range).filter _)
    intro a b ha hb hab
    have ha2 := List.mem_filter.1 ha
    have hb2 := List.mem_filter.1 hb
    have ha3 : a < 256 := by simpa using ha2.1
    have hb3 : b < 256 := by simpa using hb2.1
    have ha4 : 0 < rd.getD a 0 := of_decide_eq_true ha2.2
    have hb4 : 0 < rd.getD b 0 := of_decide_eq_true hb2.2
    have := h.bd a ha3
    have := h.bd b hb3
    rw [tidE_ep (by omega) (by omega) (by omega) (by omega), tidE_ep (by omega) (by omega) (by omega) (by omega)]
    omega
  · rw [h.mem y]
    unfold readsOf
    rw [List.mem_map]
    constructor
    · rintro ⟨t, ht, hp, rfl⟩
      exact ⟨t, List.mem_filter.2 ⟨by simpa using ht, decide_eq_true hp⟩, rfl⟩
    · rintro ⟨t, ht, rfl⟩
      have := List.mem_filter.1 ht
      exact ⟨t, by simpa using this.1, of_decide_eq_true this.2, rfl⟩
theorem reads_len {l rd : List Int} (h : RelL l rd) (hs : SrtE l) : l.length = cntR rd 256 := by
  rw [reads_eq h hs]
  simp [readsOf, cntR]
theorem cntR_le (rd : List Int) (k : Nat) (hk : k ≤ 256) : cntR rd k ≤ cntR rd 256 := by
  unfold cntR
  have : List.range 256 = List.range k ++ (List.range (256 - k)).map (k + ·) := by
    rw [← List.range_add]
    congr 1
    omega
  rw [this, List.filter_append, List.length_append]
  omega
/-- The k'th tid with a read, and which read it is. -/
theorem reads_at {l rd : List Int} (h : RelL l rd) (hs : SrtE l) {k : Nat} (hk : k < 256) (hp : 0 < rd.getD k 0) : cntR rd k < l.length ∧ l.getD (cntR rd k) 0 = ep k (rd.getD k 0) := by
  have hl : cntR rd k < l.length := by
    have h1 := cntR_step rd k
    rw [if_pos hp] at h1
    have h2 := cntR_le rd (k + 1) (by omega)
    rw [reads_len h hs]
    omega
  refine ⟨hl, ?_⟩
  rw [reads_eq h hs]
  have e : List.range 256 = List.range k ++ (k :: (List.range (255 - k)).map (k + 1 + ·)) := by
    have h1 : List.range 256 = List.range (k + 1) ++ (List.range (256 - (k + 1))).map (k + 1 + ·) := by
      rw [← List.range_add]
      congr 1
      omega
    rw [h1, List.range_succ, List.append_assoc, List.singleton_append, show 256 - (k + 1) = 255 - k by omega]
  unfold readsOf cntR
  rw [e, List.filter_append, List.map_append, List.getD_eq_getElem?_getD, List.getElem?_append_right (by simp)]
  have hp' : 0 < rd[k]?.getD 0 := by rw [← List.getD_eq_getElem?_getD]; exact hp
  simp [List.filter_cons, hp']
end Go.Proofs.Ytkcnbkdpjlpppaa

