
/-
  Layer 5, plainly: there and back.
-/
import Derived.Test.YtpefjcmaggimhaaSheX
import Derived.Test.YtpefjcmaggimhaaSheP
import Derived.Test.YtpefjcmaggimhaaDeeR
namespace Go.Proofs.Ytpefjcmaggimhaa
open Go.RowKit
set_option linter.unusedVariables false
set_option linter.unusedSimpArgs false
set_option maxRecDepth 100000

theorem nx_put2 {v : Int} (h0 : 0 ≤ v) (h1 : v ≤ 10000000) (r : List UInt8) : numV (putS v ++ r) = v ∧ numR (putS v ++ r) = r := by
  obtain ⟨n, rfl⟩ := Int.eq_ofNat_of_zero_le h0
  have hk : okN (n : Int) = true := by unfold okN; simp; omega
  have e : putS (n : Int) = enc n := by unfold putS; rw [if_pos hk]; rfl
  have t := tak_enc (n := n) (by unfold mostN; omega) r
  have hE : takE (enc n ++ r) = 0 := by unfold takE; rw [t]
  rw [e]
  unfold numV numR
  rw [if_pos hE, if_pos hE]
  refine ⟨by simp [takV, t], ?_⟩
  simp only [takR, t]
  rw [← length_enc n, List.drop_left]
/-! ### Lists -/
theorem tak_putS {n : Int} (h : okN n = true) (r : List UInt8) : tak (putS n ++ r) = some (n.toNat, sizeN n.toNat) ∧ (putS n ++ r).drop (sizeN n.toNat) = r ∧ (n.toNat : Int) = n := by
  have h' : 0 ≤ n ∧ n ≤ 1099511627776 := by simpa [okN] using h
  have hp : putS n = enc n.toNat := by unfold putS; rw [if_pos h]
  rw [hp]
  refine ⟨tak_enc (by unfold mostN; omega) r, ?_, by omega⟩
  rw [← length_enc, List.drop_left]
theorem tlist_flat : ∀ (l : List Int) (r : List UInt8), allOk l = true → tlist l.length (flat l ++ r) = some (l, r)
  | [], r, _ => rfl
  | a :: l, r, h => by
    have h' : okN a = true ∧ allOk l = true := by simpa [allOk] using h
    obtain ⟨t1, t2, t3⟩ := tak_putS h'.1 (flat l ++ r)
    have e : flat (a :: l) ++ r = putS a ++ (flat l ++ r) := by simp [flat]
    rw [e, List.length_cons]
    simp only [tlist, t1, t2, tlist_flat l r h'.2, t3]
theorem takeL_put {l : List Int} {most : Int} (r : List UInt8) (h : allOk l = true) (hl : l.length ≤ 1000) (hm : (l.length : Int) ≤ most) : takeL (putLS l ++ r) most = (l, r, 0) := by
  have hk : okN (l.length : Int) = true := by simp [okN]; omega
  have e : putLS l ++ r = putS l.length ++ (flat l ++ r) := by unfold putLS; rw [if_pos h, List.append_assoc]
  obtain ⟨t1, t2, t3⟩ := tak_putS hk (flat l ++ r)
  rw [e]
  refine takeL_ok t1 (by omega) ?_
  rw [t2]
  exact tlist_flat l r h
theorem again_eq {s : List UInt8} {n z : Nat} (h : tak s = some (n, z)) : okN (n : Int) = true ∧ putS (n : Int) ++ s.drop z = s := by
  obtain ⟨h1, _⟩ := tak_some h
  have hk : okN (n : Int) = true := by simp [okN]; unfold mostN at h1; omega
  refine ⟨hk, ?_⟩
  have hp : putS (n : Int) = enc n := by unfold putS; rw [if_pos hk]; rfl
  rw [hp]
  exact (tak_split h).symm
theorem tlist_back : ∀ {n : Nat} {s : List UInt8} {l : List Int} {r : List UInt8}, tlist n s = some (l, r) → flat l ++ r = s ∧ allOk l = true
  | 0, s, l, r, h => by simp [tlist] at h; obtain ⟨rfl, rfl⟩ := h; exact ⟨rfl, rfl⟩
  | n + 1, s, l, r, h => by
    simp only [tlist] at h
    cases ht : tak s with
    | none => rw [ht] at h; cases h
    | some y =>
      obtain ⟨x, z⟩ := y
      rw [ht] at h
      simp only at h
      cases hl : tlist n (s.drop z) with
      | none => rw [hl] at h; cases h
      | some q =>
        obtain ⟨l0, r0⟩ := q
        rw [hl] at h
        simp only at h
        obtain ⟨h1, h2⟩ := tlist_back hl
        obtain ⟨h3, h4⟩ := again_eq ht
        injection h with h
        injection h with e1 e2
        subst e1; subst e2
        refine ⟨?_, ?_⟩
        · rw [flat_cons, List.append_assoc, h1, h4]
        · show (okN (x : Int) && allOk l0) = true
          rw [h3, h2]; rfl
theorem takeL_back {s : List UInt8} {most : Int} {l : List Int} {r : List UInt8} (h : takeL s most = (l, r, 0)) : putLS l ++ r = s := by
  cases ht : tak s with
  | none => rw [takeL_none ht] at h; cases h
  | some y =>
    obtain ⟨c, z⟩ := y
    by_cases h2 : most < (c : Int)
    · rw [takeL_long ht h2] at h; cases h
    · cases h3 : tlist c (s.drop z) with
      | none => rw [takeL_bad ht h2 h3] at h; cases h
      | some q =>
        obtain ⟨l0, r0⟩ := q
        rw [takeL_ok ht h2 h3] at h
        injection h with e1 e2
        injection e2 with e2 e3
        subst e1; subst e2
        obtain ⟨h4, h5⟩ := tlist_back h3
        obtain ⟨h6, h7⟩ := again_eq ht
        have h8 := (tlist_facts h3).1
        unfold putLS
        rw [if_pos h5, List.append_assoc, h4, h8, h7]

/-! ### Operations and programs -/
theorem opsK_flat {p : Int} {os : List Opn} (r : List UInt8) (h : ∀ o ∈ os, chkO o p = 0) : ∀ k, k ≤ os.length → opsK p (os.flatMap (fun o => encO o p) ++ r) k = some (os.take k, (os.drop k).flatMap (fun o => encO o p) ++ r)
  | 0, _ => by simp [opsK]
  | k + 1, hk => by
    have ih := opsK_flat r h k (by omega)
    have hk' : k < os.length := by omega
    have e : os.drop k = os[k] :: os.drop (k + 1) := List.drop_eq_getElem_cons hk'
    obtain ⟨d1, d2, d3⟩ := dec_enc (h os[k] (List.getElem_mem hk')) ((os.drop (k + 1)).flatMap (fun o => encO o p) ++ r)
    simp only [opsK, ih]
    rw [e, List.flatMap_cons, List.append_assoc, d1, d2, d3, if_pos rfl, List.take_add_one, List.getElem?_eq_getElem hk']
    rfl
theorem progK_enc {p : Int} {os : List Opn} (r : List UInt8) (h : ∀ o ∈ os, chkO o p = 0) (hl : os.length ≤ 32) : progK p (encP p os ++ r) = some (os, r) := by
  rw [← rprogK_eq]
  unfold rprogK encP
  obtain ⟨e1, e2⟩ := nx_put2 (v := os.length) (by omega) (by omega) (os.flatMap (fun o => encO o p) ++ r)
  rw [List.append_assoc, e1, e2, if_neg (by omega), Int.toNat_natCast, opsK_flat r h _ (Nat.le_refl _)]
  simp
theorem prsK_enc {p : Int} {ps : List (List Opn)} (r : List UInt8) (h : ∀ q ∈ ps, (∀ o ∈ q, chkO o p = 0) ∧ q.length ≤ 32) : ∀ k, k ≤ ps.length → prsK p (ps.flatMap (encP p) ++ r) k = some (ps.take k, (ps.drop k).flatMap (encP p) ++ r)
  | 0, _ => by simp [prsK]
  | k + 1, hk => by
    have ih := prsK_enc r h k (by omega)
    have hk' : k < ps.length := by omega
    have e : ps.drop k = ps[k] :: ps.drop (k + 1) := List.drop_eq_getElem_cons hk'
    obtain ⟨g1, g2⟩ := h ps[k] (List.getElem_mem hk')
    have d := progK_enc ((ps.drop (k + 1)).flatMap (encP p) ++ r) g1 g2
    simp only [prsK, ih]
    rw [e, List.flatMap_cons, List.append_assoc, d]
    simp only
    rw [List.take_add_one, List.getElem?_eq_getElem hk']
    rfl
theorem opsK_back {p : Int} {r : List UInt8} : ∀ {k : Nat} {os : List Opn} {t : List UInt8}, opsK p r k = some (os, t) → os.flatMap (fun o => encO o p) ++ t = r
  | 0, os, t, h => by simp [opsK] at h; obtain ⟨rfl, rfl⟩ := h; rfl
  | k + 1, os, t, h => by
    simp only [opsK] at h
    cases hk : opsK p r k with
    | none => rw [hk] at h; cases h
    | some x =>
      obtain ⟨l0, r0⟩ := x
      rw [hk] at h
      simp only at h
      have ih := opsK_back hk
      split at h
      · rename_i h0
        injection h with h
        injection h with e1 e2
        subst e1; subst e2
        rw [List.flatMap_append, List.append_assoc]
        have := (enc_dec h0).2
        rw [List.flatMap_cons, List.flatMap_nil, List.append_nil, this]
        exact ih
      · cases h
theorem progK_back {p : Int} {b : List UInt8} {os : List Opn} {t : List UInt8} (h : progK p b = some (os, t)) : encP p os ++ t = b := by
  rw [← rprogK_eq] at h
  unfold rprogK at h
  split at h
  · cases h
  · rename_i h0
    have h1 := opsK_back h
    have h2 := (opsK_facts h).1
    have h3 := num_back (l := b) (by omega)
    unfold encP
    rw [List.append_assoc, h1, h2, Int.toNat_of_nonneg (by omega), h3]
theorem prsK_back {p : Int} {r : List UInt8} : ∀ {k : Nat} {ps : List (List Opn)} {t : List UInt8}, prsK p r k = some (ps, t) → ps.flatMap (encP p) ++ t = r
  | 0, ps, t, h => by simp [prsK] at h; obtain ⟨rfl, rfl⟩ := h; rfl
  | k + 1, ps, t, h => by
    simp only [prsK] at h
    cases hk : prsK p r k with
    | none => rw [hk] at h; cases h
    | some x =>
      obtain ⟨l0, r0⟩ := x
      rw [hk] at h
      simp only at h
      have ih := prsK_back hk
      cases hp : progK p r0 with
      | none => rw [hp] at h; cases h
      | some y =>
        obtain ⟨o, t'⟩ := y
        rw [hp] at h
        simp only at h
        injection h with h
        injection h with e1 e2
        subst e1; subst e2
        rw [List.flatMap_append, List.append_assoc, List.flatMap_cons, List.flatMap_nil, List.append_nil, progK_back hp]
        exact ih

/-! ### Scripts -/
theorem map_back (l : List Int) : (l.map incI).map decI = l := by
  rw [List.map_map]
  conv => rhs; rw [← List.map_id l]
  congr 1
  funext n
  show n + 1 - 1 = n
  omega
theorem map_forth (l : List Int) : (l.map decI).map incI = l := by
  rw [List.map_map]
  conv => rhs; rw [← List.map_id l]
  congr 1
  funext n
  show n - 1 + 1 = n
  omega
theorem allOk_le {l : List Int} (h : ∀ k, k < l.length → 0 ≤ l.getD k 0 ∧ l.getD k 0 ≤ 2000) : allOk l = true := by
  unfold allOk
  rw [List.all_eq_true]
  intro x hx
  obtain ⟨k, hk, rfl⟩ := List.getElem_of_mem hx
  have := h k hk
  rw [List.getD_eq_getElem?_getD, List.getElem?_eq_getElem hk] at this
  simp only [Option.getD_some] at this
  unfold okN
  exact decide_eq_true (by omega)
theorem dec_encS {s : Scr} (h : chkS s = 0) : decX (encS s) = some s := by
  have G := good_of h
  obtain ⟨g1, g2⟩ := G.t
  obtain ⟨g3, g4⟩ := G.m
  obtain ⟨g5, g6⟩ := G.p
  have gl := G.l
  have gd := G.d
  have e : encS s = putS s.t ++ (putS s.m ++ (putS s.ps.length ++ (s.ps.flatMap (encP s.ps.length) ++ (putLS (s.pl.map incI) ++ putLS s.dr)))) := by
    unfold encS
    rw [if_pos h]
    unfold encB encH
    simp only [List.append_assoc]
  obtain ⟨a1, a2⟩ := nx_put2 (v := s.t) (by omega) (by omega) (putS s.m ++ (putS s.ps.length ++ (s.ps.flatMap (encP s.ps.length) ++ (putLS (s.pl.map incI) ++ putLS s.dr))))
  obtain ⟨a3, a4⟩ := nx_put2 (v := s.m) (by omega) (by omega) (putS s.ps.length ++ (s.ps.flatMap (encP s.ps.length) ++ (putLS (s.pl.map incI) ++ putLS s.dr)))
  obtain ⟨a5, a6⟩ := nx_put2 (v := s.ps.length) (by omega) (by omega) (s.ps.flatMap (encP s.ps.length) ++ (putLS (s.pl.map incI) ++ putLS s.dr))
  have hp : ∀ q ∈ s.ps, (∀ o ∈ q, chkO o s.ps.length = 0) ∧ q.length ≤ 32 := by
    intro q hq
    obtain ⟨k, hk, rfl⟩ := List.getElem_of_mem hq
    have e1 : s.ps.getD k [] = s.ps[k] := by rw [List.getD_eq_getElem?_getD, List.getElem?_eq_getElem hk]; rfl
    refine ⟨fun o ho => ?_, by have := G.o k hk; rw [e1] at this; exact this⟩
    obtain ⟨j, hj, rfl⟩ := List.getElem_of_mem ho
    have := G.c k hk j (by rw [e1]; exact hj)
    rw [e1, List.getD_eq_getElem?_getD, List.getElem?_eq_getElem hj] at this
    exact this
  have hpr := prsK_enc (putLS (s.pl.map incI) ++ putLS s.dr) hp s.ps.length (Nat.le_refl _)
  rw [List.take_length, List.drop_length] at hpr
  have hk1 : takeL (putLS (s.pl.map incI) ++ putLS s.dr) 200 = (s.pl.map incI, putLS s.dr, 0) := by
    refine takeL_put _ (allOk_le fun k hk => ?_) (by rw [List.length_map]; omega) (by rw [List.length_map]; omega)
    rw [List.length_map] at hk
    have := G.pl k hk
    have e1 : (s.pl.map incI).getD k 0 = incI (s.pl.getD k 0) := by
      simp [List.getD_eq_getElem?_getD, List.getElem?_map, List.getElem?_eq_getElem hk]
    rw [e1]
    unfold incI
    omega
  have hk2 : takeL (putLS s.dr) 64 = (s.dr, [], 0) := by
    have := takeL_put (l := s.dr) (most := 64) [] (allOk_le fun k hk => by have := G.dr k hk; omega) (by omega) (by omega)
    rw [List.append_nil] at this
    exact this
  have hs : endS s.t s.m s.ps (putLS (s.pl.map incI) ++ putLS s.dr) = s := by
    unfold endS
    rw [hk1]
    dsimp only
    rw [hk2, map_back]
  rw [← rdecX_eq]
  unfold rdecX
  rw [e, a2, a4, a5, a6, if_neg (by omega), Int.toNat_natCast, hpr]
  simp only [List.flatMap_nil, List.nil_append]
  rw [a1, a3]
  unfold endX endOk
  rw [hs, h, hk1]
  dsimp only
  rw [hk2]
  simp
theorem enc_decX {b : List UInt8} {x : Scr} (h : decX b = some x) : chkS x = 0 ∧ encS x = b := by
  rw [← rdecX_eq] at h
  unfold rdecX at h
  split at h
  · cases h
  rename_i hn
  cases hp : prsK (numV (numR (numR b))) (numR (numR (numR b))) (numV (numR (numR b))).toNat with
  | none => rw [hp] at h; cases h
  | some y =>
    obtain ⟨ps, r'⟩ := y
    rw [hp] at h
    simp only at h
    unfold endX at h
    split at h
    · rename_i ho
      have hx := Option.some.inj h
      clear h
      unfold endOk at ho
      simp only [Bool.and_eq_true, decide_eq_true_eq] at ho
      obtain ⟨o1, o2, o3, o4⟩ := ho
      obtain ⟨⟨l1, r1, e1⟩, h1⟩ : ∃ x, takeL r' 200 = x := ⟨_, rfl⟩
      rw [h1] at o1 o2 o3
      dsimp only at o1 o2 o3
      obtain ⟨⟨l2, r2, e2⟩, h2⟩ : ∃ x, takeL r1 64 = x := ⟨_, rfl⟩
      rw [h2] at o2 o3
      dsimp only at o2 o3
      subst o1; subst o2; subst o3
      have k1 := takeL_back h1
      have k2 := takeL_back h2
      have k3 := prsK_back hp
      have k4 := (prsK_facts hp).1
      have hxx : x = ⟨numV b, numV (numR b), ps, l1.map decI, l2⟩ := by
        rw [← hx]
        unfold endS
        rw [h1]
        dsimp only
        rw [h2]
      rw [hx] at o4
      have G := good_of o4
      refine ⟨o4, ?_⟩
      have gt := G.t
      have gm := G.m
      rw [hxx] at gt gm
      dsimp only at gt gm
      have n1 := num_back (l := b) (by omega)
      have n2 := num_back (l := numR b) (by omega)
      have n3 := num_back (l := numR (numR b)) (by omega)
      have hl : (ps.length : Int) = numV (numR (numR b)) := by rw [k4]; omega
      unfold encS
      rw [if_pos o4, hxx]
      unfold encB encH
      dsimp only
      rw [map_forth, hl]
      simp only [List.append_assoc]
      rw [List.append_nil] at k2
      rw [k2, k1, k3, n3, n2, n1]
    · cases h
/-- What is decoded is as long as what it was encoded of; short. -/
theorem encS_len {s : Scr} : (encS s).length ≤ 100000 := by
  unfold encS
  split
  · rename_i h
    have G := good_of h
    obtain ⟨g5, g6⟩ := G.p
    have gl := G.l
    have gd := G.d
    unfold encB encH
    simp only [List.length_append]
    have := putS_len s.t
    have := putS_len s.m
    have := putS_len (s.ps.length : Int)
    have := flatP_len s.ps.length s.ps (fun p hp => by
      obtain ⟨k, hk, rfl⟩ := List.getElem_of_mem hp
      have := G.o k hk
      rw [List.getD_eq_getElem?_getD, List.getElem?_eq_getElem hk] at this
      exact this)
    have h1 := putLS_lenS (s.pl.map incI) (by rw [List.length_map]; omega)
    have h2 := putLS_lenS s.dr (by omega)
    have : s.ps.length * 7000 ≤ 8 * 7000 := Nat.mul_le_mul_right _ g6
    omega
  · simp
end Go.Proofs.Ytpefjcmaggimhaa

