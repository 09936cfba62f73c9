
/-
  The contracts of package staitheref03's Put and Take: the same plain functions as the program's own.
-/
import Derived.Test.YtpefjcmaggimhaaTake
namespace Go.Proofs.Ytpefjcmaggimhaa
open Go.RowKit
set_option linter.unusedVariables false
set_option linter.unusedSimpArgs false
set_option maxRecDepth 100000

theorem bcell {W w1 : World} (hb : Below W.heap.size W w1) : (∀ b o, b < W.heap.size → w1.cell? ⟨b, o, none⟩ = W.cell? ⟨b, o, none⟩) ∧ (∀ b o, b < W.heap.size → w1.frozen? ⟨b, o, none⟩ = W.frozen? ⟨b, o, none⟩) :=
  ⟨fun b o h => hb.cell (p := ⟨b, o, none⟩) h, fun b o h => hb.frozen (p := ⟨b, o, none⟩) h⟩
theorem below_next {A W w' : World} (h : Below A.heap.size A W) (hb : Below W.heap.size W w') : Below A.heap.size A w' := h.trans (hb.mono h.size)
theorem below_drewN {B : Nat} {a w : World} (h : Below B a w) (n : Nat) : Below B a (w.drewN n) := ⟨h.os, h.tape, h.output, h.size, h.block⟩

/-- A row of one byte, as a string. -/
theorem run_string_lit {P : Program} (W : World) (e src dst : TypeId) (hs : P.underlying src = some (.slice e)) (he : P.underlying e = some (.int .u8)) (hd : P.underlying dst = some .string) (c : UInt8) :
    (convert src dst (.slice (some ⟨W.heap.size, 0, none⟩) 1 1)).run P (W.alloc (.cells #[.int .u8 (c.toNat : Int)] e)) = .ok (bs [c]) (W.alloc (.cells #[.int .u8 (c.toNat : Int)] e)) := by
  have ho := World.ownsRow_lit (base := W.heap.size) (e := e) (size := 1) W #[.int .u8 (c.toNat : Int)] 1 (Nat.le_refl _) (by unfold maxLen; omega) rfl
  exact run_string_own src dst hs he hd (l := [c]) ho

theorem nby_step {n j m : Nat} (h : nby n = j + nby m) (hm : 0 < m) : (0 < m / 256 → nby n = j + 1 + nby (m / 256)) ∧ (m / 256 = 0 → nby n = j + 1) := by
  constructor
  · intro h2
    rw [nby_big (n := m) (by omega)] at h; omega
  · intro h2
    rw [nby_small (n := m) (by omega)] at h; omega

theorem be_low (j n : Nat) : be (j + 1) n = UInt8.ofNat (n / 256 ^ j % 256) :: be j n := rfl

theorem div_pow_succ (n j : Nat) : n / 256 ^ j / 256 = n / 256 ^ (j + 1) := by
  rw [Nat.div_div_eq_div_mul, Nat.pow_succ]

theorem ref_put_small (n : Nat) (w : World) (h2 : n < 240) :
    Calls Try.prog 55 #[.int .i64 n] w fun r w' => r = .returned (.tuple #[bs (enc n), .int .i64 0]) ∧ Below w.heap.size w w' := by
  obtain ⟨c, hc⟩ : ∃ c, UInt8.ofNat n = c := ⟨_, rfl⟩
  have E := Lib.hid (show enc n = [c] by rw [enc_small h2, hc])
  have hcn : c.toNat = n := by rw [← hc]; simp; omega
  clear hc
  have hs := run_string_lit (P := Try.prog) w 5 52 9 Try.underlying52 Try.underlying5 Try.underlying9 c
  rw [hcn] at hs
  clear hcn
  have hn2 : (n : Int) < 240 := by omega
  go_enter Try.func55, Try.ntmps55
  go_wp2
  go_ret2
  exact ⟨by rw [E.out]; rfl, (Below.refl _ _).alloc (Nat.le_refl _) _⟩

theorem ref_put_no (n : Int) (w : World) (h : okN n = false) :
    Calls Try.prog 55 #[.int .i64 n] w fun r w' => r = .returned (.tuple #[bs [], .int .i64 1]) ∧ Below w.heap.size w w' := by
  have hn := of_decide_eq_false h
  clear h
  go_enter Try.func55, Try.ntmps55
  go_wp2
  all_goals (go_ret2; exact ⟨rfl, Below.refl _ _⟩)

set_option maxHeartbeats 1000000 in
theorem ref_put_big (n : Nat) (w : World) (h : n ≤ mostN) (h2 : 240 ≤ n) :
    Calls Try.prog 55 #[.int .i64 n] w fun r w' => r = .returned (.tuple #[bs (enc n), .int .i64 0]) ∧ Below w.heap.size w w' := by
  have h6 := nby_most h
  have hm0 : (n : Int) ≤ 1099511627776 := by unfold mostN at h; omega
  have hm1 : 240 ≤ (n : Int) := by omega
  go_enter Try.func55, Try.ntmps55
  go_wp2_with fail
  go_loopw [4, 5, 6] (fun s k m wr => ∃ j : Nat, j ≤ 6 ∧ s = bs (be j n) ∧ k = .int .i64 j ∧ m = .int .i64 ((n / 256 ^ j : Nat) : Int) ∧ (0 < n / 256 ^ j → nby n = j + nby (n / 256 ^ j)) ∧ (n / 256 ^ j = 0 → nby n = j) ∧ Below w.heap.size w wr) (fun _ _ m _ => (intOf m).toNat)
  case atStart => exact ⟨0, by omega, rfl, rfl, by simp, by simp, by simp; intro h0; omega, Below.refl _ _⟩
  case round =>
    obtain ⟨j, hj, rfl, rfl, rfl, hr1, hr2, hb⟩ := hrel
    obtain ⟨m, hm⟩ : ∃ m, n / 256 ^ j = m := ⟨_, rfl⟩
    rw [hm] at hr1 hr2 ⊢
    by_cases hlt : 0 < m
    · have hmb : m ≤ 1099511627776 := by rw [← hm]; have := Nat.div_le_self n (256 ^ j); unfold mostN at h; omega
      have hn1 := hr1 hlt
      have hj5 : j ≤ 5 := by have := nby_pos m; omega
      obtain ⟨s1, s2⟩ := nby_step hn1 hlt
      obtain ⟨c, hc⟩ : ∃ c, UInt8.ofNat (m % 256) = c := ⟨_, rfl⟩
      have hcn : (c.toNat : Int) = (m : Int) % 256 := by rw [← hc]; simp
      have hs := run_string_lit (P := Try.prog) wr 5 52 9 Try.underlying52 Try.underlying5 Try.underlying9 c
      rw [hcn] at hs
      have hl : (be j n).length ≤ 6 := by rw [length_be]; omega
      have S := Lib.hid (show (n / 256 ^ (j + 1) = m / 256) ∧ be (j + 1) n = c :: be j n from ⟨by rw [← div_pow_succ, hm], by rw [be_low, hm, hc]⟩)
      have M := Lib.hid (And.intro s1 s2)
      clear hcn hc hm s1 s2 hn1 hr1 hr2
      go_wp2
      go_roundw
      case rel => exact ⟨j + 1, by omega, by rw [S.out.2], by go_num, by rw [S.out.1]; go_num, by rw [S.out.1]; exact M.out.1, by rw [S.out.1]; exact M.out.2, hb.alloc hb.size _⟩
      case measure => simp [intOf]; omega
    · have hk : nby n = j := hr2 (by omega)
      obtain ⟨c, hc⟩ : ∃ c, UInt8.ofNat (240 + j) = c := ⟨_, rfl⟩
      have hcn : (c.toNat : Int) = 240 + (j : Int) := by rw [← hc]; simp only [UInt8.toNat_ofNat']; omega
      have hs := run_string_lit (P := Try.prog) wr 5 52 9 Try.underlying52 Try.underlying5 Try.underlying9 c
      rw [hcn] at hs
      have hl : (be j n).length ≤ 6 := by rw [length_be]; omega
      have E := Lib.hid (show enc n = c :: be j n by rw [enc_big h2, hk, hc])
      clear hk hc hcn hr1 hr2 hm
      go_wp2
      go_ret2
      exact ⟨by rw [E.out]; rfl, hb.alloc hb.size _⟩

theorem ref_put_any (n : Int) (w : World) :
    Calls Try.prog 55 #[.int .i64 n] w fun r w' => r = .returned (.tuple #[bs (putS n), .int .i64 (putE n)]) ∧ Below w.heap.size w w' := by
  unfold putS putE
  cases h : okN n with
  | true =>
    obtain ⟨a, b⟩ := of_decide_eq_true h
    obtain ⟨m, rfl⟩ := Int.eq_ofNat_of_zero_le a
    by_cases h2 : m < 240
    · exact (ref_put_small m w h2).mono fun r w' hh => by simpa using hh
    · exact (ref_put_big m w (by unfold mostN; omega) (by omega)).mono fun r w' hh => by simpa using hh
  | false => exact (ref_put_no n w h).mono fun r w' hh => by simpa using hh


/-! The reference's Take -/
def takN (l : List UInt8) : Int := match tak l with | some (n, _) => (n : Int) | none => 0
def takZ (l : List UInt8) : Int := match tak l with | some (_, z) => (z : Int) | none => 0
/-- A number and its size, as a value. -/
def tkV (l : List UInt8) : Value := .agg #[.int .i64 (takN l), .int .i64 (takZ l)]
def RT (l : List UInt8) (w : World) (r : Ending) (w' : World) : Prop := r = .returned (.tuple #[tkV l, .int .i64 (takE l)]) ∧ Below w.heap.size w w'

theorem RT_none {l : List UInt8} (h : tak l = none) : tkV l = .agg #[.int .i64 0, .int .i64 0] ∧ takE l = 4 := by simp [tkV, takN, takZ, takE, h]
theorem RT_some {l : List UInt8} {n z : Nat} (h : tak l = some (n, z)) : tkV l = .agg #[.int .i64 n, .int .i64 z] ∧ takE l = 0 := by simp [tkV, takN, takZ, takE, h]

theorem ref_take_nil (w : World) : Calls Try.prog 68 #[bs []] w (RT [] w) := by
  have F := Lib.hid (RT_none (l := []) rfl)
  go_enter Try.func68, Try.ntmps68
  go_wp2
  refine bodyPost_ret (v := .tuple #[.agg #[.int .i64 0, .int .i64 0], .int .i64 4]) (by simp [results, Try.results68, go_sem]) rfl ⟨?_, (Below.refl _ _).alloc (Nat.le_refl _) _⟩
  rw [F.out.1, F.out.2]

theorem ref_take_small (l : List UInt8) (w : World) (hne : l ≠ []) (hc : btI l 0 < 240) (ht : tak l = some ((btI l 0).toNat, 1)) (hl : l.length ≤ 140737488351232) :
    Calls Try.prog 68 #[bs l] w (RT l w) := by
  obtain ⟨b0, b1⟩ := btI_bd l 0
  have F := Lib.hid (RT_some ht)
  have hem : (l == []) = false := by simpa using hne
  have hlp : 0 < l.length := List.length_pos_iff.2 hne
  have hcast := Lib.hid (show (((btI l 0).toNat : Nat) : Int) = btI l 0 by omega)
  clear ht
  go_enter Try.func68, Try.ntmps68
  go_wp2
  refine bodyPost_ret (v := .tuple #[.agg #[.int .i64 (btI l 0), .int .i64 1], .int .i64 0]) (by simp [results, Try.results68, go_sem]) rfl ⟨?_, (Below.refl _ _).alloc (Nat.le_refl _) _⟩
  rw [F.out.1, F.out.2, hcast.out]
  rfl

theorem ref_take_bad (l : List UInt8) (k : Nat) (w : World) (hne : l ≠ []) (hk : btI l 0 = (k : Int) + 240) (hl : l.length ≤ 140737488351232) (h : 6 < k ∨ l.length < 1 + k) (ht : tak l = none) :
    Calls Try.prog 68 #[bs l] w (RT l w) := by
  have F := Lib.hid (RT_none ht)
  have hk15 : k ≤ 15 := by have := (btI_bd l 0).2; omega
  have hem : (l == []) = false := by simpa using hne
  have hlp : 0 < l.length := List.length_pos_iff.2 hne
  clear ht
  go_enter Try.func68, Try.ntmps68
  go_wp2_with fail
  all_goals (
    refine bodyPost_ret (v := .tuple #[.agg #[.int .i64 0, .int .i64 0], .int .i64 4]) (by simp [results, Try.results68, go_sem]) rfl ⟨?_, (Below.refl _ _).alloc (Nat.le_refl _) _⟩
    rw [F.out.1, F.out.2])

set_option maxHeartbeats 1000000 in
theorem ref_take_long (l : List UInt8) (k : Nat) (w : World) (hne : l ≠ []) (hk : btI l 0 = (k : Int) + 240) (hl : l.length ≤ 140737488351232) (h6 : k ≤ 6) (hkl : k < l.length)
    (v : Nat) (V : Hid (val ((l.drop 1).take k) = v)) (F : Hid ((okN v = true ∧ putS v = l.take (1 + k) ∧ tak l = some (v, 1 + k)) ∨ (okN v = false ∧ tak l = none) ∨ (okN v = true ∧ putS v ≠ l.take (1 + k) ∧ tak l = none))) :
    Calls Try.prog 68 #[bs l] w (RT l w) := by
  have hem : (l == []) = false := by simpa using hne
  have hlp : 0 < l.length := List.length_pos_iff.2 hne
  have d1 : decide (l.length < 1 + k) = false := decide_eq_false (by omega)
  have d1' : decide (l.length < k + 1) = false := decide_eq_false (by omega)
  have d3 : decide (6 < (k : Int)) = false := decide_eq_false (by omega)
  go_enter Try.func68, Try.ntmps68
  go_wp2_with fail
  go_loop [6, 7] (fun n i => ∃ j : Nat, 1 ≤ j ∧ j ≤ k + 1 ∧ i = .int .i64 j ∧ n = .int .i64 (val ((l.drop 1).take (j - 1)) : Nat)) (fun _ i => k + 1 - (intOf i).toNat)
  case atStart => exact ⟨1, by omega, by omega, rfl, rfl⟩
  case round =>
    obtain ⟨j, hj1, hj2, rfl, rfl⟩ := hrel
    by_cases hlt : j ≤ k
    · obtain ⟨c0, c1⟩ := btI_bd l j
      have hv := val_lt6 (l.drop 1) (j - 1) (by omega)
      have hvs := val_step (l := l) (i := j) hj1 (by omega)
      obtain ⟨u, hV⟩ : ∃ u : Nat, val ((l.drop 1).take (j - 1)) = u := ⟨_, rfl⟩
      rw [hV] at hv hvs ⊢
      have hv' : (u : Int) < 1099511627776 := by omega
      have VS := Lib.hid (show (val ((l.drop 1).take j) : Int) = 256 * (u : Int) + btI l j by rw [hvs]; omega)
      clear hvs hV hv
      go_wp2
      go_round
      case rel => exact ⟨j + 1, by omega, by omega, by go_num, by rw [show j + 1 - 1 = j by omega, VS.out]⟩
      case measure => simp [intOf]; omega
    · have hj : j = k + 1 := by omega
      subst hj
      have e2 : k + 1 - 1 = k := by omega
      rw [e2, V.out]
      clear e2
      go_wp2_with fail
      refine (ref_put_any _ _).mono ?_
      rintro r w1 ⟨rfl, hb⟩
      have hcc := (bcell hb).1
      have hff := (bcell hb).2
      have hz : w.heap.size < w1.heap.size := by have := hb.size; simp at this; omega
      simp at hcc hff
      rcases F.out with ⟨f1, f2, f3⟩ | ⟨f1, f3⟩ | ⟨f1, f2, f3⟩
      · have G := Lib.hid (RT_some f3)
        have q1 : putE (v : Int) = 0 := by simp [putE, f1]
        rw [q1, f2]
        clear f1 f2 f3 q1
        go_wp2
        refine bodyPost_ret (v := .tuple #[.agg #[.int .i64 v, .int .i64 (1 + (k : Int))], .int .i64 0]) (by simp [results, Try.results68, go_sem, hcc, hff, hz]) rfl ⟨?_, ?_⟩
        · rw [G.out.1, G.out.2]; simp
        · repeat (refine Below.setCell ?_ (by simp) _)
          exact ((Below.refl _ _).alloc (Nat.le_refl _) _).trans (hb.mono (by simp))
      · have G := Lib.hid (RT_none f3)
        have q1 : putE (v : Int) = 1 := by simp [putE, f1]
        rw [q1]
        clear f1 f3 q1
        go_wp2
        refine bodyPost_ret (v := .tuple #[.agg #[.int .i64 0, .int .i64 0], .int .i64 4]) (by simp [results, Try.results68, go_sem, hcc, hff, hz]) rfl ⟨?_, ?_⟩
        · rw [G.out.1, G.out.2]
        · repeat (refine Below.setCell ?_ (by simp) _)
          exact ((Below.refl _ _).alloc (Nat.le_refl _) _).trans (hb.mono (by simp))
      · have G := Lib.hid (RT_none f3)
        have q1 : putE (v : Int) = 0 := by simp [putE, f1]
        have q2 : (putS (v : Int) == l.take (1 + k)) = false := by simpa using f2
        have q2' : (putS (v : Int) == l.take (k + 1)) = false := by rw [Nat.add_comm]; exact q2
        rw [q1]
        clear f1 f2 f3 q1
        go_wp2
        refine bodyPost_ret (v := .tuple #[.agg #[.int .i64 0, .int .i64 0], .int .i64 4]) (by simp [results, Try.results68, go_sem, hcc, hff, hz]) rfl ⟨?_, ?_⟩
        · rw [G.out.1, G.out.2]
        · repeat (refine Below.setCell ?_ (by simp) _)
          exact ((Below.refl _ _).alloc (Nat.le_refl _) _).trans (hb.mono (by simp))


theorem putS_ok {v : Nat} (h : okN v = true) : v ≤ mostN ∧ putS v = enc v := by
  obtain ⟨a, b⟩ := of_decide_eq_true h
  exact ⟨by unfold mostN; omega, by simp [putS, h]⟩

theorem ref_take_any (l : List UInt8) (w : World) (hl : l.length ≤ 140737488351232) :
    Calls Try.prog 68 #[bs l] w (RT l w) := by
  cases l with
  | nil => exact ref_take_nil w
  | cons c r =>
    by_cases hc : c.toNat < 240
    · have ht : tak (c :: r) = some (c.toNat, 1) := by simp only [tak, if_pos hc]
      refine ref_take_small (c :: r) w (by simp) (by rw [btI_cons]; omega) (by rw [ht, btI_cons]; simp) hl
    · obtain ⟨k, hk⟩ : ∃ k, c.toNat = k + 240 := ⟨c.toNat - 240, by omega⟩
      have hbt : btI (c :: r) 0 = (k : Int) + 240 := by rw [btI_cons, hk]; simp
      have hk2 : c.toNat - 240 = k := by omega
      by_cases hbad : 6 < k ∨ (c :: r).length < 1 + k
      · have ht : tak (c :: r) = none := by
          simp only [tak, if_neg hc, hk2]
          rw [if_neg]
          simp at hbad; omega
        exact ref_take_bad (c :: r) k w (by simp) hbt hl hbad ht
      · have h1 : k ≤ 6 ∧ k < (c :: r).length := by omega
        obtain ⟨h6, hkl⟩ := h1
        have hlr : k ≤ r.length := by simp at hkl; omega
        refine ref_take_long (c :: r) k w (by simp) hbt hl h6 hkl (val (r.take k)) (Lib.hid rfl) (Lib.hid ?_)
        generalize hv : val (r.take k) = v
        have key : ∀ n z, tak (c :: r) = some (n, z) → n = v ∧ z = 1 + k := by
          intro n z ht
          simp only [tak, if_neg hc, hk2] at ht
          split at ht
          · simp at ht; exact ⟨ht.1.symm.trans hv, ht.2.symm⟩
          · simp at ht
        cases ho : okN v with
        | false =>
          refine .inr (.inl ⟨rfl, ?_⟩)
          cases ht : tak (c :: r) with
          | none => rfl
          | some p =>
            obtain ⟨n, z⟩ := p
            obtain ⟨rfl, rfl⟩ := key n z ht
            have := (tak_some ht).1
            have hn := of_decide_eq_false ho
            unfold mostN at this
            exact absurd ⟨by omega, by omega⟩ hn
        | true =>
          obtain ⟨hm, hp⟩ := putS_ok ho
          by_cases he : putS v = (c :: r).take (1 + k)
          · refine .inl ⟨rfl, he, ?_⟩
            have hsplit : c :: r = enc v ++ (c :: r).drop (1 + k) := by rw [← hp, he, List.take_append_drop]
            have ht := tak_enc hm ((c :: r).drop (1 + k))
            rw [← hsplit] at ht
            have := (key _ _ ht).2
            rw [ht, this]
          · refine .inr (.inr ⟨rfl, he, ?_⟩)
            cases ht : tak (c :: r) with
            | none => rfl
            | some p =>
              obtain ⟨n, z⟩ := p
              obtain ⟨rfl, rfl⟩ := key n z ht
              exact absurd (hp.trans (tak_some ht).2.2.2.symm) he

end Go.Proofs.Ytpefjcmaggimhaa

