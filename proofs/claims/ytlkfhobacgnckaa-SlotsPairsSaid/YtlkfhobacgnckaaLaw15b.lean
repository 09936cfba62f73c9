
/-
  staithelaw15: given.
-/
import Derived.Test.YtlkfhobacgnckaaLaw15a
import Derived.Test.YtlkfhobacgnckaaSlP
import Derived.Test.YtlkfhobacgnckaaArgS
namespace Go.Proofs.Ytlkfhobacgnckaa
open Go.RowKit
set_option linter.unusedVariables false
set_option linter.unusedSimpArgs false
set_option maxRecDepth 100000

/-- Where the walk has come to. -/
structure GivAt (size : Nat) (l : List Bool) (send : Bool) (k j : Nat) (n a : Int) : Prop where
  le : j ≤ l.length
  n : n = ((walkP size l j).n : Nat)
  a : a = (((walkP size l j).sel send).length : Nat)
  k : ((walkP size l j).sel send).length ≤ k

theorem walk_same {size : Nat} {l : List Bool} {j : Nat} (is : Bool) (his : l.getD j false = is) (h : if is then ¬ (walkP size l j).n < max 1 size else ¬ 0 < (walkP size l j).n) : walkP size l (j + 1) = walkP size l j := by
  rw [walkP_succ, his]
  unfold Wk.step
  cases is
  · simp only [Bool.false_eq_true, if_false] at h ⊢; rw [if_neg h]
  · simp only [if_true] at h ⊢; rw [if_neg h]
theorem walk_send {size : Nat} {l : List Bool} {j : Nat} (his : l.getD j false = true) (h : (walkP size l j).n < max 1 size) : walkP size l (j + 1) = ⟨(walkP size l j).S ++ [j], (walkP size l j).R⟩ := by
  rw [walkP_succ, his]
  unfold Wk.step
  simp only [if_true]
  rw [if_pos h]
theorem walk_recv {size : Nat} {l : List Bool} {j : Nat} (his : l.getD j false = false) (h : 0 < (walkP size l j).n) : walkP size l (j + 1) = ⟨(walkP size l j).S, (walkP size l j).R ++ [j]⟩ := by
  rw [walkP_succ, his]
  unfold Wk.step
  simp only [Bool.false_eq_true, if_false]
  rw [if_pos h]

theorem GivAt.same {size : Nat} {l : List Bool} {send : Bool} {k j : Nat} {n a : Int} (h : GivAt size l send k j n a) (hlt : j < l.length) (e : walkP size l (j + 1) = walkP size l j) : GivAt size l send k (j + 1) n a :=
  ⟨by omega, by rw [e]; exact h.n, by rw [e]; exact h.a, by rw [e]; exact h.k⟩
theorem n_send (P : Wk) (j : Nat) (hr : P.R.length ≤ P.S.length) : ((Wk.n ⟨P.S ++ [j], P.R⟩ : Nat) : Int) = (P.n : Nat) + 1 := by
  unfold Wk.n; simp only [List.length_append, List.length_singleton]; omega
theorem n_recv (P : Wk) (j : Nat) (h : 0 < P.n) : ((Wk.n ⟨P.S, P.R ++ [j]⟩ : Nat) : Int) = (P.n : Nat) - 1 := by
  unfold Wk.n at h ⊢; simp only [List.length_append, List.length_singleton]; omega
/-- The step that is asked for. -/
theorem GivAt.here {size : Nat} {l : List Bool} {send : Bool} {k j : Nat} (hlt : j < l.length) (hs : (walkP size l (j + 1)).sel send = (walkP size l j).sel send ++ [j]) (ha : ((walkP size l j).sel send).length = k) : ((walkP size l l.length).sel send).getD k 0 = j := by
  have h1 : k < ((walkP size l (j + 1)).sel send).length := by rw [hs, List.length_append]; simp; omega
  have h2 := (walkP_at size l send (show j + 1 ≤ l.length by omega) h1).1
  rw [h2, hs]
  subst ha
  simp [List.getD]

/-- x holds the numbers of place j. -/
def Given (B : Nat) (F : Nat → Option Ck) (w : World) (r : Ending) (w' : World) : Prop := r = .returned (.bool true) ∧ Below w.heap.size w w'

set_option maxHeartbeats 1000000 in
/-- The last look: is it this clock? -/
theorem giv_end {w : World} {B : Nat} {F : Nat → Option Ck} (hf : Fam B w F) (x : Nat) (j : Nat) (hx : Has F x (one1 j)) : Calls Try.prog 20 #[.pointer (some ⟨x, 0, none⟩)] w (FamList (one1 j) w) := fam_list hf x _ hx
theorem trim_one1 (j : Nat) : trim (one1 j) = one1 j := by
  unfold trim one1
  simp only [List.length_singleton]
  rw [trimN_succ, if_neg (by simp; omega)]
  rfl

set_option maxHeartbeats 4000000 in
theorem given_yes {w : World} {B : Nat} {F : Nat → Option Ck} (hf : Fam B w F) (x : Nat) (v : Value) (l : List Bool) (send : Bool) (k size : Nat) (hl : BoolsOf w v l) (hlen : l.length ≤ 1000) (hsz : size ≤ 4)
    (hk : k < ((walkP size l l.length).sel send).length) (hx : Has F x (one1 (((walkP size l l.length).sel send).getD k 0))) :
    Calls Try.prog 12 #[.pointer (some ⟨x, 0, none⟩), v, .bool send, .int .i64 k, .int .i64 size] w (RetB (.bool true) w) := by
  have HF := Lib.hid hf
  have HX := Lib.hid hx
  have HK := Lib.hid hk
  have HL := Lib.hid hl
  obtain ⟨ao, cap, rfl, hc⟩ := hl
  have HC := Lib.hid hc
  have b1 : (l.length : Int) ≤ 1000 := by omega
  have b2 : (size : Int) ≤ 4 := by omega
  have b3 : (k : Int) ≤ 1000 := by
    have := (walkP_ok size l l.length)
    have h2 : ((walkP size l l.length).sel send).length ≤ l.length := by
      cases send
      · show (walkP size l l.length).R.length ≤ _; omega
      · show (walkP size l l.length).S.length ≤ _; omega
    omega
  clear hf hx hk hc hlen hsz
  go_enter Try.func12, Try.ntmps12
  go_wp2_with fail
  go_loopw [11, 12, 18] (fun n a i wr => ∃ (j : Nat) (nn aa : Int), i = .int .i64 j ∧ n = .int .i64 nn ∧ a = .int .i64 aa ∧ GivAt size l send k j nn aa ∧ wr = w) (fun _ _ i _ => l.length - (intOf i).toNat)
  case atStart => exact ⟨0, 0, 0, rfl, rfl, rfl, ⟨by omega, rfl, by cases send <;> rfl, by cases send <;> exact Nat.zero_le _⟩, rfl⟩
  case round =>
    obtain ⟨j, nn, aa, rfl, rfl, rfl, hg, rfl⟩ := hrel
    have G := Lib.hid hg
    have hjl := hg.le
    obtain ⟨P, hP⟩ : ∃ P, walkP size l j = P := ⟨_, rfl⟩
    have hok := walkP_ok size l j
    have hn := hg.n
    have ha := hg.a
    have hak := hg.k
    rw [hP] at hok hn ha hak
    have OK := Lib.hid hok
    obtain ⟨n, hnn⟩ : ∃ n, P.n = n := ⟨_, rfl⟩
    obtain ⟨a, haa⟩ : ∃ a, (P.sel send).length = a := ⟨_, rfl⟩
    rw [hnn] at hn hok
    rw [haa] at ha hak
    subst hn ha
    have PP := Lib.hid hP
    have NN := Lib.hid hnn
    have AA := Lib.hid haa
    have b4 : (n : Int) ≤ 1000 := by have := hok.2.1; omega
    have b5 : (a : Int) ≤ (k : Int) := by omega
    clear hg hP hnn haa hok hak
    by_cases hlt : j < l.length
    · have hlt' : (j : Int) < l.length := by omega
      obtain ⟨g, z, rfl, hcc⟩ := HC.out (by omega)
      have c0 := hcc j hlt
      clear hcc
      cases his : l.getD j false with
      | true =>
        rw [his] at c0
        have IS := Lib.hid his
        clear his
        by_cases hd : n < max 1 size
        · have hd' : ((n : Int) < size) ∨ ((size : Int) ≤ n ∧ (n : Int) < 1) := by omega
          have ST := Lib.hid (walk_send IS.out (by rw [PP.out, NN.out]; exact hd))
          clear hd
          have e1 : decide (n < size) = true ∨ (decide (n < size) = false ∧ decide ((n : Int) < 1) = true) := by
            by_cases h : n < size
            · exact .inl (decide_eq_true h)
            · exact .inr ⟨decide_eq_false h, decide_eq_true (by omega)⟩
          clear hd'
          cases send with
          | false =>
            have NX := Lib.hid (show GivAt size l false k (j + 1) ((n : Int) + 1) (a : Int) from ⟨by omega, by rw [ST.out, n_send _ _ (by rw [PP.out]; exact OK.out.1), PP.out, NN.out], by rw [ST.out, ← AA.out, ← PP.out]; rfl, by rw [ST.out]; have := G.out.k; exact this⟩)
            rcases e1 with e1 | ⟨e1, e2⟩
            all_goals
              go_wp2_with fail
              go_roundw
              case rel => exact ⟨j + 1, _, _, by go_num, rfl, rfl, NX.out, by trivial⟩
              case measure => simp [intOf] <;> omega
          | true =>
            by_cases hak : a = k
            · have E := Lib.hid (GivAt.here (send := true) (k := k) hlt (by rw [ST.out]; rfl) (by rw [PP.out, AA.out, hak]))
              have d3 : ((a : Int) == (k : Int)) = true := by rw [hak]; simp
              subst hak
              have XX := Lib.hid (show Has F x (one1 j) by have := HX.out; rw [E.out] at this; exact this)
              rcases e1 with e1 | ⟨e1, e2⟩
              all_goals
                go_wp2_with fail
                refine (fam_list HF.out x _ XX.out).mono ?_
                rintro r w2 ⟨v2, rfl, hv2, hB2⟩
                rw [trim_one1] at hv2
                have V2 := Lib.hid hv2
                have B2 := Lib.hid hB2
                clear hv2 hB2
                go_wp2_with fail
                have BA := (Below.refl w2.heap.size w2).alloc (Nat.le_refl _) (.cells #[.int .i64 ((j : Int) + 1)] 3)
                refine (ints_any _ _ (one1 j) [(j : Int) + 1] _ (V2.out.below (Nat.le_refl _) BA) (src_lit w2 [(j : Int) + 1] (by simp)) (by simp [one1]) (by simp)).mono ?_
                rintro r w8 ⟨rfl, m8, hw8⟩
                have B8 : Below w2.heap.size w2 w8 := by rw [hw8]; exact below_drewN BA _
                have BF := Lib.hid (below_trans B2.out B8 B2.out.size)
                clear BA hw8 B8
                rw [show decide (one1 j = [(j : Int) + 1]) = true from decide_eq_true rfl]
                go_wp2_with fail
                go_ret
                exact ⟨rfl, BF.out⟩
            · have NX := Lib.hid (show GivAt size l true k (j + 1) ((n : Int) + 1) ((a : Int) + 1) from ⟨by omega, by rw [ST.out, n_send _ _ (by rw [PP.out]; exact OK.out.1), PP.out, NN.out], by rw [ST.out, ← AA.out, ← PP.out]; simp [Wk.sel], by rw [ST.out]; have h1 := G.out.k; rw [PP.out, AA.out] at h1; have h2 := AA.out; rw [PP.out]; simp only [Wk.sel, if_true] at h2 ⊢; rw [List.length_append, h2]; simp; omega⟩)
              have d3 : ((a : Int) == (k : Int)) = false := by simp; omega
              clear hak
              rcases e1 with e1 | ⟨e1, e2⟩
              all_goals
                go_wp2_with fail
                go_roundw
                case rel => exact ⟨j + 1, _, _, by go_num, rfl, rfl, NX.out, by trivial⟩
                case measure => simp [intOf] <;> omega
        · have d1 : decide (n < size) = false := decide_eq_false (by omega)
          have d2 : decide ((n : Int) < 1) = false := decide_eq_false (by omega)
          have ST := Lib.hid (walk_same true IS.out (by rw [PP.out, NN.out]; exact hd))
          clear hd
          go_wp2_with fail
          go_roundw
          case rel => exact ⟨j + 1, _, _, by go_num, rfl, rfl, G.out.same hlt ST.out, by trivial⟩
          case measure => simp [intOf] <;> omega
      | false =>
        rw [his] at c0
        have IS := Lib.hid his
        clear his
        by_cases hd : 0 < n
        · have d1 : decide (0 < n) = true := decide_eq_true (by omega)
          have ST := Lib.hid (walk_recv IS.out (by rw [PP.out, NN.out]; exact hd))
          have b6 : (1 : Int) ≤ n := by omega
          clear hd
          cases send with
          | true =>
            have NX := Lib.hid (show GivAt size l true k (j + 1) ((n : Int) - 1) (a : Int) from ⟨by omega, by rw [ST.out, n_recv _ _ (by rw [PP.out, NN.out]; omega), PP.out, NN.out], by rw [ST.out, ← AA.out, ← PP.out]; rfl, by rw [ST.out]; have := G.out.k; exact this⟩)
            go_wp2_with fail
            go_roundw
            case rel => exact ⟨j + 1, _, _, by go_num, rfl, rfl, NX.out, by trivial⟩
            case measure => simp [intOf] <;> omega
          | false =>
            by_cases hak : a = k
            · have E := Lib.hid (GivAt.here (send := false) (k := k) hlt (by rw [ST.out]; rfl) (by rw [PP.out, AA.out, hak]))
              have d3 : ((a : Int) == (k : Int)) = true := by rw [hak]; simp
              subst hak
              have XX := Lib.hid (show Has F x (one1 j) by have := HX.out; rw [E.out] at this; exact this)
              go_wp2_with fail
              refine (fam_list HF.out x _ XX.out).mono ?_
              rintro r w2 ⟨v2, rfl, hv2, hB2⟩
              rw [trim_one1] at hv2
              have V2 := Lib.hid hv2
              have B2 := Lib.hid hB2
              clear hv2 hB2
              go_wp2_with fail
              have BA := (Below.refl w2.heap.size w2).alloc (Nat.le_refl _) (.cells #[.int .i64 ((j : Int) + 1)] 3)
              refine (ints_any _ _ (one1 j) [(j : Int) + 1] _ (V2.out.below (Nat.le_refl _) BA) (src_lit w2 [(j : Int) + 1] (by simp)) (by simp [one1]) (by simp)).mono ?_
              rintro r w8 ⟨rfl, m8, hw8⟩
              have B8 : Below w2.heap.size w2 w8 := by rw [hw8]; exact below_drewN BA _
              have BF := Lib.hid (below_trans B2.out B8 B2.out.size)
              clear BA hw8 B8
              rw [show decide (one1 j = [(j : Int) + 1]) = true from decide_eq_true rfl]
              go_wp2_with fail
              go_ret
              exact ⟨rfl, BF.out⟩
            · have NX := Lib.hid (show GivAt size l false k (j + 1) ((n : Int) - 1) ((a : Int) + 1) from ⟨by omega, by rw [ST.out, n_recv _ _ (by rw [PP.out, NN.out]; omega), PP.out, NN.out], by rw [ST.out, ← AA.out, ← PP.out]; simp [Wk.sel], by rw [ST.out]; have h1 := G.out.k; rw [PP.out, AA.out] at h1; have h2 := AA.out; rw [PP.out]; simp only [Wk.sel, Bool.false_eq_true, if_false] at h2 ⊢; rw [List.length_append, h2]; simp; omega⟩)
              have d3 : ((a : Int) == (k : Int)) = false := by simp; omega
              clear hak
              go_wp2_with fail
              go_roundw
              case rel => exact ⟨j + 1, _, _, by go_num, rfl, rfl, NX.out, by trivial⟩
              case measure => simp [intOf] <;> omega
        · have d1 : decide (0 < n) = false := decide_eq_false (by omega)
          have ST := Lib.hid (walk_same false IS.out (by rw [PP.out, NN.out]; exact hd))
          clear hd
          go_wp2_with fail
          go_roundw
          case rel => exact ⟨j + 1, _, _, by go_num, rfl, rfl, G.out.same hlt ST.out, by trivial⟩
          case measure => simp [intOf] <;> omega
    · have e : j = l.length := by omega
      exfalso
      have := G.out.k
      rw [e] at this
      have := HK.out
      omega

end Go.Proofs.Ytlkfhobacgnckaa

