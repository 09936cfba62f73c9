
/-
  The contract of package clock's Join.
-/
import Derived.Test.YtgomeofifaejfaaClkJ
import Derived.Deep.RegionWith
namespace Go.Proofs.Ytgomeofifaejfaa
open Go.RowKit
set_option linter.unusedVariables false
set_option linter.unusedSimpArgs false
set_option maxRecDepth 100000

theorem CkAt.frame {w w' : World} {b : Nat} {k : Ck} (h : CkAt w b k) (hf : ∀ i, i < w.heap.size → (i = b ∨ (0 < k.xs.length ∧ i = k.arr)) → w'.heap[i]? = w.heap[i]?) : CkAt w' b k := by
  obtain ⟨ao, cap, hb, hc, ho, hx⟩ := h
  refine ⟨ao, cap, by rw [hf b (lt_of_heap hb) (.inl rfl)]; exact hb, hc, ho, fun hp => ?_⟩
  obtain ⟨h1, cur, h2, h3⟩ := hx hp
  exact ⟨h1, cur, by rw [hf k.arr (lt_of_heap h2) (.inr ⟨hp, rfl⟩)]; exact h2, h3⟩

/-- A clock's block is no block of numbers. -/
theorem CkAt.ne {w : World} {b b' : Nat} {k k' : Ck} (h : CkAt w b k) (h' : CkAt w b' k') (hp : 0 < k'.xs.length) : b ≠ k'.arr := by
  obtain ⟨ao, cap, hb, _⟩ := h
  obtain ⟨_, _, _, _, _, hx⟩ := h'
  obtain ⟨_, cur, hg, _⟩ := hx hp
  intro e
  rw [e] at hb
  rw [hb] at hg
  have := Option.some.inj hg
  injection this with e1 e2
  exact absurd e2 (by decide)

def OwnAny (b : Nat) (k : Ck) (n : Nat) (w : World) (r : Ending) (w' : World) : Prop :=
  r = .returned (.tuple #[]) ∧ ∃ k1 : Ck, CkAt w' b k1 ∧ k1.sh = false ∧ n ≤ k1.xs.length ∧ (∀ u, at0 k1.xs u = at0 k.xs u) ∧ Turned (fun i => i = b) w w' ∧ ((k1 = k ∧ w = w') ∨ w.heap.size ≤ k1.arr)

theorem own_any (b : Nat) (k : Ck) (n : Nat) (w : World) (h : CkAt w b k) (hn : n ≤ 256) :
    Calls Try.prog 30 #[.pointer (some ⟨b, 0, none⟩), .int .i64 n] w (OwnAny b k n w) := by
  by_cases hm : k.xs.length < n
  · refine (own_more b k n w h hn hm _ rfl).mono ?_
    rintro r w' ⟨rfl, g, hg, hk, hw⟩
    exact ⟨rfl, _, hk, rfl, by rw [length_pad _ _ (by omega)]; exact Nat.le_refl _, fun u => at0_pad _ _ _, Turned.of_grown hw, .inr hg⟩
  · cases hs : k.sh with
    | true =>
      refine (own_shared b k n w h (by omega) hs).mono ?_
      rintro r w' ⟨rfl, g, hg, hk, hw⟩
      exact ⟨rfl, _, hk, rfl, by rw [length_pad _ _ (by omega)]; omega, fun u => at0_pad _ _ _, Turned.of_grown hw, .inr hg⟩
    | false =>
      refine (own_none b k n w h (by omega) hs).mono ?_
      rintro r w' ⟨rfl, rfl⟩
      exact ⟨rfl, k, h, hs, by omega, fun _ => rfl, Turned.refl _ _, .inl ⟨rfl, rfl⟩⟩

/-- The numbers as far as n: the greater ones; from there on as they were. -/
def MaxTo (n : Nat) (xs ys zs : List Int) : Prop := ∀ u : Int, at0 zs u = if u < n then max (at0 xs u) (at0 ys u) else at0 xs u

theorem MaxTo.all {xs ys zs : List Int} (h : MaxTo ys.length xs ys zs) (hx : OkL xs) (u : Int) : at0 zs u = max (at0 xs u) (at0 ys u) := by
  rw [h u]
  split
  · rfl
  · have := at0_out (l := ys) (t := u) (by omega)
    have := at0_ok hx u
    omega
theorem MaxTo.next {n : Nat} {xs ys zs : List Int} (h : MaxTo n xs ys zs) (hn : n < zs.length) : MaxTo (n + 1) xs ys (zs.set n (max (at0 xs n) (at0 ys n))) := by
  intro u
  rw [at0_set _ _ _ _ hn, h u]
  by_cases hu : u = n
  · subst hu; rw [if_pos rfl, if_pos (by omega)]
  · rw [if_neg hu]
    by_cases h2 : u < n
    · rw [if_pos h2, if_pos (by omega)]
    · rw [if_neg h2, if_neg (by omega)]

def JoinPost (b : Nat) (k ko : Ck) (w : World) (r : Ending) (w' : World) : Prop :=
  (withinB ko.xs k.xs = true ∧ r = .returned (.bool false) ∧ w = w') ∨ (withinB ko.xs k.xs = false ∧ r = .returned (.bool true) ∧ ∃ k', Wrote w b k k' w' ∧ ∀ u, at0 k'.xs u = max (at0 k.xs u) (at0 ko.xs u))

theorem join_nil (p : Value) (w : World) :
    Calls Try.prog 14 #[.pointer none, p] w fun r w' => r = .returned (.bool false) ∧ w = w' := by
  go_enter Try.func14, Try.ntmps14
  go_wp2
  go_ret
  exact ⟨rfl, rfl⟩
theorem join_of_nil (b : Nat) (w : World) :
    Calls Try.prog 14 #[.pointer (some ⟨b, 0, none⟩), .pointer none] w fun r w' => r = .returned (.bool false) ∧ w = w' := by
  go_enter Try.func14, Try.ntmps14
  go_wp2_with (go_at_call 10; refine (within_nil _ _).mono ?_; rintro r w' ⟨rfl, rfl⟩)
  go_ret
  exact ⟨rfl, rfl⟩

theorem drewN_os (w : World) (m : Nat) : (w.drewN m).os = w.os := by cases m <;> rfl
theorem drewN_tape (w : World) (m : Nat) : (w.drewN m).tape = w.tape := by cases m <;> rfl
theorem drewN_output (w : World) (m : Nat) : (w.drewN m).output = w.output := by cases m <;> rfl

/-- What the loop of Join has come to. -/
structure JoinAt (w1 : World) (b : Nat) (k1 ko : Ck) (n : Nat) (ys : List Int) (wr : World) : Prop where
  ck : CkAt wr b ⟨k1.arr, ys, false⟩
  len : ys.length = k1.xs.length
  mx : MaxTo n k1.xs ko.xs ys
  turned : Turned (fun i => i = k1.arr) w1 wr

theorem JoinAt.next {w1 wr : World} {b : Nat} {k1 ko : Ck} {n : Nat} {ys : List Int} (h : JoinAt w1 b k1 ko n ys wr) (hn : n < ko.xs.length) (hl : ko.xs.length ≤ k1.xs.length) (hk : OkL k1.xs) (hko : OkL ko.xs) (v : Int) (hv : v = max (at0 k1.xs n) (at0 ko.xs n)) :
    JoinAt w1 b k1 ko (n + 1) (ys.set n v) (wr.setCell ⟨k1.arr, n, none⟩ (.int .i64 v)).drew := by
  subst hv
  have a := at0_ok hk n
  have c := at0_ok hko n
  have hlt : n < ys.length := by rw [h.len]; omega
  refine ⟨(stored_ck (k := ⟨k1.arr, ys, false⟩) h.ck n _ hlt (by omega) (by omega)).frame (fun _ _ _ => rfl), by rw [List.length_set]; exact h.len, h.mx.next hlt, ?_⟩
  refine Turned.trans (T := fun i => i = k1.arr) h.turned ⟨rfl, rfl, rfl, by simp [World.setCell, World.drew], fun i hi hne => ?_⟩ (fun _ _ e => e) (fun _ _ e => e)
  exact heap_setCell_other _ _ _ _ hne

set_option maxHeartbeats 1000000 in
theorem join_any (b bo : Nat) (k ko : Ck) (w : World) (h : CkAt w b k) (ho : CkAt w bo ko) (hap : k.sh = false → 0 < k.xs.length → 0 < ko.xs.length → k.arr ≠ ko.arr) (hne : b ≠ bo) :
    Calls Try.prog 14 #[.pointer (some ⟨b, 0, none⟩), .pointer (some ⟨bo, 0, none⟩)] w (JoinPost b k ko w) := by
  cases hw : withinB ko.xs k.xs with
  | true =>
    have W := Lib.hid hw
    go_enter Try.func14, Try.ntmps14
    go_wp2_with (go_at_call 10; refine (within_any bo b ko k _ ho h).mono ?_; rintro r w' ⟨rfl, rfl⟩; rw [hw])
    go_ret
    exact .inl ⟨W.out, rfl, rfl⟩
  | false =>
    have W := Lib.hid hw
    have H := Lib.hid h
    have HO := Lib.hid ho
    have HA := Lib.hid hap
    obtain ⟨aoo, capo, o0, o1, o2, o3, o4, o5, o6⟩ := ho.facts
    have O6 := Lib.hid o6
    clear o6
    go_enter Try.func14, Try.ntmps14
    go_wp2_with (first
      | (go_at_call 10; refine (within_any bo b ko k _ ho h).mono ?_; rintro r w' ⟨rfl, rfl⟩; rw [hw])
      | (go_at_call 30; refine (own_any b k ko.xs.length w h (by omega)).mono ?_; rintro r w1 ⟨rfl, k1, K1, hsh, hlen, heq, htu, hor⟩; have HO1 := ho.frame (w' := w1) (fun i hi e => htu.block i hi (fun e2 => by rcases e with rfl | ⟨hp, rfl⟩; exact hne e2.symm; exact h.ne ho hp e2.symm)); obtain ⟨aoo1, capo1, p0, p1, p2, p3, p4, p5, p6⟩ := HO1.facts; have P6 := Lib.hid p6; clear p6; have HO2 := Lib.hid HO1; clear HO1))
    have hlo : 0 < ko.xs.length := by
      rcases Nat.eq_zero_or_pos ko.xs.length with e | e
      · exact absurd W.out (by rw [show withinB ko.xs k.xs = true from decide_eq_true (fun j hj => by omega)]; decide)
      · exact e
    have hg1 : k1.arr ≠ ko.arr := by
      rcases hor with ⟨rfl, _⟩ | hge
      · exact HA.out hsh (by omega) hlo
      · obtain ⟨_, _, _, _, _, hx⟩ := ho
        obtain ⟨_, cur, hgg, _⟩ := hx hlo
        have := lt_of_heap hgg
        omega
    have hbg : b ≠ k1.arr := K1.ne K1 (by omega)
    have OK1 := K1.ok
    have OKO := ho.ok
    have HOR := Lib.hid hor
    have HTU := Lib.hid htu
    have HEQ := Lib.hid heq
    clear hor htu heq hap ho h hw o0 o1 o2 o3 o4 o5
    go_loopw [26] (fun i wr => ∃ (n : Nat) (ys : List Int), n ≤ ko.xs.length ∧ i = .int .i64 n ∧ JoinAt w1 b k1 ko n ys wr) (fun i _ => ko.xs.length - (intOf i).toNat)
    case atStart =>
      refine ⟨0, k1.xs, by omega, rfl, ⟨?_, rfl, fun u => ?_, Turned.refl _ _⟩⟩
      · have : k1 = ⟨k1.arr, k1.xs, false⟩ := by cases k1; simp_all
        rw [← this]; exact K1
      · split
        · unfold at0; rw [if_neg (by omega)]; rw [if_neg (by omega)]; rfl
        · rfl
    case round =>
      obtain ⟨n, ys, hn, rfl, hj⟩ := hrel
      have J := Lib.hid hj
      clear hj
      by_cases hlt : n < ko.xs.length
      · have hlt' : (n : Int) < (ko.xs.length : Int) := by omega
        obtain ⟨rfl, hoc, _⟩ := P6.out (by omega)
        have c0 : wr.cell? ⟨ko.arr, n, none⟩ = some (.int .i64 (ko.xs.getD n 0)) := by
          have := hoc n hlt
          rw [← this]
          have hb := J.out.turned.block ko.arr (block_lt_of_cell this) (fun e => hg1 e.symm)
          simp only [World.cell?, hb]
        obtain ⟨ao, cap, d0, d1, d2, d3, d4, d5, d6⟩ := J.out.ck.facts
        have hyl : ys.length = k1.xs.length := J.out.len
        obtain ⟨rfl, hyc, hyf⟩ := d6 (show 0 < ys.length by omega)
        have d7 := hyc n (show n < ys.length by omega)
        have d8 := hyf n
        have V := Lib.hid (show ys.getD n 0 = at0 k1.xs n by rw [← at0_nat, J.out.mx n, if_neg (by omega)])
        have X := Lib.hid (at0_nat ko.xs n)
        clear hoc hyc hyf d6
        simp only at d0 d1 d4 d5 d7 d8
        obtain ⟨u, hu⟩ : ∃ u, ys.getD n 0 = u := ⟨_, rfl⟩
        obtain ⟨v, hv⟩ : ∃ v, ko.xs.getD n 0 = v := ⟨_, rfl⟩
        rw [hu] at d7
        rw [hv] at c0
        have U := Lib.hid hu
        have VV := Lib.hid hv
        clear hu hv
        go_wp2_with fail
        have HJ := Lib.hid (fun x hx => J.out.next hlt hlen OK1 OKO x hx)
        have hmx : max (at0 k1.xs n) (at0 ko.xs n) = if u < v then v else u := by
          rw [← V.out, X.out, U.out, VV.out]; split <;> omega
        have HM := Lib.hid hmx.symm
        clear hmx
        go_region_with (fail)
        all_goals go_wp2
        all_goals
          refine ⟨⟨n + 1, _, by omega, by go_num, HJ.out _ HM.out⟩, ?_⟩
          simp [intOf] <;> omega
      · have hnk : n = ko.xs.length := by omega
        subst hnk
        go_wp2
        go_ret
        refine .inr ⟨W.out, rfl, _, ⟨J.out.ck, HTU.out.trans J.out.turned (fun i _ e => .inl e) (fun i hi e => ?_), ?_⟩, fun u => by rw [J.out.mx.all OK1 u, HEQ.out u]⟩
        · rcases HOR.out with ⟨rfl, _⟩ | hge
          · exact .inr ⟨hsh, by omega, e⟩
          · omega
        · rcases HOR.out with ⟨rfl, _⟩ | hge
          · exact .inl ⟨rfl, hsh.symm, J.out.len⟩
          · exact .inr ⟨hge, rfl⟩

end Go.Proofs.Ytgomeofifaejfaa

