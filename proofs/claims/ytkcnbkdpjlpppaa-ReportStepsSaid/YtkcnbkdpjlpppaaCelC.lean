
/-
  Package cell: slices.IndexFunc, DeleteFunc, ContainsFunc of epochs, with each of the function values that are handed in (printed by gencelc.py).
-/
import Derived.Test.YtkcnbkdpjlpppaaCelB
import Derived.Lib.SliceRun
import Derived.Deep.WholeRow
namespace Go.Proofs.Ytkcnbkdpjlpppaa
open Go.RowKit
set_option linter.unusedVariables false
set_option linter.unusedSimpArgs false
set_option maxRecDepth 100000

theorem info_ep2 : (Try.prog.info? 25).map (fun i => (i.zero, i.size)) = some (some (.int .u64 0), 1) := by kernel_rfl
/-- What IndexFunc answers: the calls keep I, from element to element. -/
def IdxPost (l : List Int) (n : Nat) (p : Int → Bool) (I : Nat → World → Prop) (e : Ending) (w' : World) : Prop :=
  ∃ i : Int, e = .returned (.int .i64 i) ∧ ((i = -1 ∧ (∀ j, j < n → p (l.getD j 0) = false) ∧ I n w') ∨ ∃ k : Nat, k < n ∧ i = k ∧ p (l.getD k 0) = true ∧ (∀ j, j < k → p (l.getD j 0) = false) ∧ I (k + 1) w')
def AnyPost (l : List Int) (n : Nat) (p : Int → Bool) (I : Nat → World → Prop) (e : Ending) (w' : World) : Prop := e = .returned (.bool (l.any p)) ∧ ∃ k, k ≤ n ∧ I k w'
/-- What DeleteFunc answers. -/
def DelPost (B : Nat) (v : Value) (l : List Int) (p : Int → Bool) (I : Nat → World → Prop) (e : Ending) (w' : World) : Prop :=
  ∃ v', e = .returned v' ∧ w'.ownsRow B 25 1 v' (l.filter (fun x => !p x)).length (eps (l.filter (fun x => !p x))) ∧ v'.ownBlock = v.ownBlock ∧ I l.length w'

theorem any_no {l : List Int} {p : Int → Bool} (h : ∀ j, j < l.length → p (l.getD j 0) = false) : l.any p = false := by
  rw [List.any_eq_false]
  intro x hx
  obtain ⟨j, hj, rfl⟩ := List.getElem_of_mem hx
  have := h j hj
  rw [List.getD_eq_getElem?_getD, List.getElem?_eq_getElem hj] at this
  simpa using this
theorem any_yes {l : List Int} {p : Int → Bool} {k : Nat} (hk : k < l.length) (h : p (l.getD k 0) = true) : l.any p = true := by
  rw [List.any_eq_true]
  refine ⟨l.getD k 0, ?_, h⟩
  rw [List.getD_eq_getElem?_getD, List.getElem?_eq_getElem hk]; exact List.getElem_mem _
def filt (l : List Int) (p : Int → Bool) (j : Nat) : List Int := (l.take j).filter (fun x => !p x)
theorem filt_snoc {l : List Int} {p : Int → Bool} {j : Nat} (hj : j < l.length) : filt l p (j + 1) = filt l p j ++ (if p (l.getD j 0) then [] else [l.getD j 0]) := by
  unfold filt
  rw [List.take_add_one, List.filter_append, List.getD_eq_getElem?_getD, List.getElem?_eq_getElem hj]
  congr 1
  simp only [Option.toList_some, Option.getD_some, List.filter_cons, List.filter_nil]
  cases p l[j] <;> simp
theorem filt_len (l : List Int) (p : Int → Bool) (j : Nat) : (filt l p j).length ≤ j := by
  unfold filt
  exact Nat.le_trans (List.length_filter_le _ _) (List.length_take_le _ _)
theorem filt_all {l : List Int} {p : Int → Bool} {j : Nat} (h : ∀ i, i < j → p (l.getD i 0) = false) (hj : j ≤ l.length) : filt l p j = l.take j := by
  unfold filt
  rw [List.filter_eq_self]
  intro x hx
  obtain ⟨i, hi, rfl⟩ := List.getElem_of_mem hx
  rw [List.length_take] at hi
  have := h i (by omega)
  rw [List.getD_eq_getElem?_getD, List.getElem?_eq_getElem (by omega)] at this
  simpa using this
theorem filt_full (l : List Int) (p : Int → Bool) {n : Nat} (h : l.length = n) : filt l p n = l.filter (fun x => !p x) := by
  unfold filt
  rw [List.take_of_length_le (by omega)]
theorem getEl_of_take {cur : Array Value} {l : List Int} {n : Nat} (h : cur.toList.take n = eps l) (hl : l.length = n) {t : Nat} (ht : t < n) : cur[t]? = some (.int .u64 (l.getD t 0)) := by
  have h1 : (cur.toList.take n)[t]? = some (.int .u64 (l.getD t 0)) := by rw [h]; exact eps_get l t (by omega)
  rw [List.getElem?_take, if_pos ht] at h1
  simpa using h1
theorem take_set_self {cur : Array Value} {i : Nat} {u : Value} (hi : i < cur.size) : (cur.setIfInBounds i u).toList.take (i + 1) = cur.toList.take i ++ [u] := by
  apply List.ext_getElem?
  intro j
  simp only [List.getElem?_take, Array.toList_setIfInBounds, List.getElem?_set, List.getElem?_append, List.length_take, Array.length_toList, Nat.min_eq_left (Nat.le_of_lt hi)]
  by_cases h1 : j < i
  · rw [if_pos (by omega), if_neg (by omega), if_pos h1, if_pos h1]
  · by_cases h2 : j = i
    · subst h2
      simp [hi]
    · rw [if_neg (by omega), if_neg h1]
      rw [List.getElem?_eq_none (by simp; omega)]

/-! ### With (*staithe/cell.Cell).Read$1 -/
theorem index_read (l : List Int) (p : Int → Bool) (I : Nat → World → Prop) (q1 q2 : Nat) (ao : Option Addr) (n cap : Nat) (w : World) (hl : l.length = n) (hN : n ≤ 1000)
    (hcell : ∀ j w', I j w' → 0 < n → ∃ g, ao = some ⟨g, 0, none⟩ ∧ ∀ i, i < n → w'.cell? ⟨g, i, none⟩ = some (.int .u64 (l.getD i 0)))
    (hcall : ∀ j w', j < n → I j w' → Calls Try.prog 37 #[.int .u64 (l.getD j 0), .pointer (some ⟨q1, 0, none⟩), .pointer (some ⟨q2, 0, none⟩)] w' fun e w2 => e = .returned (.bool (p (l.getD j 0))) ∧ I (j + 1) w2) (h0 : I 0 w) :
    Calls Try.prog 52 #[.slice ao n cap, .func (.func 37) #[] #[.pointer (some ⟨q1, 0, none⟩), .pointer (some ⟨q2, 0, none⟩)]] w (IdxPost l n p I) := by
  have HC := Lib.hid hcell
  have HA := Lib.hid hcall
  have H0 := Lib.hid h0
  clear hcell hcall h0 hl
  go_enter Try.func52, Try.ntmps52
  go_wp2_with fail
  go_loopw [8] (fun i wr => ∃ k : Nat, k ≤ n ∧ i = .int .i64 k ∧ (∀ j, j < k → p (l.getD j 0) = false) ∧ I k wr) (fun i _ => n - (intOf i).toNat)
  case atStart => exact ⟨0, by omega, rfl, fun j hj => by omega, H0.out⟩
  case round =>
    obtain ⟨k, hk, rfl, hp, hi⟩ := hrel
    have K := Lib.hid hp
    have HI := Lib.hid hi
    clear hp hi
    by_cases hlt : k < n
    · have hlt' : (k : Int) < (n : Int) := by omega
      obtain ⟨g, rfl, hcc⟩ := HC.out k _ HI.out (by omega)
      have c0 := hcc k hlt
      have CA := Lib.hid (HA.out k _ hlt HI.out)
      obtain ⟨x, hx⟩ : ∃ x, l.getD k 0 = x := ⟨_, rfl⟩
      rw [hx] at c0 CA
      have HX := Lib.hid hx
      clear hx hcc
      go_wp2_with fail
      refine CA.out.mono ?_
      rintro e w1 ⟨rfl, hi1⟩
      have I1 := Lib.hid hi1
      clear hi1
      cases hh : p x with
      | true =>
        have T := Lib.hid (show p (l.getD k 0) = true by rw [HX.out]; exact hh)
        clear hh
        go_wp2_with fail
        go_ret
        exact ⟨_, rfl, .inr ⟨k, hlt, rfl, T.out, K.out, I1.out⟩⟩
      | false =>
        have T := Lib.hid (show ∀ j, j < k + 1 → p (l.getD j 0) = false from fun j hj => by
          by_cases hjk : j = k
          · subst hjk; rw [HX.out]; exact hh
          · exact K.out j (by omega))
        clear hh
        go_wp2_with fail
        go_roundw
        case rel => exact ⟨k + 1, by omega, by go_num, T.out, I1.out⟩
        case measure => simp [intOf] <;> omega
    · obtain rfl : k = n := by omega
      go_wp2_with fail
      go_ret
      exact ⟨_, rfl, .inl ⟨rfl, K.out, HI.out⟩⟩

set_option maxHeartbeats 1000000 in
theorem delete_read (B : Nat) (l : List Int) (p : Int → Bool) (I : Nat → World → Prop) (q1 q2 : Nat) (v : Value) (n : Nat) (w : World) (hl : l.length = n) (hN : n ≤ 1000)
    (hown : w.ownsRow B 25 1 v n (eps l))
    (hcall : ∀ j w', j < n → I j w' → Calls Try.prog 37 #[.int .u64 (l.getD j 0), .pointer (some ⟨q1, 0, none⟩), .pointer (some ⟨q2, 0, none⟩)] w' fun e w2 => e = .returned (.bool (p (l.getD j 0))) ∧ I (j + 1) w2 ∧ ∀ g, v.ownBlock = some g → w2.heap[g]? = w'.heap[g]?)
    (hkeep : ∀ j w' w2 g, v.ownBlock = some g → I j w' → Turned (fun i => i = g) w' w2 → I j w2) (h0 : I 0 w) :
    Calls Try.prog 36 #[v, .func (.func 37) #[] #[.pointer (some ⟨q1, 0, none⟩), .pointer (some ⟨q2, 0, none⟩)]] w (DelPost B v l p I) := by
  rcases hown.2 with ⟨rfl, hz⟩ | ⟨g, cap, cur, rfl, hBg, hg, hnc, hcm, hcs, htake⟩
  · obtain rfl : n = 0 := hz
    obtain rfl := List.eq_nil_of_length_eq_zero hl
    have HI := Lib.hid (index_read [] p I q1 q2 none 0 0 w rfl (by omega) (fun j w' _ h => by omega) (fun j w' h _ => by omega) h0)
    clear hcall hkeep h0
    have T := Lib.hid (show ∀ w', I 0 w' → DelPost B (.slice none 0 0) [] p I (.returned (.slice none 0 0)) w' from fun w' h => ⟨_, rfl, ⟨rfl, .inl ⟨rfl, rfl⟩⟩, rfl, h⟩)
    go_enter Try.func36, Try.ntmps36
    go_wp2_with fail
    refine HI.out.mono ?_
    rintro e w1 ⟨i, rfl, ⟨rfl, _, hi⟩ | ⟨k, hk, _⟩⟩
    · have I1 := Lib.hid hi
      clear hi
      go_wp2_with fail
      go_ret
      exact T.out _ I1.out
    · omega
  · have hcm2 := hcm
    unfold maxLen at hcm2
    rw [Nat.mul_one] at htake
    have hcur : ∀ t, t < n → cur[t]? = some (.int .u64 (l.getD t 0)) := fun t ht => getEl_of_take htake hl ht
    have HI := Lib.hid (index_read l p (fun j w' => I j w' ∧ w'.heap[g]? = some (.cells cur 25 (0, 0))) q1 q2 (some ⟨g, 0, none⟩) n cap w hl hN
      (fun j w' h _ => ⟨g, rfl, fun i hi => by simp only [World.cell?, h.2]; exact hcur i hi⟩)
      (fun j w' hj h => (hcall j w' hj h.1).mono (fun e w2 h2 => ⟨h2.1, h2.2.1, (h2.2.2 g rfl).trans h.2⟩)) ⟨h0, hg⟩)
    have HA := Lib.hid hcall
    have HK := Lib.hid hkeep
    have HL := Lib.hid hl
    have HT := Lib.hid htake
    have HCU := Lib.hid hcur
    have HCS := Lib.hid hcs
    clear hcall hkeep h0 hown hg htake hl hcur hcs
    go_enter Try.func36, Try.ntmps36
    go_wp2_with fail
    refine HI.out.mono ?_
    rintro e w1 ⟨i, rfl, ⟨rfl, hall, hi, hg1⟩ | ⟨k0, hk0, rfl, hpk, hall, hi, hg1⟩⟩
    · have T := Lib.hid (show DelPost B (.slice (some ⟨g, 0, none⟩) n cap) l p I (.returned (.slice (some ⟨g, 0, none⟩) n cap)) w1 from by
        have e : l.filter (fun x => !p x) = l := by
          have := filt_all (l := l) (p := p) (j := n) hall (by have := HL.out; omega)
          rw [filt_full l p HL.out, List.take_of_length_le (by have := HL.out; omega)] at this
          exact this
        refine ⟨_, rfl, ?_, rfl, by rw [HL.out]; exact hi⟩
        rw [e, HL.out]
        exact ⟨by rw [eps_len, HL.out]; omega, .inr ⟨g, cap, cur, rfl, hBg, hg1, hnc, hcm, HCS.out, by rw [Nat.mul_one]; exact HT.out⟩⟩)
      clear hall hi hg1
      go_wp2_with fail
      go_ret
      exact T.out
    · have I1 := Lib.hid hi
      have G1 := Lib.hid hg1
      have S1 := Lib.hid (show cur.toList.take k0 = eps (filt l p (k0 + 1)) ∧ k0 = (filt l p (k0 + 1)).length from by
        have h1 := filt_all (l := l) (p := p) (j := k0) hall (by have := HL.out; omega)
        have h2 : filt l p (k0 + 1) = l.take k0 := by
          rw [filt_snoc (by have := HL.out; omega), hpk, if_pos rfl, List.append_nil, h1]
        rw [h2]
        refine ⟨?_, by rw [List.length_take, HL.out]; omega⟩
        have h3 := congrArg (List.take k0) HT.out
        rw [List.take_take, Nat.min_eq_left (by omega)] at h3
        rw [h3, eps_take])
      have hne1 : ((k0 : Int) == -1) = false := beq_eq_false_iff_ne.2 (by omega)
      have hk0' : (k0 : Int) < (n : Int) := by omega
      clear hpk hall hi hg1 HI
      go_wp2_with fail
      go_loopw [5, 6, 7] (fun a b _ wr => ∃ (i j : Nat) (cu : Array Value), a = .int .i64 i ∧ b = .int .i64 j ∧ i < j ∧ j ≤ n ∧ wr.heap[g]? = some (.cells cu 25 (0, 0)) ∧ cu.size = cap ∧ cu.toList.take i = eps (filt l p j) ∧ i = (filt l p j).length ∧ (∀ t, j ≤ t → t < n → cu[t]? = some (.int .u64 (l.getD t 0))) ∧ I j wr) (fun _ b _ _ => n - (intOf b).toNat)
      case atStart => exact ⟨k0, k0 + 1, cur, rfl, by go_num, by omega, by omega, G1.out, by have := HCS.out; omega, S1.out.1, S1.out.2, fun t _ ht => HCU.out t ht, I1.out⟩
      case round =>
        obtain ⟨i, j, cu, rfl, rfl, hij, hjn, hgr, hcu, htk, hlen, hhi, hir⟩ := hrel
        have GR := Lib.hid hgr
        have CU := Lib.hid hcu
        have TK := Lib.hid htk
        have LE := Lib.hid hlen
        have HH := Lib.hid hhi
        have IR := Lib.hid hir
        clear hgr hcu htk hlen hhi hir
        have hin : i < n := by omega
        have hin' : (i : Int) < (n : Int) := by omega
        by_cases hlt : j < n
        · have hlt' : (j : Int) < (n : Int) := by omega
          have c0 : wr.cell? ⟨g, j, none⟩ = some (.int .u64 (l.getD j 0)) := by simp only [World.cell?, GR.out]; exact HH.out j (Nat.le_refl _) hlt
          have CA := Lib.hid (HA.out j _ hlt IR.out)
          have SN := Lib.hid (filt_snoc (l := l) (p := p) (j := j) (by have := HL.out; omega))
          obtain ⟨x, hx⟩ : ∃ x, l.getD j 0 = x := ⟨_, rfl⟩
          rw [hx] at c0 CA SN
          clear hx
          go_wp2_with fail
          refine CA.out.mono ?_
          rintro e w2 ⟨rfl, hi2, hg2⟩
          have I2 := Lib.hid hi2
          have hg3 := (hg2 g rfl).trans GR.out
          have G2 := Lib.hid hg3
          obtain ⟨old, hold⟩ : ∃ old, cu[i]? = some old := ⟨_, Array.getElem?_eq_getElem (show i < cu.size by have := CU.out; omega)⟩
          have ci : w2.cell? ⟨g, i, none⟩ = some old := by simp only [World.cell?, hg3]; exact hold
          have fi : w2.frozen? ⟨g, i, none⟩ = false := by simp [World.frozen?, hg3]
          clear hi2 hg2 hg3 hold c0
          cases hh : p x with
          | true =>
            rw [hh] at SN
            clear hh
            go_wp2_with fail
            go_roundw
            case rel => exact ⟨i, j + 1, cu, rfl, by go_num, by omega, by omega, G2.out, CU.out, by rw [SN.out]; simpa using TK.out, by rw [SN.out]; simpa using LE.out, fun t h1 h2 => HH.out t (by omega) h2, I2.out⟩
            case measure => simp [intOf] <;> omega
          | false =>
            rw [hh] at SN
            clear hh
            go_wp2_with fail
            go_roundw
            case rel => exact ⟨i + 1, j + 1, cu.setIfInBounds i (.int .u64 x), by go_num, by go_num, by omega, by omega, heap_setCell_same w2 g i cu _ _ G2.out, by have := CU.out; simpa using this, by
                rw [SN.out, take_set_self (by have := CU.out; omega), TK.out, eps_append]; simp [eps], by rw [SN.out]; have := LE.out; simp; omega, fun t h1 h2 => by
                rw [Array.getElem?_setIfInBounds, if_neg (by omega)]; exact HH.out t (by omega) h2, HK.out (j + 1) w2 _ g rfl I2.out (Turned.of_setCell ⟨g, i, none⟩ _)⟩
            case measure => simp [intOf] <;> omega
        · obtain rfl : j = n := by omega
          have hcl : ∀ ty, (Builtin.clear_ #[73] ty #[.slice (some ⟨g, i, none⟩) (j - i) (cap - i)]).run Try.prog wr = .ok (.tuple #[]) (wr.setCells g i (List.replicate (j - i) (.int .u64 0))) := fun ty =>
            Lib.run_clear_slice wr _ 25 ty (.int .u64 0) Try.underlying73 (zero_of_info info_ep2).1 rfl rfl g i _ _ (by omega)
              (fun t ht => by
                have : i + t < cu.size := by have := CU.out; omega
                simp only [World.cell?, GR.out]
                simp [this]) (fun t ht => by simp [World.frozen?, GR.out])
          have T := Lib.hid (show DelPost B (.slice (some ⟨g, 0, none⟩) j cap) l p I (.returned (.slice (some ⟨g, 0, none⟩) i cap)) (wr.setCells g i (List.replicate (j - i) (.int .u64 0))) from by
            obtain ⟨c', h1, h2, h3⟩ := setCells_here (List.replicate (j - i) (.int .u64 0)) i wr g cu _ GR.out
            refine ⟨_, rfl, ?_, rfl, by rw [HL.out]; exact HK.out j wr _ g rfl IR.out (turned_setCells _ _ _ _)⟩
            rw [← filt_full l p HL.out, ← LE.out]
            refine ⟨by rw [eps_len, ← LE.out]; omega, .inr ⟨g, cap, c', rfl, hBg, h1, by omega, hcm, by have := CU.out; omega, ?_⟩⟩
            rw [Nat.mul_one, ← TK.out]
            apply List.ext_getElem?
            intro t
            rw [List.getElem?_take, List.getElem?_take]
            split
            · rename_i ht
              have := h3 t ht
              simpa using this
            · rfl)
          have hci : ¬ (cap = i) := by omega
          clear hlt
          go_wp2_with fail
          go_ret
          exact T.out

/-! ### With (*staithe/cell.Cell).Write$1 -/
theorem index_write (l : List Int) (p : Int → Bool) (I : Nat → World → Prop) (q1 q2 : Nat) (ao : Option Addr) (n cap : Nat) (w : World) (hl : l.length = n) (hN : n ≤ 1000)
    (hcell : ∀ j w', I j w' → 0 < n → ∃ g, ao = some ⟨g, 0, none⟩ ∧ ∀ i, i < n → w'.cell? ⟨g, i, none⟩ = some (.int .u64 (l.getD i 0)))
    (hcall : ∀ j w', j < n → I j w' → Calls Try.prog 44 #[.int .u64 (l.getD j 0), .pointer (some ⟨q1, 0, none⟩), .pointer (some ⟨q2, 0, none⟩)] w' fun e w2 => e = .returned (.bool (p (l.getD j 0))) ∧ I (j + 1) w2) (h0 : I 0 w) :
    Calls Try.prog 52 #[.slice ao n cap, .func (.func 44) #[] #[.pointer (some ⟨q1, 0, none⟩), .pointer (some ⟨q2, 0, none⟩)]] w (IdxPost l n p I) := by
  have HC := Lib.hid hcell
  have HA := Lib.hid hcall
  have H0 := Lib.hid h0
  clear hcell hcall h0 hl
  go_enter Try.func52, Try.ntmps52
  go_wp2_with fail
  go_loopw [8] (fun i wr => ∃ k : Nat, k ≤ n ∧ i = .int .i64 k ∧ (∀ j, j < k → p (l.getD j 0) = false) ∧ I k wr) (fun i _ => n - (intOf i).toNat)
  case atStart => exact ⟨0, by omega, rfl, fun j hj => by omega, H0.out⟩
  case round =>
    obtain ⟨k, hk, rfl, hp, hi⟩ := hrel
    have K := Lib.hid hp
    have HI := Lib.hid hi
    clear hp hi
    by_cases hlt : k < n
    · have hlt' : (k : Int) < (n : Int) := by omega
      obtain ⟨g, rfl, hcc⟩ := HC.out k _ HI.out (by omega)
      have c0 := hcc k hlt
      have CA := Lib.hid (HA.out k _ hlt HI.out)
      obtain ⟨x, hx⟩ : ∃ x, l.getD k 0 = x := ⟨_, rfl⟩
      rw [hx] at c0 CA
      have HX := Lib.hid hx
      clear hx hcc
      go_wp2_with fail
      refine CA.out.mono ?_
      rintro e w1 ⟨rfl, hi1⟩
      have I1 := Lib.hid hi1
      clear hi1
      cases hh : p x with
      | true =>
        have T := Lib.hid (show p (l.getD k 0) = true by rw [HX.out]; exact hh)
        clear hh
        go_wp2_with fail
        go_ret
        exact ⟨_, rfl, .inr ⟨k, hlt, rfl, T.out, K.out, I1.out⟩⟩
      | false =>
        have T := Lib.hid (show ∀ j, j < k + 1 → p (l.getD j 0) = false from fun j hj => by
          by_cases hjk : j = k
          · subst hjk; rw [HX.out]; exact hh
          · exact K.out j (by omega))
        clear hh
        go_wp2_with fail
        go_roundw
        case rel => exact ⟨k + 1, by omega, by go_num, T.out, I1.out⟩
        case measure => simp [intOf] <;> omega
    · obtain rfl : k = n := by omega
      go_wp2_with fail
      go_ret
      exact ⟨_, rfl, .inl ⟨rfl, K.out, HI.out⟩⟩

theorem contains_write (l : List Int) (p : Int → Bool) (I : Nat → World → Prop) (q1 q2 : Nat) (ao : Option Addr) (n cap : Nat) (w : World) (hl : l.length = n) (hN : n ≤ 1000)
    (hcell : ∀ j w', I j w' → 0 < n → ∃ g, ao = some ⟨g, 0, none⟩ ∧ ∀ i, i < n → w'.cell? ⟨g, i, none⟩ = some (.int .u64 (l.getD i 0)))
    (hcall : ∀ j w', j < n → I j w' → Calls Try.prog 44 #[.int .u64 (l.getD j 0), .pointer (some ⟨q1, 0, none⟩), .pointer (some ⟨q2, 0, none⟩)] w' fun e w2 => e = .returned (.bool (p (l.getD j 0))) ∧ I (j + 1) w2) (h0 : I 0 w) :
    Calls Try.prog 43 #[.slice ao n cap, .func (.func 44) #[] #[.pointer (some ⟨q1, 0, none⟩), .pointer (some ⟨q2, 0, none⟩)]] w (AnyPost l n p I) := by
  have HI := Lib.hid (index_write l p I q1 q2 ao n cap w hl hN hcell hcall h0)
  have HL := Lib.hid hl
  clear hcell hcall h0 hl
  go_enter Try.func43, Try.ntmps43
  go_wp2_with fail
  refine HI.out.mono ?_
  rintro e w1 ⟨i, rfl, ⟨rfl, hall, hi⟩ | ⟨k0, hk0, rfl, hpk, hall, hi⟩⟩
  · have T := Lib.hid (show AnyPost l n p I (.returned (.bool false)) w1 from ⟨by rw [any_no (fun j hj => hall j (by have := HL.out; omega))], n, Nat.le_refl _, hi⟩)
    clear hall hi
    go_wp2_with fail
    go_ret
    exact T.out
  · have T := Lib.hid (show AnyPost l n p I (.returned (.bool true)) w1 from ⟨by rw [any_yes (k := k0) (by have := HL.out; omega) hpk], k0 + 1, hk0, hi⟩)
    clear hall hi hpk
    go_wp2_with fail
    go_ret
    exact T.out

/-! ### With (*staithe/cell.Cell).Retire$1 -/
theorem index_retire (l : List Int) (p : Int → Bool) (I : Nat → World → Prop) (q1 q2 q3 : Nat) (ao : Option Addr) (n cap : Nat) (w : World) (hl : l.length = n) (hN : n ≤ 1000)
    (hcell : ∀ j w', I j w' → 0 < n → ∃ g, ao = some ⟨g, 0, none⟩ ∧ ∀ i, i < n → w'.cell? ⟨g, i, none⟩ = some (.int .u64 (l.getD i 0)))
    (hcall : ∀ j w', j < n → I j w' → Calls Try.prog 46 #[.int .u64 (l.getD j 0), .pointer (some ⟨q1, 0, none⟩), .pointer (some ⟨q2, 0, none⟩), .pointer (some ⟨q3, 0, none⟩)] w' fun e w2 => e = .returned (.bool (p (l.getD j 0))) ∧ I (j + 1) w2) (h0 : I 0 w) :
    Calls Try.prog 52 #[.slice ao n cap, .func (.func 46) #[] #[.pointer (some ⟨q1, 0, none⟩), .pointer (some ⟨q2, 0, none⟩), .pointer (some ⟨q3, 0, none⟩)]] w (IdxPost l n p I) := by
  have HC := Lib.hid hcell
  have HA := Lib.hid hcall
  have H0 := Lib.hid h0
  clear hcell hcall h0 hl
  go_enter Try.func52, Try.ntmps52
  go_wp2_with fail
  go_loopw [8] (fun i wr => ∃ k : Nat, k ≤ n ∧ i = .int .i64 k ∧ (∀ j, j < k → p (l.getD j 0) = false) ∧ I k wr) (fun i _ => n - (intOf i).toNat)
  case atStart => exact ⟨0, by omega, rfl, fun j hj => by omega, H0.out⟩
  case round =>
    obtain ⟨k, hk, rfl, hp, hi⟩ := hrel
    have K := Lib.hid hp
    have HI := Lib.hid hi
    clear hp hi
    by_cases hlt : k < n
    · have hlt' : (k : Int) < (n : Int) := by omega
      obtain ⟨g, rfl, hcc⟩ := HC.out k _ HI.out (by omega)
      have c0 := hcc k hlt
      have CA := Lib.hid (HA.out k _ hlt HI.out)
      obtain ⟨x, hx⟩ : ∃ x, l.getD k 0 = x := ⟨_, rfl⟩
      rw [hx] at c0 CA
      have HX := Lib.hid hx
      clear hx hcc
      go_wp2_with fail
      refine CA.out.mono ?_
      rintro e w1 ⟨rfl, hi1⟩
      have I1 := Lib.hid hi1
      clear hi1
      cases hh : p x with
      | true =>
        have T := Lib.hid (show p (l.getD k 0) = true by rw [HX.out]; exact hh)
        clear hh
        go_wp2_with fail
        go_ret
        exact ⟨_, rfl, .inr ⟨k, hlt, rfl, T.out, K.out, I1.out⟩⟩
      | false =>
        have T := Lib.hid (show ∀ j, j < k + 1 → p (l.getD j 0) = false from fun j hj => by
          by_cases hjk : j = k
          · subst hjk; rw [HX.out]; exact hh
          · exact K.out j (by omega))
        clear hh
        go_wp2_with fail
        go_roundw
        case rel => exact ⟨k + 1, by omega, by go_num, T.out, I1.out⟩
        case measure => simp [intOf] <;> omega
    · obtain rfl : k = n := by omega
      go_wp2_with fail
      go_ret
      exact ⟨_, rfl, .inl ⟨rfl, K.out, HI.out⟩⟩

set_option maxHeartbeats 1000000 in
theorem delete_retire (B : Nat) (l : List Int) (p : Int → Bool) (I : Nat → World → Prop) (q1 q2 q3 : Nat) (v : Value) (n : Nat) (w : World) (hl : l.length = n) (hN : n ≤ 1000)
    (hown : w.ownsRow B 25 1 v n (eps l))
    (hcall : ∀ j w', j < n → I j w' → Calls Try.prog 46 #[.int .u64 (l.getD j 0), .pointer (some ⟨q1, 0, none⟩), .pointer (some ⟨q2, 0, none⟩), .pointer (some ⟨q3, 0, none⟩)] w' fun e w2 => e = .returned (.bool (p (l.getD j 0))) ∧ I (j + 1) w2 ∧ ∀ g, v.ownBlock = some g → w2.heap[g]? = w'.heap[g]?)
    (hkeep : ∀ j w' w2 g, v.ownBlock = some g → I j w' → Turned (fun i => i = g) w' w2 → I j w2) (h0 : I 0 w) :
    Calls Try.prog 36 #[v, .func (.func 46) #[] #[.pointer (some ⟨q1, 0, none⟩), .pointer (some ⟨q2, 0, none⟩), .pointer (some ⟨q3, 0, none⟩)]] w (DelPost B v l p I) := by
  rcases hown.2 with ⟨rfl, hz⟩ | ⟨g, cap, cur, rfl, hBg, hg, hnc, hcm, hcs, htake⟩
  · obtain rfl : n = 0 := hz
    obtain rfl := List.eq_nil_of_length_eq_zero hl
    have HI := Lib.hid (index_retire [] p I q1 q2 q3 none 0 0 w rfl (by omega) (fun j w' _ h => by omega) (fun j w' h _ => by omega) h0)
    clear hcall hkeep h0
    have T := Lib.hid (show ∀ w', I 0 w' → DelPost B (.slice none 0 0) [] p I (.returned (.slice none 0 0)) w' from fun w' h => ⟨_, rfl, ⟨rfl, .inl ⟨rfl, rfl⟩⟩, rfl, h⟩)
    go_enter Try.func36, Try.ntmps36
    go_wp2_with fail
    refine HI.out.mono ?_
    rintro e w1 ⟨i, rfl, ⟨rfl, _, hi⟩ | ⟨k, hk, _⟩⟩
    · have I1 := Lib.hid hi
      clear hi
      go_wp2_with fail
      go_ret
      exact T.out _ I1.out
    · omega
  · have hcm2 := hcm
    unfold maxLen at hcm2
    rw [Nat.mul_one] at htake
    have hcur : ∀ t, t < n → cur[t]? = some (.int .u64 (l.getD t 0)) := fun t ht => getEl_of_take htake hl ht
    have HI := Lib.hid (index_retire l p (fun j w' => I j w' ∧ w'.heap[g]? = some (.cells cur 25 (0, 0))) q1 q2 q3 (some ⟨g, 0, none⟩) n cap w hl hN
      (fun j w' h _ => ⟨g, rfl, fun i hi => by simp only [World.cell?, h.2]; exact hcur i hi⟩)
      (fun j w' hj h => (hcall j w' hj h.1).mono (fun e w2 h2 => ⟨h2.1, h2.2.1, (h2.2.2 g rfl).trans h.2⟩)) ⟨h0, hg⟩)
    have HA := Lib.hid hcall
    have HK := Lib.hid hkeep
    have HL := Lib.hid hl
    have HT := Lib.hid htake
    have HCU := Lib.hid hcur
    have HCS := Lib.hid hcs
    clear hcall hkeep h0 hown hg htake hl hcur hcs
    go_enter Try.func36, Try.ntmps36
    go_wp2_with fail
    refine HI.out.mono ?_
    rintro e w1 ⟨i, rfl, ⟨rfl, hall, hi, hg1⟩ | ⟨k0, hk0, rfl, hpk, hall, hi, hg1⟩⟩
    · have T := Lib.hid (show DelPost B (.slice (some ⟨g, 0, none⟩) n cap) l p I (.returned (.slice (some ⟨g, 0, none⟩) n cap)) w1 from by
        have e : l.filter (fun x => !p x) = l := by
          have := filt_all (l := l) (p := p) (j := n) hall (by have := HL.out; omega)
          rw [filt_full l p HL.out, List.take_of_length_le (by have := HL.out; omega)] at this
          exact this
        refine ⟨_, rfl, ?_, rfl, by rw [HL.out]; exact hi⟩
        rw [e, HL.out]
        exact ⟨by rw [eps_len, HL.out]; omega, .inr ⟨g, cap, cur, rfl, hBg, hg1, hnc, hcm, HCS.out, by rw [Nat.mul_one]; exact HT.out⟩⟩)
      clear hall hi hg1
      go_wp2_with fail
      go_ret
      exact T.out
    · have I1 := Lib.hid hi
      have G1 := Lib.hid hg1
      have S1 := Lib.hid (show cur.toList.take k0 = eps (filt l p (k0 + 1)) ∧ k0 = (filt l p (k0 + 1)).length from by
        have h1 := filt_all (l := l) (p := p) (j := k0) hall (by have := HL.out; omega)
        have h2 : filt l p (k0 + 1) = l.take k0 := by
          rw [filt_snoc (by have := HL.out; omega), hpk, if_pos rfl, List.append_nil, h1]
        rw [h2]
        refine ⟨?_, by rw [List.length_take, HL.out]; omega⟩
        have h3 := congrArg (List.take k0) HT.out
        rw [List.take_take, Nat.min_eq_left (by omega)] at h3
        rw [h3, eps_take])
      have hne1 : ((k0 : Int) == -1) = false := beq_eq_false_iff_ne.2 (by omega)
      have hk0' : (k0 : Int) < (n : Int) := by omega
      clear hpk hall hi hg1 HI
      go_wp2_with fail
      go_loopw [5, 6, 7] (fun a b _ wr => ∃ (i j : Nat) (cu : Array Value), a = .int .i64 i ∧ b = .int .i64 j ∧ i < j ∧ j ≤ n ∧ wr.heap[g]? = some (.cells cu 25 (0, 0)) ∧ cu.size = cap ∧ cu.toList.take i = eps (filt l p j) ∧ i = (filt l p j).length ∧ (∀ t, j ≤ t → t < n → cu[t]? = some (.int .u64 (l.getD t 0))) ∧ I j wr) (fun _ b _ _ => n - (intOf b).toNat)
      case atStart => exact ⟨k0, k0 + 1, cur, rfl, by go_num, by omega, by omega, G1.out, by have := HCS.out; omega, S1.out.1, S1.out.2, fun t _ ht => HCU.out t ht, I1.out⟩
      case round =>
        obtain ⟨i, j, cu, rfl, rfl, hij, hjn, hgr, hcu, htk, hlen, hhi, hir⟩ := hrel
        have GR := Lib.hid hgr
        have CU := Lib.hid hcu
        have TK := Lib.hid htk
        have LE := Lib.hid hlen
        have HH := Lib.hid hhi
        have IR := Lib.hid hir
        clear hgr hcu htk hlen hhi hir
        have hin : i < n := by omega
        have hin' : (i : Int) < (n : Int) := by omega
        by_cases hlt : j < n
        · have hlt' : (j : Int) < (n : Int) := by omega
          have c0 : wr.cell? ⟨g, j, none⟩ = some (.int .u64 (l.getD j 0)) := by simp only [World.cell?, GR.out]; exact HH.out j (Nat.le_refl _) hlt
          have CA := Lib.hid (HA.out j _ hlt IR.out)
          have SN := Lib.hid (filt_snoc (l := l) (p := p) (j := j) (by have := HL.out; omega))
          obtain ⟨x, hx⟩ : ∃ x, l.getD j 0 = x := ⟨_, rfl⟩
          rw [hx] at c0 CA SN
          clear hx
          go_wp2_with fail
          refine CA.out.mono ?_
          rintro e w2 ⟨rfl, hi2, hg2⟩
          have I2 := Lib.hid hi2
          have hg3 := (hg2 g rfl).trans GR.out
          have G2 := Lib.hid hg3
          obtain ⟨old, hold⟩ : ∃ old, cu[i]? = some old := ⟨_, Array.getElem?_eq_getElem (show i < cu.size by have := CU.out; omega)⟩
          have ci : w2.cell? ⟨g, i, none⟩ = some old := by simp only [World.cell?, hg3]; exact hold
          have fi : w2.frozen? ⟨g, i, none⟩ = false := by simp [World.frozen?, hg3]
          clear hi2 hg2 hg3 hold c0
          cases hh : p x with
          | true =>
            rw [hh] at SN
            clear hh
            go_wp2_with fail
            go_roundw
            case rel => exact ⟨i, j + 1, cu, rfl, by go_num, by omega, by omega, G2.out, CU.out, by rw [SN.out]; simpa using TK.out, by rw [SN.out]; simpa using LE.out, fun t h1 h2 => HH.out t (by omega) h2, I2.out⟩
            case measure => simp [intOf] <;> omega
          | false =>
            rw [hh] at SN
            clear hh
            go_wp2_with fail
            go_roundw
            case rel => exact ⟨i + 1, j + 1, cu.setIfInBounds i (.int .u64 x), by go_num, by go_num, by omega, by omega, heap_setCell_same w2 g i cu _ _ G2.out, by have := CU.out; simpa using this, by
                rw [SN.out, take_set_self (by have := CU.out; omega), TK.out, eps_append]; simp [eps], by rw [SN.out]; have := LE.out; simp; omega, fun t h1 h2 => by
                rw [Array.getElem?_setIfInBounds, if_neg (by omega)]; exact HH.out t (by omega) h2, HK.out (j + 1) w2 _ g rfl I2.out (Turned.of_setCell ⟨g, i, none⟩ _)⟩
            case measure => simp [intOf] <;> omega
        · obtain rfl : j = n := by omega
          have hcl : ∀ ty, (Builtin.clear_ #[73] ty #[.slice (some ⟨g, i, none⟩) (j - i) (cap - i)]).run Try.prog wr = .ok (.tuple #[]) (wr.setCells g i (List.replicate (j - i) (.int .u64 0))) := fun ty =>
            Lib.run_clear_slice wr _ 25 ty (.int .u64 0) Try.underlying73 (zero_of_info info_ep2).1 rfl rfl g i _ _ (by omega)
              (fun t ht => by
                have : i + t < cu.size := by have := CU.out; omega
                simp only [World.cell?, GR.out]
                simp [this]) (fun t ht => by simp [World.frozen?, GR.out])
          have T := Lib.hid (show DelPost B (.slice (some ⟨g, 0, none⟩) j cap) l p I (.returned (.slice (some ⟨g, 0, none⟩) i cap)) (wr.setCells g i (List.replicate (j - i) (.int .u64 0))) from by
            obtain ⟨c', h1, h2, h3⟩ := setCells_here (List.replicate (j - i) (.int .u64 0)) i wr g cu _ GR.out
            refine ⟨_, rfl, ?_, rfl, by rw [HL.out]; exact HK.out j wr _ g rfl IR.out (turned_setCells _ _ _ _)⟩
            rw [← filt_full l p HL.out, ← LE.out]
            refine ⟨by rw [eps_len, ← LE.out]; omega, .inr ⟨g, cap, c', rfl, hBg, h1, by omega, hcm, by have := CU.out; omega, ?_⟩⟩
            rw [Nat.mul_one, ← TK.out]
            apply List.ext_getElem?
            intro t
            rw [List.getElem?_take, List.getElem?_take]
            split
            · rename_i ht
              have := h3 t ht
              simpa using this
            · rfl)
          have hci : ¬ (cap = i) := by omega
          clear hlt
          go_wp2_with fail
          go_ret
          exact T.out
end Go.Proofs.Ytkcnbkdpjlpppaa

