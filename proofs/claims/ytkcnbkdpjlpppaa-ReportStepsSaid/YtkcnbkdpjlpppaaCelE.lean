
/-
  Package cell: slices.BinarySearchFunc of epochs; where an epoch belongs; Insert at any place.
-/
import Derived.Test.YtkcnbkdpjlpppaaCelD
import Derived.Deep.QuietTactic
import Derived.Deep.RegionWith
namespace Go.Proofs.Ytkcnbkdpjlpppaa
open Go.RowKit
set_option linter.unusedVariables false
set_option linter.unusedSimpArgs false
set_option maxRecDepth 100000

def tAt (l : List Int) (i : Nat) : Int := tidE (l.getD i 0)
def SrtE (l : List Int) : Prop := ∀ a b, a < b → b < l.length → tAt l a < tAt l b
def posOf (l : List Int) (t : Int) : Nat := (l.takeWhile (fun e => decide (tidE e < t))).length
theorem pos_le (l : List Int) (t : Int) : posOf l t ≤ l.length := (List.takeWhile_prefix _).length_le
theorem pos_eq : ∀ {l : List Int} {t : Int} {i : Nat}, i ≤ l.length → (∀ j, j < i → tAt l j < t) → (i < l.length → t ≤ tAt l i) → i = posOf l t
  | [], _, i, h, _, _ => by simp at h; simp [posOf, h]
  | e :: l, t, 0, _, _, h => by
    have h1 : t ≤ tidE e := h (by simp)
    have h2 : ¬ (tidE e < t) := by omega
    simp [posOf, List.takeWhile_cons, h2]
  | e :: l, t, i + 1, h, hb, ha => by
    have h1 : tidE e < t := hb 0 (by omega)
    have h2 := pos_eq (l := l) (t := t) (i := i) (by simpa using h) (fun j hj => hb (j + 1) (by omega)) (fun hi => ha (by simpa using hi))
    unfold posOf at h2 ⊢
    simp only [List.takeWhile_cons, h1, decide_true, if_true, List.length_cons]
    omega
theorem pos_before {l : List Int} {t : Int} {j : Nat} (h : j < posOf l t) : tAt l j < t := by
  induction l generalizing j with
  | nil => simp [posOf] at h
  | cons e l ih =>
    unfold posOf at h
    rw [List.takeWhile_cons] at h
    by_cases he : tidE e < t
    · cases j with
      | zero => exact he
      | succ j =>
        simp only [he, decide_true, if_true, List.length_cons] at h
        exact ih (j := j) (by unfold posOf; omega)
    · simp [he] at h
theorem pos_at {l : List Int} {t : Int} (h : posOf l t < l.length) : t ≤ tAt l (posOf l t) := by
  induction l with
  | nil => simp at h
  | cons e l ih =>
    by_cases he : tidE e < t
    · have e1 : posOf (e :: l) t = posOf l t + 1 := by unfold posOf; simp [List.takeWhile_cons, he]
      rw [e1] at h ⊢
      exact ih (by simpa using h)
    · have e1 : posOf (e :: l) t = 0 := by unfold posOf; simp [List.takeWhile_cons, he]
      rw [e1]
      show t ≤ tidE e
      omega
def atOf (l : List Int) (t : Int) : Bool := decide (posOf l t < l.length ∧ tAt l (posOf l t) = t)
theorem u64_at {l : List Int} (h : ∀ e, e ∈ l → okE e = true) {i : Nat} (hi : i < l.length) : okE (l.getD i 0) = true := by
  apply h
  rw [List.getD_eq_getElem?_getD, List.getElem?_eq_getElem hi]; exact List.getElem_mem _

def SeaPost (l : List Int) (t : Int) (w : World) (e : Ending) (w' : World) : Prop := e = .returned (.tuple #[.int .i64 (posOf l t), .bool (atOf l t)]) ∧ w = w'
set_option maxHeartbeats 4000000 in
theorem search_any (v : Value) (l : List Int) (x : Int) (w : World) (h : EpsOf w v l) (hs : SrtE l) (hN : l.length ≤ 1000) (hx : U64 x) (ho : ∀ e, e ∈ l → okE e = true) :
    Calls Try.prog 39 #[v, .int .u64 x, .func (.func 40) #[] #[]] w (SeaPost l (tidE x) w) := by
  obtain ⟨ao, cap, rfl, _, hc⟩ := h
  have HC := Lib.hid hc
  have HS := Lib.hid hs
  have HO := Lib.hid ho
  have HX := Lib.hid hx
  obtain ⟨n, hn⟩ : ∃ n, l.length = n := ⟨_, rfl⟩
  rw [hn] at hN
  have HN := Lib.hid hn
  rw [hn]
  clear hc hs hn ho hx
  go_enter Try.func39, Try.ntmps39
  go_wp2_with fail
  go_loopw [9, 10] (fun i j wr => ∃ lo hi : Nat, i = .int .i64 lo ∧ j = .int .i64 hi ∧ lo ≤ hi ∧ hi ≤ n ∧ (∀ t, t < lo → tAt l t < tidE x) ∧ (∀ t, hi ≤ t → t < n → tidE x ≤ tAt l t) ∧ wr = w) (fun i j _ => (intOf j).toNat - (intOf i).toNat)
  case atStart => exact ⟨0, n, rfl, rfl, by omega, by omega, fun t ht => by omega, fun t h1 h2 => by omega, rfl⟩
  case round =>
    obtain ⟨lo, hi, rfl, rfl, hlh, hhn, hl, hr, rfl⟩ := hrel
    have KL := Lib.hid hl
    have KR := Lib.hid hr
    clear hl hr
    by_cases hlt : lo < hi
    · obtain ⟨g, rfl, hcc⟩ := HC.out (by have := HN.out; omega)
      have c0 := hcc ((lo + hi) / 2) (by have := HN.out; omega)
      have hu := u64_at HO.out (i := (lo + hi) / 2) (by have := HN.out; omega)
      obtain ⟨r, hrr⟩ : ∃ r, l.getD ((lo + hi) / 2) 0 = r := ⟨_, rfl⟩
      rw [hrr] at c0 hu
      have RR := Lib.hid (show tAt l ((lo + hi) / 2) = tidE r by unfold tAt; rw [hrr])
      have HU := Lib.hid (okE_u64 hu)
      clear hrr hcc hu
      go_wp2_with fail
      refine (read2_any r x _ HU.out HX.out).mono ?_
      rintro e w1 ⟨rfl, rfl⟩
      by_cases hc1 : tidE r < tidE x
      · have e1 : sgn (tidE r) (tidE x) = -1 := by unfold sgn; rw [if_pos hc1]
        rw [e1]
        clear e1
        go_wp2_with fail
        go_roundw
        case rel =>
          refine ⟨(lo + hi) / 2 + 1, hi, by rw [show (lo : Int) + (hi : Int) = ((lo + hi : Nat) : Int) by omega]; push_cast; rfl, rfl, by omega, hhn, fun t ht => ?_, KR.out, by trivial⟩
          by_cases h2 : t = (lo + hi) / 2
          · rw [h2, RR.out]; exact hc1
          · have := HS.out t ((lo + hi) / 2) (by omega) (by have := HN.out; omega)
            rw [RR.out] at this
            omega
        case measure => simp [intOf] <;> omega
      · have e1 : decide (sgn (tidE r) (tidE x) < 0) = false := by
          unfold sgn; rw [if_neg hc1]
          split <;> decide
        have e2 : ¬ (sgn (tidE r) (tidE x) < 0) := by simpa using e1
        clear e1
        obtain ⟨sg, hsg⟩ : ∃ sg, sgn (tidE r) (tidE x) = sg := ⟨_, rfl⟩
        rw [hsg] at e2 ⊢
        clear hsg
        go_wp2_with fail
        go_roundw
        case rel =>
          refine ⟨lo, (lo + hi) / 2, rfl, by rw [show (lo : Int) + (hi : Int) = ((lo + hi : Nat) : Int) by omega]; push_cast; rfl, by omega, by omega, KL.out, fun t h1 h2 => ?_, by trivial⟩
          by_cases h3 : t = (lo + hi) / 2
          · rw [h3, RR.out]; omega
          · have := HS.out ((lo + hi) / 2) t (by omega) (by have := HN.out; omega)
            rw [RR.out] at this
            omega
        case measure => simp [intOf] <;> omega
    · obtain rfl : hi = lo := by omega
      have hpos : hi = posOf l (tidE x) := pos_eq (by have := HN.out; omega) KL.out (fun h => KR.out hi (Nat.le_refl _) (by have := HN.out; omega))
      have HP := Lib.hid hpos
      clear hpos
      by_cases hlt2 : hi < n
      · have hlt2' : (hi : Int) < (n : Int) := by omega
        obtain ⟨g, rfl, hcc⟩ := HC.out (by have := HN.out; omega)
        have c0 := hcc hi (by have := HN.out; omega)
        have hu := u64_at HO.out (i := hi) (by have := HN.out; omega)
        obtain ⟨r, hrr⟩ : ∃ r, l.getD hi 0 = r := ⟨_, rfl⟩
        rw [hrr] at c0 hu
        have RR := Lib.hid (show tAt l hi = tidE r by unfold tAt; rw [hrr])
        have HU := Lib.hid (okE_u64 hu)
        clear hrr hcc hu
        go_wp2_with fail
        refine (read2_any r x _ HU.out HX.out).mono ?_
        rintro e w1 ⟨rfl, rfl⟩
        have T := Lib.hid (show SeaPost l (tidE x) wr (.returned (.tuple #[.int .i64 hi, .bool (decide (sgn (tidE r) (tidE x) = 0))])) wr from ⟨by
          have e : decide (sgn (tidE r) (tidE x) = 0) = atOf l (tidE x) := by
            unfold atOf
            rw [← HP.out]
            apply decide_eq_decide.2
            unfold sgn
            rw [RR.out]
            have := HN.out
            constructor
            · intro h
              refine ⟨by omega, ?_⟩
              split at h
              · omega
              · split at h <;> omega
            · rintro ⟨_, h⟩
              rw [if_neg (by omega), if_neg (by omega)]
          rw [e, ← HP.out], rfl⟩)
        obtain ⟨sg, hsg⟩ : ∃ sg, sgn (tidE r) (tidE x) = sg := ⟨_, rfl⟩
        rw [hsg] at T ⊢
        clear hsg
        go_wp2_with fail
        go_ret2
        exact T.out
      · obtain rfl : hi = n := by omega
        have T := Lib.hid (show SeaPost l (tidE x) wr (.returned (.tuple #[.int .i64 hi, .bool false])) wr from ⟨by
          have e : atOf l (tidE x) = false := by unfold atOf; rw [← HP.out]; exact decide_eq_false (by have := HN.out; omega)
          rw [e, ← HP.out], rfl⟩)
        go_wp2_with fail
        go_ret2
        exact T.out

theorem insert_zero (B vb : Nat) (v : Value) (r : Int) (w : World) (hB : B ≤ w.heap.size)
    (hown : w.ownsRow B 25 1 v 0 (eps []))
    (hv : w.heap[vb]? = some (.cells (ep1 r).toArray 25 (0, 0))) :
    Calls Try.prog 42 #[v, .int .i64 0, .slice (some ⟨vb, 0, none⟩) 1 1] w (InsPost B v 0 0 [] r w) := by
  obtain ⟨i0, hi, hz0, hz1, hz2⟩ := info_parts info_ep
  have hnews : ∀ j u, (ep1 r)[j]? = some u → w.cell? (Addr.add ⟨vb, 0, none⟩ j) = some u := fun j u hj => by
    rw [Addr.add_lit]
    simp only [World.cell?, hv, Nat.zero_add]
    simpa using hj
  obtain ⟨ao, cap, rfl, hcap⟩ : ∃ ao cap, v = .slice ao 0 cap ∧ cap ≤ maxLen := by
    rcases hown.2 with ⟨rfl, _⟩ | ⟨g, cap, cur, rfl, _, _, _, hm, _⟩
    · exact ⟨_, _, rfl, Nat.zero_le _⟩
    · exact ⟨_, _, rfl, hm⟩
  unfold maxLen at hcap
  have HO := Lib.hid hown
  have HV := Lib.hid hv
  clear hown hv
  go_enter Try.func42, Try.ntmps42
  go_wp2_with (at_builtin; refine wpList_append_own _ rfl _ _ 73 rfl B 25 i0 _ 1 8 Try.underlying73 hi hz0 hz1 hz2 rfl (by decide) _ 0 (eps []) rfl HO.out _ 1 1 (ep1 r) rfl rfl hnews (by have := eps1 [r]; rwa [eps_one] at this) (by unfold maxLen; omega) (by omega) hB ?_)
  all_goals
   intro v' w' h1 h2 _
   obtain ⟨ao', c, rfl⟩ : ∃ ao c, v' = .slice ao (0 + 1) c := by
     rcases h1.2 with ⟨hv, _⟩ | ⟨g, cap, cur, hv, _⟩
     · omega
     · exact ⟨_, _, hv⟩
   have T := Lib.hid (show InsPost B (.slice ao 0 cap) 0 0 [] r w (.returned (.slice ao' (0 + 1) c)) w' from ⟨_, rfl, h1, h2⟩)
   clear h1 h2
   go_wp2
   go_ret
   exact T.out

theorem owns_alloc {w : World} {base : Nat} {e : TypeId} {v : Value} {n : Nat} {us : List Value} (h : w.ownsRow base e 1 v n us) (o : Obj) : (w.alloc o).ownsRow base e 1 v n us := owns_below h ((Below.refl _ _).alloc (Nat.le_refl _) _)
theorem owns_lt {w : World} {base : Nat} {e : TypeId} {g n cap : Nat} {us : List Value} (h : w.ownsRow base e 1 (.slice (some ⟨g, 0, none⟩) n cap) n us) : g < w.heap.size ∧ base ≤ g := by
  rcases h.2 with ⟨he, _⟩ | ⟨g', cap', cur, he, hb, hg, _⟩
  · cases he
  · cases he; exact ⟨lt_of_heap hg, hb⟩
theorem insert_any (B i n : Nat) (v : Value) (l : List Int) (r : Int) (w : World) (hl : l.length = n) (h : w.ownsRow B 25 1 v n (eps l)) (hB : B ≤ w.heap.size) (hi : i ≤ n) (hN : n ≤ 1000) :
    Calls Try.prog 42 #[v, .int .i64 i, .slice (some ⟨w.heap.size, 0, none⟩) 1 1] (w.alloc (.cells #[.int .u64 r] 25)) (InsPost B v n i l r (w.alloc (.cells #[.int .u64 r] 25))) := by
  have hv := heap_alloc_new w (.cells (ep1 r).toArray 25)
  have h' := owns_alloc h (.cells #[.int .u64 r] 25)
  have hB' : B ≤ (w.alloc (.cells #[.int .u64 r] 25)).heap.size := by simp; omega
  by_cases h0 : n = 0
  · subst h0
    obtain rfl := List.eq_nil_of_length_eq_zero hl
    obtain rfl : i = 0 := by omega
    exact insert_zero B w.heap.size v r _ hB' h' hv
  · obtain ⟨g, cap, rfl⟩ : ∃ g cap, v = .slice (some ⟨g, 0, none⟩) n cap := by
      rcases h.2 with ⟨_, he⟩ | ⟨g, cap, cur, rfl, _⟩
      · exact absurd he h0
      · exact ⟨_, _, rfl⟩
    have hgw := (owns_lt h).1
    by_cases h1 : i = n
    · subst h1
      exact insert_end B g cap i w.heap.size l r _ hB' hl (by omega) hN h' hv
    · by_cases h2 : n + 1 ≤ cap
      · exact insert_shift B g cap n i w.heap.size l r _ hB' hl (by omega) hN h2 (by omega) h' hv
      · exact insert_grow B g cap n i w.heap.size l r _ hB' hl (by omega) hN (by omega) (by omega) h' hv
end Go.Proofs.Ytkcnbkdpjlpppaa

