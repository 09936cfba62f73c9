
/-
  Package staitheref21: tables: New, At, Born.
-/
import Derived.Test.YtmhonibalgddcaaRemH
import Derived.Deep.LoopGhost
namespace Go.Proofs.Ytmhonibalgddcaa
open Go.RowKit
set_option linter.unusedVariables false
set_option linter.unusedSimpArgs false
set_option maxRecDepth 100000

/-- A table of the reference's. -/
structure Rt (B : Nat) (w : World) (b : Nat) (v : Value) (rs : List Rec) : Prop where
  blk : w.heap[b]? = some (.cells #[v] 40 (0, 0))
  low : B ≤ b
  row : w.ownsRow B 36 6 v rs.length (recs rs)
  pos : 0 < rs.length
theorem Rt.keep {B : Nat} {w w' : World} {b : Nat} {v : Value} {rs : List Rec} (h : Rt B w b v rs) (h1 : KeepT 40 w w') (h2 : KeepT 36 w w') : Rt B w' b v rs :=
  ⟨(h1 _ _ _ h.blk).trans h.blk, h.low, ownsRow_keep h.row h2, h.pos⟩
theorem Rt.below {B : Nat} {w w' : World} {b : Nat} {v : Value} {rs : List Rec} (h : Rt B w b v rs) (hB : Below w.heap.size w w') : Rt B w' b v rs := h.keep (keepT_below hB) (keepT_below hB)
theorem Rt.c0 {B : Nat} {w : World} {b : Nat} {v : Value} {rs : List Rec} (h : Rt B w b v rs) : w.cell? ⟨b, 0, none⟩ = some v := by simp only [World.cell?, h.blk]; rfl
theorem Rt.f0 {B : Nat} {w : World} {b : Nat} {v : Value} {rs : List Rec} (h : Rt B w b v rs) : w.frozen? ⟨b, 0, none⟩ = false := by simp [World.frozen?, h.blk]
theorem Rt.shape {B : Nat} {w : World} {b : Nat} {v : Value} {rs : List Rec} (h : Rt B w b v rs) : ∃ g cap, v = .slice (some ⟨g, 0, none⟩) rs.length cap ∧ B ≤ g ∧ rs.length ≤ cap := by
  rcases h.row.2 with ⟨_, h0⟩ | ⟨g, cap, cur, rfl, hb, _, hnc, _⟩
  · have := h.pos; omega
  · exact ⟨g, cap, rfl, hb, hnc⟩
theorem Rt.at {B : Nat} {w : World} {b g n cap : Nat} {rs : List Rec} (h : Rt B w b (.slice (some ⟨g, 0, none⟩) n cap) rs) (i : Nat) (hi : i < rs.length) : RecAt w g (i * 6) (rs.getD i default) := by
  rcases h.row.2 with ⟨he, _⟩ | ⟨g', cap', cur, he, _⟩
  · cases he
  · cases he
    have key : ∀ c u, c < 6 → (recL (rs.getD i default))[c]? = some u → w.cell? ⟨g, i * 6 + c, none⟩ = some u := fun c u hc hu => by
      have := h.row.cells (g := g) rfl (i * 6 + c) u (by rw [recs_at rs i hi c hc]; exact hu)
      rw [Go.WideShapes.add_plain, Nat.zero_add] at this
      exact this
    exact ⟨key 0 _ (by omega) rfl, key 1 _ (by omega) rfl, key 2 _ (by omega) rfl, key 3 _ (by omega) rfl, key 4 _ (by omega) rfl, key 5 _ (by omega) rfl⟩

theorem rnew_any (B : Nat) (w : World) (hB : B ≤ w.heap.size) : Calls Try.prog 9 #[] w fun e w' => (∃ b v, e = .returned (.pointer (some ⟨b, 0, none⟩)) ∧ Rt B w' b v [rec0] ∧ w.heap.size ≤ b) ∧ Below w.heap.size w w' := by
  go_enter Try.func9, Try.ntmps9
  go_wp2_with fail
  go_ret
  refine ⟨⟨w.heap.size + 1, .slice (some ⟨w.heap.size, 0, none⟩) 1 1, rfl, ⟨?_, by omega, ?_, by simp⟩, by omega⟩, ?_⟩
  · have := heap_alloc_new (w.alloc (.cells (recL rec0).toArray 36)) (.cells #[.slice (some ⟨w.heap.size, 0, none⟩) 1 1] 40)
    simp only [size_alloc] at this
    exact this
  · refine ⟨rfl, .inr ⟨w.heap.size, 1, (recL rec0).toArray, rfl, hB, ?_, Nat.le_refl _, by unfold maxLen; omega, rfl, rfl⟩⟩
    rw [heap_alloc_old _ _ (by rw [size_alloc]; omega)]
    exact heap_alloc_new w _
  · exact ((Below.refl _ _).alloc (Nat.le_refl _) _).alloc (by rw [size_alloc]; omega) _

/-! ### At -/
def atI : List Rec → Int → Int
  | [], _ => -1
  | r :: rs, g => if r.g = g then 0 else if atI rs g = -1 then -1 else atI rs g + 1
theorem at_yes : ∀ {rs : List Rec} {g : Int} {i : Nat}, i < rs.length → gAt rs i = g → (∀ t, t < i → gAt rs t ≠ g) → atI rs g = i
  | [], _, i, h, _, _ => by simp at h
  | r :: rs, g, 0, _, h, _ => by
    have h' : r.g = g := h
    simp [atI, h']
  | r :: rs, g, i + 1, hi, h, hb => by
    have h0 : r.g ≠ g := hb 0 (by omega)
    have := at_yes (rs := rs) (i := i) (by simpa using hi) h (fun t ht => hb (t + 1) (by omega))
    rw [atI, if_neg h0, this, if_neg (by omega)]
    omega
theorem at_no : ∀ {rs : List Rec} {g : Int}, (∀ t, t < rs.length → gAt rs t ≠ g) → atI rs g = -1
  | [], _, _ => rfl
  | r :: rs, g, h => by
    have h0 : r.g ≠ g := h 0 (by simp)
    have := at_no (rs := rs) (g := g) (fun t ht => h (t + 1) (by simpa using ht))
    rw [atI, if_neg h0, if_pos this]
theorem at_cases (rs : List Rec) (g : Int) : (∃ i : Nat, i < rs.length ∧ atI rs g = i ∧ gAt rs i = g ∧ look rs g = some (rs.getD i default)) ∨ (atI rs g = -1 ∧ look rs g = none) := by
  by_cases h : ∃ i, i < rs.length ∧ gAt rs i = g
  · obtain ⟨i, ⟨h1, h2⟩, h3⟩ := Go.exists_least h
    exact .inl ⟨i, h1, at_yes h1 h2 (fun t ht e => by have := h3 t ⟨by omega, e⟩; omega), h2, look_yes h1 h2 (fun t ht e => by have := h3 t ⟨by omega, e⟩; omega)⟩
  · have h' : ∀ t, t < rs.length → gAt rs t ≠ g := fun t ht e => h ⟨t, ht, e⟩
    exact .inr ⟨at_no h', look_no h'⟩

theorem rat_any (B b : Nat) (v : Value) (rs : List Rec) (g : Int) (w : World) (h : Rt B w b v rs) (hN : rs.length ≤ 1000) :
    Calls Try.prog 12 #[.pointer (some ⟨b, 0, none⟩), .int .i64 g] w fun e w' => e = .returned (.int .i64 (atI rs g)) ∧ Below w.heap.size w w' := by
  have H := Lib.hid h
  have c0 := h.c0
  obtain ⟨ga, cap, rfl, _, _⟩ := h.shape
  obtain ⟨n, hn⟩ : ∃ n, rs.length = n := ⟨_, rfl⟩
  rw [hn] at hN H c0
  have HN := Lib.hid hn
  clear h hn
  go_enter Try.func12, Try.ntmps12
  go_wp2_with fail
  go_loopw [12] (fun i wr => ∃ k : Nat, k ≤ n ∧ i = .int .i64 k ∧ (∀ j, j < k → gAt rs j ≠ g) ∧ Below w.heap.size w wr) (fun i _ => n - (intOf i).toNat)
  case atStart => exact ⟨0, by omega, rfl, fun j hj => by omega, Below.refl _ _⟩
  case round =>
    obtain ⟨k, hk, rfl, hp, hb⟩ := hrel
    have K := Lib.hid hp
    have HB := Lib.hid hb
    clear hp hb
    by_cases hlt : k < n
    · have hlt' : (k : Int) < (n : Int) := by omega
      obtain ⟨c0', c1, c2, c3, c4, c5⟩ := (H.out.at k (by have := HN.out; omega)).below (Nat.le_refl _) HB.out
      obtain ⟨r, hrr⟩ : ∃ r, rs.getD k default = r := ⟨_, rfl⟩
      rw [hrr] at c0' c1 c2 c3 c4 c5
      have RR := Lib.hid hrr
      have HA := Lib.hid (show ∀ X, Below w.heap.size w (wr.alloc X) from fun X => HB.out.alloc HB.out.size X)
      clear hrr
      by_cases hg : r.g = g
      · have T := Lib.hid (at_yes (rs := rs) (g := g) (i := k) (by have := HN.out; omega) (by unfold gAt; rw [RR.out]; exact hg) K.out)
        go_wp2_with fail
        go_ret
        exact ⟨by rw [T.out]; rfl, HA.out _⟩
      · have T := Lib.hid (show ∀ j, j < k + 1 → gAt rs j ≠ g from fun j hj => by
          by_cases hjk : j = k
          · subst hjk; unfold gAt; rw [RR.out]; exact hg
          · exact K.out j (by omega))
        go_wp2_with fail
        go_roundw
        case rel => exact ⟨k + 1, by omega, by go_num, T.out, HA.out _⟩
        case measure => simp [intOf] <;> omega
    · have hge : (n : Int) ≤ k := by omega
      have T := Lib.hid (at_no (rs := rs) (g := g) (fun j hj => K.out j (by have := HN.out; omega)))
      clear hlt
      go_wp2_with fail
      go_ret
      exact ⟨by rw [T.out]; rfl, HB.out⟩
end Go.Proofs.Ytmhonibalgddcaa

