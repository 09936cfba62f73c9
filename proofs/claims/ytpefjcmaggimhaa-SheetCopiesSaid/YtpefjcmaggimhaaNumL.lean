
/-
  Lists of numbers as bytes, plainly: how many there are, then each of them.
-/
import Derived.Test.YtpefjcmaggimhaaNum
namespace Go.Proofs.Ytpefjcmaggimhaa

/-- So many numbers with which bytes begin, and what is behind. -/
def tlist : Nat → List UInt8 → Option (List Int × List UInt8)
  | 0, s => some ([], s)
  | n + 1, s => match tak s with
    | none => none
    | some (x, z) => match tlist n (s.drop z) with
      | none => none
      | some (l, r) => some ((x : Int) :: l, r)

/-- What TakeList gives: the numbers, what is behind, the error. -/
def takeL (s : List UInt8) (most : Int) : List Int × List UInt8 × Int :=
  match tak s with
  | none => ([], [], 4)
  | some (c, z) => if most < (c : Int) then ([], [], 2) else
    match tlist c (s.drop z) with
    | none => ([], [], 4)
    | some (l, r) => (l, r, 0)

theorem takeL_none {s : List UInt8} {most : Int} (h : tak s = none) : takeL s most = ([], [], 4) := by simp [takeL, h]
theorem takeL_long {s : List UInt8} {most : Int} {c z : Nat} (h : tak s = some (c, z)) (h2 : most < (c : Int)) : takeL s most = ([], [], 2) := by simp [takeL, h, h2]
theorem takeL_bad {s : List UInt8} {most : Int} {c z : Nat} (h : tak s = some (c, z)) (h2 : ¬ most < (c : Int)) (h3 : tlist c (s.drop z) = none) : takeL s most = ([], [], 4) := by simp [takeL, h, h2, h3]
theorem takeL_ok {s : List UInt8} {most : Int} {c z : Nat} {l : List Int} {r : List UInt8} (h : tak s = some (c, z)) (h2 : ¬ most < (c : Int)) (h3 : tlist c (s.drop z) = some (l, r)) : takeL s most = (l, r, 0) := by simp [takeL, h, h2, h3]

/-- Behind some rounds: what is in hand, and what the rest gives. -/
def Mid (c : Nat) (s0 : List UInt8) (k : Nat) (l : List Int) (r : List UInt8) : Prop :=
  k ≤ c ∧ l.length = k ∧ l.length + r.length ≤ s0.length ∧ (∃ d, r = s0.drop d ∧ d ≤ s0.length) ∧
  tlist c s0 = match tlist (c - k) r with | none => none | some (m, q) => some (l ++ m, q)

theorem Mid.start (c : Nat) (s0 : List UInt8) : Mid c s0 0 [] s0 :=
  ⟨by omega, rfl, by simp, ⟨0, by simp⟩, by simp only [Nat.sub_zero, List.nil_append]; split <;> simp_all⟩

theorem Mid.fails {c : Nat} {s0 : List UInt8} {k : Nat} {l : List Int} {r : List UInt8} (h : Mid c s0 k l r) (hk : k < c) (ht : tak r = none) : tlist c s0 = none := by
  obtain ⟨_, _, _, _, h⟩ := h
  obtain ⟨n, hn⟩ : ∃ n, c - k = n + 1 := ⟨c - k - 1, by omega⟩
  rw [h, hn]
  simp only [tlist, ht]

theorem Mid.next {c : Nat} {s0 : List UInt8} {k : Nat} {l : List Int} {r : List UInt8} (h : Mid c s0 k l r) (hk : k < c) {x z : Nat} (ht : tak r = some (x, z)) : Mid c s0 (k + 1) (l ++ [(x : Int)]) (r.drop z) := by
  obtain ⟨h1, h2, h3, ⟨d, hd, hd2⟩, h4⟩ := h
  obtain ⟨n, hn⟩ : ∃ n, c - k = n + 1 := ⟨c - k - 1, by omega⟩
  have hz := tak_some ht
  have hz1 := sizeN_pos x
  have hrl : r.length = s0.length - d := by rw [hd, List.length_drop]
  refine ⟨by omega, by simp [h2], by simp; omega, ⟨d + z, by rw [hd, List.drop_drop], by omega⟩, ?_⟩
  rw [h4, hn, show c - (k + 1) = n by omega]
  simp only [tlist, ht]
  cases tlist n (r.drop z) with
  | none => rfl
  | some p => simp

theorem Mid.ends {c : Nat} {s0 : List UInt8} {l : List Int} {r : List UInt8} (h : Mid c s0 c l r) : tlist c s0 = some (l, r) := by
  obtain ⟨_, _, _, _, h⟩ := h
  rw [h, Nat.sub_self]
  simp [tlist]

end Go.Proofs.Ytpefjcmaggimhaa

