
/-
  Numbers as bytes, plainly: no program in sight. A number below 240 is one byte; another one is the byte 240 + k and its k bytes, the upper ones first.
-/
namespace Go.Proofs.Ytpefjcmaggimhaa

/-- How many bytes a number fills (one at least). -/
def nby (n : Nat) : Nat := if n < 256 then 1 else 1 + nby (n / 256)
termination_by n
decreasing_by omega

theorem nby_small {n : Nat} (h : n < 256) : nby n = 1 := by rw [nby, if_pos h]
theorem nby_big {n : Nat} (h : 256 ≤ n) : nby n = 1 + nby (n / 256) := by rw [nby, if_neg (by omega)]
theorem nby_pos (n : Nat) : 1 ≤ nby n := by rw [nby]; split <;> omega

theorem nby_lt {n k : Nat} (h : n < 256 ^ (k + 1)) : nby n ≤ k + 1 := by
  induction k generalizing n with
  | zero => rw [nby_small (by simpa using h)]; omega
  | succ k ih =>
    by_cases h2 : n < 256
    · rw [nby_small h2]; omega
    · rw [nby_big (by omega)]
      have : n / 256 < 256 ^ (k + 1) := by
        rw [Nat.div_lt_iff_lt_mul (by decide)]; rw [Nat.pow_succ] at h; omega
      have := ih this
      omega

theorem nby_le {n k : Nat} (h : nby n ≤ k) : n < 256 ^ k := by
  induction k generalizing n with
  | zero => have := nby_pos n; omega
  | succ k ih =>
    by_cases h2 : n < 256
    · calc n < 256 ^ 1 := by simpa using h2
        _ ≤ 256 ^ (k + 1) := Nat.pow_le_pow_right (by decide) (by omega)
    · rw [nby_big (by omega)] at h
      have := ih (n := n / 256) (by omega)
      rw [Nat.div_lt_iff_lt_mul (by decide)] at this
      rw [Nat.pow_succ]; omega

theorem nby_mono {a b : Nat} (h : a ≤ b) : nby a ≤ nby b := by
  have h1 := nby_le (Nat.le_refl (nby b))
  obtain ⟨k, hk⟩ : ∃ k, nby b = k + 1 := ⟨nby b - 1, by have := nby_pos b; omega⟩
  rw [hk] at h1 ⊢
  exact nby_lt (by omega)

/-- The k lowest bytes, the upper ones first. -/
def be : Nat → Nat → List UInt8
  | 0, _ => []
  | k + 1, n => UInt8.ofNat (n / 256 ^ k % 256) :: be k n

theorem length_be (k n : Nat) : (be k n).length = k := by induction k with
  | zero => rfl
  | succ k ih => simp [be, ih]

/-- Lower bytes at the end: the other way round. -/
theorem be_snoc (k n : Nat) : be (k + 1) n = be k (n / 256) ++ [UInt8.ofNat (n % 256)] := by
  induction k with
  | zero => simp [be]
  | succ k ih =>
    rw [be, ih, be, List.cons_append]
    congr 2
    rw [Nat.div_div_eq_div_mul, Nat.pow_succ, Nat.mul_comm]

/-- What bytes say. -/
def val (l : List UInt8) : Nat := l.foldl (fun a b => 256 * a + b.toNat) 0

theorem foldl_val (l : List UInt8) (a : Nat) : l.foldl (fun a b => 256 * a + b.toNat) a = a * 256 ^ l.length + val l := by
  induction l generalizing a with
  | nil => simp [val]
  | cons b l ih =>
    simp only [List.foldl_cons, List.length_cons, val]
    rw [ih, ih (256 * 0 + b.toNat)]
    rw [Nat.add_mul, Nat.pow_succ]
    simp only [Nat.mul_zero, Nat.zero_add]
    rw [Nat.mul_comm 256 a, Nat.mul_assoc, Nat.mul_comm 256 (256 ^ l.length)]
    omega

theorem val_snoc (l : List UInt8) (b : UInt8) : val (l ++ [b]) = 256 * val l + b.toNat := by
  simp [val, List.foldl_append]

theorem val_cons (b : UInt8) (l : List UInt8) : val (b :: l) = b.toNat * 256 ^ l.length + val l := by
  simp only [val, List.foldl_cons]
  rw [foldl_val]
  simp [val]

theorem val_lt (l : List UInt8) : val l < 256 ^ l.length := by
  induction l with
  | nil => simp [val]
  | cons b l ih =>
    rw [val_cons, List.length_cons, Nat.pow_succ]
    have := b.toNat_lt
    have : b.toNat * 256 ^ l.length + 256 ^ l.length ≤ 256 ^ l.length * 256 := by
      rw [← Nat.succ_mul, Nat.mul_comm]
      exact Nat.mul_le_mul_left _ (by omega)
    omega

theorem val_be (k n : Nat) (h : n < 256 ^ k) : val (be k n) = n := by
  induction k generalizing n with
  | zero => simp at h; simp [be, val, h]
  | succ k ih =>
    rw [be_snoc, val_snoc, ih (n / 256) (by rw [Nat.div_lt_iff_lt_mul (by decide)]; rw [Nat.pow_succ] at h; omega)]
    simp
    omega

theorem snoc_cases (l : List UInt8) : l = [] ∨ ∃ l' b, l = l' ++ [b] := by
  rcases List.eq_nil_or_concat l with h | ⟨l', b, h⟩
  · exact .inl h
  · exact .inr ⟨l', b, by simpa using h⟩

theorem be_val (l : List UInt8) : be l.length (val l) = l := by
  generalize hn : l.length = n
  induction n generalizing l with
  | zero => have := List.eq_nil_of_length_eq_zero hn; subst this; rfl
  | succ n ih =>
    rcases snoc_cases l with h | ⟨l', b, h⟩
    · subst h; simp at hn
    · subst h
      simp at hn
      rw [be_snoc, val_snoc]
      have h1 : (256 * val l' + b.toNat) / 256 = val l' := by have := b.toNat_lt; omega
      have h2 : (256 * val l' + b.toNat) % 256 = b.toNat := by have := b.toNat_lt; omega
      rw [h1, h2, ih l' hn]
      simp

/-- The greatest number. -/
def mostN : Nat := 1099511627776

/-- A number's bytes. -/
def enc (n : Nat) : List UInt8 := if n < 240 then [UInt8.ofNat n] else UInt8.ofNat (240 + nby n) :: be (nby n) n

theorem nby_most {n : Nat} (h : n ≤ mostN) : nby n ≤ 6 := nby_lt (k := 5) (by unfold mostN at h; omega)

theorem enc_small {n : Nat} (h : n < 240) : enc n = [UInt8.ofNat n] := by rw [enc, if_pos h]
theorem enc_big {n : Nat} (h : 240 ≤ n) : enc n = UInt8.ofNat (240 + nby n) :: be (nby n) n := by rw [enc, if_neg (by omega)]

/-- How many bytes a number has, as Size tells. -/
def sizeN (n : Nat) : Nat := if n < 240 then 1 else 1 + nby n
theorem length_enc (n : Nat) : (enc n).length = sizeN n := by
  unfold enc sizeN
  split
  · rfl
  · simp [length_be]; omega
theorem sizeN_pos (n : Nat) : 1 ≤ sizeN n := by unfold sizeN; split <;> omega
theorem sizeN_most {n : Nat} (h : n ≤ mostN) : sizeN n ≤ 7 := by
  have := nby_most h
  unfold sizeN; split <;> omega
theorem sizeN_mono {a b : Nat} (h : a ≤ b) : sizeN a ≤ sizeN b := by
  have := nby_mono h
  have := nby_pos b
  unfold sizeN
  split <;> split <;> omega

/-- The number with which bytes begin, and how many bytes it has. -/
def tak : List UInt8 → Option (Nat × Nat)
  | [] => none
  | c :: r =>
    if c.toNat < 240 then some (c.toNat, 1)
    else
      let k := c.toNat - 240
      let n := val (r.take k)
      if 1 ≤ k ∧ k ≤ 6 ∧ k ≤ r.length ∧ n ≤ mostN ∧ sizeN n = 1 + k then some (n, 1 + k) else none

theorem tak_enc {n : Nat} (h : n ≤ mostN) (r : List UInt8) : tak (enc n ++ r) = some (n, sizeN n) := by
  by_cases hs : n < 240
  · rw [enc_small hs]
    have h1 : (UInt8.ofNat n).toNat = n := by simp; omega
    simp only [List.cons_append, List.nil_append, tak, h1, if_pos hs, sizeN]
  · have h6 := nby_most h
    have hp := nby_pos n
    rw [enc_big (by omega)]
    have h1 : (UInt8.ofNat (240 + nby n)).toNat = 240 + nby n := by simp; omega
    have h2 : List.take (nby n) (be (nby n) n ++ r) = be (nby n) n := by rw [List.take_append_of_le_length (by rw [length_be]; omega)]; rw [List.take_of_length_le (by rw [length_be]; omega)]
    have h3 : val (be (nby n) n) = n := val_be _ _ (nby_le (Nat.le_refl _))
    have h4 : sizeN n = 1 + nby n := by rw [sizeN, if_neg hs]
    simp only [List.cons_append, tak, h1]
    rw [if_neg (by omega)]
    have h5 : 240 + nby n - 240 = nby n := by omega
    rw [h5, h2, h3, if_pos ⟨hp, h6, by simp [length_be], h, h4⟩, h4]

theorem tak_some {s : List UInt8} {n z : Nat} (h : tak s = some (n, z)) : n ≤ mostN ∧ z = sizeN n ∧ z ≤ s.length ∧ s.take z = enc n := by
  cases s with
  | nil => simp [tak] at h
  | cons c r =>
    simp only [tak] at h
    by_cases hc : c.toNat < 240
    · rw [if_pos hc] at h
      simp at h
      obtain ⟨rfl, rfl⟩ := h
      refine ⟨by unfold mostN; omega, by rw [sizeN, if_pos hc], by simp, ?_⟩
      rw [enc_small hc]; simp
    · rw [if_neg hc] at h
      split at h
      · rename_i hk
        obtain ⟨k1, k2, k3, k4, k5⟩ := hk
        simp at h
        obtain ⟨rfl, rfl⟩ := h
        have hlen : (List.take (c.toNat - 240) r).length = c.toNat - 240 := by simp; omega
        refine ⟨k4, k5.symm, by simp; omega, ?_⟩
        have hn : ¬ val (List.take (c.toNat - 240) r) < 240 := by
          intro hlt; rw [sizeN, if_pos hlt] at k5; omega
        rw [sizeN, if_neg hn] at k5
        have hby : nby (val (List.take (c.toNat - 240) r)) = c.toNat - 240 := by omega
        rw [enc_big (by omega), hby, Nat.add_comm 1, List.take_succ_cons]
        have := be_val (List.take (c.toNat - 240) r)
        rw [hlen] at this
        have hcc : UInt8.ofNat (240 + (c.toNat - 240)) = c := by
          rw [show 240 + (c.toNat - 240) = c.toNat by omega]; simp
        rw [this, hcc]
      · simp at h

/-- There and back, the other way: what is taken was put so. -/
theorem tak_split {s : List UInt8} {n z : Nat} (h : tak s = some (n, z)) : s = enc n ++ s.drop z := by
  obtain ⟨_, _, _, h4⟩ := tak_some h
  rw [← h4, List.take_append_drop]

end Go.Proofs.Ytpefjcmaggimhaa

