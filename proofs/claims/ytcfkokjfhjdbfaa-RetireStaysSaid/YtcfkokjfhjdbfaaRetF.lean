
/-
  staithelaw20.settled.
-/
import Derived.Test.YtcfkokjfhjdbfaaRetE
namespace Go.Proofs.Ytcfkokjfhjdbfaa
open Go.RowKit
set_option linter.unusedVariables false
set_option linter.unusedSimpArgs false
set_option maxRecDepth 100000

/-- A literal of clocks. -/
theorem cks_lit (w : World) (l : List (Nat × Ck)) (h : ∀ p, p ∈ l → CkAt w p.1 p.2) (cs : Array Value) (hcs : (ptrs (l.map (·.1))).toArray = cs) (n : Nat) (hn : l.length = n) :
    CksOf (w.alloc (.cells cs 48)) (.slice (some ⟨w.heap.size, 0, none⟩) n n) n (fun j => (l.map (·.1)).getD j 0) (fun j => (l.map (·.2)).getD j ⟨0, [], false⟩) := by
  subst hcs hn
  refine ⟨_, _, rfl, fun hp => ⟨_, 0, rfl, fun j hj => ⟨?_, ?_⟩⟩⟩
  · simp only [World.cell?, heap_alloc_new, Nat.zero_add]
    simp [ptrs, hj, List.getD]
  · have h1 : (l.map (·.1)).getD j 0 = (l[j]).1 := by simp [List.getD, hj]
    have h2 : (l.map (·.2)).getD j ⟨0, [], false⟩ = (l[j]).2 := by simp [List.getD, hj]
    show CkAt _ ((l.map (·.1)).getD j 0) ((l.map (·.2)).getD j ⟨0, [], false⟩)
    rw [h1, h2]
    exact (h _ (List.getElem_mem hj)).below ((Below.refl _ _).alloc (Nat.le_refl _) _)

theorem settled_any (w : World) : Calls Try.prog 8 #[] w (RetB (.bool true) w) := by
  have e1 : ofE [1, 3] = 0 := by decide
  have e2 : ofE [2, 3] = 0 := by decide
  have e3 : ofE [0, 2] = 0 := by decide
  go_enter Try.func8, Try.ntmps8
  go_wp2_with fail
  refine (of_yes _ [1, 3] _ (src_lit w [1, 3] (by decide)) e1).mono ?_
  rintro r w1 ⟨b1, g1, rfl, K1, hB1, hg1, hb1⟩
  go_wp2_with fail
  refine (of_yes _ [2, 3] _ (src_lit w1 [2, 3] (by decide)) e2).mono ?_
  rintro r w2 ⟨b2, g2, rfl, K2, hB2, hg2, hb2⟩
  go_wp2_with fail
  refine (of_yes _ [0, 2] _ (src_lit w2 [0, 2] (by decide)) e3).mono ?_
  rintro r w3 ⟨b3, g3, rfl, K3, hB3, hg3, hb3⟩
  obtain ⟨BB1, s1⟩ := below_alloc hB1
  obtain ⟨BB2, s2⟩ := below_alloc hB2
  obtain ⟨BB3, s3⟩ := below_alloc hB3
  have B23 := below_trans BB2 BB3 BB2.size
  have k1 := Lib.hid (K1.below B23)
  have k2 := Lib.hid (K2.below BB3)
  have k3 := Lib.hid K3
  have BW := Lib.hid (below_trans BB1 B23 BB1.size)
  clear hB1 hB2 hB3 hg1 hg2 hg3 hb1 hb2 hb3 BB1 BB2 BB3 s1 s2 s3 B23 K1 K2 K3
  go_wp2_with fail
  have A1 : Below w3.heap.size w3 (w3.alloc (.cells #[.pointer (some ⟨b1, 0, none⟩), .pointer (some ⟨b2, 0, none⟩)] 48)) := (Below.refl _ _).alloc (Nat.le_refl _) _
  have X1 := cks_lit w3 [(b1, ⟨g1, [1, 3], false⟩), (b2, ⟨g2, [2, 3], false⟩)] (fun p hp => by
    simp at hp; rcases hp with rfl | rfl
    · exact k1.out
    · exact k2.out) #[.pointer (some ⟨b1, 0, none⟩), .pointer (some ⟨b2, 0, none⟩)] rfl 2 rfl
  have X2 := cks_lit (w3.alloc (.cells #[.pointer (some ⟨b1, 0, none⟩), .pointer (some ⟨b2, 0, none⟩)] 48)) [(b3, ⟨g3, [0, 2], false⟩)] (fun p hp => by
    simp at hp; subst hp; exact k3.out.below A1) #[.pointer (some ⟨b3, 0, none⟩)] rfl 1 rfl
  rw [size_alloc] at X2
  refine (of_cut 1 _ _ 2 1 _ _ _ _ _ (X1.below ((Below.refl _ _).alloc (Nat.le_refl _) _)) X2 (by decide) (by decide)).mono ?_
  rintro r w4 ⟨rfl, hB4⟩
  have B4 := below_trans ((A1).alloc (by rw [size_alloc]; omega) _) hB4 (by rw [size_alloc, size_alloc]; omega)
  have BB4 := Lib.hid (below_trans BW.out B4 BW.out.size)
  have k1' := Lib.hid (k1.out.below B4)
  have k2' := Lib.hid (k2.out.below B4)
  have k3' := Lib.hid (k3.out.below B4)
  have E1 : ∀ (f g : Nat → Int), f 0 = 3 → f 1 = 3 → g 0 = 2 → cutB 1 2 1 f g = (3, true) := fun f g h0 h1 h2 => by
    rw [cutB_in (by decide), show anyTo 2 (fun j => f j != f 0) = false from decide_eq_false (fun ⟨j, hj, e⟩ => by
      have : j = 0 ∨ j = 1 := by omega
      rcases this with rfl | rfl <;> simp [h0, h1] at e), show anyTo 1 (fun j => decide (f 0 < g j)) = false from decide_eq_false (fun ⟨j, hj, e⟩ => by
      have : j = 0 := by omega
      subst this
      simp [h0, h2] at e), h0]
    rfl
  have E2 : ∀ (f g : Nat → Int), f 0 = 1 → f 1 = 2 → cutB 0 2 0 f g = (0, false) := fun f g h0 h1 => by
    rw [cutB_in (by decide), show anyTo 2 (fun j => f j != f 0) = true from decide_eq_true ⟨1, by decide, by simp [h0, h1]⟩]
    rfl
  rw [E1 _ _ (by rfl) (by rfl) (by rfl)]
  clear hB4 X1 X2 A1 B4 k1 k2 k3 BW
  go_wp2_with fail
  have X3 := cks_lit w4 [(b1, ⟨g1, [1, 3], false⟩), (b2, ⟨g2, [2, 3], false⟩)] (fun p hp => by
    simp at hp; rcases hp with rfl | rfl
    · exact k1'.out
    · exact k2'.out) #[.pointer (some ⟨b1, 0, none⟩), .pointer (some ⟨b2, 0, none⟩)] rfl 2 rfl
  refine (of_cut 0 _ (.slice none 0 0) 2 0 _ _ (fun _ => 0) (fun _ => ⟨0, [], false⟩) _ X3 ⟨none, 0, rfl, fun hp => by omega⟩ (by decide) (by decide)).mono ?_
  rintro r w5 ⟨rfl, hB5⟩
  have B5 := below_trans ((Below.refl _ _).alloc (Nat.le_refl _) _) hB5 (by rw [size_alloc]; omega)
  have BB5 := Lib.hid (below_trans BB4.out B5 BB4.out.size)
  have k1 := Lib.hid (k1'.out.below B5)
  have k2 := Lib.hid (k2'.out.below B5)
  have k3 := Lib.hid (k3'.out.below B5)
  rw [E2 _ _ (by rfl) (by rfl)]
  clear hB5 X3 B5 k1' k2' k3' BB4 E1 E2
  go_wp2_with fail
  have X4 := cks_lit w5 [(b1, ⟨g1, [1, 3], false⟩), (b2, ⟨g2, [2, 3], false⟩), (b3, ⟨g3, [0, 2], false⟩)] (fun p hp => by
    simp at hp; rcases hp with rfl | rfl | rfl
    · exact k1.out
    · exact k2.out
    · exact k3.out) #[.pointer (some ⟨b1, 0, none⟩), .pointer (some ⟨b2, 0, none⟩), .pointer (some ⟨b3, 0, none⟩)] rfl 3 rfl
  refine (greatest_any 0 _ 3 _ _ _ X4 (by decide)).mono ?_
  rintro r w6 ⟨rfl, m, rfl⟩
  have E3 : ∀ (f : Nat → Int), f 0 = 1 → f 1 = 2 → f 2 = 0 → maxTo f 3 = 2 := fun f h0 h1 h2 => by simp only [maxTo, h0, h1, h2]; decide
  rw [E3 _ (by rfl) (by rfl) (by rfl)]
  clear E3 X4
  go_wp2_with fail
  go_ret
  exact ⟨rfl, below_drewN (BB5.out.alloc BB5.out.size _) m⟩

end Go.Proofs.Ytcfkokjfhjdbfaa

