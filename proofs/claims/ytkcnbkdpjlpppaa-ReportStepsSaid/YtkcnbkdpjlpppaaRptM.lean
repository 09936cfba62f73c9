
/-
  staitheref19: the reference's report, New.
-/
import Derived.Test.YtkcnbkdpjlpppaaRptL
import Derived.Test.YtkcnbkdpjlpppaaRcD
import Derived.Test.YtkcnbkdpjlpppaaCelP
namespace Go.Proofs.Ytkcnbkdpjlpppaa
open Go.RowKit
set_option linter.unusedVariables false
set_option linter.unusedSimpArgs false
set_option maxRecDepth 100000
attribute [local go_sem ↓] exec_ld37

/-- A race of the reference. -/
structure Qr where
  th : Bool
  c : Int
  a : Int
  b : Int
  f : Int
  wr : Bool
instance : Inhabited Qr := ⟨⟨false, 0, 0, 0, 0, false⟩⟩
def qrV (r : Qr) : Value := .agg #[.bool r.th, .int .i64 r.c, .int .i64 r.a, .int .i64 r.b, .int .i64 r.f, .bool r.wr]
structure QrC (w : World) (d o : Nat) (r : Qr) : Prop where
  c0 : w.cell? ⟨d, o, none⟩ = some (.bool r.th)
  c1 : w.cell? ⟨d, o + 1, none⟩ = some (.int .i64 r.c)
  c2 : w.cell? ⟨d, o + 2, none⟩ = some (.int .i64 r.a)
  c3 : w.cell? ⟨d, o + 3, none⟩ = some (.int .i64 r.b)
  c4 : w.cell? ⟨d, o + 4, none⟩ = some (.int .i64 r.f)
  c5 : w.cell? ⟨d, o + 5, none⟩ = some (.bool r.wr)
structure RR (w : World) (d : Nat) (ms : Nat → M18) (rs : Nat → Qr) : Prop where
  ty : ∃ cur, w.heap[d]? = some (.cells cur 72 (0, 0))
  c : ∀ i, i < 8 → R18 w d (i * 261) (ms i)
  r : ∀ i, i < 8 → QrC w d (2088 + i * 6) (rs i)
theorem RR.lt {w : World} {d : Nat} {ms : Nat → M18} {rs : Nat → Qr} (h : RR w d ms rs) : d < w.heap.size := by
  obtain ⟨cur, h1⟩ := h.ty
  exact lt_of_heap h1
theorem QrC.frame {w w' : World} {d o : Nat} {r : Qr} (h : QrC w d o r) (hf : w'.heap[d]? = w.heap[d]?) : QrC w' d o r := by
  obtain ⟨c0, c1, c2, c3, c4, c5⟩ := h
  exact ⟨(World.cell?_of_block hf).trans c0, (World.cell?_of_block hf).trans c1, (World.cell?_of_block hf).trans c2, (World.cell?_of_block hf).trans c3, (World.cell?_of_block hf).trans c4, (World.cell?_of_block hf).trans c5⟩
theorem RR.frame {w w' : World} {d : Nat} {ms : Nat → M18} {rs : Nat → Qr} (h : RR w d ms rs) (hf : w'.heap[d]? = w.heap[d]?) : RR w' d ms rs := by
  obtain ⟨cur, h1⟩ := h.ty
  exact ⟨⟨cur, hf.trans h1⟩, fun i hi => (h.c i hi).frame hf, fun i hi => (h.r i hi).frame hf⟩
theorem RR.below {w w' : World} {d : Nat} {ms : Nat → M18} {rs : Nat → Qr} (h : RR w d ms rs) (hB : Below w.heap.size w w') : RR w' d ms rs := h.frame (hB.block d h.lt)
/-- Outside of the cells that turn nothing turns. -/
theorem only_out {d o n j : Nat} {w w' : World} {cur : Array Value} {e : TypeId} (ho : Only d o n w w') (hc : w.heap[d]? = some (.cells cur e (0, 0))) (hj : j < o ∨ o + n ≤ j) : w'.cell? ⟨d, j, none⟩ = w.cell? ⟨d, j, none⟩ := by
  obtain ⟨cur', h1, _, h3⟩ := ho.here cur e hc
  simp only [World.cell?, h1, hc]
  simpa using h3 j hj
theorem only_frozen {d o n : Nat} {w w' : World} {cur : Array Value} {e : TypeId} (ho : Only d o n w w') (hc : w.heap[d]? = some (.cells cur e (0, 0))) (j : Nat) : w'.frozen? ⟨d, j, none⟩ = false := by
  obtain ⟨cur', h1, _, h3⟩ := ho.here cur e hc
  simp [World.frozen?, h1]
theorem R18.out {d o n p : Nat} {w w' : World} {m : M18} {cur : Array Value} {e : TypeId} (h : R18 w d p m) (ho : Only d o n w w') (hc : w.heap[d]? = some (.cells cur e (0, 0))) (hj : p + 261 ≤ o ∨ o + n ≤ p) : R18 w' d p m :=
  ⟨h.len, fun i hi => (only_out ho hc (by omega)).trans (h.at' i hi), fun i => only_frozen ho hc i⟩
theorem QrC.out {d o n p : Nat} {w w' : World} {r : Qr} {cur : Array Value} {e : TypeId} (h : QrC w d p r) (ho : Only d o n w w') (hc : w.heap[d]? = some (.cells cur e (0, 0))) (hj : p + 6 ≤ o ∨ o + n ≤ p) : QrC w' d p r := by
  obtain ⟨c0, c1, c2, c3, c4, c5⟩ := h
  exact ⟨(only_out ho hc (by omega)).trans c0, (only_out ho hc (by omega)).trans c1, (only_out ho hc (by omega)).trans c2, (only_out ho hc (by omega)).trans c3, (only_out ho hc (by omega)).trans c4, (only_out ho hc (by omega)).trans c5⟩
def updM (ms : Nat → M18) (c : Nat) (m : M18) : Nat → M18 := fun i => if i = c then m else ms i
def updQ (rs : Nat → Qr) (c : Nat) (r : Qr) : Nat → Qr := fun i => if i = c then r else rs i
theorem RR.turn {w w' : World} {d c : Nat} {ms : Nat → M18} {rs : Nat → Qr} {m : M18} (h : RR w d ms rs) (hc : c < 8) (ho : Only d (c * 261) 261 w w') (hm : R18 w' d (c * 261) m) : RR w' d (updM ms c m) rs := by
  obtain ⟨cur, h1⟩ := h.ty
  refine ⟨?_, fun i hi => ?_, fun i hi => (h.r i hi).out ho h1 (by omega)⟩
  · obtain ⟨cur', h2, _⟩ := ho.here cur _ h1
    exact ⟨cur', h2⟩
  · unfold updM
    by_cases hic : i = c
    · subst hic; rw [if_pos rfl]; exact hm
    · rw [if_neg hic]; exact (h.c i hi).out ho h1 (by omega)
theorem only_race {w : World} {d o : Nat} (u0 u1 u2 u3 u4 u5 : Value) : Only d o 6 w ((((((w.setCell ⟨d, o, none⟩ u0).setCell ⟨d, o + 1, none⟩ u1).setCell ⟨d, o + 2, none⟩ u2).setCell ⟨d, o + 3, none⟩ u3).setCell ⟨d, o + 4, none⟩ u4).setCell ⟨d, o + 5, none⟩ u5) :=
  ((((((Only.of_set (t := 0) u0 (by omega)).trans (Only.of_set (t := 1) u1 (by omega))).trans (Only.of_set (t := 2) u2 (by omega))).trans (Only.of_set (t := 3) u3 (by omega))).trans (Only.of_set (t := 4) u4 (by omega))).trans (Only.of_set (t := 5) u5 (by omega)))
theorem RR.race {w : World} {d c : Nat} {ms : Nat → M18} {rs : Nat → Qr} (h : RR w d ms rs) (hc : c < 8) (r : Qr) :
    RR ((((((w.setCell ⟨d, 2088 + c * 6, none⟩ (.bool r.th)).setCell ⟨d, 2088 + c * 6 + 1, none⟩ (.int .i64 r.c)).setCell ⟨d, 2088 + c * 6 + 2, none⟩ (.int .i64 r.a)).setCell ⟨d, 2088 + c * 6 + 3, none⟩ (.int .i64 r.b)).setCell ⟨d, 2088 + c * 6 + 4, none⟩ (.int .i64 r.f)).setCell ⟨d, 2088 + c * 6 + 5, none⟩ (.bool r.wr)) d ms (updQ rs c r) := by
  obtain ⟨cur, h1⟩ := h.ty
  have ho := only_race (w := w) (d := d) (o := 2088 + c * 6) (.bool r.th) (.int .i64 r.c) (.int .i64 r.a) (.int .i64 r.b) (.int .i64 r.f) (.bool r.wr)
  refine ⟨?_, fun i hi => (h.c i hi).out ho h1 (by omega), fun i hi => ?_⟩
  · obtain ⟨cur', h2, _⟩ := ho.here cur _ h1
    exact ⟨cur', h2⟩
  · unfold updQ
    by_cases hic : i = c
    · subst hic
      rw [if_pos rfl]
      obtain ⟨c0, c1, c2, c3, c4, c5⟩ := h.r i hi
      have ne : ∀ {j k : Nat}, j ≠ k → (⟨d, j, none⟩ : Addr) ≠ ⟨d, k, none⟩ := fun hjk e => by injection e with e1 e2; exact hjk e2
      have far : ∀ (W : World) (j k : Nat) (v : Value), k ≠ j → (W.setCell ⟨d, k, none⟩ v).cell? ⟨d, j, none⟩ = W.cell? ⟨d, j, none⟩ := fun W j k v hjk => World.cell?_setCell_other _ _ _ _ (by intro e; injection e with e1 e2; omega)
      refine ⟨?_, ?_, ?_, ?_, ?_, ?_⟩
      · rw [far _ _ _ _ (by omega), far _ _ _ _ (by omega), far _ _ _ _ (by omega), far _ _ _ _ (by omega), far _ _ _ _ (by omega)]
        exact World.cell?_setCell_same _ _ _ c0
      · rw [far _ _ _ _ (by omega), far _ _ _ _ (by omega), far _ _ _ _ (by omega), far _ _ _ _ (by omega)]
        exact World.cell?_setCell_same _ _ _ (by rw [far _ _ _ _ (by omega)]; exact c1)
      · rw [far _ _ _ _ (by omega), far _ _ _ _ (by omega), far _ _ _ _ (by omega)]
        exact World.cell?_setCell_same _ _ _ (by rw [far _ _ _ _ (by omega), far _ _ _ _ (by omega)]; exact c2)
      · rw [far _ _ _ _ (by omega), far _ _ _ _ (by omega)]
        exact World.cell?_setCell_same _ _ _ (by rw [far _ _ _ _ (by omega), far _ _ _ _ (by omega), far _ _ _ _ (by omega)]; exact c3)
      · rw [far _ _ _ _ (by omega)]
        exact World.cell?_setCell_same _ _ _ (by rw [far _ _ _ _ (by omega), far _ _ _ _ (by omega), far _ _ _ _ (by omega), far _ _ _ _ (by omega)]; exact c4)
      · exact World.cell?_setCell_same _ _ _ (by rw [far _ _ _ _ (by omega), far _ _ _ _ (by omega), far _ _ _ _ (by omega), far _ _ _ _ (by omega), far _ _ _ _ (by omega)]; exact c5)
    · rw [if_neg hic]; exact (h.r i hi).out ho h1 (by omega)

/-! ### New -/
def z19 (j : Nat) : Value := if j < 2088 then (if j % 261 = 2 ∨ j % 261 = 3 ∨ j % 261 = 260 then .bool false else .int .i64 0) else (if (j - 2088) % 6 = 0 ∨ (j - 2088) % 6 = 5 then .bool false else .int .i64 0)
def zero19 : List Value := (List.range 2136).map z19
set_option maxRecDepth 1000000 in
theorem info19 : (Try.prog.info? 72).map (fun i => (i.zero, i.size)) = some (some (.agg zero19.toArray), 2136) := by kernel_rfl
def m0 : M18 := ⟨0, 0, false, false, zeroR, false⟩
def m1 : M18 := ⟨0, 0, true, false, zeroR, false⟩
theorem cv18_m0 {j : Nat} (hj : j < 261) : cv18 m0 j = if j = 2 ∨ j = 3 ∨ j = 260 then .bool false else .int .i64 0 := by
  unfold cv18 m0
  dsimp only
  by_cases h0 : j = 0
  · subst h0; rfl
  by_cases h1 : j = 1
  · subst h1; rfl
  by_cases h2 : j = 2
  · subst h2; rfl
  by_cases h3 : j = 3
  · subst h3; rfl
  rw [if_neg h0, if_neg h1, if_neg h2, if_neg h3]
  by_cases h4 : j < 260
  · rw [if_pos h4, if_neg (by omega)]
    unfold zeroR
    rw [zeroK_get _ _ (by omega), if_pos (by omega)]
  · rw [if_neg h4, if_pos (by omega)]
theorem rr_zero {w : World} {Z : Array Value} (hZ : zero19.toArray = Z) : RR (w.alloc (.cells Z 72)) w.heap.size (fun _ => m0) (fun _ => default) := by
  subst hZ
  have hc : ∀ j, j < 2136 → (w.alloc (.cells zero19.toArray 72)).cell? ⟨w.heap.size, j, none⟩ = some (z19 j) := fun j hj => by
    simp only [World.cell?, heap_alloc_new]
    have : zero19[j]? = some (z19 j) := by unfold zero19; rw [List.getElem?_map, List.getElem?_range hj]; rfl
    simpa using this
  refine ⟨⟨_, heap_alloc_new w _⟩, fun i hi => ⟨zeroK_len _ _, fun j hj => ?_, fun j => by simp only [World.frozen?, heap_alloc_new]; simp⟩, fun i hi => ?_⟩
  · rw [hc _ (by omega)]
    congr 1
    rw [cv18_m0 hj]
    unfold z19
    rw [if_pos (by omega), show (i * 261 + j) % 261 = j by omega]
  · have key : ∀ j, j < 6 → (w.alloc (.cells zero19.toArray 72)).cell? ⟨w.heap.size, 2088 + i * 6 + j, none⟩ = some (if j = 0 ∨ j = 5 then .bool false else .int .i64 0) := fun j hj => by
      rw [hc _ (by omega)]
      congr 1
      unfold z19
      rw [if_neg (by omega), show (2088 + i * 6 + j - 2088) % 6 = j by omega]
    exact ⟨key 0 (by omega), key 1 (by omega), key 2 (by omega), key 3 (by omega), key 4 (by omega), key 5 (by omega)⟩
theorem qnew_any (w : World) : Calls Try.prog 16 #[] w fun r w' => (∃ d, r = .returned (.pointer (some ⟨d, 0, none⟩)) ∧ RR w' d (fun _ => m1) (fun _ => default) ∧ w.heap.size ≤ d) ∧ Below w.heap.size w w' := by
  obtain ⟨Z, hZ⟩ : ∃ Z, zero19.toArray = Z := ⟨_, rfl⟩
  have hz := (zero_of_info info19).1
  rw [hZ] at hz
  have R0 := Lib.hid (rr_zero (w := w) hZ)
  have B0 := Lib.hid (show Below w.heap.size w (w.alloc (.cells Z 72)) from (Below.refl _ _).alloc (Nat.le_refl _) _)
  clear hZ
  go_enter Try.func16, Try.ntmps16
  go_wp2_with fail
  go_loopw [2] (fun i wr => ∃ k : Nat, k ≤ 8 ∧ i = .int .i64 k ∧ RR wr w.heap.size (fun i => if i < k then m1 else m0) (fun _ => default) ∧ Below w.heap.size w wr) (fun i _ => 8 - (intOf i).toNat)
  case atStart => exact ⟨0, by omega, rfl, by simpa using R0.out, B0.out⟩
  case round =>
    obtain ⟨k, hk, rfl, hr, hb⟩ := hrel
    have R1 := Lib.hid hr
    have B1 := Lib.hid hb
    clear hr hb
    by_cases hlt : k < 8
    · have hlt' : (k : Int) < 8 := by omega
      have rk := R1.out.c k hlt
      simp only [Nat.lt_irrefl, if_false] at rk
      have c0 := rk.c0
      have c1 := rk.c1
      have c2 := rk.c2
      have c3 := rk.c3
      have f0 := rk.fz (k * 261)
      have f1 := rk.fz (k * 261 + 1)
      have f2 := rk.fz (k * 261 + 2)
      have f3 := rk.fz (k * 261 + 3)
      unfold m0 at c0 c1 c2 c3
      dsimp only at c0 c1 c2 c3
      have RK := Lib.hid rk
      clear rk
      go_wp2_with fail
      have NR := Lib.hid (R1.out.turn hlt (only_w (.int .i64 0) (.int .i64 0) (.bool true) (.bool false)) (RK.out.set_w 0 0 true false))
      go_roundw
      case rel => exact ⟨k + 1, by omega, by go_num, by
        have e : (fun i => if i < k + 1 then m1 else m0) = updM (fun i => if i < k then m1 else m0) k m1 := by
          funext i
          unfold updM
          by_cases h1 : i = k
          · subst h1; simp
          · by_cases h2 : i < k
            · rw [if_pos (by omega), if_neg h1]; simp only [h2, if_true]
            · rw [if_neg (by omega), if_neg h1]; simp only [h2, if_false]
        rw [e]; exact NR.out, (((B1.out.setCell (p := ⟨w.heap.size, k * 261, none⟩) (Nat.le_refl _) _).setCell (p := ⟨w.heap.size, k * 261 + 1, none⟩) (Nat.le_refl _) _).setCell (p := ⟨w.heap.size, k * 261 + 2, none⟩) (Nat.le_refl _) _).setCell (p := ⟨w.heap.size, k * 261 + 3, none⟩) (Nat.le_refl _) _⟩
      case measure => simp [intOf] <;> omega
    · have hge : (8 : Int) ≤ k := by omega
      have hk8 : k = 8 := by omega
      have R8 := Lib.hid (show RR wr w.heap.size (fun _ => m1) (fun _ => default) from by
        obtain ⟨h1, h2, h3⟩ := R1.out
        refine ⟨h1, fun i hi => ?_, h3⟩
        have := h2 i hi
        rw [if_pos (by omega)] at this
        exact this)
      clear hk8
      go_wp2_with fail
      go_ret
      exact ⟨⟨_, rfl, R8.out, Nat.le_refl _⟩, B1.out⟩
end Go.Proofs.Ytkcnbkdpjlpppaa

