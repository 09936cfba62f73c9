
/-
  staitheref18: a cell of the reference, anywhere; Read, Put, Retire, New.
-/
import Derived.Test.YtkcnbkdpjlpppaaRcA
namespace Go.Proofs.Ytkcnbkdpjlpppaa
open Go.RowKit
set_option linter.unusedVariables false
set_option linter.unusedSimpArgs false
set_option maxRecDepth 100000

def ld37 (v : Value) := Instr.loadAt 91 v
theorem exec_ld37 (d : Option Tmp) (x : Operand) (ty : TypeId) (pos : String) (after : Array Edge) (gd : Option (Nat × Bool)) (ρ : Operand → Value) : execOp ρ (Oper.mk d (.load 91 x) ty pos after gd) = (do pure (.value (← ld37 (ρ x)))) := rfl
theorem run_ld37 (b o : Nat) (l : List Int) (hl : l.length = 256) (Z : Array Value) (hZ : (ints l).toArray = Z) (w : World) (h : w.rangeAt b o (ints l)) : (ld37 (.pointer (some ⟨b, o, none⟩))).run Try.prog w = .ok (.agg Z) w := by
  rw [← hZ]
  exact run_loadAt_mid w b o 91 (ints l) _ h Try.underlying91 rfl (by rw [rsize, length_ints, hl])
attribute [local go_sem ↓] exec_ld37

structure M18 where
  t : Int
  n : Int
  no : Bool
  ta : Bool
  rd : List Int
  tl : Bool
def cv18 (m : M18) (i : Nat) : Value := if i = 0 then .int .i64 m.t else if i = 1 then .int .i64 m.n else if i = 2 then .bool m.no else if i = 3 then .bool m.ta else if i < 260 then .int .i64 (m.rd.getD (i - 4) 0) else .bool m.tl
structure R18 (w : World) (b o : Nat) (m : M18) : Prop where
  len : m.rd.length = 256
  at' : ∀ i, i < 261 → w.cell? ⟨b, o + i, none⟩ = some (cv18 m i)
  fz : ∀ i, w.frozen? ⟨b, i, none⟩ = false
theorem R18.lt {w : World} {b o : Nat} {m : M18} (h : R18 w b o m) : b < w.heap.size := block_lt_of_cell (h.at' 0 (by omega))
theorem R18.below {w w' : World} {b o : Nat} {m : M18} (h : R18 w b o m) (hB : Below w.heap.size w w') : R18 w' b o m :=
  ⟨h.len, fun i hi => by rw [hB.cell (p := ⟨b, o + i, none⟩) h.lt]; exact h.at' i hi, fun i => by rw [hB.frozen (p := ⟨b, i, none⟩) h.lt]; exact h.fz i⟩
theorem R18.drew {w : World} {b o : Nat} {m : M18} (h : R18 w b o m) : R18 w.drew b o m := ⟨h.len, h.at', h.fz⟩
theorem R18.frame {w w' : World} {b o : Nat} {m : M18} (h : R18 w b o m) (hf : w'.heap[b]? = w.heap[b]?) : R18 w' b o m :=
  ⟨h.len, fun i hi => (World.cell?_of_block hf).trans (h.at' i hi), fun i => by have := h.fz i; simp only [World.frozen?, hf] at this ⊢; exact this⟩
theorem R18.c0 {w : World} {b o : Nat} {m : M18} (h : R18 w b o m) : w.cell? ⟨b, o, none⟩ = some (.int .i64 m.t) := h.at' 0 (by omega)
theorem R18.c1 {w : World} {b o : Nat} {m : M18} (h : R18 w b o m) : w.cell? ⟨b, o + 1, none⟩ = some (.int .i64 m.n) := h.at' 1 (by omega)
theorem R18.c2 {w : World} {b o : Nat} {m : M18} (h : R18 w b o m) : w.cell? ⟨b, o + 2, none⟩ = some (.bool m.no) := h.at' 2 (by omega)
theorem R18.c3 {w : World} {b o : Nat} {m : M18} (h : R18 w b o m) : w.cell? ⟨b, o + 3, none⟩ = some (.bool m.ta) := h.at' 3 (by omega)
theorem R18.cr {w : World} {b o : Nat} {m : M18} (h : R18 w b o m) (i : Nat) (hi : i < 256) : w.cell? ⟨b, o + 4 + i, none⟩ = some (.int .i64 (m.rd.getD i 0)) := by
  have := h.at' (4 + i) (by omega)
  rw [← Nat.add_assoc] at this
  rw [this]
  unfold cv18
  rw [if_neg (by omega), if_neg (by omega), if_neg (by omega), if_neg (by omega), if_pos (by omega), show 4 + i - 4 = i by omega]
theorem R18.ct {w : World} {b o : Nat} {m : M18} (h : R18 w b o m) : w.cell? ⟨b, o + 260, none⟩ = some (.bool m.tl) := h.at' 260 (by omega)
theorem R18.put {w : World} {b o : Nat} {m m' : M18} (h : R18 w b o m) (i : Nat) (hi : i < 261) (hl : m'.rd.length = 256) (v : Value) (hv : cv18 m' i = v) (hm : ∀ j, j < 261 → j ≠ i → cv18 m' j = cv18 m j) : R18 (w.setCell ⟨b, o + i, none⟩ v) b o m' := by
  refine ⟨hl, fun j hj => ?_, fun j => by rw [World.frozen?_setCell]; exact h.fz j⟩
  by_cases hij : j = i
  · subst hij
    rw [World.cell?_setCell_same _ _ _ (h.at' j hj), hv]
  · rw [World.cell?_setCell_other _ _ _ _ (by intro e; injection e with e1 e2; omega), h.at' j hj, hm j hj hij]
theorem R18.set_rd {w : World} {b o : Nat} {m : M18} (h : R18 w b o m) (t : Nat) (ht : t < 256) (n : Int) : R18 (w.setCell ⟨b, o + 4 + t, none⟩ (.int .i64 n)) b o ⟨m.t, m.n, m.no, m.ta, m.rd.set t n, m.tl⟩ := by
  have hl := h.len
  have := h.put (m' := ⟨m.t, m.n, m.no, m.ta, m.rd.set t n, m.tl⟩) (4 + t) (by omega) (by simp [hl]) (.int .i64 n) ?_ ?_
  · rw [← Nat.add_assoc] at this; exact this
  · unfold cv18
    rw [if_neg (by omega), if_neg (by omega), if_neg (by omega), if_neg (by omega), if_pos (by omega), show 4 + t - 4 = t by omega]
    simp [List.getD, hl, ht]
  · intro j hj hne
    by_cases h4 : j < 4
    · have : j = 0 ∨ j = 1 ∨ j = 2 ∨ j = 3 := by omega
      rcases this with rfl | rfl | rfl | rfl <;> rfl
    · have h0 : j ≠ 0 := by omega
      have h1 : j ≠ 1 := by omega
      have h2 : j ≠ 2 := by omega
      have h3 : j ≠ 3 := by omega
      have h5 : ¬ t = j - 4 := by omega
      simp [cv18, h0, h1, h2, h3, List.getD, List.getElem?_set, h5]
theorem R18.set_tl {w : World} {b o : Nat} {m : M18} (h : R18 w b o m) (y : Bool) : R18 (w.setCell ⟨b, o + 260, none⟩ (.bool y)) b o ⟨m.t, m.n, m.no, m.ta, m.rd, y⟩ := by
  refine h.put (m' := ⟨m.t, m.n, m.no, m.ta, m.rd, y⟩) 260 (by omega) h.len _ rfl (fun j hj hne => ?_)
  have h5 : j < 260 := by omega
  simp [cv18, h5]
theorem R18.set_w {w : World} {b o : Nat} {m : M18} (h : R18 w b o m) (t n : Int) (no ta : Bool) : R18 ((((w.setCell ⟨b, o, none⟩ (.int .i64 t)).setCell ⟨b, o + 1, none⟩ (.int .i64 n)).setCell ⟨b, o + 2, none⟩ (.bool no)).setCell ⟨b, o + 3, none⟩ (.bool ta)) b o ⟨t, n, no, ta, m.rd, m.tl⟩ := by
  have h0 : R18 (w.setCell ⟨b, o, none⟩ (.int .i64 t)) b o ⟨t, m.n, m.no, m.ta, m.rd, m.tl⟩ := h.put (m' := ⟨t, m.n, m.no, m.ta, m.rd, m.tl⟩) 0 (by omega) h.len _ rfl (fun j hj hne => by simp [cv18, hne])
  have h1 : R18 (World.setCell _ ⟨b, o + 1, none⟩ (.int .i64 n)) b o ⟨t, n, m.no, m.ta, m.rd, m.tl⟩ := h0.put (m' := ⟨t, n, m.no, m.ta, m.rd, m.tl⟩) 1 (by omega) h.len _ rfl (fun j hj hne => by simp [cv18, hne])
  have h2 : R18 (World.setCell _ ⟨b, o + 2, none⟩ (.bool no)) b o ⟨t, n, no, m.ta, m.rd, m.tl⟩ := h1.put (m' := ⟨t, n, no, m.ta, m.rd, m.tl⟩) 2 (by omega) h.len _ rfl (fun j hj hne => by simp [cv18, hne])
  exact h2.put (m' := ⟨t, n, no, ta, m.rd, m.tl⟩) 3 (by omega) h.len _ rfl (fun j hj hne => by simp [cv18, hne])
theorem only_w {w : World} {b o : Nat} (u0 u1 u2 u3 : Value) : Only b o 261 w ((((w.setCell ⟨b, o, none⟩ u0).setCell ⟨b, o + 1, none⟩ u1).setCell ⟨b, o + 2, none⟩ u2).setCell ⟨b, o + 3, none⟩ u3) :=
  ((((Only.of_set (t := 0) u0 (by omega))).trans (Only.of_set (t := 1) u1 (by omega))).trans (Only.of_set (t := 2) u2 (by omega))).trans (Only.of_set (t := 3) u3 (by omega))

/-! ### Plain -/
def kn18 (rd : List Int) (tid : Int) (ns : List Int) (j : Nat) : Bool := rkB j (rd.getD j 0) false false tid ns
def clearK (rd : List Int) (tid : Int) (ns : List Int) (k : Nat) : List Int := (List.range 256).map fun j => if j < k ∧ 0 < rd.getD j 0 ∧ kn18 rd tid ns j = true then 0 else rd.getD j 0
theorem clearK_len (rd : List Int) (tid : Int) (ns : List Int) (k : Nat) : (clearK rd tid ns k).length = 256 := by simp [clearK]
theorem clearK_get (rd : List Int) (tid : Int) (ns : List Int) (k : Nat) {j : Nat} (hj : j < 256) : (clearK rd tid ns k).getD j 0 = if j < k ∧ 0 < rd.getD j 0 ∧ kn18 rd tid ns j = true then 0 else rd.getD j 0 := by
  unfold clearK
  rw [List.getD_eq_getElem?_getD, List.getElem?_eq_getElem (by simp; exact hj)]
  simp
theorem list_ext256 {a b : List Int} (ha : a.length = 256) (hb : b.length = 256) (h : ∀ j, j < 256 → a.getD j 0 = b.getD j 0) : a = b := by
  apply List.ext_getElem (by omega)
  intro i h1 h2
  have := h i (by omega)
  rw [List.getD_eq_getElem?_getD, List.getD_eq_getElem?_getD, List.getElem?_eq_getElem h1, List.getElem?_eq_getElem h2] at this
  simpa using this
theorem getD_set256 {a : List Int} (ha : a.length = 256) {k j : Nat} (hk : k < 256) (n : Int) : (a.set k n).getD j 0 = if j = k then n else a.getD j 0 := by
  by_cases h : j = k
  · subst h; rw [if_pos rfl]; simp [List.getD, ha, hk]
  · rw [if_neg h]
    have : ¬ k = j := fun e => h e.symm
    simp [List.getD, List.getElem?_set, this]
theorem clearK_zero {rd : List Int} (h : rd.length = 256) (tid : Int) (ns : List Int) : clearK rd tid ns 0 = rd :=
  list_ext256 (clearK_len _ _ _ _) h (fun j hj => by rw [clearK_get _ _ _ _ hj, if_neg (by omega)])
theorem clearK_at (rd : List Int) (tid : Int) (ns : List Int) {k : Nat} (hk : k < 256) : (clearK rd tid ns k).getD k 0 = rd.getD k 0 := by
  rw [clearK_get _ _ _ _ hk, if_neg (by omega)]
theorem clearK_yes {rd : List Int} {tid : Int} {ns : List Int} {k : Nat} (hk : k < 256) (h1 : 0 < rd.getD k 0) (h2 : kn18 rd tid ns k = true) : (clearK rd tid ns k).set k 0 = clearK rd tid ns (k + 1) :=
  list_ext256 (by simp [clearK_len]) (clearK_len _ _ _ _) (fun j hj => by
    rw [getD_set256 (clearK_len _ _ _ _) hk, clearK_get _ _ _ _ hj, clearK_get _ _ _ _ hj]
    by_cases hjk : j = k
    · subst hjk; rw [if_pos rfl, if_pos ⟨by omega, h1, h2⟩]
    · rw [if_neg hjk]
      by_cases h3 : j < k
      · simp [h3, show j < k + 1 by omega]
      · rw [if_neg (by omega), if_neg (by omega)])
theorem clearK_no {rd : List Int} {tid : Int} {ns : List Int} {k : Nat} (hk : k < 256) (h : ¬ (0 < rd.getD k 0 ∧ kn18 rd tid ns k = true)) : clearK rd tid ns k = clearK rd tid ns (k + 1) :=
  list_ext256 (clearK_len _ _ _ _) (clearK_len _ _ _ _) (fun j hj => by
    rw [clearK_get _ _ _ _ hj, clearK_get _ _ _ _ hj]
    by_cases hjk : j = k
    · subst hjk; rw [if_neg (by omega), if_neg (fun hh => h hh.2)]
    · by_cases h3 : j < k
      · simp [h3, show j < k + 1 by omega]
      · rw [if_neg (by omega), if_neg (by omega)])
def readR (rd : List Int) (tid : Nat) (n : Int) (ns : List Int) : List Int := (clearK rd tid ns 256).set tid n

def RReadPost (b o : Nat) (m : M18) (tid : Nat) (n : Int) (ns : List Int) (w : World) (r : Ending) (w' : World) : Prop :=
  r = .returned (.int .i64 (if rkB m.t m.n m.no m.ta tid ns then 0 else 1)) ∧ R18 w' b o ⟨m.t, m.n, m.no, m.ta, readR m.rd tid n ns, m.tl⟩ ∧ Only b o 261 w w'
set_option maxHeartbeats 4000000 in
theorem rread_any (b o : Nat) (m : M18) (tid : Nat) (n : Int) (ns : List Int) (Z : Array Value) (hZ : (ints ns).toArray = Z) (hl : ns.length = 256) (w : World) (h : R18 w b o m) (ht : tid < 256) :
    Calls Try.prog 51 #[.pointer (some ⟨b, o, none⟩), .int .i64 tid, .int .i64 n, .agg Z] w (RReadPost b o m tid n ns w) := by
  obtain ⟨W2, hW2⟩ : ∃ W2, w.alloc (.cells Z 91) = W2 := ⟨_, rfl⟩
  obtain ⟨hrc, hb2⟩ := boxed hZ hl hW2
  have hbq : w.heap.size ≠ b := by have := h.lt; omega
  have hbq' : b ≠ w.heap.size := Ne.symm hbq
  have LD := run_ld37 w.heap.size 0 ns hl Z hZ
  have KN := Lib.hid (fun t n no ta X => rknown_any t n no ta tid ns Z hZ hl X)
  have H := Lib.hid (h.below hb2)
  have RCX := Lib.hid hrc
  have B := Lib.hid hb2
  have HW2 := Lib.hid hW2
  have HLT := Lib.hid h.lt
  have ht' : (tid : Int) < 256 := by omega
  clear h hrc hb2 hW2 hZ hl
  obtain ⟨mt, mn, mno, mta, rd, mtl⟩ := m
  go_enter Try.func51, Try.ntmps51
  go_upto_region 1 with fail
  rw [HW2.out]
  go_wp2_with fail
  go_loopw [9] (fun i wr => ∃ k : Nat, k ≤ 256 ∧ i = .int .i64 k ∧ R18 wr b o ⟨mt, mn, mno, mta, clearK rd tid ns k, mtl⟩ ∧ Only b o 261 W2 wr) (fun i _ => 256 - (intOf i).toNat)
  case atStart => exact ⟨0, by omega, rfl, by rw [clearK_zero H.out.len]; exact H.out, Only.refl _ _ _ _⟩
  case round =>
    obtain ⟨k, hk, rfl, hr, ho⟩ := hrel
    have HR := Lib.hid hr
    have HO := Lib.hid ho
    have rc := RCX.out.range
    have RG := Lib.hid (show ∀ w', Only b o 261 W2 w' → w'.rangeAt w.heap.size 0 (ints ns) from fun w' hh j v hj => (World.cell?_of_block (hh.block _ RCX.out.lt hbq)).trans (RCX.out.range j v hj))
    have rg := RG.out _ HO.out
    clear hr ho rc
    by_cases hlt : k < 256
    · have hlt' : (k : Int) < 256 := by omega
      have c0 := HR.out.cr k hlt
      have f0 := HR.out.fz (o + 4 + k)
      have E := Lib.hid (clearK_at rd tid ns hlt)
      dsimp only at c0
      rw [E.out] at c0
      obtain ⟨u, hu⟩ : ∃ u, rd.getD k 0 = u := ⟨_, rfl⟩
      rw [hu] at c0
      have HU := Lib.hid hu
      clear hu
      by_cases hup : 0 < u
      · obtain ⟨y, hy⟩ : ∃ y, rkB k u false false tid ns = y := ⟨_, rfl⟩
        have KY := Lib.hid (show kn18 rd tid ns k = y from by unfold kn18; rw [HU.out]; exact hy)
        have KC := Lib.hid (KN.out k u false false wr.drew)
        rw [hy] at KC
        clear hy
        go_wp2_with fail
        refine wp_region_held_drew (S := (fun w' => w'.cell? ⟨b, o + 4 + k, none⟩ = some (.int .i64 u) ∧ w'.rangeAt w.heap.size 0 (ints ns))) (by kernel_rfl) (by (try dsimp only); ((first | assumption | (refine ⟨?_, ?_⟩ <;> assumption)))) (fun hHeld => ?_)
        refine wpAnyH_take (i := 0) (v := ?va0) rfl (by kernel_rfl) (by kernel_rfl) (by kernel_rfl) (fun _ _ _ h => h) (Or.inl ⟨by kernel_rfl, ?hya0⟩) (by assumption) ?resta0
        case hya0 => (intro w hSw; (try dsimp only at hSw); go_simp; try with_reducible rfl)
        try simp only [Act.put, List.getElem_toArray, List.getElem_cons_succ, List.getElem_cons_zero, List.setIfInBounds_toArray, List.set_cons_zero, List.set_cons_succ]
        refine wpAnyH_take (i := 1) (v := ?va1) rfl (by kernel_rfl) (by kernel_rfl) (by kernel_rfl) (fun _ _ _ h => h) (Or.inl ⟨by kernel_rfl, ?hya1⟩) (by assumption) ?resta1
        case hya1 => (intro w hSw; (try dsimp only at hSw); go_simp; try with_reducible rfl)
        try simp only [Act.put, List.getElem_toArray, List.getElem_cons_succ, List.getElem_cons_zero, List.setIfInBounds_toArray, List.set_cons_zero, List.set_cons_succ]
        refine wpAnyH_take (i := 2) (v := ?va2) rfl (by kernel_rfl) (by kernel_rfl) (by kernel_rfl) (fun _ _ _ h => h) (Or.inl ⟨by kernel_rfl, ?hya2⟩) (by assumption) ?resta2
        case hya2 => (intro w hSw; (try dsimp only at hSw); go_simp; try with_reducible rfl)
        try simp only [Act.put, List.getElem_toArray, List.getElem_cons_succ, List.getElem_cons_zero, List.setIfInBounds_toArray, List.set_cons_zero, List.set_cons_succ]
        refine wpAnyH_take (i := 3) (v := ?va3) rfl (by kernel_rfl) (by kernel_rfl) (by kernel_rfl) (fun _ _ _ h => h) (Or.inl ⟨by kernel_rfl, ?hya3⟩) (by assumption) ?resta3
        case hya3 => (intro w hSw; (try dsimp only at hSw); go_simp; try with_reducible rfl)
        try simp only [Act.put, List.getElem_toArray, List.getElem_cons_succ, List.getElem_cons_zero, List.setIfInBounds_toArray, List.set_cons_zero, List.set_cons_succ]
        refine wpAnyH_take (i := 4) (v := ?va4) rfl (by kernel_rfl) (by kernel_rfl) (by kernel_rfl) (fun _ _ _ h => h) (Or.inl ⟨by kernel_rfl, ?hya4⟩) (by assumption) ?resta4
        case hya4 => (intro w hSw; (try dsimp only at hSw); go_simp; try with_reducible rfl)
        try simp only [Act.put, List.getElem_toArray, List.getElem_cons_succ, List.getElem_cons_zero, List.setIfInBounds_toArray, List.set_cons_zero, List.set_cons_succ]
        refine wpAnyH_take (i := 5) (v := ?va5) rfl (by kernel_rfl) (by kernel_rfl) (by kernel_rfl) (fun _ _ _ h => h) (Or.inl ⟨by kernel_rfl, ?hya5⟩) (by assumption) ?resta5
        case hya5 => (intro w hSw; (try dsimp only at hSw); go_simp; try with_reducible rfl)
        try simp only [Act.put, List.getElem_toArray, List.getElem_cons_succ, List.getElem_cons_zero, List.setIfInBounds_toArray, List.set_cons_zero, List.set_cons_succ]
        refine wpAnyH_take (i := 6) (v := ?va6) rfl (by kernel_rfl) (by kernel_rfl) (by kernel_rfl) (fun _ _ _ h => h) (Or.inl ⟨by kernel_rfl, ?hya6⟩) (by assumption) ?resta6
        case hya6 => (intro w hSw; (try dsimp only at hSw); go_simp; try with_reducible rfl)
        try simp only [Act.put, List.getElem_toArray, List.getElem_cons_succ, List.getElem_cons_zero, List.setIfInBounds_toArray, List.set_cons_zero, List.set_cons_succ]
        refine wpAnyH_take (i := 7) (v := ?va7) rfl (by kernel_rfl) (by kernel_rfl) (by kernel_rfl) (fun _ _ _ h => h) (Or.inl ⟨by kernel_rfl, ?hya7⟩) (by assumption) ?resta7
        case hya7 => (intro w hSw; (try dsimp only at hSw); go_simp; try with_reducible rfl)
        try simp only [Act.put, List.getElem_toArray, List.getElem_cons_succ, List.getElem_cons_zero, List.setIfInBounds_toArray, List.set_cons_zero, List.set_cons_succ]
        refine wpAnyH_take (i := 8) (v := ?va8) rfl (by kernel_rfl) (by kernel_rfl) (by kernel_rfl) (fun _ _ _ h => h) (Or.inl ⟨by kernel_rfl, ?hya8⟩) (by assumption) ?resta8
        case hya8 => (intro w hSw; (try dsimp only at hSw); go_simp; try with_reducible rfl)
        try simp only [Act.put, List.getElem_toArray, List.getElem_cons_succ, List.getElem_cons_zero, List.setIfInBounds_toArray, List.set_cons_zero, List.set_cons_succ]
        refine wpAnyH_take (i := 9) (v := ?va9) rfl (by kernel_rfl) (by kernel_rfl) (by kernel_rfl) (fun _ _ _ h => h) (Or.inl ⟨by kernel_rfl, ?hya9⟩) (by assumption) ?resta9
        case hya9 => (intro w hSw; (try dsimp only at hSw); go_simp; try with_reducible rfl)
        try simp only [Act.put, List.getElem_toArray, List.getElem_cons_succ, List.getElem_cons_zero, List.setIfInBounds_toArray, List.set_cons_zero, List.set_cons_succ]
        refine wpAnyH_take (i := 10) (v := ?va10) rfl (by kernel_rfl) (by kernel_rfl) (by kernel_rfl) (fun _ _ _ h => h) (Or.inl ⟨by kernel_rfl, ?hya10⟩) (by assumption) ?resta10
        case hya10 => (intro w hSw; (try dsimp only at hSw); go_simp; try with_reducible rfl)
        try simp only [Act.put, List.getElem_toArray, List.getElem_cons_succ, List.getElem_cons_zero, List.setIfInBounds_toArray, List.set_cons_zero, List.set_cons_succ]
        refine wpAnyH_take (i := 11) (v := ?va11) rfl (by kernel_rfl) (by kernel_rfl) (by kernel_rfl) (fun _ _ _ h => h) (Or.inl ⟨by kernel_rfl, ?hya11⟩) (by assumption) ?resta11
        case hya11 => (intro w hSw; (try dsimp only at hSw); go_simp; try with_reducible rfl)
        try simp only [Act.put, List.getElem_toArray, List.getElem_cons_succ, List.getElem_cons_zero, List.setIfInBounds_toArray, List.set_cons_zero, List.set_cons_succ]
        refine wpAnyH_take (i := 12) (v := ?va12) rfl (by kernel_rfl) (by kernel_rfl) (by kernel_rfl) (fun _ _ _ h => h) (Or.inl ⟨by kernel_rfl, ?hya12⟩) (by assumption) ?resta12
        case hya12 => (intro w hSw; (try dsimp only at hSw); go_simp; try with_reducible rfl)
        try simp only [Act.put, List.getElem_toArray, List.getElem_cons_succ, List.getElem_cons_zero, List.setIfInBounds_toArray, List.set_cons_zero, List.set_cons_succ]
        refine wpAnyH_take (i := 13) (v := ?va13) rfl (by kernel_rfl) (by kernel_rfl) (by kernel_rfl) (fun _ _ _ h => h) (Or.inl ⟨by kernel_rfl, ?hya13⟩) (by assumption) ?resta13
        case hya13 => (intro w hSw; (try dsimp only at hSw); go_simp; try with_reducible rfl)
        try simp only [Act.put, List.getElem_toArray, List.getElem_cons_succ, List.getElem_cons_zero, List.setIfInBounds_toArray, List.set_cons_zero, List.set_cons_succ]
        refine wpAnyH_take (i := 14) (v := ?va14) rfl (by kernel_rfl) (by kernel_rfl) (by kernel_rfl) (fun _ _ _ h => h) (Or.inl ⟨by kernel_rfl, ?hya14⟩) (by assumption) ?resta14
        case hya14 => (intro w hSw; (try dsimp only at hSw); go_simp; try with_reducible rfl)
        try simp only [Act.put, List.getElem_toArray, List.getElem_cons_succ, List.getElem_cons_zero, List.setIfInBounds_toArray, List.set_cons_zero, List.set_cons_succ]
        refine wpAnyH_take (i := 15) (v := ?va15) rfl (by kernel_rfl) (by kernel_rfl) (by kernel_rfl) (fun _ _ _ h => h) (Or.inl ⟨by kernel_rfl, ?hya15⟩) (by assumption) ?resta15
        case hya15 => (intro w hSw; (try dsimp only at hSw); go_simp; try with_reducible rfl)
        try simp only [Act.put, List.getElem_toArray, List.getElem_cons_succ, List.getElem_cons_zero, List.setIfInBounds_toArray, List.set_cons_zero, List.set_cons_succ]
        refine wpAnyH_take (i := 16) (v := ?va16) rfl (by kernel_rfl) (by kernel_rfl) (by kernel_rfl) (fun _ _ _ h => h) (Or.inl ⟨by kernel_rfl, ?hya16⟩) (by assumption) ?resta16
        case hya16 => (intro w hSw; (try dsimp only at hSw); go_simp; try with_reducible rfl)
        try simp only [Act.put, List.getElem_toArray, List.getElem_cons_succ, List.getElem_cons_zero, List.setIfInBounds_toArray, List.set_cons_zero, List.set_cons_succ]
        refine wpAnyH_take (i := 17) (v := ?va17) rfl (by kernel_rfl) (by kernel_rfl) (by kernel_rfl) (fun _ _ _ h => h) (Or.inl ⟨by kernel_rfl, ?hya17⟩) (by assumption) ?resta17
        case hya17 => (intro w hSw; (try dsimp only at hSw); (try simp only [List.getElem_toArray, List.getElem_cons_succ, List.getElem_cons_zero]); go_simp; try with_reducible rfl)
        try simp only [Act.put, List.getElem_toArray, List.getElem_cons_succ, List.getElem_cons_zero, List.setIfInBounds_toArray, List.set_cons_zero, List.set_cons_succ]
        refine wpAnyH_ready (rs := [18]) (by kernel_rfl) (by simp) ?_
        refine AllReadyH.cons rfl (fun K hK => ?_) AllReadyH.nil
        go_simp
        go_at_call 58; (with_reducible refine KC.out.mono ?_); rintro r w9 ⟨rfl, hb9'⟩; have hb9 := below_drew hb9'; have RG9 := RG.out w9 (HO.out.trans (Only.of_below hb9)); have cc9 := (HR.out.below hb9).cr k hlt; dsimp only at cc9; rw [E.out, HU.out] at cc9; clear hb9'
        refine hK.out _ _ (by (try dsimp only); ((first | assumption | (refine ⟨?_, ?_⟩ <;> assumption)))) (fun hHeld => ?_)
        clear hK K
        try simp only [Act.put, List.getElem_toArray, List.getElem_cons_succ, List.getElem_cons_zero, List.setIfInBounds_toArray, List.set_cons_zero, List.set_cons_succ]
        refine wpAnyH_take (i := 19) (v := ?va19) rfl (by kernel_rfl) (by kernel_rfl) (by kernel_rfl) (fun _ _ _ h => h) (Or.inl ⟨by kernel_rfl, ?hya19⟩) (by assumption) ?resta19
        case hya19 => (intro w hSw; (try dsimp only at hSw); go_simp; try with_reducible rfl)
        try simp only [Act.put, List.getElem_toArray, List.getElem_cons_succ, List.getElem_cons_zero, List.setIfInBounds_toArray, List.set_cons_zero, List.set_cons_succ]
        refine wpAnyH_done (by kernel_rfl) ?_ _
        have O9 := Lib.hid (HO.out.trans (show Only b o 261 wr w9 from Only.of_below hb9))
        have R9 := Lib.hid (HR.out.below hb9)
        have f9 := R9.out.fz (o + 4 + k)
        have c9 := R9.out.cr k hlt
        clear hb9
        cases y with
        | true =>
          have Y1 := Lib.hid (clearK_yes (rd := rd) (tid := tid) (ns := ns) hlt (by rw [HU.out]; exact hup) KY.out)
          go_wp2_with fail
          go_roundw
          case rel => exact ⟨k + 1, by omega, by go_num, by rw [← Y1.out]; exact R9.out.set_rd k hlt 0, O9.out.trans (by rw [Nat.add_assoc]; exact Only.of_set _ (by omega))⟩
          case measure => simp [intOf] <;> omega
        | false =>
          have Y1 := Lib.hid (clearK_no (rd := rd) (tid := tid) (ns := ns) hlt (fun hh => by rw [KY.out] at hh; cases hh.2))
          go_wp2_with fail
          go_roundw
          case rel => exact ⟨k + 1, by omega, by go_num, by rw [← Y1.out]; exact R9.out, O9.out⟩
          case measure => simp [intOf] <;> omega
      · have Y1 := Lib.hid (clearK_no (rd := rd) (tid := tid) (ns := ns) hlt (fun hh => by rw [HU.out] at hh; exact hup hh.1))
        have hup' : decide (0 < u) = false := decide_eq_false hup
        go_wp2_with fail
        refine wp_region_held_drew (S := (fun w' => w'.cell? ⟨b, o + 4 + k, none⟩ = some (.int .i64 u))) (by kernel_rfl) (by (try dsimp only); assumption) (fun hHeld => ?_)
        refine wpAnyH_take (i := 0) (v := ?vb0) rfl (by kernel_rfl) (by kernel_rfl) (by kernel_rfl) (fun _ _ _ h => h) (Or.inl ⟨by kernel_rfl, ?hyb0⟩) (by assumption) ?restb0
        case hyb0 => (intro w hSw; (try dsimp only at hSw); go_simp; try with_reducible rfl)
        try simp only [Act.put, List.getElem_toArray, List.getElem_cons_succ, List.getElem_cons_zero, List.setIfInBounds_toArray, List.set_cons_zero, List.set_cons_succ]
        refine wpAnyH_take (i := 1) (v := ?vb1) rfl (by kernel_rfl) (by kernel_rfl) (by kernel_rfl) (fun _ _ _ h => h) (Or.inl ⟨by kernel_rfl, ?hyb1⟩) (by assumption) ?restb1
        case hyb1 => (intro w hSw; (try dsimp only at hSw); go_simp; try with_reducible rfl)
        try simp only [Act.put, List.getElem_toArray, List.getElem_cons_succ, List.getElem_cons_zero, List.setIfInBounds_toArray, List.set_cons_zero, List.set_cons_succ]
        refine wpAnyH_take (i := 2) (v := ?vb2) rfl (by kernel_rfl) (by kernel_rfl) (by kernel_rfl) (fun _ _ _ h => h) (Or.inl ⟨by kernel_rfl, ?hyb2⟩) (by assumption) ?restb2
        case hyb2 => (intro w hSw; (try dsimp only at hSw); go_simp; try with_reducible rfl)
        try simp only [Act.put, List.getElem_toArray, List.getElem_cons_succ, List.getElem_cons_zero, List.setIfInBounds_toArray, List.set_cons_zero, List.set_cons_succ]
        refine wpAnyH_take (i := 3) (v := ?vb3) rfl (by kernel_rfl) (by kernel_rfl) (by kernel_rfl) (fun _ _ _ h => h) (Or.inl ⟨by kernel_rfl, ?hyb3⟩) (by assumption) ?restb3
        case hyb3 => (intro w hSw; (try dsimp only at hSw); go_simp; try with_reducible rfl)
        try simp only [Act.put, List.getElem_toArray, List.getElem_cons_succ, List.getElem_cons_zero, List.setIfInBounds_toArray, List.set_cons_zero, List.set_cons_succ]
        refine wpAnyH_take (i := 4) (v := ?vb4) rfl (by kernel_rfl) (by kernel_rfl) (by kernel_rfl) (fun _ _ _ h => h) (Or.inl ⟨by kernel_rfl, ?hyb4⟩) (by assumption) ?restb4
        case hyb4 => (intro w hSw; (try dsimp only at hSw); go_simp; try with_reducible rfl)
        try simp only [Act.put, List.getElem_toArray, List.getElem_cons_succ, List.getElem_cons_zero, List.setIfInBounds_toArray, List.set_cons_zero, List.set_cons_succ]
        refine wpAnyH_take (i := 5) (v := ?vb5) rfl (by kernel_rfl) (by kernel_rfl) (by kernel_rfl) (fun _ _ _ h => h) (Or.inl ⟨by kernel_rfl, ?hyb5⟩) (by assumption) ?restb5
        case hyb5 => (intro w hSw; (try dsimp only at hSw); go_simp; try with_reducible rfl)
        try simp only [Act.put, List.getElem_toArray, List.getElem_cons_succ, List.getElem_cons_zero, List.setIfInBounds_toArray, List.set_cons_zero, List.set_cons_succ]
        refine wpAnyH_take (i := 6) (v := ?vb6) rfl (by kernel_rfl) (by kernel_rfl) (by kernel_rfl) (fun _ _ _ h => h) (Or.inl ⟨by kernel_rfl, ?hyb6⟩) (by assumption) ?restb6
        case hyb6 => (intro w hSw; (try dsimp only at hSw); go_simp; try with_reducible rfl)
        try simp only [Act.put, List.getElem_toArray, List.getElem_cons_succ, List.getElem_cons_zero, List.setIfInBounds_toArray, List.set_cons_zero, List.set_cons_succ]
        refine wpAnyH_take (i := 7) (v := ?vb7) rfl (by kernel_rfl) (by kernel_rfl) (by kernel_rfl) (fun _ _ _ h => h) (Or.inl ⟨by kernel_rfl, ?hyb7⟩) (by assumption) ?restb7
        case hyb7 => (intro w hSw; (try dsimp only at hSw); go_simp; try with_reducible rfl)
        try simp only [Act.put, List.getElem_toArray, List.getElem_cons_succ, List.getElem_cons_zero, List.setIfInBounds_toArray, List.set_cons_zero, List.set_cons_succ]
        refine wpAnyH_take (i := 8) (v := undef) rfl (by kernel_rfl) (by kernel_rfl) (by kernel_rfl) (fun _ _ _ h => h) (Or.inr ⟨by kernel_rfl, rfl⟩) (by assumption) ?_
        try simp only [Act.put, List.getElem_toArray, List.getElem_cons_succ, List.getElem_cons_zero, List.setIfInBounds_toArray, List.set_cons_zero, List.set_cons_succ]
        refine wpAnyH_take (i := 9) (v := undef) rfl (by kernel_rfl) (by kernel_rfl) (by kernel_rfl) (fun _ _ _ h => h) (Or.inr ⟨by kernel_rfl, rfl⟩) (by assumption) ?_
        try simp only [Act.put, List.getElem_toArray, List.getElem_cons_succ, List.getElem_cons_zero, List.setIfInBounds_toArray, List.set_cons_zero, List.set_cons_succ]
        refine wpAnyH_take (i := 10) (v := undef) rfl (by kernel_rfl) (by kernel_rfl) (by kernel_rfl) (fun _ _ _ h => h) (Or.inr ⟨by kernel_rfl, rfl⟩) (by assumption) ?_
        try simp only [Act.put, List.getElem_toArray, List.getElem_cons_succ, List.getElem_cons_zero, List.setIfInBounds_toArray, List.set_cons_zero, List.set_cons_succ]
        refine wpAnyH_take (i := 11) (v := undef) rfl (by kernel_rfl) (by kernel_rfl) (by kernel_rfl) (fun _ _ _ h => h) (Or.inr ⟨by kernel_rfl, rfl⟩) (by assumption) ?_
        try simp only [Act.put, List.getElem_toArray, List.getElem_cons_succ, List.getElem_cons_zero, List.setIfInBounds_toArray, List.set_cons_zero, List.set_cons_succ]
        refine wpAnyH_take (i := 12) (v := undef) rfl (by kernel_rfl) (by kernel_rfl) (by kernel_rfl) (fun _ _ _ h => h) (Or.inr ⟨by kernel_rfl, rfl⟩) (by assumption) ?_
        try simp only [Act.put, List.getElem_toArray, List.getElem_cons_succ, List.getElem_cons_zero, List.setIfInBounds_toArray, List.set_cons_zero, List.set_cons_succ]
        refine wpAnyH_take (i := 13) (v := undef) rfl (by kernel_rfl) (by kernel_rfl) (by kernel_rfl) (fun _ _ _ h => h) (Or.inr ⟨by kernel_rfl, rfl⟩) (by assumption) ?_
        try simp only [Act.put, List.getElem_toArray, List.getElem_cons_succ, List.getElem_cons_zero, List.setIfInBounds_toArray, List.set_cons_zero, List.set_cons_succ]
        refine wpAnyH_take (i := 14) (v := undef) rfl (by kernel_rfl) (by kernel_rfl) (by kernel_rfl) (fun _ _ _ h => h) (Or.inr ⟨by kernel_rfl, rfl⟩) (by assumption) ?_
        try simp only [Act.put, List.getElem_toArray, List.getElem_cons_succ, List.getElem_cons_zero, List.setIfInBounds_toArray, List.set_cons_zero, List.set_cons_succ]
        refine wpAnyH_take (i := 15) (v := undef) rfl (by kernel_rfl) (by kernel_rfl) (by kernel_rfl) (fun _ _ _ h => h) (Or.inr ⟨by kernel_rfl, rfl⟩) (by assumption) ?_
        try simp only [Act.put, List.getElem_toArray, List.getElem_cons_succ, List.getElem_cons_zero, List.setIfInBounds_toArray, List.set_cons_zero, List.set_cons_succ]
        refine wpAnyH_take (i := 16) (v := undef) rfl (by kernel_rfl) (by kernel_rfl) (by kernel_rfl) (fun _ _ _ h => h) (Or.inr ⟨by kernel_rfl, rfl⟩) (by assumption) ?_
        try simp only [Act.put, List.getElem_toArray, List.getElem_cons_succ, List.getElem_cons_zero, List.setIfInBounds_toArray, List.set_cons_zero, List.set_cons_succ]
        refine wpAnyH_take (i := 17) (v := undef) rfl (by kernel_rfl) (by kernel_rfl) (by kernel_rfl) (fun _ _ _ h => h) (Or.inr ⟨by kernel_rfl, rfl⟩) (by assumption) ?_
        try simp only [Act.put, List.getElem_toArray, List.getElem_cons_succ, List.getElem_cons_zero, List.setIfInBounds_toArray, List.set_cons_zero, List.set_cons_succ]
        refine wpAnyH_take (i := 18) (v := undef) rfl (by kernel_rfl) (by kernel_rfl) (by kernel_rfl) (fun _ _ _ h => h) (Or.inr ⟨by kernel_rfl, rfl⟩) (by assumption) ?_
        try simp only [Act.put, List.getElem_toArray, List.getElem_cons_succ, List.getElem_cons_zero, List.setIfInBounds_toArray, List.set_cons_zero, List.set_cons_succ]
        refine wpAnyH_take (i := 19) (v := ?vb19) rfl (by kernel_rfl) (by kernel_rfl) (by kernel_rfl) (fun _ _ _ h => h) (Or.inl ⟨by kernel_rfl, ?hyb19⟩) (by assumption) ?restb19
        case hyb19 => (intro w hSw; (try dsimp only at hSw); go_simp; try with_reducible rfl)
        try simp only [Act.put, List.getElem_toArray, List.getElem_cons_succ, List.getElem_cons_zero, List.setIfInBounds_toArray, List.set_cons_zero, List.set_cons_succ]
        refine wpAnyH_done (by kernel_rfl) ?_ _
        go_wp2_with fail
        go_roundw
        case rel => exact ⟨k + 1, by omega, by go_num, by rw [← Y1.out]; exact HR.out.drew, HO.out.drew⟩
        case measure => simp [intOf] <;> omega
    · have hk2 : k = 256 := by omega
      have HK := Lib.hid hk2
      have hge : (256 : Int) ≤ k := by omega
      have c0 := HR.out.cr tid ht
      have f0 := HR.out.fz (o + 4 + tid)
      have RS := Lib.hid (show R18 (wr.setCell ⟨b, o + 4 + tid, none⟩ (.int .i64 n)) b o ⟨mt, mn, mno, mta, readR rd tid n ns, mtl⟩ from by
        have := HR.out.set_rd tid ht n
        rw [HK.out] at this
        exact this)
      have OS := Lib.hid (HO.out.trans (show Only b o 261 wr (wr.setCell ⟨b, o + 4 + tid, none⟩ (.int .i64 n)) from by rw [Nat.add_assoc]; exact Only.of_set _ (by omega)))
      clear hlt hk2 hk
      obtain ⟨W5, hW5⟩ : ∃ W5, wr.setCell ⟨b, o + 4 + tid, none⟩ (.int .i64 n) = W5 := ⟨_, rfl⟩
      rw [hW5] at RS OS
      have HW5 := Lib.hid hW5
      have g0 := RS.out.c0
      have g1 := RS.out.c1
      have g2 := RS.out.c2
      have g3 := RS.out.c3
      dsimp only at g0 g1 g2 g3
      have rg5 := RG.out _ OS.out
      clear hW5
      go_upto_region 7 with fail
      rw [HW5.out]
      obtain ⟨y, hy⟩ : ∃ y, rkB mt mn mno mta tid ns = y := ⟨_, rfl⟩
      have KC := Lib.hid (KN.out mt mn mno mta W5.drew)
      rw [hy] at KC
      have HY := Lib.hid hy
      clear hy c0 f0
      refine wp_region_held_drew (S := (fun w' => w'.cell? ⟨b, o, none⟩ = some (.int .i64 mt) ∧ w'.cell? ⟨b, o + 1, none⟩ = some (.int .i64 mn) ∧ w'.cell? ⟨b, o + 2, none⟩ = some (.bool mno) ∧ w'.cell? ⟨b, o + 3, none⟩ = some (.bool mta) ∧ w'.rangeAt w.heap.size 0 (ints ns))) (by kernel_rfl) (by (try dsimp only); (refine ⟨?_, ?_, ?_, ?_, ?_⟩ <;> assumption)) (fun hHeld => ?_)
      refine wpAnyH_take (i := 0) (v := ?vc0) rfl (by kernel_rfl) (by kernel_rfl) (by kernel_rfl) (fun _ _ _ h => h) (Or.inl ⟨by kernel_rfl, ?hyc0⟩) (by assumption) ?restc0
      case hyc0 => (intro w hSw; (try dsimp only at hSw); go_simp; try with_reducible rfl)
      try simp only [Act.put, List.getElem_toArray, List.getElem_cons_succ, List.getElem_cons_zero, List.setIfInBounds_toArray, List.set_cons_zero, List.set_cons_succ]
      refine wpAnyH_take (i := 1) (v := ?vc1) rfl (by kernel_rfl) (by kernel_rfl) (by kernel_rfl) (fun _ _ _ h => h) (Or.inl ⟨by kernel_rfl, ?hyc1⟩) (by assumption) ?restc1
      case hyc1 => (intro w hSw; (try dsimp only at hSw); go_simp; try with_reducible rfl)
      try simp only [Act.put, List.getElem_toArray, List.getElem_cons_succ, List.getElem_cons_zero, List.setIfInBounds_toArray, List.set_cons_zero, List.set_cons_succ]
      refine wpAnyH_take (i := 2) (v := ?vc2) rfl (by kernel_rfl) (by kernel_rfl) (by kernel_rfl) (fun _ _ _ h => h) (Or.inl ⟨by kernel_rfl, ?hyc2⟩) (by assumption) ?restc2
      case hyc2 => (intro w hSw; (try dsimp only at hSw); go_simp; try with_reducible rfl)
      try simp only [Act.put, List.getElem_toArray, List.getElem_cons_succ, List.getElem_cons_zero, List.setIfInBounds_toArray, List.set_cons_zero, List.set_cons_succ]
      refine wpAnyH_take (i := 3) (v := ?vc3) rfl (by kernel_rfl) (by kernel_rfl) (by kernel_rfl) (fun _ _ _ h => h) (Or.inl ⟨by kernel_rfl, ?hyc3⟩) (by assumption) ?restc3
      case hyc3 => (intro w hSw; (try dsimp only at hSw); go_simp; try with_reducible rfl)
      try simp only [Act.put, List.getElem_toArray, List.getElem_cons_succ, List.getElem_cons_zero, List.setIfInBounds_toArray, List.set_cons_zero, List.set_cons_succ]
      refine wpAnyH_take (i := 4) (v := ?vc4) rfl (by kernel_rfl) (by kernel_rfl) (by kernel_rfl) (fun _ _ _ h => h) (Or.inl ⟨by kernel_rfl, ?hyc4⟩) (by assumption) ?restc4
      case hyc4 => (intro w hSw; (try dsimp only at hSw); go_simp; try with_reducible rfl)
      try simp only [Act.put, List.getElem_toArray, List.getElem_cons_succ, List.getElem_cons_zero, List.setIfInBounds_toArray, List.set_cons_zero, List.set_cons_succ]
      refine wpAnyH_take (i := 5) (v := ?vc5) rfl (by kernel_rfl) (by kernel_rfl) (by kernel_rfl) (fun _ _ _ h => h) (Or.inl ⟨by kernel_rfl, ?hyc5⟩) (by assumption) ?restc5
      case hyc5 => (intro w hSw; (try dsimp only at hSw); (try simp only [List.getElem_toArray, List.getElem_cons_succ, List.getElem_cons_zero]); go_simp; try with_reducible rfl)
      try simp only [Act.put, List.getElem_toArray, List.getElem_cons_succ, List.getElem_cons_zero, List.setIfInBounds_toArray, List.set_cons_zero, List.set_cons_succ]
      refine wpAnyH_ready (rs := [6]) (by kernel_rfl) (by simp) ?_
      refine AllReadyH.cons rfl (fun K hK => ?_) AllReadyH.nil
      go_simp
      go_at_call 58; (with_reducible refine KC.out.mono ?_); rintro r w9 ⟨rfl, hb9'⟩; have hb9 := below_drew hb9'; have RG9 := RG.out w9 (OS.out.trans (Only.of_below hb9)); have q0 := (RS.out.below hb9).c0; have q1 := (RS.out.below hb9).c1; have q2 := (RS.out.below hb9).c2; have q3 := (RS.out.below hb9).c3; dsimp only at q0 q1 q2 q3; clear hb9'
      refine hK.out _ _ (by (try dsimp only); (refine ⟨?_, ?_, ?_, ?_, ?_⟩ <;> assumption)) (fun hHeld => ?_)
      clear hK K
      try simp only [Act.put, List.getElem_toArray, List.getElem_cons_succ, List.getElem_cons_zero, List.setIfInBounds_toArray, List.set_cons_zero, List.set_cons_succ]
      refine wpAnyH_take (i := 7) (v := ?vc7) rfl (by kernel_rfl) (by kernel_rfl) (by kernel_rfl) (fun _ _ _ h => h) (Or.inl ⟨by kernel_rfl, ?hyc7⟩) (by assumption) ?restc7
      case hyc7 => (intro w hSw; (try dsimp only at hSw); go_simp; try with_reducible rfl)
      try simp only [Act.put, List.getElem_toArray, List.getElem_cons_succ, List.getElem_cons_zero, List.setIfInBounds_toArray, List.set_cons_zero, List.set_cons_succ]
      refine wpAnyH_done (by kernel_rfl) ?_ _
      have T := Lib.hid (show R18 w9 b o ⟨mt, mn, mno, mta, readR rd tid n ns, mtl⟩ ∧ Only b o 261 w w9 from ⟨RS.out.below hb9, ((Only.of_below B.out).trans OS.out).trans (Only.of_below hb9)⟩)
      clear hb9
      cases y with
      | true =>
        go_wp2_with fail
        go_ret
        exact ⟨by rw [HY.out]; rfl, T.out⟩
      | false =>
        go_wp2_with fail
        go_ret
        exact ⟨by rw [HY.out]; rfl, T.out⟩
end Go.Proofs.Ytkcnbkdpjlpppaa

