
/-
  staithelaw18.does.
-/
import Derived.Test.YtonegedenmchbaaCelP
import Derived.Deep.DeepCutAuto
namespace Go.Proofs.Ytonegedenmchbaa
open Go.RowKit
set_option linter.unusedVariables false
set_option linter.unusedSimpArgs false
set_option maxRecDepth 100000
attribute [local go_sem ↓] exec_ld37

structure Stp where
  wh : Int
  tid : Int
  cut : Int
  e : Int
  cv : Value
  cl : List Int
def stpV (s : Stp) : Value := .agg #[.int .i64 s.wh, .int .i64 s.tid, .int .i64 s.cut, .int .u64 s.e, s.cv]
def Bc (b c : Nat) (i : Nat) : Prop := i = b ∨ i = c
/-- Both cells, alike. -/
structure Bo (B : Nat) (w : World) (b c : Nat) (x : Int) (l : List Int) (tl : Bool) (m : M18) : Prop where
  ce : Ce B w b x l tl
  rc : R18 w c 0 m
  rel : RelC x l tl m
  ne : b ≠ c
  low : B ≤ c
  ty : ∃ cur t, w.heap[c]? = some (Obj.cells cur t (0, 0)) ∧ t ≠ 39
theorem Bo.below {B : Nat} {w w' : World} {b c : Nat} {x : Int} {l : List Int} {tl : Bool} {m : M18} (h : Bo B w b c x l tl m) (hB : Below w.heap.size w w') : Bo B w' b c x l tl m :=
  ⟨h.ce.below hB, h.rc.below hB, h.rel, h.ne, h.low, by obtain ⟨cur, t, h1, h2⟩ := h.ty; exact ⟨cur, t, (hB.block c h.rc.lt).trans h1, h2⟩⟩
theorem Bo.drew {B : Nat} {w : World} {b c : Nat} {x : Int} {l : List Int} {tl : Bool} {m : M18} (h : Bo B w b c x l tl m) : Bo B w.drew b c x l tl m := ⟨h.ce.drew, h.rc.drew, h.rel, h.ne, h.low, h.ty⟩
theorem only_turned {b o n : Nat} {w w' : World} (h : Only b o n w w') : Turned (fun i => i = b) w w' := ⟨h.os, h.tape, h.output, h.size, fun i hi hne => h.block i hi hne⟩
/-- Between the two steps: the program's cell has turned, the reference's not yet. -/
structure Mid (B : Nat) (w : World) (b c : Nat) (x : Int) (l : List Int) (tl : Bool) (m : M18) : Prop where
  ce : Ce B w b x l tl
  rc : R18 w c 0 m
  ne : b ≠ c
  low : B ≤ c
  ty : ∃ cur t, w.heap[c]? = some (Obj.cells cur t (0, 0)) ∧ t ≠ 39
theorem Mid.drew {B : Nat} {w : World} {b c : Nat} {x : Int} {l : List Int} {tl : Bool} {m : M18} (h : Mid B w b c x l tl m) : Mid B w.drew b c x l tl m := ⟨h.ce.drew, h.rc.drew, h.ne, h.low, h.ty⟩
theorem Bo.left {B : Nat} {w w' : World} {b c : Nat} {x x' : Int} {l l' : List Int} {tl tl' : Bool} {m : M18} (h : Bo B w b c x l tl m) (ht : Turned (fun i => i = b) w w') (hc : Ce B w' b x' l' tl') : Mid B w' b c x' l' tl' m ∧ Turned (Bc b c) w w' := by
  have hb := ht.block c h.rc.lt (Ne.symm h.ne)
  refine ⟨⟨hc, h.rc.frame hb, h.ne, h.low, ?_⟩, ht.mono (fun i _ hi => .inl hi)⟩
  obtain ⟨cur, t, h1, h2⟩ := h.ty
  exact ⟨cur, t, hb.trans h1, h2⟩
theorem Mid.right {B : Nat} {w w' : World} {b c : Nat} {x : Int} {l : List Int} {tl : Bool} {m m' : M18} (h : Mid B w b c x l tl m) (ho : Only c 0 261 w w') (hr : R18 w' c 0 m') (hrel : RelC x l tl m') : Bo B w' b c x l tl m' ∧ Turned (Bc b c) w w' := by
  have ht := only_turned ho
  obtain ⟨⟨v, h1⟩, h2, h3⟩ := h.ce
  obtain ⟨cur0, t, h5, h6⟩ := h.ty
  have hb := ht.block b h1.lt h.ne
  have hce : Ce B w' b x l tl := by
    refine ⟨⟨v, ⟨hb.trans h1.blk, h1.low, ⟨h1.row.1, ?_⟩⟩⟩, h2, Nat.le_trans h3 ht.size⟩
    rcases h1.row.2 with hx | ⟨g, cap, cur, rfl, hbg, hg, h4⟩
    · exact .inl hx
    · refine .inr ⟨g, cap, cur, rfl, hbg, (ht.block g (lt_of_heap hg) ?_).trans hg, h4⟩
      rintro rfl
      rw [h5] at hg
      have := Option.some.inj hg
      injection this with e1 e2
      exact h6 e2
  obtain ⟨cur', h7, _⟩ := ho.here cur0 t h5
  exact ⟨⟨hce, hr, hrel, h.ne, h.low, cur', t, h7, h6⟩, ht.mono (fun i _ hi => .inr hi)⟩
def DoesPost (B b c : Nat) (w : World) (e : Ending) (w' : World) : Prop := e = .returned (.bool true) ∧ Turned (Bc b c) w w' ∧ ∃ x l tl m, Bo B w' b c x l tl m
theorem of_no (v : Value) (l : List Int) (w : World) (h : Src w v l) (h0 : ofE l ≠ 0) :
    Calls Try.prog 13 #[v] w fun r w' => r = .returned (.tuple #[.pointer none, .int .i64 (ofE l)]) ∧ w = w' := by
  refine (of_any v l w h).mono ?_
  rintro r w' (⟨h1, _⟩ | ⟨_, h⟩)
  · exact absurd h1 h0
  · exact h
theorem rat_laid {w w1 w2 : World} {ns : List Int} {Z : Array Value} (hZ : (ints zeros).toArray = Z) (h : Turned (fun i => i = w1.heap.size) (w1.alloc (.cells Z 28)) w2) (hB : Below w.heap.size w w1) : Below w.heap.size w w2 ∧ Below w1.heap.size w1 w2 :=
  ⟨h.below (hB.alloc hB.size _) (Nat.le_refl _) (fun i e => by rw [e]; exact hB.size), h.below ((Below.refl _ _).alloc (Nat.le_refl _) _) (Nat.le_refl _) (fun i e => by rw [e]; exact Nat.le_refl _)⟩
theorem rat_lone (w : World) (Z : Array Value) (hZ : (ints zeros).toArray = Z) : RAt (w.alloc (.cells Z 28)) w.heap.size zeros := by
  subst hZ; exact rat_new w zeros rfl
theorem rat_range {w : World} {b : Nat} {ns : List Int} (h : RAt w b ns) : w.rangeAt b 0 (ints ns) := h.range
theorem five_cells {w : World} {k : Nat} {t : TypeId} {a0 a1 a2 a3 a4 : Value} (h : w.heap[k]? = some (Obj.cells #[a0, a1, a2, a3, a4] t (0, 0))) :
    w.cell? ⟨k, 0, none⟩ = some a0 ∧ w.cell? ⟨k, 1, none⟩ = some a1 ∧ w.cell? ⟨k, 2, none⟩ = some a2 ∧ w.cell? ⟨k, 3, none⟩ = some a3 ∧ w.cell? ⟨k, 4, none⟩ = some a4 := by
  refine ⟨?_, ?_, ?_, ?_, ?_⟩ <;> (simp only [World.cell?, h]; rfl)
theorem ep_nat {e : Int} (h : okE e = true) : ∃ (t : Nat) (n : Int), t < 256 ∧ 1 ≤ n ∧ n ≤ 1048576 ∧ e = ep t n ∧ tid0 e = t ∧ clk0 e = n := by
  obtain ⟨t, c, a, b, d, f, rfl⟩ := ep_of h
  obtain ⟨k, rfl⟩ := Int.eq_ofNat_of_zero_le a
  refine ⟨k, c, by omega, d, f, rfl, ?_, ?_⟩
  · unfold tid0; rw [if_pos h]; unfold ep; omega
  · unfold clk0; rw [if_pos h]; unfold ep; omega

set_option maxHeartbeats 8000000 in
theorem does_any (B b c : Nat) (x : Int) (l : List Int) (tl : Bool) (m : M18) (s : Stp) (w : World) (h : Bo B w b c x l tl m) (hs : Src w s.cv s.cl) (hu : U64 s.e) :
    Calls Try.prog 22 #[.pointer (some ⟨b, 0, none⟩), .pointer (some ⟨c, 0, none⟩), stpV s] w (DoesPost B b c w) := by
  obtain ⟨wh, tid, cut, e, cv, cl⟩ := s
  obtain ⟨ao, ccap, rfl, hsrc⟩ : ∃ ao ccap, cv = .slice ao cl.length ccap ∧ Src w (.slice ao cl.length ccap) cl := by
    obtain ⟨ao, cap, h1, h2⟩ := hs
    dsimp only at h1
    subst h1
    exact ⟨ao, cap, rfl, ⟨ao, cap, rfl, h2⟩⟩
  unfold stpV
  dsimp only at hu ⊢
  obtain ⟨Z, hZ⟩ : ∃ Z, (ints zeros).toArray = Z := ⟨_, rfl⟩
  have hz := (zero_of_info rinfo).1
  rw [hZ] at hz
  have HZ := Lib.hid hZ
  clear hZ
  obtain ⟨W0, hW0⟩ : ∃ W0, w.alloc (.cells #[.int .i64 wh, .int .i64 tid, .int .i64 cut, .int .u64 e, .slice ao cl.length ccap] 60) = W0 := ⟨_, rfl⟩
  have S0 := Lib.hid (show W0.heap[w.heap.size]? = some (.cells #[.int .i64 wh, .int .i64 tid, .int .i64 cut, .int .u64 e, .slice ao cl.length ccap] 60 (0, 0)) from by rw [← hW0]; exact heap_alloc_new w _)
  have hb0 : Below w.heap.size w W0 := by rw [← hW0]; exact (Below.refl _ _).alloc (Nat.le_refl _) _
  have BO0 := Lib.hid (h.below hb0)
  have B0 := Lib.hid hb0
  have SR0 := Lib.hid (hsrc.below (Nat.le_refl _) hb0)
  have HW0 := Lib.hid hW0
  have U := Lib.hid hu
  have BQ := Lib.hid (show w.heap.size ≠ b ∧ w.heap.size ≠ c from by have := h.ce.low.2; have := h.rc.lt; constructor <;> omega)
  obtain ⟨n, hn⟩ : ∃ n, cl.length = n := ⟨_, rfl⟩
  have HN := Lib.hid hn
  rw [hn] at S0 HW0 SR0 ⊢
  obtain ⟨z0, z1, z2, z3, z4⟩ := five_cells S0.out
  clear h hs hsrc hb0 hW0 hu hn
  go_enter Try.func22, Try.ntmps22
  go_upto_region 1 with fail
  rw [HW0.out]
  by_cases hof : ofE cl = 0
  · have E0 := Lib.hid hof
    clear hof
    go_wp2_with fail
    refine (of_yes _ cl W0 SR0.out E0.out).mono ?_
    rintro r w1 ⟨cb, g, rfl, hk, hb1, _, _⟩
    have K1 := Lib.hid (show CkV w1 (.pointer (some ⟨cb, 0, none⟩)) (at0 cl) from .inr ⟨_, _, rfl, hk, rfl⟩)
    have BO1 := Lib.hid (BO0.out.below hb1)
    have B1 := Lib.hid (below_trans B0.out hb1 B0.out.size)
    have S1 := Lib.hid ((hb1.block _ (lt_of_heap S0.out)).trans S0.out)
    have SR1 := Lib.hid (SR0.out.below (Nat.le_refl _) hb1)
    obtain ⟨y0, y1, y2, y3, y4⟩ := five_cells S1.out
    clear hk hb1 z0 z1 z2 z3 z4
    go_wp2_with fail
    refine (rof_any _ cl w1 SR1.out).mono ?_
    rintro r w2 ⟨ns, rfl, hlen, hat, hb2⟩
    rw [E0.out]
    have HA := Lib.hid (show ∀ u, at0 cl u = at0 ns u from fun u => (hat E0.out u).symm)
    have HL := Lib.hid hlen
    obtain ⟨Z2, hZ2⟩ : ∃ Z2, (ints ns).toArray = Z2 := ⟨_, rfl⟩
    rw [hZ2]
    have HZ2 := Lib.hid hZ2
    have B2 := Lib.hid hb2
    clear hZ2 hat hlen hb2
    go_wp2_with (with_reducible refine wpList_store_clock rfl (.tmp 9) (.tmp 27) rfl w2.heap.size zeros ns ?hx Z2 ?hy HZ2.out ?h0 HL.out ?_)
    case hx => rfl
    case hy => rfl
    case h0 => exact rat_lone w2 Z HZ.out
    intro w3 R3 T3
    obtain ⟨hb3, _⟩ := rat_laid (ns := ns) HZ.out T3 B2.out
    have RT := Lib.hid R3
    have hlt2 : w2.heap.size < w3.heap.size := R3.lt
    have BG := Lib.hid (show w2.heap.size ≠ b ∧ w2.heap.size ≠ c from by have := BO1.out.ce.low.2; have := BO1.out.rc.lt; have := B2.out.size; constructor <;> omega)
    have BO3 := Lib.hid (BO1.out.below hb3)
    have K3 := Lib.hid (K1.out.below hb3)
    have B3 := Lib.hid (below_trans B1.out hb3 B1.out.size)
    have S3 := Lib.hid ((hb3.block _ (lt_of_heap S1.out)).trans S1.out)
    have LD := run_ld37 w2.heap.size 0 ns HL.out Z2 HZ2.out
    have BV := Lib.hid (show (∀ w4 : World, Below w3.heap.size w3 w4 → w4.heap.size ≠ b) ∧ (∀ w4 : World, Below w3.heap.size w3 w4 → w4.heap.size ≠ c) from ⟨fun w4 hb => by have := BO3.out.ce.low.2; have := hb.size; omega, fun w4 hb => by have := BO3.out.rc.lt; have := hb.size; omega⟩)
    obtain ⟨x0, x1, x2, x3, x4⟩ := five_cells S3.out
    clear hb3 T3 R3 y0 y1 y2 y3 y4 K1 BO1 BO0 S1 S0 SR0 SR1 B2 B1
    go_wp2_with fail
    refine (split_any e w3 U.out).mono ?_
    rintro r w4 ⟨rfl, hb4⟩
    unfold splitV rE
    obtain ⟨a0, ha0⟩ : ∃ a, nE e = a := ⟨_, rfl⟩
    obtain ⟨a1, ha1⟩ : ∃ a, xE e = a := ⟨_, rfl⟩
    obtain ⟨a2, ha2⟩ : ∃ a, tid0 e = a := ⟨_, rfl⟩
    obtain ⟨a3, ha3⟩ : ∃ a, clk0 e = a := ⟨_, rfl⟩
    rw [ha0, ha1, ha2, ha3]
    have HA2 := Lib.hid ha2
    have HA3 := Lib.hid ha3
    obtain ⟨W5, hW5⟩ : ∃ W5, w4.alloc (.cells #[.bool a0, .bool a1, .int .i64 a2, .int .i64 a3] 65) = W5 := ⟨_, rfl⟩
    have hb45 : Below w4.heap.size w4 W5 := by rw [← hW5]; exact (Below.refl _ _).alloc (Nat.le_refl _) _
    have hb5 : Below w3.heap.size w3 W5 := below_trans hb4 hb45 hb4.size
    have V5 := Lib.hid (show W5.heap[w4.heap.size]? = some (.cells #[.bool a0, .bool a1, .int .i64 a2, .int .i64 a3] 65 (0, 0)) from by rw [← hW5]; exact heap_alloc_new w4 _)
    have HW5 := Lib.hid hW5
    have BO5 := Lib.hid (BO3.out.below hb5)
    have K5 := Lib.hid (K3.out.below hb5)
    have T5 := Lib.hid (show Turned (Bc b c) w W5 from turned_below (below_trans B3.out hb5 B3.out.size))
    have S5 := Lib.hid ((hb5.block _ (lt_of_heap S3.out)).trans S3.out)
    have R5 := Lib.hid (RT.out.below hb5)
    -- the blocks that are neither cell
    have nq : ¬ Bc b c w.heap.size := fun hh => by
      have h1 := BO5.out.ce.low.2
      rcases hh with hh | hh
      · exact BQ.out.1 hh
      · exact BQ.out.2 hh
    have ng : ¬ Bc b c w2.heap.size := fun hh => by
      rcases hh with hh | hh
      · exact BG.out.1 hh
      · exact BG.out.2 hh
    have nv : ¬ Bc b c w4.heap.size := fun hh => by
      rcases hh with hh | hh
      · exact BV.out.1 w4 hb4 hh
      · exact BV.out.2 w4 hb4 hh
    have KEEP := Lib.hid (show ∀ w', Turned (Bc b c) W5 w' → (w'.cell? ⟨w4.heap.size, 2, none⟩ = some (.int .i64 a2) ∧ w'.cell? ⟨w4.heap.size, 3, none⟩ = some (.int .i64 a3)) ∧ (w'.cell? ⟨w.heap.size, 1, none⟩ = some (.int .i64 tid) ∧ w'.cell? ⟨w.heap.size, 2, none⟩ = some (.int .i64 cut)) ∧ w'.rangeAt w2.heap.size 0 (ints ns) from fun w' ht => by
      have hv := (ht.block _ (lt_of_heap V5.out) nv).trans V5.out
      have hq := (ht.block _ (lt_of_heap S5.out) nq).trans S5.out
      have hr := R5.out.frame (ht.block _ R5.out.lt ng)
      obtain ⟨_, _, k2, k3⟩ := four_cells hv
      obtain ⟨_, j1, j2, _, _⟩ := five_cells hq
      exact ⟨⟨k2, k3⟩, ⟨j1, j2⟩, hr.range⟩)
    obtain ⟨v0, v1, v2, v3⟩ := four_cells V5.out
    obtain ⟨x0, x1, x2, x3, x4⟩ := five_cells S5.out
    have rg5 := R5.out.range
    have FIN := Lib.hid (show ∀ w', Turned (Bc b c) W5 w' → (∃ x l tl m, Bo B w' b c x l tl m) → DoesPost B b c w (.returned (.bool true)) w' from fun w' ht hh => ⟨rfl, T5.out.trans ht (fun _ _ h => h) (fun _ _ h => h), hh⟩)
    clear hb4 hb45 hb5 hW5 ha0 ha1 ha2 ha3 BO3 K3 B3 S3 RT nq ng nv
    have UE := U.out
    obtain ⟨ok, hok⟩ : ∃ ok, okE e = ok := ⟨_, rfl⟩
    rw [hok]
    have OK := Lib.hid hok
    clear hok UE
    by_cases h012 : wh = 0 ∨ wh = 1 ∨ wh = 2
    · cases ok with
      | false =>
        rcases h012 with rfl | rfl | rfl <;> (
          go_upto_region 8 with fail
          rw [HW5.out]
          go_wp2_with fail
          refine (cread_bad _ _ e W5 U.out OK.out).mono ?_
          rintro r w6 ⟨rfl, hb6⟩
          have F := Lib.hid (FIN.out w6 (turned_below hb6) ⟨_, _, _, _, BO5.out.below hb6⟩)
          clear hb6
          go_wp2_with fail
          go_ret
          exact F.out)
      | true =>
        obtain ⟨t, q, ht, hn1, hn2, rfl, ht0, hc0⟩ := ep_nat OK.out
        have ht2 := HA2.out.symm.trans ht0
        have hc3 := hc0.symm.trans HA3.out
        subst ht2 hc3
        have hte : tidE (ep (t : Nat) q) = t := tidE_ep (by omega) (by omega) hn1 hn2
        have RD := Lib.hid (ce_read BO5.out.ce (ep t q) _ _ OK.out K5.out)
        have KW := Lib.hid (known_w BO5.out.rel.w hte HA.out)
        have RR := Lib.hid (rel_read BO5.out.rel ht hn1 hn2 HA.out)
        have HT := Lib.hid ht
        obtain ⟨f, hf⟩ : ∃ f : Int, (if knownB x (ep t q) (at0 cl) then (0 : Int) else 1) = f := ⟨_, rfl⟩
        have KF := Lib.hid (show (if rkB m.t m.n m.no m.ta t ns then (0 : Int) else 1) = f from by rw [← KW.out]; exact hf)
        have RD2 := Lib.hid (show Calls Try.prog 16 #[.pointer (some ⟨b, 0, none⟩), .int .u64 (ep t q), .pointer (some ⟨cb, 0, none⟩)] W5 (fun r w' => r = .returned (.tuple #[.int .i64 f, .int .i64 0]) ∧ Turned (fun i => i = b) W5 w' ∧ Ce B w' b x (readL l (ep t q) (at0 cl)) tl) from RD.out.mono (fun r w' hh => ⟨by rw [← hf]; exact hh.1, hh.2⟩))
        clear RD hf ht0 hc0 hte ht hn1 hn2
        rcases h012 with rfl | rfl | rfl <;> (
          go_upto_region 8 with fail
          rw [HW5.out]
          go_wp2_with fail
          refine RD2.out.mono ?_
          rintro r w6 ⟨rfl, ht6, hc6⟩
          obtain ⟨mid, tb6⟩ := BO5.out.left ht6 hc6
          obtain ⟨⟨k2, k3⟩, _, rg6⟩ := KEEP.out w6 tb6
          have M6 := Lib.hid mid
          have T6 := Lib.hid tb6
          clear ht6 hc6 mid tb6
          go_wp2_with fail
          refine (rread_any c 0 m t q ns Z2 HZ2.out HL.out w6 M6.out.rc HT.out).mono ?_
          rintro r w7 ⟨rfl, hr7, ho7⟩
          obtain ⟨bo, tb7⟩ := M6.out.right ho7 hr7 RR.out
          have F := Lib.hid (FIN.out w7 (T6.out.trans tb7 (fun _ _ h => h) (fun _ _ h => h)) ⟨_, _, _, _, bo⟩)
          rw [KF.out]
          clear hr7 ho7 bo tb7
          go_wp2_with fail
          go_ret
          exact F.out)
    · have n0 : ¬ (wh = 0) := fun e => h012 (.inl e)
      have n1 : ¬ (wh = 1) := fun e => h012 (.inr (.inl e))
      have n2 : ¬ (wh = 2) := fun e => h012 (.inr (.inr e))
      clear h012
      by_cases h3 : wh = 3
      · subst h3
        clear n0 n1 n2
        cases ok with
        | false =>
          go_upto_region 8 with fail
          rw [HW5.out]
          go_wp2_with fail
          refine (cwrite_bad _ _ e W5 U.out OK.out).mono ?_
          rintro r w6 ⟨rfl, hb6⟩
          have F := Lib.hid (FIN.out w6 (turned_below hb6) ⟨_, _, _, _, BO5.out.below hb6⟩)
          clear hb6
          go_wp2_with fail
          go_ret
          exact F.out
        | true =>
          obtain ⟨t, q, ht, hn1, hn2, rfl, ht0, hc0⟩ := ep_nat OK.out
          have ht2 := HA2.out.symm.trans ht0
          have hc3 := hc0.symm.trans HA3.out
          subst ht2 hc3
          have RD := Lib.hid (ce_write BO5.out.ce (ep t q) _ _ OK.out K5.out)
          have PE := Lib.hid (put_eq BO5.out.rel ht hn1 hn2 HA.out)
          have RR := Lib.hid (rel_write (tid := t) (n := q) ht hn1 hn2)
          have HT := Lib.hid ht
          obtain ⟨y, hy⟩ : ∃ y, writeV x l tl (ep t q) (at0 cl) = y := ⟨_, rfl⟩
          rw [hy] at PE
          have RD2 := Lib.hid (show Calls Try.prog 15 #[.pointer (some ⟨b, 0, none⟩), .int .u64 (ep t q), .pointer (some ⟨cb, 0, none⟩)] W5 (fun r w' => r = .returned (.tuple #[.int .i64 y, .int .i64 0]) ∧ Turned (fun i => i = b) W5 w' ∧ Ce B w' b (ep t q) [] false) from RD.out.mono (fun r w' hh => ⟨by rw [← hy]; exact hh.1, hh.2⟩))
          clear RD hy ht0 hc0 ht hn1 hn2
          go_upto_region 8 with fail
          rw [HW5.out]
          go_wp2_with fail
          refine RD2.out.mono ?_
          rintro r w6 ⟨rfl, ht6, hc6⟩
          obtain ⟨mid, tb6⟩ := BO5.out.left ht6 hc6
          obtain ⟨⟨k2, k3⟩, _, rg6⟩ := KEEP.out w6 tb6
          have M6 := Lib.hid mid
          have T6 := Lib.hid tb6
          clear ht6 hc6 mid tb6
          go_wp2_with fail
          refine (rput_any c 0 m t q ns Z2 HZ2.out HL.out w6 M6.out.rc HT.out).mono ?_
          rintro r w7 ⟨rfl, hr7, ho7⟩
          obtain ⟨bo, tb7⟩ := M6.out.right ho7 hr7 RR.out
          have F := Lib.hid (FIN.out w7 (T6.out.trans tb7 (fun _ _ h => h) (fun _ _ h => h)) ⟨_, _, _, _, bo⟩)
          rw [← PE.out]
          clear hr7 ho7 bo tb7
          go_wp2_with fail
          go_ret
          exact F.out
      · by_cases h4 : wh = 4
        · subst h4
          clear n0 n1 n2 h3
          have CP : ∃ z : Int, ∃ P : World → Prop, Calls Try.prog 20 #[.pointer (some ⟨b, 0, none⟩), .int .i64 tid, .int .i64 cut] W5.drew (fun r w' => r = .returned (.int .i64 z) ∧ Turned (Bc b c) W5 w' ∧ P w') ∧
              ∀ w', Turned (Bc b c) W5 w' → P w' → Calls Try.prog 49 #[.pointer (some ⟨c, 0, none⟩), .int .i64 tid, .int .i64 cut] w' (fun r w'' => r = .returned (.int .i64 z) ∧ Turned (Bc b c) W5 w'' ∧ ∃ x l tl m, Bo B w'' b c x l tl m) := by
            have td : Turned (Bc b c) W5 W5.drew := ⟨rfl, rfl, rfl, Nat.le_refl _, fun _ _ _ => rfl⟩
            cases hb : retBad tid cut with
            | true =>
              refine ⟨1, fun w' => Bo B w' b c x l tl m, (cret_bad _ tid cut W5.drew hb).mono ?_, fun w' ht hp => (rret_bad _ tid cut w' hb).mono ?_⟩
              · rintro r w' ⟨rfl, hbb⟩
                exact ⟨rfl, td.trans (turned_below (S := Bc b c) hbb) (fun _ _ h => h) (fun _ _ h => h), BO5.out.drew.below hbb⟩
              · rintro r w'' ⟨rfl, rfl⟩
                exact ⟨rfl, ht, _, _, _, _, hp⟩
            | false =>
              rcases ret_cases tid cut with ⟨h2, _⟩ | ⟨_, h1, h2, h3, h4⟩
              · exact absurd (h2.symm.trans hb) (by decide)
              obtain ⟨t, rfl⟩ := Int.eq_ofNat_of_zero_le (show 0 ≤ tid by omega)
              refine ⟨0, fun w' => Mid B w' b c (retX x t cut) (retL l t) (retT l tl t cut) m, (ce_ret BO5.out.drew.ce t cut hb).mono ?_, fun w' ht hp => (rret_any c 0 m t cut w' hp.rc (by omega) (by omega) (by omega)).mono ?_⟩
              · rintro r w' ⟨rfl, ht6, hc6⟩
                obtain ⟨mid, tb6⟩ := BO5.out.drew.left ht6 hc6
                exact ⟨rfl, td.trans tb6 (fun _ _ h => h) (fun _ _ h => h), mid⟩
              · rintro r w'' ⟨rfl, hr7, ho7⟩
                obtain ⟨bo, tb7⟩ := hp.right ho7 hr7 (rel_ret BO5.out.rel (by omega) (by omega))
                exact ⟨rfl, ht.trans tb7 (fun _ _ h => h) (fun _ _ h => h), _, _, _, _, bo⟩
          obtain ⟨z, P, hp1, hp2⟩ := CP
          have P1 := Lib.hid hp1
          have P2 := Lib.hid hp2
          clear hp1 hp2
          go_upto_region 8 with fail
          rw [HW5.out]
          go_wp2_with fail
          go_region_held3 (fun w' => w'.cell? ⟨w.heap.size, 1, none⟩ = some (.int .i64 tid) ∧ w'.cell? ⟨w.heap.size, 2, none⟩ = some (.int .i64 cut)) (go_keep)
            (first | (go_at_call 20; (with_reducible refine P1.out.mono ?_); rintro r w6 ⟨rfl, ht6, hp6⟩; have T6 := Lib.hid ht6; have PP6 := Lib.hid hp6; obtain ⟨_, ⟨j1, j2⟩, _⟩ := KEEP.out w6 ht6; clear ht6 hp6) | (go_at_call 49; (with_reducible refine (P2.out _ T6.out PP6.out).mono ?_); rintro r w7 ⟨rfl, ht7, hp7⟩; obtain ⟨_, ⟨i1, i2⟩, _⟩ := KEEP.out w7 ht7; have F := Lib.hid (FIN.out w7 ht7 hp7); clear ht7 hp7))
          go_wp2_with fail
          go_ret
          exact F.out
        · have F := Lib.hid (FIN.out W5 (Turned.refl _ _) ⟨_, _, _, _, BO5.out⟩)
          go_upto_region 8 with fail
          rw [HW5.out]
          go_wp2_with fail
          go_ret
          exact F.out
  · have E0 := Lib.hid hof
    have hne : (ofE cl == 0) = false := by simp [hof]
    have hne' : (ofE cl != 0) = true := by simp [hof]
    clear hof
    go_wp2_with fail
    refine (of_no _ cl W0 SR0.out E0.out).mono ?_
    rintro r w1 ⟨rfl, rfl⟩
    go_wp2_with fail
    refine (rof_any _ cl W0 SR0.out).mono ?_
    rintro r w2 ⟨ns, rfl, hlen, hat, hb2⟩
    have HL := Lib.hid hlen
    obtain ⟨Z2, hZ2⟩ : ∃ Z2, (ints ns).toArray = Z2 := ⟨_, rfl⟩
    rw [hZ2]
    have HZ2 := Lib.hid hZ2
    have B2 := Lib.hid hb2
    clear hZ2 hat hlen hb2
    obtain ⟨oe, hoe⟩ : ∃ oe, ofE cl = oe := ⟨_, rfl⟩
    rw [hoe] at hne hne' ⊢
    clear hoe E0
    go_wp2_with (with_reducible refine wpList_store_clock rfl (.tmp 9) (.tmp 27) rfl w2.heap.size zeros ns ?kx Z2 ?ky HZ2.out ?k0 HL.out ?_)
    case kx => rfl
    case ky => rfl
    case k0 => exact rat_lone w2 Z HZ.out
    intro w3 R3 T3
    obtain ⟨hb3, _⟩ := rat_laid (ns := ns) HZ.out T3 B2.out
    have T := Lib.hid (show DoesPost B b c w (.returned (.bool true)) w3 from ⟨rfl, turned_below (below_trans B0.out hb3 B0.out.size), _, _, _, _, BO0.out.below hb3⟩)
    clear hb3 T3 R3
    go_wp2_with fail
    go_ret
    exact T.out
end Go.Proofs.Ytonegedenmchbaa

