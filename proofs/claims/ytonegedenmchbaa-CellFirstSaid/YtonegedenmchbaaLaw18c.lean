
/-
  CellFirst.
-/
import Derived.Test.YtonegedenmchbaaCelY
import Derived.Test.YtonegedenmchbaaLaw18a
import Derived.Deep.DeepCutAuto
namespace Go.Proofs.Ytonegedenmchbaa
open Go.RowKit
set_option linter.unusedVariables false
set_option linter.unusedSimpArgs false
set_option maxRecDepth 100000
attribute [local go_sem ↓] exec_ld37

/-! ### The argument -/
structure Ax where
  g : Int
  tt : Int
  wr : Bool
instance : Inhabited Ax := ⟨⟨0, 0, false⟩⟩
structure AxC (w : World) (b o : Nat) (s : Ax) : Prop where
  c0 : w.cell? ⟨b, o, none⟩ = some (.int .i64 s.g)
  c1 : w.cell? ⟨b, o + 1, none⟩ = some (.int .i64 s.tt)
  c2 : w.cell? ⟨b, o + 2, none⟩ = some (.bool s.wr)
theorem AxC.below {w w' : World} {b o : Nat} {r : Ax} (h : AxC w b o r) {n : Nat} (hn : w.heap.size ≤ n) (hB : Below n w w') : AxC w' b o r := by
  have hb : b < n := Nat.lt_of_lt_of_le (block_lt_of_cell h.c0) hn
  obtain ⟨c0, c1, c2⟩ := h
  have e : ∀ o, w'.cell? ⟨b, o, none⟩ = w.cell? ⟨b, o, none⟩ := fun o => hB.cell (p := ⟨b, o, none⟩) hb
  exact ⟨(e _).trans c0, (e _).trans c1, (e _).trans c2⟩
def AxsOf (w : World) (v : Value) (es : List Ax) : Prop :=
  ∃ ao cap, v = .slice ao es.length cap ∧ (0 < es.length → ∃ b o, ao = some ⟨b, o, none⟩ ∧ ∀ i, i < es.length → AxC w b (o + i * 3) (es.getD i default))
theorem axs_arg {H : Type} {enc : TypeId × Value → H} {W : World} {b0 : Nat} {held : Bool} {v : Value} {d : DataW H} {ps : List MemPlace}
    (hval : Value.okWide Try.prog W .any b0 22 v) (h : DataW.Trod enc Try.prog W 0 (fun _ => true) held 22 v d ps) : ∃ l, AxsOf W v l := by
  obtain ⟨a0, len0, cap0, rfl⟩ := Go.WideShapes.okWide_slice Try.underlying22 hval
  obtain ⟨fuel, hf⟩ := h
  obtain ⟨ao, len, cap, hcs, hle, hno, hc⟩ := open_structs Try.underlying22 Try.underlying34 (Go.Deep.hone_of (by kernel_rfl)) (by kernel_rfl) (by decide) hf
  simp [Value.cells] at hcs
  obtain ⟨rfl, rfl, rfl⟩ := hcs
  by_cases hp : 0 < len0
  · obtain ⟨b, o, rfl, hx⟩ := hc hp
    have each : ∀ i, i < len0 → ∃ p : Ax, AxC W b (o + i * 3) p := by
      intro i hi
      obtain ⟨v0, n0, y0, h0, t0⟩ := hx i hi 0 _ rfl
      obtain ⟨v1, n1, y1, h1, t1⟩ := hx i hi 1 _ rfl
      obtain ⟨v2, n2, y2, h2, t2⟩ := hx i hi 2 _ rfl
      obtain ⟨x0, e0, _⟩ := DataW.trod_int Try.underlying3 t0
      obtain ⟨x1, e1, _⟩ := DataW.trod_int Try.underlying3 t1
      obtain ⟨x2, e2, _⟩ := DataW.trod_bool Try.underlying4 t2
      cases e0; cases e1; cases e2
      exact ⟨⟨x0, x1, x2⟩, h0, h1, h2⟩
    obtain ⟨f, hfx⟩ := Go.Deep.choose_lt each
    refine ⟨(List.range len0).map f, some ⟨b, o, none⟩, cap0, by simp, fun _ => ⟨b, o, rfl, fun i hi => ?_⟩⟩
    have hi' : i < len0 := by simpa using hi
    have : ((List.range len0).map f).getD i default = f i := by simp [List.getD, hi']
    rw [this]
    exact hfx i hi'
  · have h0 : len0 = 0 := by omega
    subst h0
    exact ⟨[], a0, cap0, rfl, fun h => by simp at h⟩

/-! ### What holds at a round's head -/
theorem C4.congr {w : World} {b : Nat} {ns ms : Nat → List Int} (h : C4 w b ns) (he : ∀ g, g < 4 → ns g = ms g) : C4 w b ms := ⟨fun g hg => by rw [← he g hg]; exact h.rc g hg, h.ty⟩
def initN (k : Nat) : Nat → List Int := fun g => if g < k then zeros.set g 1 else zeros
theorem initN_first (g t : Nat) (hg : g < 4) : cN (initN 4) g t = first4 g t := by
  unfold cN initN first4
  rw [if_pos hg]
  by_cases h : g = t
  · subst h
    rw [if_pos ⟨rfl, hg⟩, getD_set256 rfl (by omega), if_pos rfl]
  · rw [if_neg (fun hh => h hh.1), getD_set256 rfl (by omega), if_neg (Ne.symm h)]
    have := at0_zeros (t : Int)
    rw [at0_nat] at this
    exact this
def Fst (B : Nat) (w : World) (b cb : Nat) (v6 v7 : Value) (k : Nat) : Prop :=
  ∃ ns C D x l, C4 w cb ns ∧ Ce B w b x l false ∧ Dn B w v6 v7 D ∧ Vc C D (k + 1) ∧ Cv x l D ∧ (∀ g t, g < 4 → cN ns g t = C g t) ∧ D.length ≤ k
theorem Vc.mono {C : Nat → Nat → Int} {D : List Ac} {M N : Int} (h : Vc C D M) (hMN : M ≤ N) : Vc C D N :=
  ⟨h.S, h.one, fun g t hg => ⟨(h.bd g t hg).1, Int.le_trans (h.bd g t hg).2 hMN⟩, fun d hd => ⟨(h.lo d hd).1, (h.lo d hd).2.1, Int.le_trans (h.lo d hd).2.2.1 hMN, (h.lo d hd).2.2.2⟩, h.K⟩
theorem Fst.next {B : Nat} {w w' : World} {b cb : Nat} {v6 v7 : Value} {k : Nat} (h : Fst B w b cb v6 v7 k) (hB : Below w.heap.size w w') : Fst B w' b cb v6 v7 (k + 1) := by
  obtain ⟨ns, C, D, x, l, h1, h2, h3, h4, h5, h6, h7⟩ := h
  exact ⟨ns, C, D, x, l, h1.below hB, h2.below hB, h3.below hB, h4.mono (by push_cast; omega), h5, h6, by omega⟩
theorem trim_f (xs : List Int) : at0 (trim xs) = at0 xs := by funext u; exact at0_trim xs u
theorem ofE_trim {xs : List Int} (hl : xs.length = 256) (h : ∀ t : Nat, 0 ≤ xs.getD t 0 ∧ xs.getD t 0 ≤ 1048576) : ofE (trim xs) = 0 := by
  unfold ofE
  have h1 := length_trim_le xs
  rw [if_neg (by omega), if_pos]
  intro j hj
  unfold okN
  have h2 := at0_trim xs (j : Int)
  rw [at0_nat, at0_nat] at h2
  rw [h2]
  exact h j

/-- What an access leaves. -/
def AfterAcc (B b : Nat) (D : List Ac) (d : Ac) (w7 : World) (rb : Bool) (yv : Int) (wy : World) : Prop :=
  (rb = true → (yv == 0) = false) ∧ (rb = false → yv = 0 ∧ ∃ x l, Ce B wy b x l false ∧ Cv x l (D ++ [d])) ∧ Turned (fun i => i = b) w7 wy
def AccPost (B b : Nat) (D : List Ac) (d : Ac) (w7 : World) (rb : Bool) (r : Ending) (wy : World) : Prop := ∃ yv : Int, r = .returned (.tuple #[.int .i64 yv, .int .i64 0]) ∧ AfterAcc B b D d w7 rb yv wy
theorem acc_write {B b : Nat} {w7 : World} {x : Int} {l : List Int} {C : Nat → Nat → Int} {D : List Ac} {M : Int} {G : Nat} {cv : Value} {f : Int → Int} {rb : Bool} (h : Ce B w7 b x l false) (hv : Vc C D M) (hM : M ≤ 1048576) (hc : Cv x l D) (hG : G < 4) (hK : CkV w7 cv f) (hf : ∀ t : Nat, f t = C G t) (hrb : raceB D f G true D.length = rb) :
    Calls Try.prog 15 #[.pointer (some ⟨b, 0, none⟩), .int .u64 (ep G (C G G)), cv] w7 (AccPost B b D ⟨G, C G G, true, C G⟩ w7 rb) := by
  have h1 := hv.one G hG
  have h2 := (hv.bd G G hG).2
  have hok := okE_ep (t := (G : Int)) (c := C G G) (by omega) (by omega) h1 (by omega)
  have hte := tidE_ep (t := (G : Int)) (c := C G G) (by omega) (by omega) h1 (by omega)
  have key := race_write hv hM hc hG hte hf
  have ri := race_iff (D := D) (G := G) (wr := true) hf
  rw [hrb] at ri
  refine (ce_write h _ cv f hok hK).mono ?_
  rintro r w' ⟨rfl, ht, hce⟩
  refine ⟨_, rfl, fun hr => ?_, fun hr => ?_, ht⟩
  · have := key.2 (ri.1 hr)
    simpa using this
  · have hn : ¬ Race C D G true := fun hh => by rw [ri.2 hh] at hr; cases hr
    exact ⟨Classical.byContradiction fun h0 => hn (key.1 h0), _, _, hce, cv_write hv hG hn⟩
theorem acc_read {B b : Nat} {w7 : World} {x : Int} {l : List Int} {C : Nat → Nat → Int} {D : List Ac} {M : Int} {G : Nat} {cv : Value} {f : Int → Int} {rb : Bool} (h : Ce B w7 b x l false) (hv : Vc C D M) (hM : M ≤ 1048576) (hc : Cv x l D) (hG : G < 4) (hK : CkV w7 cv f) (hf : ∀ t : Nat, f t = C G t) (hrb : raceB D f G false D.length = rb) :
    Calls Try.prog 16 #[.pointer (some ⟨b, 0, none⟩), .int .u64 (ep G (C G G)), cv] w7 (AccPost B b D ⟨G, C G G, false, C G⟩ w7 rb) := by
  have h1 := hv.one G hG
  have h2 := (hv.bd G G hG).2
  have hok := okE_ep (t := (G : Int)) (c := C G G) (by omega) (by omega) h1 (by omega)
  have hte := tidE_ep (t := (G : Int)) (c := C G G) (by omega) (by omega) h1 (by omega)
  have key := race_read hv hM hc hG hte hf
  have ri := race_iff (D := D) (G := G) (wr := false) hf
  rw [hrb] at ri
  refine (ce_read h _ cv f hok hK).mono ?_
  rintro r w' ⟨rfl, ht, hce⟩
  refine ⟨_, rfl, fun hr => ?_, fun hr => ?_, ht⟩
  · rw [key.2 (ri.1 hr)]; rfl
  · have hn : ¬ Race C D G false := fun hh => by rw [ri.2 hh] at hr; cases hr
    have hk : knownB x (ep G (C G G)) f = true := by
      cases hh : knownB x (ep G (C G G)) f with
      | true => rfl
      | false => exact absurd (key.1 hh) hn
    exact ⟨by rw [hk]; rfl, _, _, hce, cv_read hv hM hc hG hf hte⟩

set_option maxHeartbeats 16000000 in
theorem first_law (v : Value) (es : List Ax) (w : World) (h : AxsOf w v es) : Calls Try.prog 3 #[v] w (LawPost w) := by
  obtain ⟨ao, cap, rfl, hc⟩ := h
  obtain ⟨n, hn⟩ : ∃ n, es.length = n := ⟨_, rfl⟩
  have HC := Lib.hid hc
  have HN := Lib.hid hn
  rw [hn]
  clear hc hn
  obtain ⟨Z4, hZ4⟩ : ∃ Z, (ints zeros4).toArray = Z := ⟨_, rfl⟩
  have hz4 := (zero_of_info info29).1
  rw [hZ4] at hz4
  have HZ4 := Lib.hid hZ4
  clear hZ4
  go_enter Try.func3, Try.ntmps3
  go_wp2_with fail
  refine (ce_new w.heap.size w (Nat.le_refl _)).mono ?_
  rintro e w1 ⟨⟨b, rfl, hce, hb⟩, hB1⟩
  have C1 := Lib.hid hce
  have B1 := Lib.hid hB1
  clear hce hB1
  by_cases hl : 60 < n
  · have hl' : (60 : Int) < (n : Int) := by omega
    go_wp2_with fail
    refine (races_any w1).mono ?_
    rintro e w2 ⟨rfl, hb2⟩
    have B2 := Lib.hid (below_trans B1.out hb2 B1.out.size)
    clear hb2
    go_wp2_with fail
    go_ret
    exact ⟨rfl, B2.out⟩
  · have hl' : ¬ ((60 : Int) < (n : Int)) := by omega
    have hn60 : n ≤ 60 := by omega
    obtain ⟨W2, hW2⟩ : ∃ W2, w1.alloc (.cells Z4 29) = W2 := ⟨_, rfl⟩
    have hb12 : Below w1.heap.size w1 W2 := by rw [← hW2]; exact (Below.refl _ _).alloc (Nat.le_refl _) _
    have F2 := Lib.hid (show C4 W2 w1.heap.size (fun _ => zeros) from by rw [← hW2]; exact c4_new HZ4.out)
    have C2 := Lib.hid (C1.out.below hb12)
    have B2 := Lib.hid (below_trans B1.out hb12 B1.out.size)
    have HW2 := Lib.hid hW2
    have LB := Lib.hid (show w.heap.size ≤ b ∧ w.heap.size ≤ w1.heap.size ∧ w1.heap.size ≠ b from ⟨hb, B1.out.size, by have := C1.out.low.2; omega⟩)
    obtain ⟨cb, hcb⟩ : ∃ cb, w1.heap.size = cb := ⟨_, rfl⟩
    rw [hcb] at F2 LB
    have HCB := Lib.hid hcb
    clear hb12 hW2 hb hcb C1 B1 hl
    go_upto_region 5 with fail
    rw [HW2.out, HCB.out]
    go_wp2_with fail
    go_loopw [5] (fun i wr => ∃ k : Nat, k ≤ 4 ∧ i = .int .i64 k ∧ C4 wr cb (initN k) ∧ Ce w.heap.size wr b 0 [] false ∧ Below w.heap.size w wr) (fun i _ => 4 - (intOf i).toNat)
    case atStart => exact ⟨0, by omega, rfl, F2.out.congr (fun g hg => by unfold initN; rw [if_neg (by omega)]), C2.out, B2.out⟩
    case round =>
      obtain ⟨k, hk, rfl, hf, hce, hbr⟩ := hrel
      have F := Lib.hid hf
      have CC := Lib.hid hce
      have HB := Lib.hid hbr
      clear hf hce hbr
      by_cases hlt : k < 4
      · have hlt' : (k : Int) < 4 := by omega
        have hki : initN k k = zeros := by unfold initN; rw [if_neg (by omega)]
        have SET := Lib.hid (show RC wr cb (k * 256) zeros from by rw [← hki]; exact F.out.rc k hlt)
        go_wp2_with fail
        refine (rc_set cb (k * 256) zeros k 1 wr SET.out (by omega) (by omega) (by omega)).mono ?_
        rintro r w5 ⟨rfl, rfl⟩
        have HO := Lib.hid (show Only cb (k * 256) 256 wr (wr.setCell ⟨cb, k * 256 + k, none⟩ (.int .i64 1)) from Only.of_set _ (by omega))
        have F5 := Lib.hid ((F.out.only hlt HO.out (SET.out.set k (by omega) 1)).congr (ms := initN (k + 1)) (fun g hg => by
          unfold upC initN
          by_cases h1 : g = k
          · subst h1; rw [if_pos rfl, if_pos (by omega)]
          · rw [if_neg h1]
            by_cases h2 : g < k
            · rw [if_pos h2, if_pos (by omega)]
            · rw [if_neg h2, if_neg (by omega)]))
        have C5 := Lib.hid (CC.out.keep (keepT_only F.out HO.out (by decide)) (keepT_only F.out HO.out (by decide)) HO.out.size)
        have B5 := Lib.hid (below_turned HB.out (only_turned HO.out) (Nat.le_refl _) (fun i hi => by have : i = cb := hi; have := LB.out.2.1; omega))
        clear hki
        go_wp2_with fail
        go_roundw
        case rel => exact ⟨k + 1, by omega, by go_num, F5.out, C5.out, B5.out⟩
        case measure => simp [intOf] <;> omega
      · have hge : (4 : Int) ≤ k := by omega
        have hk4 : k = 4 := by omega
        have F4 := Lib.hid (show C4 wr cb (initN 4) from by rw [← hk4]; exact F.out)
        have S0 := Lib.hid (show Fst w.heap.size wr b cb (.slice none 0 0) (.slice none 0 0) 0 from ⟨initN 4, first4, [], 0, [], F4.out, CC.out, ⟨⟨rfl, .inl ⟨rfl, rfl⟩⟩, ⟨rfl, .inl ⟨rfl, rfl⟩⟩⟩, vc_first, cv_first, fun g t hg => initN_first g t hg, by simp⟩)
        clear hlt hk hk4 F CC F4
        go_wp2_with fail
        go_loopw [43, 6, 7] (fun i v6 v7 wr => ∃ k : Nat, k ≤ n ∧ i = .int .i64 k ∧ Fst w.heap.size wr b cb v6 v7 k ∧ Below w.heap.size w wr) (fun i _ _ _ => n - (intOf i).toNat)
        case atStart => exact ⟨0, by omega, rfl, S0.out, HB.out⟩
        case round =>
          obtain ⟨k, hk, rfl, hfst, hbr⟩ := hrel
          have FS := Lib.hid hfst
          have HR := Lib.hid hbr
          clear hfst hbr S0 HB
          by_cases hlt : k < n
          · have hlt' : (k : Int) < (n : Int) := by omega
            obtain ⟨b', o, rfl, hcc⟩ := HC.out (by have := HN.out; omega)
            obtain ⟨c0, c1, c2⟩ := (hcc k (by have := HN.out; omega)).below (Nat.le_refl _) HR.out
            obtain ⟨s, hs⟩ : ∃ s, es.getD k default = s := ⟨_, rfl⟩
            rw [hs] at c0 c1 c2
            obtain ⟨ga, tt, wb⟩ := s
            dsimp only at c0 c1 c2
            clear hcc hs
            obtain ⟨W1, hW1⟩ : ∃ W1, wr.alloc (.cells #[.int .i64 ga, .int .i64 tt, .bool wb] 34) = W1 := ⟨_, rfl⟩
            have BW1 : Below wr.heap.size wr W1 := by rw [← hW1]; exact (Below.refl _ _).alloc (Nat.le_refl _) _
            have Q1 := Lib.hid (show W1.heap[wr.heap.size]? = some (.cells #[.int .i64 ga, .int .i64 tt, .bool wb] 34 (0, 0)) from by rw [← hW1]; exact heap_alloc_new wr _)
            have QC := Lib.hid (show ∀ w' : World, w'.heap[wr.heap.size]? = some (.cells #[.int .i64 ga, .int .i64 tt, .bool wb] 34 (0, 0)) → w'.cell? ⟨wr.heap.size, 0, none⟩ = some (.int .i64 ga) ∧ w'.cell? ⟨wr.heap.size, 1, none⟩ = some (.int .i64 tt) ∧ w'.cell? ⟨wr.heap.size, 2, none⟩ = some (.bool wb) from fun w' hh => by
              refine ⟨?_, ?_, ?_⟩ <;> (simp only [World.cell?, hh]; rfl))
            have FN := Lib.hid (FS.out.next BW1)
            have HB1 := Lib.hid (below_trans HR.out BW1 HR.out.size)
            have BW := Lib.hid BW1
            have HW1 := Lib.hid hW1
            obtain ⟨q, hq⟩ : ∃ q, wr.heap.size = q := ⟨_, rfl⟩
            rw [hq] at Q1 QC
            have HQ := Lib.hid hq
            obtain ⟨q0, q1, q2⟩ := QC.out W1 Q1.out
            clear hW1 BW1 hq
            go_upto_region 14 with fail
            rw [HW1.out, HQ.out]
            clear c0 c1 c2
            by_cases hga : ga < 0 ∨ 3 < ga
            · have hh : ga < 0 ∨ (¬ ga < 0 ∧ 3 < ga) := by omega
              clear hga
              rcases hh with h1 | ⟨h1, h2⟩
              all_goals
                go_wp2_with fail
                go_roundw
                case rel => exact ⟨k + 1, by omega, by go_num, FN.out, HB1.out⟩
                case measure => simp [intOf] <;> omega
            · have g1 : ¬ (ga < 0) := by omega
              have g2 : ¬ (3 < ga) := by omega
              obtain ⟨G, hG⟩ := Int.eq_ofNat_of_zero_le (show 0 ≤ ga by omega)
              subst hG
              have hG4 : G < 4 := by omega
              have hG4' : (G : Int) < 4 := by omega
              clear hga FN
              obtain ⟨ns, C, D, x, l, hf, hce, hdn, hvc, hcv, hcn, hdl⟩ := FS.out
              have F1 := Lib.hid (hf.below BW.out)
              have CE1 := Lib.hid (hce.below BW.out)
              have DN1 := Lib.hid (hdn.below BW.out)
              have VC := Lib.hid hvc
              have CV := Lib.hid hcv
              have CN := Lib.hid hcn
              have HM := Lib.hid (show ((k : Int) + 1) ≤ 1048576 from by omega)
              have FF := Lib.hid (show ∀ t : Nat, at0 (ns G) t = C G t from fun t => (at0_cN ns G t).trans (hcn G t hG4))
              obtain ⟨⟨a6, p6, rfl⟩, a7, p7, rfl⟩ := DN1.out.shape
              obtain ⟨d, hd⟩ : ∃ d, D.length = d := ⟨_, rfl⟩
              have HD := Lib.hid hd
              have DL := Lib.hid (show d ≤ k from by omega)
              have hd60 : d ≤ 60 := by omega
              have NB := Lib.hid (show 1 ≤ C G G ∧ C G G ≤ 1048576 from ⟨hvc.one G hG4, by have := (hvc.bd G G hG4).2; omega⟩)
              have GT := Lib.hid (show Calls Try.prog 11 #[.pointer (some ⟨cb, G * 256, none⟩), .int .i64 G] W1.drew (fun r w' => r = .returned (.int .i64 (C G G)) ∧ W1.drew = w') from by
                have h1 := rc_get cb (G * 256) (ns G) G W1.drew (show RC W1.drew cb (G * 256) (ns G) from ⟨(F1.out.rc G hG4).1, (F1.out.rc G hG4).2.1, (F1.out.rc G hG4).2.2⟩)
                rw [FF.out G] at h1
                exact h1)
              obtain ⟨N, hN⟩ : ∃ N, C G G = N := ⟨_, rfl⟩
              rw [hN] at GT NB
              have HNN := Lib.hid hN
              rw [hd] at DN1 ⊢
              clear hf hce hdn hvc hcv hcn hdl hd hN FS
              go_wp2_with fail
              go_region_held3 (fun w' => w'.cell? ⟨q, 0, none⟩ = some (.int .i64 G)) (go_keep) (first | (go_at_call 11; (with_reducible refine GT.out.mono ?_); rintro r w5 ⟨rfl, rfl⟩))
              go_wp2_with fail
              go_loopw [63, 11] (fun i z wx => ∃ j : Nat, j ≤ d ∧ i = .int .i64 j ∧ z = .bool (raceB D (at0 (ns G)) G wb j) ∧ Below W1.heap.size W1 wx) (fun i _ _ => d - (intOf i).toNat)
              case atStart => exact ⟨0, by omega, rfl, rfl, (Below.refl _ _).drew⟩
              case round =>
                obtain ⟨j, hj, rfl, rfl, hbx⟩ := hrel
                have HX := Lib.hid hbx
                have QX := Lib.hid ((hbx.block _ (lt_of_heap Q1.out)).trans Q1.out)
                clear hbx
                by_cases hjd : j < d
                · have hjd' : (j : Int) < (d : Int) := by omega
                  have hjD : j < D.length := by have := HD.out; omega
                  obtain ⟨g6, c6, g7, c7, e6, e7, k0, k1, k2, k3, kb⟩ := (DN1.out.below HX.out).at' j hjD
                  obtain rfl : a6 = some ⟨g6, 0, none⟩ := by injection e6
                  obtain rfl : a7 = some ⟨g7, 0, none⟩ := by injection e7
                  have RS := Lib.hid (raceB_step hjD (at0 (ns G)) G wb)
                  obtain ⟨⟨dg, dn, dw, dV⟩, hdj⟩ : ∃ dj, D[j] = dj := ⟨_, rfl⟩
                  rw [hdj] at k0 k1 kb RS
                  dsimp only at k0 k1 kb RS
                  obtain ⟨W5, hW5⟩ : ∃ W5, wr.alloc (.cells #[.int .i64 dg, .int .i64 dn, .bool false, .bool false] 37) = W5 := ⟨_, rfl⟩
                  have b5 : Below wr.heap.size wr W5 := by rw [← hW5]; exact (Below.refl _ _).alloc (Nat.le_refl _) _
                  have z5 : W5.heap[wr.heap.size]? = some (.cells #[.int .i64 dg, .int .i64 dn, .bool false, .bool false] 37 (0, 0)) := by rw [← hW5]; exact heap_alloc_new wr _
                  obtain ⟨p0, p1, p2, p3⟩ := four_cells z5
                  have kb5 := (b5.cell (p := ⟨g7, j, none⟩) (block_lt_of_cell kb)).trans kb
                  obtain ⟨y0, y1, y2⟩ := QC.out W5 ((b5.block _ (lt_of_heap QX.out)).trans QX.out)
                  have HX5 := Lib.hid (below_trans HX.out b5 HX.out.size)
                  obtain ⟨u, hu⟩ : ∃ u, at0 (ns G) (dg : Int) = u := ⟨_, rfl⟩
                  have GU := Lib.hid (show Calls Try.prog 11 #[.pointer (some ⟨cb, G * 256, none⟩), .int .i64 dg] W5.drew (fun r w' => r = .returned (.int .i64 u) ∧ W5.drew = w') from by
                    have hr := (F1.out.below HX5.out).rc G hG4
                    have h1 := rc_get cb (G * 256) (ns G) dg W5.drew (show RC W5.drew cb (G * 256) (ns G) from ⟨hr.1, hr.2.1, hr.2.2⟩)
                    rw [hu] at h1
                    exact h1)
                  obtain ⟨t, ht⟩ : ∃ t, decide (u < dn) = t := ⟨_, rfl⟩
                  obtain ⟨z, hz⟩ : ∃ z, raceB D (at0 (ns G)) G wb j = z := ⟨_, rfl⟩
                  rw [hu, ht, hz] at RS
                  rw [hz]
                  have HW5 := Lib.hid hW5
                  obtain ⟨e, he⟩ : ∃ e, decide (dg = G) = e := ⟨_, rfl⟩
                  have he2 : ((dg : Int) != (G : Int)) = !e := by
                    rw [← he]
                    show (!decide ((dg : Int) = (G : Int))) = _
                    rw [decide_eq_decide.2 (Int.ofNat_inj (m := dg) (n := G))]
                  rw [he] at RS
                  clear hW5 b5 z5 kb hdj hu hz he
                  go_upto_region 20 with fail
                  rw [HW5.out]
                  have HXD := Lib.hid (show Below W1.heap.size W1 W5.drew from HX5.out.drew)
                  cases z with
                  | true =>
                    refine wp_region_held_drew (S := (fun w' => w'.cell? ⟨q, 0, none⟩ = some (.int .i64 G) ∧ w'.cell? ⟨q, 2, none⟩ = some (.bool wb) ∧ w'.cell? ⟨wr.heap.size, 0, none⟩ = some (.int .i64 dg) ∧ w'.cell? ⟨wr.heap.size, 1, none⟩ = some (.int .i64 dn) ∧ w'.cell? ⟨g7, j, none⟩ = some (.bool dw))) (by kernel_rfl) (by (try dsimp only); go_keep) (fun hHeld => ?_)
                    refine wpAnyH_take (i := 0) (v := ?vz10) rfl (by kernel_rfl) (by kernel_rfl) (by kernel_rfl) (fun _ _ _ h => h) (Or.inl ⟨by kernel_rfl, ?hyz10⟩) (by assumption) ?restz10
                    case hyz10 => (intro w hSw; (try dsimp only at hSw); go_simp; try with_reducible rfl)
                    try simp only [Act.put, List.getElem_toArray, List.getElem_cons_succ, List.getElem_cons_zero, List.setIfInBounds_toArray, List.set_cons_zero, List.set_cons_succ]
                    refine wpAnyH_take (i := 1) (v := ?vz11) rfl (by kernel_rfl) (by kernel_rfl) (by kernel_rfl) (fun _ _ _ h => h) (Or.inl ⟨by kernel_rfl, ?hyz11⟩) (by assumption) ?restz11
                    case hyz11 => (intro w hSw; (try dsimp only at hSw); go_simp; try with_reducible rfl)
                    try simp only [Act.put, List.getElem_toArray, List.getElem_cons_succ, List.getElem_cons_zero, List.setIfInBounds_toArray, List.set_cons_zero, List.set_cons_succ]
                    refine wpAnyH_take (i := 2) (v := undef) rfl (by kernel_rfl) (by kernel_rfl) (by kernel_rfl) (fun _ _ _ h => h) (Or.inr ⟨by kernel_rfl, rfl⟩) (by assumption) ?_
                    try simp only [Act.put, List.getElem_toArray, List.getElem_cons_succ, List.getElem_cons_zero, List.setIfInBounds_toArray, List.set_cons_zero, List.set_cons_succ]
                    refine wpAnyH_take (i := 3) (v := undef) rfl (by kernel_rfl) (by kernel_rfl) (by kernel_rfl) (fun _ _ _ h => h) (Or.inr ⟨by kernel_rfl, rfl⟩) (by assumption) ?_
                    try simp only [Act.put, List.getElem_toArray, List.getElem_cons_succ, List.getElem_cons_zero, List.setIfInBounds_toArray, List.set_cons_zero, List.set_cons_succ]
                    refine wpAnyH_take (i := 4) (v := undef) rfl (by kernel_rfl) (by kernel_rfl) (by kernel_rfl) (fun _ _ _ h => h) (Or.inr ⟨by kernel_rfl, rfl⟩) (by assumption) ?_
                    try simp only [Act.put, List.getElem_toArray, List.getElem_cons_succ, List.getElem_cons_zero, List.setIfInBounds_toArray, List.set_cons_zero, List.set_cons_succ]
                    refine wpAnyH_take (i := 5) (v := undef) rfl (by kernel_rfl) (by kernel_rfl) (by kernel_rfl) (fun _ _ _ h => h) (Or.inr ⟨by kernel_rfl, rfl⟩) (by assumption) ?_
                    try simp only [Act.put, List.getElem_toArray, List.getElem_cons_succ, List.getElem_cons_zero, List.setIfInBounds_toArray, List.set_cons_zero, List.set_cons_succ]
                    refine wpAnyH_take (i := 6) (v := undef) rfl (by kernel_rfl) (by kernel_rfl) (by kernel_rfl) (fun _ _ _ h => h) (Or.inr ⟨by kernel_rfl, rfl⟩) (by assumption) ?_
                    try simp only [Act.put, List.getElem_toArray, List.getElem_cons_succ, List.getElem_cons_zero, List.setIfInBounds_toArray, List.set_cons_zero, List.set_cons_succ]
                    refine wpAnyH_take (i := 7) (v := undef) rfl (by kernel_rfl) (by kernel_rfl) (by kernel_rfl) (fun _ _ _ h => h) (Or.inr ⟨by kernel_rfl, rfl⟩) (by assumption) ?_
                    try simp only [Act.put, List.getElem_toArray, List.getElem_cons_succ, List.getElem_cons_zero, List.setIfInBounds_toArray, List.set_cons_zero, List.set_cons_succ]
                    refine wpAnyH_take (i := 8) (v := undef) rfl (by kernel_rfl) (by kernel_rfl) (by kernel_rfl) (fun _ _ _ h => h) (Or.inr ⟨by kernel_rfl, rfl⟩) (by assumption) ?_
                    try simp only [Act.put, List.getElem_toArray, List.getElem_cons_succ, List.getElem_cons_zero, List.setIfInBounds_toArray, List.set_cons_zero, List.set_cons_succ]
                    refine wpAnyH_take (i := 9) (v := undef) rfl (by kernel_rfl) (by kernel_rfl) (by kernel_rfl) (fun _ _ _ h => h) (Or.inr ⟨by kernel_rfl, rfl⟩) (by assumption) ?_
                    try simp only [Act.put, List.getElem_toArray, List.getElem_cons_succ, List.getElem_cons_zero, List.setIfInBounds_toArray, List.set_cons_zero, List.set_cons_succ]
                    refine wpAnyH_take (i := 10) (v := undef) rfl (by kernel_rfl) (by kernel_rfl) (by kernel_rfl) (fun _ _ _ h => h) (Or.inr ⟨by kernel_rfl, rfl⟩) (by assumption) ?_
                    try simp only [Act.put, List.getElem_toArray, List.getElem_cons_succ, List.getElem_cons_zero, List.setIfInBounds_toArray, List.set_cons_zero, List.set_cons_succ]
                    refine wpAnyH_take (i := 11) (v := undef) rfl (by kernel_rfl) (by kernel_rfl) (by kernel_rfl) (fun _ _ _ h => h) (Or.inr ⟨by kernel_rfl, rfl⟩) (by assumption) ?_
                    try simp only [Act.put, List.getElem_toArray, List.getElem_cons_succ, List.getElem_cons_zero, List.setIfInBounds_toArray, List.set_cons_zero, List.set_cons_succ]
                    refine wpAnyH_take (i := 12) (v := undef) rfl (by kernel_rfl) (by kernel_rfl) (by kernel_rfl) (fun _ _ _ h => h) (Or.inr ⟨by kernel_rfl, rfl⟩) (by assumption) ?_
                    try simp only [Act.put, List.getElem_toArray, List.getElem_cons_succ, List.getElem_cons_zero, List.setIfInBounds_toArray, List.set_cons_zero, List.set_cons_succ]
                    refine wpAnyH_take (i := 13) (v := undef) rfl (by kernel_rfl) (by kernel_rfl) (by kernel_rfl) (fun _ _ _ h => h) (Or.inr ⟨by kernel_rfl, rfl⟩) (by assumption) ?_
                    try simp only [Act.put, List.getElem_toArray, List.getElem_cons_succ, List.getElem_cons_zero, List.setIfInBounds_toArray, List.set_cons_zero, List.set_cons_succ]
                    refine wpAnyH_take (i := 14) (v := undef) rfl (by kernel_rfl) (by kernel_rfl) (by kernel_rfl) (fun _ _ _ h => h) (Or.inr ⟨by kernel_rfl, rfl⟩) (by assumption) ?_
                    try simp only [Act.put, List.getElem_toArray, List.getElem_cons_succ, List.getElem_cons_zero, List.setIfInBounds_toArray, List.set_cons_zero, List.set_cons_succ]
                    refine wpAnyH_take (i := 15) (v := undef) rfl (by kernel_rfl) (by kernel_rfl) (by kernel_rfl) (fun _ _ _ h => h) (Or.inr ⟨by kernel_rfl, rfl⟩) (by assumption) ?_
                    try simp only [Act.put, List.getElem_toArray, List.getElem_cons_succ, List.getElem_cons_zero, List.setIfInBounds_toArray, List.set_cons_zero, List.set_cons_succ]
                    refine wpAnyH_take (i := 16) (v := undef) rfl (by kernel_rfl) (by kernel_rfl) (by kernel_rfl) (fun _ _ _ h => h) (Or.inr ⟨by kernel_rfl, rfl⟩) (by assumption) ?_
                    try simp only [Act.put, List.getElem_toArray, List.getElem_cons_succ, List.getElem_cons_zero, List.setIfInBounds_toArray, List.set_cons_zero, List.set_cons_succ]
                    refine wpAnyH_take (i := 17) (v := undef) rfl (by kernel_rfl) (by kernel_rfl) (by kernel_rfl) (fun _ _ _ h => h) (Or.inr ⟨by kernel_rfl, rfl⟩) (by assumption) ?_
                    try simp only [Act.put, List.getElem_toArray, List.getElem_cons_succ, List.getElem_cons_zero, List.setIfInBounds_toArray, List.set_cons_zero, List.set_cons_succ]
                    refine wpAnyH_take (i := 18) (v := undef) rfl (by kernel_rfl) (by kernel_rfl) (by kernel_rfl) (fun _ _ _ h => h) (Or.inr ⟨by kernel_rfl, rfl⟩) (by assumption) ?_
                    try simp only [Act.put, List.getElem_toArray, List.getElem_cons_succ, List.getElem_cons_zero, List.setIfInBounds_toArray, List.set_cons_zero, List.set_cons_succ]
                    refine wpAnyH_take (i := 19) (v := undef) rfl (by kernel_rfl) (by kernel_rfl) (by kernel_rfl) (fun _ _ _ h => h) (Or.inr ⟨by kernel_rfl, rfl⟩) (by assumption) ?_
                    try simp only [Act.put, List.getElem_toArray, List.getElem_cons_succ, List.getElem_cons_zero, List.setIfInBounds_toArray, List.set_cons_zero, List.set_cons_succ]
                    refine wpAnyH_take (i := 20) (v := undef) rfl (by kernel_rfl) (by kernel_rfl) (by kernel_rfl) (fun _ _ _ h => h) (Or.inr ⟨by kernel_rfl, rfl⟩) (by assumption) ?_
                    try simp only [Act.put, List.getElem_toArray, List.getElem_cons_succ, List.getElem_cons_zero, List.setIfInBounds_toArray, List.set_cons_zero, List.set_cons_succ]
                    refine wpAnyH_take (i := 21) (v := undef) rfl (by kernel_rfl) (by kernel_rfl) (by kernel_rfl) (fun _ _ _ h => h) (Or.inr ⟨by kernel_rfl, rfl⟩) (by assumption) ?_
                    try simp only [Act.put, List.getElem_toArray, List.getElem_cons_succ, List.getElem_cons_zero, List.setIfInBounds_toArray, List.set_cons_zero, List.set_cons_succ]
                    refine wpAnyH_take (i := 22) (v := undef) rfl (by kernel_rfl) (by kernel_rfl) (by kernel_rfl) (fun _ _ _ h => h) (Or.inr ⟨by kernel_rfl, rfl⟩) (by assumption) ?_
                    try simp only [Act.put, List.getElem_toArray, List.getElem_cons_succ, List.getElem_cons_zero, List.setIfInBounds_toArray, List.set_cons_zero, List.set_cons_succ]
                    refine wpAnyH_take (i := 23) (v := undef) rfl (by kernel_rfl) (by kernel_rfl) (by kernel_rfl) (fun _ _ _ h => h) (Or.inr ⟨by kernel_rfl, rfl⟩) (by assumption) ?_
                    try simp only [Act.put, List.getElem_toArray, List.getElem_cons_succ, List.getElem_cons_zero, List.setIfInBounds_toArray, List.set_cons_zero, List.set_cons_succ]
                    refine wpAnyH_take (i := 24) (v := undef) rfl (by kernel_rfl) (by kernel_rfl) (by kernel_rfl) (fun _ _ _ h => h) (Or.inr ⟨by kernel_rfl, rfl⟩) (by assumption) ?_
                    try simp only [Act.put, List.getElem_toArray, List.getElem_cons_succ, List.getElem_cons_zero, List.setIfInBounds_toArray, List.set_cons_zero, List.set_cons_succ]
                    refine wpAnyH_take (i := 25) (v := undef) rfl (by kernel_rfl) (by kernel_rfl) (by kernel_rfl) (fun _ _ _ h => h) (Or.inr ⟨by kernel_rfl, rfl⟩) (by assumption) ?_
                    try simp only [Act.put, List.getElem_toArray, List.getElem_cons_succ, List.getElem_cons_zero, List.setIfInBounds_toArray, List.set_cons_zero, List.set_cons_succ]
                    refine wpAnyH_take (i := 26) (v := undef) rfl (by kernel_rfl) (by kernel_rfl) (by kernel_rfl) (fun _ _ _ h => h) (Or.inr ⟨by kernel_rfl, rfl⟩) (by assumption) ?_
                    try simp only [Act.put, List.getElem_toArray, List.getElem_cons_succ, List.getElem_cons_zero, List.setIfInBounds_toArray, List.set_cons_zero, List.set_cons_succ]
                    refine wpAnyH_take (i := 27) (v := undef) rfl (by kernel_rfl) (by kernel_rfl) (by kernel_rfl) (fun _ _ _ h => h) (Or.inr ⟨by kernel_rfl, rfl⟩) (by assumption) ?_
                    try simp only [Act.put, List.getElem_toArray, List.getElem_cons_succ, List.getElem_cons_zero, List.setIfInBounds_toArray, List.set_cons_zero, List.set_cons_succ]
                    refine wpAnyH_take (i := 28) (v := ?vz128) rfl (by kernel_rfl) (by kernel_rfl) (by kernel_rfl) (fun _ _ _ h => h) (Or.inl ⟨by kernel_rfl, ?hyz128⟩) (by assumption) ?restz128
                    case hyz128 => (intro w hSw; (try dsimp only at hSw); go_simp; try with_reducible rfl)
                    try simp only [Act.put, List.getElem_toArray, List.getElem_cons_succ, List.getElem_cons_zero, List.setIfInBounds_toArray, List.set_cons_zero, List.set_cons_succ]
                    refine wpAnyH_take (i := 29) (v := ?vz129) rfl (by kernel_rfl) (by kernel_rfl) (by kernel_rfl) (fun _ _ _ h => h) (Or.inl ⟨by kernel_rfl, ?hyz129⟩) (by assumption) ?restz129
                    case hyz129 => (intro w hSw; (try dsimp only at hSw); go_simp; try with_reducible rfl)
                    try simp only [Act.put, List.getElem_toArray, List.getElem_cons_succ, List.getElem_cons_zero, List.setIfInBounds_toArray, List.set_cons_zero, List.set_cons_succ]
                    refine wpAnyH_done (by kernel_rfl) ?_ _
                    go_wp2_with fail
                    go_roundw
                    case rel => exact ⟨j + 1, by omega, by go_num, by rw [RS.out]; rfl, HXD.out⟩
                    case measure => simp [intOf] <;> omega
                  | false =>
                    cases dw with
                    | true =>
                      cases e with
                      | true =>
                        have he3 : ((dg : Int) != (G : Int)) = false := he2
                        clear he2
                        refine wp_region_held_drew (S := (fun w' => w'.cell? ⟨q, 0, none⟩ = some (.int .i64 G) ∧ w'.cell? ⟨q, 2, none⟩ = some (.bool wb) ∧ w'.cell? ⟨wr.heap.size, 0, none⟩ = some (.int .i64 dg) ∧ w'.cell? ⟨wr.heap.size, 1, none⟩ = some (.int .i64 dn) ∧ w'.cell? ⟨g7, j, none⟩ = some (.bool true))) (by kernel_rfl) (by (try dsimp only); go_keep) (fun hHeld => ?_)
                        refine wpAnyH_take (i := 0) (v := ?vz20) rfl (by kernel_rfl) (by kernel_rfl) (by kernel_rfl) (fun _ _ _ h => h) (Or.inl ⟨by kernel_rfl, ?hyz20⟩) (by assumption) ?restz20
                        case hyz20 => (intro w hSw; (try dsimp only at hSw); go_simp; try with_reducible rfl)
                        try simp only [Act.put, List.getElem_toArray, List.getElem_cons_succ, List.getElem_cons_zero, List.setIfInBounds_toArray, List.set_cons_zero, List.set_cons_succ]
                        refine wpAnyH_take (i := 1) (v := ?vz21) rfl (by kernel_rfl) (by kernel_rfl) (by kernel_rfl) (fun _ _ _ h => h) (Or.inl ⟨by kernel_rfl, ?hyz21⟩) (by assumption) ?restz21
                        case hyz21 => (intro w hSw; (try dsimp only at hSw); go_simp; try with_reducible rfl)
                        try simp only [Act.put, List.getElem_toArray, List.getElem_cons_succ, List.getElem_cons_zero, List.setIfInBounds_toArray, List.set_cons_zero, List.set_cons_succ]
                        refine wpAnyH_take (i := 2) (v := ?vz22) rfl (by kernel_rfl) (by kernel_rfl) (by kernel_rfl) (fun _ _ _ h => h) (Or.inl ⟨by kernel_rfl, ?hyz22⟩) (by assumption) ?restz22
                        case hyz22 => (intro w hSw; (try dsimp only at hSw); go_simp; try with_reducible rfl)
                        try simp only [Act.put, List.getElem_toArray, List.getElem_cons_succ, List.getElem_cons_zero, List.setIfInBounds_toArray, List.set_cons_zero, List.set_cons_succ]
                        refine wpAnyH_take (i := 3) (v := ?vz23) rfl (by kernel_rfl) (by kernel_rfl) (by kernel_rfl) (fun _ _ _ h => h) (Or.inl ⟨by kernel_rfl, ?hyz23⟩) (by assumption) ?restz23
                        case hyz23 => (intro w hSw; (try dsimp only at hSw); go_simp; try with_reducible rfl)
                        try simp only [Act.put, List.getElem_toArray, List.getElem_cons_succ, List.getElem_cons_zero, List.setIfInBounds_toArray, List.set_cons_zero, List.set_cons_succ]
                        refine wpAnyH_take (i := 4) (v := ?vz24) rfl (by kernel_rfl) (by kernel_rfl) (by kernel_rfl) (fun _ _ _ h => h) (Or.inl ⟨by kernel_rfl, ?hyz24⟩) (by assumption) ?restz24
                        case hyz24 => (intro w hSw; (try dsimp only at hSw); go_simp; try with_reducible rfl)
                        try simp only [Act.put, List.getElem_toArray, List.getElem_cons_succ, List.getElem_cons_zero, List.setIfInBounds_toArray, List.set_cons_zero, List.set_cons_succ]
                        refine wpAnyH_take (i := 5) (v := ?vz25) rfl (by kernel_rfl) (by kernel_rfl) (by kernel_rfl) (fun _ _ _ h => h) (Or.inl ⟨by kernel_rfl, ?hyz25⟩) (by assumption) ?restz25
                        case hyz25 => (intro w hSw; (try dsimp only at hSw); go_simp; try with_reducible rfl)
                        try simp only [Act.put, List.getElem_toArray, List.getElem_cons_succ, List.getElem_cons_zero, List.setIfInBounds_toArray, List.set_cons_zero, List.set_cons_succ]
                        refine wpAnyH_take (i := 6) (v := ?vz26) rfl (by kernel_rfl) (by kernel_rfl) (by kernel_rfl) (fun _ _ _ h => h) (Or.inl ⟨by kernel_rfl, ?hyz26⟩) (by assumption) ?restz26
                        case hyz26 => (intro w hSw; (try dsimp only at hSw); go_simp; try with_reducible rfl)
                        try simp only [Act.put, List.getElem_toArray, List.getElem_cons_succ, List.getElem_cons_zero, List.setIfInBounds_toArray, List.set_cons_zero, List.set_cons_succ]
                        refine wpAnyH_take (i := 7) (v := undef) rfl (by kernel_rfl) (by kernel_rfl) (by kernel_rfl) (fun _ _ _ h => h) (Or.inr ⟨by kernel_rfl, rfl⟩) (by assumption) ?_
                        try simp only [Act.put, List.getElem_toArray, List.getElem_cons_succ, List.getElem_cons_zero, List.setIfInBounds_toArray, List.set_cons_zero, List.set_cons_succ]
                        refine wpAnyH_take (i := 8) (v := undef) rfl (by kernel_rfl) (by kernel_rfl) (by kernel_rfl) (fun _ _ _ h => h) (Or.inr ⟨by kernel_rfl, rfl⟩) (by assumption) ?_
                        try simp only [Act.put, List.getElem_toArray, List.getElem_cons_succ, List.getElem_cons_zero, List.setIfInBounds_toArray, List.set_cons_zero, List.set_cons_succ]
                        refine wpAnyH_take (i := 9) (v := ?vz29) rfl (by kernel_rfl) (by kernel_rfl) (by kernel_rfl) (fun _ _ _ h => h) (Or.inl ⟨by kernel_rfl, ?hyz29⟩) (by assumption) ?restz29
                        case hyz29 => (intro w hSw; (try dsimp only at hSw); go_simp; try with_reducible rfl)
                        try simp only [Act.put, List.getElem_toArray, List.getElem_cons_succ, List.getElem_cons_zero, List.setIfInBounds_toArray, List.set_cons_zero, List.set_cons_succ]
                        refine wpAnyH_take (i := 10) (v := ?vz210) rfl (by kernel_rfl) (by kernel_rfl) (by kernel_rfl) (fun _ _ _ h => h) (Or.inl ⟨by kernel_rfl, ?hyz210⟩) (by assumption) ?restz210
                        case hyz210 => (intro w hSw; (try dsimp only at hSw); go_simp; try with_reducible rfl)
                        try simp only [Act.put, List.getElem_toArray, List.getElem_cons_succ, List.getElem_cons_zero, List.setIfInBounds_toArray, List.set_cons_zero, List.set_cons_succ]
                        refine wpAnyH_take (i := 11) (v := ?vz211) rfl (by kernel_rfl) (by kernel_rfl) (by kernel_rfl) (fun _ _ _ h => h) (Or.inl ⟨by kernel_rfl, ?hyz211⟩) (by assumption) ?restz211
                        case hyz211 => (intro w hSw; (try dsimp only at hSw); go_simp; try with_reducible rfl)
                        try simp only [Act.put, List.getElem_toArray, List.getElem_cons_succ, List.getElem_cons_zero, List.setIfInBounds_toArray, List.set_cons_zero, List.set_cons_succ]
                        refine wpAnyH_take (i := 12) (v := ?vz212) rfl (by kernel_rfl) (by kernel_rfl) (by kernel_rfl) (fun _ _ _ h => h) (Or.inl ⟨by kernel_rfl, ?hyz212⟩) (by assumption) ?restz212
                        case hyz212 => (intro w hSw; (try dsimp only at hSw); go_simp; try with_reducible rfl)
                        try simp only [Act.put, List.getElem_toArray, List.getElem_cons_succ, List.getElem_cons_zero, List.setIfInBounds_toArray, List.set_cons_zero, List.set_cons_succ]
                        refine wpAnyH_take (i := 13) (v := ?vz213) rfl (by kernel_rfl) (by kernel_rfl) (by kernel_rfl) (fun _ _ _ h => h) (Or.inl ⟨by kernel_rfl, ?hyz213⟩) (by assumption) ?restz213
                        case hyz213 => (intro w hSw; (try dsimp only at hSw); go_simp; try with_reducible rfl)
                        try simp only [Act.put, List.getElem_toArray, List.getElem_cons_succ, List.getElem_cons_zero, List.setIfInBounds_toArray, List.set_cons_zero, List.set_cons_succ]
                        refine wpAnyH_take (i := 14) (v := ?vz214) rfl (by kernel_rfl) (by kernel_rfl) (by kernel_rfl) (fun _ _ _ h => h) (Or.inl ⟨by kernel_rfl, ?hyz214⟩) (by assumption) ?restz214
                        case hyz214 => (intro w hSw; (try dsimp only at hSw); go_simp; try with_reducible rfl)
                        try simp only [Act.put, List.getElem_toArray, List.getElem_cons_succ, List.getElem_cons_zero, List.setIfInBounds_toArray, List.set_cons_zero, List.set_cons_succ]
                        refine wpAnyH_take (i := 15) (v := ?vz215) rfl (by kernel_rfl) (by kernel_rfl) (by kernel_rfl) (fun _ _ _ h => h) (Or.inl ⟨by kernel_rfl, ?hyz215⟩) (by assumption) ?restz215
                        case hyz215 => (intro w hSw; (try dsimp only at hSw); go_simp; try with_reducible rfl)
                        try simp only [Act.put, List.getElem_toArray, List.getElem_cons_succ, List.getElem_cons_zero, List.setIfInBounds_toArray, List.set_cons_zero, List.set_cons_succ]
                        refine wpAnyH_take (i := 16) (v := ?vz216) rfl (by kernel_rfl) (by kernel_rfl) (by kernel_rfl) (fun _ _ _ h => h) (Or.inl ⟨by kernel_rfl, ?hyz216⟩) (by assumption) ?restz216
                        case hyz216 => (intro w hSw; (try dsimp only at hSw); go_simp; try with_reducible rfl)
                        try simp only [Act.put, List.getElem_toArray, List.getElem_cons_succ, List.getElem_cons_zero, List.setIfInBounds_toArray, List.set_cons_zero, List.set_cons_succ]
                        refine wpAnyH_take (i := 17) (v := ?vz217) rfl (by kernel_rfl) (by kernel_rfl) (by kernel_rfl) (fun _ _ _ h => h) (Or.inl ⟨by kernel_rfl, ?hyz217⟩) (by assumption) ?restz217
                        case hyz217 => (intro w hSw; (try dsimp only at hSw); go_simp; try with_reducible rfl)
                        try simp only [Act.put, List.getElem_toArray, List.getElem_cons_succ, List.getElem_cons_zero, List.setIfInBounds_toArray, List.set_cons_zero, List.set_cons_succ]
                        refine wpAnyH_take (i := 18) (v := undef) rfl (by kernel_rfl) (by kernel_rfl) (by kernel_rfl) (fun _ _ _ h => h) (Or.inr ⟨by kernel_rfl, rfl⟩) (by assumption) ?_
                        try simp only [Act.put, List.getElem_toArray, List.getElem_cons_succ, List.getElem_cons_zero, List.setIfInBounds_toArray, List.set_cons_zero, List.set_cons_succ]
                        refine wpAnyH_take (i := 19) (v := undef) rfl (by kernel_rfl) (by kernel_rfl) (by kernel_rfl) (fun _ _ _ h => h) (Or.inr ⟨by kernel_rfl, rfl⟩) (by assumption) ?_
                        try simp only [Act.put, List.getElem_toArray, List.getElem_cons_succ, List.getElem_cons_zero, List.setIfInBounds_toArray, List.set_cons_zero, List.set_cons_succ]
                        refine wpAnyH_take (i := 20) (v := undef) rfl (by kernel_rfl) (by kernel_rfl) (by kernel_rfl) (fun _ _ _ h => h) (Or.inr ⟨by kernel_rfl, rfl⟩) (by assumption) ?_
                        try simp only [Act.put, List.getElem_toArray, List.getElem_cons_succ, List.getElem_cons_zero, List.setIfInBounds_toArray, List.set_cons_zero, List.set_cons_succ]
                        refine wpAnyH_take (i := 21) (v := undef) rfl (by kernel_rfl) (by kernel_rfl) (by kernel_rfl) (fun _ _ _ h => h) (Or.inr ⟨by kernel_rfl, rfl⟩) (by assumption) ?_
                        try simp only [Act.put, List.getElem_toArray, List.getElem_cons_succ, List.getElem_cons_zero, List.setIfInBounds_toArray, List.set_cons_zero, List.set_cons_succ]
                        refine wpAnyH_take (i := 22) (v := undef) rfl (by kernel_rfl) (by kernel_rfl) (by kernel_rfl) (fun _ _ _ h => h) (Or.inr ⟨by kernel_rfl, rfl⟩) (by assumption) ?_
                        try simp only [Act.put, List.getElem_toArray, List.getElem_cons_succ, List.getElem_cons_zero, List.setIfInBounds_toArray, List.set_cons_zero, List.set_cons_succ]
                        refine wpAnyH_take (i := 23) (v := undef) rfl (by kernel_rfl) (by kernel_rfl) (by kernel_rfl) (fun _ _ _ h => h) (Or.inr ⟨by kernel_rfl, rfl⟩) (by assumption) ?_
                        try simp only [Act.put, List.getElem_toArray, List.getElem_cons_succ, List.getElem_cons_zero, List.setIfInBounds_toArray, List.set_cons_zero, List.set_cons_succ]
                        refine wpAnyH_take (i := 24) (v := undef) rfl (by kernel_rfl) (by kernel_rfl) (by kernel_rfl) (fun _ _ _ h => h) (Or.inr ⟨by kernel_rfl, rfl⟩) (by assumption) ?_
                        try simp only [Act.put, List.getElem_toArray, List.getElem_cons_succ, List.getElem_cons_zero, List.setIfInBounds_toArray, List.set_cons_zero, List.set_cons_succ]
                        refine wpAnyH_take (i := 25) (v := undef) rfl (by kernel_rfl) (by kernel_rfl) (by kernel_rfl) (fun _ _ _ h => h) (Or.inr ⟨by kernel_rfl, rfl⟩) (by assumption) ?_
                        try simp only [Act.put, List.getElem_toArray, List.getElem_cons_succ, List.getElem_cons_zero, List.setIfInBounds_toArray, List.set_cons_zero, List.set_cons_succ]
                        refine wpAnyH_take (i := 26) (v := undef) rfl (by kernel_rfl) (by kernel_rfl) (by kernel_rfl) (fun _ _ _ h => h) (Or.inr ⟨by kernel_rfl, rfl⟩) (by assumption) ?_
                        try simp only [Act.put, List.getElem_toArray, List.getElem_cons_succ, List.getElem_cons_zero, List.setIfInBounds_toArray, List.set_cons_zero, List.set_cons_succ]
                        refine wpAnyH_take (i := 27) (v := ?vz227) rfl (by kernel_rfl) (by kernel_rfl) (by kernel_rfl) (fun _ _ _ h => h) (Or.inl ⟨by kernel_rfl, ?hyz227⟩) (by assumption) ?restz227
                        case hyz227 => (intro w hSw; (try dsimp only at hSw); go_simp; try with_reducible rfl)
                        try simp only [Act.put, List.getElem_toArray, List.getElem_cons_succ, List.getElem_cons_zero, List.setIfInBounds_toArray, List.set_cons_zero, List.set_cons_succ]
                        refine wpAnyH_take (i := 28) (v := ?vz228) rfl (by kernel_rfl) (by kernel_rfl) (by kernel_rfl) (fun _ _ _ h => h) (Or.inl ⟨by kernel_rfl, ?hyz228⟩) (by assumption) ?restz228
                        case hyz228 => (intro w hSw; (try dsimp only at hSw); go_simp; try with_reducible rfl)
                        try simp only [Act.put, List.getElem_toArray, List.getElem_cons_succ, List.getElem_cons_zero, List.setIfInBounds_toArray, List.set_cons_zero, List.set_cons_succ]
                        refine wpAnyH_take (i := 29) (v := ?vz229) rfl (by kernel_rfl) (by kernel_rfl) (by kernel_rfl) (fun _ _ _ h => h) (Or.inl ⟨by kernel_rfl, ?hyz229⟩) (by assumption) ?restz229
                        case hyz229 => (intro w hSw; (try dsimp only at hSw); go_simp; try with_reducible rfl)
                        try simp only [Act.put, List.getElem_toArray, List.getElem_cons_succ, List.getElem_cons_zero, List.setIfInBounds_toArray, List.set_cons_zero, List.set_cons_succ]
                        refine wpAnyH_done (by kernel_rfl) ?_ _
                        go_wp2_with fail
                        go_roundw
                        case rel => exact ⟨j + 1, by omega, by go_num, by rw [RS.out]; simp, HXD.out⟩
                        case measure => simp [intOf] <;> omega
                      | false =>
                        have he3 : ((dg : Int) != (G : Int)) = true := he2
                        clear he2
                        refine wp_region_held_drew (S := (fun w' => w'.cell? ⟨q, 0, none⟩ = some (.int .i64 G) ∧ w'.cell? ⟨q, 2, none⟩ = some (.bool wb) ∧ w'.cell? ⟨wr.heap.size, 0, none⟩ = some (.int .i64 dg) ∧ w'.cell? ⟨wr.heap.size, 1, none⟩ = some (.int .i64 dn) ∧ w'.cell? ⟨g7, j, none⟩ = some (.bool true))) (by kernel_rfl) (by (try dsimp only); go_keep) (fun hHeld => ?_)
                        refine wpAnyH_take (i := 0) (v := ?vz30) rfl (by kernel_rfl) (by kernel_rfl) (by kernel_rfl) (fun _ _ _ h => h) (Or.inl ⟨by kernel_rfl, ?hyz30⟩) (by assumption) ?restz30
                        case hyz30 => (intro w hSw; (try dsimp only at hSw); go_simp; try with_reducible rfl)
                        try simp only [Act.put, List.getElem_toArray, List.getElem_cons_succ, List.getElem_cons_zero, List.setIfInBounds_toArray, List.set_cons_zero, List.set_cons_succ]
                        refine wpAnyH_take (i := 1) (v := ?vz31) rfl (by kernel_rfl) (by kernel_rfl) (by kernel_rfl) (fun _ _ _ h => h) (Or.inl ⟨by kernel_rfl, ?hyz31⟩) (by assumption) ?restz31
                        case hyz31 => (intro w hSw; (try dsimp only at hSw); go_simp; try with_reducible rfl)
                        try simp only [Act.put, List.getElem_toArray, List.getElem_cons_succ, List.getElem_cons_zero, List.setIfInBounds_toArray, List.set_cons_zero, List.set_cons_succ]
                        refine wpAnyH_take (i := 2) (v := ?vz32) rfl (by kernel_rfl) (by kernel_rfl) (by kernel_rfl) (fun _ _ _ h => h) (Or.inl ⟨by kernel_rfl, ?hyz32⟩) (by assumption) ?restz32
                        case hyz32 => (intro w hSw; (try dsimp only at hSw); go_simp; try with_reducible rfl)
                        try simp only [Act.put, List.getElem_toArray, List.getElem_cons_succ, List.getElem_cons_zero, List.setIfInBounds_toArray, List.set_cons_zero, List.set_cons_succ]
                        refine wpAnyH_take (i := 3) (v := ?vz33) rfl (by kernel_rfl) (by kernel_rfl) (by kernel_rfl) (fun _ _ _ h => h) (Or.inl ⟨by kernel_rfl, ?hyz33⟩) (by assumption) ?restz33
                        case hyz33 => (intro w hSw; (try dsimp only at hSw); go_simp; try with_reducible rfl)
                        try simp only [Act.put, List.getElem_toArray, List.getElem_cons_succ, List.getElem_cons_zero, List.setIfInBounds_toArray, List.set_cons_zero, List.set_cons_succ]
                        refine wpAnyH_take (i := 4) (v := ?vz34) rfl (by kernel_rfl) (by kernel_rfl) (by kernel_rfl) (fun _ _ _ h => h) (Or.inl ⟨by kernel_rfl, ?hyz34⟩) (by assumption) ?restz34
                        case hyz34 => (intro w hSw; (try dsimp only at hSw); go_simp; try with_reducible rfl)
                        try simp only [Act.put, List.getElem_toArray, List.getElem_cons_succ, List.getElem_cons_zero, List.setIfInBounds_toArray, List.set_cons_zero, List.set_cons_succ]
                        refine wpAnyH_take (i := 5) (v := ?vz35) rfl (by kernel_rfl) (by kernel_rfl) (by kernel_rfl) (fun _ _ _ h => h) (Or.inl ⟨by kernel_rfl, ?hyz35⟩) (by assumption) ?restz35
                        case hyz35 => (intro w hSw; (try dsimp only at hSw); go_simp; try with_reducible rfl)
                        try simp only [Act.put, List.getElem_toArray, List.getElem_cons_succ, List.getElem_cons_zero, List.setIfInBounds_toArray, List.set_cons_zero, List.set_cons_succ]
                        refine wpAnyH_take (i := 6) (v := ?vz36) rfl (by kernel_rfl) (by kernel_rfl) (by kernel_rfl) (fun _ _ _ h => h) (Or.inl ⟨by kernel_rfl, ?hyz36⟩) (by assumption) ?restz36
                        case hyz36 => (intro w hSw; (try dsimp only at hSw); go_simp; try with_reducible rfl)
                        try simp only [Act.put, List.getElem_toArray, List.getElem_cons_succ, List.getElem_cons_zero, List.setIfInBounds_toArray, List.set_cons_zero, List.set_cons_succ]
                        refine wpAnyH_take (i := 7) (v := undef) rfl (by kernel_rfl) (by kernel_rfl) (by kernel_rfl) (fun _ _ _ h => h) (Or.inr ⟨by kernel_rfl, rfl⟩) (by assumption) ?_
                        try simp only [Act.put, List.getElem_toArray, List.getElem_cons_succ, List.getElem_cons_zero, List.setIfInBounds_toArray, List.set_cons_zero, List.set_cons_succ]
                        refine wpAnyH_take (i := 8) (v := undef) rfl (by kernel_rfl) (by kernel_rfl) (by kernel_rfl) (fun _ _ _ h => h) (Or.inr ⟨by kernel_rfl, rfl⟩) (by assumption) ?_
                        try simp only [Act.put, List.getElem_toArray, List.getElem_cons_succ, List.getElem_cons_zero, List.setIfInBounds_toArray, List.set_cons_zero, List.set_cons_succ]
                        refine wpAnyH_take (i := 9) (v := ?vz39) rfl (by kernel_rfl) (by kernel_rfl) (by kernel_rfl) (fun _ _ _ h => h) (Or.inl ⟨by kernel_rfl, ?hyz39⟩) (by assumption) ?restz39
                        case hyz39 => (intro w hSw; (try dsimp only at hSw); go_simp; try with_reducible rfl)
                        try simp only [Act.put, List.getElem_toArray, List.getElem_cons_succ, List.getElem_cons_zero, List.setIfInBounds_toArray, List.set_cons_zero, List.set_cons_succ]
                        refine wpAnyH_take (i := 10) (v := ?vz310) rfl (by kernel_rfl) (by kernel_rfl) (by kernel_rfl) (fun _ _ _ h => h) (Or.inl ⟨by kernel_rfl, ?hyz310⟩) (by assumption) ?restz310
                        case hyz310 => (intro w hSw; (try dsimp only at hSw); go_simp; try with_reducible rfl)
                        try simp only [Act.put, List.getElem_toArray, List.getElem_cons_succ, List.getElem_cons_zero, List.setIfInBounds_toArray, List.set_cons_zero, List.set_cons_succ]
                        refine wpAnyH_take (i := 11) (v := ?vz311) rfl (by kernel_rfl) (by kernel_rfl) (by kernel_rfl) (fun _ _ _ h => h) (Or.inl ⟨by kernel_rfl, ?hyz311⟩) (by assumption) ?restz311
                        case hyz311 => (intro w hSw; (try dsimp only at hSw); go_simp; try with_reducible rfl)
                        try simp only [Act.put, List.getElem_toArray, List.getElem_cons_succ, List.getElem_cons_zero, List.setIfInBounds_toArray, List.set_cons_zero, List.set_cons_succ]
                        refine wpAnyH_take (i := 12) (v := ?vz312) rfl (by kernel_rfl) (by kernel_rfl) (by kernel_rfl) (fun _ _ _ h => h) (Or.inl ⟨by kernel_rfl, ?hyz312⟩) (by assumption) ?restz312
                        case hyz312 => (intro w hSw; (try dsimp only at hSw); go_simp; try with_reducible rfl)
                        try simp only [Act.put, List.getElem_toArray, List.getElem_cons_succ, List.getElem_cons_zero, List.setIfInBounds_toArray, List.set_cons_zero, List.set_cons_succ]
                        refine wpAnyH_take (i := 13) (v := ?vz313) rfl (by kernel_rfl) (by kernel_rfl) (by kernel_rfl) (fun _ _ _ h => h) (Or.inl ⟨by kernel_rfl, ?hyz313⟩) (by assumption) ?restz313
                        case hyz313 => (intro w hSw; (try dsimp only at hSw); go_simp; try with_reducible rfl)
                        try simp only [Act.put, List.getElem_toArray, List.getElem_cons_succ, List.getElem_cons_zero, List.setIfInBounds_toArray, List.set_cons_zero, List.set_cons_succ]
                        refine wpAnyH_take (i := 14) (v := ?vz314) rfl (by kernel_rfl) (by kernel_rfl) (by kernel_rfl) (fun _ _ _ h => h) (Or.inl ⟨by kernel_rfl, ?hyz314⟩) (by assumption) ?restz314
                        case hyz314 => (intro w hSw; (try dsimp only at hSw); go_simp; try with_reducible rfl)
                        try simp only [Act.put, List.getElem_toArray, List.getElem_cons_succ, List.getElem_cons_zero, List.setIfInBounds_toArray, List.set_cons_zero, List.set_cons_succ]
                        refine wpAnyH_take (i := 15) (v := ?vz315) rfl (by kernel_rfl) (by kernel_rfl) (by kernel_rfl) (fun _ _ _ h => h) (Or.inl ⟨by kernel_rfl, ?hyz315⟩) (by assumption) ?restz315
                        case hyz315 => (intro w hSw; (try dsimp only at hSw); go_simp; try with_reducible rfl)
                        try simp only [Act.put, List.getElem_toArray, List.getElem_cons_succ, List.getElem_cons_zero, List.setIfInBounds_toArray, List.set_cons_zero, List.set_cons_succ]
                        refine wpAnyH_take (i := 16) (v := ?vz316) rfl (by kernel_rfl) (by kernel_rfl) (by kernel_rfl) (fun _ _ _ h => h) (Or.inl ⟨by kernel_rfl, ?hyz316⟩) (by assumption) ?restz316
                        case hyz316 => (intro w hSw; (try dsimp only at hSw); go_simp; try with_reducible rfl)
                        try simp only [Act.put, List.getElem_toArray, List.getElem_cons_succ, List.getElem_cons_zero, List.setIfInBounds_toArray, List.set_cons_zero, List.set_cons_succ]
                        refine wpAnyH_take (i := 17) (v := ?vz317) rfl (by kernel_rfl) (by kernel_rfl) (by kernel_rfl) (fun _ _ _ h => h) (Or.inl ⟨by kernel_rfl, ?hyz317⟩) (by assumption) ?restz317
                        case hyz317 => (intro w hSw; (try dsimp only at hSw); go_simp; try with_reducible rfl)
                        try simp only [Act.put, List.getElem_toArray, List.getElem_cons_succ, List.getElem_cons_zero, List.setIfInBounds_toArray, List.set_cons_zero, List.set_cons_succ]
                        refine wpAnyH_take (i := 18) (v := ?vz318) rfl (by kernel_rfl) (by kernel_rfl) (by kernel_rfl) (fun _ _ _ h => h) (Or.inl ⟨by kernel_rfl, ?hyz318⟩) (by assumption) ?restz318
                        case hyz318 => (intro w hSw; (try dsimp only at hSw); go_simp; try with_reducible rfl)
                        try simp only [Act.put, List.getElem_toArray, List.getElem_cons_succ, List.getElem_cons_zero, List.setIfInBounds_toArray, List.set_cons_zero, List.set_cons_succ]
                        refine wpAnyH_take (i := 19) (v := ?vz319) rfl (by kernel_rfl) (by kernel_rfl) (by kernel_rfl) (fun _ _ _ h => h) (Or.inl ⟨by kernel_rfl, ?hyz319⟩) (by assumption) ?restz319
                        case hyz319 => (intro w hSw; (try dsimp only at hSw); go_simp; try with_reducible rfl)
                        try simp only [Act.put, List.getElem_toArray, List.getElem_cons_succ, List.getElem_cons_zero, List.setIfInBounds_toArray, List.set_cons_zero, List.set_cons_succ]
                        refine wpAnyH_take (i := 20) (v := ?vz320) rfl (by kernel_rfl) (by kernel_rfl) (by kernel_rfl) (fun _ _ _ h => h) (Or.inl ⟨by kernel_rfl, ?hyz320⟩) (by assumption) ?restz320
                        case hyz320 => (intro w hSw; (try dsimp only at hSw); go_simp; try with_reducible rfl)
                        try simp only [Act.put, List.getElem_toArray, List.getElem_cons_succ, List.getElem_cons_zero, List.setIfInBounds_toArray, List.set_cons_zero, List.set_cons_succ]
                        refine wpAnyH_take (i := 21) (v := ?vz321) rfl (by kernel_rfl) (by kernel_rfl) (by kernel_rfl) (fun _ _ _ h => h) (Or.inl ⟨by kernel_rfl, ?hyz321⟩) (by assumption) ?restz321
                        case hyz321 => (intro w hSw; (try dsimp only at hSw); go_simp; try with_reducible rfl)
                        try simp only [Act.put, List.getElem_toArray, List.getElem_cons_succ, List.getElem_cons_zero, List.setIfInBounds_toArray, List.set_cons_zero, List.set_cons_succ]
                        refine wpAnyH_take (i := 22) (v := ?vz322) rfl (by kernel_rfl) (by kernel_rfl) (by kernel_rfl) (fun _ _ _ h => h) (Or.inl ⟨by kernel_rfl, ?hyz322⟩) (by assumption) ?restz322
                        case hyz322 => (intro w hSw; (try dsimp only at hSw); go_simp; try with_reducible rfl)
                        try simp only [Act.put, List.getElem_toArray, List.getElem_cons_succ, List.getElem_cons_zero, List.setIfInBounds_toArray, List.set_cons_zero, List.set_cons_succ]
                        refine wpAnyH_take (i := 23) (v := ?vz323) rfl (by kernel_rfl) (by kernel_rfl) (by kernel_rfl) (fun _ _ _ h => h) (Or.inl ⟨by kernel_rfl, ?hyz323⟩) (by assumption) ?restz323
                        case hyz323 => (intro w hSw; (try dsimp only at hSw); go_simp; try with_reducible rfl)
                        try simp only [Act.put, List.getElem_toArray, List.getElem_cons_succ, List.getElem_cons_zero, List.setIfInBounds_toArray, List.set_cons_zero, List.set_cons_succ]
                        refine wpAnyH_take (i := 24) (v := ?vz324) rfl (by kernel_rfl) (by kernel_rfl) (by kernel_rfl) (fun _ _ _ h => h) (Or.inl ⟨by kernel_rfl, ?hyz324⟩) (by assumption) ?restz324
                        case hyz324 => (intro w hSw; (try dsimp only at hSw); go_simp; try with_reducible rfl)
                        try simp only [Act.put, List.getElem_toArray, List.getElem_cons_succ, List.getElem_cons_zero, List.setIfInBounds_toArray, List.set_cons_zero, List.set_cons_succ]
                        refine wpAnyH_ready (rs := [25]) (by kernel_rfl) (by simp) ?_
                        refine AllReadyH.cons rfl (fun K hK => ?_) AllReadyH.nil
                        go_simp
                        go_at_call 11; (with_reducible refine GU.out.mono ?_); rintro r w8 ⟨rfl, rfl⟩
                        refine hK.out _ _ (by (try dsimp only); go_keep) (fun hHeld => ?_)
                        clear hK K
                        try simp only [Act.put, List.getElem_toArray, List.getElem_cons_succ, List.getElem_cons_zero, List.setIfInBounds_toArray, List.set_cons_zero, List.set_cons_succ]
                        refine wpAnyH_take (i := 26) (v := ?vz326) rfl (by kernel_rfl) (by kernel_rfl) (by kernel_rfl) (fun _ _ _ h => h) (Or.inl ⟨by kernel_rfl, ?hyz326⟩) (by assumption) ?restz326
                        case hyz326 => (intro w hSw; (try dsimp only at hSw); go_simp; try with_reducible rfl)
                        try simp only [Act.put, List.getElem_toArray, List.getElem_cons_succ, List.getElem_cons_zero, List.setIfInBounds_toArray, List.set_cons_zero, List.set_cons_succ]
                        refine wpAnyH_take (i := 27) (v := ?vz327) rfl (by kernel_rfl) (by kernel_rfl) (by kernel_rfl) (fun _ _ _ h => h) (Or.inl ⟨by kernel_rfl, ?hyz327⟩) (by assumption) ?restz327
                        case hyz327 => (intro w hSw; (try dsimp only at hSw); go_simp; try with_reducible rfl)
                        try simp only [Act.put, List.getElem_toArray, List.getElem_cons_succ, List.getElem_cons_zero, List.setIfInBounds_toArray, List.set_cons_zero, List.set_cons_succ]
                        refine wpAnyH_take (i := 28) (v := ?vz328) rfl (by kernel_rfl) (by kernel_rfl) (by kernel_rfl) (fun _ _ _ h => h) (Or.inl ⟨by kernel_rfl, ?hyz328⟩) (by assumption) ?restz328
                        case hyz328 => (intro w hSw; (try dsimp only at hSw); go_simp; try with_reducible rfl)
                        try simp only [Act.put, List.getElem_toArray, List.getElem_cons_succ, List.getElem_cons_zero, List.setIfInBounds_toArray, List.set_cons_zero, List.set_cons_succ]
                        refine wpAnyH_take (i := 29) (v := ?vz329) rfl (by kernel_rfl) (by kernel_rfl) (by kernel_rfl) (fun _ _ _ h => h) (Or.inl ⟨by kernel_rfl, ?hyz329⟩) (by assumption) ?restz329
                        case hyz329 => (intro w hSw; (try dsimp only at hSw); go_simp; try with_reducible rfl)
                        try simp only [Act.put, List.getElem_toArray, List.getElem_cons_succ, List.getElem_cons_zero, List.setIfInBounds_toArray, List.set_cons_zero, List.set_cons_succ]
                        refine wpAnyH_done (by kernel_rfl) ?_ _
                        go_wp2_with fail
                        go_roundw
                        case rel => exact ⟨j + 1, by omega, by go_num, by rw [RS.out]; simp, HXD.out⟩
                        case measure => simp [intOf] <;> omega
                    | false =>
                      cases wb with
                      | true =>
                        cases e with
                        | true =>
                          have he3 : ((dg : Int) != (G : Int)) = false := he2
                          clear he2
                          refine wp_region_held_drew (S := (fun w' => w'.cell? ⟨q, 0, none⟩ = some (.int .i64 G) ∧ w'.cell? ⟨q, 2, none⟩ = some (.bool true) ∧ w'.cell? ⟨wr.heap.size, 0, none⟩ = some (.int .i64 dg) ∧ w'.cell? ⟨wr.heap.size, 1, none⟩ = some (.int .i64 dn) ∧ w'.cell? ⟨g7, j, none⟩ = some (.bool false))) (by kernel_rfl) (by (try dsimp only); go_keep) (fun hHeld => ?_)
                          refine wpAnyH_take (i := 0) (v := ?vz40) rfl (by kernel_rfl) (by kernel_rfl) (by kernel_rfl) (fun _ _ _ h => h) (Or.inl ⟨by kernel_rfl, ?hyz40⟩) (by assumption) ?restz40
                          case hyz40 => (intro w hSw; (try dsimp only at hSw); go_simp; try with_reducible rfl)
                          try simp only [Act.put, List.getElem_toArray, List.getElem_cons_succ, List.getElem_cons_zero, List.setIfInBounds_toArray, List.set_cons_zero, List.set_cons_succ]
                          refine wpAnyH_take (i := 1) (v := ?vz41) rfl (by kernel_rfl) (by kernel_rfl) (by kernel_rfl) (fun _ _ _ h => h) (Or.inl ⟨by kernel_rfl, ?hyz41⟩) (by assumption) ?restz41
                          case hyz41 => (intro w hSw; (try dsimp only at hSw); go_simp; try with_reducible rfl)
                          try simp only [Act.put, List.getElem_toArray, List.getElem_cons_succ, List.getElem_cons_zero, List.setIfInBounds_toArray, List.set_cons_zero, List.set_cons_succ]
                          refine wpAnyH_take (i := 2) (v := ?vz42) rfl (by kernel_rfl) (by kernel_rfl) (by kernel_rfl) (fun _ _ _ h => h) (Or.inl ⟨by kernel_rfl, ?hyz42⟩) (by assumption) ?restz42
                          case hyz42 => (intro w hSw; (try dsimp only at hSw); go_simp; try with_reducible rfl)
                          try simp only [Act.put, List.getElem_toArray, List.getElem_cons_succ, List.getElem_cons_zero, List.setIfInBounds_toArray, List.set_cons_zero, List.set_cons_succ]
                          refine wpAnyH_take (i := 3) (v := ?vz43) rfl (by kernel_rfl) (by kernel_rfl) (by kernel_rfl) (fun _ _ _ h => h) (Or.inl ⟨by kernel_rfl, ?hyz43⟩) (by assumption) ?restz43
                          case hyz43 => (intro w hSw; (try dsimp only at hSw); go_simp; try with_reducible rfl)
                          try simp only [Act.put, List.getElem_toArray, List.getElem_cons_succ, List.getElem_cons_zero, List.setIfInBounds_toArray, List.set_cons_zero, List.set_cons_succ]
                          refine wpAnyH_take (i := 4) (v := ?vz44) rfl (by kernel_rfl) (by kernel_rfl) (by kernel_rfl) (fun _ _ _ h => h) (Or.inl ⟨by kernel_rfl, ?hyz44⟩) (by assumption) ?restz44
                          case hyz44 => (intro w hSw; (try dsimp only at hSw); go_simp; try with_reducible rfl)
                          try simp only [Act.put, List.getElem_toArray, List.getElem_cons_succ, List.getElem_cons_zero, List.setIfInBounds_toArray, List.set_cons_zero, List.set_cons_succ]
                          refine wpAnyH_take (i := 5) (v := ?vz45) rfl (by kernel_rfl) (by kernel_rfl) (by kernel_rfl) (fun _ _ _ h => h) (Or.inl ⟨by kernel_rfl, ?hyz45⟩) (by assumption) ?restz45
                          case hyz45 => (intro w hSw; (try dsimp only at hSw); go_simp; try with_reducible rfl)
                          try simp only [Act.put, List.getElem_toArray, List.getElem_cons_succ, List.getElem_cons_zero, List.setIfInBounds_toArray, List.set_cons_zero, List.set_cons_succ]
                          refine wpAnyH_take (i := 6) (v := ?vz46) rfl (by kernel_rfl) (by kernel_rfl) (by kernel_rfl) (fun _ _ _ h => h) (Or.inl ⟨by kernel_rfl, ?hyz46⟩) (by assumption) ?restz46
                          case hyz46 => (intro w hSw; (try dsimp only at hSw); go_simp; try with_reducible rfl)
                          try simp only [Act.put, List.getElem_toArray, List.getElem_cons_succ, List.getElem_cons_zero, List.setIfInBounds_toArray, List.set_cons_zero, List.set_cons_succ]
                          refine wpAnyH_take (i := 7) (v := ?vz47) rfl (by kernel_rfl) (by kernel_rfl) (by kernel_rfl) (fun _ _ _ h => h) (Or.inl ⟨by kernel_rfl, ?hyz47⟩) (by assumption) ?restz47
                          case hyz47 => (intro w hSw; (try dsimp only at hSw); go_simp; try with_reducible rfl)
                          try simp only [Act.put, List.getElem_toArray, List.getElem_cons_succ, List.getElem_cons_zero, List.setIfInBounds_toArray, List.set_cons_zero, List.set_cons_succ]
                          refine wpAnyH_take (i := 8) (v := ?vz48) rfl (by kernel_rfl) (by kernel_rfl) (by kernel_rfl) (fun _ _ _ h => h) (Or.inl ⟨by kernel_rfl, ?hyz48⟩) (by assumption) ?restz48
                          case hyz48 => (intro w hSw; (try dsimp only at hSw); go_simp; try with_reducible rfl)
                          try simp only [Act.put, List.getElem_toArray, List.getElem_cons_succ, List.getElem_cons_zero, List.setIfInBounds_toArray, List.set_cons_zero, List.set_cons_succ]
                          refine wpAnyH_take (i := 9) (v := ?vz49) rfl (by kernel_rfl) (by kernel_rfl) (by kernel_rfl) (fun _ _ _ h => h) (Or.inl ⟨by kernel_rfl, ?hyz49⟩) (by assumption) ?restz49
                          case hyz49 => (intro w hSw; (try dsimp only at hSw); go_simp; try with_reducible rfl)
                          try simp only [Act.put, List.getElem_toArray, List.getElem_cons_succ, List.getElem_cons_zero, List.setIfInBounds_toArray, List.set_cons_zero, List.set_cons_succ]
                          refine wpAnyH_take (i := 10) (v := ?vz410) rfl (by kernel_rfl) (by kernel_rfl) (by kernel_rfl) (fun _ _ _ h => h) (Or.inl ⟨by kernel_rfl, ?hyz410⟩) (by assumption) ?restz410
                          case hyz410 => (intro w hSw; (try dsimp only at hSw); go_simp; try with_reducible rfl)
                          try simp only [Act.put, List.getElem_toArray, List.getElem_cons_succ, List.getElem_cons_zero, List.setIfInBounds_toArray, List.set_cons_zero, List.set_cons_succ]
                          refine wpAnyH_take (i := 11) (v := ?vz411) rfl (by kernel_rfl) (by kernel_rfl) (by kernel_rfl) (fun _ _ _ h => h) (Or.inl ⟨by kernel_rfl, ?hyz411⟩) (by assumption) ?restz411
                          case hyz411 => (intro w hSw; (try dsimp only at hSw); go_simp; try with_reducible rfl)
                          try simp only [Act.put, List.getElem_toArray, List.getElem_cons_succ, List.getElem_cons_zero, List.setIfInBounds_toArray, List.set_cons_zero, List.set_cons_succ]
                          refine wpAnyH_take (i := 12) (v := ?vz412) rfl (by kernel_rfl) (by kernel_rfl) (by kernel_rfl) (fun _ _ _ h => h) (Or.inl ⟨by kernel_rfl, ?hyz412⟩) (by assumption) ?restz412
                          case hyz412 => (intro w hSw; (try dsimp only at hSw); go_simp; try with_reducible rfl)
                          try simp only [Act.put, List.getElem_toArray, List.getElem_cons_succ, List.getElem_cons_zero, List.setIfInBounds_toArray, List.set_cons_zero, List.set_cons_succ]
                          refine wpAnyH_take (i := 13) (v := ?vz413) rfl (by kernel_rfl) (by kernel_rfl) (by kernel_rfl) (fun _ _ _ h => h) (Or.inl ⟨by kernel_rfl, ?hyz413⟩) (by assumption) ?restz413
                          case hyz413 => (intro w hSw; (try dsimp only at hSw); go_simp; try with_reducible rfl)
                          try simp only [Act.put, List.getElem_toArray, List.getElem_cons_succ, List.getElem_cons_zero, List.setIfInBounds_toArray, List.set_cons_zero, List.set_cons_succ]
                          refine wpAnyH_take (i := 14) (v := ?vz414) rfl (by kernel_rfl) (by kernel_rfl) (by kernel_rfl) (fun _ _ _ h => h) (Or.inl ⟨by kernel_rfl, ?hyz414⟩) (by assumption) ?restz414
                          case hyz414 => (intro w hSw; (try dsimp only at hSw); go_simp; try with_reducible rfl)
                          try simp only [Act.put, List.getElem_toArray, List.getElem_cons_succ, List.getElem_cons_zero, List.setIfInBounds_toArray, List.set_cons_zero, List.set_cons_succ]
                          refine wpAnyH_take (i := 15) (v := ?vz415) rfl (by kernel_rfl) (by kernel_rfl) (by kernel_rfl) (fun _ _ _ h => h) (Or.inl ⟨by kernel_rfl, ?hyz415⟩) (by assumption) ?restz415
                          case hyz415 => (intro w hSw; (try dsimp only at hSw); go_simp; try with_reducible rfl)
                          try simp only [Act.put, List.getElem_toArray, List.getElem_cons_succ, List.getElem_cons_zero, List.setIfInBounds_toArray, List.set_cons_zero, List.set_cons_succ]
                          refine wpAnyH_take (i := 16) (v := ?vz416) rfl (by kernel_rfl) (by kernel_rfl) (by kernel_rfl) (fun _ _ _ h => h) (Or.inl ⟨by kernel_rfl, ?hyz416⟩) (by assumption) ?restz416
                          case hyz416 => (intro w hSw; (try dsimp only at hSw); go_simp; try with_reducible rfl)
                          try simp only [Act.put, List.getElem_toArray, List.getElem_cons_succ, List.getElem_cons_zero, List.setIfInBounds_toArray, List.set_cons_zero, List.set_cons_succ]
                          refine wpAnyH_take (i := 17) (v := ?vz417) rfl (by kernel_rfl) (by kernel_rfl) (by kernel_rfl) (fun _ _ _ h => h) (Or.inl ⟨by kernel_rfl, ?hyz417⟩) (by assumption) ?restz417
                          case hyz417 => (intro w hSw; (try dsimp only at hSw); go_simp; try with_reducible rfl)
                          try simp only [Act.put, List.getElem_toArray, List.getElem_cons_succ, List.getElem_cons_zero, List.setIfInBounds_toArray, List.set_cons_zero, List.set_cons_succ]
                          refine wpAnyH_take (i := 18) (v := undef) rfl (by kernel_rfl) (by kernel_rfl) (by kernel_rfl) (fun _ _ _ h => h) (Or.inr ⟨by kernel_rfl, rfl⟩) (by assumption) ?_
                          try simp only [Act.put, List.getElem_toArray, List.getElem_cons_succ, List.getElem_cons_zero, List.setIfInBounds_toArray, List.set_cons_zero, List.set_cons_succ]
                          refine wpAnyH_take (i := 19) (v := undef) rfl (by kernel_rfl) (by kernel_rfl) (by kernel_rfl) (fun _ _ _ h => h) (Or.inr ⟨by kernel_rfl, rfl⟩) (by assumption) ?_
                          try simp only [Act.put, List.getElem_toArray, List.getElem_cons_succ, List.getElem_cons_zero, List.setIfInBounds_toArray, List.set_cons_zero, List.set_cons_succ]
                          refine wpAnyH_take (i := 20) (v := undef) rfl (by kernel_rfl) (by kernel_rfl) (by kernel_rfl) (fun _ _ _ h => h) (Or.inr ⟨by kernel_rfl, rfl⟩) (by assumption) ?_
                          try simp only [Act.put, List.getElem_toArray, List.getElem_cons_succ, List.getElem_cons_zero, List.setIfInBounds_toArray, List.set_cons_zero, List.set_cons_succ]
                          refine wpAnyH_take (i := 21) (v := undef) rfl (by kernel_rfl) (by kernel_rfl) (by kernel_rfl) (fun _ _ _ h => h) (Or.inr ⟨by kernel_rfl, rfl⟩) (by assumption) ?_
                          try simp only [Act.put, List.getElem_toArray, List.getElem_cons_succ, List.getElem_cons_zero, List.setIfInBounds_toArray, List.set_cons_zero, List.set_cons_succ]
                          refine wpAnyH_take (i := 22) (v := undef) rfl (by kernel_rfl) (by kernel_rfl) (by kernel_rfl) (fun _ _ _ h => h) (Or.inr ⟨by kernel_rfl, rfl⟩) (by assumption) ?_
                          try simp only [Act.put, List.getElem_toArray, List.getElem_cons_succ, List.getElem_cons_zero, List.setIfInBounds_toArray, List.set_cons_zero, List.set_cons_succ]
                          refine wpAnyH_take (i := 23) (v := undef) rfl (by kernel_rfl) (by kernel_rfl) (by kernel_rfl) (fun _ _ _ h => h) (Or.inr ⟨by kernel_rfl, rfl⟩) (by assumption) ?_
                          try simp only [Act.put, List.getElem_toArray, List.getElem_cons_succ, List.getElem_cons_zero, List.setIfInBounds_toArray, List.set_cons_zero, List.set_cons_succ]
                          refine wpAnyH_take (i := 24) (v := undef) rfl (by kernel_rfl) (by kernel_rfl) (by kernel_rfl) (fun _ _ _ h => h) (Or.inr ⟨by kernel_rfl, rfl⟩) (by assumption) ?_
                          try simp only [Act.put, List.getElem_toArray, List.getElem_cons_succ, List.getElem_cons_zero, List.setIfInBounds_toArray, List.set_cons_zero, List.set_cons_succ]
                          refine wpAnyH_take (i := 25) (v := undef) rfl (by kernel_rfl) (by kernel_rfl) (by kernel_rfl) (fun _ _ _ h => h) (Or.inr ⟨by kernel_rfl, rfl⟩) (by assumption) ?_
                          try simp only [Act.put, List.getElem_toArray, List.getElem_cons_succ, List.getElem_cons_zero, List.setIfInBounds_toArray, List.set_cons_zero, List.set_cons_succ]
                          refine wpAnyH_take (i := 26) (v := undef) rfl (by kernel_rfl) (by kernel_rfl) (by kernel_rfl) (fun _ _ _ h => h) (Or.inr ⟨by kernel_rfl, rfl⟩) (by assumption) ?_
                          try simp only [Act.put, List.getElem_toArray, List.getElem_cons_succ, List.getElem_cons_zero, List.setIfInBounds_toArray, List.set_cons_zero, List.set_cons_succ]
                          refine wpAnyH_take (i := 27) (v := ?vz427) rfl (by kernel_rfl) (by kernel_rfl) (by kernel_rfl) (fun _ _ _ h => h) (Or.inl ⟨by kernel_rfl, ?hyz427⟩) (by assumption) ?restz427
                          case hyz427 => (intro w hSw; (try dsimp only at hSw); go_simp; try with_reducible rfl)
                          try simp only [Act.put, List.getElem_toArray, List.getElem_cons_succ, List.getElem_cons_zero, List.setIfInBounds_toArray, List.set_cons_zero, List.set_cons_succ]
                          refine wpAnyH_take (i := 28) (v := ?vz428) rfl (by kernel_rfl) (by kernel_rfl) (by kernel_rfl) (fun _ _ _ h => h) (Or.inl ⟨by kernel_rfl, ?hyz428⟩) (by assumption) ?restz428
                          case hyz428 => (intro w hSw; (try dsimp only at hSw); go_simp; try with_reducible rfl)
                          try simp only [Act.put, List.getElem_toArray, List.getElem_cons_succ, List.getElem_cons_zero, List.setIfInBounds_toArray, List.set_cons_zero, List.set_cons_succ]
                          refine wpAnyH_take (i := 29) (v := ?vz429) rfl (by kernel_rfl) (by kernel_rfl) (by kernel_rfl) (fun _ _ _ h => h) (Or.inl ⟨by kernel_rfl, ?hyz429⟩) (by assumption) ?restz429
                          case hyz429 => (intro w hSw; (try dsimp only at hSw); go_simp; try with_reducible rfl)
                          try simp only [Act.put, List.getElem_toArray, List.getElem_cons_succ, List.getElem_cons_zero, List.setIfInBounds_toArray, List.set_cons_zero, List.set_cons_succ]
                          refine wpAnyH_done (by kernel_rfl) ?_ _
                          go_wp2_with fail
                          go_roundw
                          case rel => exact ⟨j + 1, by omega, by go_num, by rw [RS.out]; simp, HXD.out⟩
                          case measure => simp [intOf] <;> omega
                        | false =>
                          have he3 : ((dg : Int) != (G : Int)) = true := he2
                          clear he2
                          refine wp_region_held_drew (S := (fun w' => w'.cell? ⟨q, 0, none⟩ = some (.int .i64 G) ∧ w'.cell? ⟨q, 2, none⟩ = some (.bool true) ∧ w'.cell? ⟨wr.heap.size, 0, none⟩ = some (.int .i64 dg) ∧ w'.cell? ⟨wr.heap.size, 1, none⟩ = some (.int .i64 dn) ∧ w'.cell? ⟨g7, j, none⟩ = some (.bool false))) (by kernel_rfl) (by (try dsimp only); go_keep) (fun hHeld => ?_)
                          refine wpAnyH_take (i := 0) (v := ?vz50) rfl (by kernel_rfl) (by kernel_rfl) (by kernel_rfl) (fun _ _ _ h => h) (Or.inl ⟨by kernel_rfl, ?hyz50⟩) (by assumption) ?restz50
                          case hyz50 => (intro w hSw; (try dsimp only at hSw); go_simp; try with_reducible rfl)
                          try simp only [Act.put, List.getElem_toArray, List.getElem_cons_succ, List.getElem_cons_zero, List.setIfInBounds_toArray, List.set_cons_zero, List.set_cons_succ]
                          refine wpAnyH_take (i := 1) (v := ?vz51) rfl (by kernel_rfl) (by kernel_rfl) (by kernel_rfl) (fun _ _ _ h => h) (Or.inl ⟨by kernel_rfl, ?hyz51⟩) (by assumption) ?restz51
                          case hyz51 => (intro w hSw; (try dsimp only at hSw); go_simp; try with_reducible rfl)
                          try simp only [Act.put, List.getElem_toArray, List.getElem_cons_succ, List.getElem_cons_zero, List.setIfInBounds_toArray, List.set_cons_zero, List.set_cons_succ]
                          refine wpAnyH_take (i := 2) (v := ?vz52) rfl (by kernel_rfl) (by kernel_rfl) (by kernel_rfl) (fun _ _ _ h => h) (Or.inl ⟨by kernel_rfl, ?hyz52⟩) (by assumption) ?restz52
                          case hyz52 => (intro w hSw; (try dsimp only at hSw); go_simp; try with_reducible rfl)
                          try simp only [Act.put, List.getElem_toArray, List.getElem_cons_succ, List.getElem_cons_zero, List.setIfInBounds_toArray, List.set_cons_zero, List.set_cons_succ]
                          refine wpAnyH_take (i := 3) (v := ?vz53) rfl (by kernel_rfl) (by kernel_rfl) (by kernel_rfl) (fun _ _ _ h => h) (Or.inl ⟨by kernel_rfl, ?hyz53⟩) (by assumption) ?restz53
                          case hyz53 => (intro w hSw; (try dsimp only at hSw); go_simp; try with_reducible rfl)
                          try simp only [Act.put, List.getElem_toArray, List.getElem_cons_succ, List.getElem_cons_zero, List.setIfInBounds_toArray, List.set_cons_zero, List.set_cons_succ]
                          refine wpAnyH_take (i := 4) (v := ?vz54) rfl (by kernel_rfl) (by kernel_rfl) (by kernel_rfl) (fun _ _ _ h => h) (Or.inl ⟨by kernel_rfl, ?hyz54⟩) (by assumption) ?restz54
                          case hyz54 => (intro w hSw; (try dsimp only at hSw); go_simp; try with_reducible rfl)
                          try simp only [Act.put, List.getElem_toArray, List.getElem_cons_succ, List.getElem_cons_zero, List.setIfInBounds_toArray, List.set_cons_zero, List.set_cons_succ]
                          refine wpAnyH_take (i := 5) (v := ?vz55) rfl (by kernel_rfl) (by kernel_rfl) (by kernel_rfl) (fun _ _ _ h => h) (Or.inl ⟨by kernel_rfl, ?hyz55⟩) (by assumption) ?restz55
                          case hyz55 => (intro w hSw; (try dsimp only at hSw); go_simp; try with_reducible rfl)
                          try simp only [Act.put, List.getElem_toArray, List.getElem_cons_succ, List.getElem_cons_zero, List.setIfInBounds_toArray, List.set_cons_zero, List.set_cons_succ]
                          refine wpAnyH_take (i := 6) (v := ?vz56) rfl (by kernel_rfl) (by kernel_rfl) (by kernel_rfl) (fun _ _ _ h => h) (Or.inl ⟨by kernel_rfl, ?hyz56⟩) (by assumption) ?restz56
                          case hyz56 => (intro w hSw; (try dsimp only at hSw); go_simp; try with_reducible rfl)
                          try simp only [Act.put, List.getElem_toArray, List.getElem_cons_succ, List.getElem_cons_zero, List.setIfInBounds_toArray, List.set_cons_zero, List.set_cons_succ]
                          refine wpAnyH_take (i := 7) (v := ?vz57) rfl (by kernel_rfl) (by kernel_rfl) (by kernel_rfl) (fun _ _ _ h => h) (Or.inl ⟨by kernel_rfl, ?hyz57⟩) (by assumption) ?restz57
                          case hyz57 => (intro w hSw; (try dsimp only at hSw); go_simp; try with_reducible rfl)
                          try simp only [Act.put, List.getElem_toArray, List.getElem_cons_succ, List.getElem_cons_zero, List.setIfInBounds_toArray, List.set_cons_zero, List.set_cons_succ]
                          refine wpAnyH_take (i := 8) (v := ?vz58) rfl (by kernel_rfl) (by kernel_rfl) (by kernel_rfl) (fun _ _ _ h => h) (Or.inl ⟨by kernel_rfl, ?hyz58⟩) (by assumption) ?restz58
                          case hyz58 => (intro w hSw; (try dsimp only at hSw); go_simp; try with_reducible rfl)
                          try simp only [Act.put, List.getElem_toArray, List.getElem_cons_succ, List.getElem_cons_zero, List.setIfInBounds_toArray, List.set_cons_zero, List.set_cons_succ]
                          refine wpAnyH_take (i := 9) (v := ?vz59) rfl (by kernel_rfl) (by kernel_rfl) (by kernel_rfl) (fun _ _ _ h => h) (Or.inl ⟨by kernel_rfl, ?hyz59⟩) (by assumption) ?restz59
                          case hyz59 => (intro w hSw; (try dsimp only at hSw); go_simp; try with_reducible rfl)
                          try simp only [Act.put, List.getElem_toArray, List.getElem_cons_succ, List.getElem_cons_zero, List.setIfInBounds_toArray, List.set_cons_zero, List.set_cons_succ]
                          refine wpAnyH_take (i := 10) (v := ?vz510) rfl (by kernel_rfl) (by kernel_rfl) (by kernel_rfl) (fun _ _ _ h => h) (Or.inl ⟨by kernel_rfl, ?hyz510⟩) (by assumption) ?restz510
                          case hyz510 => (intro w hSw; (try dsimp only at hSw); go_simp; try with_reducible rfl)
                          try simp only [Act.put, List.getElem_toArray, List.getElem_cons_succ, List.getElem_cons_zero, List.setIfInBounds_toArray, List.set_cons_zero, List.set_cons_succ]
                          refine wpAnyH_take (i := 11) (v := ?vz511) rfl (by kernel_rfl) (by kernel_rfl) (by kernel_rfl) (fun _ _ _ h => h) (Or.inl ⟨by kernel_rfl, ?hyz511⟩) (by assumption) ?restz511
                          case hyz511 => (intro w hSw; (try dsimp only at hSw); go_simp; try with_reducible rfl)
                          try simp only [Act.put, List.getElem_toArray, List.getElem_cons_succ, List.getElem_cons_zero, List.setIfInBounds_toArray, List.set_cons_zero, List.set_cons_succ]
                          refine wpAnyH_take (i := 12) (v := ?vz512) rfl (by kernel_rfl) (by kernel_rfl) (by kernel_rfl) (fun _ _ _ h => h) (Or.inl ⟨by kernel_rfl, ?hyz512⟩) (by assumption) ?restz512
                          case hyz512 => (intro w hSw; (try dsimp only at hSw); go_simp; try with_reducible rfl)
                          try simp only [Act.put, List.getElem_toArray, List.getElem_cons_succ, List.getElem_cons_zero, List.setIfInBounds_toArray, List.set_cons_zero, List.set_cons_succ]
                          refine wpAnyH_take (i := 13) (v := ?vz513) rfl (by kernel_rfl) (by kernel_rfl) (by kernel_rfl) (fun _ _ _ h => h) (Or.inl ⟨by kernel_rfl, ?hyz513⟩) (by assumption) ?restz513
                          case hyz513 => (intro w hSw; (try dsimp only at hSw); go_simp; try with_reducible rfl)
                          try simp only [Act.put, List.getElem_toArray, List.getElem_cons_succ, List.getElem_cons_zero, List.setIfInBounds_toArray, List.set_cons_zero, List.set_cons_succ]
                          refine wpAnyH_take (i := 14) (v := ?vz514) rfl (by kernel_rfl) (by kernel_rfl) (by kernel_rfl) (fun _ _ _ h => h) (Or.inl ⟨by kernel_rfl, ?hyz514⟩) (by assumption) ?restz514
                          case hyz514 => (intro w hSw; (try dsimp only at hSw); go_simp; try with_reducible rfl)
                          try simp only [Act.put, List.getElem_toArray, List.getElem_cons_succ, List.getElem_cons_zero, List.setIfInBounds_toArray, List.set_cons_zero, List.set_cons_succ]
                          refine wpAnyH_take (i := 15) (v := ?vz515) rfl (by kernel_rfl) (by kernel_rfl) (by kernel_rfl) (fun _ _ _ h => h) (Or.inl ⟨by kernel_rfl, ?hyz515⟩) (by assumption) ?restz515
                          case hyz515 => (intro w hSw; (try dsimp only at hSw); go_simp; try with_reducible rfl)
                          try simp only [Act.put, List.getElem_toArray, List.getElem_cons_succ, List.getElem_cons_zero, List.setIfInBounds_toArray, List.set_cons_zero, List.set_cons_succ]
                          refine wpAnyH_take (i := 16) (v := ?vz516) rfl (by kernel_rfl) (by kernel_rfl) (by kernel_rfl) (fun _ _ _ h => h) (Or.inl ⟨by kernel_rfl, ?hyz516⟩) (by assumption) ?restz516
                          case hyz516 => (intro w hSw; (try dsimp only at hSw); go_simp; try with_reducible rfl)
                          try simp only [Act.put, List.getElem_toArray, List.getElem_cons_succ, List.getElem_cons_zero, List.setIfInBounds_toArray, List.set_cons_zero, List.set_cons_succ]
                          refine wpAnyH_take (i := 17) (v := ?vz517) rfl (by kernel_rfl) (by kernel_rfl) (by kernel_rfl) (fun _ _ _ h => h) (Or.inl ⟨by kernel_rfl, ?hyz517⟩) (by assumption) ?restz517
                          case hyz517 => (intro w hSw; (try dsimp only at hSw); go_simp; try with_reducible rfl)
                          try simp only [Act.put, List.getElem_toArray, List.getElem_cons_succ, List.getElem_cons_zero, List.setIfInBounds_toArray, List.set_cons_zero, List.set_cons_succ]
                          refine wpAnyH_take (i := 18) (v := ?vz518) rfl (by kernel_rfl) (by kernel_rfl) (by kernel_rfl) (fun _ _ _ h => h) (Or.inl ⟨by kernel_rfl, ?hyz518⟩) (by assumption) ?restz518
                          case hyz518 => (intro w hSw; (try dsimp only at hSw); go_simp; try with_reducible rfl)
                          try simp only [Act.put, List.getElem_toArray, List.getElem_cons_succ, List.getElem_cons_zero, List.setIfInBounds_toArray, List.set_cons_zero, List.set_cons_succ]
                          refine wpAnyH_take (i := 19) (v := ?vz519) rfl (by kernel_rfl) (by kernel_rfl) (by kernel_rfl) (fun _ _ _ h => h) (Or.inl ⟨by kernel_rfl, ?hyz519⟩) (by assumption) ?restz519
                          case hyz519 => (intro w hSw; (try dsimp only at hSw); go_simp; try with_reducible rfl)
                          try simp only [Act.put, List.getElem_toArray, List.getElem_cons_succ, List.getElem_cons_zero, List.setIfInBounds_toArray, List.set_cons_zero, List.set_cons_succ]
                          refine wpAnyH_take (i := 20) (v := ?vz520) rfl (by kernel_rfl) (by kernel_rfl) (by kernel_rfl) (fun _ _ _ h => h) (Or.inl ⟨by kernel_rfl, ?hyz520⟩) (by assumption) ?restz520
                          case hyz520 => (intro w hSw; (try dsimp only at hSw); go_simp; try with_reducible rfl)
                          try simp only [Act.put, List.getElem_toArray, List.getElem_cons_succ, List.getElem_cons_zero, List.setIfInBounds_toArray, List.set_cons_zero, List.set_cons_succ]
                          refine wpAnyH_take (i := 21) (v := ?vz521) rfl (by kernel_rfl) (by kernel_rfl) (by kernel_rfl) (fun _ _ _ h => h) (Or.inl ⟨by kernel_rfl, ?hyz521⟩) (by assumption) ?restz521
                          case hyz521 => (intro w hSw; (try dsimp only at hSw); go_simp; try with_reducible rfl)
                          try simp only [Act.put, List.getElem_toArray, List.getElem_cons_succ, List.getElem_cons_zero, List.setIfInBounds_toArray, List.set_cons_zero, List.set_cons_succ]
                          refine wpAnyH_take (i := 22) (v := ?vz522) rfl (by kernel_rfl) (by kernel_rfl) (by kernel_rfl) (fun _ _ _ h => h) (Or.inl ⟨by kernel_rfl, ?hyz522⟩) (by assumption) ?restz522
                          case hyz522 => (intro w hSw; (try dsimp only at hSw); go_simp; try with_reducible rfl)
                          try simp only [Act.put, List.getElem_toArray, List.getElem_cons_succ, List.getElem_cons_zero, List.setIfInBounds_toArray, List.set_cons_zero, List.set_cons_succ]
                          refine wpAnyH_take (i := 23) (v := ?vz523) rfl (by kernel_rfl) (by kernel_rfl) (by kernel_rfl) (fun _ _ _ h => h) (Or.inl ⟨by kernel_rfl, ?hyz523⟩) (by assumption) ?restz523
                          case hyz523 => (intro w hSw; (try dsimp only at hSw); go_simp; try with_reducible rfl)
                          try simp only [Act.put, List.getElem_toArray, List.getElem_cons_succ, List.getElem_cons_zero, List.setIfInBounds_toArray, List.set_cons_zero, List.set_cons_succ]
                          refine wpAnyH_take (i := 24) (v := ?vz524) rfl (by kernel_rfl) (by kernel_rfl) (by kernel_rfl) (fun _ _ _ h => h) (Or.inl ⟨by kernel_rfl, ?hyz524⟩) (by assumption) ?restz524
                          case hyz524 => (intro w hSw; (try dsimp only at hSw); go_simp; try with_reducible rfl)
                          try simp only [Act.put, List.getElem_toArray, List.getElem_cons_succ, List.getElem_cons_zero, List.setIfInBounds_toArray, List.set_cons_zero, List.set_cons_succ]
                          refine wpAnyH_ready (rs := [25]) (by kernel_rfl) (by simp) ?_
                          refine AllReadyH.cons rfl (fun K hK => ?_) AllReadyH.nil
                          go_simp
                          go_at_call 11; (with_reducible refine GU.out.mono ?_); rintro r w8 ⟨rfl, rfl⟩
                          refine hK.out _ _ (by (try dsimp only); go_keep) (fun hHeld => ?_)
                          clear hK K
                          try simp only [Act.put, List.getElem_toArray, List.getElem_cons_succ, List.getElem_cons_zero, List.setIfInBounds_toArray, List.set_cons_zero, List.set_cons_succ]
                          refine wpAnyH_take (i := 26) (v := ?vz526) rfl (by kernel_rfl) (by kernel_rfl) (by kernel_rfl) (fun _ _ _ h => h) (Or.inl ⟨by kernel_rfl, ?hyz526⟩) (by assumption) ?restz526
                          case hyz526 => (intro w hSw; (try dsimp only at hSw); go_simp; try with_reducible rfl)
                          try simp only [Act.put, List.getElem_toArray, List.getElem_cons_succ, List.getElem_cons_zero, List.setIfInBounds_toArray, List.set_cons_zero, List.set_cons_succ]
                          refine wpAnyH_take (i := 27) (v := ?vz527) rfl (by kernel_rfl) (by kernel_rfl) (by kernel_rfl) (fun _ _ _ h => h) (Or.inl ⟨by kernel_rfl, ?hyz527⟩) (by assumption) ?restz527
                          case hyz527 => (intro w hSw; (try dsimp only at hSw); go_simp; try with_reducible rfl)
                          try simp only [Act.put, List.getElem_toArray, List.getElem_cons_succ, List.getElem_cons_zero, List.setIfInBounds_toArray, List.set_cons_zero, List.set_cons_succ]
                          refine wpAnyH_take (i := 28) (v := ?vz528) rfl (by kernel_rfl) (by kernel_rfl) (by kernel_rfl) (fun _ _ _ h => h) (Or.inl ⟨by kernel_rfl, ?hyz528⟩) (by assumption) ?restz528
                          case hyz528 => (intro w hSw; (try dsimp only at hSw); go_simp; try with_reducible rfl)
                          try simp only [Act.put, List.getElem_toArray, List.getElem_cons_succ, List.getElem_cons_zero, List.setIfInBounds_toArray, List.set_cons_zero, List.set_cons_succ]
                          refine wpAnyH_take (i := 29) (v := ?vz529) rfl (by kernel_rfl) (by kernel_rfl) (by kernel_rfl) (fun _ _ _ h => h) (Or.inl ⟨by kernel_rfl, ?hyz529⟩) (by assumption) ?restz529
                          case hyz529 => (intro w hSw; (try dsimp only at hSw); go_simp; try with_reducible rfl)
                          try simp only [Act.put, List.getElem_toArray, List.getElem_cons_succ, List.getElem_cons_zero, List.setIfInBounds_toArray, List.set_cons_zero, List.set_cons_succ]
                          refine wpAnyH_done (by kernel_rfl) ?_ _
                          go_wp2_with fail
                          go_roundw
                          case rel => exact ⟨j + 1, by omega, by go_num, by rw [RS.out]; simp, HXD.out⟩
                          case measure => simp [intOf] <;> omega
                      | false =>
                        refine wp_region_held_drew (S := (fun w' => w'.cell? ⟨q, 0, none⟩ = some (.int .i64 G) ∧ w'.cell? ⟨q, 2, none⟩ = some (.bool false) ∧ w'.cell? ⟨wr.heap.size, 0, none⟩ = some (.int .i64 dg) ∧ w'.cell? ⟨wr.heap.size, 1, none⟩ = some (.int .i64 dn) ∧ w'.cell? ⟨g7, j, none⟩ = some (.bool false))) (by kernel_rfl) (by (try dsimp only); go_keep) (fun hHeld => ?_)
                        refine wpAnyH_take (i := 0) (v := ?vz60) rfl (by kernel_rfl) (by kernel_rfl) (by kernel_rfl) (fun _ _ _ h => h) (Or.inl ⟨by kernel_rfl, ?hyz60⟩) (by assumption) ?restz60
                        case hyz60 => (intro w hSw; (try dsimp only at hSw); go_simp; try with_reducible rfl)
                        try simp only [Act.put, List.getElem_toArray, List.getElem_cons_succ, List.getElem_cons_zero, List.setIfInBounds_toArray, List.set_cons_zero, List.set_cons_succ]
                        refine wpAnyH_take (i := 1) (v := ?vz61) rfl (by kernel_rfl) (by kernel_rfl) (by kernel_rfl) (fun _ _ _ h => h) (Or.inl ⟨by kernel_rfl, ?hyz61⟩) (by assumption) ?restz61
                        case hyz61 => (intro w hSw; (try dsimp only at hSw); go_simp; try with_reducible rfl)
                        try simp only [Act.put, List.getElem_toArray, List.getElem_cons_succ, List.getElem_cons_zero, List.setIfInBounds_toArray, List.set_cons_zero, List.set_cons_succ]
                        refine wpAnyH_take (i := 2) (v := ?vz62) rfl (by kernel_rfl) (by kernel_rfl) (by kernel_rfl) (fun _ _ _ h => h) (Or.inl ⟨by kernel_rfl, ?hyz62⟩) (by assumption) ?restz62
                        case hyz62 => (intro w hSw; (try dsimp only at hSw); go_simp; try with_reducible rfl)
                        try simp only [Act.put, List.getElem_toArray, List.getElem_cons_succ, List.getElem_cons_zero, List.setIfInBounds_toArray, List.set_cons_zero, List.set_cons_succ]
                        refine wpAnyH_take (i := 3) (v := ?vz63) rfl (by kernel_rfl) (by kernel_rfl) (by kernel_rfl) (fun _ _ _ h => h) (Or.inl ⟨by kernel_rfl, ?hyz63⟩) (by assumption) ?restz63
                        case hyz63 => (intro w hSw; (try dsimp only at hSw); go_simp; try with_reducible rfl)
                        try simp only [Act.put, List.getElem_toArray, List.getElem_cons_succ, List.getElem_cons_zero, List.setIfInBounds_toArray, List.set_cons_zero, List.set_cons_succ]
                        refine wpAnyH_take (i := 4) (v := ?vz64) rfl (by kernel_rfl) (by kernel_rfl) (by kernel_rfl) (fun _ _ _ h => h) (Or.inl ⟨by kernel_rfl, ?hyz64⟩) (by assumption) ?restz64
                        case hyz64 => (intro w hSw; (try dsimp only at hSw); go_simp; try with_reducible rfl)
                        try simp only [Act.put, List.getElem_toArray, List.getElem_cons_succ, List.getElem_cons_zero, List.setIfInBounds_toArray, List.set_cons_zero, List.set_cons_succ]
                        refine wpAnyH_take (i := 5) (v := ?vz65) rfl (by kernel_rfl) (by kernel_rfl) (by kernel_rfl) (fun _ _ _ h => h) (Or.inl ⟨by kernel_rfl, ?hyz65⟩) (by assumption) ?restz65
                        case hyz65 => (intro w hSw; (try dsimp only at hSw); go_simp; try with_reducible rfl)
                        try simp only [Act.put, List.getElem_toArray, List.getElem_cons_succ, List.getElem_cons_zero, List.setIfInBounds_toArray, List.set_cons_zero, List.set_cons_succ]
                        refine wpAnyH_take (i := 6) (v := ?vz66) rfl (by kernel_rfl) (by kernel_rfl) (by kernel_rfl) (fun _ _ _ h => h) (Or.inl ⟨by kernel_rfl, ?hyz66⟩) (by assumption) ?restz66
                        case hyz66 => (intro w hSw; (try dsimp only at hSw); go_simp; try with_reducible rfl)
                        try simp only [Act.put, List.getElem_toArray, List.getElem_cons_succ, List.getElem_cons_zero, List.setIfInBounds_toArray, List.set_cons_zero, List.set_cons_succ]
                        refine wpAnyH_take (i := 7) (v := ?vz67) rfl (by kernel_rfl) (by kernel_rfl) (by kernel_rfl) (fun _ _ _ h => h) (Or.inl ⟨by kernel_rfl, ?hyz67⟩) (by assumption) ?restz67
                        case hyz67 => (intro w hSw; (try dsimp only at hSw); go_simp; try with_reducible rfl)
                        try simp only [Act.put, List.getElem_toArray, List.getElem_cons_succ, List.getElem_cons_zero, List.setIfInBounds_toArray, List.set_cons_zero, List.set_cons_succ]
                        refine wpAnyH_take (i := 8) (v := ?vz68) rfl (by kernel_rfl) (by kernel_rfl) (by kernel_rfl) (fun _ _ _ h => h) (Or.inl ⟨by kernel_rfl, ?hyz68⟩) (by assumption) ?restz68
                        case hyz68 => (intro w hSw; (try dsimp only at hSw); go_simp; try with_reducible rfl)
                        try simp only [Act.put, List.getElem_toArray, List.getElem_cons_succ, List.getElem_cons_zero, List.setIfInBounds_toArray, List.set_cons_zero, List.set_cons_succ]
                        refine wpAnyH_take (i := 9) (v := ?vz69) rfl (by kernel_rfl) (by kernel_rfl) (by kernel_rfl) (fun _ _ _ h => h) (Or.inl ⟨by kernel_rfl, ?hyz69⟩) (by assumption) ?restz69
                        case hyz69 => (intro w hSw; (try dsimp only at hSw); go_simp; try with_reducible rfl)
                        try simp only [Act.put, List.getElem_toArray, List.getElem_cons_succ, List.getElem_cons_zero, List.setIfInBounds_toArray, List.set_cons_zero, List.set_cons_succ]
                        refine wpAnyH_take (i := 10) (v := ?vz610) rfl (by kernel_rfl) (by kernel_rfl) (by kernel_rfl) (fun _ _ _ h => h) (Or.inl ⟨by kernel_rfl, ?hyz610⟩) (by assumption) ?restz610
                        case hyz610 => (intro w hSw; (try dsimp only at hSw); go_simp; try with_reducible rfl)
                        try simp only [Act.put, List.getElem_toArray, List.getElem_cons_succ, List.getElem_cons_zero, List.setIfInBounds_toArray, List.set_cons_zero, List.set_cons_succ]
                        refine wpAnyH_take (i := 11) (v := undef) rfl (by kernel_rfl) (by kernel_rfl) (by kernel_rfl) (fun _ _ _ h => h) (Or.inr ⟨by kernel_rfl, rfl⟩) (by assumption) ?_
                        try simp only [Act.put, List.getElem_toArray, List.getElem_cons_succ, List.getElem_cons_zero, List.setIfInBounds_toArray, List.set_cons_zero, List.set_cons_succ]
                        refine wpAnyH_take (i := 12) (v := undef) rfl (by kernel_rfl) (by kernel_rfl) (by kernel_rfl) (fun _ _ _ h => h) (Or.inr ⟨by kernel_rfl, rfl⟩) (by assumption) ?_
                        try simp only [Act.put, List.getElem_toArray, List.getElem_cons_succ, List.getElem_cons_zero, List.setIfInBounds_toArray, List.set_cons_zero, List.set_cons_succ]
                        refine wpAnyH_take (i := 13) (v := undef) rfl (by kernel_rfl) (by kernel_rfl) (by kernel_rfl) (fun _ _ _ h => h) (Or.inr ⟨by kernel_rfl, rfl⟩) (by assumption) ?_
                        try simp only [Act.put, List.getElem_toArray, List.getElem_cons_succ, List.getElem_cons_zero, List.setIfInBounds_toArray, List.set_cons_zero, List.set_cons_succ]
                        refine wpAnyH_take (i := 14) (v := undef) rfl (by kernel_rfl) (by kernel_rfl) (by kernel_rfl) (fun _ _ _ h => h) (Or.inr ⟨by kernel_rfl, rfl⟩) (by assumption) ?_
                        try simp only [Act.put, List.getElem_toArray, List.getElem_cons_succ, List.getElem_cons_zero, List.setIfInBounds_toArray, List.set_cons_zero, List.set_cons_succ]
                        refine wpAnyH_take (i := 15) (v := undef) rfl (by kernel_rfl) (by kernel_rfl) (by kernel_rfl) (fun _ _ _ h => h) (Or.inr ⟨by kernel_rfl, rfl⟩) (by assumption) ?_
                        try simp only [Act.put, List.getElem_toArray, List.getElem_cons_succ, List.getElem_cons_zero, List.setIfInBounds_toArray, List.set_cons_zero, List.set_cons_succ]
                        refine wpAnyH_take (i := 16) (v := ?vz616) rfl (by kernel_rfl) (by kernel_rfl) (by kernel_rfl) (fun _ _ _ h => h) (Or.inl ⟨by kernel_rfl, ?hyz616⟩) (by assumption) ?restz616
                        case hyz616 => (intro w hSw; (try dsimp only at hSw); go_simp; try with_reducible rfl)
                        try simp only [Act.put, List.getElem_toArray, List.getElem_cons_succ, List.getElem_cons_zero, List.setIfInBounds_toArray, List.set_cons_zero, List.set_cons_succ]
                        refine wpAnyH_take (i := 17) (v := ?vz617) rfl (by kernel_rfl) (by kernel_rfl) (by kernel_rfl) (fun _ _ _ h => h) (Or.inl ⟨by kernel_rfl, ?hyz617⟩) (by assumption) ?restz617
                        case hyz617 => (intro w hSw; (try dsimp only at hSw); go_simp; try with_reducible rfl)
                        try simp only [Act.put, List.getElem_toArray, List.getElem_cons_succ, List.getElem_cons_zero, List.setIfInBounds_toArray, List.set_cons_zero, List.set_cons_succ]
                        refine wpAnyH_take (i := 18) (v := undef) rfl (by kernel_rfl) (by kernel_rfl) (by kernel_rfl) (fun _ _ _ h => h) (Or.inr ⟨by kernel_rfl, rfl⟩) (by assumption) ?_
                        try simp only [Act.put, List.getElem_toArray, List.getElem_cons_succ, List.getElem_cons_zero, List.setIfInBounds_toArray, List.set_cons_zero, List.set_cons_succ]
                        refine wpAnyH_take (i := 19) (v := undef) rfl (by kernel_rfl) (by kernel_rfl) (by kernel_rfl) (fun _ _ _ h => h) (Or.inr ⟨by kernel_rfl, rfl⟩) (by assumption) ?_
                        try simp only [Act.put, List.getElem_toArray, List.getElem_cons_succ, List.getElem_cons_zero, List.setIfInBounds_toArray, List.set_cons_zero, List.set_cons_succ]
                        refine wpAnyH_take (i := 20) (v := undef) rfl (by kernel_rfl) (by kernel_rfl) (by kernel_rfl) (fun _ _ _ h => h) (Or.inr ⟨by kernel_rfl, rfl⟩) (by assumption) ?_
                        try simp only [Act.put, List.getElem_toArray, List.getElem_cons_succ, List.getElem_cons_zero, List.setIfInBounds_toArray, List.set_cons_zero, List.set_cons_succ]
                        refine wpAnyH_take (i := 21) (v := undef) rfl (by kernel_rfl) (by kernel_rfl) (by kernel_rfl) (fun _ _ _ h => h) (Or.inr ⟨by kernel_rfl, rfl⟩) (by assumption) ?_
                        try simp only [Act.put, List.getElem_toArray, List.getElem_cons_succ, List.getElem_cons_zero, List.setIfInBounds_toArray, List.set_cons_zero, List.set_cons_succ]
                        refine wpAnyH_take (i := 22) (v := undef) rfl (by kernel_rfl) (by kernel_rfl) (by kernel_rfl) (fun _ _ _ h => h) (Or.inr ⟨by kernel_rfl, rfl⟩) (by assumption) ?_
                        try simp only [Act.put, List.getElem_toArray, List.getElem_cons_succ, List.getElem_cons_zero, List.setIfInBounds_toArray, List.set_cons_zero, List.set_cons_succ]
                        refine wpAnyH_take (i := 23) (v := undef) rfl (by kernel_rfl) (by kernel_rfl) (by kernel_rfl) (fun _ _ _ h => h) (Or.inr ⟨by kernel_rfl, rfl⟩) (by assumption) ?_
                        try simp only [Act.put, List.getElem_toArray, List.getElem_cons_succ, List.getElem_cons_zero, List.setIfInBounds_toArray, List.set_cons_zero, List.set_cons_succ]
                        refine wpAnyH_take (i := 24) (v := undef) rfl (by kernel_rfl) (by kernel_rfl) (by kernel_rfl) (fun _ _ _ h => h) (Or.inr ⟨by kernel_rfl, rfl⟩) (by assumption) ?_
                        try simp only [Act.put, List.getElem_toArray, List.getElem_cons_succ, List.getElem_cons_zero, List.setIfInBounds_toArray, List.set_cons_zero, List.set_cons_succ]
                        refine wpAnyH_take (i := 25) (v := undef) rfl (by kernel_rfl) (by kernel_rfl) (by kernel_rfl) (fun _ _ _ h => h) (Or.inr ⟨by kernel_rfl, rfl⟩) (by assumption) ?_
                        try simp only [Act.put, List.getElem_toArray, List.getElem_cons_succ, List.getElem_cons_zero, List.setIfInBounds_toArray, List.set_cons_zero, List.set_cons_succ]
                        refine wpAnyH_take (i := 26) (v := undef) rfl (by kernel_rfl) (by kernel_rfl) (by kernel_rfl) (fun _ _ _ h => h) (Or.inr ⟨by kernel_rfl, rfl⟩) (by assumption) ?_
                        try simp only [Act.put, List.getElem_toArray, List.getElem_cons_succ, List.getElem_cons_zero, List.setIfInBounds_toArray, List.set_cons_zero, List.set_cons_succ]
                        refine wpAnyH_take (i := 27) (v := ?vz627) rfl (by kernel_rfl) (by kernel_rfl) (by kernel_rfl) (fun _ _ _ h => h) (Or.inl ⟨by kernel_rfl, ?hyz627⟩) (by assumption) ?restz627
                        case hyz627 => (intro w hSw; (try dsimp only at hSw); go_simp; try with_reducible rfl)
                        try simp only [Act.put, List.getElem_toArray, List.getElem_cons_succ, List.getElem_cons_zero, List.setIfInBounds_toArray, List.set_cons_zero, List.set_cons_succ]
                        refine wpAnyH_take (i := 28) (v := ?vz628) rfl (by kernel_rfl) (by kernel_rfl) (by kernel_rfl) (fun _ _ _ h => h) (Or.inl ⟨by kernel_rfl, ?hyz628⟩) (by assumption) ?restz628
                        case hyz628 => (intro w hSw; (try dsimp only at hSw); go_simp; try with_reducible rfl)
                        try simp only [Act.put, List.getElem_toArray, List.getElem_cons_succ, List.getElem_cons_zero, List.setIfInBounds_toArray, List.set_cons_zero, List.set_cons_succ]
                        refine wpAnyH_take (i := 29) (v := ?vz629) rfl (by kernel_rfl) (by kernel_rfl) (by kernel_rfl) (fun _ _ _ h => h) (Or.inl ⟨by kernel_rfl, ?hyz629⟩) (by assumption) ?restz629
                        case hyz629 => (intro w hSw; (try dsimp only at hSw); go_simp; try with_reducible rfl)
                        try simp only [Act.put, List.getElem_toArray, List.getElem_cons_succ, List.getElem_cons_zero, List.setIfInBounds_toArray, List.set_cons_zero, List.set_cons_succ]
                        refine wpAnyH_done (by kernel_rfl) ?_ _
                        go_wp2_with fail
                        go_roundw
                        case rel => exact ⟨j + 1, by omega, by go_num, by rw [RS.out]; simp, HXD.out⟩
                        case measure => simp [intOf] <;> omega
                · have hge : (d : Int) ≤ j := by omega
                  obtain ⟨rb, hrb⟩ : ∃ rb, raceB D (at0 (ns G)) G wb j = rb := ⟨_, rfl⟩
                  have RB := Lib.hid (show raceB D (at0 (ns G)) G wb D.length = rb from by
                    have e : D.length = j := by have := HD.out; omega
                    rw [e, hrb])
                  rw [hrb]
                  have S2 := Lib.hid (show Sta w b cb q #[.int .i64 G, .int .i64 tt, .bool wb] ns x l wr from ⟨F1.out.below HX.out, CE1.out.below HX.out, QX.out, below_trans HB1.out HX.out HB1.out.size⟩)
                  have DN2 := Lib.hid (DN1.out.below HX.out)
                  have PK := Lib.hid (pack_yes G N wr (decide_eq_true ⟨by omega, by omega, NB.out.1, NB.out.2⟩))
                  have POS := Lib.hid (show ∀ u : Int, 0 ≤ at0 (ns G) u from fun u => by
                    by_cases hu : 0 ≤ u
                    · obtain ⟨t, rfl⟩ := Int.eq_ofNat_of_zero_le hu
                      have h1 := FF.out t
                      have h2 := (VC.out.bd G t hG4).1
                      omega
                    · rw [at0_out (.inl (by omega))]; exact Int.le_refl _)
                  have OF := Lib.hid (show ofE (trim (ns G)) = 0 from ofE_trim (S2.out.f.rc G hG4).1 (fun t => by
                    have h1 := FF.out t
                    rw [at0_nat] at h1
                    have h2 := VC.out.bd G t hG4
                    have h3 := HM.out
                    omega))
                  obtain ⟨y0, y1, y2⟩ := QC.out wr QX.out
                  clear hrb GT
                  go_wp2_with fail
                  refine PK.out.mono ?_
                  rintro r w5 ⟨rfl, rfl⟩
                  go_wp2_with fail
                  refine (rc_list cb (G * 256) (ns G) _ (S2.out.f.rc G hG4) POS.out).mono ?_
                  rintro r w5 ⟨v5, rfl, hs5, hb5⟩
                  have S5 := Lib.hid hs5
                  have B5 := Lib.hid hb5
                  clear hs5 hb5
                  go_wp2_with fail
                  refine (of_yes v5 (trim (ns G)) _ S5.out OF.out).mono ?_
                  rintro r w6 ⟨b6, g6, rfl, hk6, hb6, _, _⟩
                  have h26 := below_trans B5.out hb6 B5.out.size
                  have S6 := Lib.hid (show Sta w b cb q #[.int .i64 G, .int .i64 tt, .bool wb] ns x l w6 from S2.out.keep (keepT_below h26) (keepT_below h26) (keepT_below h26) (keepT_below h26) h26.size (below_trans S2.out.b h26 S2.out.b.size))
                  have DN6 := Lib.hid (DN2.out.below h26)
                  have K6 := Lib.hid (show CkV w6 (.pointer (some ⟨b6, 0, none⟩)) (at0 (ns G)) from .inr ⟨b6, _, rfl, hk6, by show at0 (ns G) = at0 (trim (ns G)); rw [trim_f]⟩)
                  obtain ⟨x0, x1, x2⟩ := QC.out w6 S6.out.q
                  clear hk6 hb6 h26 S5 B5 S2 DN2 y0 y1 y2 OF POS PK HX QX
                  go_upto_if 120 with fail
                  go_cut [18, 19] (fun z y wy => ∃ yv : Int, z = .int .i64 yv ∧ y = .int .i64 0 ∧ AfterAcc w.heap.size b D ⟨G, C G G, wb, C G⟩ w6 rb yv wy)
                  case first =>
                    cases wb with
                    | true =>
                      have ACC := Lib.hid (show Calls Try.prog 15 #[.pointer (some ⟨b, 0, none⟩), .int .u64 (ep G N), .pointer (some ⟨b6, 0, none⟩)] w6 (AccPost w.heap.size b D ⟨G, C G G, true, C G⟩ w6 rb) from by
                        rw [← HNN.out]
                        exact acc_write S6.out.c VC.out HM.out CV.out hG4 K6.out FF.out RB.out)
                      go_wp2_with fail
                      refine ACC.out.mono ?_
                      rintro r wy ⟨yv, rfl, ha⟩
                      have HA := Lib.hid ha
                      clear ha
                      go_wp2_with fail
                      go_meet
                      exact ⟨yv, rfl, rfl, HA.out⟩
                    | false =>
                      have ACC := Lib.hid (show Calls Try.prog 16 #[.pointer (some ⟨b, 0, none⟩), .int .u64 (ep G N), .pointer (some ⟨b6, 0, none⟩)] w6 (AccPost w.heap.size b D ⟨G, C G G, false, C G⟩ w6 rb) from by
                        rw [← HNN.out]
                        exact acc_read S6.out.c VC.out HM.out CV.out hG4 K6.out FF.out RB.out)
                      go_wp2_with fail
                      refine ACC.out.mono ?_
                      rintro r wy ⟨yv, rfl, ha⟩
                      have HA := Lib.hid ha
                      clear ha
                      go_wp2_with fail
                      go_meet
                      exact ⟨yv, rfl, rfl, HA.out⟩
                  case rest =>
                    obtain ⟨yv, rfl, rfl, hz1, hz2, hz3⟩ := hcut
                    have KC : ∀ e, e ≠ 74 → KeepT e w6 wc := fun e he => keepT_cell S6.out.c hz3 he
                    have DN7 := Lib.hid (DN6.out.keep (KC _ (by decide)) (KC _ (by decide)))
                    have F7 := Lib.hid (S6.out.f.keep (KC _ (by decide)))
                    have Q7 := Lib.hid ((KC _ (by decide) _ _ _ S6.out.q).trans S6.out.q)
                    have HB7 := Lib.hid (below_turned S6.out.b hz3 (Nat.le_refl _) (fun i hi => by have : i = b := hi; have := LB.out.1; omega))
                    obtain ⟨x0, x1, x2⟩ := QC.out _ Q7.out
                    clear KC DN6 S6 K6
                    cases rb with
                    | true =>
                      have h9 : (yv != 0) = true := by unfold bne; rw [hz1 rfl]; rfl
                      clear hz1 hz2 hz3
                      go_wp2_with fail
                      refine (races_any _).mono ?_
                      rintro e w3 ⟨rfl, hb3⟩
                      have B3 := Lib.hid (below_trans HB7.out hb3 HB7.out.size)
                      clear hb3
                      go_wp2_with fail
                      go_ret
                      exact ⟨rfl, B3.out⟩
                    | false =>
                      obtain ⟨rfl, x', l', hce', hcv'⟩ := hz2 rfl
                      have S7 := Lib.hid (show Sta w b cb q #[.int .i64 G, .int .i64 tt, .bool wb] ns x' l' wc from ⟨F7.out, hce', Q7.out, HB7.out⟩)
                      have VC7 := Lib.hid (vc_add VC.out hG4 wb)
                      have CV7 := Lib.hid hcv'
                      have HB := Lib.hid (show cb < wc.heap.size ∧ w.heap.size ≤ wc.heap.size from ⟨F7.out.lt, HB7.out.size⟩)
                      obtain ⟨i1, hi1, hz1', hz2', hz3'⟩ := info_parts acc_info
                      obtain ⟨i2, hi2, hy1', hy2', hy3'⟩ := info_parts bool_info
                      clear hz1 hz2 hz3 hce' hcv' F7 Q7 HB7 CE1 F1 DN1 CV
                      have NEW := Lib.hid (show ∀ (W : World) (i : Nat) (u : Value), (accL ⟨G, N, wb, C G⟩)[i]? = some u → (W.alloc (.cells #[.int .i64 G, .int .i64 N, .bool false, .bool false] 37)).cell? (Addr.add ⟨W.heap.size, 0, none⟩ i) = some u from fun W i u hi => by
                        rw [Addr.add_lit]
                        simp only [World.cell?, heap_alloc_new, Nat.zero_add]
                        simpa [accL] using hi)
                      have A1 := Lib.hid (show ∀ u ∈ accL ⟨G, N, wb, C G⟩, u.oneCell' = true from fun u hu => by
                        simp [accL] at hu
                        rcases hu with rfl | rfl | rfl <;> rfl)
                      have OW := Lib.hid (show ∀ o, (wc.alloc o).ownsRow w.heap.size 37 4 (.slice a6 d p6) d (accs D) from fun o => by
                        have := ownsRow_keep DN7.out.a (keepT_below ((Below.refl _ _).alloc (Nat.le_refl _) o))
                        rw [HD.out] at this
                        exact this)
                      go_wp2_with (at_builtin; refine wpList_append_own _ rfl _ _ 31 rfl w.heap.size 37 i1 _ 4 24 Try.underlying31 hi1 hz1' hz2' hz3' rfl (by decide) _ d (accs D) rfl (OW.out _) ⟨wc.heap.size, 0, none⟩ 1 1 (accL ⟨G, N, wb, C G⟩) rfl rfl (NEW.out _) A1.out (by unfold maxLen; omega) (by omega) (by have := HB.out.2; rw [size_alloc]; omega) ?_)
                      intro v6' w8 hr1 hr2 _
                      obtain ⟨s8, a8, b8⟩ := put_acc (d := ⟨G, N, wb, C G⟩) S7.out DN7.out HD.out hr1 hr2
                      have S8 := Lib.hid s8
                      have A8 := Lib.hid a8
                      have B8 := Lib.hid b8
                      obtain ⟨x0, x1, x2⟩ := QC.out _ s8.q
                      obtain ⟨ao8, cp8, rfl⟩ : ∃ ao cp, v6' = .slice ao (d + 1) cp := by
                        rcases hr1.2 with ⟨hv, h0⟩ | ⟨g, cap, cur, hv, _⟩
                        · omega
                        · exact ⟨_, _, hv⟩
                      have HB8 := Lib.hid (show w.heap.size ≤ w8.heap.size from s8.b.size)
                      have OW8 := Lib.hid (show ∀ o, (w8.alloc o).ownsRow w.heap.size 4 1 (.slice a7 d p7) d (wrs D) from fun o => ownsRow_keep B8.out (keepT_below ((Below.refl _ _).alloc (Nat.le_refl _) o)))
                      clear hr1 hr2 s8 a8 b8 S7 DN7 OW NEW A1
                      go_wp2_with (at_builtin; refine wpList_append_own _ rfl _ _ 32 rfl w.heap.size 4 i2 _ 1 1 Try.underlying32 hi2 hy1' hy2' hy3' rfl (by decide) _ d (wrs D) rfl (OW8.out _) ⟨w8.heap.size, 0, none⟩ 1 1 [.bool wb] rfl rfl (cell_one_new _ _ _) (fun u hu => by simp at hu; subst hu; rfl) (by unfold maxLen; omega) (by omega) (by have := HB8.out; rw [size_alloc]; omega) ?_)
                      intro v7' w9 hr1 hr2 _
                      obtain ⟨s9, d9⟩ := put_wr (d := ⟨G, N, wb, C G⟩) S8.out HD.out A8.out B8.out hr1 hr2
                      have S9 := Lib.hid s9
                      have D9 := Lib.hid (show Dn w.heap.size w9 (.slice ao8 (d + 1) cp8) v7' (D ++ [⟨G, C G G, wb, C G⟩]) from by rw [HNN.out]; exact d9)
                      obtain ⟨x0, x1, x2⟩ := QC.out _ s9.q
                      obtain ⟨ao9, cp9, rfl⟩ : ∃ ao cp, v7' = .slice ao (d + 1) cp := by
                        rcases hr1.2 with ⟨hv, h0⟩ | ⟨g, cap, cur, hv, _⟩
                        · omega
                        · exact ⟨_, _, hv⟩
                      have LEN := Lib.hid (show (D ++ [(⟨G, C G G, wb, C G⟩ : Ac)]).length ≤ k + 1 from by rw [List.length_append]; have := HD.out; show D.length + 1 ≤ _; have := DL.out; omega)
                      clear hr1 hr2 s9 d9 S8 A8 B8 OW8 HB8
                      by_cases ht : tt < 0 ∨ 4 ≤ tt
                      · have hh : (tt < 0 ∧ ¬ 0 ≤ tt) ∨ (0 ≤ tt ∧ ¬ tt < 4) := by omega
                        have FN := Lib.hid (show Fst w.heap.size w9 b cb (.slice ao8 (d + 1) cp8) (.slice ao9 (d + 1) cp9) (k + 1) from ⟨ns, C, _, x', l', S9.out.f, S9.out.c, D9.out, VC7.out.mono (by push_cast; omega), CV7.out, CN.out, LEN.out⟩)
                        clear ht
                        rcases hh with ⟨h1, h2⟩ | ⟨h1, h2⟩
                        all_goals
                          go_wp2_with fail
                          go_roundw
                          case rel => exact ⟨k + 1, by omega, by go_num, FN.out, S9.out.b⟩
                          case measure => simp [intOf] <;> omega
                      · have t1 : 0 ≤ tt := by omega
                        have t2 : tt < 4 := by omega
                        obtain ⟨T, hT⟩ := Int.eq_ofNat_of_zero_le t1
                        subst hT
                        have hT4 : T < 4 := by omega
                        clear ht
                        have S9d := Lib.hid S9.out.drew
                        have HRG := Lib.hid ((S9d.out.f.rc G hG4).range)
                        have HL := Lib.hid (S9.out.f.rc G hG4).1
                        obtain ⟨ZG, hZG⟩ : ∃ Z, (ints (ns G)).toArray = Z := ⟨_, rfl⟩
                        have hL := run_ld37 cb (G * 256) (ns G) HL.out ZG hZG
                        have HZ := Lib.hid hZG
                        have rg := HRG.out
                        have AFT := Lib.hid (show ∀ zs w', RC w' cb (T * 256) zs → (∀ j, j < 256 → zs.getD j 0 = max ((ns T).getD j 0) ((ns G).getD j 0)) → Only cb (T * 256) 256 w9.drew w' → Sta w b cb q #[.int .i64 G, .int .i64 T, .bool wb] (upC ns T zs) x' l' w' ∧ Dn w.heap.size w' (.slice ao8 (d + 1) cp8) (.slice ao9 (d + 1) cp9) (D ++ [⟨G, C G G, wb, C G⟩]) ∧ upC ns T zs G = ns G from fun zs w' h1 h2 h3 =>
                          ⟨S9d.out.only LB.out.2.1 hT4 h3 h1, D9.out.drew.only S9d.out.f h3, upC_told HL.out h1.1 h2⟩)
                        clear hZG
                        go_wp2_with fail
                        go_region_held3 (fun w' => w'.cell? ⟨q, 0, none⟩ = some (.int .i64 G) ∧ w'.cell? ⟨q, 1, none⟩ = some (.int .i64 T) ∧ w'.rangeAt cb (G * 256) (ints (ns G)))
                          (first | (refine ⟨?_, ?_, ?_⟩ <;> first | assumption | (simp [*]; done)))
                          (first | (go_at_call 17; (with_reducible refine (rc_join cb (T * 256) (ns T) (ns G) ZG HZ.out HL.out _ (S9d.out.f.rc T hT4)).mono ?_); rintro r wj ⟨zs, rfl, hrc, hzs, ho⟩; obtain ⟨sj, dj, ej⟩ := AFT.out zs wj hrc hzs ho; obtain ⟨x0, x1, x2⟩ := QC.out _ sj.q; have rg := (sj.f.rc G hG4).range; rw [ej] at rg; have SJ := Lib.hid sj; have DJ := Lib.hid dj; have EJ := Lib.hid ej; have LZ := Lib.hid hrc.1; have ZS := Lib.hid hzs; clear sj dj ej hrc hzs ho))
                        go_wp2_with fail
                        have SJd := Lib.hid SJ.out.drew
                        have NG := Lib.hid (show (ns G).getD G 0 = C G G from CN.out G G hG4)
                        have RCJ := Lib.hid (show RC wj.drew cb (G * 256) (ns G) from by have := SJd.out.f.rc G hG4; rw [EJ.out] at this; exact this)
                        have hn1 : (ns G).getD G 0 < 1048576 := by
                          have h1 := NG.out
                          have h2 := (VC.out.bd G G hG4).2
                          omega
                        have hn0 : -1048576 ≤ (ns G).getD G 0 := by
                          have h1 := NG.out
                          have h2 := (VC.out.bd G G hG4).1
                          omega
                        have TK := Lib.hid (show Calls Try.prog 18 #[.pointer (some ⟨cb, G * 256, none⟩), .int .i64 G, .int .i64 1048576] wj.drew (fun r w' => r = .returned (.int .i64 0) ∧ w' = (wj.drew.setCell ⟨cb, G * 256 + G, none⟩ (.int .i64 (C G G + 1))).drew) from by
                          refine (rc_tick cb (G * 256) (ns G) G 1048576 wj.drew RCJ.out (by omega) (by decide) (by decide) hn0).mono ?_
                          rintro r w' (⟨h1, _⟩ | ⟨h1, h2, h3⟩)
                          · omega
                          · rw [NG.out] at h3
                            exact ⟨h2, h3⟩)
                        have HOT := Only.of_set (b := cb) (o := G * 256) (n := 256) (t := G) (w := wj.drew) (.int .i64 (C G G + 1)) (by omega)
                        have SK := Lib.hid (SJd.out.only LB.out.2.1 hG4 HOT (RCJ.out.set G (by omega) (C G G + 1))).drew
                        have DK := Lib.hid (DJ.out.drew.only SJd.out.f HOT).drew
                        have VK := Lib.hid (vc_tell VC7.out hG4 hT4)
                        have CNK := Lib.hid (tell_cN (fun g hg => (S9.out.f.rc g hg).1) LZ.out hG4 hT4 CN.out ZS.out)
                        obtain ⟨z0, z1, z2⟩ := QC.out _ SK.out.q
                        clear hn1 hn0 HOT
                        go_region_held3 (fun w' => w'.cell? ⟨q, 0, none⟩ = some (.int .i64 G)) (first | exact z0 | go_keep)
                          (first | (go_at_call 18; (with_reducible refine TK.out.mono ?_); rintro r wk ⟨rfl, rfl⟩))
                        have FN := Lib.hid (show Fst w.heap.size _ b cb (.slice ao8 (d + 1) cp8) (.slice ao9 (d + 1) cp9) (k + 1) from ⟨_, _, _, x', l', SK.out.f, SK.out.c, DK.out, VK.out, CV7.out, CNK.out, LEN.out⟩)
                        go_wp2_with fail
                        go_roundw
                        case rel => exact ⟨k + 1, by omega, by go_num, FN.out, SK.out.b⟩
                        case measure => simp [intOf] <;> omega
          · have hge : (n : Int) ≤ k := by omega
            clear hlt
            go_wp2_with fail
            refine (races_any _).mono ?_
            rintro e w3 ⟨rfl, hb3⟩
            have B3 := Lib.hid (below_trans HR.out hb3 HR.out.size)
            clear hb3
            go_wp2_with fail
            go_ret
            exact ⟨rfl, B3.out⟩
end Go.Proofs.Ytonegedenmchbaa

