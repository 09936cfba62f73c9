
/-
  Layer 5: large.
  Layer 5: exits.
-/
import Derived.Test.YtpefjcmaggimhaaSheX
import Derived.Test.YtpefjcmaggimhaaSheQ
namespace Go.Proofs.Ytpefjcmaggimhaa
open Go.RowKit
set_option linter.unusedVariables false
set_option linter.unusedSimpArgs false
set_option maxRecDepth 100000

/-- What a script that is not large has. -/
structure Small (s : Scr) : Prop where
  p : s.ps.length ≤ 20
  l : s.pl.length ≤ 1000
  d : s.dr.length ≤ 1000
  o : ∀ k, k < s.ps.length → (s.ps.getD k []).length ≤ 100
def CsB (m : Nat) (ps : List (List Opn)) : Prop := ∀ k, k < ps.length → ∀ j, j < (ps.getD k []).length → ((ps.getD k []).getD j default).cs.length ≤ m
theorem Small.scrN {s : Scr} (h : Small s) : ScrN s := ⟨Nat.le_trans h.p (by decide), Nat.le_trans h.l (by decide), Nat.le_trans h.d (by decide), fun k hk => Nat.le_trans (h.o k hk) (by decide)⟩
theorem csB_csN {m : Nat} {ps : List (List Opn)} (h : CsB m ps) (hm : m ≤ 1000000) : CsN ps := fun k hk j hj => Nat.le_trans (h k hk j hj) hm
theorem getD_of_mem {α : Type} {l : List α} {x d : α} (h : x ∈ l) : ∃ k, k < l.length ∧ l.getD k d = x := by
  obtain ⟨k, hk, rfl⟩ := List.getElem_of_mem h
  exact ⟨k, hk, by rw [List.getD_eq_getElem?_getD, List.getElem?_eq_getElem hk]; rfl⟩
theorem Small.szS {s : Scr} (h : Small s) (hc : CsB 3000 s.ps) : SzS s := by
  refine ⟨⟨Nat.le_trans h.p (by decide), fun p hp => ?_, fun p hp o ho => ?_⟩, Nat.le_trans h.l (by decide), Nat.le_trans h.d (by decide)⟩
  · obtain ⟨k, hk, rfl⟩ := getD_of_mem (d := []) hp
    exact Nat.le_trans (h.o k hk) (by decide)
  · obtain ⟨k, hk, rfl⟩ := getD_of_mem (d := []) hp
    obtain ⟨j, hj, rfl⟩ := getD_of_mem (d := default) ho
    exact Nat.le_trans (hc k hk j hj) (by decide)
def bigC : Nat := 140737488355328
def LargePost (s : Scr) (w : World) (r : Ending) (w' : World) : Prop := ∃ b : Bool, r = .returned (.bool b) ∧ (b = false → Small s ∧ (CsB bigC s.ps → CsB 3000 s.ps)) ∧ Below w.heap.size w w'
theorem box_cells {w : World} {b : Nat} {x0 x1 x2 x3 x4 : Value} {t : TypeId} (h : w.heap[b]? = some (Obj.cells #[x0, x1, x2, x3, x4] t (0, 0))) {w' : World} (hB : Below w.heap.size w w') :
    w'.cell? ⟨b, 0, none⟩ = some x0 ∧ w'.cell? ⟨b, 1, none⟩ = some x1 ∧ w'.cell? ⟨b, 2, none⟩ = some x2 ∧ w'.cell? ⟨b, 3, none⟩ = some x3 ∧ w'.cell? ⟨b, 4, none⟩ = some x4 :=
  five_cells ((hB.block _ (lt_of_heap h)).trans h)
set_option maxHeartbeats 4000000 in
theorem large_any (vp vl vd : Value) (s : Scr) (w : World) (h : ScrAt w vp vl vd s) : Calls Try.prog 8 #[scrV vp vl vd s] w (LargePost s w) := by
  obtain ⟨ap, cp, rfl⟩ := h.p.shape
  obtain ⟨al, cl, rfl⟩ := slI_shape h.l
  obtain ⟨ad, cd, rfl⟩ := slI_shape h.d
  have HP := Lib.hid h.p
  clear h
  obtain ⟨t, m, ps, pl, dr⟩ := s
  unfold scrV
  unfold scrC
  dsimp only at HP ⊢
  obtain ⟨np, hnp⟩ : ∃ n, ps.length = n := ⟨_, rfl⟩
  obtain ⟨nl, hnl⟩ : ∃ n, pl.length = n := ⟨_, rfl⟩
  obtain ⟨nd, hnd⟩ : ∃ n, dr.length = n := ⟨_, rfl⟩
  rw [hnp] at HP
  rw [hnp, hnl, hnd]
  have NP := Lib.hid hnp
  have NL := Lib.hid hnl
  have ND := Lib.hid hnd
  clear hnp hnl hnd
  have BIG := Lib.hid (show ∀ w', Below w.heap.size w w' → LargePost ⟨t, m, ps, pl, dr⟩ w (.returned (.bool true)) w' from fun w' h => ⟨true, rfl, fun e => (by cases e), h⟩)
  have B0 := Lib.hid (below1 w (.cells #[.int .i64 t, .int .i64 m, .slice ap np cp, .slice al nl cl, .slice ad nd cd] 25))
  have E0 := Lib.hid (heap_alloc_new w (.cells #[.int .i64 t, .int .i64 m, .slice ap np cp, .slice al nl cl, .slice ad nd cd] 25))
  obtain ⟨z0, z1, z2, z3, z4⟩ := five_cells E0.out
  by_cases hp : 20 < np
  · have d1 : decide (20 < np) = true := decide_eq_true hp
    have d1' : (20 : Int) < np := by omega
    clear hp
    go_enter Try.func8, Try.ntmps8
    go_wp2_with fail
    go_ret
    exact BIG.out _ B0.out
  have d1 : decide (20 < np) = false := decide_eq_false hp
  have d1' : ¬ (20 : Int) < np := by omega
  by_cases hl : 1000 < nl
  · have d2 : decide (1000 < nl) = true := decide_eq_true hl
    have d2' : (1000 : Int) < nl := by omega
    clear hp hl
    go_enter Try.func8, Try.ntmps8
    go_wp2_with fail
    go_ret
    exact BIG.out _ B0.out
  have d2 : decide (1000 < nl) = false := decide_eq_false hl
  have d2' : ¬ (1000 : Int) < nl := by omega
  by_cases hd : 1000 < nd
  · have d3 : decide (1000 < nd) = true := decide_eq_true hd
    have d3' : (1000 : Int) < nd := by omega
    clear hp hl hd
    go_enter Try.func8, Try.ntmps8
    go_wp2_with fail
    go_ret
    exact BIG.out _ B0.out
  have d3 : decide (1000 < nd) = false := decide_eq_false hd
  have d3' : ¬ (1000 : Int) < nd := by omega
  have HB0 := Lib.hid (And.intro (show np ≤ 20 by omega) (And.intro (show nl ≤ 1000 by omega) (show nd ≤ 1000 by omega)))
  clear hp hl hd
  go_enter Try.func8, Try.ntmps8
  go_wp2_with fail
  obtain ⟨ws, hws⟩ : ∃ x, w.alloc (.cells #[.int .i64 t, .int .i64 m, .slice ap np cp, .slice al nl cl, .slice ad nd cd] 25) = x := ⟨_, rfl⟩
  rw [hws] at B0 E0 z0 z1 z2 z3 z4
  try rw [hws]
  clear z0 z1 z2 z3 z4 d1 d1' d2 d2' d3 d3'
  go_loopw [27, 3] (fun i nv wr => ∃ (k : Nat) (y : Int), k ≤ np ∧ i = .int .i64 k ∧ nv = .int .i64 y ∧ (∀ e, e < k → (ps.getD e []).length ≤ 100) ∧ (CsB bigC ps → 0 ≤ y ∧ y ≤ 3000 ∧ ∀ e, e < k → ∀ j, j < (ps.getD e []).length → ((ps.getD e []).getD j default).cs.length ≤ 3000) ∧ Below w.heap.size w wr) (fun i _ _ => np - (intOf i).toNat)
  case atStart => exact ⟨0, 0, by omega, rfl, rfl, fun e he => by omega, fun _ => ⟨by omega, by omega, fun e he => by omega⟩, B0.out⟩
  case round =>
    obtain ⟨k, y, hk, rfl, rfl, h100, hcb, hb⟩ := hrel
    have H100 := Lib.hid h100
    have HCB := Lib.hid hcb
    have HB := Lib.hid hb
    clear h100 hcb hb
    have hnp20 : np ≤ 20 := HB0.out.1
    by_cases hlt : k < np
    · have hlt' : (k : Int) < (np : Int) := by omega
      obtain ⟨b', o', u, rfl, c0, c5⟩ := (HP.out.below (Nat.le_refl _) HB.out).at k (by have := NP.out; omega)
      obtain ⟨uo, uc, rfl⟩ := c5.shape
      obtain ⟨p, hpk⟩ : ∃ p, ps.getD k [] = p := ⟨_, rfl⟩
      have HPK := Lib.hid hpk
      rw [hpk] at c0 c5
      clear hpk
      obtain ⟨nm, hnm⟩ : ∃ n, p.length = n := ⟨_, rfl⟩
      rw [hnm] at c0 c5
      have NM := Lib.hid hnm
      have HO := Lib.hid c5
      clear c5 hnm
      by_cases hbig : 100 < nm
      · have d1 : decide (100 < nm) = true := decide_eq_true hbig
        have d1' : (100 : Int) < nm := by omega
        clear hbig
        go_wp2_with fail
        go_ret
        exact BIG.out _ HB.out
      have d1 : decide (100 < nm) = false := decide_eq_false hbig
      have d1' : ¬ (100 : Int) < nm := by omega
      have HM := Lib.hid (show nm ≤ 100 by omega)
      clear hbig
      go_wp2_with fail
      go_loopw [36, 3] (fun i nv wx => ∃ (j : Nat) (y' : Int), j ≤ nm ∧ i = .int .i64 j ∧ nv = .int .i64 y' ∧ (CsB bigC ps → 0 ≤ y' ∧ y' ≤ 3000 ∧ ∀ e, e < j → (p.getD e default).cs.length ≤ 3000) ∧ Below wr.heap.size wr wx) (fun i _ _ => nm - (intOf i).toNat)
      case atStart => exact ⟨0, y, by omega, rfl, rfl, fun h => ⟨(HCB.out h).1, (HCB.out h).2.1, fun e he => by omega⟩, Below.refl _ _⟩
      case round =>
        obtain ⟨j, y', hj, rfl, rfl, hcb', hb'⟩ := hrel
        have HCB2 := Lib.hid hcb'
        have HB2 := Lib.hid hb'
        clear hcb' hb'
        by_cases hjt : j < nm
        · have hjt' : (j : Int) < (nm : Int) := by omega
          obtain ⟨b2, o2, rfl, u, q0, q1, q2, q3, q4, q5⟩ := (HO.out.below (Nat.le_refl _) HB2.out).at j (by have := NM.out; omega)
          obtain ⟨e, he⟩ : ∃ e, p.getD j default = e := ⟨_, rfl⟩
          have HE := Lib.hid he
          rw [he] at q0 q1 q2 q4 q5
          clear he
          obtain ⟨ek, ea, eb, ecs, edf⟩ := e
          dsimp only at q0 q1 q2 q4 q5
          obtain ⟨vo, vc, rfl⟩ := q5.shape
          obtain ⟨y2, hy2⟩ : ∃ y2, IntKind.i64.wrap (y' + ecs.length) = y2 := ⟨_, rfl⟩
          have HY := Lib.hid hy2
          have B3 := Lib.hid (HB2.out.alloc HB2.out.size (.cells #[.int .i64 ek, .int .i64 ea, .int .i64 eb, .slice vo ecs.length vc, .bool edf] 48))
          clear q5
          by_cases hbig : 3000 < y2
          · have d2 : decide (3000 < y2) = true := decide_eq_true hbig
            clear hbig
            go_wp2_with fail
            go_ret
            exact BIG.out _ (HB.out.trans (B3.out.mono HB.out.size))
          · have d2 : decide (3000 < y2) = false := decide_eq_false hbig
            have FIN := Lib.hid (show CsB bigC ps → 0 ≤ y2 ∧ y2 ≤ 3000 ∧ ∀ e, e < j + 1 → (p.getD e default).cs.length ≤ 3000 from fun h => by
              obtain ⟨g1, g2, g3⟩ := HCB2.out h
              have g4 := h k (by have := NP.out; omega) j (by rw [HPK.out]; have := NM.out; omega)
              rw [HPK.out, HE.out] at g4
              dsimp only at g4
              unfold bigC at g4
              have g5 : IntKind.i64.wrap (y' + ecs.length) = y' + ecs.length := IntWalk.i64_in _ (by omega)
              have g6 := HY.out
              rw [g5] at g6
              refine ⟨by omega, by omega, fun e he => ?_⟩
              by_cases hej : e = j
              · subst hej
                rw [HE.out]
                show ecs.length ≤ 3000
                omega
              · exact g3 e (by omega))
            clear hbig
            go_wp2_with fail
            go_roundw
            case rel => exact ⟨j + 1, y2, by omega, by go_num, rfl, FIN.out, B3.out⟩
            case measure => simp [intOf] <;> omega
        · have ejn : nm = j := by omega
          subst ejn
          have FIN := Lib.hid (show CsB bigC ps → 0 ≤ y' ∧ y' ≤ 3000 ∧ ∀ e, e < k + 1 → ∀ j, j < (ps.getD e []).length → ((ps.getD e []).getD j default).cs.length ≤ 3000 from fun h => by
            obtain ⟨g1, g2, g3⟩ := HCB2.out h
            refine ⟨g1, g2, fun e he j hj => ?_⟩
            by_cases hek : e = k
            · subst hek
              rw [HPK.out] at hj ⊢
              exact g3 j (by have := NM.out; omega)
            · exact (HCB.out h).2.2 e (by omega) j hj)
          go_wp2_with fail
          go_roundw
          case rel => exact ⟨k + 1, y', by omega, by go_num, rfl, fun e he => by
            by_cases hek : e = k
            · subst hek; rw [HPK.out, NM.out]; exact HM.out
            · exact H100.out e (by omega), FIN.out, HB.out.trans (HB2.out.mono HB.out.size)⟩
          case measure => simp [intOf] <;> omega
    · obtain rfl : k = np := by omega
      have FIN := Lib.hid (show ∀ w', Below w.heap.size w w' → LargePost ⟨t, m, ps, pl, dr⟩ w (.returned (.bool false)) w' from fun w' hw' => ⟨false, rfl, fun _ => ⟨⟨by show ps.length ≤ 20; rw [NP.out]; exact HB0.out.1, by show pl.length ≤ 1000; rw [NL.out]; exact HB0.out.2.1, by show dr.length ≤ 1000; rw [ND.out]; exact HB0.out.2.2, fun e he => H100.out e (by rw [← NP.out]; exact he)⟩, fun h e he j hj => (HCB.out h).2.2 e (by rw [← NP.out]; exact he) j hj⟩, hw'⟩)
      go_wp2_with fail
      go_ret
      exact FIN.out _ HB.out
end Go.Proofs.Ytpefjcmaggimhaa
namespace Go.Proofs.Ytpefjcmaggimhaa
open Go.RowKit
set_option linter.unusedVariables false
set_option linter.unusedSimpArgs false
set_option maxRecDepth 100000

def LawPost (w : World) (r : Ending) (w' : World) : Prop := r = .returned (.bool true) ∧ Below w.heap.size w w'
def exO : Opn := ⟨9, 0, 0, [], false⟩
def exS : Scr := ⟨2, 9, [[exO]], [0, -1], []⟩
def exB : List UInt8 := [2, 9, 1, 1, 9, 2, 1, 0, 0]
theorem ex_enc : encS exS = exB := by decide +kernel
theorem ex_chk : chkS exS = 0 := by decide +kernel
theorem ex_dec : decX exB = some exS := by decide +kernel
def exP (n : Nat) : Value := .slice (some ⟨n + 1, 0, none⟩) 1 1
def exL (n : Nat) : Value := .slice (some ⟨n + 2, 0, none⟩) 2 2
def exW (w : World) : World :=
  (((w.alloc (.cells #[.int .i64 9, .int .i64 0, .int .i64 0, .slice none 0 0, .bool false] 48)).alloc (.cells #[.slice (some ⟨w.heap.size, 0, none⟩) 1 1] 45)).alloc (.cells #[.int .i64 0, .int .i64 (-1)] 3)).alloc
    (.cells #[.int .i64 2, .int .i64 9, .slice (some ⟨w.heap.size + 1, 0, none⟩) 1 1, .slice (some ⟨w.heap.size + 2, 0, none⟩) 2 2, .slice none 0 0] 25)
structure ExAt (w0 w : World) : Prop where
  box : w.heap[w0.heap.size + 3]? = some (.cells #[.int .i64 2, .int .i64 9, .slice (some ⟨w0.heap.size + 1, 0, none⟩) 1 1, .slice (some ⟨w0.heap.size + 2, 0, none⟩) 2 2, .slice none 0 0] 25 (0, 0))
  at' : ScrAt w (exP w0.heap.size) (exL w0.heap.size) (.slice none 0 0) exS
  bel : Below w0.heap.size w0 w
theorem ExAt.below {w0 w w' : World} (h : ExAt w0 w) (hB : Below w.heap.size w w') : ExAt w0 w' :=
  ⟨(hB.block _ (lt_of_heap h.box)).trans h.box, h.at'.below (Nat.le_refl _) hB, h.bel.trans (hB.mono h.bel.size)⟩
theorem exAt_new (w : World) : ExAt w (exW w) := by
  have s1 : (w.alloc (.cells #[.int .i64 9, .int .i64 0, .int .i64 0, .slice none 0 0, .bool false] 48)).heap.size = w.heap.size + 1 := World.size_alloc _ _
  have h0 : (exW w).heap[w.heap.size]? = some (.cells #[.int .i64 9, .int .i64 0, .int .i64 0, .slice none 0 0, .bool false] 48 (0, 0)) := by
    unfold exW
    rw [heap_alloc_old _ _ (by simp only [World.size_alloc]; omega), heap_alloc_old _ _ (by simp only [World.size_alloc]; omega), heap_alloc_old _ _ (by simp only [World.size_alloc]; omega)]
    exact heap_alloc_new _ _
  have h1 : (exW w).heap[w.heap.size + 1]? = some (.cells #[.slice (some ⟨w.heap.size, 0, none⟩) 1 1] 45 (0, 0)) := by
    unfold exW
    rw [heap_alloc_old _ _ (by simp only [World.size_alloc]; omega), heap_alloc_old _ _ (by simp only [World.size_alloc]; omega)]
    have := heap_alloc_new (w.alloc (.cells #[.int .i64 9, .int .i64 0, .int .i64 0, .slice none 0 0, .bool false] 48)) (.cells #[.slice (some ⟨w.heap.size, 0, none⟩) 1 1] 45)
    rw [World.size_alloc] at this
    exact this
  have h2 : (exW w).heap[w.heap.size + 2]? = some (.cells #[.int .i64 0, .int .i64 (-1)] 3 (0, 0)) := by
    unfold exW
    rw [heap_alloc_old _ _ (by simp only [World.size_alloc]; omega)]
    have := heap_alloc_new ((w.alloc (.cells #[.int .i64 9, .int .i64 0, .int .i64 0, .slice none 0 0, .bool false] 48)).alloc (.cells #[.slice (some ⟨w.heap.size, 0, none⟩) 1 1] 45)) (.cells #[.int .i64 0, .int .i64 (-1)] 3)
    rw [World.size_alloc, World.size_alloc] at this
    exact this
  have h3 : (exW w).heap[w.heap.size + 3]? = some (.cells #[.int .i64 2, .int .i64 9, .slice (some ⟨w.heap.size + 1, 0, none⟩) 1 1, .slice (some ⟨w.heap.size + 2, 0, none⟩) 2 2, .slice none 0 0] 25 (0, 0)) := by
    unfold exW
    have := heap_alloc_new (((w.alloc (.cells #[.int .i64 9, .int .i64 0, .int .i64 0, .slice none 0 0, .bool false] 48)).alloc (.cells #[.slice (some ⟨w.heap.size, 0, none⟩) 1 1] 45)).alloc (.cells #[.int .i64 0, .int .i64 (-1)] 3)) (.cells #[.int .i64 2, .int .i64 9, .slice (some ⟨w.heap.size + 1, 0, none⟩) 1 1, .slice (some ⟨w.heap.size + 2, 0, none⟩) 2 2, .slice none 0 0] 25)
    rw [World.size_alloc, World.size_alloc, World.size_alloc] at this
    exact this
  refine ⟨h3, ⟨?_, ?_, ⟨none, 0, rfl, fun h => by simp [exS] at h⟩⟩, ?_⟩
  · refine ⟨_, _, rfl, fun _ => ⟨w.heap.size + 1, 0, rfl, fun i hi => ?_⟩⟩
    obtain rfl : i = 0 := by
      have : i < 1 := hi
      omega
    refine ⟨.slice (some ⟨w.heap.size, 0, none⟩) 1 1, by simp [World.cell?, h1], ⟨_, _, rfl, fun _ => ⟨w.heap.size, 0, rfl, fun j hj => ?_⟩⟩⟩
    obtain rfl : j = 0 := by
      have : j < 1 := hj
      omega
    exact ⟨.slice none 0 0, by simp [World.cell?, h0]; rfl, by simp [World.cell?, h0]; rfl, by simp [World.cell?, h0]; rfl, by simp [World.cell?, h0], by simp [World.cell?, h0]; rfl, CssOf.nil _⟩
  · refine ⟨_, _, rfl, fun _ => ⟨w.heap.size + 2, 0, rfl, fun i hi => ?_⟩⟩
    have hi' : i < 2 := hi
    match i, hi' with
    | 0, _ => simp [World.cell?, h2]; rfl
    | 1, _ => simp [World.cell?, h2]; rfl
  · exact ((((Below.refl _ _).alloc (Nat.le_refl _) _).alloc (by simp only [World.size_alloc]; omega) _).alloc (by simp only [World.size_alloc]; omega) _).alloc (by simp only [World.size_alloc]; omega) _
theorem ex_small : ScrN exS ∧ CsN exS.ps ∧ SzS exS := by
  have h : Small exS := ⟨by decide, by decide, by decide, fun k hk => by
    have : k < 1 := hk
    obtain rfl : k = 0 := by omega
    decide⟩
  have hc : CsB 3000 exS.ps := fun k hk j hj => by
    have : k < 1 := hk
    obtain rfl : k = 0 := by omega
    have : j < 1 := hj
    obtain rfl : j = 0 := by omega
    decide
  exact ⟨h.scrN, csB_csN hc (by decide), h.szS hc⟩
theorem run_script_field (x0 x1 x2 x3 x4 : Value) (w : World) : (Instr.field 25 (.agg #[x0, x1, x2, x3, x4]) 3).run Try.prog w = .ok x3 w := by kernel_rfl
set_option maxHeartbeats 2000000 in
theorem exits_any (w : World) : Calls Try.prog 9 #[] w (LawPost w) := by
  obtain ⟨N1, N2, N3⟩ := ex_small
  have EX := Lib.hid (exAt_new w)
  have EN : Hid (∀ W, ExAt w W → Calls Try.prog 10 #[.agg #[.int .i64 2, .int .i64 9, .slice (some ⟨w.heap.size + 1, 0, none⟩) 1 1, .slice (some ⟨w.heap.size + 2, 0, none⟩) 2 2, .slice none 0 0]] W fun r w' => r = .returned (.tuple #[.string ⟨#[2, 9, 1, 1, 9, 2, 1, 0, 0]⟩, .int .i64 0]) ∧ Below W.heap.size W w') := Lib.hid (fun W hW => by
    have h := sencode_any _ _ _ exS W hW.at' N1
    rw [ex_enc, ex_chk] at h
    exact h)
  have DE : Hid (∀ W, Calls Try.prog 14 #[.string ⟨#[2, 9, 1, 1, 9, 2, 1, 0, 0]⟩] W fun r w' => ∃ vp vl vd, r = .returned (.tuple #[.agg #[.int .i64 2, .int .i64 9, vp, vl, vd], .int .i64 0]) ∧ ScrAt w' vp vl vd exS ∧ Below W.heap.size W w') := Lib.hid (fun W => by
    have h := sdecode_any exB W (by decide)
    rw [ex_dec] at h
    exact h)
  have SC : Hid (∀ W ap al ad, ScrAt W ap al ad exS → ExAt w W → Calls Try.prog 16 #[.agg #[.int .i64 2, .int .i64 9, ap, al, ad], .agg #[.int .i64 2, .int .i64 9, .slice (some ⟨w.heap.size + 1, 0, none⟩) 1 1, .slice (some ⟨w.heap.size + 2, 0, none⟩) 2 2, .slice none 0 0]] W fun r w' => r = .returned (.bool true) ∧ Below W.heap.size W w') := Lib.hid (fun W ap al ad h hW => by
    have h := script_any ap al ad _ _ _ exS exS W h hW.at' N1 N1 N2
    rw [decide_eq_true rfl] at h
    exact h)
  have BA : Hid (∀ W, ExAt w W → Calls Try.prog 18 #[.agg #[.int .i64 2, .int .i64 9, .slice (some ⟨w.heap.size + 1, 0, none⟩) 1 1, .slice (some ⟨w.heap.size + 2, 0, none⟩) 2 2, .slice none 0 0]] W fun r w' => ∃ vp a c vd, r = .returned (.agg #[.int .i64 2, .int .i64 9, vp, .slice a 1 c, vd]) ∧ Below W.heap.size W w') := Lib.hid (fun W hW => by
    refine (bareS_any _ _ _ exS W hW.at' N3).mono ?_
    rintro r w' ⟨vp, vl, vd, qs, rfl, hs, hB⟩
    obtain ⟨a, c, e⟩ := owns_slice hs.l
    have h1 : (barS exS).pl.length = 1 := by decide +kernel
    rw [h1] at e
    subst e
    exact ⟨vp, a, c, vd, rfl, hB⟩)
  clear N1 N2 N3
  unfold exW at EX
  have rf := run_script_field
  have q : ((⟨#[2, 9, 1, 1, 9, 2, 1, 0, 0]⟩ : ByteArray) == ⟨#[2, 9, 1, 1, 9, 2, 1, 0, 0]⟩) = true := by decide +kernel
  go_enter Try.func9, Try.ntmps9
  go_wp2_with fail
  refine (EN.out _ EX.out).mono ?_
  rintro r w1 ⟨rfl, hB1⟩
  have E1 := Lib.hid (EX.out.below hB1)
  clear hB1 EX EN
  go_wp2_with fail
  refine (DE.out _).mono ?_
  rintro r w2 ⟨vp, vl, vd, rfl, hs, hB2⟩
  obtain ⟨a1, c1, rfl⟩ := hs.p.shape
  obtain ⟨a2, c2, rfl⟩ := slI_shape hs.l
  obtain ⟨a3, c3, rfl⟩ := slI_shape hs.d
  have E2 := Lib.hid (E1.out.below hB2)
  have S2 := Lib.hid hs
  have B3 := Lib.hid (below1 w2 (.cells #[.int .i64 2, .int .i64 9, .slice a1 exS.ps.length c1, .slice a2 exS.pl.length c2, .slice a3 exS.dr.length c3] 25))
  have E3 := Lib.hid (E2.out.below B3.out)
  have S3 := Lib.hid (S2.out.below (Nat.le_refl _) B3.out)
  clear hs hB2 E1
  obtain ⟨z0, z1, z2, z3, z4⟩ := five_cells E3.out.box
  go_wp2_with fail
  refine (SC.out _ _ _ _ S3.out E3.out).mono ?_
  rintro r w4 ⟨rfl, hB4⟩
  have E4 := Lib.hid (E3.out.below hB4)
  clear hB4 z0 z1 z2 z3 z4
  obtain ⟨z0, z1, z2, z3, z4⟩ := five_cells E4.out.box
  go_wp2_with fail
  refine (BA.out _ E4.out).mono ?_
  rintro r w5 ⟨vp, a, c, vd, rfl, hB5⟩
  have E5 := Lib.hid (E4.out.below hB5)
  clear hB5
  go_wp2_with fail
  go_ret
  exact ⟨rfl, E5.out.bel⟩
end Go.Proofs.Ytpefjcmaggimhaa

