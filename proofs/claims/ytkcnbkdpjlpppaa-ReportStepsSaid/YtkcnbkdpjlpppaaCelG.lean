
/-
  Package cell: Read.
-/
import Derived.Test.YtkcnbkdpjlpppaaCelF
namespace Go.Proofs.Ytkcnbkdpjlpppaa
open Go.RowKit
set_option linter.unusedVariables false
set_option linter.unusedSimpArgs false
set_option maxRecDepth 100000

def keptL (l : List Int) (e : Int) (f : Int → Int) : List Int := l.filter (fun x => !knownB x e f)
def insL (m : List Int) (e : Int) : List Int := m.take (posOf m (tidE e)) ++ [e] ++ m.drop (posOf m (tidE e))
def readL (l : List Int) (e : Int) (f : Int → Int) : List Int := insL (keptL l e f) e
theorem insL_len (m : List Int) (e : Int) : (insL m e).length = m.length + 1 := by
  have := pos_le m (tidE e)
  unfold insL
  simp only [List.length_append, List.length_take, List.length_drop, List.length_cons, List.length_nil]; omega
theorem srt_filter {l : List Int} (h : SrtE l) (p : Int → Bool) : SrtE (l.filter p) := by
  have h1 : l.Pairwise (fun a b => tidE a < tidE b) := by
    rw [List.pairwise_iff_getElem]
    intro i j hi hj hij
    have := h i j hij hj
    unfold tAt at this
    rw [List.getD_eq_getElem?_getD, List.getD_eq_getElem?_getD, List.getElem?_eq_getElem hi, List.getElem?_eq_getElem hj] at this
    exact this
  have h2 := h1.filter p
  intro a b hab hb
  have := (List.pairwise_iff_getElem.1 h2) a b (by omega) hb hab
  unfold tAt
  rw [List.getD_eq_getElem?_getD, List.getD_eq_getElem?_getD, List.getElem?_eq_getElem (by omega), List.getElem?_eq_getElem hb]
  exact this

/-- What Read answers, and what has turned. -/
def CReadPost (B b : Nat) (x : Int) (l : List Int) (tl : Bool) (e : Int) (f : Int → Int) (w : World) (r : Ending) (w' : World) : Prop :=
  r = .returned (.tuple #[.int .i64 (if knownB x e f then 0 else 1), .int .i64 0]) ∧ Turned (fun i => i = b) w w' ∧ ∃ v', Cl B w' b v' x (readL l e f) tl

/-- Two boxes. -/
theorem two_boxes {w W : World} {x y : Value} {s t : TypeId} (hW : (w.alloc (.cells #[x] s)).alloc (.cells #[y] t) = W) : Below w.heap.size w W ∧ W.cell? ⟨w.heap.size, 0, none⟩ = some x ∧ W.cell? ⟨w.heap.size + 1, 0, none⟩ = some y ∧ W.heap.size = w.heap.size + 2 := by
  subst hW
  refine ⟨((Below.refl _ _).alloc (Nat.le_refl _) _).alloc (by rw [size_alloc]; omega) _, ?_, ?_, by rw [size_alloc, size_alloc]⟩
  · have : ((w.alloc (.cells #[x] s)).alloc (.cells #[y] t)).heap[w.heap.size]? = some (.cells #[x] s (0, 0)) := by rw [heap_alloc_old _ _ (by rw [size_alloc]; omega)]; exact heap_alloc_new w _
    simp only [World.cell?, this]; rfl
  · have : ((w.alloc (.cells #[x] s)).alloc (.cells #[y] t)).heap[w.heap.size + 1]? = some (.cells #[y] t (0, 0)) := by have := heap_alloc_new (w.alloc (.cells #[x] s)) (.cells #[y] t); rwa [size_alloc] at this
    simp only [World.cell?, this]; rfl

theorem cread_bad (v : Value) (ac : Option Addr) (e : Int) (w : World) (h : U64 e) (hk : okE e = false) : Calls Try.prog 23 #[v, .int .u64 e, .pointer ac] w fun r w' => r = .returned (.tuple #[.int .i64 0, .int .i64 1]) ∧ Below w.heap.size w w' := by
  obtain ⟨W, hW⟩ : ∃ W, (w.alloc (.cells #[.int .u64 e] 25)).alloc (.cells #[.pointer ac] 52) = W := ⟨_, rfl⟩
  have TB := Lib.hid (two_boxes hW)
  have HW := Lib.hid hW
  clear hW
  go_enter Try.func23, Try.ntmps23
  go_wp2_with fail
  rw [HW.out]
  refine (wrong_bad v e W h hk).mono ?_
  rintro r w' ⟨rfl, rfl⟩
  go_wp2_with fail
  go_ret2
  exact ⟨rfl, TB.out.1⟩
theorem cread_nil (ac : Option Addr) (e : Int) (w : World) (h : U64 e) (hk : okE e = true) : Calls Try.prog 23 #[.pointer none, .int .u64 e, .pointer ac] w fun r w' => r = .returned (.tuple #[.int .i64 0, .int .i64 7]) ∧ Below w.heap.size w w' := by
  obtain ⟨W, hW⟩ : ∃ W, (w.alloc (.cells #[.int .u64 e] 25)).alloc (.cells #[.pointer ac] 52) = W := ⟨_, rfl⟩
  have TB := Lib.hid (two_boxes hW)
  have HW := Lib.hid hW
  clear hW
  go_enter Try.func23, Try.ntmps23
  go_wp2_with fail
  rw [HW.out]
  refine (wrong_nil e W h hk).mono ?_
  rintro r w' ⟨rfl, rfl⟩
  go_wp2_with fail
  go_ret2
  exact ⟨rfl, TB.out.1⟩

/-- A cell whose slice is set anew. -/
theorem cl_put {B C : Nat} {w w' : World} {b : Nat} {v v' : Value} {x : Int} {l l' : List Int} {tl : Bool} (h : Cl B w b v x l tl) (hC : C = w.heap.size) (hB : B ≤ C) (hb : Below C w w')
    (hr : w'.ownsRow C 25 1 v' l'.length (eps l')) : Cl B (w'.setCell ⟨b, 1, none⟩ v') b v' x l' tl ∧ (w'.setCell ⟨b, 1, none⟩ v').ownsRow C 25 1 v' l'.length (eps l') ∧ Turned (fun i => i = b) w (w'.setCell ⟨b, 1, none⟩ v') ∧ w'.cell? ⟨b, 1, none⟩ = some v ∧ w'.frozen? ⟨b, 1, none⟩ = false := by
  subst hC
  have hbk := (hb.block b h.lt).trans h.blk
  have hbl := h.lt
  have k : (w'.setCell ⟨b, 1, none⟩ v').ownsRow w.heap.size 25 1 v' l'.length (eps l') := by
    refine ⟨hr.1, ?_⟩
    rcases hr.2 with h2 | ⟨g, cap, cur, rfl, hbg, hg, h3⟩
    · exact .inl h2
    · exact .inr ⟨g, cap, cur, rfl, hbg, (heap_setCell_other w' ⟨b, 1, none⟩ g _ (by show g ≠ b; omega)).trans hg, h3⟩
  refine ⟨⟨heap_setCell_same w' b 1 _ _ v' hbk, h.low, ?_⟩, k, ⟨hb.os, hb.tape, hb.output, Nat.le_trans hb.size (by simp [World.setCell]), fun i hi hne => (heap_setCell_other w' ⟨b, 1, none⟩ i v' hne).trans (hb.block i hi)⟩, by simp only [World.cell?, hbk]; rfl, by simp [World.frozen?, hbk]⟩
  refine ⟨k.1, ?_⟩
  rcases k.2 with h2 | ⟨g, cap, cur, rfl, hbg, hg, h3⟩
  · exact .inl h2
  · exact .inr ⟨g, cap, cur, rfl, by omega, hg, h3⟩
theorem turned_cell {S : Nat → Prop} {w w' : World} (h : Turned S w w') {p : Addr} (hp : p.block < w.heap.size) (hs : ¬ S p.block) : w'.cell? p = w.cell? p := World.cell?_of_block (h.block _ hp hs)
/-- The clock is of other blocks. -/
def CkN (b : Nat) (w : World) (cv : Value) (f : Int → Int) : Prop := ∀ w', Turned (fun i => i = b) w w' → CkV w' cv f

theorem ins_done {B C : Nat} {W w4 w6 : World} {b : Nat} {v3 v6 : Value} {x : Int} {m l' : List Int} {tl : Bool} {o : Obj} (h1 : Cl B w4 b v3 x m tl) (h2 : w4.ownsRow C 25 1 v3 m.length (eps m)) (h3 : Turned (fun i => i = b) W w4) (hC : C = W.heap.size) (hb : b < C) (hB : B ≤ C)
    (h6 : w6.ownsRow C 25 1 v6 (m.length + 1) (eps l')) (hl : l'.length = m.length + 1) (hg : (w4.alloc o).grownBy w6 v3.ownBlock) :
    w6.cell? ⟨b, 1, none⟩ = some v3 ∧ w6.frozen? ⟨b, 1, none⟩ = false ∧ Cl B (w6.setCell ⟨b, 1, none⟩ v6) b v6 x l' tl ∧ Turned (fun i => i = b) W (w6.setCell ⟨b, 1, none⟩ v6) := by
  subst hC
  have hlt := h1.lt
  have hown : some b ≠ v3.ownBlock := fun e => by have := (h2.lt b e.symm).1; omega
  have hbk : w6.heap[b]? = some (.cells #[.int .u64 x, v3, .bool tl] 97 (0, 0)) :=
    (hg.block b (by rw [size_alloc]; omega) hown).trans ((heap_alloc_old w4 _ hlt).trans h1.blk)
  refine ⟨by simp only [World.cell?, hbk]; rfl, by simp [World.frozen?, hbk], ⟨heap_setCell_same w6 b 1 _ _ v6 hbk, h1.low, ?_⟩, ?_⟩
  · rw [hl]
    refine ⟨h6.1, ?_⟩
    rcases h6.2 with ⟨_, h0⟩ | ⟨g, cap, cur, rfl, hbg, hg6, h7⟩
    · omega
    · exact .inr ⟨g, cap, cur, rfl, by omega, (heap_setCell_other w6 ⟨b, 1, none⟩ g _ (by show g ≠ b; omega)).trans hg6, h7⟩
  · refine ⟨hg.os.trans h3.os, hg.tape.trans h3.tape, hg.output.trans h3.output, ?_, fun i hi hne => ?_⟩
    · have := hg.size
      rw [size_alloc] at this
      have h4 := h3.size
      simp [World.setCell]
      omega
    · refine (heap_setCell_other w6 ⟨b, 1, none⟩ i v6 hne).trans ((hg.block i (by rw [size_alloc]; have := h3.size; omega) (fun e => ?_)).trans ((heap_alloc_old w4 _ (by have := h3.size; omega)).trans (h3.block i hi hne)))
      have := (h2.lt i e.symm).1
      omega

def InsDone (B b : Nat) (W : World) (v3 : Value) (n : Nat) (x : Int) (l' : List Int) (tl : Bool) (r : Ending) (w6 : World) : Prop :=
  ∃ a6 p6, r = .returned (.slice a6 n p6) ∧ w6.cell? ⟨b, 1, none⟩ = some v3 ∧ w6.frozen? ⟨b, 1, none⟩ = false ∧ Cl B (w6.setCell ⟨b, 1, none⟩ (.slice a6 n p6)) b (.slice a6 n p6) x l' tl ∧ Turned (fun i => i = b) W (w6.setCell ⟨b, 1, none⟩ (.slice a6 n p6))
set_option maxHeartbeats 2000000 in
theorem cread_any (B b : Nat) (v : Value) (x : Int) (l : List Int) (tl : Bool) (e : Int) (cv : Value) (f : Int → Int) (w : World) (h : Cl B w b v x l tl) (hk : OkC x l) (hB : B ≤ w.heap.size) (he : okE e = true) (hc : CkN b w cv f) :
    Calls Try.prog 23 #[.pointer (some ⟨b, 0, none⟩), .int .u64 e, cv] w (CReadPost B b x l tl e f w) := by
  obtain ⟨ac, rfl⟩ : ∃ ac, cv = .pointer ac := by
    rcases hc w (Turned.refl _ _) with ⟨h, _⟩ | ⟨_, _, h, _⟩
    · exact ⟨_, h⟩
    · exact ⟨_, h⟩
  obtain ⟨W, hW⟩ : ∃ W, (w.alloc (.cells #[.int .u64 e] 25)).alloc (.cells #[.pointer ac] 52) = W := ⟨_, rfl⟩
  obtain ⟨hBW, hq1, hq2, hsz⟩ := two_boxes hW
  have hbl := h.lt
  have H := Lib.hid (h.below hBW)
  have CK := Lib.hid (show ∀ w', Turned (fun i => i = b) W w' → CkV w' (.pointer ac) f from fun w' ht => hc w' ((turned_below hBW).trans ht (fun _ _ h => h) (fun _ _ h => h)))
  have UE := Lib.hid (okE_u64 he)
  have OC := Lib.hid hk
  have SZ := Lib.hid hsz
  have BW := Lib.hid hBW
  have Q1 := Lib.hid hq1
  have Q2 := Lib.hid hq2
  have HE := Lib.hid he
  have c1 : ((w.alloc (.cells #[.int .u64 e] 25)).alloc (.cells #[.pointer ac] 52)).cell? ⟨b, 1, none⟩ = some v := by rw [hW]; exact (h.below hBW).cells.2.1
  have HW := Lib.hid hW
  have hN : l.length ≤ 1000 := Nat.le_trans hk.len (by decide)
  clear hW hBW hq1 hq2 hsz hc hk h he
  go_enter Try.func23, Try.ntmps23
  go_wp2_with fail
  rw [HW.out]
  refine (wrong_ok _ e W UE.out HE.out).mono ?_
  rintro r w' ⟨rfl, rfl⟩
  rw [HW.out] at c1
  go_wp2_with fail
  refine (clone_eps v l W H.out.eps hN).mono ?_
  rintro r w2 ⟨v2, rfl, hr2, hb2⟩
  have R2 := Lib.hid hr2
  have B2 := Lib.hid hb2
  obtain ⟨a2, p2, rfl, _⟩ := eps_of_owns hr2
  clear hr2 hb2
  go_wp2_with fail
  have q1w : ∀ w', Below W.heap.size W w' → w'.cell? ⟨w.heap.size, 0, none⟩ = some (.int .u64 e) ∧ w'.cell? ⟨w.heap.size + 1, 0, none⟩ = some (.pointer ac) := fun w' hx =>
    ⟨(hx.cell (p := ⟨w.heap.size, 0, none⟩) (by rw [SZ.out]; show w.heap.size < _; omega)).trans Q1.out, (hx.cell (p := ⟨w.heap.size + 1, 0, none⟩) (by rw [SZ.out]; show w.heap.size + 1 < _; omega)).trans Q2.out⟩
  have QW := Lib.hid q1w
  clear q1w
  refine (delete_read W.heap.size l (fun y => knownB y e f) (fun _ w' => Below W.heap.size W w') w.heap.size (w.heap.size + 1) (.slice a2 l.length p2) l.length w2 rfl hN R2.out
    (fun j w' hj hi => (read1_any (l.getD j 0) e _ _ (.pointer ac) f w' (okE_u64 (u64_at OC.out.ok hj)) UE.out (CK.out w' (turned_below hi)) (QW.out w' hi).1 (QW.out w' hi).2).mono (fun r w'' hh => ⟨hh.1, by rw [← hh.2]; exact hi, fun g _ => by rw [← hh.2]⟩))
    (fun j w' w'' g hg hi ht => ⟨ht.os.trans hi.os, ht.tape.trans hi.tape, ht.output.trans hi.output, Nat.le_trans hi.size ht.size, fun k hk => (ht.block k (Nat.lt_of_lt_of_le hk hi.size) (by
      intro hkg
      have := (R2.out.lt g hg).1
      have hkg' : k = g := hkg
      omega)).trans (hi.block k hk)⟩) B2.out).mono ?_
  rintro r w3 ⟨v3, rfl, hr3, _, hb3⟩
  obtain ⟨m, hm⟩ : ∃ m, keptL l e f = m := ⟨_, rfl⟩
  have hr3' : w3.ownsRow W.heap.size 25 1 v3 m.length (eps m) := by rw [← hm]; exact hr3
  have hms : SrtE m := by rw [← hm]; exact srt_filter OC.out.srt _
  have hmo : ∀ y, y ∈ m → okE y = true := by
    rw [← hm]
    intro y hy
    exact OC.out.ok y (List.mem_filter.1 hy).1
  have hml : m.length ≤ 256 := by rw [← hm]; exact Nat.le_trans (List.length_filter_le _ _) OC.out.len
  have hSB : W.heap.size = w.heap.size + 2 := SZ.out
  obtain ⟨k1, k2, k3, k4, k5⟩ := cl_put H.out rfl (by omega) hb3 hr3'
  obtain ⟨a3, p3, rfl, _⟩ := eps_of_owns hr3'
  have MS := Lib.hid hms
  have MO := Lib.hid hmo
  have MM := Lib.hid hm
  clear hr3 hb3 hr3' hms hmo hm B2 R2
  go_wp2_with fail
  have K1 := Lib.hid k1
  have K2 := Lib.hid k2
  have K3 := Lib.hid k3
  obtain ⟨w4, hw4⟩ : ∃ w4, w3.setCell ⟨b, 1, none⟩ (.slice a3 m.length p3) = w4 := ⟨_, rfl⟩
  rw [hw4] at K1 K2 K3 ⊢
  obtain ⟨d0, d1, d2⟩ := K1.out.cells
  have OTH := Lib.hid (show ∀ o, o < W.heap.size → o ≠ b → w4.cell? ⟨o, 0, none⟩ = W.cell? ⟨o, 0, none⟩ from fun o h1 h2 => turned_cell K3.out (p := ⟨o, 0, none⟩) h1 h2)
  have e1 : w4.cell? ⟨w.heap.size, 0, none⟩ = some (.int .u64 e) := (OTH.out _ (by omega) (by omega)).trans Q1.out
  have e2 : w4.cell? ⟨w.heap.size + 1, 0, none⟩ = some (.pointer ac) := (OTH.out _ (by omega) (by omega)).trans Q2.out
  have SE := Lib.hid (search_any (.slice a3 m.length p3) m e w4.drew (eps_of_owns (K2.out)) MS.out (by omega) UE.out MO.out)
  clear k1 k2 k3 k4 k5 hw4
  go_region_held3 (fun w' => w'.cell? ⟨b, 1, none⟩ = some (.slice a3 m.length p3) ∧ w'.cell? ⟨w.heap.size, 0, none⟩ = some (.int .u64 e)) (go_keep)
    (first | (go_at_call 39; (with_reducible refine SE.out.mono ?_); rintro r w5 ⟨rfl, rfl⟩))
  have INS := Lib.hid (show Calls Try.prog 42 #[.slice a3 m.length p3, .int .i64 (posOf m (tidE e)), .slice (some ⟨w4.heap.size, 0, none⟩) 1 1] (w4.alloc (.cells #[.int .u64 e] 25)).drew.drew (InsPost W.heap.size (.slice a3 m.length p3) m.length (posOf m (tidE e)) m e (w4.drew.drew.alloc (.cells #[.int .u64 e] 25))) from insert_any W.heap.size (posOf m (tidE e)) m.length (.slice a3 m.length p3) m e w4.drew.drew rfl (show w4.drew.drew.ownsRow _ _ _ _ _ _ from K2.out) (show W.heap.size ≤ w4.heap.size from K3.out.size) (pos_le _ _) (by omega))
  have hil : (insL m e).length = m.length + 1 := insL_len m e
  have IL := Lib.hid hil
  clear hil SE
  go_wp2_with fail
  have INT := Lib.hid (INS.out.mono (fun r w6 ⟨v6, hr, hr6, hg6⟩ => show InsDone B b W (.slice a3 m.length p3) (m.length + 1) x (insL m e) tl r w6 from by
    obtain ⟨f1, f2, f3, f4⟩ := ins_done (l' := insL m e) (W := W) (w4 := w4.drew.drew) ⟨K1.out.blk, K1.out.low, K1.out.row⟩ K2.out ⟨K3.out.os, K3.out.tape, K3.out.output, K3.out.size, K3.out.block⟩ rfl (by omega) (by omega) hr6 IL.out hg6
    obtain ⟨a6, p6, rfl, hsh6⟩ := eps_of_owns f3.row
    rw [IL.out] at hr f3 f4
    exact ⟨a6, p6, hr, f1, f2, f3, f4⟩))
  clear INS
  have n1 : b ≠ w4.heap.size := by have := K1.out.lt; omega
  have n2 : w.heap.size ≠ w4.heap.size := by have := K3.out.size; omega
  have n3 : w.heap.size + 1 ≠ w4.heap.size := by have := K3.out.size; omega
  have n1' : w4.heap.size ≠ b := Ne.symm n1
  have n2' : w4.heap.size ≠ w.heap.size := Ne.symm n2
  have a1 : (w4.alloc (.cells #[.int .u64 e] 25)).cell? ⟨b, 1, none⟩ = some (.slice a3 m.length p3) := (World.cell?_of_block (heap_alloc_old w4 _ K1.out.lt)).trans d1
  go_region_with (first | (go_at_call 42; (with_reducible refine INT.out.mono ?_); rintro r w6 ⟨a6, p6, rfl, f1, f2, hF⟩; have F := Lib.hid hF; clear hF))
  all_goals
    obtain ⟨g1, g2⟩ := F.out
    have G1 := Lib.hid g1
    have G2 := Lib.hid g2
    obtain ⟨W7, hW7⟩ : ∃ W7, w6.setCell ⟨b, 1, none⟩ (.slice a6 (m.length + 1) p6) = W7 := ⟨_, rfl⟩
    rw [hW7] at G1 G2 ⊢
    obtain ⟨h0, h1, h2⟩ := G1.out.cells
    have k1 : W7.cell? ⟨w.heap.size, 0, none⟩ = some (.int .u64 e) := (turned_cell G2.out (p := ⟨w.heap.size, 0, none⟩) (by rw [SZ.out]; show w.heap.size < _; omega) (by show w.heap.size ≠ b; omega)).trans Q1.out
    have k2 : W7.cell? ⟨w.heap.size + 1, 0, none⟩ = some (.pointer ac) := (turned_cell G2.out (p := ⟨w.heap.size + 1, 0, none⟩) (by rw [SZ.out]; show w.heap.size + 1 < _; omega) (by show w.heap.size + 1 ≠ b; omega)).trans Q2.out
    have KN := Lib.hid (known_any x e (.pointer ac) f W7.drew OC.out.u UE.out (CK.out W7.drew ⟨G2.out.os, G2.out.tape, G2.out.output, G2.out.size, G2.out.block⟩))
    have T := Lib.hid (show Turned (fun i => i = b) w W7.drew ∧ ∃ v', Cl B W7.drew b v' x (readL l e f) tl from ⟨((turned_below BW.out).trans G2.out (fun _ _ h => h) (fun _ _ h => h)).trans ⟨rfl, rfl, rfl, Nat.le_refl _, fun _ _ _ => rfl⟩ (fun _ _ h => h) (fun _ _ h => h), _, by unfold readL; rw [MM.out]; exact ⟨G1.out.blk, G1.out.low, G1.out.row⟩⟩)
    clear F f1 f2 g1 g2 hW7
    go_wp2_with fail
    obtain ⟨y, hy⟩ : ∃ y, knownB x e f = y := ⟨_, rfl⟩
    rw [hy] at KN
    have HY := Lib.hid hy
    clear hy
    go_region_held3 (fun w' => w'.cell? ⟨b, 0, none⟩ = some (.int .u64 x) ∧ w'.cell? ⟨w.heap.size, 0, none⟩ = some (.int .u64 e) ∧ w'.cell? ⟨w.heap.size + 1, 0, none⟩ = some (.pointer ac)) (go_keep)
      (first | (go_at_call 38; (with_reducible refine KN.out.mono ?_); rintro r w8 ⟨rfl, rfl⟩))
    cases y with
    | true =>
      go_wp2_with fail
      go_ret2
      exact ⟨by rw [HY.out]; rfl, T.out⟩
    | false =>
      go_wp2_with fail
      go_ret2
      exact ⟨by rw [HY.out]; rfl, T.out⟩
end Go.Proofs.Ytkcnbkdpjlpppaa

