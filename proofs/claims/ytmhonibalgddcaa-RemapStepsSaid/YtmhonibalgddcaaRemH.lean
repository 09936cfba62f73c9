
/-
  Package remap: Gone.
-/
import Derived.Test.YtmhonibalgddcaaRemG
namespace Go.Proofs.Ytmhonibalgddcaa
open Go.RowKit
set_option linter.unusedVariables false
set_option linter.unusedSimpArgs false
set_option maxRecDepth 100000

def badC (at' cut : Int) : Bool := decide (at' < -1) || decide (cut < 0) || decide (1048576 < cut)
theorem badc_cases (at' cut : Int) : (badC at' cut = true ∧ (at' < -1 ∨ (-1 ≤ at' ∧ cut < 0) ∨ (-1 ≤ at' ∧ 0 ≤ cut ∧ 1048576 < cut))) ∨ (badC at' cut = false ∧ -1 ≤ at' ∧ 0 ≤ cut ∧ cut ≤ 1048576) := by
  unfold badC
  by_cases h1 : at' < -1
  · exact .inl ⟨by simp [h1], .inl h1⟩
  · by_cases h2 : cut < 0
    · exact .inl ⟨by simp [h2], .inr (.inl ⟨by omega, h2⟩)⟩
    · by_cases h3 : 1048576 < cut
      · exact .inl ⟨by simp [h3], .inr (.inr ⟨by omega, by omega, h3⟩)⟩
      · exact .inr ⟨by simp [h1, h2, h3], by omega, by omega, by omega⟩
def goneR (r : Rec) (at' cut : Int) : Rec := ⟨r.g, r.tid, r.frm, true, at', cut⟩
def goneE (rs : List Rec) (g at' cut : Int) : Int := if badC at' cut then 1 else match look rs g with | none => 6 | some r => if r.gone || decide (at' < r.frm) then 7 else 0
theorem gone_bad {rs : List Rec} {g at' cut : Int} (h : badC at' cut = true) : goneE rs g at' cut = 1 := by unfold goneE; rw [if_pos h]
theorem gone_none {rs : List Rec} {g at' cut : Int} (h : badC at' cut = false) (h2 : look rs g = none) : goneE rs g at' cut = 6 := by unfold goneE; rw [if_neg (by simp [h]), h2]
theorem gone_no {rs : List Rec} {g at' cut : Int} {r : Rec} (h : badC at' cut = false) (h2 : look rs g = some r) (h3 : (r.gone || decide (at' < r.frm)) = true) : goneE rs g at' cut = 7 := by unfold goneE; rw [if_neg (by simp [h]), h2]; simp only; rw [if_pos h3]
theorem gone_ok {rs : List Rec} {g at' cut : Int} {r : Rec} (h : badC at' cut = false) (h2 : look rs g = some r) (h3 : (r.gone || decide (at' < r.frm)) = false) : goneE rs g at' cut = 0 := by unfold goneE; rw [if_neg (by simp [h]), h2]; simp only; rw [if_neg (by simp [h3])]

def GoneTo (rs rs' : List Rec) (g at' cut : Int) : Prop := ∃ r a c, look rs g = some r ∧ rs = a ++ r :: c ∧ rs' = a ++ goneR r at' cut :: c
def GonePost (B b : Nat) (v : Value) (rs : List Rec) (g at' cut : Int) (w : World) (e : Ending) (w' : World) : Prop :=
  e = .returned (.int .i64 (goneE rs g at' cut)) ∧ OthT 52 32 B b v w w' ∧
  ∃ v' rs', Tb B w' b v' rs' ∧ Srt rs' ∧ (goneE rs g at' cut = 0 → GoneTo rs rs' g at' cut) ∧ (goneE rs g at' cut ≠ 0 → rs' = rs)

theorem gone_nil (g at' cut : Int) (w : World) : Calls Try.prog 18 #[.pointer none, .int .i64 g, .int .i64 at', .int .i64 cut] w fun e w' => e = .returned (.int .i64 (if badC at' cut then 1 else 7)) ∧ w = w' := by
  rcases badc_cases at' cut with ⟨hv, h⟩ | ⟨hv, h1, h2, h3⟩
  · rw [hv, if_pos rfl]
    clear hv
    rcases h with h1 | ⟨h1, h2⟩ | ⟨h1, h2, h3⟩ <;> (
      go_enter Try.func18, Try.ntmps18
      go_wp2_with fail
      go_ret
      exact ⟨rfl, rfl⟩)
  · rw [hv, if_neg (by decide)]
    clear hv
    go_enter Try.func18, Try.ntmps18
    go_wp2_with fail
    go_ret
    exact ⟨rfl, rfl⟩

/-! ### A record that is set -/
theorem OthT.drew {t r : TypeId} {B b : Nat} {v : Value} {w w' : World} (h : OthT t r B b v w w') : OthT t r B b v w w'.drew := ⟨h.1.drew, fun e a b => h.2.1 e a b, h.2.2⟩
theorem Tb.drew {B : Nat} {w : World} {b : Nat} {v : Value} {rs : List Rec} (h : Tb B w b v rs) : Tb B w.drew b v rs := ⟨h.blk, h.low, h.row, h.pos⟩
theorem setCells_row {P : Program} {w : World} {g o : Nat} {cur : Array Value} {t : TypeId} {vs : List Value} (hg : w.heap[g]? = some (.cells cur t (0, 0))) (hf : o + vs.length ≤ cur.size) (h1 : ∀ v ∈ vs, v.oneCell' = true) :
    w.setCells g o vs = w.setRow g (cur.toList.take o ++ vs ++ cur.toList.drop (o + vs.length)).toArray := by
  have a := run_storeCells_at P g o t vs 0 cur w hg (by simpa using hf) h1
  have hc : ∀ j, j < vs.length → (w.cell? ⟨g, o + 0 + j, none⟩).isSome = true := fun j hj => by
    simp only [World.cell?, hg, Nat.add_zero]
    rw [Array.getElem?_eq_getElem (by omega)]; rfl
  have b := run_storeCells_cells (P := P) g o vs 0 w hc (fun j _ => by simp [World.frozen?, hg]) h1
  rw [a] at b
  injection b with _ b
  simpa using b.symm
theorem set_split {rs : List Rec} {i : Nat} (hi : i < rs.length) : rs = rs.take i ++ rs.getD i default :: rs.drop (i + 1) := by
  rw [List.getD_eq_getElem?_getD, List.getElem?_eq_getElem hi]
  simp
theorem put_list {cur : List Value} {rs : List Rec} {r : Rec} {n i : Nat} (hl : rs.length = n) (hi : i < n) (hc : n * 6 ≤ cur.length) (ht : cur.take (n * 6) = recs rs) :
    (cur.take (i * 6) ++ recL r ++ cur.drop (i * 6 + (recL r).length)).length = cur.length ∧ (cur.take (i * 6) ++ recL r ++ cur.drop (i * 6 + (recL r).length)).take (n * 6) = recs (rs.take i ++ r :: rs.drop (i + 1)) := by
  have e1 : cur.take (i * 6) = recs (rs.take i) := by rw [recs_take rs i (by omega), ← ht, List.take_take, Nat.min_eq_left (by omega)]
  have e2 : (cur.drop ((i + 1) * 6)).take ((n - (i + 1)) * 6) = recs (rs.drop (i + 1)) := by
    rw [recs_drop rs (i + 1) (by omega), ← ht, List.drop_take]
    congr 1; omega
  have l1 : (recs (rs.take i)).length = i * 6 := by rw [recs_len, List.length_take, Nat.min_eq_left (by omega)]
  refine ⟨?_, ?_⟩
  · simp only [List.length_append, List.length_take, List.length_drop, recL_len]; omega
  · have e3 : cur.drop (i * 6 + (recL r).length) = recs (rs.drop (i + 1)) ++ cur.drop (n * 6) := by
      rw [recL_len, show i * 6 + 6 = (i + 1) * 6 by omega, ← e2, show cur.drop (n * 6) = (cur.drop ((i + 1) * 6)).drop ((n - (i + 1)) * 6) by rw [List.drop_drop]; congr 1; omega, List.take_append_drop]
    have e4 : recs (rs.take i ++ r :: rs.drop (i + 1)) = recs (rs.take i) ++ recL r ++ recs (rs.drop (i + 1)) := by rw [recs_append, List.append_assoc]; rfl
    rw [e1, e3, ← List.append_assoc, ← e4, List.take_left']
    rw [recs_len]; congr 1
    simp only [List.length_append, List.length_take, List.length_drop, List.length_cons]; omega
theorem srt_set {rs : List Rec} {r : Rec} {i : Nat} (hs : Srt rs) (hi : i < rs.length) (hg : r.g = gAt rs i) : Srt (rs.take i ++ r :: rs.drop (i + 1)) := by
  have hl : (rs.take i ++ r :: rs.drop (i + 1)).length = rs.length := by
    simp only [List.length_append, List.length_take, List.length_drop, List.length_cons]; omega
  have key : ∀ t, gAt (rs.take i ++ r :: rs.drop (i + 1)) t = gAt rs t := fun t => by
    have lt : (rs.take i).length = i := by rw [List.length_take, Nat.min_eq_left (by omega)]
    unfold gAt at hg ⊢
    simp only [List.getD_eq_getElem?_getD] at hg ⊢
    by_cases h1 : t < i
    · rw [List.getElem?_append_left (by omega), List.getElem?_take_of_lt h1]
    · rw [List.getElem?_append_right (by omega), lt]
      by_cases h2 : t = i
      · subst h2; simpa using hg
      · rw [show t - i = (t - i - 1) + 1 by omega, List.getElem?_cons_succ, List.getElem?_drop, show i + 1 + (t - i - 1) = t by omega]
  intro a b hab hlt
  rw [hl] at hlt
  have := hs a b hab hlt
  show gAt _ a < gAt _ b
  rw [key, key]
  exact this

theorem tb_set {B : Nat} {w : World} {b g n cap i : Nat} {rs : List Rec} {r : Rec} (h : Tb B w b (.slice (some ⟨g, 0, none⟩) n cap) rs) (hi : i < rs.length) :
    Tb B (w.setCells g (i * 6) (recL r)) b (.slice (some ⟨g, 0, none⟩) n cap) (rs.take i ++ r :: rs.drop (i + 1)) ∧ OthT 52 32 B b (.slice (some ⟨g, 0, none⟩) n cap) w (w.setCells g (i * 6) (recL r)) := by
  obtain ⟨hln, hd⟩ := h.row
  rcases hd with ⟨he, _⟩ | ⟨g', cap', cur, he, hb, hg, hnc, hcm, hcs, ht⟩
  · cases he
  · cases he
    have hone : ∀ v ∈ recL r, v.oneCell' = true := by have := recs_one_cell [r]; rwa [recs_one] at this
    have e := setCells_row (P := Try.prog) (vs := recL r) hg (o := i * 6) (by rw [recL_len, hcs]; omega) hone
    obtain ⟨p1, p2⟩ := put_list (r := r) (cur := cur.toList) rfl hi (by simp only [Array.length_toList, hcs]; omega) ht
    have hgb : g ≠ b := by
      rintro rfl
      have := h.blk
      rw [hg] at this
      have := Option.some.inj this
      injection this with _ e2
      exact absurd e2 (by decide)
    have hl : (rs.take i ++ r :: rs.drop (i + 1)).length = rs.length := by
      simp only [List.length_append, List.length_take, List.length_drop, List.length_cons]; omega
    have hgr : w.grownBy (w.setRow g (cur.toList.take (i * 6) ++ recL r ++ cur.toList.drop (i * 6 + (recL r).length)).toArray) (some g) := ⟨rfl, rfl, rfl, by simp, fun k _ hk => setRow_other w g k _ (fun e => hk (by rw [e]))⟩
    rw [e]
    refine ⟨⟨(setRow_other w g b _ (fun e => hgb e.symm)).trans h.blk, h.low, ⟨by rw [recs_len], .inr ⟨g, cap, _, by rw [hl], hb, setRow_heap w g cur _ _ _ hg, by rw [hl]; exact hnc, hcm, ?_, ?_⟩⟩, by rw [hl]; exact h.pos⟩, ⟨?_, fun e0 e1 e2 => keepT_grown h.row hgr e2, fun k hk _ h4 => setRow_other w g k _ (fun e => h4 (by rw [e]; rfl))⟩⟩
    · simp only [List.size_toArray]; rw [p1, Array.length_toList, hcs]
    · simp only; rw [hl]; exact p2
    · exact (Below.refl B w).grown hgr (Nat.le_trans hb (Nat.le_of_lt (lt_of_heap hg))) (fun k hk => by cases hk; exact hb)

def recEq (c d : Rec) : Bool := c.g == d.g && (c.tid == d.tid && (c.frm == d.frm && (c.gone == d.gone && (c.till == d.till && c.cut == d.cut))))
theorem recEq_iff (c d : Rec) : recEq c d = decide (c = d) := by
  obtain ⟨a0, a1, a2, a3, a4, a5⟩ := c
  obtain ⟨b0, b1, b2, b3, b4, b5⟩ := d
  by_cases h : (Rec.mk a0 a1 a2 a3 a4 a5) = ⟨b0, b1, b2, b3, b4, b5⟩
  · cases h; simp [recEq]
  · rw [decide_eq_false h]
    cases hq : recEq ⟨a0, a1, a2, a3, a4, a5⟩ ⟨b0, b1, b2, b3, b4, b5⟩ with
    | false => rfl
    | true =>
      simp [recEq] at hq
      obtain ⟨h0, h1, h2, h3, h4, h5⟩ := hq
      subst h0 h1 h2 h3 h4 h5
      exact absurd rfl h
@[local go_sem ↓] theorem run_eqRec (a0 a1 a2 a4 a5 b0 b1 b2 b4 b5 : Int) (a3 b3 : Bool) (w : World) :
    (Op.equalIn 10000 32 (.agg #[.int .i64 a0, .int .i64 a1, .int .i64 a2, .bool a3, .int .i64 a4, .int .i64 a5]) (.agg #[.int .i64 b0, .int .i64 b1, .int .i64 b2, .bool b3, .int .i64 b4, .int .i64 b5])).run Try.prog w = .ok (recEq ⟨a0, a1, a2, a3, a4, a5⟩ ⟨b0, b1, b2, b3, b4, b5⟩) w := by
  unfold recEq
  dsimp only
  cases h0 : (a0 == b0)
  · go_simp
  cases h1 : (a1 == b1)
  · go_simp
  cases h2 : (a2 == b2)
  · go_simp
  cases h3 : (a3 == b3)
  · go_simp
  cases h4 : (a4 == b4)
  · go_simp
  cases h5 : (a5 == b5)
  · go_simp
  · go_simp

set_option maxHeartbeats 1000000 in
theorem gone_any (B b : Nat) (v : Value) (rs : List Rec) (g at' cut : Int) (w : World) (h : Tb B w b v rs) (hB : B ≤ w.heap.size) (hs : Srt rs) (hN : rs.length ≤ 1000) :
    Calls Try.prog 18 #[.pointer (some ⟨b, 0, none⟩), .int .i64 g, .int .i64 at', .int .i64 cut] w (GonePost B b v rs g at' cut w) := by
  have H := Lib.hid h
  have HS := Lib.hid hs
  clear h hs
  rcases badc_cases at' cut with ⟨hv, h⟩ | ⟨hv, h1, h2, h3⟩
  · have E := Lib.hid (gone_bad (rs := rs) (g := g) hv)
    have T := Lib.hid (show GonePost B b v rs g at' cut w (.returned (.int .i64 1)) w from ⟨by rw [E.out], OthT.refl _ _ _ _ _ _, v, rs, H.out, HS.out, fun h0 => absurd (E.out.symm.trans h0) (by decide), fun _ => rfl⟩)
    clear hv
    rcases h with h1 | ⟨h1, h2⟩ | ⟨h1, h2, h3⟩ <;> (
      go_enter Try.func18, Try.ntmps18
      go_wp2_with fail
      go_ret
      exact T.out)
  · have V := Lib.hid hv
    clear hv
    go_enter Try.func18, Try.ntmps18
    go_wp2_with fail
    refine (find_any B b v rs g w H.out HS.out hN).mono ?_
    rintro e w2 ⟨i, rfl, hi, hlo, hhi, hb2⟩
    have F := Lib.hid (find_look hlo hhi HS.out)
    have H2 := Lib.hid (H.out.below hb2)
    have O2 := Lib.hid (OthT.below (t := 52) (r := 32) (b := b) (v := v) hb2 hB)
    have S2 := hb2.size
    clear hb2 hlo hhi
    by_cases hx : i < rs.length ∧ gAt rs i = g
    · have e : decide (i < rs.length ∧ gAt rs i = g) = true := decide_eq_true hx
      rw [e]
      have L := Lib.hid (F.out.1 hx)
      have hlt := hx.1
      have hlt' : (i : Int) < rs.length := by omega
      have c0 := H2.out.c0
      have f0 := H2.out.f0
      obtain ⟨ga, cap, rfl, hga, _⟩ := H2.out.shape
      obtain ⟨k0, k1, k2, k3, k4, k5⟩ := H2.out.at i hlt
      obtain ⟨r, hrr⟩ : ∃ r, rs.getD i default = r := ⟨_, rfl⟩
      rw [hrr] at k0 k1 k2 k3 k4 k5 L
      have RR := Lib.hid hrr
      clear e hx hrr
      obtain ⟨r0, r1, r2, r3, r4, r5⟩ := r
      simp only at k0 k1 k2 k3 k4 k5
      cases r3 with
      | true =>
        have E := Lib.hid (gone_no V.out L.out rfl)
        have T := Lib.hid (show ∀ w3, Below w2.heap.size w2 w3 → GonePost B b (.slice (some ⟨ga, 0, none⟩) rs.length cap) rs g at' cut w (.returned (.int .i64 7)) w3 from fun w3 h3 => ⟨by rw [E.out], O2.out.trans (OthT.below h3 (by omega)), _, rs, H2.out.below h3, HS.out, fun h0 => absurd (E.out.symm.trans h0) (by decide), fun _ => rfl⟩)
        obtain ⟨x, hx⟩ : ∃ x, recEq ⟨r0, r1, r2, true, at', cut⟩ ⟨r0, r1, r2, true, r4, r5⟩ = x := ⟨_, rfl⟩
        have TB := Lib.hid (show ∀ X Y, Below w2.heap.size w2 ((w2.alloc X).alloc Y) from fun X Y => ((Below.refl _ _).alloc (Nat.le_refl _) _).alloc (by rw [size_alloc]; omega) _)
        cases x <;> (
          go_wp2_with fail
          go_ret
          exact T.out _ (TB.out _ _))
      | false =>
        have hq : recEq ⟨r0, r1, r2, true, at', cut⟩ ⟨r0, r1, r2, false, r4, r5⟩ = false := by simp [recEq]
        by_cases ha : at' < r2
        · have E := Lib.hid (gone_no (at' := at') (cut := cut) V.out L.out (by simp [ha]))
          have T := Lib.hid (show ∀ w3, Below w2.heap.size w2 w3 → GonePost B b (.slice (some ⟨ga, 0, none⟩) rs.length cap) rs g at' cut w (.returned (.int .i64 7)) w3 from fun w3 h3 => ⟨by rw [E.out], O2.out.trans (OthT.below h3 (by omega)), _, rs, H2.out.below h3, HS.out, fun h0 => absurd (E.out.symm.trans h0) (by decide), fun _ => rfl⟩)
          have TB := Lib.hid (show ∀ X Y, Below w2.heap.size w2 ((w2.alloc X).alloc Y) from fun X Y => ((Below.refl _ _).alloc (Nat.le_refl _) _).alloc (by rw [size_alloc]; omega) _)
          go_wp2_with fail
          go_ret
          exact T.out _ (TB.out _ _)
        · have E := Lib.hid (gone_ok (at' := at') (cut := cut) V.out L.out (by simp [ha]))
          have T := Lib.hid (show ∀ w3, Below w2.heap.size w2 w3 → GonePost B b (.slice (some ⟨ga, 0, none⟩) rs.length cap) rs g at' cut w (.returned (.int .i64 0)) (w3.setCells ga (i * 6) (recL ⟨r0, r1, r2, true, at', cut⟩)).drew from fun w3 h3 => by
            obtain ⟨t1, t2⟩ := tb_set (r := ⟨r0, r1, r2, true, at', cut⟩) (H2.out.below h3) hlt
            refine ⟨by rw [E.out], ((O2.out.trans (OthT.below h3 (by omega))).trans t2).drew, _, _, t1.drew, srt_set HS.out hlt (by show r0 = (rs.getD i default).g; rw [RR.out]), fun _ => ⟨_, rs.take i, rs.drop (i + 1), L.out, ?_, rfl⟩, fun h0 => absurd E.out h0⟩
            rw [← RR.out]; exact set_split hlt)
          obtain ⟨W, hW⟩ : ∃ W, (w2.alloc (.cells #[.int .i64 r0, .int .i64 r1, .int .i64 r2, .bool false, .int .i64 r4, .int .i64 r5] 32)).alloc (.cells #[.int .i64 r0, .int .i64 r1, .int .i64 r2, .bool true, .int .i64 at', .int .i64 cut] 32) = W := ⟨_, rfl⟩
          have BW : Below w2.heap.size w2 W := by rw [← hW]; exact ((Below.refl _ _).alloc (Nat.le_refl _) _).alloc (by rw [size_alloc]; omega) _
          have HW := Lib.hid hW
          have HBW := Lib.hid BW
          have HN : W.heap[w2.heap.size + 1]? = some (.cells #[.int .i64 r0, .int .i64 r1, .int .i64 r2, .bool true, .int .i64 at', .int .i64 cut] 32 (0, 0)) := by
            rw [← hW]
            have := heap_alloc_new (w2.alloc (.cells #[.int .i64 r0, .int .i64 r1, .int .i64 r2, .bool false, .int .i64 r4, .int .i64 r5] 32)) (.cells #[.int .i64 r0, .int .i64 r1, .int .i64 r2, .bool true, .int .i64 at', .int .i64 cut] 32)
            rwa [size_alloc] at this
          have HNN := Lib.hid HN
          clear hW BW HN
          go_wp2_with fail
          rw [HW.out]
          have HT := H2.out.below HBW.out
          have d0 := HT.c0
          obtain ⟨m0, m1, m2, m3, m4, m5⟩ := HT.at i hlt
          rw [RR.out] at m0 m1 m2 m3 m4 m5
          simp only at m0 m1 m2 m3 m4 m5
          have fz : ∀ k, W.frozen? ⟨ga, k, none⟩ = false := fun k => by
            rcases HT.row.2 with ⟨he, _⟩ | ⟨g', cap', cur, he, _, hgg, _⟩
            · cases he
            · cases he; simp [World.frozen?, hgg]
          have n0 : W.cell? ⟨w2.heap.size + 1, 0, none⟩ = some (.int .i64 r0) := by simp only [World.cell?, HNN.out]; rfl
          have n1 : W.cell? ⟨w2.heap.size + 1, 1, none⟩ = some (.int .i64 r1) := by simp only [World.cell?, HNN.out]; rfl
          have n2 : W.cell? ⟨w2.heap.size + 1, 2, none⟩ = some (.int .i64 r2) := by simp only [World.cell?, HNN.out]; rfl
          have n3 : W.cell? ⟨w2.heap.size + 1, 3, none⟩ = some (.bool true) := by simp only [World.cell?, HNN.out]; rfl
          have n4 : W.cell? ⟨w2.heap.size + 1, 4, none⟩ = some (.int .i64 at') := by simp only [World.cell?, HNN.out]; rfl
          have n5 : W.cell? ⟨w2.heap.size + 1, 5, none⟩ = some (.int .i64 cut) := by simp only [World.cell?, HNN.out]; rfl
          clear HT
          go_region_with (fail)
          all_goals
            have TT := Lib.hid (T.out W HBW.out)
            go_wp2_with fail
            go_ret
            exact TT.out
    · have e : decide (i < rs.length ∧ gAt rs i = g) = false := decide_eq_false hx
      rw [e]
      have E := Lib.hid (gone_none (cut := cut) V.out (F.out.2 hx))
      have T := Lib.hid (show GonePost B b v rs g at' cut w (.returned (.int .i64 6)) w2 from ⟨by rw [E.out], O2.out, v, rs, H2.out, HS.out, fun h0 => absurd (E.out.symm.trans h0) (by decide), fun _ => rfl⟩)
      clear e hx
      go_wp2_with fail
      go_ret
      exact T.out
end Go.Proofs.Ytmhonibalgddcaa

