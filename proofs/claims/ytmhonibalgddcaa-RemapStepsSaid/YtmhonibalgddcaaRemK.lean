
/-
  Package staitheref21: Gone; the law's ref.
-/
import Derived.Test.YtmhonibalgddcaaRemJ
namespace Go.Proofs.Ytmhonibalgddcaa
open Go.RowKit
set_option linter.unusedVariables false
set_option linter.unusedSimpArgs false
set_option maxRecDepth 100000

def RGonePost (B b : Nat) (v : Value) (rs : List Rec) (g at' cut : Int) (w : World) (e : Ending) (w' : World) : Prop :=
  e = .returned (.int .i64 (goneE rs g at' cut)) ∧ OthT 40 36 B b v w w' ∧
  ∃ v' rs', Rt B w' b v' rs' ∧ (goneE rs g at' cut = 0 → GoneTo rs rs' g at' cut) ∧ (goneE rs g at' cut ≠ 0 → rs' = rs)

/-- Three cells of a record are set. -/
theorem put3_list {cur : List Value} {rs : List Rec} {r : Rec} {n i : Nat} {at' cut : Int} (hl : rs.length = n) (hi : i < n) (hr : rs.getD i default = r) (ht : cur.take (n * 6) = recs rs) :
    cur.take (i * 6 + 3) ++ [Value.bool true, .int .i64 at', .int .i64 cut] ++ cur.drop (i * 6 + 3 + 3) = cur.take (i * 6) ++ recL (goneR r at' cut) ++ cur.drop (i * 6 + (recL (goneR r at' cut)).length) := by
  have e0 : recs rs = recs (rs.take i) ++ (recL r ++ recs (rs.drop (i + 1))) := by
    conv => lhs; rw [set_split (rs := rs) (i := i) (by omega), hr, recs_append]
    rfl
  have l1 : (recs (rs.take i)).length = i * 6 := by rw [recs_len, List.length_take, Nat.min_eq_left (by omega)]
  have e1 : cur.take (i * 6 + 3) = cur.take (i * 6) ++ [.int .i64 r.g, .int .i64 r.tid, .int .i64 r.frm] := by
    have a1 : cur.take (i * 6 + 3) = (recs rs).take (i * 6 + 3) := by rw [← ht, List.take_take, Nat.min_eq_left (by omega)]
    have a2 : cur.take (i * 6) = (recs rs).take (i * 6) := by rw [← ht, List.take_take, Nat.min_eq_left (by omega)]
    rw [a1, a2, e0, ← l1, List.take_left, List.take_append, List.take_of_length_le (by omega)]
    simp [recL]
  rw [e1, recL_len, show i * 6 + 3 + 3 = i * 6 + 6 by omega]
  simp [recL, goneR]

theorem rt_set {B : Nat} {w : World} {b g n cap i : Nat} {rs : List Rec} {r : Rec} {at' cut : Int} (h : Rt B w b (.slice (some ⟨g, 0, none⟩) n cap) rs) (hi : i < rs.length) (hr : rs.getD i default = r) :
    Rt B (w.setCells g (i * 6 + 3) [Value.bool true, .int .i64 at', .int .i64 cut]) b (.slice (some ⟨g, 0, none⟩) n cap) (rs.take i ++ goneR r at' cut :: rs.drop (i + 1)) ∧ OthT 40 36 B b (.slice (some ⟨g, 0, none⟩) n cap) w (w.setCells g (i * 6 + 3) [Value.bool true, .int .i64 at', .int .i64 cut]) := by
  obtain ⟨hln, hd⟩ := h.row
  rcases hd with ⟨he, _⟩ | ⟨g', cap', cur, he, hb, hg, hnc, hcm, hcs, ht⟩
  · cases he
  · cases he
    have hone : ∀ v ∈ [Value.bool true, .int .i64 at', .int .i64 cut], v.oneCell' = true := by
      intro v hv; simp at hv; rcases hv with rfl | rfl | rfl <;> rfl
    have e := setCells_row (P := Try.prog) (vs := [Value.bool true, .int .i64 at', .int .i64 cut]) hg (o := i * 6 + 3) (by simp only [List.length_cons, List.length_nil, hcs]; omega) hone
    have e2 := put3_list (at' := at') (cut := cut) (cur := cur.toList) rfl hi hr ht
    obtain ⟨p1, p2⟩ := put_list (r := goneR r at' cut) (cur := cur.toList) rfl hi (by simp only [Array.length_toList, hcs]; omega) ht
    have hgb : g ≠ b := by
      rintro rfl
      have := h.blk
      rw [hg] at this
      have := Option.some.inj this
      injection this with _ e2
      exact absurd e2 (by decide)
    have hl : (rs.take i ++ goneR r at' cut :: rs.drop (i + 1)).length = rs.length := by
      simp only [List.length_append, List.length_take, List.length_drop, List.length_cons]; omega
    rw [e]
    simp only [List.length_cons, List.length_nil, Nat.zero_add] at e2 ⊢
    rw [e2]
    have hgr : w.grownBy (w.setRow g (cur.toList.take (i * 6) ++ recL (goneR r at' cut) ++ cur.toList.drop (i * 6 + (recL (goneR r at' cut)).length)).toArray) (some g) := ⟨rfl, rfl, rfl, by simp, fun k _ hk => setRow_other w g k _ (fun e => hk (by rw [e]))⟩
    refine ⟨⟨(setRow_other w g b _ (fun e => hgb e.symm)).trans h.blk, h.low, ⟨by rw [recs_len], .inr ⟨g, cap, _, by rw [hl], hb, setRow_heap w g cur _ _ _ hg, by rw [hl]; exact hnc, hcm, ?_, ?_⟩⟩, by rw [hl]; exact h.pos⟩, ⟨?_, fun e0 e1 e2 => keepT_grown h.row hgr e2, fun k hk _ h4 => setRow_other w g k _ (fun e => h4 (by rw [e]; rfl))⟩⟩
    · simp only [List.size_toArray]; rw [p1, Array.length_toList, hcs]
    · simp only; rw [hl]; exact p2
    · exact (Below.refl B w).grown hgr (Nat.le_trans hb (Nat.le_of_lt (lt_of_heap hg))) (fun k hk => by cases hk; exact hb)

set_option maxHeartbeats 1000000 in
theorem rgone_any (B b : Nat) (v : Value) (rs : List Rec) (g at' cut : Int) (w : World) (h : Rt B w b v rs) (hB : B ≤ w.heap.size) (hN : rs.length ≤ 1000) :
    Calls Try.prog 20 #[.pointer (some ⟨b, 0, none⟩), .int .i64 g, .int .i64 at', .int .i64 cut] w (RGonePost B b v rs g at' cut w) := by
  have H := Lib.hid h
  clear h
  have bad : ∀ n, goneE rs g at' cut = n → n ≠ 0 → ∀ w3, Below w.heap.size w w3 → RGonePost B b v rs g at' cut w (.returned (.int .i64 n)) w3 := fun n hn h0 w3 h3 =>
    ⟨by rw [hn], OthT.below h3 hB, v, rs, H.out.below h3, fun h => absurd (hn.symm.trans h) h0, fun _ => rfl⟩
  rcases badc_cases at' cut with ⟨hv, h⟩ | ⟨hv, h1, h2, h3⟩
  · have T := Lib.hid (bad 1 (gone_bad hv) (by decide) w (Below.refl _ _))
    clear hv bad
    rcases h with h1 | ⟨h1, h2⟩ | ⟨h1, h2, h3⟩ <;> (
      go_enter Try.func20, Try.ntmps20
      go_wp2_with fail
      go_ret
      exact T.out)
  · have V := Lib.hid hv
    have BAD := Lib.hid bad
    clear hv bad
    go_enter Try.func20, Try.ntmps20
    go_wp2_with fail
    refine (rat_any B b v rs g w H.out hN).mono ?_
    rintro e w1 ⟨rfl, hb1⟩
    have HB1 := Lib.hid hb1
    have H1 := Lib.hid (H.out.below hb1)
    clear hb1
    rcases at_cases rs g with ⟨i, hi1, hi2, hi3, hi4⟩ | ⟨hi2, hi4⟩
    · rw [hi2]
      have LK := Lib.hid hi4
      have hi1' : (i : Int) < rs.length := by omega
      clear hi2 hi4 hi3
      have c0 := H1.out.c0
      obtain ⟨ga, cap, rfl, _, _⟩ := H1.out.shape
      obtain ⟨k0, k1, k2, k3, k4, k5⟩ := H1.out.at i hi1
      obtain ⟨r, hrr⟩ : ∃ r, rs.getD i default = r := ⟨_, rfl⟩
      rw [hrr] at k0 k1 k2 k3 k4 k5 LK
      have RR := Lib.hid hrr
      clear hrr
      obtain ⟨r0, r1, r2, r3, r4, r5⟩ := r
      simp only at k0 k1 k2 k3 k4 k5
      cases r3 with
      | true =>
        have T := Lib.hid (BAD.out 7 (gone_no V.out LK.out rfl) (by decide) w1 HB1.out)
        go_wp2_with fail
        go_ret
        exact T.out
      | false =>
        by_cases ha : at' < r2
        · have T := Lib.hid (BAD.out 7 (gone_no V.out LK.out (by simp [ha])) (by decide) w1 HB1.out)
          go_wp2_with fail
          go_ret
          exact T.out
        · have E := Lib.hid (gone_ok (at' := at') (cut := cut) V.out LK.out (by simp [ha]))
          have T := Lib.hid (show RGonePost B b (.slice (some ⟨ga, 0, none⟩) rs.length cap) rs g at' cut w (.returned (.int .i64 0)) (w1.setCells ga (i * 6 + 3) [Value.bool true, .int .i64 at', .int .i64 cut]) from by
            obtain ⟨t1, t2⟩ := rt_set (at' := at') (cut := cut) H1.out hi1 RR.out
            refine ⟨by rw [E.out], (OthT.below HB1.out hB).trans t2, _, _, t1, fun _ => ⟨_, rs.take i, rs.drop (i + 1), LK.out, ?_, rfl⟩, fun h0 => absurd E.out h0⟩
            rw [← RR.out]; exact set_split hi1)
          obtain ⟨cur, hga⟩ : ∃ cur, w1.heap[ga]? = some (.cells cur 36 (0, 0)) := by
            rcases H1.out.row.2 with ⟨he, _⟩ | ⟨g', cap', cur, he, _, hgg, _⟩
            · cases he
            · cases he; exact ⟨cur, hgg⟩
          have fz : ∀ k, w1.frozen? ⟨ga, k, none⟩ = false := fun k => by simp [World.frozen?, hga]
          have hgb : ga ≠ b := by
            rintro rfl
            have := H1.out.blk
            rw [hga] at this
            have := Option.some.inj this
            injection this with _ e2
            exact absurd e2 (by decide)
          clear hga
          go_wp2_with fail
          go_ret
          exact T.out
    · have T := Lib.hid (BAD.out 6 (gone_none V.out hi4) (by decide) w1 HB1.out)
      rw [hi2]
      clear hi2 hi4
      go_wp2_with fail
      go_ret
      exact T.out

/-! ### The law's ref -/
theorem results_cell_one {P : Program} {fn : Func} {t : Tmp} {ty : TypeId} (h : fn.results = #[.cell t ty]) (tmps : Array Value) (w : World) (ad : Addr) (v : Value) (ht : tmps.getD t undef = .pointer (some ad)) (hl : (loadVar ty ad).run P w = .ok v w) :
    (results fn tmps).run P w = .ok v w := by
  have ht' : tmps[t]?.getD undef = .pointer (some ad) := by simpa using ht
  simp [results, h, ht', asAddr, hl]
theorem load_rrec {w : World} {p : Nat} {t : TypeId} (r : Rec) (h : w.heap[p]? = some (Obj.cells #[.int .i64 r.g, .int .i64 r.tid, .int .i64 r.frm, .bool r.gone, .int .i64 r.till, .int .i64 r.cut] t (0, 0))) :
    (loadVar 36 ⟨p, 0, none⟩).run Try.prog w = .ok (recV r) w :=
  run_loadVar_mid (P := Try.prog) w p 0 36 (recL r) _ (by
    intro j v hj
    simp only [World.cell?, h, Nat.zero_add]
    match j, hj with
    | 0, hj => simpa [recL] using hj
    | 1, hj => simpa [recL] using hj
    | 2, hj => simpa [recL] using hj
    | 3, hj => simpa [recL] using hj
    | 4, hj => simpa [recL] using hj
    | 5, hj => simpa [recL] using hj
    | j + 6, hj => simp [recL] at hj) Try.underlying36 rfl (by kernel_rfl)
theorem lref_any (r : Rec) (w : World) : Calls Try.prog 13 #[recV r] w fun e w' => e = .returned (recV r) ∧ Below w.heap.size w w' := by
  unfold recV
  go_enter Try.func13, Try.ntmps13
  go_wp2_with fail
  refine bodyPost_ret (v := recV r) (results_cell_one Try.results13 _ _ _ _ rfl (load_rrec (t := 36) r ?_)) rfl ⟨rfl, ((Below.refl _ _).alloc (Nat.le_refl _) _).alloc (by rw [size_alloc]; omega) _⟩
  have := heap_alloc_new (w.alloc (Obj.cells #[Value.int .i64 r.g, .int .i64 r.tid, .int .i64 r.frm, .bool r.gone, .int .i64 r.till, .int .i64 r.cut] 32)) (Obj.cells #[Value.int .i64 r.g, .int .i64 r.tid, .int .i64 r.frm, .bool r.gone, .int .i64 r.till, .int .i64 r.cut] 36)
  rwa [size_alloc] at this
end Go.Proofs.Ytmhonibalgddcaa

