
/-
  staitheref19: Races; the law's race; what both reports say.
-/
import Derived.Test.YtkcnbkdpjlpppaaRptN
namespace Go.Proofs.Ytkcnbkdpjlpppaa
open Go.RowKit
set_option linter.unusedVariables false
set_option linter.unusedSimpArgs false
set_option maxRecDepth 100000

/-! ### Rows of races -/
def qrC (r : Qr) : Array Value := #[.bool r.th, .int .i64 r.c, .int .i64 r.a, .int .i64 r.b, .int .i64 r.f, .bool r.wr]
theorem QrC.below {w w' : World} {b o : Nat} {r : Qr} (h : QrC w b o r) {n : Nat} (hn : w.heap.size ≤ n) (hB : Below n w w') : QrC w' b o r := by
  have hb : b < n := Nat.lt_of_lt_of_le (block_lt_of_cell h.c0) hn
  obtain ⟨c0, c1, c2, c3, c4, c5⟩ := h
  have e : ∀ o, w'.cell? ⟨b, o, none⟩ = w.cell? ⟨b, o, none⟩ := fun o => hB.cell (p := ⟨b, o, none⟩) hb
  exact ⟨(e _).trans c0, (e _).trans c1, (e _).trans c2, (e _).trans c3, (e _).trans c4, (e _).trans c5⟩
def QrsOf (w : World) (v : Value) (rs : List Qr) : Prop :=
  ∃ ao cap, v = .slice ao rs.length cap ∧ (0 < rs.length → ∃ b o, ao = some ⟨b, o, none⟩ ∧ ∀ i, i < rs.length → QrC w b (o + i * 6) (rs.getD i default))
theorem QrsOf.below {w w' : World} {v : Value} {rs : List Qr} (h : QrsOf w v rs) {n : Nat} (hn : w.heap.size ≤ n) (hB : Below n w w') : QrsOf w' v rs := by
  obtain ⟨ao, cap, rfl, hc⟩ := h
  refine ⟨ao, cap, rfl, fun hp => ?_⟩
  obtain ⟨b, o, rfl, hd⟩ := hc hp
  exact ⟨b, o, rfl, fun i hi => (hd i hi).below hn hB⟩
theorem QrsOf.shape {w : World} {v : Value} {rs : List Qr} (h : QrsOf w v rs) : ∃ ao cap, v = .slice ao rs.length cap := by
  obtain ⟨ao, cap, rfl, hc⟩ := h
  exact ⟨ao, cap, rfl⟩
theorem QrsOf.at {w : World} {ao : Option Addr} {n cap : Nat} {rs : List Qr} (h : QrsOf w (.slice ao n cap) rs) (i : Nat) (hi : i < rs.length) : ∃ b o, ao = some ⟨b, o, none⟩ ∧ QrC w b (o + i * 6) (rs.getD i default) := by
  obtain ⟨_, _, e, hc⟩ := h
  cases e
  obtain ⟨b, o, rfl, hd⟩ := hc (by omega)
  exact ⟨b, o, rfl, hd i hi⟩
def qrCells (es : List Qr) : List Value := es.flatMap fun e => (qrC e).toList
theorem qrC_len (e : Qr) : (qrC e).toList.length = 6 := rfl
theorem qrCells_at : ∀ (es : List Qr) (i : Nat), i < es.length → ∀ c, c < 6 → (qrCells es)[i * 6 + c]? = (qrC (es.getD i default)).toList[c]?
  | [], i, h, c, hc => by simp at h
  | e :: es, 0, h, c, hc => by
    show ((qrC e).toList ++ qrCells es)[0 * 6 + c]? = _
    rw [List.getElem?_append_left (by rw [qrC_len]; omega)]
    simp
  | e :: es, i + 1, h, c, hc => by
    show ((qrC e).toList ++ qrCells es)[(i + 1) * 6 + c]? = _
    rw [List.getElem?_append_right (by rw [qrC_len]; omega), qrC_len, show (i + 1) * 6 + c - 6 = i * 6 + c by omega, qrCells_at es i (by simpa using h) c hc]
    simp
theorem qrCells_snoc (es : List Qr) (e : Qr) : qrCells (es ++ [e]) = qrCells es ++ (qrC e).toList := by
  simp [qrCells, List.flatMap_append]
theorem qrC_one (e : Qr) : ∀ u ∈ (qrC e).toList, u.oneCell' = true := by
  intro u hu
  simp [qrC] at hu
  rcases hu with rfl | rfl | rfl | rfl | rfl | rfl <;> rfl
theorem qrs_of_own {w : World} {base : Nat} {v : Value} {es : List Qr} (h : w.ownsRow base 62 6 v es.length (qrCells es)) : QrsOf w v es := by
  rcases h.2 with ⟨rfl, h0⟩ | ⟨g, cap, cur, rfl, hbg, hg, hnc, hcm, hcs, htake⟩
  · exact ⟨none, 0, by rw [h0], fun hp => by omega⟩
  · refine ⟨some ⟨g, 0, none⟩, cap, rfl, fun _ => ⟨g, 0, rfl, fun i hi => ?_⟩⟩
    have key : ∀ c u, c < 6 → (qrC (es.getD i default)).toList[c]? = some u → w.cell? ⟨g, 0 + i * 6 + c, none⟩ = some u := fun c u hc hu => by
      have := h.cells (g := g) rfl (i * 6 + c) u (by rw [qrCells_at es i hi c hc]; exact hu)
      rw [Go.WideShapes.add_plain, ← Nat.add_assoc] at this
      exact this
    exact ⟨key 0 _ (by omega) rfl, key 1 _ (by omega) rfl, key 2 _ (by omega) rfl, key 3 _ (by omega) rfl, key 4 _ (by omega) rfl, key 5 _ (by omega) rfl⟩
theorem qrinfo : (Try.prog.info? 62).map (fun i => (i.zero, i.size, i.bytes)) = some (some (.agg (qrC (default : Qr))), 6, 48) := by kernel_rfl
/-- The reference's first races of the cells below k. -/
def qupto (rs : Nat → Qr) (k : Nat) : List Qr := ((List.range k).filter (fun i => (rs i).th)).map rs
theorem qupto_no {rs : Nat → Qr} {k : Nat} (h : (rs k).th = false) : qupto rs (k + 1) = qupto rs k := by
  unfold qupto
  rw [List.range_succ, List.filter_append]
  simp [h]
theorem qupto_yes {rs : Nat → Qr} {k : Nat} (h : (rs k).th = true) : qupto rs (k + 1) = qupto rs k ++ [rs k] := by
  unfold qupto
  rw [List.range_succ, List.filter_append]
  simp [h]
theorem qupto_len (rs : Nat → Qr) (k : Nat) : (qupto rs k).length ≤ k := by
  unfold qupto
  rw [List.length_map]
  exact Nat.le_trans (List.length_filter_le _ _) (by simp)
def QRacesPost (rs : Nat → Qr) (w : World) (r : Ending) (w' : World) : Prop := ∃ v, r = .returned v ∧ QrsOf w' v (qupto rs 8) ∧ Below w.heap.size w w'
set_option maxHeartbeats 1000000 in
theorem qraces_any (d : Nat) (ms : Nat → M18) (rs : Nat → Qr) (w : World) (h : RR w d ms rs) :
    Calls Try.prog 18 #[.pointer (some ⟨d, 0, none⟩)] w (QRacesPost rs w) := by
  obtain ⟨i0, hi, hz0, hz1, hz2⟩ := info_parts qrinfo
  have HR := Lib.hid h
  clear h
  go_enter Try.func18, Try.ntmps18
  go_wp2_with fail
  go_loopw [4, 3] (fun i z wr => ∃ k : Nat, k ≤ 8 ∧ i = .int .i64 k ∧ wr.ownsRow w.heap.size 62 6 z (qupto rs k).length (qrCells (qupto rs k)) ∧ Below w.heap.size w wr) (fun i _ _ => 8 - (intOf i).toNat)
  case atStart => exact ⟨0, by omega, rfl, World.ownsRow_nil _ _ _ _, Below.refl _ _⟩
  case round =>
    obtain ⟨k, hk, rfl, hrow, hb⟩ := hrel
    obtain ⟨ao, cap, rfl⟩ := rown_slice hrow
    have HB := Lib.hid hb
    have ROW := Lib.hid hrow
    have LE := Lib.hid (qupto_len rs k)
    obtain ⟨m, hm⟩ : ∃ m, (qupto rs k).length = m := ⟨_, rfl⟩
    rw [hm] at ROW LE
    have HM := Lib.hid hm
    rw [hm]
    have R1 := Lib.hid (HR.out.below hb)
    clear hb hrow hm
    by_cases hlt : k < 8
    · have hlt' : (k : Int) < 8 := by omega
      obtain ⟨r0, r1, r2, r3, r4, r5⟩ := R1.out.r k hlt
      cases hM : (rs k).th with
      | false =>
        have U := Lib.hid (qupto_no hM)
        rw [hM] at r0
        clear hM r1 r2 r3 r4 r5
        go_wp2_with fail
        go_roundw
        case rel => exact ⟨k + 1, by omega, by go_num, by rw [U.out, HM.out]; exact ROW.out, HB.out⟩
        case measure => simp [intOf] <;> omega
      | true =>
        have U := Lib.hid (qupto_yes hM)
        obtain ⟨s, hs⟩ : ∃ s, rs k = s := ⟨_, rfl⟩
        rw [hs] at U r0 r1 r2 r3 r4 r5 hM
        obtain ⟨th, g1, g2, g3, g4, g5⟩ := s
        dsimp only at r0 r1 r2 r3 r4 r5 hM
        subst hM
        clear hs
        go_wp2_with (at_builtin; refine wpList_append_own _ rfl _ _ 59 rfl w.heap.size 62 i0 _ 6 48 Try.underlying59 hi hz0 hz1 hz2 rfl (by decide) _ _ _ rfl (show World.ownsRow _ _ _ _ _ _ _ from ROW.out.alloc _) ⟨wr.heap.size, 0, none⟩ 1 1 (qrC ⟨true, g1, g2, g3, g4, g5⟩).toList rfl rfl ?c1 ?c2 ?c3 ?c4 ?c5 ?_)
        case c1 =>
          intro j u hj
          exact rrange_lit wr (qrC ⟨true, g1, g2, g3, g4, g5⟩).toList 62 j u hj
        case c2 => exact qrC_one _
        case c3 => have := LE.out; unfold maxLen; omega
        case c4 => have := LE.out; omega
        case c5 => have := HB.out.size; simp; omega
        intro v' w7 hown7 hgrow7 _
        have B7 : Below w.heap.size w w7 := by
          have b1 := (HB.out.alloc HB.out.size (.cells (qrC ⟨true, g1, g2, g3, g4, g5⟩) 62))
          exact b1.grown hgrow7 b1.size (fun k hk => (ROW.out.lt k hk).1)
        have S7 := Lib.hid B7
        have O7 := Lib.hid hown7
        clear hown7 hgrow7 B7
        go_wp2_with fail
        go_roundw
        case rel => exact ⟨k + 1, by omega, by go_num, by rw [U.out, qrCells_snoc, List.length_append, HM.out]; exact O7.out, S7.out⟩
        case measure => simp [intOf] <;> omega
    · have hge : (8 : Int) ≤ k := by omega
      have hk8 : k = 8 := by omega
      have HK := Lib.hid hk8
      clear hk8
      go_wp2_with fail
      go_ret
      refine ⟨_, rfl, ?_, HB.out⟩
      have e := HK.out
      subst e
      have := ROW.out
      rw [← HM.out] at this
      rw [← HM.out]
      exact qrs_of_own this

/-! ### The law's race -/
def qOf (r : Rce) : Qr := ⟨true, r.cell, r.a, r.b, r.f, r.wr⟩
theorem load_six {w : World} {p : Nat} {t : TypeId} (x0 x5 : Bool) (a1 a2 a3 a4 : Int) (h : w.heap[p]? = some (Obj.cells #[.bool x0, .int .i64 a1, .int .i64 a2, .int .i64 a3, .int .i64 a4, .bool x5] t (0, 0))) :
    (loadVar 62 ⟨p, 0, none⟩).run Try.prog w = .ok (.agg #[.bool x0, .int .i64 a1, .int .i64 a2, .int .i64 a3, .int .i64 a4, .bool x5]) w :=
  run_loadVar_mid (P := Try.prog) w p 0 62 [.bool x0, .int .i64 a1, .int .i64 a2, .int .i64 a3, .int .i64 a4, .bool x5] _ (by
    intro j v hj
    simp only [World.cell?, h, Nat.zero_add]
    match j, hj with
    | 0, hj => simpa using hj
    | 1, hj => simpa using hj
    | 2, hj => simpa using hj
    | 3, hj => simpa using hj
    | 4, hj => simpa using hj
    | 5, hj => simpa using hj
    | j + 6, hj => simp at hj) Try.underlying62 rfl (by kernel_rfl)
theorem race_any (r : Rce) (w : World) : Calls Try.prog 19 #[rcV r] w (RetB (qrV (qOf r)) w) := by
  obtain ⟨g0, g1, g2, g3, g4⟩ := r
  unfold rcV qrV qOf
  dsimp only
  go_enter Try.func19, Try.ntmps19
  go_wp2_with fail
  exact bodyPost_ret (v := .agg #[.bool true, .int .i64 g0, .int .i64 g1, .int .i64 g2, .int .i64 g3, .bool g4]) (by simp [results, Try.results19, go_sem]) rfl ⟨rfl, ((Below.refl _ _).alloc (Nat.le_refl _) _).alloc (by rw [size_alloc]; omega) _⟩
end Go.Proofs.Ytkcnbkdpjlpppaa

