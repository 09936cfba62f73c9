
/-
  The events that bytes are: entry.Read and staitheref12.Read.
-/
import Derived.Test.YtmmkdbcgkafolaaDoorEntT
import Derived.Test.YtmmkdbcgkafolaaDoorEntF
namespace Go.Proofs.YtmmkdbcgkafolaaDoor
open Go.RowKit
set_option linter.unusedVariables false
set_option linter.unusedSimpArgs false
set_option maxRecDepth 100000

theorem takR_lt {l : List UInt8} (h : takE l = 0) : (takR l).length < l.length := by
  obtain ⟨n, z, hz⟩ := takE_zero h
  obtain ⟨h1, h2, h3, h4⟩ := tak_some hz
  have := sizeN_pos n
  simp only [takR, hz, List.length_drop]
  omega
theorem decR_lt {l : List UInt8} (h : decB l = true) : (decR l).length < l.length := by
  have hok : okJ l 7 = true := by unfold decB at h; rw [Bool.and_eq_true] at h; exact h.1
  have h6 : takE (rst l 6) = 0 := by
    rw [okJ, Bool.and_eq_true] at hok
    simpa using hok.2
  have h1 := takR_lt h6
  have h2 := rst_len l 6
  have h3 : decR l = takR (rst l 6) := by unfold decR; rw [if_pos h]; rfl
  rw [h3]
  omega
def readA (l : List UInt8) : List Ev × List UInt8 :=
  if h : decB l = true then (decE l :: (readA (decR l)).1, (readA (decR l)).2) else ([], l)
termination_by l.length
decreasing_by all_goals exact decR_lt h
theorem readA_yes {l : List UInt8} (h : decB l = true) : readA l = (decE l :: (readA (decR l)).1, (readA (decR l)).2) := by rw [readA, dif_pos h]
theorem readA_no {l : List UInt8} (h : decB l = false) : readA l = ([], l) := by rw [readA, dif_neg (by simp [h])]
theorem decB_nil : decB [] = false := decB_no 0 (by omega) rfl
def rdF (l : List UInt8) : Int := if (readA l).2 = [] then (if 2000 < (readA l).1.length then 2 else 0) else 4
def rdE (l : List UInt8) : List Ev := if rdF l = 0 then (readA l).1 else []

/-- Where a reading stands: these events were read, this is left, this slice has them. -/
structure RdSt (l l' : List UInt8) (es : List Ev) (o : Value) (w0 w : World) : Prop where
  row : w.ownsRow w0.heap.size 23 8 o es.length (evCells es)
  eq : readA l = (es ++ (readA l').1, (readA l').2)
  len : es.length + l'.length ≤ l.length
  bel : Below w0.heap.size w0 w
theorem RdSt.next {l l' : List UInt8} {es : List Ev} {o o' : Value} {w0 w w' : World} (h : RdSt l l' es o w0 w) (hd : decB l' = true) (hr : w'.ownsRow w0.heap.size 23 8 o' (es.length + 1) (evCells es ++ (evC (decE l')).toList)) (hb : Below w0.heap.size w0 w') :
    RdSt l (decR l') (es ++ [decE l']) o' w0 w' := by
  refine ⟨by rw [List.length_append, List.length_singleton, evCells_snoc]; exact hr, ?_, ?_, hb⟩
  · rw [h.eq, readA_yes hd]; simp
  · have := decR_lt hd
    have := h.len
    rw [List.length_append, List.length_singleton]; omega
theorem RdSt.below {l l' : List UInt8} {es : List Ev} {o : Value} {w0 w w' : World} (h : RdSt l l' es o w0 w) (hB : Below w.heap.size w w') : RdSt l l' es o w0 w' :=
  ⟨h.row.kept (below_grown hB) (by cases o.ownBlock <;> simp), h.eq, h.len, h.bel.trans (hB.mono h.bel.size)⟩
theorem owns_slice {w : World} {base size n : Nat} {e : TypeId} {v : Value} {xs : List Value} (h : w.ownsRow base e size v n xs) : ∃ ao cap, v = .slice ao n cap := by
  rcases h.2 with ⟨rfl, rfl⟩ | ⟨g, c, cur, rfl, _⟩
  · exact ⟨_, _, rfl⟩
  · exact ⟨_, _, rfl⟩
theorem range_lit (w : World) (cs : List Value) (t : TypeId) (j : Nat) (u : Value) (h : cs[j]? = some u) : (w.alloc (.cells cs.toArray t)).cell? (Addr.add ⟨w.heap.size, 0, none⟩ j) = some u := by
  rw [Addr.add_mid]
  simp only [World.cell?, heap_alloc_new, Nat.zero_add]
  simpa using h
theorem evinfo : (Tryd.prog.info? 23).map (fun i => (i.zero, i.size, i.bytes)) = some (some (.agg (evC zeroEv)), 8, 56) := by kernel_rfl
def bsLen : Value → Nat
  | .string s => s.size
  | _ => 0
theorem bsLen_bs (l : List UInt8) : bsLen (bs l) = l.length := by simp [bsLen, bs, ByteArray.size]

def ReadPost (l : List UInt8) (w : World) (r : Ending) (w' : World) : Prop :=
  ∃ v, r = .returned (.tuple #[v, .int .i64 (rdF l)]) ∧ EvsOf w' v (rdE l) ∧ Below w.heap.size w w'
theorem rd_bad {l l' : List UInt8} {es : List Ev} (h : readA l = (es ++ (readA l').1, (readA l').2)) (hd : decB l' = false) (hne : l' ≠ []) : rdF l = 4 ∧ rdE l = [] := by
  have e : (readA l).2 = l' := by rw [h, readA_no hd]
  have f : rdF l = 4 := by unfold rdF; rw [e, if_neg hne]
  exact ⟨f, by unfold rdE; rw [f]; rfl⟩
theorem rd_end {l : List UInt8} {es : List Ev} (h : readA l = (es ++ (readA []).1, (readA []).2)) : (rdF l = if 2000 < es.length then 2 else 0) ∧ (rdE l = if 2000 < es.length then [] else es) := by
  rw [readA_no decB_nil] at h
  have e1 : (readA l).1 = es := by rw [h]; simp
  have e2 : (readA l).2 = [] := by rw [h]
  have f : rdF l = if 2000 < es.length then 2 else 0 := by unfold rdF; rw [e2, e1, if_pos rfl]
  refine ⟨f, ?_⟩
  unfold rdE
  rw [f, e1]
  split <;> rename_i h1 <;> split <;> rename_i h2 <;> first | rfl | omega

set_option maxHeartbeats 4000000 in
theorem read_any (l : List UInt8) (w : World) (hg : Glob w) (hl : l.length ≤ 1000000) :
    Calls Tryd.prog 19 #[bs l] w (ReadPost l w) := by
  obtain ⟨i0, hi, hz0, hz1, hz2⟩ := info_parts evinfo
  have G := Lib.hid hg
  clear hg
  go_enter Tryd.func19, Tryd.ntmps19
  go_wp2_with fail
  go_loopw [0, 4] (fun s o wr => ∃ l' es, s = bs l' ∧ RdSt l l' es o w wr) (fun s _ _ => bsLen s)
  case atStart => exact ⟨l, [], rfl, ⟨World.ownsRow_nil _ _ _ _, by simp, by simp, Below.refl _ _⟩⟩
  case round =>
    obtain ⟨l', es, rfl, hst⟩ := hrel
    obtain ⟨ao, ca, rfl⟩ := owns_slice hst.row
    have ST := Lib.hid hst
    clear hst
    have hlen := ST.out.len
    match l', ST, hlen with
    | [], ST, hlen =>
      obtain ⟨e1, e2⟩ := rd_end ST.out.eq
      by_cases hbig : 2000 < es.length
      · rw [if_pos hbig] at e1 e2
        have E1 := Lib.hid e1
        have E2 := Lib.hid e2
        have hbig' : (2000 : Int) < es.length := by omega
        clear e1 e2 hbig
        go_wp2_with fail
        go_ret2
        exact ⟨_, by rw [E1.out]; rfl, by rw [E2.out]; exact EvsOf.nil _, ST.out.bel⟩
      · rw [if_neg hbig] at e1 e2
        have E1 := Lib.hid e1
        have E2 := Lib.hid e2
        have hbig' : ¬ (2000 : Int) < es.length := by omega
        clear e1 e2 hbig
        go_wp2_with fail
        go_ret2
        exact ⟨_, by rw [E1.out]; rfl, by rw [E2.out]; exact evs_of_own ST.out.row, ST.out.bel⟩
    | c :: l', ST, hlen =>
      obtain ⟨L, hL⟩ : ∃ L, c :: l' = L := ⟨_, rfl⟩
      have NE := Lib.hid (show L ≠ [] by rw [← hL]; simp)
      rw [hL] at ST hlen ⊢
      have hne : L.isEmpty = false := by
        rw [← hL]; simp
      clear hL
      have D := fun w h => Lib.hid (decode_any L w h (by omega))
      obtain ⟨x, hx⟩ : ∃ x, decE L = x := ⟨_, rfl⟩
      rw [hx] at D
      have HX := Lib.hid hx
      cases hd : decB L with
      | false =>
        obtain ⟨e1, e2, e3⟩ := decF_no hd
        obtain ⟨f1, f2⟩ := rd_bad ST.out.eq hd NE.out
        rw [e2, e3] at D
        unfold evV at D
        have E1 := Lib.hid f1
        have E2 := Lib.hid f2
        clear e1 e2 e3 f1 f2 hd hx
        go_wp2_with fail
        refine ((D _ (G.out.below ST.out.bel)).out).mono ?_
        rintro r w1 ⟨rfl, hB1⟩
        have S1 := Lib.hid (ST.out.below hB1)
        clear hB1
        go_wp2_with fail
        go_ret2
        exact ⟨_, by rw [E1.out]; rfl, by rw [E2.out]; exact EvsOf.nil _, S1.out.bel.alloc S1.out.bel.size _⟩
      | true =>
        have e3 : decF L = 0 := by unfold decF; rw [if_pos hd]
        rw [e3] at D
        unfold evV at D
        have NX := Lib.hid (fun o' w' => ST.out.next (o' := o') (w' := w') hd)
        have LT := Lib.hid (decR_lt hd)
        obtain ⟨l2, hl2⟩ : ∃ l2, decR L = l2 := ⟨_, rfl⟩
        rw [hl2] at D NX LT
        rw [hx] at NX
        clear e3 hd hx hl2
        go_wp2_with fail
        refine ((D _ (G.out.below ST.out.bel)).out).mono ?_
        rintro r w1 ⟨rfl, hB1⟩
        have S1 := Lib.hid (ST.out.below hB1)
        clear hB1
        go_wp2_with (at_builtin; refine wpList_append_own _ rfl _ _ 43 rfl w.heap.size 23 i0 _ 8 56 Tryd.underlying43 hi hz0 hz1 hz2 rfl (by decide) _ _ _ rfl (show World.ownsRow _ _ _ _ _ _ _ from (S1.out.row.alloc _).alloc _) ⟨w1.heap.size + 1, 0, none⟩ 1 1 (evC x).toList rfl rfl ?c1 ?c2 ?c3 ?c4 ?c5 ?_)
        case c1 =>
          intro j u hj
          have := range_lit (w1.alloc (.cells (evC x) 23)) (evC x).toList 23 j u hj
          rw [World.size_alloc] at this
          exact this
        case c2 => exact evC_one x
        case c3 => unfold maxLen; omega
        case c4 => omega
        case c5 => have := S1.out.bel.size; simp; omega
        intro v' w7 hown7 hgrow7 _
        obtain ⟨aR', cR', rfl⟩ := owns_slice hown7
        have B7 : Below w.heap.size w w7 := by
          have b1 := (S1.out.bel.alloc S1.out.bel.size (.cells (evC x) 23))
          have b2 := b1.alloc b1.size (.cells (evC x) 23)
          exact b2.grown hgrow7 b2.size (fun k hk => (S1.out.row.lt k hk).1)
        have S7 := Lib.hid (NX.out _ w7 hown7 B7)
        clear hown7 hgrow7 B7
        go_wp2_with fail
        go_roundw
        case rel => exact ⟨l2, es ++ [x], rfl, S7.out⟩
        case measure => rw [bsLen_bs, bsLen_bs]; exact LT.out
/-- The same of the reference. -/
def RReadPost (l : List UInt8) (w : World) (r : Ending) (w' : World) : Prop :=
  ∃ v, r = .returned (.tuple #[v, .int .i64 (rdF l)]) ∧ EvsOf w' v (rdE l) ∧ Below w.heap.size w w'

set_option maxHeartbeats 4000000 in
theorem rread_any (l : List UInt8) (w : World) (hl : l.length ≤ 1000000) :
    Calls Tryd.prog 20 #[bs l] w (RReadPost l w) := by
  obtain ⟨i0, hi, hz0, hz1, hz2⟩ := info_parts evinfo
  go_enter Tryd.func20, Tryd.ntmps20
  go_wp2_with fail
  go_loopw [4, 5] (fun o at' wr => ∃ (a : Nat) (l' : List UInt8) (es : List Ev), at' = .int .i64 a ∧ a + l'.length = l.length ∧ l' = l.drop a ∧ RdSt l l' es o w wr) (fun _ at' _ => l.length - (intOf at').toNat)
  case atStart => exact ⟨0, l, [], rfl, by omega, rfl, ⟨World.ownsRow_nil _ _ _ _, by simp, by simp, Below.refl _ _⟩⟩
  case round =>
    obtain ⟨a, l', es, rfl, hal, hla, hst⟩ := hrel
    obtain ⟨ao, ca, rfl⟩ := owns_slice hst.row
    have ST := Lib.hid hst
    have HLA := Lib.hid hla
    clear hst hla
    have hlen := ST.out.len
    by_cases hend : l.length ≤ a
    · have hnil : l' = [] := List.eq_nil_of_length_eq_zero (by omega)
      have hge : (l.length : Int) ≤ (a : Int) := by omega
      have EQ : readA l = (es ++ (readA []).1, (readA []).2) := by have := ST.out.eq; rw [hnil] at this; exact this
      obtain ⟨e1, e2⟩ := rd_end EQ
      clear EQ hnil hend HLA
      by_cases hbig : 2000 < es.length
      · rw [if_pos hbig] at e1 e2
        have E1 := Lib.hid e1
        have E2 := Lib.hid e2
        have hbig' : (2000 : Int) < es.length := by omega
        clear e1 e2 hbig
        go_wp2_with fail
        go_ret2
        exact ⟨_, by rw [E1.out]; rfl, by rw [E2.out]; exact EvsOf.nil _, ST.out.bel⟩
      · rw [if_neg hbig] at e1 e2
        have E1 := Lib.hid e1
        have E2 := Lib.hid e2
        have hbig' : ¬ (2000 : Int) < es.length := by omega
        clear e1 e2 hbig
        go_wp2_with fail
        go_ret2
        exact ⟨_, by rw [E1.out]; rfl, by rw [E2.out]; exact evs_of_own ST.out.row, ST.out.bel⟩
    · have hlt : (a : Int) < (l.length : Int) := by omega
      have NE := Lib.hid (show l' ≠ [] by intro e; rw [e] at hal; simp at hal; omega)
      have D := fun w h => Lib.hid (rdecode_any l' w h)
      have D := fun w => D w (by omega)
      rw [HLA.out] at D
      have D := D
      have HD : Hid (∀ w, Calls Tryd.prog 15 #[bs (l.drop a)] w fun r w' => r = .returned (.tuple #[gotV (decE l') (gotS l'), .int .i64 (decF l')]) ∧ Below w.heap.size w w') := Lib.hid (fun w => by have := (D w).out; rw [← HLA.out] at this ⊢; exact this)
      clear D
      obtain ⟨x, hx⟩ : ∃ x, decE l' = x := ⟨_, rfl⟩
      rw [hx] at HD
      have HX := Lib.hid hx
      cases hd : decB l' with
      | false =>
        obtain ⟨e1, e2, e3⟩ := decF_no hd
        have e4 : gotS l' = 0 := by simp [gotS, hd]
        obtain ⟨f1, f2⟩ := rd_bad ST.out.eq hd NE.out
        rw [e3, e4] at HD
        unfold gotV at HD
        have E1 := Lib.hid f1
        have E2 := Lib.hid f2
        clear e1 e2 e3 e4 f1 f2 hd hx hend
        go_wp2_with fail
        refine (HD.out _).mono ?_
        rintro r w1 ⟨rfl, hB1⟩
        have S1 := Lib.hid (ST.out.below hB1)
        clear hB1
        go_wp2_with fail
        go_ret2
        exact ⟨_, by rw [E1.out]; rfl, by rw [E2.out]; exact EvsOf.nil _, S1.out.bel.alloc S1.out.bel.size _⟩
      | true =>
        have hok : okJ l' 7 = true := by unfold decB at hd; rw [Bool.and_eq_true] at hd; exact hd.1
        obtain ⟨h1, h2⟩ := sz_drop l' 7 hok
        have e2 : decR l' = l'.drop (szN l' 7) := by unfold decR; rw [if_pos hd, h1]
        have e3 : decF l' = 0 := by unfold decF; rw [if_pos hd]
        have e4 : gotS l' = (szN l' 7 : Int) := by unfold gotS; rw [if_pos hd]
        have NX := Lib.hid (fun o' w' => ST.out.next (o' := o') (w' := w') hd)
        have LT := decR_lt hd
        rw [e3, e4] at HD
        obtain ⟨z, hz⟩ : ∃ z, szN l' 7 = z := ⟨_, rfl⟩
        rw [hz] at HD e2 h2
        have hR : decR l' = l.drop (a + z) := by rw [e2, HLA.out, List.drop_drop]
        have hRl : (decR l').length = l'.length - z := by rw [e2, List.length_drop]
        obtain ⟨l2, hl2⟩ : ∃ l2, decR l' = l2 := ⟨_, rfl⟩
        rw [hl2] at NX hR LT hRl
        rw [hx] at NX
        have HR := Lib.hid hR
        have HZ := Lib.hid (show a + z + l2.length = l.length ∧ 0 < z by omega)
        unfold gotV at HD
        have hzb : a + z ≤ 1000000 := by omega
        clear e2 e3 e4 hd hx hl2 hR hRl LT h1 h2 hz hok hend
        go_wp2_with fail
        refine (HD.out _).mono ?_
        rintro r w1 ⟨rfl, hB1⟩
        have S1 := Lib.hid (ST.out.below hB1)
        clear hB1
        go_wp2_with (at_builtin; refine wpList_append_own _ rfl _ _ 43 rfl w.heap.size 23 i0 _ 8 56 Tryd.underlying43 hi hz0 hz1 hz2 rfl (by decide) _ _ _ rfl (show World.ownsRow _ _ _ _ _ _ _ from (S1.out.row.alloc _).alloc _) ⟨w1.heap.size + 1, 0, none⟩ 1 1 (evC x).toList rfl rfl ?c1 ?c2 ?c3 ?c4 ?c5 ?_)
        case c1 =>
          intro j u hj
          have := range_lit (w1.alloc (.cells #[.int .i64 x.kind, .int .i64 x.g, .int .i64 x.ch, .int .i64 x.cs, .int .i64 x.va, .int .i64 x.ma, .bool x.sd, .bool x.ok, .int .i64 z] 36)) (evC x).toList 23 j u hj
          rw [World.size_alloc] at this
          exact this
        case c2 => exact evC_one x
        case c3 => unfold maxLen; omega
        case c4 => omega
        case c5 => have := S1.out.bel.size; simp; omega
        intro v' w7 hown7 hgrow7 _
        obtain ⟨aR', cR', rfl⟩ := owns_slice hown7
        have hb1 := w1.heap.size
        have GOT : w7.heap[w1.heap.size]? = some (Obj.cells #[.int .i64 x.kind, .int .i64 x.g, .int .i64 x.ch, .int .i64 x.cs, .int .i64 x.va, .int .i64 x.ma, .bool x.sd, .bool x.ok, .int .i64 z] 36 (0, 0)) := by
          rw [hgrow7.block _ (by simp; omega) (fun e => by have := (S1.out.row.lt _ e.symm).2; omega)]
          rw [heap_alloc_old _ _ (by simp)]
          exact heap_alloc_new w1 _
        obtain ⟨q0, q1, q2, q3, q4, q5, q6, q7, q8⟩ := nine_cells GOT
        have B7 : Below w.heap.size w w7 := by
          have b1 := (S1.out.bel.alloc S1.out.bel.size (.cells #[.int .i64 x.kind, .int .i64 x.g, .int .i64 x.ch, .int .i64 x.cs, .int .i64 x.va, .int .i64 x.ma, .bool x.sd, .bool x.ok, .int .i64 z] 36))
          have b2 := b1.alloc b1.size (.cells (evC x) 23)
          exact b2.grown hgrow7 b2.size (fun k hk => (S1.out.row.lt k hk).1)
        have S7 := Lib.hid (NX.out _ w7 hown7 B7)
        clear hown7 hgrow7 B7 GOT
        go_wp2_with fail
        go_roundw
        case rel => exact ⟨a + z, l2, es ++ [x], by go_num, HZ.out.1, HR.out, S7.out⟩
        case measure => have := HZ.out; simp [intOf]; omega
end Go.Proofs.YtmmkdbcgkafolaaDoor

