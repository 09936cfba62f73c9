
/-
  Package sheet: each, of numbers, with the two functions that are handed to it; the closure that puts.
  Package sheet: Encode.
  Package sheet: Encode, walked.
-/
import Derived.Test.YtpefjcmaggimhaaSheD
namespace Go.Proofs.Ytpefjcmaggimhaa
open Go.RowKit
set_option linter.unusedVariables false
set_option linter.unusedSimpArgs false
set_option maxRecDepth 100000

theorem below_none {w w' : World} (h : Below w.heap.size w w') : w.grownBy w' none := ⟨h.os, h.tape, h.output, h.size, fun k hk _ => h.block k hk⟩
def incI (n : Int) : Int := n + 1
def decI (n : Int) : Int := n - 1
theorem enc2_any (n : Int) (w : World) (h0 : -4611686018427387904 ≤ n) (h1 : n ≤ 4611686018427387904) :
    Calls Try.prog 27 #[.int .i64 n] w fun r w' => r = .returned (.int .i64 (incI n)) ∧ w = w' := by
  unfold incI
  go_enter Try.func27, Try.ntmps27
  go_wp2_with fail
  go_ret
  exact ⟨by go_num, rfl⟩
def EachPost_incI (l : List Int) (w : World) (r : Ending) (w' : World) : Prop := ∃ v', r = .returned v' ∧ w'.ownsRow w.heap.size 3 1 v' l.length (ints (l.map incI)) ∧ Below w.heap.size w w'
set_option maxHeartbeats 1000000 in
theorem each_enc2 (v : Value) (l : List Int) (w : World) (h : SlI w v l) (hN : l.length ≤ 10000) (hr : ∀ j, j < l.length → -4611686018427387904 ≤ l.getD j 0 ∧ l.getD j 0 ≤ 4611686018427387904) :
    Calls Try.prog 26 #[v, .func (.func 27) #[] #[]] w (EachPost_incI l w) := by
  obtain ⟨ao, cap, rfl⟩ := slI_shape h
  obtain ⟨n, hn⟩ : ∃ n, l.length = n := ⟨_, rfl⟩
  rw [hn] at h hN hr ⊢
  have H := Lib.hid h
  have HN := Lib.hid hn
  have HR := Lib.hid hr
  clear h hn hr
  go_enter Try.func26, Try.ntmps26
  go_wp2_with fail
  go_loopw [10, 5] (fun i z wr => ∃ k : Nat, k ≤ n ∧ i = .int .i64 k ∧ wr.ownsRow w.heap.size 3 1 z k (ints ((l.map incI).take k)) ∧ Below w.heap.size w wr) (fun i _ _ => n - (intOf i).toNat)
  case atStart => exact ⟨0, by omega, rfl, World.ownsRow_nil _ _ _ _, Below.refl _ _⟩
  case round =>
    obtain ⟨k, hk, rfl, hrow, hb⟩ := hrel
    obtain ⟨az, cz, rfl⟩ := owns_slice hrow
    have HB := Lib.hid hb
    have ROW := Lib.hid hrow
    clear hb hrow
    by_cases hlt : k < n
    · have hlt' : (k : Int) < (n : Int) := by omega
      obtain ⟨b', o', rfl, c0⟩ := slI_at (slI_below H.out (Nat.le_refl _) HB.out) k (by have := HN.out; omega)
      obtain ⟨r0, r1⟩ := HR.out k hlt
      have TK := Lib.hid (show (l.map incI).take (k + 1) = (l.map incI).take k ++ [incI (l.getD k 0)] from by
        rw [List.take_add_one, List.getElem?_map, List.getD_eq_getElem?_getD, List.getElem?_eq_getElem (by have := HN.out; omega)]; rfl)
      obtain ⟨x, hx⟩ : ∃ x, l.getD k 0 = x := ⟨_, rfl⟩
      rw [hx] at c0 r0 r1 TK
      have CA := Lib.hid (enc2_any x wr r0 r1)
      obtain ⟨y, hy⟩ : ∃ y, incI x = y := ⟨_, rfl⟩
      rw [hy] at CA TK
      clear hx hy r0 r1
      go_wp2_with fail
      refine CA.out.mono ?_
      rintro r w2 ⟨rfl, rfl⟩
      have SZ := HB.out.size
      go_wp2_with (at_builtin; refine wpList_append_ints rfl _ _ rfl w.heap.size (.slice az k cz) k _ rfl (show World.ownsRow _ _ _ _ _ _ _ from ROW.out.alloc _) wr.heap.size 1 1 [y] rfl rfl (heap_alloc_new _ _) (by omega) (by omega) (by simp; omega) ?_)
      intro g7 cap7 w7 hown hgr
      have B7 := Lib.hid (show Below w.heap.size w w7 from (HB.out.alloc HB.out.size (.cells #[.int .i64 y] 3)).grown hgr (by simp; omega) (fun k hk => (ROW.out.lt k hk).1))
      have O7 := Lib.hid hown
      clear hown hgr c0
      go_wp2_with fail
      go_roundw
      case rel => exact ⟨k + 1, by omega, by go_num, by rw [TK.out, ints_append]; exact O7.out, B7.out⟩
      case measure => simp [intOf] <;> omega
    · obtain rfl : k = n := by omega
      have T := Lib.hid (show (l.map incI).take k = l.map incI from by rw [List.take_of_length_le (by rw [List.length_map]; have := HN.out; omega)])
      go_wp2_with fail
      go_ret
      exact ⟨_, rfl, by rw [HN.out, ← T.out]; exact ROW.out, HB.out⟩
theorem dec1_any (n : Int) (w : World) (h0 : -4611686018427387904 ≤ n) (h1 : n ≤ 4611686018427387904) :
    Calls Try.prog 39 #[.int .i64 n] w fun r w' => r = .returned (.int .i64 (decI n)) ∧ w = w' := by
  unfold decI
  go_enter Try.func39, Try.ntmps39
  go_wp2_with fail
  go_ret
  exact ⟨by go_num, rfl⟩
def EachPost_decI (l : List Int) (w : World) (r : Ending) (w' : World) : Prop := ∃ v', r = .returned v' ∧ w'.ownsRow w.heap.size 3 1 v' l.length (ints (l.map decI)) ∧ Below w.heap.size w w'
set_option maxHeartbeats 1000000 in
theorem each_dec1 (v : Value) (l : List Int) (w : World) (h : SlI w v l) (hN : l.length ≤ 10000) (hr : ∀ j, j < l.length → -4611686018427387904 ≤ l.getD j 0 ∧ l.getD j 0 ≤ 4611686018427387904) :
    Calls Try.prog 26 #[v, .func (.func 39) #[] #[]] w (EachPost_decI l w) := by
  obtain ⟨ao, cap, rfl⟩ := slI_shape h
  obtain ⟨n, hn⟩ : ∃ n, l.length = n := ⟨_, rfl⟩
  rw [hn] at h hN hr ⊢
  have H := Lib.hid h
  have HN := Lib.hid hn
  have HR := Lib.hid hr
  clear h hn hr
  go_enter Try.func26, Try.ntmps26
  go_wp2_with fail
  go_loopw [10, 5] (fun i z wr => ∃ k : Nat, k ≤ n ∧ i = .int .i64 k ∧ wr.ownsRow w.heap.size 3 1 z k (ints ((l.map decI).take k)) ∧ Below w.heap.size w wr) (fun i _ _ => n - (intOf i).toNat)
  case atStart => exact ⟨0, by omega, rfl, World.ownsRow_nil _ _ _ _, Below.refl _ _⟩
  case round =>
    obtain ⟨k, hk, rfl, hrow, hb⟩ := hrel
    obtain ⟨az, cz, rfl⟩ := owns_slice hrow
    have HB := Lib.hid hb
    have ROW := Lib.hid hrow
    clear hb hrow
    by_cases hlt : k < n
    · have hlt' : (k : Int) < (n : Int) := by omega
      obtain ⟨b', o', rfl, c0⟩ := slI_at (slI_below H.out (Nat.le_refl _) HB.out) k (by have := HN.out; omega)
      obtain ⟨r0, r1⟩ := HR.out k hlt
      have TK := Lib.hid (show (l.map decI).take (k + 1) = (l.map decI).take k ++ [decI (l.getD k 0)] from by
        rw [List.take_add_one, List.getElem?_map, List.getD_eq_getElem?_getD, List.getElem?_eq_getElem (by have := HN.out; omega)]; rfl)
      obtain ⟨x, hx⟩ : ∃ x, l.getD k 0 = x := ⟨_, rfl⟩
      rw [hx] at c0 r0 r1 TK
      have CA := Lib.hid (dec1_any x wr r0 r1)
      obtain ⟨y, hy⟩ : ∃ y, decI x = y := ⟨_, rfl⟩
      rw [hy] at CA TK
      clear hx hy r0 r1
      go_wp2_with fail
      refine CA.out.mono ?_
      rintro r w2 ⟨rfl, rfl⟩
      have SZ := HB.out.size
      go_wp2_with (at_builtin; refine wpList_append_ints rfl _ _ rfl w.heap.size (.slice az k cz) k _ rfl (show World.ownsRow _ _ _ _ _ _ _ from ROW.out.alloc _) wr.heap.size 1 1 [y] rfl rfl (heap_alloc_new _ _) (by omega) (by omega) (by simp; omega) ?_)
      intro g7 cap7 w7 hown hgr
      have B7 := Lib.hid (show Below w.heap.size w w7 from (HB.out.alloc HB.out.size (.cells #[.int .i64 y] 3)).grown hgr (by simp; omega) (fun k hk => (ROW.out.lt k hk).1))
      have O7 := Lib.hid hown
      clear hown hgr c0
      go_wp2_with fail
      go_roundw
      case rel => exact ⟨k + 1, by omega, by go_num, by rw [TK.out, ints_append]; exact O7.out, B7.out⟩
      case measure => simp [intOf] <;> omega
    · obtain rfl : k = n := by omega
      have T := Lib.hid (show (l.map decI).take k = l.map decI from by rw [List.take_of_length_le (by rw [List.length_map]; have := HN.out; omega)])
      go_wp2_with fail
      go_ret
      exact ⟨_, rfl, by rw [HN.out, ← T.out]; exact ROW.out, HB.out⟩

/-! ### put -/
theorem put1_any (B b : Nat) (xs : List UInt8) (n : Int) (w : World) (h : Lib.IsBuilder 54 5 B b (Lib.byteCells xs) w) (hlen : xs.length ≤ 900000000) (hB : B ≤ w.heap.size) :
    Calls Try.prog 21 #[.int .i64 n, .pointer (some ⟨b, 0, none⟩)] w fun r w' => (∃ q, r = .returned q) ∧ Lib.IsBuilder 54 5 B b (Lib.byteCells (xs ++ putS n)) w' ∧ Below B w w' := by
  have HI := Lib.hid h
  have n3 := putS_len n
  clear h
  go_enter Try.func21, Try.ntmps21
  go_wp2_with fail
  refine (put_any n w).mono ?_
  rintro r w3 ⟨rfl, B3⟩
  have I3 := Lib.hid (bld_below HI.out B3)
  have H3 := Lib.hid (show Below B w w3 from (Below.refl B w).trans (B3.mono hB))
  have S3 : B ≤ w3.heap.size := Nat.le_trans hB B3.size
  clear B3
  go_wp2_with fail
  refine (writek_bs B b _ (putS n) w3 I3.out (by omega) S3).mono ?_
  rintro r w4 ⟨⟨q4, rfl⟩, I4, B4, K4⟩
  have H4 := Lib.hid (H3.out.trans B4)
  have J4 := Lib.hid I4
  clear B4 I4 K4
  go_wp2_with fail
  go_end0
  exact ⟨⟨_, rfl⟩, J4.out, H4.out⟩
end Go.Proofs.Ytpefjcmaggimhaa
namespace Go.Proofs.Ytpefjcmaggimhaa
open Go.RowKit
set_option linter.unusedVariables false
set_option linter.unusedSimpArgs false
set_option maxRecDepth 100000

def encP (n : Int) (p : List Opn) : List UInt8 := putS p.length ++ p.flatMap (fun o => encO o n)
def encH (s : Scr) : List UInt8 := putS s.t ++ putS s.m ++ putS s.ps.length
def encB (s : Scr) : List UInt8 := encH s ++ s.ps.flatMap (encP s.ps.length)
def encS (s : Scr) : List UInt8 := if chkS s = 0 then encB s ++ putLS (s.pl.map incI) ++ putLS s.dr else []
structure Good (s : Scr) : Prop where
  t : 1 ≤ s.t ∧ s.t ≤ 256
  m : 1 ≤ s.m ∧ s.m ≤ 1048576
  p : 1 ≤ s.ps.length ∧ s.ps.length ≤ 8
  l : s.pl.length ≤ 200
  d : s.dr.length ≤ 64
  o : ∀ k, k < s.ps.length → (s.ps.getD k []).length ≤ 32
  pl : ∀ k, k < s.pl.length → -1 ≤ s.pl.getD k 0 ∧ s.pl.getD k 0 ≤ 1000
  dr : ∀ k, k < s.dr.length → 0 ≤ s.dr.getD k 0 ∧ s.dr.getD k 0 ≤ 1000
  c : ∀ k, k < s.ps.length → ∀ j, j < (s.ps.getD k []).length → chkO ((s.ps.getD k []).getD j default) s.ps.length = 0
theorem all_at {l : List (List Opn)} {p : List Opn → Bool} (h : l.all p = true) {k : Nat} (hk : k < l.length) : p (l.getD k []) = true := List.all_eq_true.1 h _ (getD_mem hk)
theorem any_at {l : List (List Opn)} {p : List Opn → Bool} (h : l.any p = false) {k : Nat} (hk : k < l.length) : p (l.getD k []) = false := by
  have := List.any_eq_false.1 h _ (getD_mem hk)
  simpa using this
theorem anyI_at {l : List Int} {p : Int → Bool} (h : l.any p = false) {k : Nat} (hk : k < l.length) : p (l.getD k 0) = false := by
  have := List.any_eq_false.1 h _ (getD_memI hk)
  simpa using this
theorem getD_memO {ps : List Opn} {k : Nat} (hk : k < ps.length) : ps.getD k default ∈ ps := by
  rw [List.getD_eq_getElem?_getD, List.getElem?_eq_getElem hk]; exact List.getElem_mem _
theorem good_of {s : Scr} (h : chkS s = 0) : Good s := by
  unfold chkS at h
  rcases tm_ways s with ⟨hb, _⟩ | ⟨hb, h1, h2, h3, h4⟩
  · rw [hb] at h; simp at h
  · rw [hb] at h
    simp only [Bool.false_eq_true, if_false] at h
    cases hl : longB s with
    | true => rw [hl] at h; simp at h
    | false =>
      rw [hl] at h
      simp only [Bool.false_eq_true, if_false] at h
      cases hf : frmB s with
      | true => rw [hf] at h; simp at h
      | false =>
        rw [hf] at h
        simp only [Bool.false_eq_true, if_false] at h
        cases ho : okPs s.ps s.ps.length with
        | false => rw [ho] at h; simp at h
        | true =>
          unfold longB at hl
          simp only [Bool.or_eq_false_iff, decide_eq_false_iff_not] at hl
          unfold frmB at hf
          simp only [Bool.or_eq_false_iff, decide_eq_false_iff_not] at hf
          obtain ⟨l1, l2, l3, l4⟩ := hl
          obtain ⟨f1, f2, f3⟩ := hf
          refine ⟨by omega, by omega, by omega, by omega, by omega, fun k hk => ?_, fun k hk => ?_, fun k hk => ?_, fun k hk j hj => ?_⟩
          · have := any_at l4 hk
            unfold long1 at this
            have := of_decide_eq_false this
            omega
          · have := anyI_at f2 hk
            rcases out1_ways (-1) 1000 (s.pl.getD k 0) with ⟨e, _⟩ | ⟨e, _⟩ | ⟨_, g1, g2⟩
            · rw [e] at this; cases this
            · rw [e] at this; cases this
            · omega
          · have := anyI_at f3 hk
            rcases out1_ways 0 1000 (s.dr.getD k 0) with ⟨e, _⟩ | ⟨e, _⟩ | ⟨_, g1, g2⟩
            · rw [e] at this; cases this
            · rw [e] at this; cases this
            · omega
          · unfold okPs at ho
            have h5 := all_at ho hk
            unfold okP at h5
            have h6 := List.all_eq_true.1 h5 _ (getD_memO hj)
            simpa using h6
theorem encO_len (o : Opn) (n : Int) : (encO o n).length ≤ 200 := by
  unfold encO
  split
  · rename_i h
    obtain ⟨_, _, h4, _⟩ := chkO_zero h
    have h1 := numsO_len o n
    have h2 := flat_len (numsO o n)
    omega
  · simp
theorem flatO_len (n : Int) : ∀ p : List Opn, (p.flatMap (fun o => encO o n)).length ≤ p.length * 200
  | [] => by simp
  | o :: p => by
    rw [List.flatMap_cons, List.length_append, List.length_cons]
    have := encO_len o n
    have := flatO_len n p
    omega
theorem take_snocO {p : List Opn} {j : Nat} (hj : j < p.length) (n : Int) : (p.take (j + 1)).flatMap (fun o => encO o n) = (p.take j).flatMap (fun o => encO o n) ++ encO (p.getD j default) n := by
  have e : p.take (j + 1) = p.take j ++ [p.getD j default] := by rw [List.take_add_one]; simp [List.getD, hj]
  rw [e, List.flatMap_append]; simp
theorem take_snocP {ps : List (List Opn)} {k : Nat} (hk : k < ps.length) (n : Int) : (ps.take (k + 1)).flatMap (encP n) = (ps.take k).flatMap (encP n) ++ encP n (ps.getD k []) := by
  have e : ps.take (k + 1) = ps.take k ++ [ps.getD k []] := by rw [List.take_add_one]; simp [List.getD, hk]
  rw [e, List.flatMap_append]; simp
theorem flatP_len (n : Int) : ∀ ps : List (List Opn), (∀ p, p ∈ ps → p.length ≤ 32) → (ps.flatMap (encP n)).length ≤ ps.length * 7000
  | [], _ => by simp
  | p :: ps, h => by
    rw [List.flatMap_cons, List.length_append, List.length_cons]
    have h1 := flatP_len n ps (fun q hq => h q (by simp [hq]))
    have h2 := h p (by simp)
    have h3 := flatO_len n p
    have h4 := putS_len (p.length : Int)
    have h5 : (encP n p).length ≤ 7000 := by unfold encP; rw [List.length_append]; omega
    omega
theorem putLS_lenS (l : List Int) (hl : l.length ≤ 2000) : (putLS l).length ≤ 20000 := by
  unfold putLS
  split
  · rw [List.length_append]
    have h1 := putS_len (l.length : Int)
    have h2 := flat_len l
    omega
  · simp
theorem putS_pos {n : Int} (h0 : 0 ≤ n) (h1 : n ≤ 1000000) : putS n ≠ [] := by
  obtain ⟨k, rfl⟩ := Int.eq_ofNat_of_zero_le h0
  exact putS_head k (by omega)
end Go.Proofs.Ytpefjcmaggimhaa
namespace Go.Proofs.Ytpefjcmaggimhaa
open Go.RowKit
set_option linter.unusedVariables false
set_option linter.unusedSimpArgs false
set_option maxRecDepth 100000

/-- Where an encoding stands: these bytes are in the builder; nothing below it has turned. -/
structure EnSt (w1 : World) (xs : List UInt8) (w : World) : Prop where
  b : Lib.IsBuilder 54 5 w1.heap.size w1.heap.size (Lib.byteCells xs) w
  bel : Below w1.heap.size w1 w
theorem EnSt.size {w1 w : World} {xs : List UInt8} (h : EnSt w1 xs w) : w1.heap.size ≤ w.heap.size := h.bel.size
theorem EnSt.below {w1 w w' : World} {xs : List UInt8} (h : EnSt w1 xs w) (hB : Below w.heap.size w w') : EnSt w1 xs w' := ⟨bld_below h.b hB, h.bel.trans (hB.mono h.bel.size)⟩
theorem en_put {w1 w : World} {xs : List UInt8} (h : EnSt w1 xs w) (n : Int) (hl : xs.length ≤ 900000000) :
    Calls Try.prog 21 #[.int .i64 n, .pointer (some ⟨w1.heap.size, 0, none⟩)] w fun r w' => (∃ q, r = .returned q) ∧ EnSt w1 (xs ++ putS n) w' :=
  (put1_any w1.heap.size w1.heap.size xs n w h.b hl h.size).mono fun r w' ⟨hq, h1, h2⟩ => ⟨hq, h1, h.bel.trans h2⟩
theorem en_write {w1 w : World} {xs : List UInt8} (h : EnSt w1 xs w) (x : List UInt8) (hl : xs.length + x.length ≤ 1000000000) :
    Calls Try.prog 23 #[.pointer (some ⟨w1.heap.size, 0, none⟩), bs x] w fun r w' => (∃ q, r = .returned q) ∧ EnSt w1 (xs ++ x) w' :=
  (writek_bs w1.heap.size w1.heap.size xs x w h.b hl h.size).mono fun r w' ⟨hq, h1, h2, _⟩ => ⟨hq, h1, h.bel.trans h2⟩
theorem ownI_slI {w : World} {base : Nat} {v : Value} {l : List Int} {n : Nat} (h : w.ownsRow base 3 1 v n (ints l)) : SlI w v l := SlI.of_owns h

set_option maxHeartbeats 8000000 in
theorem sencode_any (vp vl vd : Value) (s : Scr) (w : World) (h : ScrAt w vp vl vd s) (hN : ScrN s) :
    Calls Try.prog 10 #[scrV vp vl vd s] w fun r w' => r = .returned (.tuple #[bs (encS s), .int .i64 (chkS s)]) ∧ Below w.heap.size w w' := by
  have CK := fun X hX => scheck_any vp vl vd s X (h.below (Nat.le_refl _) hX) hN
  have GO := good_of (s := s)
  have hp := h.p
  have hl := h.l
  have hd := h.d
  obtain ⟨t, m, ps, pl, dr⟩ := s
  unfold scrV scrC at CK ⊢
  dsimp only at h hp hl hd CK GO ⊢
  obtain ⟨ap, cp, rfl⟩ := hp.shape
  obtain ⟨al, cl, rfl⟩ := slI_shape hl
  obtain ⟨ad, cd, rfl⟩ := slI_shape hd
  obtain ⟨np, hnp⟩ : ∃ n, ps.length = n := ⟨_, rfl⟩
  obtain ⟨nl, hnl⟩ : ∃ n, pl.length = n := ⟨_, rfl⟩
  obtain ⟨nd, hnd⟩ : ∃ n, dr.length = n := ⟨_, rfl⟩
  rw [hnp] at hp
  rw [hnl] at hl
  rw [hnd] at hd
  rw [hnp, hnl, hnd] at CK
  rw [hnp, hnl, hnd]
  obtain ⟨c, hc⟩ : ∃ c, chkS ⟨t, m, ps, pl, dr⟩ = c := ⟨_, rfl⟩
  have EN := Lib.hid (show encS ⟨t, m, ps, pl, dr⟩ = if c = 0 then encB ⟨t, m, ps, pl, dr⟩ ++ putLS (pl.map incI) ++ putLS dr else [] from by unfold encS; rw [hc])
  rw [hc] at CK GO
  rw [hc]
  obtain ⟨W, hW⟩ : ∃ W, w.alloc (.cells #[.int .i64 t, .int .i64 m, .slice ap np cp, .slice al nl cl, .slice ad nd cd] 25) = W := ⟨_, rfl⟩
  obtain ⟨b1, z⟩ := five_new hW
  obtain ⟨z0, z1, z2, z3, z4⟩ := five_cells z
  have B1 := Lib.hid b1
  have HW := Lib.hid hW
  have HP := Lib.hid hp
  have HL := Lib.hid hl
  have HD := Lib.hid hd
  have HNP := Lib.hid hnp
  have HNL := Lib.hid hnl
  have HND := Lib.hid hnd
  have CK1 := Lib.hid (CK W b1)
  obtain ⟨q, hq⟩ : ∃ q, w.heap.size = q := ⟨_, rfl⟩
  have HQ := Lib.hid hq
  rw [hq] at z z0 z1 z2 z3 z4
  have KEEP := Lib.hid (show ∀ X, Below W.heap.size W X → X.cell? ⟨q, 0, none⟩ = some (.int .i64 t) ∧ X.cell? ⟨q, 1, none⟩ = some (.int .i64 m) ∧ X.cell? ⟨q, 2, none⟩ = some (.slice ap np cp) ∧ X.cell? ⟨q, 3, none⟩ = some (.slice al nl cl) ∧ X.cell? ⟨q, 4, none⟩ = some (.slice ad nd cd) from fun X hX =>
    five_cells ((hX.block _ (lt_of_heap z)).trans z))
  clear h hN hp hl hd hnp hnl hnd hc hW b1 z hq CK
  by_cases h0 : c = 0
  · have G := Lib.hid (GO h0)
    have EN2 := Lib.hid (show encS ⟨t, m, ps, pl, dr⟩ = encB ⟨t, m, ps, pl, dr⟩ ++ putLS (pl.map incI) ++ putLS dr from by rw [EN.out, if_pos h0])
    subst h0
    clear GO EN
    go_enter Try.func10, Try.ntmps10
    go_upto_region 1 with fail
    rw [HW.out, HQ.out]
    go_wp2_with fail
    refine CK1.out.mono ?_
    rintro r w1 ⟨rfl, hb1⟩
    have B2 := Lib.hid hb1
    have BN := bld_new w1 w1.heap.size (Nat.le_refl _)
    obtain ⟨Y, hY⟩ : ∃ Y, w1.alloc (.cells #[.pointer none, .slice none 0 0] 54) = Y := ⟨_, rfl⟩
    rw [hY] at BN
    have BY : Below w1.heap.size w1 Y := by rw [← hY]; exact (Below.refl _ _).alloc (Nat.le_refl _) _
    have E0 := Lib.hid (show EnSt w1 [] Y from ⟨BN, BY⟩)
    have HY := Lib.hid hY
    have KX := Lib.hid (fun X (hX : Below w1.heap.size w1 X) => KEEP.out X (below_trans hb1 hX hb1.size))
    have PX := Lib.hid (fun X (hX : Below w1.heap.size w1 X) => HP.out.below (Nat.le_refl _) (below_trans B1.out (below_trans hb1 hX hb1.size) B1.out.size))
    have LX := Lib.hid (fun X (hX : Below w1.heap.size w1 X) => slI_below HL.out (Nat.le_refl _) (below_trans B1.out (below_trans hb1 hX hb1.size) B1.out.size))
    have DX := Lib.hid (fun X (hX : Below w1.heap.size w1 X) => slI_below HD.out (Nat.le_refl _) (below_trans B1.out (below_trans hb1 hX hb1.size) B1.out.size))
    have BX := Lib.hid (fun X (hX : Below w1.heap.size w1 X) => below_trans (below_trans B1.out hb1 B1.out.size) hX (Nat.le_trans B1.out.size hb1.size))
    clear hb1 BN BY hY z0 z1 z2 z3 z4
    go_upto_region 5 with fail
    rw [HY.out]
    obtain ⟨b, hb⟩ : ∃ b, w1.heap.size = b := ⟨_, rfl⟩
    have HB := Lib.hid hb
    rw [hb]
    have WR := Lib.hid (fun xs X (h : EnSt w1 xs X) n hl => en_put h n hl)
    have WS := Lib.hid (fun xs X (h : EnSt w1 xs X) x hl => en_write h x hl)
    rw [hb] at WR WS
    clear hb
    obtain ⟨k0, k1, k2, k3, k4⟩ := KX.out Y E0.out.bel
    go_wp2_with fail
    refine (WR.out [] Y E0.out t (by simp)).mono ?_
    rintro r w2 ⟨⟨q2, rfl⟩, e2⟩
    rw [List.nil_append] at e2
    have E2 := Lib.hid e2
    clear e2 k0 k1 k2 k3 k4
    obtain ⟨k0, k1, k2, k3, k4⟩ := KX.out w2 E2.out.bel
    go_wp2_with fail
    refine (WR.out _ w2 E2.out m (by have := putS_len t; omega)).mono ?_
    rintro r w3 ⟨⟨q3, rfl⟩, e3⟩
    have E3 := Lib.hid e3
    clear e3 k0 k1 k2 k3 k4
    obtain ⟨k0, k1, k2, k3, k4⟩ := KX.out w3 E3.out.bel
    go_wp2_with fail
    refine (WR.out _ w3 E3.out np (by have := putS_len t; have := putS_len m; rw [List.length_append]; omega)).mono ?_
    rintro r w4 ⟨⟨q4, rfl⟩, e4⟩
    have E4 := Lib.hid (show EnSt w1 (encH ⟨t, m, ps, pl, dr⟩) w4 from by unfold encH; dsimp only; rw [HNP.out]; exact e4)
    have HL4 := Lib.hid (show (encH ⟨t, m, ps, pl, dr⟩).length ≤ 21 ∧ encH ⟨t, m, ps, pl, dr⟩ ≠ [] from by
      unfold encH
      have := putS_len t; have := putS_len m; have := putS_len (ps.length : Int)
      refine ⟨by rw [List.length_append, List.length_append]; dsimp only; omega, ?_⟩
      have := putS_pos (n := t) (by have := G.out.t; dsimp only at this; omega) (by have := G.out.t; dsimp only at this; omega)
      intro e
      rw [List.append_eq_nil_iff, List.append_eq_nil_iff] at e
      exact this e.1.1)
    obtain ⟨hd0, hhd⟩ : ∃ x, encH ⟨t, m, ps, pl, dr⟩ = x := ⟨_, rfl⟩
    rw [hhd] at E4 HL4
    have HHD := Lib.hid hhd
    have HN8 := Lib.hid (show np ≤ 8 from by have := G.out.p; dsimp only at this; have := HNP.out; omega)
    clear e4 k0 k1 k2 k3 k4 hhd
    obtain ⟨k0, k1, k2, k3, k4⟩ := KX.out w4 E4.out.bel
    go_wp2_with fail
    go_loopw [39] (fun i wr => ∃ k : Nat, k ≤ np ∧ i = .int .i64 k ∧ EnSt w1 (hd0 ++ (ps.take k).flatMap (encP np)) wr ∧ (hd0 ++ (ps.take k).flatMap (encP np)).length ≤ 21 + k * 7000) (fun i _ => np - (intOf i).toNat)
    case atStart => exact ⟨0, by omega, rfl, by simpa using E4.out, by simpa using HL4.out.1⟩
    case round =>
      obtain ⟨k, hk, rfl, hst, hlen⟩ := hrel
      have ST := Lib.hid hst
      have HLEN := Lib.hid hlen
      clear hst hlen k0 k1 k2 k3 k4
      have np8 := HN8.out
      by_cases hlt : k < np
      · have hlt' : (k : Int) < (np : Int) := by omega
        obtain ⟨b', o', u, rfl, c1, hu⟩ := (PX.out w1 (Below.refl _ _)).at k (by have := HNP.out; omega)
        obtain ⟨au, cu, rfl⟩ := hu.shape
        have NM := Lib.hid (show (ps.getD k []).length ≤ 32 from G.out.o k (by dsimp only; have := HNP.out; omega))
        have TS := Lib.hid (take_snocP (ps := ps) (k := k) (by have := HNP.out; omega) (np : Int))
        obtain ⟨p, hpp⟩ : ∃ p, ps.getD k [] = p := ⟨_, rfl⟩
        rw [hpp] at c1 hu NM TS
        obtain ⟨nm, hnm⟩ : ∃ n, p.length = n := ⟨_, rfl⟩
        rw [hnm] at c1 hu NM
        have HNM := Lib.hid hnm
        have HU := Lib.hid hu
        have c0 := (ST.out.bel.cell (p := ⟨b', o' + k, none⟩) (block_lt_of_cell c1)).trans c1
        obtain ⟨xs, hxs⟩ : ∃ xs, hd0 ++ (ps.take k).flatMap (encP np) = xs := ⟨_, rfl⟩
        rw [hxs] at ST HLEN
        have HXS := Lib.hid hxs
        have nm32 := NM.out
        clear hpp hnm hu c1 hxs
        go_wp2_with fail
        refine (WR.out xs wr ST.out nm (by have := HLEN.out; omega)).mono ?_
        rintro r w5 ⟨⟨q5, rfl⟩, e5⟩
        have E5 := Lib.hid e5
        clear e5 c0
        go_wp2_with fail
        go_loopw [49] (fun i wx => ∃ j : Nat, j ≤ nm ∧ i = .int .i64 j ∧ EnSt w1 (xs ++ putS nm ++ (p.take j).flatMap (fun o => encO o np)) wx ∧ (xs ++ putS nm ++ (p.take j).flatMap (fun o => encO o np)).length ≤ 28 + k * 7000 + j * 200) (fun i _ => nm - (intOf i).toNat)
        case atStart => exact ⟨0, by omega, rfl, by simpa using E5.out, by have := HLEN.out; have := putS_len (nm : Int); simp; omega⟩
        case round =>
          obtain ⟨j, hj, rfl, hst2, hlen2⟩ := hrel
          have ST2 := Lib.hid hst2
          have HLEN2 := Lib.hid hlen2
          clear hst2 hlen2
          by_cases hlt2 : j < nm
          · have hlt2' : (j : Int) < (nm : Int) := by omega
            obtain ⟨b2, o2, rfl, hop⟩ := (HU.out.below (Nat.le_refl _) ST2.out.bel).at j (by have := HNM.out; omega)
            obtain ⟨v, ⟨d0, d1, d2, d3, d4⟩, hcs⟩ := opc_cells hop
            have TO := Lib.hid (take_snocO (p := p) (j := j) (by have := HNM.out; omega) (np : Int))
            obtain ⟨x, hx⟩ : ∃ x, p.getD j default = x := ⟨_, rfl⟩
            rw [hx] at d0 d1 d2 d4 hcs TO
            obtain ⟨xk, xa, xb, xcs, xdf⟩ := x
            dsimp only at d0 d1 d2 d4 hcs
            obtain ⟨ac, cc, rfl⟩ := hcs.shape
            obtain ⟨W6, hW6⟩ : ∃ W6, wr.alloc (.cells #[.int .i64 xk, .int .i64 xa, .int .i64 xb, .slice ac xcs.length cc, .bool xdf] 48) = W6 := ⟨_, rfl⟩
            obtain ⟨b6, z6⟩ := five_new hW6
            obtain ⟨e0, e1, e2, e3, e4⟩ := five_cells z6
            have E6 := Lib.hid (ST2.out.below b6)
            obtain ⟨f0, f1, f2, f3, f4⟩ := KX.out W6 E6.out.bel
            have DC := dencode_any ⟨xk, xa, xb, xcs, xdf⟩ (.slice ac xcs.length cc) np W6 (hcs.below (Nat.le_refl _) b6)
            have XL := encO_len ⟨xk, xa, xb, xcs, xdf⟩ np
            obtain ⟨zz, hz⟩ : ∃ z, chkO ⟨xk, xa, xb, xcs, xdf⟩ np = z := ⟨_, rfl⟩
            obtain ⟨y, hy⟩ : ∃ y, encO ⟨xk, xa, xb, xcs, xdf⟩ np = y := ⟨_, rfl⟩
            rw [hz, hy] at DC
            rw [hy] at TO XL
            unfold opV at DC
            dsimp only at DC
            obtain ⟨nc, hnc⟩ : ∃ n, xcs.length = n := ⟨_, rfl⟩
            rw [hnc] at d3 e3 DC hW6
            have DC1 := Lib.hid DC
            have HW6 := Lib.hid hW6
            obtain ⟨q6, hq6⟩ : ∃ q, wr.heap.size = q := ⟨_, rfl⟩
            rw [hq6] at e0 e1 e2 e3 e4
            have HQ6 := Lib.hid hq6
            clear hx hcs hop hW6 b6 z6 DC hnc hz hy hq6
            go_upto_region 16 with fail
            rw [HW6.out, HQ6.out]
            clear d0 d1 d2 d3 d4
            go_wp2_with fail
            refine DC1.out.mono ?_
            rintro r w8 ⟨rfl, hb8⟩
            have E8 := Lib.hid (E6.out.below hb8)
            clear hb8 e0 e1 e2 e3 e4 f0 f1 f2 f3 f4
            obtain ⟨ys, hys⟩ : ∃ ys, xs ++ putS nm ++ (p.take j).flatMap (fun o => encO o np) = ys := ⟨_, rfl⟩
            rw [hys] at E8 HLEN2
            have HYS := Lib.hid hys
            clear hys
            go_wp2_with fail
            refine (WS.out ys w8 E8.out y (by have := HLEN2.out; omega)).mono ?_
            rintro r w9 ⟨⟨q9, rfl⟩, e9⟩
            have E9 := Lib.hid (show EnSt w1 (xs ++ putS nm ++ (p.take (j + 1)).flatMap (fun o => encO o np)) w9 ∧ (xs ++ putS nm ++ (p.take (j + 1)).flatMap (fun o => encO o np)).length ≤ 28 + k * 7000 + (j + 1) * 200 from by
              rw [TO.out, ← List.append_assoc, HYS.out]
              exact ⟨e9, by rw [List.length_append]; have := HLEN2.out; omega⟩)
            clear e9
            go_wp2_with fail
            go_roundw
            case rel => exact ⟨j + 1, by omega, by go_num, E9.out⟩
            case measure => simp [intOf] <;> omega
          · have ejm : nm = j := by omega
            subst ejm
            have E9 := Lib.hid (show EnSt w1 (hd0 ++ (ps.take (k + 1)).flatMap (encP np)) wr ∧ (hd0 ++ (ps.take (k + 1)).flatMap (encP np)).length ≤ 21 + (k + 1) * 7000 from by
              have e1 := ST2.out
              have e2 := HLEN2.out
              rw [List.take_of_length_le (by have := HNM.out; omega), List.append_assoc] at e1 e2
              rw [TS.out, ← List.append_assoc, HXS.out]
              unfold encP
              rw [HNM.out]
              exact ⟨e1, by omega⟩)
            go_wp2_with fail
            go_roundw
            case rel => exact ⟨k + 1, by omega, by go_num, E9.out⟩
            case measure => simp [intOf] <;> omega
      · have ekn : np = k := by omega
        subst ekn
        have E9 := Lib.hid (show EnSt w1 (encB ⟨t, m, ps, pl, dr⟩) wr ∧ (encB ⟨t, m, ps, pl, dr⟩).length ≤ 60000 ∧ encB ⟨t, m, ps, pl, dr⟩ ≠ [] from by
          have e1 := ST.out
          have e2 := HLEN.out
          rw [List.take_of_length_le (by have := HNP.out; omega)] at e1 e2
          unfold encB
          dsimp only
          rw [HHD.out, HNP.out]
          exact ⟨e1, by omega, fun e => HL4.out.2 (List.append_eq_nil_iff.1 e).1⟩)
        obtain ⟨bb, hbb⟩ : ∃ x, encB ⟨t, m, ps, pl, dr⟩ = x := ⟨_, rfl⟩
        rw [hbb] at E9 EN2
        obtain ⟨k0, k1, k2, k3, k4⟩ := KX.out wr E9.out.1.bel
        have EA := Lib.hid (each_enc2 (.slice al nl cl) pl wr (LX.out wr E9.out.1.bel) (by have := G.out.l; dsimp only at this; omega) (fun j hj => by have := G.out.pl j hj; dsimp only at this; omega))
        have LP : (pl.map incI).length ≤ 2000 := by rw [List.length_map]; have := G.out.l; dsimp only at this; omega
        have LD : dr.length ≤ 2000 := by have := G.out.d; dsimp only at this; omega
        have P1 := Lib.hid (fun v X (hX : SlI X v (pl.map incI)) => putL_any v (pl.map incI) X hX LP)
        have P2 := Lib.hid (fun v X (hX : SlI X v dr) => putL_any v dr X hX LD)
        obtain ⟨x1, hx1⟩ : ∃ x, putLS (pl.map incI) = x := ⟨_, rfl⟩
        obtain ⟨x2, hx2⟩ : ∃ x, putLS dr = x := ⟨_, rfl⟩
        obtain ⟨g1, hg1⟩ : ∃ x, putLE (pl.map incI) = x := ⟨_, rfl⟩
        obtain ⟨g2, hg2⟩ : ∃ x, putLE dr = x := ⟨_, rfl⟩
        have lx1 : x1.length ≤ 20000 := by rw [← hx1]; exact putLS_lenS _ LP
        have lx2 : x2.length ≤ 20000 := by rw [← hx2]; exact putLS_lenS _ LD
        rw [hx1, hg1] at P1
        rw [hx2, hg2] at P2
        rw [hx1, hx2] at EN2
        have lbb := E9.out.2.1
        have s1 : ¬ 9223372036854775807 < bb.length + x1.length := by omega
        have s2 : ¬ 9223372036854775807 < bb.length + (x1.length + x2.length) := by omega
        have s3 : ¬ 9223372036854775807 < bb.length + x1.length + x2.length := by omega
        clear hbb hx1 hx2 hg1 hg2 lx1 lx2 lbb LP LD
        go_wp2_with fail
        refine EA.out.mono ?_
        rintro r w5 ⟨v5, rfl, ho5, hb5⟩
        have E5 := Lib.hid (E9.out.1.below hb5)
        have S5 := Lib.hid (ownI_slI ho5)
        clear ho5 hb5 k0 k1 k2 k3 k4
        go_wp2_with fail
        refine (P1.out v5 w5 S5.out).mono ?_
        rintro r w6 ⟨rfl, hb6⟩
        have E6 := Lib.hid (E5.out.below hb6)
        clear hb6
        obtain ⟨k0, k1, k2, k3, k4⟩ := KX.out w6 E6.out.bel
        go_wp2_with fail
        refine (P2.out _ w6 (DX.out w6 E6.out.bel)).mono ?_
        rintro r w7 ⟨rfl, hb7⟩
        have E7 := Lib.hid (E6.out.below hb7)
        clear hb7 k0 k1 k2 k3 k4
        have SA := string_any w1.heap.size w1.heap.size bb w7 E7.out.b E9.out.2.2
        rw [HB.out] at SA
        have SA1 := Lib.hid (show Calls Try.prog 28 #[.pointer (some ⟨b, 0, none⟩)] w7 fun e w' => e = .returned (bs bb) ∧ Below b w7 w' from SA)
        clear SA
        go_wp2_with fail
        refine SA1.out.mono ?_
        rintro r w8 ⟨rfl, hb8⟩
        have B8 := Lib.hid (show Below w.heap.size w w8 from BX.out w8 (E7.out.bel.trans (by rw [HB.out]; exact hb8)))
        clear hb8
        go_wp2_with fail
        go_ret2
        exact ⟨by rw [EN2.out]; first | rfl | simp, B8.out⟩
  · have EN2 := Lib.hid (show encS ⟨t, m, ps, pl, dr⟩ = [] from by rw [EN.out, if_neg h0])
    have hd : (c == 0) = false := beq_eq_false_iff_ne.2 h0
    clear EN GO h0
    go_enter Try.func10, Try.ntmps10
    go_upto_region 1 with fail
    rw [HW.out, HQ.out]
    go_wp2_with fail
    refine CK1.out.mono ?_
    rintro r w1 ⟨rfl, hb1⟩
    have B2 := Lib.hid (below_trans B1.out hb1 B1.out.size)
    clear hb1
    go_wp2_with fail
    go_ret2
    exact ⟨by rw [EN2.out]; rfl, B2.out⟩
end Go.Proofs.Ytpefjcmaggimhaa

