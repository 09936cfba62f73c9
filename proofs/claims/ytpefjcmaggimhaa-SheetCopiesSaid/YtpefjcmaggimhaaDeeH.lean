
/-
  Package deed: Encode, and the reference's.
-/
import Derived.Test.YtpefjcmaggimhaaDeeG
import Derived.Test.YtpefjcmaggimhaaPutL
import Derived.Test.YtpefjcmaggimhaaKp
namespace Go.Proofs.Ytpefjcmaggimhaa
open Go.RowKit
set_option linter.unusedVariables false
set_option linter.unusedSimpArgs false
set_option maxRecDepth 100000

def encO (o : Opn) (p : Int) : List UInt8 := if chkO o p = 0 then flat (numsO o p) else []
theorem chkO_zero {o : Opn} {p : Int} (h : chkO o p = 0) : (1 ≤ p ∧ p ≤ 8) ∧ (1 ≤ o.k ∧ o.k ≤ 9) ∧ o.cs.length ≤ 4 ∧ okO o p = true := by
  unfold chkO at h
  split at h
  · omega
  · rename_i h1
    split at h
    · omega
    · rename_i h2
      split at h
      · rename_i h3
        exact ⟨by omega, by omega, by omega, h3⟩
      · omega
theorem numsO_len (o : Opn) (p : Int) : (numsO o p).length ≤ 3 * o.cs.length + 3 := by
  unfold numsO
  split
  · rw [List.length_append, nums_len]; simp; omega
  · split <;> split <;> simp
theorem numsO_head (o : Opn) (p : Int) : ∃ r, numsO o p = o.k :: r := by
  unfold numsO
  split
  · exact ⟨_, rfl⟩
  · exact ⟨_, by simp only [List.append_assoc, List.singleton_append]; rfl⟩
theorem flatO_ne {o : Opn} {p : Int} (h1 : 1 ≤ o.k) (h9 : o.k ≤ 9) : flat (numsO o p) ≠ [] := by
  obtain ⟨r, hr⟩ := numsO_head o p
  obtain ⟨k, hk⟩ := Int.eq_ofNat_of_zero_le (show 0 ≤ o.k by omega)
  have := putS_head k (by omega)
  rw [hr, hk]
  intro e
  simp [flat] at e
  exact this e.1

set_option maxHeartbeats 2000000 in
theorem dencode_any (o : Opn) (v : Value) (p : Int) (w : World) (h : CssOf w v o.cs) : Calls Try.prog 24 #[opV v o, .int .i64 p] w fun r w' => r = .returned (.tuple #[bs (encO o p), .int .i64 (chkO o p)]) ∧ Below w.heap.size w w' := by
  have CK := fun w h => Lib.hid (dcheck_any o v p w h)
  have NU := fun w h hn => Lib.hid (numbers_any o v p w h hn)
  obtain ⟨k, a, b, cs, df⟩ := o
  have HC := Lib.hid h
  have E0 := OpAt.new v ⟨k, a, b, cs, df⟩ w
  obtain ⟨ao, cap, rfl⟩ := h.shape
  dsimp only at h HC E0
  obtain ⟨n, hnn⟩ : ∃ n, cs.length = n := ⟨_, rfl⟩
  rw [hnn] at h HC E0 CK NU ⊢
  obtain ⟨W, hW⟩ : ∃ W, w.alloc (.cells #[.int .i64 k, .int .i64 a, .int .i64 b, .slice ao n cap, .bool df] 48) = W := ⟨_, rfl⟩
  rw [hW] at E0
  have EW := Lib.hid E0
  obtain ⟨z0, z1, z2, z3, z4⟩ := five_cells E0.ev
  dsimp only at z0 z1 z2 z3 z4
  have CZ := Lib.hid (fun h => chkO_zero (o := ⟨k, a, b, cs, df⟩) (p := p) h)
  obtain ⟨c, hc⟩ : ∃ c, chkO ⟨k, a, b, cs, df⟩ p = c := ⟨_, rfl⟩
  have EN := Lib.hid (show encO ⟨k, a, b, cs, df⟩ p = if c = 0 then flat (numsO ⟨k, a, b, cs, df⟩ p) else [] by unfold encO; rw [hc])
  rw [hc] at CK CZ ⊢
  have HN := Lib.hid hnn
  unfold opV at CK NU ⊢
  dsimp only at CK NU ⊢
  clear E0 h hc hnn
  by_cases h0 : c = 0
  · subst h0
    obtain ⟨cp, ck, cl, cok⟩ := CZ.out rfl
    have LEN := numsO_len ⟨k, a, b, cs, df⟩ p
    have NE := Lib.hid (flatO_ne (o := ⟨k, a, b, cs, df⟩) (p := p) ck.1 ck.2)
    dsimp only at cl LEN
    have EN2 := Lib.hid (show encO ⟨k, a, b, cs, df⟩ p = flat (numsO ⟨k, a, b, cs, df⟩ p) by rw [EN.out, if_pos rfl])
    rw [EN2.out]
    have NU2 : ∀ w, CssOf w (.slice ao n cap) cs → Hid (Calls Try.prog 54 #[.agg #[.int .i64 k, .int .i64 a, .int .i64 b, .slice ao n cap, .bool df], .int .i64 p] w fun r w' => ∃ v, r = .returned v ∧ w'.ownsRow (w.heap.size + 1) 3 1 v (numsO ⟨k, a, b, cs, df⟩ p).length (ints (numsO ⟨k, a, b, cs, df⟩ p)) ∧ Below w.heap.size w w') := fun w h => Lib.hid ((NU w h (by have := HN.out; omega)).out)
    obtain ⟨ns, hns⟩ : ∃ ns, numsO ⟨k, a, b, cs, df⟩ p = ns := ⟨_, rfl⟩
    rw [hns] at NU2 NE LEN ⊢
    clear NU cok hns EN EN2
    go_enter Try.func24, Try.ntmps24
    go_wp2_with fail
    refine ((CK _ (HC.out.below (Nat.le_refl _) EW.out.bel)).out).mono ?_
    rintro r w1 ⟨rfl, hB1⟩
    have E1 := Lib.hid (EW.out.below hB1)
    have BN := bld_new w1 w1.heap.size (Nat.le_refl _)
    obtain ⟨Y, hY⟩ : ∃ Y, w1.alloc (.cells #[.pointer none, .slice none 0 0] 54) = Y := ⟨_, rfl⟩
    rw [hY] at BN
    have BY : Below w1.heap.size w1 Y := by rw [← hY]; exact (Below.refl _ _).alloc (Nat.le_refl _) _
    have EY := Lib.hid (E1.out.below BY)
    have BNH := Lib.hid BN
    have SY : w1.heap.size ≤ Y.heap.size := BY.size
    clear hB1 z0 z1 z2 z3 z4 hW BN BY
    obtain ⟨z0, z1, z2, z3, z4⟩ := five_cells EY.out.ev
    dsimp only at z0 z1 z2 z3 z4
    go_wp2_with fail
    try rw [hY]
    refine ((NU2 _ (HC.out.below (Nat.le_refl _) EY.out.bel)).out).mono ?_
    rintro r w2 ⟨v2, rfl, hs2, hB2⟩
    obtain ⟨ao2, ca2, rfl⟩ := owns_slice hs2
    have E2 := Lib.hid (EY.out.below hB2)
    have B2 := Lib.hid (bld_below BNH.out hB2)
    have R2 := Lib.hid hs2
    have SY2 : w1.heap.size ≤ w2.heap.size := Nat.le_trans SY hB2.size
    have SZ : w.heap.size ≤ w1.heap.size := E1.out.bel.size
    clear hB2 hs2 z0 z1 z2 z3 z4 hY
    go_wp2_with fail
    go_loopw [22] (fun i wr => ∃ j : Nat, j ≤ ns.length ∧ i = .int .i64 j ∧ Lib.IsBuilder 54 5 w1.heap.size w1.heap.size (Lib.byteCells (flat (ns.take j))) wr ∧ Below w.heap.size w wr ∧ wr.ownsRow (Y.heap.size + 1) 3 1 (.slice ao2 ns.length ca2) ns.length (ints ns) ∧ w1.heap.size ≤ wr.heap.size) (fun i _ => ns.length - (intOf i).toNat)
    case atStart => exact ⟨0, by omega, rfl, B2.out, E2.out.bel, R2.out, SY2⟩
    case round =>
      obtain ⟨j, hj, rfl, hi, hb, hr, hsz⟩ := hrel
      have HB := Lib.hid hb
      have HI := Lib.hid hi
      have HR := Lib.hid hr
      clear hb hi
      have n2 := flat_len (ns.take j)
      have n4 : (ns.take j).length ≤ 20 := by simp; omega
      by_cases hlt : j < ns.length
      · have hlt' : (j : Int) < (ns.length : Int) := by omega
        obtain ⟨_, _, e, hcc⟩ := SlI.of_owns hr
        cases e
        obtain ⟨g, z, rfl, hc2⟩ := hcc (by omega)
        have c0 := hc2 j hlt
        have F := Lib.hid (flat_snoc ns j hlt)
        obtain ⟨u, hu⟩ : ∃ u, ns.getD j 0 = u := ⟨_, rfl⟩
        rw [hu] at c0 F
        have n3 := putS_len u
        clear hu hc2 hcc hr
        go_wp2_with fail
        refine (put_any u wr).mono ?_
        rintro r w3 ⟨rfl, B3⟩
        have H3 := Lib.hid (HB.out.trans (B3.mono HB.out.size))
        have I3 := Lib.hid (bld_below HI.out B3)
        have R3 := Lib.hid (ownsRow_keep HR.out (keepT_below B3))
        have S3 : w1.heap.size ≤ w3.heap.size := Nat.le_trans hsz B3.size
        clear B3 c0
        go_wp2_with fail
        refine (writek_bs w1.heap.size w1.heap.size _ (putS u) w3 I3.out (by omega) S3).mono ?_
        rintro r w4 ⟨⟨q4, rfl⟩, I4, B4, K4⟩
        have H4 := Lib.hid (show Below w.heap.size w w4 from H3.out.trans (B4.mono SZ))
        have R4 := Lib.hid (ownsRow_keep R3.out (K4 _ (by decide) (by decide)))
        have J4 := Lib.hid I4
        have S4 : w1.heap.size ≤ w4.heap.size := Nat.le_trans S3 B4.size
        clear B4 I4 K4
        go_wp2_with fail
        exact ⟨⟨j + 1, by omega, by go_num, by rw [F.out]; exact J4.out, H4.out, R4.out, S4⟩, by simp [intOf] <;> omega⟩
      · have hge : (ns.length : Int) ≤ j := by omega
        have EQ := Lib.hid (show flat (ns.take j) = flat ns by rw [List.take_of_length_le (by omega)])
        have HI' := HI.out
        rw [EQ.out] at HI'
        clear hlt hr
        go_wp2_with fail
        refine (string_any w1.heap.size w1.heap.size _ wr HI' NE.out).mono ?_
        rintro r w5 ⟨rfl, B5⟩
        have H5 := Lib.hid (show Below w.heap.size w w5 from HB.out.trans (B5.mono SZ))
        clear B5 HI'
        go_wp2_with fail
        go_ret2
        exact ⟨rfl, H5.out⟩
  · have hd : (c != 0) = true := by simpa using h0
    have EN2 := Lib.hid (show encO ⟨k, a, b, cs, df⟩ p = [] by rw [EN.out, if_neg h0])
    rw [EN2.out]
    clear h0 NU
    go_enter Try.func24, Try.ntmps24
    go_wp2_with fail
    refine ((CK _ (HC.out.below (Nat.le_refl _) EW.out.bel)).out).mono ?_
    rintro r w1 ⟨rfl, hB1⟩
    have E1 := Lib.hid (EW.out.below hB1)
    clear hB1
    go_wp2_with fail
    go_ret2
    exact ⟨rfl, E1.out.bel⟩
set_option maxHeartbeats 2000000 in
theorem rdencode_any (o : Opn) (v : Value) (p : Int) (w : World) (h : CssOf w v o.cs) : Calls Try.prog 30 #[opV v o, .int .i64 p] w fun r w' => r = .returned (.tuple #[bs (encO o p), .int .i64 (chkO o p)]) ∧ Below w.heap.size w w' := by
  have CK := fun w h => Lib.hid (rdcheck_any o v p w h)
  have NU := fun w h hn h1 h9 hp => Lib.hid (rnumbers_any o v p w h hn h1 h9 hp)
  obtain ⟨k, a, b, cs, df⟩ := o
  have HC := Lib.hid h
  have E0 := OpAt.new v ⟨k, a, b, cs, df⟩ w
  obtain ⟨ao, cap, rfl⟩ := h.shape
  dsimp only at h HC E0
  obtain ⟨n, hnn⟩ : ∃ n, cs.length = n := ⟨_, rfl⟩
  rw [hnn] at h HC E0 CK NU ⊢
  obtain ⟨W, hW⟩ : ∃ W, w.alloc (.cells #[.int .i64 k, .int .i64 a, .int .i64 b, .slice ao n cap, .bool df] 48) = W := ⟨_, rfl⟩
  rw [hW] at E0
  have EW := Lib.hid E0
  obtain ⟨z0, z1, z2, z3, z4⟩ := five_cells E0.ev
  dsimp only at z0 z1 z2 z3 z4
  have CZ := Lib.hid (fun h => chkO_zero (o := ⟨k, a, b, cs, df⟩) (p := p) h)
  obtain ⟨c, hc⟩ : ∃ c, chkO ⟨k, a, b, cs, df⟩ p = c := ⟨_, rfl⟩
  have EN := Lib.hid (show encO ⟨k, a, b, cs, df⟩ p = if c = 0 then flat (numsO ⟨k, a, b, cs, df⟩ p) else [] by unfold encO; rw [hc])
  rw [hc] at CK CZ ⊢
  have HN := Lib.hid hnn
  unfold opV at CK NU ⊢
  dsimp only at CK NU ⊢
  clear E0 h hc hnn
  by_cases h0 : c = 0
  · subst h0
    obtain ⟨cp, ck, cl, cok⟩ := CZ.out rfl
    have LEN := numsO_len ⟨k, a, b, cs, df⟩ p
    have NE := Lib.hid (flatO_ne (o := ⟨k, a, b, cs, df⟩) (p := p) ck.1 ck.2)
    dsimp only at cl LEN
    have EN2 := Lib.hid (show encO ⟨k, a, b, cs, df⟩ p = flat (numsO ⟨k, a, b, cs, df⟩ p) by rw [EN.out, if_pos rfl])
    rw [EN2.out]
    have NU2 : ∀ w, CssOf w (.slice ao n cap) cs → Hid (Calls Try.prog 56 #[.agg #[.int .i64 k, .int .i64 a, .int .i64 b, .slice ao n cap, .bool df]] w fun r w' => ∃ v, r = .returned v ∧ w'.ownsRow (w.heap.size + 1) 3 1 v (numsO ⟨k, a, b, cs, df⟩ p).length (ints (numsO ⟨k, a, b, cs, df⟩ p)) ∧ Below w.heap.size w w') := fun w h => Lib.hid ((NU w h (by have := HN.out; omega) ck.1 ck.2 cp.1).out)
    obtain ⟨ns, hns⟩ : ∃ ns, numsO ⟨k, a, b, cs, df⟩ p = ns := ⟨_, rfl⟩
    rw [hns] at NU2 NE LEN ⊢
    clear NU cok hns EN EN2
    go_enter Try.func30, Try.ntmps30
    go_wp2_with fail
    refine ((CK _ (HC.out.below (Nat.le_refl _) EW.out.bel)).out).mono ?_
    rintro r w1 ⟨rfl, hB1⟩
    have E1 := Lib.hid (EW.out.below hB1)
    clear hB1 z0 z1 z2 z3 z4 hW
    obtain ⟨z0, z1, z2, z3, z4⟩ := five_cells E1.out.ev
    dsimp only at z0 z1 z2 z3 z4
    go_wp2_with fail
    refine ((NU2 _ (HC.out.below (Nat.le_refl _) E1.out.bel)).out).mono ?_
    rintro r w2 ⟨v2, rfl, hs2, hB2⟩
    obtain ⟨ao2, ca2, rfl⟩ := owns_slice hs2
    have E2 := Lib.hid (E1.out.below hB2)
    have R2 := Lib.hid (SlI.of_owns hs2)
    clear hB2 hs2 z0 z1 z2 z3 z4
    go_wp2_with fail
    go_loopw [7, 21] (fun s i wr => ∃ j : Nat, j ≤ ns.length ∧ i = .int .i64 j ∧ s = bs (flat (ns.take j)) ∧ Below w.heap.size w wr ∧ Below w2.heap.size w2 wr) (fun _ i _ => ns.length - (intOf i).toNat)
    case atStart => exact ⟨0, by omega, rfl, rfl, E2.out.bel, Below.refl _ _⟩
    case round =>
      obtain ⟨j, hj, rfl, rfl, hb, hb2⟩ := hrel
      have HB := Lib.hid hb
      have HB2 := Lib.hid hb2
      have n2 := flat_len (ns.take j)
      have n4 : (ns.take j).length ≤ 20 := by simp; omega
      clear hb hb2
      by_cases hlt : j < ns.length
      · have hlt' : (j : Int) < (ns.length : Int) := by omega
        obtain ⟨_, _, e, hcc⟩ := R2.out
        cases e
        obtain ⟨g, z, rfl, hc2⟩ := hcc (by omega)
        have cw := hc2 j hlt
        have c0 := (HB2.out.cell (p := ⟨g, z + j, none⟩) (block_lt_of_cell cw)).trans cw
        have F := Lib.hid (flat_snoc ns j hlt)
        obtain ⟨u, hu⟩ : ∃ u, ns.getD j 0 = u := ⟨_, rfl⟩
        rw [hu] at c0 F
        have n3 := putS_len u
        obtain ⟨x, hx⟩ : ∃ x, flat (ns.take j) = x := ⟨_, rfl⟩
        rw [hx] at F n2 ⊢
        obtain ⟨y, hy⟩ : ∃ y, putS u = y := ⟨_, rfl⟩
        have PU := Lib.hid (fun w => ref_put_any u w)
        rw [hy] at F n3 PU
        have hxy : ¬ 9223372036854775807 < x.length + y.length := by omega
        clear hu hc2 hcc cw hx hy
        go_wp2_with fail
        refine (PU.out wr).mono ?_
        rintro r w3 ⟨rfl, B3⟩
        have H3 := Lib.hid (HB.out.trans (B3.mono HB.out.size))
        have H4 := Lib.hid (HB2.out.trans (B3.mono HB2.out.size))
        clear B3 c0
        go_wp2_with fail
        exact ⟨⟨j + 1, by omega, by go_num, by rw [F.out], H3.out, H4.out⟩, by simp [intOf] <;> omega⟩
      · have hge : (ns.length : Int) ≤ j := by omega
        have EQ := Lib.hid (show flat (ns.take j) = flat ns by rw [List.take_of_length_le (by omega)])
        clear hlt
        go_wp2_with fail
        go_ret2
        exact ⟨by rw [EQ.out]; rfl, HB.out⟩
  · have hd : (c != 0) = true := by simpa using h0
    have EN2 := Lib.hid (show encO ⟨k, a, b, cs, df⟩ p = [] by rw [EN.out, if_neg h0])
    rw [EN2.out]
    clear h0 NU
    go_enter Try.func30, Try.ntmps30
    go_wp2_with fail
    refine ((CK _ (HC.out.below (Nat.le_refl _) EW.out.bel)).out).mono ?_
    rintro r w1 ⟨rfl, hB1⟩
    have E1 := Lib.hid (EW.out.below hB1)
    clear hB1
    go_wp2_with fail
    go_ret2
    exact ⟨rfl, E1.out.bel⟩
end Go.Proofs.Ytpefjcmaggimhaa

