
/-
  staitheref02: clocks of 256 numbers, by value.
-/
import Derived.Test.YtlkfhobacgnckaaEpochP
import Derived.Deep.MidRow
import Derived.Deep.WholeRow
namespace Go.Proofs.Ytlkfhobacgnckaa
open Go.RowKit
set_option linter.unusedVariables false
set_option linter.unusedSimpArgs false
set_option maxRecDepth 100000

/-- Block b is a clock of the reference: these 256 numbers. -/
def RAt (w : World) (b : Nat) (ns : List Int) : Prop := ns.length = 256 ∧ w.heap[b]? = some (.cells (ints ns).toArray 56 (0, 0))

theorem RAt.facts {w : World} {b : Nat} {ns : List Int} (h : RAt w b ns) : (∀ i, i < 256 → w.cell? ⟨b, i, none⟩ = some (.int .i64 (ns.getD i 0))) ∧ ∀ i, w.frozen? ⟨b, i, none⟩ = false := by
  obtain ⟨hl, hb⟩ := h
  refine ⟨fun i hi => ?_, fun i => by simp [World.frozen?, hb]⟩
  have := getElem?_ints ns i (by omega)
  simp only [World.cell?, hb]
  simpa using this

theorem RAt.cells {w : World} {b : Nat} {ns : List Int} (h : RAt w b ns) : w.heap[b]? = some (.cells (ints ns).toArray 56 (0, 0)) := h.2
theorem RAt.range {w : World} {b : Nat} {ns : List Int} (h : RAt w b ns) : w.rangeAt b 0 (ints ns) := by
  obtain ⟨hl, hb⟩ := h
  intro j v hj
  simp only [World.cell?, hb, Nat.zero_add]
  simpa using hj
theorem RAt.set {w : World} {b : Nat} {ns : List Int} (h : RAt w b ns) (n : Nat) (v : Int) : RAt (w.setCell ⟨b, n, none⟩ (.int .i64 v)) b (ns.set n v) := by
  obtain ⟨hl, hb⟩ := h
  refine ⟨by rw [List.length_set]; exact hl, ?_⟩
  rw [heap_setCell_same w b n _ _ _ hb]
  congr 2
  simp [ints, List.map_set]
theorem RAt.frame {w w' : World} {b : Nat} {ns : List Int} (h : RAt w b ns) (hf : w'.heap[b]? = w.heap[b]?) : RAt w' b ns := ⟨h.1, by rw [hf]; exact h.2⟩
theorem RAt.lt {w : World} {b : Nat} {ns : List Int} (h : RAt w b ns) : b < w.heap.size := lt_of_heap h.2
theorem RAt.below {w w' : World} {b : Nat} {ns : List Int} (h : RAt w b ns) (hB : Below w.heap.size w w') : RAt w' b ns := h.frame (hB.block b h.lt)

def zeros : List Int := List.replicate 256 0
theorem rinfo : (Try.prog.info? 56).map (fun i => (i.zero, i.size)) = some (some (.agg (ints zeros).toArray), 256) := by kernel_rfl
theorem rsize : (Try.prog.info? 56).map (·.size) = some 256 := (zero_of_info rinfo).2
theorem at0_zeros (u : Int) : at0 zeros u = 0 := by
  unfold at0
  split
  · simp only [zeros, List.getD, List.getElem?_replicate]; split <;> rfl
  · rfl
theorem rat_new (w : World) (ns : List Int) (h : ns.length = 256) : RAt (w.alloc (.cells (ints ns).toArray 56)) w.heap.size ns := ⟨h, heap_alloc_new w _⟩

theorem rat_pair (w : World) (Z : Array Value) (hZ : (ints zeros).toArray = Z) : RAt ((w.alloc (.cells Z 56)).alloc (.cells Z 56)) (w.heap.size + 1) zeros := by
  subst hZ
  have := rat_new (w.alloc (.cells (ints zeros).toArray 56)) zeros rfl
  rw [size_alloc] at this
  exact this

/-- A whole clock into its place. -/
theorem wpList_store_clock {ops : Array Oper} {rest : List Oper} {op : Oper} {a : Act} {w : World} {Q : Exit → Act → World → Prop} (hgd : op.guard = none) (x y : Operand) (ho : op.op = .store 56 x y)
    (b : Nat) (ns ms : List Int) (hx : a.eval x = .pointer (some ⟨b, 0, none⟩)) (Z : Array Value) (hy : a.eval y = .agg Z) (hZ : (ints ms).toArray = Z) (h0 : RAt w b ns) (hm : ms.length = 256)
    (h : ∀ w', RAt w' b ms → Turned (fun i => i = b) w w' → wpList Try.prog ops Q rest (a.put op.dst undef) w') : wpList Try.prog ops Q (op :: rest) a w := by
  subst hZ
  have hrun : (storeVar 56 ⟨b, 0, none⟩ (.agg (ints ms).toArray)).run Try.prog w = .ok () (w.setRow b (ints ms).toArray) :=
    run_storeVar_row w b _ _ (ints ns).toArray (ints ms).toArray h0.2 (by rw [rsize]; simp [length_ints, hm]) (by simp [length_ints, hm, h0.1]) (all_oneCell_toArray (ints1 ms))
  refine wpList_plain hgd fun K hK => ?_
  unfold Oper.wp execOp
  simp only [ho, hx, hy, Instr.storeAt, Instr.sureAddr, Sem.run_bind, Sem.run_pure, Result.andThen_ok, hrun]
  refine hK _ _ (h _ ⟨hm, setRow_heap w b _ _ _ _ h0.2⟩ ⟨rfl, rfl, rfl, by simp [World.setRow], fun i _ hne => setRow_other w b i _ hne⟩)
/-- A whole clock out of its place. -/
theorem wpList_load_clock {ops : Array Oper} {rest : List Oper} {op : Oper} {a : Act} {w : World} {Q : Exit → Act → World → Prop} (hgd : op.guard = none) (x : Operand) (ho : op.op = .load 56 x)
    (b : Nat) (ns : List Int) (hx : a.eval x = .pointer (some ⟨b, 0, none⟩)) (Z : Array Value) (hZ : (ints ns).toArray = Z) (h0 : RAt w b ns)
    (h : wpList Try.prog ops Q rest (a.put op.dst (.agg Z)) w) : wpList Try.prog ops Q (op :: rest) a w := by
  subst hZ
  have hrun := run_loadVar_mid (P := Try.prog) w b 0 56 (ints ns) _ h0.range Try.underlying56 rfl (by rw [rsize, length_ints, h0.1])
  refine wpList_plain hgd fun K hK => ?_
  unfold Oper.wp execOp
  simp only [ho, hx, Instr.loadAt, Instr.sureAddr, Sem.run_bind, Sem.run_pure, Result.andThen_ok, hrun]
  exact hK _ _ h

theorem rof_start {w w1 : World} {Z : Array Value} (hZ : (ints zeros).toArray = Z) (h : Turned (fun i => i = w.heap.size + 1) ((w.alloc (.cells Z 56)).alloc (.cells Z 56)) w1) :
    RAt w1 w.heap.size zeros ∧ Below w.heap.size w w1 := by
  have h1 := rat_new w zeros rfl
  rw [hZ] at h1
  have h2 := h1.below ((Below.refl _ _).alloc (Nat.le_refl _) (.cells Z 56))
  refine ⟨h2.frame (h.block _ h2.lt (by omega)), h.below ((Below.refl w.heap.size w).alloc (Nat.le_refl _) (.cells Z 56) |>.alloc (by rw [size_alloc]; omega) _) (Nat.le_refl _) (fun i e => by rw [e]; omega)⟩

theorem load_clock {w : World} {b : Nat} {ns : List Int} {Z : Array Value} (h : RAt w b ns) (hZ : (ints ns).toArray = Z) : (loadVar 56 ⟨b, 0, none⟩).run Try.prog w = .ok (.agg Z) w := by
  subst hZ
  exact run_loadVar_mid (P := Try.prog) w b 0 56 (ints ns) _ h.range Try.underlying56 rfl (by rw [rsize, length_ints, h.1])

theorem results_cell_tmp {P : Program} {fn : Func} {t u : Tmp} {ty : TypeId} (h : fn.results = #[.cell t ty, .tmp u]) (tmps : Array Value) (w : World) (ad : Addr) (v : Value) (ht : tmps.getD t undef = .pointer (some ad)) (hl : (loadVar ty ad).run P w = .ok v w) :
    (results fn tmps).run P w = .ok (.tuple #[v, tmps.getD u undef]) w := by
  have ht' : tmps[t]?.getD undef = .pointer (some ad) := by simpa using ht
  simp [results, h, ht', asAddr, hl]

def ROfPost (l : List Int) (w : World) (r : Ending) (w' : World) : Prop :=
  ∃ ns, r = .returned (.tuple #[.agg (ints ns).toArray, .int .i64 (ofE l)]) ∧ ns.length = 256 ∧ (ofE l = 0 → ∀ u : Int, at0 ns u = at0 l u) ∧ Below w.heap.size w w'

theorem rof_any (v : Value) (l : List Int) (w : World) (h : Src w v l) :
    Calls Try.prog 24 #[v] w (ROfPost l w) := by
  obtain ⟨ao, cap, rfl, hno, hc⟩ := h
  obtain ⟨Z, hZ⟩ : ∃ Z, (ints zeros).toArray = Z := ⟨_, rfl⟩
  have hz := (zero_of_info rinfo).1
  rw [hZ] at hz
  have HZ := Lib.hid hZ
  clear hZ
  by_cases hlong : 256 < l.length
  · have hlong' : (256 : Int) < l.length := by omega
    have S := Lib.hid (show ofE l = 2 by unfold ofE; rw [if_pos hlong])
    clear hno hc hlong
    go_enter Try.func24, Try.ntmps24
    go_wp2_with (with_reducible refine wpList_store_clock rfl (.tmp 4) (.tmp 9) rfl (w.heap.size + 1) zeros zeros ?hx Z ?hy HZ.out ?h0 rfl ?_)
    case hx => rfl
    case hy => rfl
    case h0 => exact rat_pair w Z HZ.out
    intro w1 R1 T1
    obtain ⟨R2, B1⟩ := rof_start HZ.out T1
    have H1 := Lib.hid B1
    clear T1 B1
    go_wp2_with (first
      | (with_reducible refine wpList_load_clock rfl (.tmp 4) rfl (w.heap.size + 1) zeros ?lx Z HZ.out R1 ?_)
      | (with_reducible refine wpList_store_clock rfl (.tmp 2) (.tmp 13) rfl w.heap.size zeros zeros ?sx Z ?sy HZ.out R2 rfl ?_))
    case lx => rfl
    intro w2 R3 T2
    have hL := load_clock R3 HZ.out
    have H2 := Lib.hid (T2.below H1.out (Nat.le_refl _) (fun i e => by rw [e]; exact Nat.le_refl _))
    clear T2
    go_wp2
    refine bodyPost_ret (v := .tuple #[.agg Z, .int .i64 2]) (results_cell_tmp Try.results24 _ _ _ _ rfl hL) rfl ⟨zeros, ?_, rfl, fun e => ?_, H2.out⟩
    · rw [HZ.out, S.out]
    · rw [S.out] at e; exact absurd e (by decide)
  · have hl : l.length ≤ 256 := by omega
    have hl' : (l.length : Int) ≤ 256 := by omega
    have HC := Lib.hid hc
    have HN := Lib.hid hno
    clear hlong hc hno
    go_enter Try.func24, Try.ntmps24
    go_wp2_with (with_reducible refine wpList_store_clock rfl (.tmp 4) (.tmp 9) rfl (w.heap.size + 1) zeros zeros ?hx2 Z ?hy2 HZ.out ?h02 rfl ?_)
    case hx2 => rfl
    case hy2 => rfl
    case h02 => exact rat_pair w Z HZ.out
    intro w1 R1 T1
    obtain ⟨R2, B1⟩ := rof_start HZ.out T1
    have H1 := Lib.hid B1
    clear T1 B1
    go_wp2_with fail
    go_loopw [16] (fun i wr => ∃ n : Nat, n ≤ l.length ∧ i = .int .i64 n ∧ (∀ j, j < n → okN (l.getD j 0)) ∧ wr = w1) (fun i _ => l.length - (intOf i).toNat)
    case atStart => exact ⟨0, by omega, rfl, fun j hj => by omega, rfl⟩
    case round =>
      obtain ⟨n, hn, rfl, hle, rfl⟩ := hrel
      have L := Lib.hid hle
      clear hle
      by_cases hlt : n < l.length
      · have hlt' : (n : Int) < (l.length : Int) := by omega
        obtain ⟨g, z, rfl, hcc⟩ := HC.out (by omega)
        have hcw := hcc n hlt
        have c0 : wr.cell? ⟨g, z + n, none⟩ = some (.int .i64 (l.getD n 0)) := by rw [H1.out.cell (p := ⟨g, z + n, none⟩) (block_lt_of_cell hcw)]; exact hcw
        clear hcc hcw
        obtain ⟨u, hu⟩ : ∃ u, l.getD n 0 = u := ⟨_, rfl⟩
        rw [hu] at c0
        have U := Lib.hid hu
        clear hu
        by_cases hok : 0 ≤ u ∧ u ≤ 1048576
        · have S := Lib.hid (show ∀ j, j < n + 1 → okN (l.getD j 0) from fun j hj => by
            by_cases hjn : j = n
            · subst hjn; rw [U.out]; exact hok
            · exact L.out j (by omega))
          obtain ⟨ok1, ok2⟩ := hok
          go_wp2_with fail
          go_roundw
          case rel => exact ⟨n + 1, by omega, by go_num, S.out, by trivial⟩
          case measure => simp [intOf] <;> omega
        · have S := Lib.hid (show ofE l = 1 by unfold ofE; rw [if_neg (by omega), if_neg (fun hh => hok (by have := hh n hlt; rw [U.out] at this; exact this))])
          have hbad : u < 0 ∨ 1048576 < u := by omega
          clear hok
          rcases hbad with hbad | hbad
          · go_wp2_with (with_reducible refine wpList_store_clock rfl (.tmp 2) (.tmp 26) rfl w.heap.size zeros zeros ?hx3 Z ?hy3 HZ.out R2 rfl ?_)
            case hx3 => rfl
            case hy3 => rfl
            intro w2 R3 T2
            have hL := load_clock R3 HZ.out
            have H2 := Lib.hid (T2.below H1.out (Nat.le_refl _) (fun i e => by rw [e]; exact Nat.le_refl _))
            clear T2
            go_wp2
            refine bodyPost_ret (v := .tuple #[.agg Z, .int .i64 1]) (results_cell_tmp Try.results24 _ _ _ _ rfl hL) rfl ⟨zeros, ?_, rfl, fun e => ?_, H2.out⟩
            · rw [HZ.out, S.out]
            · rw [S.out] at e; exact absurd e (by decide)
          · have hb0 : 0 ≤ u := by omega
            go_wp2_with (with_reducible refine wpList_store_clock rfl (.tmp 2) (.tmp 26) rfl w.heap.size zeros zeros ?hx4 Z ?hy4 HZ.out R2 rfl ?_)
            case hx4 => rfl
            case hy4 => rfl
            intro w2 R3 T2
            have hL := load_clock R3 HZ.out
            have H2 := Lib.hid (T2.below H1.out (Nat.le_refl _) (fun i e => by rw [e]; exact Nat.le_refl _))
            clear T2
            go_wp2
            refine bodyPost_ret (v := .tuple #[.agg Z, .int .i64 1]) (results_cell_tmp Try.results24 _ _ _ _ rfl hL) rfl ⟨zeros, ?_, rfl, fun e => ?_, H2.out⟩
            · rw [HZ.out, S.out]
            · rw [S.out] at e; exact absurd e (by decide)
      · have hnk : n = l.length := by omega
        subst hnk
        have S := Lib.hid (show ofE l = 0 by unfold ofE; rw [if_neg (by omega), if_pos L.out])
        have R1' := Lib.hid R1
        have R2' := Lib.hid R2
        clear R1 R2 L
        go_wp2_with fail
        go_loopw [30] (fun i w2 => ∃ (n : Nat) (ns : List Int), n ≤ l.length ∧ i = .int .i64 n ∧ RAt w2 (w.heap.size + 1) ns ∧ (∀ u : Int, at0 ns u = if u < n then at0 l u else 0) ∧ RAt w2 w.heap.size zeros ∧ Below w.heap.size w w2) (fun i _ => l.length - (intOf i).toNat)
        case atStart => 
          refine ⟨0, zeros, by omega, rfl, R1'.out, fun u => ?_, R2'.out, H1.out⟩
          rw [at0_zeros]
          split
          · unfold at0; rw [if_neg (by omega)]
          · rfl
        case round =>
          obtain ⟨n, ns, hn, rfl, hr, hat, hr2, hb⟩ := hrel
          have HR := Lib.hid hr
          have HR2 := Lib.hid hr2
          have HB := Lib.hid hb
          have HA := Lib.hid hat
          clear hat hr2 hb
          by_cases hlt : n < l.length
          · have hlt' : (n : Int) < (l.length : Int) := by omega
            have hn256 : (n : Int) < 256 := by omega
            obtain ⟨g, z, rfl, hcc⟩ := HC.out (by omega)
            have hcw := hcc n hlt
            have c0 := (HB.out.cell (p := ⟨g, z + n, none⟩) (block_lt_of_cell hcw)).trans hcw
            have d0 := hr.facts.1 n (by omega)
            have d1 := hr.facts.2 n
            clear hcc hcw hr
            obtain ⟨u, hu⟩ : ∃ u, l.getD n 0 = u := ⟨_, rfl⟩
            rw [hu] at c0
            have U := Lib.hid hu
            clear hu
            have X := Lib.hid (show ∀ u' : Int, at0 (ns.set n u) u' = if u' < ((n + 1 : Nat) : Int) then at0 l u' else 0 from fun u' => by
              rw [at0_set _ _ _ _ (by have := HR.out.1; omega), HA.out u']
              by_cases hn' : u' = n
              · subst hn'; rw [if_pos rfl, if_pos (by omega), at0_nat, U.out]
              · rw [if_neg hn']
                by_cases h2 : u' < n
                · rw [if_pos h2, if_pos (by omega)]
                · rw [if_neg h2, if_neg (by omega)])
            have Y := Lib.hid (HR.out.set n u)
            have Y2 := Lib.hid (HR2.out.frame (w' := wr.setCell ⟨w.heap.size + 1, n, none⟩ (.int .i64 u)) (heap_setCell_other _ _ _ _ (by show w.heap.size ≠ w.heap.size + 1; omega)))
            have Y3 := Lib.hid (HB.out.setCell (p := ⟨w.heap.size + 1, n, none⟩) (by show w.heap.size ≤ w.heap.size + 1; omega) (.int .i64 u))
            go_wp2_with fail
            go_roundw
            case rel => exact ⟨n + 1, _, by omega, by go_num, Y.out, X.out, Y2.out, Y3.out⟩
            case measure => simp [intOf] <;> omega
          · have hnk : n = l.length := by omega
            subst hnk
            have HL := HR.out.1
            obtain ⟨Z2, hZ2⟩ : ∃ Z2, (ints ns).toArray = Z2 := ⟨_, rfl⟩
            have HZ2 := Lib.hid hZ2
            clear hZ2 hr
            have F := Lib.hid (show ∀ u : Int, at0 ns u = at0 l u from fun u => by
              rw [HA.out u]
              split
              · rfl
              · rw [at0_out (by omega)])
            go_wp2_with (first
              | (with_reducible refine wpList_load_clock rfl (.tmp 4) rfl (w.heap.size + 1) ns ?lx5 Z2 HZ2.out HR.out ?_)
              | (with_reducible refine wpList_store_clock rfl (.tmp 2) (.tmp 40) rfl w.heap.size zeros ns ?sx5 Z2 ?sy5 HZ2.out HR2.out HL ?_))
            case lx5 => rfl
            intro w3 R3 T3
            have hL := load_clock R3 HZ2.out
            have H3 := Lib.hid (T3.below HB.out (Nat.le_refl _) (fun i e => by rw [e]; exact Nat.le_refl _))
            clear T3
            go_wp2
            refine bodyPost_ret (v := .tuple #[.agg Z2, .int .i64 0]) (results_cell_tmp Try.results24 _ _ _ _ rfl hL) rfl ⟨ns, ?_, R3.1, fun _ => F.out, H3.out⟩
            rw [HZ2.out, S.out]

end Go.Proofs.Ytlkfhobacgnckaa

