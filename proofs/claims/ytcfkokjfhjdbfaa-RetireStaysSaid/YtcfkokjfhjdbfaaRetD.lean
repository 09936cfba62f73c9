
/-
  staitheref20.Of: by definition.
-/
import Derived.Test.YtcfkokjfhjdbfaaRetC
namespace Go.Proofs.Ytcfkokjfhjdbfaa
open Go.RowKit
set_option linter.unusedVariables false
set_option linter.unusedSimpArgs false
set_option maxRecDepth 100000

/-- A slice value of clocks of the reference. -/
def WsOf (w : World) (v : Value) (n : Nat) (nss : Nat → List Int) : Prop :=
  ∃ ao cap, v = .slice ao n cap ∧ (0 < n → ∃ b, ao = some ⟨b, 0, none⟩ ∧ ∀ j, j < n → (nss j).length = 256 ∧ w.rangeAt b (j * 256) (ints (nss j)))

theorem range_below {w w' : World} {b o : Nat} {cs : List Value} (h : w.rangeAt b o cs) (hB : Below w.heap.size w w') : w'.rangeAt b o cs := by
  intro j v hj
  have := h j v hj
  rw [hB.cell (p := ⟨b, o + j, none⟩) (block_lt_of_cell this)]
  exact this
theorem WsOf.below {w w' : World} {v : Value} {n : Nat} {nss : Nat → List Int} (h : WsOf w v n nss) (hB : Below w.heap.size w w') : WsOf w' v n nss := by
  obtain ⟨ao, cap, rfl, hc⟩ := h
  refine ⟨ao, cap, rfl, fun hp => ?_⟩
  obtain ⟨b, rfl, hd⟩ := hc hp
  exact ⟨b, rfl, fun j hj => ⟨(hd j hj).1, range_below (hd j hj).2 hB⟩⟩
theorem WsOf.shape {w : World} {v : Value} {n : Nat} {nss : Nat → List Int} (h : WsOf w v n nss) : ∃ ao cap, v = .slice ao n cap := by
  obtain ⟨ao, cap, rfl, hc⟩ := h
  exact ⟨ao, cap, rfl⟩
theorem WsOf.at {w : World} {ao : Option Addr} {cap n : Nat} {nss : Nat → List Int} (h : WsOf w (.slice ao n cap) n nss) (j : Nat) (hj : j < n) : ∃ b, ao = some ⟨b, 0, none⟩ ∧ (nss j).length = 256 ∧ w.rangeAt b (j * 256) (ints (nss j)) := by
  obtain ⟨_, _, e, hc⟩ := h
  cases e
  obtain ⟨b, rfl, hd⟩ := hc (by omega)
  exact ⟨b, rfl, (hd j hj).1, (hd j hj).2⟩

/-- A whole clock out of its place in a row. -/
theorem wpList_load_at {ops : Array Oper} {rest : List Oper} {op : Oper} {a : Act} {w : World} {Q : Exit → Act → World → Prop} (hgd : op.guard = none) (x : Operand) (ho : op.op = .load 35 x)
    (b o : Nat) (ns : List Int) (hx : a.eval x = .pointer (some ⟨b, o, none⟩)) (Z : Array Value) (hZ : (ints ns).toArray = Z) (hl : ns.length = 256) (h0 : w.rangeAt b o (ints ns))
    (h : wpList Try.prog ops Q rest (a.put op.dst (.agg Z)) w) : wpList Try.prog ops Q (op :: rest) a w := by
  subst hZ
  have hrun := run_loadVar_mid (P := Try.prog) w b o 35 (ints ns) _ h0 Try.underlying35 rfl (by rw [rsize, length_ints, hl])
  refine wpList_plain hgd fun K hK => ?_
  unfold Oper.wp execOp
  simp only [ho, hx, Instr.loadAt, Instr.sureAddr, Sem.run_bind, Sem.run_pure, Result.andThen_ok, hrun]
  exact hK _ _ h

theorem rat_new' (w : World) (Z : Array Value) (hZ : (ints zeros).toArray = Z) : RAt (w.alloc (.cells Z 35)) w.heap.size zeros := by
  subst hZ
  exact rat_new w zeros rfl

theorem cut_done {t : Int} {n m : Nat} {f g : Nat → Int} {L M M' : Int} (hin : (0 ≤ t ∧ t < 256) ∧ 0 < n) (h1 : ∀ j, j < n → L ≤ f j ∧ f j ≤ M) (h2 : ∃ j, j < n ∧ f j = L) (h3 : ∃ j, j < n ∧ f j = M)
    (h4 : M ≤ M') (h5 : ∀ j, j < m → g j ≤ M') (h6 : M' = M ∨ ∃ j, j < m ∧ g j = M') : cutB t n m f g = if L = M' then (L, true) else (0, false) := by
  rw [cutB_in hin]
  have h0 := h1 0 hin.2
  by_cases he : L = M'
  · rw [if_pos he]
    have hf : f 0 = L := by omega
    have a1 : anyTo n (fun j => f j != f 0) = false := decide_eq_false (fun ⟨j, hj, e⟩ => by
      have := h1 j hj
      have : f j = f 0 := by omega
      simp [this] at e)
    have a2 : anyTo m (fun j => decide (f 0 < g j)) = false := decide_eq_false (fun ⟨j, hj, e⟩ => by
      have := h5 j hj
      have := of_decide_eq_true e
      omega)
    rw [a1, a2, hf]; rfl
  · rw [if_neg he]
    by_cases hfm : L = M
    · obtain ⟨j, hj, e⟩ : ∃ j, j < m ∧ g j = M' := by
        rcases h6 with h6 | h6
        · omega
        · exact h6
      have a2 : anyTo m (fun j => decide (f 0 < g j)) = true := decide_eq_true ⟨j, hj, decide_eq_true (by omega)⟩
      rw [a2, Bool.or_true]; rfl
    · have a1 : anyTo n (fun j => f j != f 0) = true := by
        by_cases hl : L = f 0
        · obtain ⟨j, hj, e⟩ := h3
          exact decide_eq_true ⟨j, hj, by simp; omega⟩
        · obtain ⟨j, hj, e⟩ := h2
          exact decide_eq_true ⟨j, hj, by simp; omega⟩
      rw [a1, Bool.true_or]; rfl

theorem ref_of (t : Int) (va vb : Value) (n m : Nat) (nss mss : Nat → List Int) (w : World) (ha : WsOf w va n nss) (hb : WsOf w vb m mss) (hn : n ≤ 1000) (hm : m ≤ 1000) :
    Calls Try.prog 11 #[.int .i64 t, va, vb] w (CutPost t n m (fun j => at0 (nss j) t) (fun j => at0 (mss j) t) w) := by
  have HA := Lib.hid ha
  have HB := Lib.hid hb
  obtain ⟨ao, ca, rfl⟩ := ha.shape
  obtain ⟨bo, cb, rfl⟩ := hb.shape
  clear ha hb
  by_cases hin : (0 ≤ t ∧ t < 256) ∧ 0 < n
  · have S := Lib.hid hin
    obtain ⟨⟨h0, h1⟩, h2⟩ := hin
    obtain ⟨u, rfl⟩ := Int.eq_ofNat_of_zero_le h0
    have hu : u < 256 := by omega
    have d0 : decide ((u : Int) < 0) = false := decide_eq_false (by omega)
    have d1 : decide (255 < (u : Int)) = false := decide_eq_false (by omega)
    have d2 : ((n : Int) == 0) = false := by simp; omega
    obtain ⟨g, rfl, hl0, hr0⟩ := HA.out.at 0 h2
    have c0 := hr0 u _ (getElem?_ints (nss 0) u (by omega))
    simp only [Nat.zero_mul, Nat.zero_add] at c0
    clear hr0
    obtain ⟨f0, hf0⟩ : ∃ f0, (nss 0).getD u 0 = f0 := ⟨_, rfl⟩
    rw [hf0] at c0
    have F0 := Lib.hid hf0
    clear hf0
    obtain ⟨Z0, hZ0⟩ : ∃ Z, (ints zeros).toArray = Z := ⟨_, rfl⟩
    have hz := (zero_of_info rinfo).1
    rw [hZ0] at hz
    have HZ0 := Lib.hid hZ0
    clear hZ0
    go_enter Try.func11, Try.ntmps11
    go_wp2_with fail
    go_loopw [34, 8, 9] (fun i l q wr => ∃ (k : Nat) (L M : Int), k ≤ n ∧ i = .int .i64 k ∧ l = .int .i64 L ∧ q = .int .i64 M ∧ (∀ j, j < k → L ≤ (nss j).getD u 0 ∧ (nss j).getD u 0 ≤ M) ∧ ((L ≤ f0 ∧ f0 ≤ M) ∧ (∃ j, j < n ∧ (nss j).getD u 0 = L) ∧ ∃ j, j < n ∧ (nss j).getD u 0 = M) ∧ Below w.heap.size w wr) (fun i _ _ _ => n - (intOf i).toNat)
    case atStart => exact ⟨0, f0, f0, by omega, rfl, rfl, rfl, fun j hj => by omega, ⟨⟨Int.le_refl _, Int.le_refl _⟩, ⟨0, S.out.2, F0.out⟩, ⟨0, S.out.2, F0.out⟩⟩, Below.refl _ _⟩
    case round =>
      obtain ⟨k, L, M, hk, rfl, rfl, rfl, hle, hat, hB⟩ := hrel
      have LE := Lib.hid hle
      have AT := Lib.hid hat
      have BB := Lib.hid hB
      clear hle
      by_cases hlt : k < n
      · have hlt' : (k : Int) < n := by omega
        obtain ⟨g', e, hl, hr⟩ := HA.out.at k hlt
        cases e
        have hr' := range_below hr hB
        have HR' := Lib.hid hr'
        clear hr hr' hat hB
        obtain ⟨Z, hZ⟩ : ∃ Z, (ints (nss k)).toArray = Z := ⟨_, rfl⟩
        have HZ := Lib.hid hZ
        clear hZ
        obtain ⟨x, hx⟩ : ∃ x, (nss k).getD u 0 = x := ⟨_, rfl⟩
        have X := Lib.hid hx
        have HL := Lib.hid hl
        clear hl
        go_wp2_with (first
          | (with_reducible refine wpList_load_at rfl (.tmp 36) rfl g (k * 256) (nss k) ?lx Z HZ.out HL.out HR'.out ?_)
          | (with_reducible refine wpList_store_clock rfl (.tmp 11) (.tmp 37) rfl wr.heap.size zeros (nss k) ?sx Z ?sy HZ.out (rat_new' wr Z0 HZ0.out) HL.out ?_))
        case lx => rfl
        case sx => rfl
        case sy => rfl
        intro w2 R2 T2
        have B2 := Lib.hid (T2.below ((Below.refl wr.heap.size wr).alloc (Nat.le_refl _) (.cells Z0 35)) (Nat.le_refl _) (fun i e => by rw [e]; exact Nat.le_refl _))
        have c1 := R2.facts.1 u hu
        rw [hx] at c1
        clear hx R2 T2
        have B3 := Lib.hid (below_trans BB.out B2.out BB.out.size)
        by_cases hxl : x < L
        · have hxm : ¬ M < x := by have := AT.out.1; omega
          have N1 := Lib.hid (show (∀ j, j < k + 1 → x ≤ (nss j).getD u 0 ∧ (nss j).getD u 0 ≤ M) from fun j hj => by
            by_cases hjk : j = k
            · subst hjk; rw [X.out]; omega
            · have := LE.out j (by omega); omega)
          have N2 := Lib.hid (show (x ≤ f0 ∧ f0 ≤ M) ∧ (∃ j, j < n ∧ (nss j).getD u 0 = x) ∧ ∃ j, j < n ∧ (nss j).getD u 0 = M from ⟨by have := AT.out.1; omega, ⟨k, hlt, X.out⟩, AT.out.2.2⟩)
          go_wp2_with fail
          go_roundw
          case rel => exact ⟨k + 1, x, M, by omega, by go_num, rfl, rfl, N1.out, N2.out, B3.out⟩
          case measure => simp [intOf] <;> omega
        · by_cases hxm : M < x
          · have N1 := Lib.hid (show (∀ j, j < k + 1 → L ≤ (nss j).getD u 0 ∧ (nss j).getD u 0 ≤ x) from fun j hj => by
              by_cases hjk : j = k
              · subst hjk; rw [X.out]; omega
              · have := LE.out j (by omega); omega)
            have N2 := Lib.hid (show (L ≤ f0 ∧ f0 ≤ x) ∧ (∃ j, j < n ∧ (nss j).getD u 0 = L) ∧ ∃ j, j < n ∧ (nss j).getD u 0 = x from ⟨by have := AT.out.1; omega, AT.out.2.1, ⟨k, hlt, X.out⟩⟩)
            go_wp2_with fail
            go_roundw
            case rel => exact ⟨k + 1, L, x, by omega, by go_num, rfl, rfl, N1.out, N2.out, B3.out⟩
            case measure => simp [intOf] <;> omega
          · have N1 := Lib.hid (show (∀ j, j < k + 1 → L ≤ (nss j).getD u 0 ∧ (nss j).getD u 0 ≤ M) from fun j hj => by
              by_cases hjk : j = k
              · subst hjk; rw [X.out]; omega
              · have := LE.out j (by omega); omega)
            go_wp2_with fail
            go_roundw
            case rel => exact ⟨k + 1, L, M, by omega, by go_num, rfl, rfl, N1.out, AT.out, B3.out⟩
            case measure => simp [intOf] <;> omega
      · have hkn : k = n := by omega
        subst hkn
        clear hlt hB hat
        go_wp2_with fail
        go_loopw [61, 9] (fun i q w2 => ∃ (k' : Nat) (M' : Int), k' ≤ m ∧ i = .int .i64 k' ∧ q = .int .i64 M' ∧ M ≤ M' ∧ (∀ j, j < k' → (mss j).getD u 0 ≤ M') ∧ (M' = M ∨ ∃ j, j < m ∧ (mss j).getD u 0 = M') ∧ Below w.heap.size w w2) (fun i _ _ => m - (intOf i).toNat)
        case atStart => exact ⟨0, M, by omega, rfl, rfl, Int.le_refl _, fun j hj => by omega, .inl rfl, BB.out⟩
        case round =>
          obtain ⟨q, M', hq, rfl, rfl, hMM, hle2, hat2, hB⟩ := hrel
          have LE2 := Lib.hid hle2
          have AT2 := Lib.hid hat2
          have BB2 := Lib.hid hB
          clear hle2 hat2
          by_cases hlt : q < m
          · have hlt' : (q : Int) < m := by omega
            obtain ⟨g', hg', hl, hr⟩ := HB.out.at q hlt
            subst hg'
            have HR' := Lib.hid (range_below hr hB)
            clear hr hB
            obtain ⟨Z, hZ⟩ : ∃ Z, (ints (mss q)).toArray = Z := ⟨_, rfl⟩
            have HZ := Lib.hid hZ
            clear hZ
            obtain ⟨x, hx⟩ : ∃ x, (mss q).getD u 0 = x := ⟨_, rfl⟩
            have X := Lib.hid hx
            have HL := Lib.hid hl
            clear hl
            go_wp2_with (first
              | (with_reducible refine wpList_load_at rfl (.tmp 63) rfl g' (q * 256) (mss q) ?ly Z HZ.out HL.out HR'.out ?_)
              | (with_reducible refine wpList_store_clock rfl (.tmp 13) (.tmp 64) rfl wr.heap.size zeros (mss q) ?ux Z ?uy HZ.out (rat_new' wr Z0 HZ0.out) HL.out ?_))
            case ly => rfl
            case ux => rfl
            case uy => rfl
            intro w3 R3 T3
            have B2 := Lib.hid (T3.below ((Below.refl wr.heap.size wr).alloc (Nat.le_refl _) (.cells Z0 35)) (Nat.le_refl _) (fun i e => by rw [e]; exact Nat.le_refl _))
            have c1 := R3.facts.1 u hu
            rw [hx] at c1
            clear hx R3 T3
            have B3 := Lib.hid (below_trans BB2.out B2.out BB2.out.size)
            by_cases hxm : M' < x
            · have N1 := Lib.hid (show (∀ j, j < q + 1 → (mss j).getD u 0 ≤ x) from fun j hj => by
                by_cases hjk : j = q
                · subst hjk; rw [X.out]; omega
                · have := LE2.out j (by omega); omega)
              go_wp2_with fail
              go_roundw
              case rel => exact ⟨q + 1, x, by omega, by go_num, rfl, by omega, N1.out, .inr ⟨q, hlt, X.out⟩, B3.out⟩
              case measure => simp [intOf] <;> omega
            · have N1 := Lib.hid (show (∀ j, j < q + 1 → (mss j).getD u 0 ≤ M') from fun j hj => by
                by_cases hjk : j = q
                · subst hjk; rw [X.out]; omega
                · have := LE2.out j (by omega); omega)
              go_wp2_with fail
              go_roundw
              case rel => exact ⟨q + 1, M', by omega, by go_num, rfl, hMM, N1.out, AT2.out, B3.out⟩
              case measure => simp [intOf] <;> omega
          · have hqm : q = m := by omega
            subst hqm
            have D := Lib.hid (cut_done (t := u) (n := k) (m := q) (f := fun j => at0 (nss j) u) (g := fun j => at0 (mss j) u) (L := L) (M := M) (M' := M') S.out (fun j hj => by simp only [at0_nat]; exact LE.out j hj) (by simp only [at0_nat]; exact AT.out.2.1) (by simp only [at0_nat]; exact AT.out.2.2) hMM (fun j hj => by simp only [at0_nat]; exact LE2.out j hj) (by simp only [at0_nat]; exact AT2.out))
            clear hlt hB
            by_cases hLM : L = M'
            · have D2 := Lib.hid (D.out.trans (if_pos hLM))
              have hd : (L != M') = false := by simp [hLM]
              clear D hLM
              go_wp2_with fail
              go_ret2
              exact ⟨by rw [D2.out]; rfl, BB2.out⟩
            · have D2 := Lib.hid (D.out.trans (if_neg hLM))
              have hd : (L != M') = true := by simp [hLM]
              clear D hLM
              go_wp2_with fail
              go_ret2
              exact ⟨by rw [D2.out]; rfl, BB2.out⟩
  · have S := Lib.hid (cutB_out (m := m) (f := fun j => at0 (nss j) t) (g := fun j => at0 (mss j) t) hin)
    by_cases q0 : t < 0
    · have d0 : decide (t < 0) = true := decide_eq_true q0
      go_enter Try.func11, Try.ntmps11
      go_wp2_with fail
      go_ret2
      exact ⟨by rw [S.out]; rfl, Below.refl _ _⟩
    · have d0 : decide (t < 0) = false := decide_eq_false q0
      by_cases q1 : 255 < t
      · have d1 : decide (255 < t) = true := decide_eq_true q1
        go_enter Try.func11, Try.ntmps11
        go_wp2_with fail
        go_ret2
        exact ⟨by rw [S.out]; rfl, Below.refl _ _⟩
      · have d1 : decide (255 < t) = false := decide_eq_false q1
        have hn0 : n = 0 := by omega
        subst hn0
        clear hin
        go_enter Try.func11, Try.ntmps11
        go_wp2_with fail
        go_ret2
        exact ⟨by rw [S.out]; rfl, Below.refl _ _⟩

end Go.Proofs.Ytcfkokjfhjdbfaa

