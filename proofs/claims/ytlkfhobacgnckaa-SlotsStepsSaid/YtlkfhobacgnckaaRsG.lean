
/-
  staitheref15: Held.
-/
import Derived.Test.YtlkfhobacgnckaaRsF
namespace Go.Proofs.Ytlkfhobacgnckaa
open Go.RowKit
set_option linter.unusedVariables false
set_option linter.unusedSimpArgs false
set_option maxRecDepth 100000

/-- What is held of the receives, of the first k of them. -/
def Rf.heldR (Q : Rf) (k : Nat) : List (List Int) := if 0 < Q.size then (Q.R.take k).drop (Q.S.length - Q.size) else []
def Rf.held (Q : Rf) : List (List Int) := Q.S.drop Q.R.length ++ Q.heldR Q.R.length ++ (if Q.cl then [Q.cg] else [])
def QHeld (Q : Rf) (w : World) (r : Ending) (w' : World) : Prop := ∃ v, r = .returned v ∧ w'.ownsRow w.heap.size 56 256 v Q.held.length (flatV Q.held) ∧ Below w.heap.size w w'
theorem take_snoc (l : List (List Int)) (k : Nat) (h : k < l.length) : l.take (k + 1) = l.take k ++ [l.getD k []] := by
  rw [List.take_add_one]; simp [List.getD, h]
theorem Rf.heldR_yes {Q : Rf} {k : Nat} (h0 : 0 < Q.size) (h1 : Q.S.length ≤ k + Q.size) (hk : k < Q.R.length) : Q.heldR (k + 1) = Q.heldR k ++ [Q.R.getD k []] := by
  unfold Rf.heldR
  rw [if_pos h0, if_pos h0, take_snoc _ _ hk, List.drop_append_of_le_length (by simp; omega)]
theorem Rf.heldR_no {Q : Rf} {k : Nat} (h : ¬ (0 < Q.size ∧ Q.S.length ≤ k + Q.size)) : Q.heldR (k + 1) = Q.heldR k := by
  unfold Rf.heldR
  by_cases h0 : 0 < Q.size
  · rw [if_pos h0, if_pos h0, List.drop_eq_nil_of_le (by simp; omega), List.drop_eq_nil_of_le (by simp; omega)]
  · rw [if_neg h0, if_neg h0]
theorem Rf.heldR_zero (Q : Rf) : Q.heldR 0 = [] := by
  unfold Rf.heldR
  split <;> simp
theorem row_app {w0 wr w5 : World} {v : Value} {n : Nat} {us : List Value} {Z : Array Value} (hR : wr.ownsRow w0.heap.size 56 256 v n us) (hB : Below w0.heap.size w0 wr) (hgr : (wr.alloc (.cells Z 56)).grownBy w5 v.ownBlock) : Below w0.heap.size w0 w5 :=
  (hB.alloc hB.size _).grown hgr (by have := hB.size; simp; omega) (fun k hk => (hR.lt k hk).1)
set_option maxHeartbeats 8000000 in
theorem held15_any {B q : Nat} {w : World} {vS vR : Value} {Q : Rf} (h : QAt B q w vS vR Q) (hs : Q.S.length ≤ 30000) (hr : Q.R.length ≤ Q.S.length) :
    Calls Try.prog 43 #[.pointer (some ⟨q, 0, none⟩)] w (QHeld Q w) := by
  obtain ⟨aS, cS, e1⟩ := owns_slice h.rowS
  obtain ⟨aR, cR, e2⟩ := owns_slice h.rowR
  subst e1; subst e2
  have H := Lib.hid h
  obtain ⟨sn, hsn⟩ : ∃ n, Q.S.length = n := ⟨_, rfl⟩
  obtain ⟨rn, hrn⟩ : ∃ n, Q.R.length = n := ⟨_, rfl⟩
  obtain ⟨sz, hsz⟩ : ∃ n, Q.size = n := ⟨_, rfl⟩
  have c0 := h.c0
  have c1 := h.c1
  have c2 := h.c2
  have sz4 := h.sz
  rw [hsn] at c1 hs
  rw [hrn] at c2
  rw [hsz] at c0 sz4
  rw [hsn, hrn] at hr
  have SN := Lib.hid hsn
  have RN := Lib.hid hrn
  have SZ := Lib.hid hsz
  obtain ⟨A, hA⟩ : ∃ A, Q.S.drop rn = A := ⟨_, rfl⟩
  have AL := Lib.hid (show A.length = sn - rn by rw [← hA]; simp [hsn])
  have HA := Lib.hid hA
  clear h hsn hrn hsz hA
  go_enter Try.func43, Try.ntmps43
  go_wp2_with fail
  go_loopw [3, 4] (fun o i wr => ∃ (k d : Nat), (rn + d = k ∧ k ≤ sn) ∧ i = .int .i64 k ∧ wr.ownsRow w.heap.size 56 256 o d (flatV (A.take d)) ∧ Below w.heap.size w wr) (fun _ i _ => sn - (intOf i).toNat)
  case atStart => exact ⟨rn, 0, ⟨by omega, hr⟩, rfl, World.ownsRow_nil _ _ _ _, Below.refl _ _⟩
  case round =>
    obtain ⟨k, d, ⟨hk, hks⟩, rfl, hrow, hB⟩ := hrel
    obtain ⟨ao, cap0, rfl⟩ := owns_slice hrow
    have R := Lib.hid hrow
    have BB := Lib.hid hB
    have HH := Lib.hid (H.out.below hB)
    have c1' : wr.cell? ⟨q, 1, none⟩ = some (.slice aS sn cS) := by have := HH.out.c1; rw [SN.out] at this; exact this
    have c2' : wr.cell? ⟨q, 2, none⟩ = some (.slice aR rn cR) := by have := HH.out.c2; rw [RN.out] at this; exact this
    clear hrow hB
    by_cases hlt : k < sn
    · have hlt' : (k : Int) < (sn : Int) := by omega
      obtain ⟨g, cap, e, L⟩ := row_lg HH.out.rowS HH.out.lS k (by have := SN.out; omega)
      rw [SN.out] at e
      cases e
      have hm : Q.S.getD k [] ∈ Q.S := by rw [List.getD_eq_getElem?_getD, List.getElem?_eq_getElem (by have := SN.out; omega)]; exact List.getElem_mem _
      have hll := HH.out.lS _ hm
      have G := Lib.hid (show A.take (d + 1) = A.take d ++ [Q.S.getD k []] from by
        rw [take_snoc A d (by have := AL.out; omega), ← HA.out]
        congr 2
        rw [List.getD_eq_getElem?_getD, List.getD_eq_getElem?_getD, List.getElem?_drop, hk])
      obtain ⟨l, hl⟩ : ∃ l, Q.S.getD k [] = l := ⟨_, rfl⟩
      rw [hl] at L hll G
      clear hl hm
      obtain ⟨Z, hZ⟩ : ∃ Z, (ints l).toArray = Z := ⟨_, rfl⟩
      have hZs : Z.size = 256 := by rw [← hZ]; simp [length_ints, hll]
      have HZ := Lib.hid hZ
      have LL := Lib.hid L
      have HL := Lib.hid hll
      have HLI := Lib.hid (show (Try.prog.info? 56).map (·.size) = some (ints l).length from by rw [rsize, length_ints, hll])
      have NW := Lib.hid (Lg.new wr (ints l) 56 hZ)
      clear L hll hZ c2 c0 c1
      go_wp2_with (first
        | (with_reducible refine wpList_load_lg rfl 56 (.tmp 26) (by rfl) g (k * 256) (by with_unfolding_all rfl) (ints l) _ Z HZ.out LL.out Try.underlying56 rfl HLI.out ?_)
        | (with_reducible refine wpList_build_clock rfl (.tmp 27) (by rfl) Z (by with_unfolding_all rfl) hZs ?_)
        | (with_reducible refine wpList_append_clk rfl (.tmp 20) (.tmp 28) (by rfl) w.heap.size _ d (A.take d) (by with_unfolding_all rfl) (R.out.alloc _) wr.heap.size 1 l HL.out (by with_unfolding_all rfl) NW.out (by omega) (by have := BB.out.size; simp; omega) ?_))
      intro g5 cap5 w5 hown hgr _ _
      have O5 := Lib.hid hown
      have B5 := Lib.hid (row_app R.out BB.out hgr)
      clear hown hgr
      go_wp2_with fail
      go_roundw
      case rel => exact ⟨k + 1, d + 1, ⟨by omega, by omega⟩, by go_num, by rw [G.out]; exact O5.out, B5.out⟩
      case measure => simp [intOf] <;> omega
    · have hge : (sn : Int) ≤ k := by omega
      have hgk : (sn : Int) ≤ k := by omega
      have hd : d = A.length := by rw [AL.out]; omega
      have R1 := Lib.hid (show wr.ownsRow w.heap.size 56 256 (.slice ao A.length cap0) A.length (flatV A) from by have := R.out; rw [hd, List.take_length] at this; exact this)
      rw [hd]
      have dgk : decide (k < sn) = false := decide_eq_false (by omega)
      clear R hd
      clear hlt
      go_wp2_with fail
      go_loopw [3, 35] (fun o i wr => ∃ (k m : Nat), (k ≤ rn ∧ (A ++ Q.heldR k).length = m) ∧ i = .int .i64 k ∧ wr.ownsRow w.heap.size 56 256 o m (flatV (A ++ Q.heldR k)) ∧ Below w.heap.size w wr) (fun _ i _ => rn - (intOf i).toNat)
      case atStart => exact ⟨0, A.length, ⟨by omega, by rw [Q.heldR_zero, List.append_nil]⟩, rfl, by rw [Q.heldR_zero, List.append_nil]; exact R1.out, BB.out⟩
      case round =>
        clear R1 BB HH c1' c2' hks hgk dgk c0 c1 c2
        obtain ⟨k, m, ⟨hk, hm⟩, rfl, hrow, hB⟩ := hrel
        obtain ⟨ao, cap0, rfl⟩ := owns_slice hrow
        have MM := Lib.hid hm
        have hml : m ≤ 60000 := by
          rw [← hm, List.length_append]
          have h1 := AL.out
          have h2 : (Q.heldR k).length ≤ k := by
            unfold Rf.heldR
            split
            · simp; omega
            · simp
          omega
        have R0 := Lib.hid hrow
        have BB0 := Lib.hid hB
        have BB := Lib.hid hB.drew
        have R := Lib.hid (show World.ownsRow wr.drew w.heap.size 56 256 _ m (flatV (A ++ Q.heldR k)) from hrow)
        have HH := Lib.hid (H.out.below hB.drew)
        have H0 := Lib.hid (H.out.below hB)
        have d0 : wr.drew.cell? ⟨q, 0, none⟩ = some (.int .i64 sz) := by have := HH.out.c0; rw [SZ.out] at this; exact this
        have d1 : wr.drew.cell? ⟨q, 1, none⟩ = some (.slice aS sn cS) := by have := HH.out.c1; rw [SN.out] at this; exact this
        have d2 : wr.drew.cell? ⟨q, 2, none⟩ = some (.slice aR rn cR) := by have := HH.out.c2; rw [RN.out] at this; exact this
        have c0 : wr.cell? ⟨q, 0, none⟩ = some (.int .i64 sz) := by have := H0.out.c0; rw [SZ.out] at this; exact this
        have c1 : wr.cell? ⟨q, 1, none⟩ = some (.slice aS sn cS) := by have := H0.out.c1; rw [SN.out] at this; exact this
        have c2 : wr.cell? ⟨q, 2, none⟩ = some (.slice aR rn cR) := by have := H0.out.c2; rw [RN.out] at this; exact this
        have c3 := H0.out.c3
        clear hrow hB hm
        by_cases hlt : k < rn
        · have hlt' : (k : Int) < (rn : Int) := by omega
          obtain ⟨t, ht⟩ : ∃ t : Nat, k + sz = t := ⟨_, rfl⟩
          have wr1 : IntKind.i64.wrap ((k : Int) + (sz : Int)) = t := by rw [IntWalk.i64_in _ (by omega)]; omega
          have ways : (0 < sz ∧ sn ≤ t) ∨ (0 < sz ∧ ¬ sn ≤ t) ∨ ¬ 0 < sz := by omega
          have TT := Lib.hid ht
          rcases ways with ⟨g1, g2⟩ | ⟨g1, g2⟩ | g1
          · have dd1 : decide (0 < sz) = true := decide_eq_true g1
            have dd1' : decide ((0 : Int) < (sz : Int)) = true := decide_eq_true (by omega)
            have dd2 : decide (sn ≤ t) = true := decide_eq_true g2
            have dd2' : decide ((sn : Int) ≤ (t : Int)) = true := decide_eq_true (by omega)
            have G := Lib.hid (Q.heldR_yes (k := k) (by rw [SZ.out]; exact g1) (by rw [SZ.out, SN.out, ht]; exact g2) (by rw [RN.out]; exact hlt))
            obtain ⟨g, cap, e, L⟩ := row_lg HH.out.rowR HH.out.lR k (by have := RN.out; omega)
            rw [RN.out] at e
            cases e
            have hmm : Q.R.getD k [] ∈ Q.R := by rw [List.getD_eq_getElem?_getD, List.getElem?_eq_getElem (by have := RN.out; omega)]; exact List.getElem_mem _
            have hll := HH.out.lR _ hmm
            obtain ⟨l, hl⟩ : ∃ l, Q.R.getD k [] = l := ⟨_, rfl⟩
            rw [hl] at L hll G
            clear hl hmm
            obtain ⟨Z, hZ⟩ : ∃ Z, (ints l).toArray = Z := ⟨_, rfl⟩
            have hZs : Z.size = 256 := by rw [← hZ]; simp [length_ints, hll]
            have HZ := Lib.hid hZ
            have LL := Lib.hid L
            have HL := Lib.hid hll
            have HLI := Lib.hid (show (Try.prog.info? 56).map (·.size) = some (ints l).length from by rw [rsize, length_ints, hll])
            have NW := Lib.hid (Lg.new wr.drew (ints l) 56 hZ)
            clear L hll hZ ht
            go_wp2_with fail
            go_region_held3 (fun w' => w'.cell? ⟨q, 0, none⟩ = some (.int .i64 sz) ∧ w'.cell? ⟨q, 1, none⟩ = some (.slice aS sn cS)) (go_keep) (fail)
            go_wp2_with (first
            | (with_reducible refine wpList_load_lg rfl 56 (.tmp 63) (by rfl) g (k * 256) (by with_unfolding_all rfl) (ints l) _ Z HZ.out LL.out Try.underlying56 rfl HLI.out ?_)
            | (with_reducible refine wpList_build_clock rfl (.tmp 64) (by rfl) Z (by with_unfolding_all rfl) hZs ?_)
            | (with_reducible refine wpList_append_clk rfl (.tmp 57) (.tmp 65) (by rfl) w.heap.size _ m (A ++ Q.heldR k) (by with_unfolding_all rfl) (R.out.alloc _) wr.drew.heap.size 1 l HL.out (by with_unfolding_all rfl) NW.out (by omega) (by have := BB0.out.size; simp; omega) ?_))
            intro g5 cap5 w5 hown hgr _ _
            have O5 := Lib.hid hown
            have B5 := Lib.hid (row_app R.out BB.out hgr)
            clear hown hgr
            go_wp2_with fail
            go_roundw
            case rel => exact ⟨k + 1, m + 1, ⟨by omega, by rw [G.out, ← List.append_assoc, List.length_append, MM.out]; rfl⟩, by go_num, by rw [G.out]; exact O5.out, B5.out⟩
            case measure => simp [intOf] <;> omega
          · have dd1 : decide (0 < sz) = true := decide_eq_true g1
            have dd1' : decide ((0 : Int) < (sz : Int)) = true := decide_eq_true (by omega)
            have dd2 : decide (sn ≤ t) = false := decide_eq_false g2
            have dd2' : decide ((sn : Int) ≤ (t : Int)) = false := decide_eq_false (by omega)
            have G := Lib.hid (Q.heldR_no (k := k) (by rw [SZ.out, SN.out, ht]; exact fun h => g2 h.2))
            clear ht
            go_wp2_with fail
            go_region_held3 (fun w' => w'.cell? ⟨q, 0, none⟩ = some (.int .i64 sz) ∧ w'.cell? ⟨q, 1, none⟩ = some (.slice aS sn cS)) (go_keep) (fail)
            go_wp2_with fail
            go_roundw
            case rel => exact ⟨k + 1, m, ⟨by omega, by rw [G.out]; exact MM.out⟩, by go_num, by rw [G.out]; exact R.out, BB.out⟩
            case measure => simp [intOf] <;> omega
          · have dd1 : decide (0 < sz) = false := decide_eq_false g1
            have dd1' : decide ((0 : Int) < (sz : Int)) = false := decide_eq_false (by omega)
            have G := Lib.hid (Q.heldR_no (k := k) (by rw [SZ.out]; exact fun h => g1 h.1))
            clear ht g1
            go_wp2_with fail
            go_quiet (fail)
            go_wp2_with fail
            go_roundw
            case rel => exact ⟨k + 1, m, ⟨by omega, by rw [G.out]; exact MM.out⟩, by go_num, by rw [G.out]; exact R0.out, below_drewN BB0.out _⟩
            case measure => simp [intOf] <;> omega
        · have hkn : k = rn := by omega
          have hge : (rn : Int) ≤ k := by omega
          have KN := Lib.hid hkn
          have HE := Lib.hid (show Q.held = A ++ Q.heldR k ++ (if Q.cl then [Q.cg] else []) from by unfold Rf.held; rw [RN.out, HA.out, hkn])
          clear hkn hlt
          obtain ⟨cl, hcl⟩ : ∃ x, Q.cl = x := ⟨_, rfl⟩
          rw [hcl] at HE c3
          clear hcl
          cases cl with
          | false =>
            rw [if_neg (by decide), List.append_nil] at HE
            go_wp2_with fail
            go_ret
            exact ⟨_, rfl, by rw [HE.out, MM.out]; exact R0.out, BB0.out⟩
          | true =>
            rw [if_pos rfl] at HE
            obtain ⟨l, hl⟩ : ∃ l, Q.cg = l := ⟨_, rfl⟩
            have L := H0.out.cg
            have hll := H0.out.lg
            rw [hl] at HE L hll
            clear hl
            obtain ⟨Z, hZ⟩ : ∃ Z, (ints l).toArray = Z := ⟨_, rfl⟩
            have hZs : Z.size = 256 := by rw [← hZ]; simp [length_ints, hll]
            have HZ := Lib.hid hZ
            have LL := Lib.hid L
            have HL := Lib.hid hll
            have HLI := Lib.hid (show (Try.prog.info? 56).map (·.size) = some (ints l).length from by rw [rsize, length_ints, hll])
            have NW := Lib.hid (Lg.new wr (ints l) 56 hZ)
            clear L hll hZ
            go_wp2_with (first
            | (with_reducible refine wpList_load_lg rfl 56 (.tmp 75) (by rfl) q 4 (by with_unfolding_all rfl) (ints l) _ Z HZ.out LL.out Try.underlying56 rfl HLI.out ?_)
            | (with_reducible refine wpList_build_clock rfl (.tmp 76) (by rfl) Z (by with_unfolding_all rfl) hZs ?_)
            | (with_reducible refine wpList_append_clk rfl (.tmp 72) (.tmp 77) (by rfl) w.heap.size _ m (A ++ Q.heldR k) (by with_unfolding_all rfl) (R0.out.alloc _) wr.heap.size 1 l HL.out (by with_unfolding_all rfl) NW.out (by omega) (by have := BB0.out.size; simp; omega) ?_))
            intro g5 cap5 w5 hown hgr _ _
            have O5 := Lib.hid hown
            have B5 := Lib.hid (row_app R0.out BB0.out hgr)
            clear hown hgr
            go_wp2_with fail
            go_ret
            exact ⟨_, rfl, by rw [HE.out, List.length_append, MM.out]; first | exact O5.out | (rw [← List.append_assoc] at *; exact O5.out) | (rw [List.append_assoc]; exact O5.out), B5.out⟩
end Go.Proofs.Ytlkfhobacgnckaa

