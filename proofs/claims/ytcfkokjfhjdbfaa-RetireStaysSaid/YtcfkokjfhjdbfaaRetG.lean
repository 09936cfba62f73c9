
/-
  retire.All.
-/
import Derived.Test.YtcfkokjfhjdbfaaLaw20b
namespace Go.Proofs.Ytcfkokjfhjdbfaa
open Go.RowKit
set_option linter.unusedVariables false
set_option linter.unusedSimpArgs false
set_option maxRecDepth 100000

theorem cinfo : (Try.prog.info? 43).map (fun i => (i.zero, i.size, i.bytes)) = some (some (.agg #[.int .i64 0, .int .i64 0]), 2, 16) := by kernel_rfl

/-- A tid that is settled, with its cut. -/
def cutF (n m : Nat) (f g : Int → Nat → Int) (t : Int) : Option (Int × Int) := if (cutB t n m (f t) (g t)).2 then some (t, (cutB t n m (f t) (g t)).1) else none
def cutsTo (n m : Nat) (f g : Int → Nat → Int) (ts : List Int) (k : Nat) : List (Int × Int) := (ts.take k).filterMap (cutF n m f g)
theorem cutsTo_some {n m : Nat} {f g : Int → Nat → Int} {ts : List Int} {k : Nat} (hk : k < ts.length) {c : Int} (h : cutB (ts.getD k 0) n m (f (ts.getD k 0)) (g (ts.getD k 0)) = (c, true)) : cutsTo n m f g ts (k + 1) = cutsTo n m f g ts k ++ [(ts.getD k 0, c)] := by
  unfold cutsTo
  have e : ts[k]? = some (ts.getD k 0) := by simp [List.getD, hk]
  rw [List.take_add_one, List.filterMap_append, e]
  simp only [Option.toList_some, List.filterMap_cons, List.filterMap_nil, cutF, h]
  rfl
theorem cutsTo_none {n m : Nat} {f g : Int → Nat → Int} {ts : List Int} {k : Nat} (hk : k < ts.length) (h : (cutB (ts.getD k 0) n m (f (ts.getD k 0)) (g (ts.getD k 0))).2 = false) : cutsTo n m f g ts (k + 1) = cutsTo n m f g ts k := by
  unfold cutsTo
  have e : ts[k]? = some (ts.getD k 0) := by simp [List.getD, hk]
  rw [List.take_add_one, List.filterMap_append, e]
  simp only [Option.toList_some, List.filterMap_cons, List.filterMap_nil, cutF, h]
  simp
theorem cutsTo_le (n m : Nat) (f g : Int → Nat → Int) (ts : List Int) (k : Nat) : (cutsTo n m f g ts k).length ≤ k := by
  unfold cutsTo
  exact Nat.le_trans (List.length_filterMap_le _ _) (by rw [List.length_take]; omega)

/-- Cuts as cells. -/
def cutCells (l : List (Int × Int)) : List Value := l.flatMap fun p => [.int .i64 p.1, .int .i64 p.2]
theorem cutCells_append (l m : List (Int × Int)) : cutCells (l ++ m) = cutCells l ++ cutCells m := by simp [cutCells]
theorem cutCells_at : ∀ (l : List (Int × Int)) (j : Nat) (p : Int × Int), l[j]? = some p → (cutCells l)[j * 2]? = some (.int .i64 p.1) ∧ (cutCells l)[j * 2 + 1]? = some (.int .i64 p.2)
  | [], j, p, h => by simp at h
  | q :: l, 0, p, h => by simp at h; subst h; exact ⟨rfl, rfl⟩
  | q :: l, j + 1, p, h => by
    have := cutCells_at l j p (by simpa using h)
    simp only [cutCells, List.flatMap_cons] at this ⊢
    rw [show (j + 1) * 2 = j * 2 + 2 by omega]
    exact this

theorem range_lit (w : World) (cs : List Value) (t : TypeId) (j : Nat) (u : Value) (h : cs[j]? = some u) : (w.alloc (.cells cs.toArray t)).cell? (Addr.add ⟨w.heap.size, 0, none⟩ j) = some u := by
  rw [Addr.add_mid]
  simp only [World.cell?, heap_alloc_new, Nat.zero_add]
  simpa using h

def AllOf (n m : Nat) (f g : Int → Nat → Int) (ts : List Int) (w : World) (r : Ending) (w' : World) : Prop :=
  ∃ v, r = .returned v ∧ w'.ownsRow w.heap.size 43 2 v (cutsTo n m f g ts ts.length).length (cutCells (cutsTo n m f g ts ts.length)) ∧ Below w.heap.size w w'

theorem all_of (vt va vb : Value) (ts : List Int) (n m : Nat) (bs : Nat → Nat) (ks : Nat → Ck) (cs : Nat → Nat) (hs : Nat → Ck) (w : World) (ht : Src w vt ts) (ha : CksOf w va n bs ks) (hb : CksOf w vb m cs hs) (hn : n ≤ 1000) (hm : m ≤ 1000) (hts : ts.length ≤ 100) :
    Calls Try.prog 14 #[vt, va, vb] w (AllOf n m (fun t j => at0 (ks j).xs t) (fun t j => at0 (hs j).xs t) ts w) := by
  obtain ⟨ao, cap, rfl, hno, hc⟩ := ht
  have HC := Lib.hid hc
  have HA := Lib.hid ha
  have HB := Lib.hid hb
  obtain ⟨ca, cca, rfl⟩ := ha.shape
  obtain ⟨cb, ccb, rfl⟩ := hb.shape
  obtain ⟨ci, hci, hc0, hc1, hc2⟩ := info_parts cinfo
  clear hc hno ha hb
  go_enter Try.func14, Try.ntmps14
  go_wp2_with fail
  go_loopw [14, 7] (fun i s wr => ∃ (k : Nat) (v : Value), k ≤ ts.length ∧ i = .int .i64 k ∧ s = v ∧ wr.ownsRow w.heap.size 43 2 v (cutsTo n m (fun t j => at0 (ks j).xs t) (fun t j => at0 (hs j).xs t) ts k).length (cutCells (cutsTo n m (fun t j => at0 (ks j).xs t) (fun t j => at0 (hs j).xs t) ts k)) ∧ Below w.heap.size w wr) (fun i _ _ => ts.length - (intOf i).toNat)
  case atStart => exact ⟨0, .slice none 0 0, by omega, rfl, rfl, ⟨rfl, .inl ⟨rfl, rfl⟩⟩, Below.refl _ _⟩
  case round =>
    obtain ⟨k, v, hk, rfl, rfl, hown, hB⟩ := hrel
    by_cases hlt : k < ts.length
    · have hlt' : (k : Int) < ts.length := by omega
      obtain ⟨g, z, rfl, hcc⟩ := HC.out (by omega)
      have c00 := hcc k hlt
      have c0 : wr.cell? ⟨g, z + k, none⟩ = some (.int .i64 (ts.getD k 0)) := by rw [hB.cell (p := ⟨g, z + k, none⟩) (block_lt_of_cell c00)]; exact c00
      have Sm := Lib.hid (fun c h => cutsTo_some (n := n) (m := m) (f := fun t j => at0 (ks j).xs t) (g := fun t j => at0 (hs j).xs t) (ts := ts) hlt (c := c) h)
      have Nn := Lib.hid (fun h => cutsTo_none (n := n) (m := m) (f := fun t j => at0 (ks j).xs t) (g := fun t j => at0 (hs j).xs t) (ts := ts) hlt h)
      have LE := Lib.hid (cutsTo_le n m (fun t j => at0 (ks j).xs t) (fun t j => at0 (hs j).xs t) ts k)
      obtain ⟨L, hL⟩ : ∃ L, cutsTo n m (fun t j => at0 (ks j).xs t) (fun t j => at0 (hs j).xs t) ts k = L := ⟨_, rfl⟩
      rw [hL] at hown Sm Nn LE
      obtain ⟨t, ht⟩ : ∃ t, ts.getD k 0 = t := ⟨_, rfl⟩
      rw [ht] at c0 Sm Nn
      have A1 := HA.out.below hB
      have B1 := HB.out.below hB
      clear hcc c00 hL ht
      go_wp2_with fail
      refine (of_cut t _ _ n m _ _ _ _ wr A1 B1 hn hm).mono ?_
      rintro r w1 ⟨rfl, hB1⟩
      have hown1 := ownsRow_keep hown (keepT_below hB1)
      have BB1 := Lib.hid (below_trans hB hB1 hB.size)
      clear hB1 hB hown A1 B1 c0
      cases hok : (cutB t n m (fun j => at0 (ks j).xs t) (fun j => at0 (hs j).xs t)).2 with
      | false =>
        have X := Lib.hid (Nn.out hok)
        obtain ⟨c, hc⟩ : ∃ c, (cutB t n m (fun j => at0 (ks j).xs t) (fun j => at0 (hs j).xs t)).1 = c := ⟨_, rfl⟩
        rw [hc]
        clear hok hc
        go_wp2_with fail
        go_roundw
        case rel => exact ⟨k + 1, _, by omega, by go_num, rfl, by rw [X.out]; exact hown1, BB1.out⟩
        case measure => simp [intOf] <;> omega
      | true =>
        obtain ⟨c, hc⟩ : ∃ c, (cutB t n m (fun j => at0 (ks j).xs t) (fun j => at0 (hs j).xs t)).1 = c := ⟨_, rfl⟩
        have X := Lib.hid (Sm.out c (Prod.ext hc hok))
        rw [hc]
        have LE' := LE.out
        clear hok hc
        go_wp2_with (at_builtin; refine wpList_append_own _ rfl _ _ 40 rfl w.heap.size 43 ci _ 2 16 Try.underlying40 hci hc0 hc1 hc2 rfl (by decide) _ _ _ rfl (show World.ownsRow _ _ _ _ _ _ _ from hown1.alloc _) ⟨w1.heap.size, 0, none⟩ 1 1 [.int .i64 t, .int .i64 c] rfl rfl ?c1 ?c2 ?c3 ?c4 ?c5 ?_)
        case c1 => exact fun j u hj => range_lit w1 [.int .i64 t, .int .i64 c] _ j u hj
        case c2 => intro u hu; simp at hu; rcases hu with rfl | rfl <;> rfl
        case c3 => unfold maxLen; omega
        case c4 => omega
        case c5 => have := BB1.out.size; rw [size_alloc]; omega
        intro v' w2 hown' hgrow _
        have hb' := Lib.hid ((BB1.out.alloc BB1.out.size _).grown hgrow (by have := BB1.out.size; rw [size_alloc]; omega) (fun k hk => (hown1.lt k hk).1))
        have ho : w2.ownsRow w.heap.size 43 2 v' (L ++ [(t, c)]).length (cutCells (L ++ [(t, c)])) := by
          rw [cutCells_append, List.length_append]; exact hown'
        have HO := Lib.hid ho
        clear hown' hgrow hown1 ho
        go_wp2_with fail
        go_roundw
        case rel => exact ⟨k + 1, _, by omega, by go_num, rfl, by rw [X.out]; exact HO.out, hb'.out⟩
        case measure => simp [intOf] <;> omega
    · have hkn : k = ts.length := by omega
      subst hkn
      have HO := Lib.hid hown
      have HBB := Lib.hid hB
      clear hown hB hlt
      go_wp2_with fail
      go_ret
      exact ⟨_, rfl, HO.out, HBB.out⟩

end Go.Proofs.Ytcfkokjfhjdbfaa

