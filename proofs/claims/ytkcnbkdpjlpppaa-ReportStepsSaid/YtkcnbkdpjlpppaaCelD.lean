
/-
  Package cell: slices.Insert of one epoch, into a row that is owned.
-/
import Derived.Test.YtkcnbkdpjlpppaaCelC
import Derived.Shelf.Spec.SlicesInsertGrow
import Derived.Laws.CopyRow
import Derived.Deep.RegionLaw
namespace Go.Proofs.Ytkcnbkdpjlpppaa
open Go.RowKit
set_option linter.unusedVariables false
set_option linter.unusedSimpArgs false
set_option maxRecDepth 100000


def ep1 (r : Int) : List Value := [.int .u64 r]
theorem ep1_len (r : Int) : (ep1 r).length = 1 := rfl
theorem eps_one (r : Int) : eps [r] = ep1 r := rfl
theorem run_copy_rowk {P : Program} (w : World) (dT sT ty elem : TypeId) (k g o dLen dCap : Nat) (a : Addr) (sLen sCap m : Nat) (cur : Array Value) (t : TypeId) (cs : List Value)
    (hu : P.underlying dT = some (.slice elem)) (hs : (P.info? elem).map (·.size) = some k)
    (hg : w.heap[g]? = some (.cells cur t (0, 0))) (hm : Nat.min sLen dLen = m) (hn : cs.length = m * k)
    (hsrc : ∀ j v, cs[j]? = some v → w.cell? (a.add j) = some v) (hfit : o + cs.length ≤ cur.size) (h1 : ∀ v ∈ cs, v.oneCell' = true) :
    (Builtin.copy_ #[dT, sT] ty #[.slice (some ⟨g, o, none⟩) dLen dCap, .slice (some a) sLen sCap]).run P w =
      .ok (goInt m) (w.setRow g (cur.toList.take o ++ cs ++ cur.toList.drop (o + cs.length)).toArray) := by
  have hl := run_loadCells_list (P := P) w a cs hsrc
  have hst := run_storeCells_at P g o t cs 0 cur w hg (by simpa using hfit) h1
  cases hq : P.info? elem with
  | none => simp [hq] at hs
  | some i =>
    have hi : i.size = k := by simpa [hq] using hs
    simp [Builtin.copy_, run_underlying hu, Builtin.lenOf, Builtin.firstCells, sizeOf, typeInfo, hq, hi, hm, ← hn, hl, hst]
/-- What Insert answers. -/
def InsPost (B : Nat) (v : Value) (n i : Nat) (rs : List Int) (r : Int) (w : World) (e : Ending) (w' : World) : Prop :=
  ∃ v', e = .returned v' ∧ w'.ownsRow B 25 1 v' (n + 1) (eps (rs.take i ++ [r] ++ rs.drop i)) ∧ w.grownBy w' v.ownBlock

theorem insert_end (B g cap n vb : Nat) (rs : List Int) (r : Int) (w : World) (hB : B ≤ w.heap.size) (hl : rs.length = n) (h0 : 0 < n) (hN : n ≤ 1000)
    (hown : w.ownsRow B 25 1 (.slice (some ⟨g, 0, none⟩) n cap) n (eps rs))
    (hv : w.heap[vb]? = some (.cells (ep1 r).toArray 25 (0, 0))) :
    Calls Try.prog 42 #[.slice (some ⟨g, 0, none⟩) n cap, .int .i64 n, .slice (some ⟨vb, 0, none⟩) 1 1] w (InsPost B (.slice (some ⟨g, 0, none⟩) n cap) n n rs r w) := by
  obtain ⟨i0, hi, hz0, hz1, hz2⟩ := info_parts info_ep
  have hcap : n ≤ cap := by
    rcases hown.2 with ⟨he, _⟩ | ⟨g', cap', cur, he, _, _, hnc, _⟩
    · cases he
    · cases he; exact hnc
  have hcap2 : cap ≤ maxLen := by
    rcases hown.2 with ⟨he, _⟩ | ⟨g', cap', cur, he, _, _, _, hm, _⟩
    · cases he
    · cases he; exact hm
  unfold maxLen at hcap2
  have hnews : ∀ j u, (ep1 r)[j]? = some u → w.cell? (Addr.add ⟨vb, 0, none⟩ j) = some u := fun j u hj => by
    rw [Addr.add_lit]
    simp only [World.cell?, hv, Nat.zero_add]
    simpa using hj
  have HO := Lib.hid hown
  have HV := Lib.hid hv
  have HL := Lib.hid hl
  clear hown hv hl
  go_enter Try.func42, Try.ntmps42
  go_wp2_with (at_builtin; refine wpList_append_own _ rfl _ _ 73 rfl B 25 i0 _ 1 8 Try.underlying73 hi hz0 hz1 hz2 rfl (by decide) _ n (eps rs) rfl HO.out _ 1 1 (ep1 r) rfl rfl hnews (by have := eps1 [r]; rwa [eps_one] at this) (by unfold maxLen; omega) (by omega) hB ?_)
  all_goals
   intro v' w' h1 h2 _
   obtain ⟨ao, c, rfl⟩ : ∃ ao c, v' = .slice ao (n + 1) c := by
     rcases h1.2 with ⟨hv, _⟩ | ⟨g, cap, cur, hv, _⟩
     · omega
     · exact ⟨_, _, hv⟩
   have T := Lib.hid (show InsPost B (.slice (some ⟨g, 0, none⟩) n cap) n n rs r w (.returned (.slice ao (n + 1) c)) w' from ⟨_, rfl, by
     rw [List.take_of_length_le (by rw [HL.out]; exact Nat.le_refl _), List.drop_of_length_le (by rw [HL.out]; exact Nat.le_refl _), List.append_nil, eps_append, eps_one]; exact h1, h2⟩)
   clear h1 h2
   go_wp2
   go_ret
   exact T.out

/-! ### In place, ahead of the end -/
theorem len_take_drop (rs : List Int) (i : Nat) : (eps (rs.drop i)).length = (rs.length - i) := by rw [eps_len, List.length_drop]
theorem shift_list {cur : List Value} {rs : List Int} {r : Int} {n i : Nat} (hl : rs.length = n) (hi : i < n) (hc : (n + 1) ≤ cur.length) (ht : cur.take (n) = eps rs)
    {X1 X2 : List Value} (h1 : X1 = cur.take ((i + 1)) ++ eps (rs.drop i) ++ cur.drop ((i + 1) + (eps (rs.drop i)).length)) (h2 : X2 = X1.take (i) ++ ep1 r ++ X1.drop (i + (ep1 r).length)) :
    X2.length = cur.length ∧ X2.take ((n + 1)) = eps (rs.take i ++ [r] ++ rs.drop i) := by
  have e0 : (cur.take ((i + 1))).length = (i + 1) := by rw [List.length_take, Nat.min_eq_left (by omega)]
  have eD : (eps (rs.drop i)).length = (n - i) := by rw [len_take_drop, hl]
  have a1 : X1.take (i) = eps (rs.take i) := by
    rw [h1, List.append_assoc, List.take_append_of_le_length (by rw [e0]; omega), List.take_take, Nat.min_eq_left (by omega), eps_take rs i, ← ht, List.take_take, Nat.min_eq_left (by omega)]
  have a2 : X1.drop (i + (ep1 r).length) = eps (rs.drop i) ++ cur.drop ((n + 1)) := by
    rw [h1, ep1_len, List.append_assoc, show i + 1 = (i + 1) by omega, List.drop_left' e0, eD, show (i + 1) + (n - i) = (n + 1) by omega]
  have a3 : X2 = eps (rs.take i ++ [r] ++ rs.drop i) ++ cur.drop ((n + 1)) := by rw [h2, a1, a2, eps_append, eps_append, eps_one]; simp [List.append_assoc]
  have a4 : (eps (rs.take i ++ [r] ++ rs.drop i)).length = (n + 1) := by
    rw [eps_len]
    simp only [List.length_append, List.length_take, List.length_drop, List.length_cons, List.length_nil]; omega
  refine ⟨?_, ?_⟩
  · rw [a3, List.length_append, a4, List.length_drop]; omega
  · rw [a3, List.take_left' a4]

set_option maxHeartbeats 4000000 in
theorem insert_shift (B g cap n i vb : Nat) (rs : List Int) (r : Int) (w : World) (hB : B ≤ w.heap.size) (hl : rs.length = n) (hin : i < n) (hN : n ≤ 1000) (hroom : n + 1 ≤ cap) (hvg : vb ≠ g)
    (hown : w.ownsRow B 25 1 (.slice (some ⟨g, 0, none⟩) n cap) n (eps rs))
    (hv : w.heap[vb]? = some (.cells (ep1 r).toArray 25 (0, 0))) :
    Calls Try.prog 42 #[.slice (some ⟨g, 0, none⟩) n cap, .int .i64 i, .slice (some ⟨vb, 0, none⟩) 1 1] w (InsPost B (.slice (some ⟨g, 0, none⟩) n cap) n i rs r w) := by
  obtain ⟨i0, hi, hz0, hz1, hz2⟩ := info_parts info_ep
  obtain ⟨cur, hBg, hg, hcm, hcs, htake⟩ : ∃ cur : Array Value, B ≤ g ∧ w.heap[g]? = some (.cells cur 25 (0, 0)) ∧ cap ≤ maxLen ∧ cur.size = cap ∧ cur.toList.take (n) = eps rs := by
    rcases hown.2 with ⟨he, _⟩ | ⟨g', cap', cur, he, h1, h2, _, h3, h4, h5⟩
    · cases he
    · cases he; exact ⟨cur, h1, h2, h3, by rw [h4, Nat.mul_one], by rw [Nat.mul_one] at h5; exact h5⟩
  have hcm2 := hcm
  unfold maxLen at hcm2
  have hov : ∀ lb cb, (callFunc 56 #[.slice (some ⟨vb, 0, none⟩) 1 1, .slice (some ⟨g, (i + 1), none⟩) lb cb]).run Try.prog w = .ok (.value (.bool false)) w := fun lb cb => by
    rw [run_callFunc_extern (Try.func56) (by kernel_rfl) (by kernel_rfl) (by kernel_rfl) (e := Extern.SlicesOverlaps.overlaps #[73, 73] #[4]) (by kernel_rfl),
      Lib.run_overlaps_apart w 73 4 25 Try.underlying73 1 (by intro w; simp [sizeOf, typeInfo, hi, hz1]) ⟨vb, 0, none⟩ ⟨g, (i + 1), none⟩ 1 1 lb cb hvg 25 25 1 (cap) (by simp [World.shape?, hv, ep1]) (by simp [World.shape?, hg, hcs]) (by omega) (by simp [World.frozen?, hv]) (by simp [World.frozen?, hv])]
    rfl
  have hdl : (eps (rs.drop i)).length = (n - i) := by rw [len_take_drop, hl]
  obtain ⟨X1, hX1⟩ : ∃ X1 : Array Value, X1 = (cur.toList.take ((i + 1)) ++ eps (rs.drop i) ++ cur.toList.drop ((i + 1) + (eps (rs.drop i)).length)).toArray := ⟨_, rfl⟩
  obtain ⟨X2, hX2⟩ : ∃ X2 : Array Value, X2 = (X1.toList.take (i) ++ ep1 r ++ X1.toList.drop (i + (ep1 r).length)).toArray := ⟨_, rfl⟩
  have hfin := shift_list (cur := cur.toList) (r := r) hl hin (by rw [Array.length_toList, hcs]; omega) htake (X1 := X1.toList) (X2 := X2.toList) (by rw [hX1]) (by rw [hX2])
  have hs1 : X1.size = cur.size := by
    rw [hX1]
    simp only [List.size_toArray, List.length_append, List.length_take, List.length_drop, Array.length_toList, hdl, hcs]
    omega
  have hcp1 : ∀ ty dc sc, (Builtin.copy_ #[73, 73] ty #[.slice (some ⟨g, (i + 1), none⟩) (n - i) dc, .slice (some ⟨g, i, none⟩) (n + 1 - i) sc]).run Try.prog w.drew = .ok (goInt (n - i : Nat)) (w.drew.setRow g X1) := fun ty dc sc => by
    rw [hX1]
    exact run_copy_rowk w.drew _ _ ty 25 1 g ((i + 1)) (n - i) dc ⟨g, i, none⟩ (n + 1 - i) sc (n - i) cur _ (eps (rs.drop i)) Try.underlying73 size_ep hg (by simp only [Nat.min_def]; split <;> omega) (by rw [hdl, Nat.mul_one])
      (fun j v hj => by
        rw [Addr.add_lit]
        have hx := htake
        simp only [World.cell?]
        rw [show w.drew.heap[g]? = _ from hg]
        rw [eps_drop rs i, ← htake, List.getElem?_drop] at hj
        rw [List.getElem?_take] at hj
        split at hj
        · simpa using hj
        · cases hj)
      (by rw [hdl, hcs]; omega) (eps1 _)
  have hg1 : (w.drew.setRow g X1).heap[g]? = some (.cells X1 25 (0, 0)) := setRow_heap w.drew g cur X1 _ _ hg
  have hv1 : (w.drew.setRow g X1).heap[vb]? = some (.cells (ep1 r).toArray 25 (0, 0)) := (setRow_other w.drew g vb X1 hvg).trans hv
  obtain ⟨W1, hW1⟩ : ∃ W1, W1 = w.drew.setRow g X1 := ⟨_, rfl⟩
  have hfr : w.grownBy W1 (some g) := by rw [hW1]; exact ⟨rfl, rfl, rfl, by simp, fun k _ hk => setRow_other w.drew g k _ (fun e => hk (by rw [e]))⟩
  rw [← hW1] at hcp1 hg1 hv1
  have hcp2 : ∀ ty dc, (Builtin.copy_ #[73, 73] ty #[.slice (some ⟨g, i, none⟩) (n + 1 - i) dc, .slice (some ⟨vb, 0, none⟩) 1 1]).run Try.prog W1 = .ok (goInt (1 : Nat)) (W1.setRow g X2) := fun ty dc => by
    rw [hX2]
    exact run_copy_rowk W1 _ _ ty 25 1 g (i) (n + 1 - i) dc ⟨vb, 0, none⟩ 1 1 1 X1 _ (ep1 r) Try.underlying73 size_ep hg1 (by simp only [Nat.min_def]; split <;> omega) rfl
      (fun j v hj => by
        rw [Addr.add_lit]
        simp only [World.cell?, hv1, Nat.zero_add]
        simpa using hj)
      (by rw [hs1, hcs, ep1_len]; omega) (by have := eps1 [r]; rwa [eps_one] at this)
  have T := Lib.hid (show InsPost B (.slice (some ⟨g, 0, none⟩) n cap) n i rs r w (.returned (.slice (some ⟨g, 0, none⟩) (n + 1) cap)) (W1.setRow g X2) from ⟨_, rfl, ⟨by
      rw [eps_len]
      simp only [List.length_append, List.length_take, List.length_drop, List.length_cons, List.length_nil]; omega, .inr ⟨g, cap, X2, rfl, hBg, setRow_heap W1 g X1 X2 _ _ hg1, hroom, hcm, by
      have := hfin.1
      simp only [Array.length_toList] at this
      rw [this, hcs, Nat.mul_one], by rw [Nat.mul_one]; exact hfin.2⟩⟩, ⟨hfr.os, hfr.tape, hfr.output, by simpa using hfr.size, fun k hk hne => (setRow_other W1 g k _ (fun e => hne (by rw [e]; rfl))).trans (hfr.block k hk hne)⟩⟩)
  have hz2 : ¬ ((i : Int) = (n : Int)) := by omega
  have hw1 : IntKind.i64.wrap ((i : Int) + 1) = (i : Int) + 1 := by rw [IntKind.wrap_i64]; omega
  have hb1 : (0 : Int) ≤ (i : Int) + 1 := by omega
  have htn : ((i : Int) + 1).toNat = i + 1 := by omega
  have hb2 : ¬ (cap = i + 1) := by omega
  have hb4 : ¬ (cap = i) := by omega
  have hin' : i ≤ n := by omega
  have hin2 : (i : Int) ≤ (n : Int) + 1 := by omega
  clear hown hv hl hfin hX1 hX2 hs1 hg1 hv1 hfr hcs htake hg hW1 hdl
  go_enter Try.func42, Try.ntmps42
  go_wp2_with (simp only [hov])
  go_region_law (refine step_copy_runI rfl _ _ 73 73 rfl _ _ (by simp [Act.eval, Act.put]) (by simp [Act.eval, Act.put]) (hcp1 _ _ _) ?_)
  go_wp2_with (at_builtin; refine wpList_copy_runI _ rfl _ _ 73 73 rfl _ _ rfl rfl (hcp2 _ _) ?_)
  go_ret
  exact T.out

/-! ### No room, ahead of the end -/
theorem grow_list {ROW : List Value} {rs : List Int} {r : Int} {n i G : Nat} (hl : rs.length = n) (hi : i < n) (hG : n + 1 ≤ G) (hc : ROW.length = G) (ht : ROW.take (i) = eps (rs.take i))
    {X1 X2 : List Value} (h1 : X1 = ROW.take (i) ++ ep1 r ++ ROW.drop (i + (ep1 r).length)) (h2 : X2 = X1.take ((i + 1)) ++ eps (rs.drop i) ++ X1.drop ((i + 1) + (eps (rs.drop i)).length)) :
    X1.length = ROW.length ∧ X2.length = ROW.length ∧ X2.take ((n + 1)) = eps (rs.take i ++ [r] ++ rs.drop i) := by
  have eD : (eps (rs.drop i)).length = (n - i) := by rw [len_take_drop, hl]
  have eT : (eps (rs.take i)).length = i := by rw [eps_len, List.length_take, Nat.min_eq_left (by omega)]
  have l1 : X1.length = ROW.length := by
    rw [h1, ht, ep1_len]
    simp only [List.length_append, List.length_drop, eT, ep1_len, hc]; omega
  have a1 : X1.take ((i + 1)) = eps (rs.take i) ++ ep1 r := by
    rw [h1, ht, List.take_left' (by have := ep1_len r; rw [List.length_append]; omega)]
  have a4 : (eps (rs.take i ++ [r] ++ rs.drop i)).length = (n + 1) := by
    rw [eps_len]
    simp only [List.length_append, List.length_take, List.length_drop, List.length_cons, List.length_nil]; omega
  have a3 : X2 = eps (rs.take i ++ [r] ++ rs.drop i) ++ X1.drop ((n + 1)) := by
    rw [h2, a1, eps_append, eps_append, eps_one, eD, show (i + 1) + (n - i) = (n + 1) by omega]
  refine ⟨l1, ?_, ?_⟩
  · rw [a3, List.length_append, a4, List.length_drop, l1, hc]; omega
  · rw [a3, List.take_left' a4]

set_option maxHeartbeats 4000000 in
theorem insert_grow (B g cap n i vb : Nat) (rs : List Int) (r : Int) (w : World) (hB : B ≤ w.heap.size) (hl : rs.length = n) (hin : i < n) (hN : n ≤ 1000) (hroom : cap < n + 1) (hvg : vb ≠ g)
    (hown : w.ownsRow B 25 1 (.slice (some ⟨g, 0, none⟩) n cap) n (eps rs))
    (hv : w.heap[vb]? = some (.cells (ep1 r).toArray 25 (0, 0))) :
    Calls Try.prog 42 #[.slice (some ⟨g, 0, none⟩) n cap, .int .i64 i, .slice (some ⟨vb, 0, none⟩) 1 1] w (InsPost B (.slice (some ⟨g, 0, none⟩) n cap) n i rs r w) := by
  obtain ⟨i0, hi, hz0, hz1, hz2⟩ := info_parts info_ep
  obtain ⟨cur, hBg, hg, hnc, hcm, hcs, htake⟩ : ∃ cur : Array Value, B ≤ g ∧ w.heap[g]? = some (.cells cur 25 (0, 0)) ∧ n ≤ cap ∧ cap ≤ maxLen ∧ cur.size = cap ∧ cur.toList.take (n) = eps rs := by
    rcases hown.2 with ⟨he, _⟩ | ⟨g', cap', cur, he, h1, h2, h6, h3, h4, h5⟩
    · cases he
    · cases he; exact ⟨cur, h1, h2, h6, h3, by rw [h4, Nat.mul_one], by rw [Nat.mul_one] at h5; exact h5⟩
  have hgw : g < w.heap.size := lt_of_heap hg
  have hvw : vb < w.heap.size := lt_of_heap hv
  have hgN : g ≠ w.heap.size := by omega
  have hvN : vb ≠ w.heap.size := by omega
  have hdl : (eps (rs.drop i)).length = (n - i) := by rw [len_take_drop, hl]
  have hkk : (n : Int) + 1 - (i : Int) = ((n + 1 - i : Nat) : Int) := by omega
  have hik : i + (n + 1 - i) = n + 1 := by omega
  have hcell : ∀ j v, (eps rs)[j]? = some v → w.cell? ⟨g, j, none⟩ = some v := fun j v hj => by
    rw [← htake, List.getElem?_take] at hj
    split at hj
    · simp only [World.cell?, hg]; simpa using hj
    · cases hj
  have hold : (Builtin.firstCells i0.size i (.slice (some ⟨g, 0, none⟩) i cap)).run Try.prog w.drew = .ok (eps (rs.take i)).toArray w.drew := by
    rw [hz1]
    exact run_firstCells_some w.drew 1 i ⟨g, 0, none⟩ i cap (eps (rs.take i)) (by rw [eps_len, List.length_take, Nat.min_eq_left (by omega), Nat.mul_one]) (fun j v hj => by
      rw [Addr.add_lit, Nat.zero_add]
      rw [eps_take rs i, List.getElem?_take] at hj
      split at hj
      · exact hcell j v hj
      · cases hj)
  have hrz : ∀ ty, (Builtin.append_ #[73, 3] ty #[.slice (some ⟨g, 0, none⟩) i cap, .int .i64 ((n : Int) + 1 - (i : Int))]).run Try.prog w =
      .ok (.slice (some ⟨w.heap.size, 0, none⟩) (n + 1) (grownCap w (n + 1) cap 25)) (w.drew.alloc (.cells ((eps (rs.take i)).toArray ++ Builtin.zeroCells (Value.int .u64 0).cells (n + 1 - i) ++ Builtin.zeroCells (Value.int .u64 0).cells (grownCap w (n + 1) cap 25 - (n + 1))) 25)) := fun ty => by
    have h := Lib.run_append_grow_zeros w 73 3 ty 25 i0 _ .i64 .i64 Try.underlying73 Try.underlying3 hi hz0 (some ⟨g, 0, none⟩) i cap (eps (rs.take i)) hold (n + 1 - i) (by omega) (by omega) (by omega) (by omega) (by rw [hz2]; omega) (by rw [hz2, hik]; exact growslice_fits hroom (by omega))
    rw [hik] at h
    rw [hkk]
    exact h
  obtain ⟨G, hG⟩ : ∃ G, G = grownCap w (n + 1) cap 25 := ⟨_, rfl⟩
  have hGn : n + 1 ≤ G := by rw [hG]; exact grownCap_ge w _ _ _
  have hG63 : G ≤ maxLen := by rw [hG]; exact grownCap_le_maxLen w (n + 1) cap 25 (by unfold maxLen; omega)
  rw [← hG] at hrz
  obtain ⟨ROW, hROW⟩ : ∃ ROW : Array Value, ROW = (eps (rs.take i)).toArray ++ Builtin.zeroCells (Value.int .u64 0).cells (n + 1 - i) ++ Builtin.zeroCells (Value.int .u64 0).cells (G - (n + 1)) := ⟨_, rfl⟩
  rw [← hROW] at hrz
  have eT : (eps (rs.take i)).length = i := by rw [eps_len, List.length_take, Nat.min_eq_left (by omega)]
  have hRl : ROW.size = G := by
    rw [hROW]
    simp only [Array.size_append, List.size_toArray, size_zeroCells, eT]
    simp [Value.cells]
    omega
  have hRt : ROW.toList.take (i) = eps (rs.take i) := by
    rw [hROW]
    simp only [Array.toList_append, List.append_assoc]
    rw [List.take_left' eT]
  obtain ⟨X1, hX1⟩ : ∃ X1 : Array Value, X1 = (ROW.toList.take (i) ++ ep1 r ++ ROW.toList.drop (i + (ep1 r).length)).toArray := ⟨_, rfl⟩
  obtain ⟨X2, hX2⟩ : ∃ X2 : Array Value, X2 = (X1.toList.take ((i + 1)) ++ eps (rs.drop i) ++ X1.toList.drop ((i + 1) + (eps (rs.drop i)).length)).toArray := ⟨_, rfl⟩
  have hfin := grow_list (ROW := ROW.toList) (r := r) hl hin hGn (by rw [Array.length_toList]; exact hRl) hRt (X1 := X1.toList) (X2 := X2.toList) (by rw [hX1]) (by rw [hX2])
  simp only [Array.length_toList] at hfin
  obtain ⟨hs1, hs2, hft⟩ := hfin
  have hA : ∀ (W : World), W.heap = (w.alloc (.cells ROW 25)).heap → W.heap[w.heap.size]? = some (.cells ROW 25 (0, 0)) ∧ W.heap[g]? = some (.cells cur 25 (0, 0)) ∧ W.heap[vb]? = some (.cells (ep1 r).toArray 25 (0, 0)) := fun W hW => by
    rw [hW]
    exact ⟨heap_alloc_new w _, (heap_alloc_old w _ hgw).trans hg, (heap_alloc_old w _ hvw).trans hv⟩
  have hcpA : ∀ (W : World), W.heap = (w.alloc (.cells ROW 25)).heap → ∀ ty dc, (Builtin.copy_ #[73, 73] ty #[.slice (some ⟨w.heap.size, i, none⟩) (n + 1 - i) dc, .slice (some ⟨vb, 0, none⟩) 1 1]).run Try.prog W = .ok (goInt (1 : Nat)) (W.setRow w.heap.size X1) := fun W hW ty dc => by
    obtain ⟨a1, a2, a3⟩ := hA W hW
    rw [hX1]
    exact run_copy_rowk W _ _ ty 25 1 w.heap.size (i) (n + 1 - i) dc ⟨vb, 0, none⟩ 1 1 1 ROW _ (ep1 r) Try.underlying73 size_ep a1 (by simp only [Nat.min_def]; split <;> omega) rfl
      (fun j v hj => by
        rw [Addr.add_lit]
        simp only [World.cell?, a3, Nat.zero_add]
        simpa using hj)
      (by rw [hRl, ep1_len]; omega) (by have := eps1 [r]; rwa [eps_one] at this)
  have hcpB : ∀ (W : World), W.heap = ((w.alloc (.cells ROW 25)).setRow w.heap.size X1).heap → ∀ ty dc sc, (Builtin.copy_ #[73, 73] ty #[.slice (some ⟨w.heap.size, (i + 1), none⟩) (n - i) dc, .slice (some ⟨g, i, none⟩) (n - i) sc]).run Try.prog W = .ok (goInt (n - i : Nat)) (W.setRow w.heap.size X2) := fun W hW ty dc sc => by
    obtain ⟨a1, a2, a3⟩ := hA _ rfl
    have b1 : W.heap[w.heap.size]? = some (.cells X1 25 (0, 0)) := by rw [hW]; exact setRow_heap _ _ ROW X1 _ _ a1
    have b2 : W.heap[g]? = some (.cells cur 25 (0, 0)) := by rw [hW]; exact (setRow_other _ _ g X1 hgN).trans a2
    rw [hX2]
    exact run_copy_rowk W _ _ ty 25 1 w.heap.size ((i + 1)) (n - i) dc ⟨g, i, none⟩ (n - i) sc (n - i) X1 _ (eps (rs.drop i)) Try.underlying73 size_ep b1 (by simp only [Nat.min_def]; split <;> omega) (by rw [hdl, Nat.mul_one])
      (fun j v hj => by
        rw [Addr.add_lit]
        rw [eps_drop rs i, List.getElem?_drop] at hj
        have := hcell _ v hj
        simp only [World.cell?, hg] at this
        simp only [World.cell?, b2]
        exact this)
      (by rw [hdl, hs1, hRl]; omega) (eps1 _)
  have T := Lib.hid (show ∀ w' : World, w' = ((((w.alloc (.cells ROW 25)).drew.setRow w.heap.size X1).drew).setRow w.heap.size X2) → InsPost B (.slice (some ⟨g, 0, none⟩) n cap) n i rs r w (.returned (.slice (some ⟨w.heap.size, 0, none⟩) (n + 1) G)) w' from fun w' hw' => by
    obtain ⟨a1, a2, a3⟩ := hA (w.alloc (.cells ROW 25)).drew rfl
    subst hw'
    have b1 := setRow_heap (w.alloc (.cells ROW 25)).drew w.heap.size ROW X1 _ _ a1
    have b2 := setRow_heap ((w.alloc (.cells ROW 25)).drew.setRow w.heap.size X1).drew w.heap.size X1 X2 _ _ b1
    refine ⟨_, rfl, ⟨by
      rw [eps_len]
      simp only [List.length_append, List.length_take, List.length_drop, List.length_cons, List.length_nil]; omega, .inr ⟨w.heap.size, G, X2, rfl, hB, b2, hGn, hG63, by rw [hs2, hRl, Nat.mul_one], by rw [Nat.mul_one]; exact hft⟩⟩, ⟨rfl, rfl, rfl, by simp, fun k hk _ => ?_⟩⟩
    rw [setRow_other _ _ k _ (by omega)]
    show (((w.alloc (.cells ROW 25)).drew.setRow w.heap.size X1)).heap[k]? = _
    rw [setRow_other _ _ k _ (by omega)]
    exact heap_alloc_old w _ hk)
  have hz2 : ¬ ((i : Int) = (n : Int)) := by omega
  have hz3 : (cap : Int) < (n : Int) + 1 := by omega
  have hw1 : IntKind.i64.wrap ((i : Int) + 1) = (i : Int) + 1 := by rw [IntKind.wrap_i64]; omega
  have hb1 : (0 : Int) ≤ (i : Int) + 1 := by omega
  have htn : ((i : Int) + 1).toNat = i + 1 := by omega
  have hGi : ¬ (G = i) := by omega
  have hGim : ¬ (G = i + 1) := by omega
  have hb4 : ¬ (cap = i) := by omega
  have hin' : i ≤ n := by omega
  have hin2 : (i : Int) ≤ (n : Int) + 1 := by omega
  unfold maxLen at hG63 hcm
  clear hown hv hl hft hX1 hX2 hs1 hs2 hRl hRt hROW hG hA hold hcell hcs htake hg hdl hkk hik eT
  have hE1 : (w.alloc (.cells ROW 25)).drew.heap = (w.alloc (.cells ROW 25)).heap := rfl
  go_enter Try.func42, Try.ntmps42
  go_wp2_with (first
    | (at_builtin; refine Lib.wpList_append_run _ rfl _ _ _ _ rfl _ _ rfl rfl _ _ (hrz _) ?_)
    | (at_builtin; refine wpList_copy_runI _ rfl _ _ 73 73 rfl _ _ rfl rfl (hcpA _ rfl _ _) ?_))
  go_region_law (refine step_copy_runI rfl _ _ 73 73 rfl (.slice (some ⟨w.heap.size, (i + 1), none⟩) (n - i) (G - (i + 1))) (.slice (some ⟨g, i, none⟩) (n - i) (cap - i)) (by simp [Act.eval, Act.put]) (by simp [Act.eval, Act.put]) (hcpB _ (by rfl) _ _ _) ?_)
  go_wp2
  go_ret
  exact T.out _ rfl
end Go.Proofs.Ytkcnbkdpjlpppaa

