
/-
  staithelaw20.all: the clocks of lists, of both kinds.
-/
import Derived.Test.YtcfkokjfhjdbfaaRetD
import Derived.Test.YtcfkokjfhjdbfaaKeep
namespace Go.Proofs.Ytcfkokjfhjdbfaa
open Go.RowKit
set_option linter.unusedVariables false
set_option linter.unusedSimpArgs false
set_option maxRecDepth 100000

theorem pinfo : (Try.prog.info? 48).map (fun i => (i.zero, i.size, i.bytes)) = some (some (.pointer none), 1, 8) := by kernel_rfl

/-- Rows of clocks of both kinds, alike in their numbers. -/
structure Rows (B : Nat) (w : World) (bs : List Nat) (nss : List (List Int)) (F : Nat → Option Ck) (vC vW : Value) : Prop where
  rowC : w.ownsRow B 48 1 vC bs.length (ptrs bs)
  rowW : w.ownsRow B 35 256 vW nss.length (ints nss.flatten)
  fam : Fam B w F
  len : nss.length = bs.length
  wide : ∀ x, x ∈ nss → x.length = 256
  here : ∀ j, j < bs.length → ∃ k, F (bs.getD j 0) = some k ∧ ∀ u : Int, at0 k.xs u = at0 (nss.getD j []) u

theorem Rows.keep {B : Nat} {w w' : World} {bs : List Nat} {nss : List (List Int)} {F : Nat → Option Ck} {vC vW : Value} (h : Rows B w bs nss F vC vW)
    (h1 : KeepT 48 w w') (h2 : KeepT 35 w w') (h3 : KeepT 60 w w') (h4 : KeepT 3 w w') : Rows B w' bs nss F vC vW :=
  ⟨ownsRow_keep h.rowC h1, ownsRow_keep h.rowW h2, h.fam.keep h3 h4, h.len, h.wide, h.here⟩
theorem Rows.below {B : Nat} {w w' : World} {bs : List Nat} {nss : List (List Int)} {F : Nat → Option Ck} {vC vW : Value} (h : Rows B w bs nss F vC vW) (hB : Below w.heap.size w w') : Rows B w' bs nss F vC vW :=
  h.keep (keepT_below hB) (keepT_below hB) (keepT_below hB) (keepT_below hB)

/-- Which clock a place of the row has. -/
def ckOf (F : Nat → Option Ck) (bs : List Nat) (j : Nat) : Ck := (F (bs.getD j 0)).getD ⟨0, [], false⟩

theorem Rows.cks {B : Nat} {w : World} {bs : List Nat} {nss : List (List Int)} {F : Nat → Option Ck} {vC vW : Value} (h : Rows B w bs nss F vC vW) : CksOf w vC bs.length (fun j => bs.getD j 0) (ckOf F bs) := by
  rcases h.rowC.2 with ⟨rfl, h0⟩ | ⟨g, cap, cur, rfl, _, hg, _, _, hcs, ht⟩
  · exact ⟨none, 0, by rw [h0], fun hp => by omega⟩
  · refine ⟨_, cap, rfl, fun hp => ⟨g, 0, rfl, fun j hj => ⟨?_, ?_⟩⟩⟩
    · have h1 : (cur.toList.take (bs.length * 1))[j]? = (ptrs bs)[j]? := by rw [ht]
      rw [Nat.mul_one, List.getElem?_take_of_lt hj] at h1
      simp only [World.cell?, hg, Nat.zero_add]
      rw [← Array.getElem?_toList, h1]
      simp [ptrs, hj, List.getD]
    · obtain ⟨k, hk, _⟩ := h.here j hj
      show CkAt w (bs.getD j 0) (ckOf F bs j)
      unfold ckOf
      rw [hk]
      exact h.fam.here _ _ hk
theorem Rows.ws {B : Nat} {w : World} {bs : List Nat} {nss : List (List Int)} {F : Nat → Option Ck} {vC vW : Value} (h : Rows B w bs nss F vC vW) : WsOf w vW bs.length (fun j => nss.getD j []) := by
  rcases h.rowW.2 with ⟨rfl, h0⟩ | ⟨g, cap, cur, rfl, _, hg, _, _, hcs, ht⟩
  · exact ⟨none, 0, by rw [← h.len, h0], fun hp => by have := h.len; omega⟩
  · refine ⟨_, cap, by rw [h.len], fun hp => ⟨g, rfl, fun j hj => ⟨?_, fun i v hv => ?_⟩⟩⟩
    · have hj' : j < nss.length := by rw [h.len]; exact hj
      exact h.wide _ (by show nss.getD j [] ∈ nss; rw [List.getD_eq_getElem?_getD, List.getElem?_eq_getElem hj']; exact List.getElem_mem _)
    · have hj' : j < nss.length := by rw [h.len]; exact hj
      have hw : (nss.getD j []).length = 256 := h.wide _ (by rw [List.getD_eq_getElem?_getD, List.getElem?_eq_getElem hj']; exact List.getElem_mem _)
      have hi : i < 256 := by
        have := (List.getElem?_eq_some_iff.1 hv).1
        rw [length_ints, hw] at this
        exact this
      have h1 : (cur.toList.take (nss.length * 256))[j * 256 + i]? = (ints nss.flatten)[j * 256 + i]? := by rw [ht]
      rw [List.getElem?_take_of_lt (by omega)] at h1
      simp only [World.cell?, hg]
      rw [← Array.getElem?_toList, h1]
      simp only [ints, List.getElem?_map, flat_at nss h.wide j i hj' hi] at hv ⊢
      exact hv
theorem Rows.at {B : Nat} {w : World} {bs : List Nat} {nss : List (List Int)} {F : Nat → Option Ck} {vC vW : Value} (h : Rows B w bs nss F vC vW) (j : Nat) (hj : j < bs.length) (u : Int) : at0 (ckOf F bs j).xs u = at0 (nss.getD j []) u := by
  obtain ⟨k, hk, he⟩ := h.here j hj
  unfold ckOf
  rw [hk]
  exact he u

theorem size_of {l : List Int} {Z : Array Value} (h : (ints l).toArray = Z) (hl : l.length = 256) : Z.size = 256 := by
  subst h
  simp [length_ints, hl]

def AllPost (m : Nat) (w : World) (r : Ending) (w' : World) : Prop :=
  ∃ bs nss F vC vW, r = .returned (.agg #[vC, vW]) ∧ Rows w.heap.size w' bs nss F vC vW ∧ bs.length ≤ m ∧ Below w.heap.size w w'

/-- What the loop has come to. -/
structure AllAt (w : World) (bs : List Nat) (nss : List (List Int)) (F : Nat → Option Ck) (vC vW : Value) (wr : World) : Prop where
  out : wr.heap[w.heap.size + 1]? = some (Obj.cells #[vC, vW] 28 (0, 0))
  res : wr.heap[w.heap.size]? = some (Obj.cells #[.slice none 0 0, .slice none 0 0] 28 (0, 0))
  rows : Rows w.heap.size wr bs nss F vC vW
  bel : Below w.heap.size w wr

theorem AllAt.below {w : World} {bs : List Nat} {nss : List (List Int)} {F : Nat → Option Ck} {vC vW : Value} {wr w' : World} (h : AllAt w bs nss F vC vW wr) (hB : Below wr.heap.size wr w') : AllAt w bs nss F vC vW w' :=
  ⟨by rw [hB.block _ (lt_of_heap h.out)]; exact h.out, by rw [hB.block _ (lt_of_heap h.res)]; exact h.res, h.rows.below hB, below_trans h.bel hB h.bel.size⟩

theorem all_start (w : World) : AllAt w [] [] (fun _ => none) (.slice none 0 0) (.slice none 0 0) ((w.alloc (.cells #[.slice none 0 0, .slice none 0 0] 28)).alloc (.cells #[.slice none 0 0, .slice none 0 0] 28)) := by
  refine ⟨?_, ?_, ⟨⟨rfl, .inl ⟨rfl, rfl⟩⟩, ⟨rfl, .inl ⟨rfl, rfl⟩⟩, Fam.none _ _, rfl, fun x hx => by simp at hx, fun j hj => by simp at hj⟩, ?_⟩
  · have := heap_alloc_new (w.alloc (.cells #[.slice none 0 0, .slice none 0 0] 28)) (.cells #[.slice none 0 0, .slice none 0 0] 28)
    rw [size_alloc] at this
    exact this
  · rw [heap_alloc_old _ _ (by rw [size_alloc]; omega)]
    exact heap_alloc_new w _
  · exact ((Below.refl _ _).alloc (Nat.le_refl _) _).alloc (by rw [size_alloc]; omega) _

theorem cell_one (w : World) (v : Value) (t : TypeId) : (w.alloc (.cells #[v] t)).cell? ⟨w.heap.size, 0, none⟩ = some v := by simp
theorem range_new (w : World) (ns : List Int) (Z : Array Value) (hZ : (ints ns).toArray = Z) (t : TypeId) (j : Nat) (u : Value) (h : (ints ns)[j]? = some u) : (w.alloc (.cells Z t)).cell? (Addr.add ⟨w.heap.size, 0, none⟩ j) = some u := by
  subst hZ
  rw [Addr.add_mid]
  simp only [World.cell?, heap_alloc_new, Nat.zero_add]
  simpa using h
theorem owns_slice {w : World} {base size n : Nat} {e : TypeId} {v : Value} {xs : List Value} (h : w.ownsRow base e size v n xs) : ∃ ao cap, v = .slice ao n cap := by
  rcases h.2 with ⟨rfl, rfl⟩ | ⟨g, cap, _, rfl, _⟩
  · exact ⟨_, _, rfl⟩
  · exact ⟨_, _, rfl⟩

/-- Between the two appends. -/
structure AllMid (w : World) (bs : List Nat) (nss : List (List Int)) (F : Nat → Option Ck) (vC vW : Value) (b : Nat) (k : Ck) (rb : Nat) (ns : List Int) (wr : World) : Prop where
  out : wr.heap[w.heap.size + 1]? = some (Obj.cells #[vC, vW] 28 (0, 0))
  res : wr.heap[w.heap.size]? = some (Obj.cells #[.slice none 0 0, .slice none 0 0] 28 (0, 0))
  rowC : wr.ownsRow w.heap.size 48 1 vC (bs.length + 1) (ptrs bs ++ [.pointer (some ⟨b, 0, none⟩)])
  rowW : wr.ownsRow w.heap.size 35 256 vW nss.length (ints nss.flatten)
  fam : Fam w.heap.size wr F
  ck : CkAt wr b k
  rat : RAt wr rb ns
  bel : Below w.heap.size w wr

theorem both_set {w : World} {g : Nat} {x y u : Value} (h : w.heap[g]? = some (Obj.cells #[x, y] 28 (0, 0))) : (w.setCell ⟨g, 0, none⟩ u).heap[g]? = some (Obj.cells #[u, y] 28 (0, 0)) := by
  rw [heap_setCell_same w g 0 _ _ _ h]; rfl
theorem both_set1 {w : World} {g : Nat} {x y u : Value} (h : w.heap[g]? = some (Obj.cells #[x, y] 28 (0, 0))) : (w.setCell ⟨g, 1, none⟩ u).heap[g]? = some (Obj.cells #[x, u] 28 (0, 0)) := by
  rw [heap_setCell_same w g 1 _ _ _ h]; rfl
theorem load_both {w : World} {g : Nat} {x y : Value} (h : w.heap[g]? = some (Obj.cells #[x, y] 28 (0, 0))) : (loadVar 28 ⟨g, 0, none⟩).run Try.prog w = .ok (.agg #[x, y]) w :=
  run_loadVar_mid (P := Try.prog) w g 0 28 [x, y] _ (by
    intro j v hj
    simp only [World.cell?, h, Nat.zero_add]
    match j, hj with
    | 0, hj => simpa using hj
    | 1, hj => simpa using hj
    | j + 2, hj => simp at hj) Try.underlying28 rfl (by kernel_rfl)
theorem results_cell_one {P : Program} {fn : Func} {t : Tmp} {ty : TypeId} (h : fn.results = #[.cell t ty]) (tmps : Array Value) (w : World) (ad : Addr) (v : Value) (ht : tmps.getD t undef = .pointer (some ad)) (hl : (loadVar ty ad).run P w = .ok v w) :
    (results fn tmps).run P w = .ok v w := by
  have ht' : tmps[t]?.getD undef = .pointer (some ad) := by simpa using ht
  simp [results, h, ht', asAddr, hl]
theorem RAt.keep {w w' : World} {b : Nat} {ns : List Int} (h : RAt w b ns) (hk : KeepT 35 w w') : RAt w' b ns := ⟨h.1, (hk b _ _ h.2).trans h.2⟩

theorem all_mid {w w3 w4 : World} {bs : List Nat} {nss : List (List Int)} {F : Nat → Option Ck} {vC vW vC' : Value} {b rb : Nat} {k : Ck} {ns : List Int} {o : Obj} (A : AllAt w bs nss F vC vW w3) (hK : CkAt w3 b k) (hR : RAt w3 rb ns)
    (h4 : w4.ownsRow w.heap.size 48 1 vC' (bs.length + 1) (ptrs bs ++ [.pointer (some ⟨b, 0, none⟩)])) (hg : (w3.alloc o).grownBy w4 vC.ownBlock) :
    w4.heap[w.heap.size + 1]? = some (Obj.cells #[vC, vW] 28 (0, 0)) ∧ AllMid w bs nss F vC' vW b k rb ns (w4.setCell ⟨w.heap.size + 1, 0, none⟩ vC') := by
  have hB : Below w3.heap.size w3 (w3.alloc o) := (Below.refl _ _).alloc (Nat.le_refl _) _
  have A2 := A.below hB
  have kp : ∀ e, e ≠ 48 → KeepT e w3 w4 := fun e he => (keepT_below hB).trans (keepT_grown A2.rows.rowC hg he)
  have ho : w4.heap[w.heap.size + 1]? = some (Obj.cells #[vC, vW] 28 (0, 0)) := (kp _ (by decide) _ _ _ A.out).trans A.out
  have hr := (kp _ (by decide) _ _ _ A.res).trans A.res
  have kq : ∀ e, e ≠ 28 → KeepT e w4 (w4.setCell ⟨w.heap.size + 1, 0, none⟩ vC') := fun e he => keepT_set ho he
  have kk : ∀ e, e ≠ 48 → e ≠ 28 → KeepT e w3 (w4.setCell ⟨w.heap.size + 1, 0, none⟩ vC') := fun e h1 h2 => (kp e h1).trans (kq e h2)
  refine ⟨ho, both_set ho, ?_, ownsRow_keep h4 (kq _ (by decide)), ownsRow_keep A.rows.rowW (kk _ (by decide) (by decide)), A.rows.fam.keep (kk _ (by decide) (by decide)) (kk _ (by decide) (by decide)), ckAt_keep hK (kk _ (by decide) (by decide)) (kk _ (by decide) (by decide)), hR.keep (kk _ (by decide) (by decide)), ?_⟩
  · rw [heap_setCell_other _ _ _ _ (by show w.heap.size ≠ w.heap.size + 1; omega)]; exact hr
  · exact (A2.bel.grown hg A2.bel.size (fun k hk => (A2.rows.rowC.lt k hk).1)).setCell (by show w.heap.size ≤ w.heap.size + 1; omega) _

theorem all_end {w w5 w7 : World} {bs : List Nat} {nss : List (List Int)} {F : Nat → Option Ck} {vC vW vW' : Value} {b rb : Nat} {k : Ck} {ns : List Int} {o : Obj} (A : AllMid w bs nss F vC vW b k rb ns w5)
    (h7 : w7.ownsRow w.heap.size 35 256 vW' (nss.length + 1) (ints nss.flatten ++ ints ns)) (hg : (w5.alloc o).grownBy w7 vW.ownBlock)
    (hlen : nss.length = bs.length) (hwide : ∀ x, x ∈ nss → x.length = 256) (hhere : ∀ j, j < bs.length → ∃ k, F (bs.getD j 0) = some k ∧ ∀ u : Int, at0 k.xs u = at0 (nss.getD j []) u)
    (hlow : w.heap.size ≤ b ∧ w.heap.size ≤ k.arr) (hnew : ∀ b' k', F b' = some k' → b' ≠ b ∧ (0 < k'.xs.length → k'.arr ≠ k.arr)) (he : ∀ u : Int, at0 ns u = at0 k.xs u) :
    w7.heap[w.heap.size + 1]? = some (Obj.cells #[vC, vW] 28 (0, 0)) ∧ AllAt w (bs ++ [b]) (nss ++ [ns]) (upd F b k) vC vW' (w7.setCell ⟨w.heap.size + 1, 1, none⟩ vW') := by
  have hB : Below w5.heap.size w5 (w5.alloc o) := (Below.refl _ _).alloc (Nat.le_refl _) _
  have hWo := ownsRow_keep A.rowW (keepT_below hB)
  have kp : ∀ e, e ≠ 35 → KeepT e w5 w7 := fun e he => (keepT_below hB).trans (keepT_grown hWo hg he)
  have ho : w7.heap[w.heap.size + 1]? = some (Obj.cells #[vC, vW] 28 (0, 0)) := (kp _ (by decide) _ _ _ A.out).trans A.out
  have hr := (kp _ (by decide) _ _ _ A.res).trans A.res
  have kq : ∀ e, e ≠ 28 → KeepT e w7 (w7.setCell ⟨w.heap.size + 1, 1, none⟩ vW') := fun e he => keepT_set ho he
  have kk : ∀ e, e ≠ 35 → e ≠ 28 → KeepT e w5 (w7.setCell ⟨w.heap.size + 1, 1, none⟩ vW') := fun e h1 h2 => (kp e h1).trans (kq e h2)
  have hF := A.fam.keep (kk _ (by decide) (by decide)) (kk _ (by decide) (by decide))
  have hk := ckAt_keep A.ck (kk _ (by decide) (by decide)) (kk _ (by decide) (by decide))
  have hF2 : Fam w.heap.size (w7.setCell ⟨w.heap.size + 1, 1, none⟩ vW') (upd F b k) := hF.new hk hlow.1 (fun _ => hlow.2) (fun b' k' e => ⟨(hnew b' k' e).1, fun _ hp e2 => absurd e2.symm ((hnew b' k' e).2 hp)⟩)
  refine ⟨ho, both_set1 ho, ?_, ⟨?_, ?_, hF2, ?_, ?_, ?_⟩, ?_⟩
  · rw [heap_setCell_other _ _ _ _ (by show w.heap.size ≠ w.heap.size + 1; omega)]; exact hr
  · have := ownsRow_keep A.rowC (kk _ (by decide) (by decide))
    simpa [ptrs] using this
  · have := ownsRow_keep h7 (kq _ (by decide))
    rw [List.flatten_append, List.length_append, ints_append]
    simpa using this
  · simp [hlen]
  · intro x hx
    rcases List.mem_append.1 hx with hx | hx
    · exact hwide x hx
    · obtain rfl := List.mem_singleton.1 hx; exact A.rat.1
  · intro j hj
    by_cases hjl : j < bs.length
    · obtain ⟨k', hk', he'⟩ := hhere j hjl
      have e1 : (bs ++ [b]).getD j 0 = bs.getD j 0 := by simp [List.getD, List.getElem?_append_left hjl]
      have e2 : (nss ++ [ns]).getD j [] = nss.getD j [] := by simp [List.getD, List.getElem?_append_left (show j < nss.length by rw [hlen]; exact hjl)]
      exact ⟨k', by rw [e1]; exact upd_ne (hnew _ _ hk').1 hk', by rw [e2]; exact he'⟩
    · have hj2 : j = bs.length := by simp at hj; omega
      subst hj2
      have e2 : (nss ++ [ns]).getD bs.length [] = ns := by rw [← hlen]; simp [List.getD]
      exact ⟨k, by simp [List.getD, upd_self], fun u => by rw [e2]; exact (he u).symm⟩
  · exact (((A.bel.alloc A.bel.size o).grown hg (by have := A.bel.size; rw [size_alloc]; omega) (fun k hk => (hWo.lt k hk).1))).setCell (by show w.heap.size ≤ w.heap.size + 1; omega) _

theorem all_any (v : Value) (ls : List (List Int)) (w : World) (h : RowsOf w v ls) (hlen : ls.length ≤ 60) :
    Calls Try.prog 9 #[v] w (AllPost ls.length w) := by
  obtain ⟨ao, cap, rfl, hno, hc⟩ := h
  have HC := Lib.hid hc
  clear hc hno
  obtain ⟨Z0, hZ0⟩ : ∃ Z, (ints zeros).toArray = Z := ⟨_, rfl⟩
  have hz := (zero_of_info rinfo).1
  rw [hZ0] at hz
  have HZ0 := Lib.hid hZ0
  clear hZ0
  go_enter Try.func9, Try.ntmps9
  go_wp2_with fail
  go_loopw [13] (fun i wr => ∃ (n : Nat) (bs : List Nat) (nss : List (List Int)) (F : Nat → Option Ck) (vC vW : Value), (n ≤ ls.length ∧ bs.length ≤ n) ∧ i = .int .i64 n ∧ AllAt w bs nss F vC vW wr) (fun i _ => ls.length - (intOf i).toNat)
  case atStart =>
    exact ⟨0, [], [], fun _ => none, .slice none 0 0, .slice none 0 0, ⟨by omega, by simp⟩, rfl, all_start w⟩
  case round =>
    obtain ⟨n, bs, nss, F, vC, vW, ⟨hn, hbn⟩, rfl, hat⟩ := hrel
    have AT := Lib.hid hat
    clear hat
    by_cases hlt : n < ls.length
    · have hlt' : (n : Int) < ls.length := by omega
      obtain ⟨g, z, rfl, hcc⟩ := HC.out (by omega)
      obtain ⟨uv, hu, hus⟩ := hcc n hlt
      have c0 : wr.cell? ⟨g, z + n, none⟩ = some uv := by rw [AT.out.bel.cell (p := ⟨g, z + n, none⟩) (block_lt_of_cell hu)]; exact hu
      obtain ⟨aw, cw, hvw⟩ := owns_slice AT.out.rows.rowW
      subst hvw
      obtain ⟨av, cv, hvv⟩ := owns_slice AT.out.rows.rowC
      subst hvv
      have US := Lib.hid (hus.below (Nat.le_refl _) AT.out.bel)
      clear hcc hu hus
      obtain ⟨l, hl⟩ : ∃ l, ls.getD n [] = l := ⟨_, rfl⟩
      rw [hl] at US
      clear hl
      go_wp2_with fail
      refine (of_any uv l wr US.out).mono ?_
      rintro r w1 (⟨he, b, gb, rfl, hk, hB1, hgb, hbb⟩ | ⟨he, rfl, rfl⟩)
      · have E := Lib.hid he
        have BB1 := Lib.hid hB1
        have KK := Lib.hid hk
        clear hk hB1
        go_wp2_with fail
        refine (rof_any uv l w1 (US.out.below (Nat.le_refl _) BB1.out)).mono ?_
        rintro r w2 ⟨ns, rfl, hns, hnat, hB2⟩
        rw [E.out]
        have NS := Lib.hid (hnat E.out)
        obtain ⟨Z, hZ⟩ : ∃ Z, (ints ns).toArray = Z := ⟨_, rfl⟩
        rw [hZ]
        have HZ := Lib.hid hZ
        have BB2 := Lib.hid (below_trans BB1.out hB2 BB1.out.size)
        have B12 := Lib.hid hB2
        clear hZ hnat hB2 he
        go_wp2_with (with_reducible refine wpList_store_clock rfl (.tmp 8) (.tmp 25) rfl w2.heap.size zeros ns ?sx Z ?sy HZ.out (rat_new' w2 Z0 HZ0.out) hns ?_)
        case sx => rfl
        case sy => rfl
        intro w3 R3 T3
        have T1 := Lib.hid (T3.below ((Below.refl w2.heap.size w2).alloc (Nat.le_refl _) (.cells Z0 35)) (Nat.le_refl _) (fun i e => by rw [e]; exact Nat.le_refl _))
        have T1 := Lib.hid (below_trans B12.out T1.out B12.out.size)
        have BB3 := Lib.hid (below_trans BB2.out (T3.below ((Below.refl w2.heap.size w2).alloc (Nat.le_refl _) (.cells Z0 35)) (Nat.le_refl _) (fun i e => by rw [e]; exact Nat.le_refl _)) BB2.out.size)
        clear T3
        have A3 := Lib.hid (AT.out.below BB3.out)
        have o0 : w3.cell? ⟨w.heap.size + 1, 0, none⟩ = some (.slice av bs.length cv) := by simp only [World.cell?, A3.out.out]; rfl
        have K3 := Lib.hid (KK.out.below (T1.out))
        have NEW := Lib.hid (show ∀ b' k', F b' = some k' → b' ≠ b ∧ (0 < k'.xs.length → k'.arr ≠ gb) from fun b' k' e => by
          have hc := AT.out.rows.fam.here b' k' e
          have h1 := hc.lt
          exact ⟨by omega, fun hp => by have := hc.arr_lt hp; omega⟩)
        obtain ⟨pi, hpi, hp0, hp1, hp2⟩ := info_parts pinfo
        obtain ⟨ri, hri, hr0, hr1, hr2⟩ := info_parts rinfo3
        go_wp2_with (at_builtin; refine wpList_append_own _ rfl _ _ 25 rfl w.heap.size 48 pi (.pointer none) 1 8 Try.underlying25 hpi hp0 hp1 hp2 rfl (by decide) _ _ _ rfl (show World.ownsRow _ _ _ _ _ _ _ from A3.out.rows.rowC.alloc _) ⟨w3.heap.size, 0, none⟩ 1 1 [.pointer (some ⟨b, 0, none⟩)] rfl rfl ?c1 ?c2 ?c3 ?c4 ?c5 ?_)
        case c1 =>
          intro j u hj
          match j, hj with
          | 0, hj => simp at hj; subst hj; exact cell_one w3 _ _
        case c2 => intro u hu; simp at hu; subst hu; rfl
        case c3 => unfold maxLen; omega
        case c4 => omega
        case c5 => have := A3.out.bel.size; simp; omega
        intro vC' w4 hown' hgrow _
        obtain ⟨ao', cap', rfl⟩ := owns_slice hown'
        obtain ⟨o4, M5⟩ := all_mid A3.out K3.out R3 hown' hgrow
        have c4 : w4.cell? ⟨w.heap.size + 1, 0, none⟩ = some (.slice av bs.length cv) := by simp only [World.cell?, o4]; rfl
        have c41 : w4.cell? ⟨w.heap.size + 1, 1, none⟩ = some (.slice aw nss.length cw) := by simp only [World.cell?, o4]; rfl
        have f4 : w4.frozen? ⟨w.heap.size + 1, 0, none⟩ = false := by simp [World.frozen?, o4]
        clear hown' hgrow
        have M := Lib.hid M5
        clear M5 o4
        go_wp2_with (first
          | (with_reducible refine wpList_load_clock rfl (.tmp 8) rfl w2.heap.size ns ?lx Z HZ.out M.out.rat ?_)
          | (with_reducible refine wpList_build_clock rfl (.tmp 41) rfl Z ?bx (size_of HZ.out hns) ?_)
          | (at_builtin; refine wpList_append_own _ rfl _ _ 26 rfl w.heap.size 35 ri _ 256 2048 Try.underlying26 hri hr0 hr1 hr2 (size_of (l := zeros) rfl rfl) (by decide) _ _ _ rfl (show World.ownsRow _ _ _ _ _ _ _ from M.out.rowW.alloc _) ⟨(w4.setCell ⟨w.heap.size + 1, 0, none⟩ (.slice ao' (bs.length + 1) cap')).heap.size, 0, none⟩ 1 1 (ints ns) rfl (by rw [length_ints, hns]) ?d1 ?d2 ?d3 ?d4 ?d5 ?_))
        case lx => rfl
        case d1 => exact fun j u hj => range_new _ ns Z HZ.out _ j u hj
        case d2 => exact ints1 ns
        case d3 => have := AT.out.rows.len; unfold maxLen; omega
        case d4 => have := AT.out.rows.len; omega
        case d5 => have := M.out.bel.size; rw [size_alloc]; omega
        intro vW' w7 hown7 hgrow7 _
        obtain ⟨aw', cw', rfl⟩ := owns_slice hown7
        obtain ⟨o7, A7⟩ := all_end M.out hown7 hgrow7 AT.out.rows.len AT.out.rows.wide AT.out.rows.here ⟨by have := AT.out.bel.size; omega, by have := AT.out.bel.size; show w.heap.size ≤ gb; omega⟩ NEW.out NS.out
        have c7 : w7.cell? ⟨w.heap.size + 1, 1, none⟩ = some (.slice aw nss.length cw) := by simp only [World.cell?, o7]; rfl
        have f7 : w7.frozen? ⟨w.heap.size + 1, 1, none⟩ = false := by simp [World.frozen?, o7]
        have A8 := Lib.hid A7
        clear hown7 hgrow7 o7 A7
        go_wp2_with fail
        go_roundw
        case rel => exact ⟨n + 1, _, _, _, _, _, ⟨by omega, by simp; omega⟩, by go_num, A8.out⟩
        case measure => simp [intOf] <;> omega
      · have hd : (ofE l == 0) = false := by simpa using he
        have E := Lib.hid he
        clear he
        go_wp2_with fail
        refine (rof_any uv l wr US.out).mono ?_
        rintro r w2 ⟨ns, rfl, hns, hnat, hB2⟩
        obtain ⟨Z, hZ⟩ : ∃ Z, (ints ns).toArray = Z := ⟨_, rfl⟩
        rw [hZ]
        have HZ := Lib.hid hZ
        have BB2 := Lib.hid hB2
        clear hZ hnat hB2
        go_wp2_with (with_reducible refine wpList_store_clock rfl (.tmp 8) (.tmp 25) rfl w2.heap.size zeros ns ?tx Z ?ty HZ.out (rat_new' w2 Z0 HZ0.out) hns ?_)
        case tx => rfl
        case ty => rfl
        intro w3 R3 T3
        have BB3 := Lib.hid (below_trans BB2.out (T3.below ((Below.refl w2.heap.size w2).alloc (Nat.le_refl _) (.cells Z0 35)) (Nat.le_refl _) (fun i e => by rw [e]; exact Nat.le_refl _)) BB2.out.size)
        clear T3
        have A3 := Lib.hid (AT.out.below BB3.out)
        go_wp2_with fail
        go_roundw
        case rel => exact ⟨n + 1, _, _, _, _, _, ⟨by omega, by omega⟩, by go_num, A3.out⟩
        case measure => simp [intOf] <;> omega
    · have hge : (ls.length : Int) ≤ n := by omega
      obtain ⟨aw, cw, hvw⟩ := owns_slice AT.out.rows.rowW
      subst hvw
      obtain ⟨av, cv, hvv⟩ := owns_slice AT.out.rows.rowC
      subst hvv
      have o0 : wr.cell? ⟨w.heap.size + 1, 0, none⟩ = some (.slice av bs.length cv) := by simp only [World.cell?, AT.out.out]; rfl
      have o1 : wr.cell? ⟨w.heap.size + 1, 1, none⟩ = some (.slice aw nss.length cw) := by simp only [World.cell?, AT.out.out]; rfl
      have r0 : wr.cell? ⟨w.heap.size, 0, none⟩ = some (.slice none 0 0) := by simp only [World.cell?, AT.out.res]; rfl
      have r1 : wr.cell? ⟨w.heap.size, 1, none⟩ = some (.slice none 0 0) := by simp only [World.cell?, AT.out.res]; rfl
      have f0 : wr.frozen? ⟨w.heap.size, 0, none⟩ = false := by simp [World.frozen?, AT.out.res]
      have f1 : wr.frozen? ⟨w.heap.size, 1, none⟩ = false := by simp [World.frozen?, AT.out.res]
      clear hlt
      go_wp2_with fail
      have hset := both_set1 (u := .slice aw nss.length cw) (both_set (u := .slice av bs.length cv) AT.out.res)
      have hL := load_both hset
      have kq : ∀ e, e ≠ 28 → KeepT e wr ((wr.setCell ⟨w.heap.size, 0, none⟩ (.slice av bs.length cv)).setCell ⟨w.heap.size, 1, none⟩ (.slice aw nss.length cw)) := fun e he => (keepT_set AT.out.res he).trans (keepT_set (both_set AT.out.res) he)
      refine bodyPost_ret (v := .agg #[.slice av bs.length cv, .slice aw nss.length cw]) (results_cell_one Try.results9 _ _ _ _ rfl hL) rfl ⟨bs, nss, F, _, _, rfl, AT.out.rows.keep (kq _ (by decide)) (kq _ (by decide)) (kq _ (by decide)) (kq _ (by decide)), by omega, (AT.out.bel.setCell (Nat.le_refl _) _).setCell (Nat.le_refl _) _⟩

end Go.Proofs.Ytcfkokjfhjdbfaa

