
/-
  Slots in memory: what a store, an append and a fetch leave.
-/
import Derived.Test.YtlkfhobacgnckaaSlD
import Derived.Deep.AppendLies
namespace Go.Proofs.Ytlkfhobacgnckaa
open Go.RowKit
set_option linter.unusedVariables false
set_option linter.unusedSimpArgs false
set_option maxRecDepth 100000

theorem ownsRow_far {w w' : World} {base size n : Nat} {e : TypeId} {v : Value} {xs : List Value} {row : Option Nat} (h : w.ownsRow base e size v n xs) (hg : w.grownBy w' row) (hne : ∀ g, row = some g → v.ownBlock ≠ some g) : w'.ownsRow base e size v n xs := by
  refine ⟨h.1, ?_⟩
  rcases h.2 with h2 | ⟨g, cap, cur, rfl, hb, hgg, h3⟩
  · exact .inl h2
  · exact .inr ⟨g, cap, cur, rfl, hb, (hg.block g (lt_of_heap hgg) (fun e => hne g e.symm rfl)).trans hgg, h3⟩
theorem own_lt {w : World} {base size n g : Nat} {e : TypeId} {v : Value} {xs : List Value} (h : w.ownsRow base e size v n xs) (hg : v.ownBlock = some g) : g < w.heap.size ∧ base ≤ g := by
  rcases h.2 with ⟨rfl, _⟩ | ⟨g', cap, cur, rfl, hb, hgg, h3⟩
  · cases hg
  · cases hg; exact ⟨lt_of_heap hgg, hb⟩
theorem grown_low {B : Nat} {w w' w0 : World} {row : Option Nat} (hg : w.grownBy w' row) (hr : ∀ g, row = some g → B ≤ g) (hB : Below B w0 w) (hle : B ≤ w0.heap.size) : Below B w0 w' :=
  hB.grown hg (Nat.le_trans hle hB.size) hr

theorem SlAt.store {B s : Nat} {w : World} {F : Nat → Option Ck} {vS vR : Value} {cb : Option Nat} {M : Md} (hb : w.heap[s]? = some (Obj.cells #[.int .i64 (M.size : Nat), vS, vR, .int .i64 (M.sn : Nat), .int .i64 (M.rn : Nat), .pointer (cb.map fun b => ⟨b, 0, none⟩)] 72 (0, 0)))
    (o : Nat) (u : Value) {vS' vR' : Value} {sb' rb' : List Nat} {cb' : Option Nat} {M' : Md}
    (hc : (#[.int .i64 (M.size : Nat), vS, vR, .int .i64 (M.sn : Nat), .int .i64 (M.rn : Nat), .pointer (cb.map fun b => ⟨b, 0, none⟩)] : Array Value).setIfInBounds o u = #[.int .i64 (M'.size : Nat), vS', vR', .int .i64 (M'.sn : Nat), .int .i64 (M'.rn : Nat), .pointer (cb'.map fun b => ⟨b, 0, none⟩)])
    (rS : w.ownsRow B 28 1 vS' sb'.length (ptrs sb')) (rR : w.ownsRow B 28 1 vR' rb'.length (ptrs rb')) (ap : ∀ g, vS'.ownBlock = some g → vR'.ownBlock ≠ some g)
    (fam : Fam B w F) (hS : Hass F sb' M'.S) (hR : Hass F rb' M'.R) (hC : Hass F cb'.toList M'.C.toList) (nd : (sb' ++ rb' ++ cb'.toList).Nodup) (low : B ≤ s) (bw : B ≤ w.heap.size) :
    SlAt B s (w.setCell ⟨s, o, none⟩ u) F vS' vR' sb' rb' cb' M' := by
  have k1 := keepT_set (e := 28) (o := o) (v := u) hb (by decide)
  have k2 := keepT_set (e := 75) (o := o) (v := u) hb (by decide)
  have k3 := keepT_set (e := 3) (o := o) (v := u) hb (by decide)
  refine ⟨?_, ownsRow_keep rS k1, ownsRow_keep rR k1, ap, fam.keep k2 k3, hS, hR, hC, nd, low, by simpa [World.setCell] using bw⟩
  rw [heap_setCell_same w s o _ _ _ hb, hc]
theorem keepS_set {B s o : Nat} {w : World} {cur : Array Value} {u : Value} (hb : w.heap[s]? = some (Obj.cells cur 72 (0, 0))) (low : B ≤ s) : KeepS B w (w.setCell ⟨s, o, none⟩ u) :=
  ⟨fun e _ _ _ h4 => keepT_set hb h4, fun w0 _ h => h.setCell low _⟩
theorem keepS_below {B : Nat} {w w' : World} (hB : B ≤ w.heap.size) (h : Below w.heap.size w w') : KeepS B w w' := (KeepP.below hB h).s
theorem keepS_grown {B n : Nat} {w w' : World} {v : Value} {xs : List Value} (hr : w.ownsRow B 28 1 v n xs) (hg : w.grownBy w' v.ownBlock) : KeepS B w w' :=
  ⟨fun e _ _ h3 _ => keepT_grown hr hg h3, fun w0 hw h => h.grown hg (Nat.le_trans hw h.size) (fun k hk => (own_lt hr hk).2)⟩

theorem SlAt.setSn {B s : Nat} {w : World} {F : Nat → Option Ck} {vS vR : Value} {sb rb : List Nat} {cb : Option Nat} {M : Md} (h : SlAt B s w F vS vR sb rb cb M) (n : Nat) :
    SlAt B s (w.setCell ⟨s, 3, none⟩ (.int .i64 (n : Nat))) F vS vR sb rb cb ⟨M.size, M.S, M.R, n, M.rn, M.C⟩ :=
  SlAt.store (M' := ⟨M.size, M.S, M.R, n, M.rn, M.C⟩) h.blk 3 _ rfl h.rowS h.rowR h.apart h.fam h.hS h.hR h.hC h.nodup h.low h.bw
theorem SlAt.setRn {B s : Nat} {w : World} {F : Nat → Option Ck} {vS vR : Value} {sb rb : List Nat} {cb : Option Nat} {M : Md} (h : SlAt B s w F vS vR sb rb cb M) (n : Nat) :
    SlAt B s (w.setCell ⟨s, 4, none⟩ (.int .i64 (n : Nat))) F vS vR sb rb cb ⟨M.size, M.S, M.R, M.sn, n, M.C⟩ :=
  SlAt.store (M' := ⟨M.size, M.S, M.R, M.sn, n, M.C⟩) h.blk 4 _ rfl h.rowS h.rowR h.apart h.fam h.hS h.hR h.hC h.nodup h.low h.bw
theorem SlAt.setC {B s : Nat} {w : World} {F : Nat → Option Ck} {vS vR : Value} {sb rb : List Nat} {M : Md} (h : SlAt B s w F vS vR sb rb none M) {b : Nat} {l : List Int} (hb : Has F b l) (hn : b ∉ sb ++ rb) :
    SlAt B s (w.setCell ⟨s, 5, none⟩ (.pointer (some ⟨b, 0, none⟩))) F vS vR sb rb (some b) ⟨M.size, M.S, M.R, M.sn, M.rn, some l⟩ := by
  refine SlAt.store (M' := ⟨M.size, M.S, M.R, M.sn, M.rn, some l⟩) h.blk 5 _ rfl h.rowS h.rowR h.apart h.fam h.hS h.hR (Hass.one hb) ?_ h.low h.bw
  have := h.nodup
  simp only [Option.toList, List.append_nil] at this
  rw [List.nodup_append]
  exact ⟨this, by simp, fun a ha c hc e => by simp at hc; subst hc; subst e; exact hn ha⟩

/-- Behind an append to what was sent. -/
theorem SlAt.appS {B s : Nat} {w w' : World} {F : Nat → Option Ck} {vS vR : Value} {sb rb : List Nat} {cb : Option Nat} {M : Md} (h : SlAt B s w F vS vR sb rb cb M) {b : Nat} {l : List Int} (hb : Has F b l) (hn : b ∉ sb ++ rb ++ cb.toList)
    {g cap : Nat} (hown : w'.ownsRow B 28 1 (.slice (some ⟨g, 0, none⟩) (sb.length + 1) cap) (sb.length + 1) (ptrs (sb ++ [b]))) (hgr : w.grownBy w' vS.ownBlock) (hg : vS.ownBlock = some g ∨ w.heap.size ≤ g) :
    SlAt B s (w'.setCell ⟨s, 1, none⟩ (.slice (some ⟨g, 0, none⟩) (sb.length + 1) cap)) F (.slice (some ⟨g, 0, none⟩) (sb.length + 1) cap) vR (sb ++ [b]) rb cb ⟨M.size, M.S ++ [l], M.R, M.sn, M.rn, M.C⟩ ∧ KeepS B w (w'.setCell ⟨s, 1, none⟩ (.slice (some ⟨g, 0, none⟩) (sb.length + 1) cap)) := by
  have kk := fun e he => keepT_grown (e := e) h.rowS hgr he
  have hblk : w'.heap[s]? = _ := (kk _ (by decide) _ _ _ h.blk).trans h.blk
  have k0 := keepS_grown h.rowS hgr
  refine ⟨SlAt.store (M' := ⟨M.size, M.S ++ [l], M.R, M.sn, M.rn, M.C⟩) hblk 1 _ rfl (by rw [List.length_append]; exact hown) (ownsRow_far h.rowR hgr h.apart) (fun g' e e2 => ?_) (h.fam.keep (kk _ (by decide)) (kk _ (by decide))) (h.hS.app (Hass.one hb)) h.hR h.hC ?_ h.low (Nat.le_trans h.bw hgr.size), k0.trans (keepS_set hblk h.low)⟩
  · cases e
    rcases hg with hg | hg
    · exact h.apart g hg e2
    · have h1 : g < w.heap.size := (own_lt h.rowR e2).1; omega
  · have nd := h.nodup
    rw [List.append_assoc, List.nodup_append] at nd ⊢
    obtain ⟨n1, n2, n3⟩ := nd
    have hn1 : b ∉ sb := fun hm => hn (by simp [hm])
    have hn2 : b ∉ rb ++ cb.toList := fun hm => hn (by rw [List.append_assoc]; exact List.mem_append_right _ hm)
    refine ⟨?_, n2, fun a ha c hc e => ?_⟩
    · rw [List.nodup_append]
      exact ⟨n1, by simp, fun a ha c hc e => by simp at hc; subst hc; subst e; exact hn1 ha⟩
    · rcases List.mem_append.1 ha with ha | ha
      · exact n3 a ha c hc e
      · simp at ha; subst ha; subst e; exact hn2 hc
theorem SlAt.appR {B s : Nat} {w w' : World} {F : Nat → Option Ck} {vS vR : Value} {sb rb : List Nat} {cb : Option Nat} {M : Md} (h : SlAt B s w F vS vR sb rb cb M) {b : Nat} {l : List Int} (hb : Has F b l) (hn : b ∉ sb ++ rb ++ cb.toList)
    {g cap : Nat} (hown : w'.ownsRow B 28 1 (.slice (some ⟨g, 0, none⟩) (rb.length + 1) cap) (rb.length + 1) (ptrs (rb ++ [b]))) (hgr : w.grownBy w' vR.ownBlock) (hg : vR.ownBlock = some g ∨ w.heap.size ≤ g) :
    SlAt B s (w'.setCell ⟨s, 2, none⟩ (.slice (some ⟨g, 0, none⟩) (rb.length + 1) cap)) F vS (.slice (some ⟨g, 0, none⟩) (rb.length + 1) cap) sb (rb ++ [b]) cb ⟨M.size, M.S, M.R ++ [l], M.sn, M.rn, M.C⟩ ∧ KeepS B w (w'.setCell ⟨s, 2, none⟩ (.slice (some ⟨g, 0, none⟩) (rb.length + 1) cap)) := by
  have kk := fun e he => keepT_grown (e := e) h.rowR hgr he
  have hblk : w'.heap[s]? = _ := (kk _ (by decide) _ _ _ h.blk).trans h.blk
  have k0 := keepS_grown h.rowR hgr
  refine ⟨SlAt.store (M' := ⟨M.size, M.S, M.R ++ [l], M.sn, M.rn, M.C⟩) hblk 2 _ rfl (ownsRow_far h.rowS hgr (fun g' e e2 => h.apart g' e2 e)) (by rw [List.length_append]; exact hown) (fun g' e e2 => ?_) (h.fam.keep (kk _ (by decide)) (kk _ (by decide))) h.hS (h.hR.app (Hass.one hb)) h.hC ?_ h.low (Nat.le_trans h.bw hgr.size), k0.trans (keepS_set hblk h.low)⟩
  · cases e2
    rcases hg with hg | hg
    · exact h.apart g e hg
    · have h1 : g < w.heap.size := (own_lt h.rowS e).1; omega
  · have nd := h.nodup
    rw [List.nodup_append] at nd ⊢
    obtain ⟨n1, n2, n3⟩ := nd
    have hn1 : b ∉ sb ++ rb := fun hm => hn (List.mem_append_left _ hm)
    have hn2 : b ∉ cb.toList := fun hm => hn (List.mem_append_right _ hm)
    refine ⟨?_, n2, fun a ha c hc e => ?_⟩
    · rw [← List.append_assoc, List.nodup_append]
      exact ⟨n1, by simp, fun a ha c hc e => by simp at hc; subst hc; subst e; exact hn1 ha⟩
    · rw [← List.append_assoc] at ha
      rcases List.mem_append.1 ha with ha | ha
      · exact n3 a ha c hc e
      · simp at ha; subst ha; subst e; exact hn2 hc

/-- Behind a fetch. -/
theorem SlAt.fetS {B s : Nat} {w w' : World} {F : Nat → Option Ck} {vS vR : Value} {b : Nat} {sb rb : List Nat} {cb : Option Nat} {M : Md} (h : SlAt B s w F vS vR (b :: sb) rb cb M) {g cap : Nat} (hg : w.heap.size ≤ g) (hB : Below w.heap.size w w')
    (hown : w'.ownsRow w.heap.size 28 1 (.slice (some ⟨g, 0, none⟩) sb.length cap) sb.length (ptrs sb)) :
    SlAt B s (w'.setCell ⟨s, 1, none⟩ (.slice (some ⟨g, 0, none⟩) sb.length cap)) F (.slice (some ⟨g, 0, none⟩) sb.length cap) vR sb rb cb ⟨M.size, M.S.tail, M.R, M.sn, M.rn, M.C⟩ ∧ KeepS B w (w'.setCell ⟨s, 1, none⟩ (.slice (some ⟨g, 0, none⟩) sb.length cap)) ∧ Has F b (M.S.headD []) ∧ b ∉ sb ++ rb ++ cb.toList := by
  have h' := h.below hB
  have hs := h.hS
  have nd := h.nodup
  rw [List.cons_append, List.cons_append, List.nodup_cons] at nd
  cases hMS : M.S with
  | nil => rw [hMS] at hs; exact hs.elim
  | cons l S =>
    rw [hMS] at hs
    refine ⟨SlAt.store (M' := ⟨M.size, S, M.R, M.sn, M.rn, M.C⟩) h'.blk 1 _ rfl (ownsRow_low hown h.bw) h'.rowR (fun g' e e2 => ?_) h'.fam hs.2 h.hR h.hC nd.2 h.low h'.bw, (keepS_below h.bw hB).trans (keepS_set h'.blk h.low), hs.1, nd.1⟩
    cases e
    have h1 : g < w.heap.size := (own_lt h.rowR e2).1; omega
theorem SlAt.fetR {B s : Nat} {w w' : World} {F : Nat → Option Ck} {vS vR : Value} {b : Nat} {sb rb : List Nat} {cb : Option Nat} {M : Md} (h : SlAt B s w F vS vR sb (b :: rb) cb M) {g cap : Nat} (hg : w.heap.size ≤ g) (hB : Below w.heap.size w w')
    (hown : w'.ownsRow w.heap.size 28 1 (.slice (some ⟨g, 0, none⟩) rb.length cap) rb.length (ptrs rb)) :
    SlAt B s (w'.setCell ⟨s, 2, none⟩ (.slice (some ⟨g, 0, none⟩) rb.length cap)) F vS (.slice (some ⟨g, 0, none⟩) rb.length cap) sb rb cb ⟨M.size, M.S, M.R.tail, M.sn, M.rn, M.C⟩ ∧ KeepS B w (w'.setCell ⟨s, 2, none⟩ (.slice (some ⟨g, 0, none⟩) rb.length cap)) ∧ Has F b (M.R.headD []) ∧ b ∉ sb ++ rb ++ cb.toList := by
  have h' := h.below hB
  have hs := h.hR
  have nd := h.nodup
  have pm : List.Perm (sb ++ b :: rb ++ cb.toList) (b :: (sb ++ rb ++ cb.toList)) := by
    rw [List.append_assoc, List.append_assoc, List.cons_append]; exact List.perm_middle
  have nd := pm.nodup_iff.1 nd
  rw [List.nodup_cons] at nd
  cases hMR : M.R with
  | nil => rw [hMR] at hs; exact hs.elim
  | cons l R =>
    rw [hMR] at hs
    refine ⟨SlAt.store (M' := ⟨M.size, M.S, R, M.sn, M.rn, M.C⟩) h'.blk 2 _ rfl h'.rowS (ownsRow_low hown h.bw) (fun g' e e2 => ?_) h'.fam h.hS hs.2 h.hC nd.2 h.low h'.bw, (keepS_below h.bw hB).trans (keepS_set h'.blk h.low), hs.1, nd.1⟩
    cases e2
    have h1 : g < w.heap.size := (own_lt h.rowS e).1; omega

/-- An append of one pointer, at a step of a region that draws its order. -/
theorem step_append_ptr {ops : Array Oper} {o : Oper} {a : Act} {w : World} {K : Act → World → Prop} {Q : Exit → Act → World → Prop} {E : Prop} (hgd : o.guard = none) (s x : Operand)
    (ho : o.op = .call { callee := .builtin .append, args := #[s, x], argTypes := #[34, 34] })
    (base : Nat) (v : Value) (n : Nat) (bs : List Nat) (hs : a.eval s = v) (hown : w.ownsRow base 28 1 v n (ptrs bs))
    (q b c : Nat) (hx : a.eval x = .slice (some ⟨q, 0, none⟩) 1 c) (hq : w.heap[q]? = some (Obj.cells #[.pointer (some ⟨b, 0, none⟩)] 28 (0, 0))) (hn : n ≤ 100000) (hbase : base ≤ w.heap.size)
    (h : ∀ g cap w', w'.ownsRow base 28 1 (.slice (some ⟨g, 0, none⟩) (n + 1) cap) (n + 1) (ptrs (bs ++ [b])) → w.grownBy w' v.ownBlock → (v.ownBlock = some g ∨ g = w.heap.size) → g < w'.heap.size → K (a.put o.dst (.slice (some ⟨g, 0, none⟩) (n + 1) cap)) w') :
    if Region.wanted o (yielded ops a.tmps) = true then Oper.wp Try.prog o a w K Q else E := by
  obtain ⟨i0, hi, hz0, hz1, hz2⟩ := info_parts pinfo
  refine step_append_lies _ hgd s x 34 ho base 28 i0 (.pointer none) 1 8 Try.underlying34 hi hz0 hz1 hz2 rfl (by decide) v n (ptrs bs) hs hown ⟨q, 0, none⟩ 1 c [.pointer (some ⟨b, 0, none⟩)] hx rfl ?_ ?_ (by decide) (by unfold maxLen; omega) (by omega) hbase _ rfl ?_
  · exact World.news_of_block hq
  · intro u hu; simp at hu; subst hu; rfl
  · intro g cap w' h1 h2 h3 h4
    exact h g cap w' (by rw [ptrs_append]; exact h1) h2 h3 h4
theorem wpList_append_ptr {ops : Array Oper} {rest : List Oper} {o : Oper} {a : Act} {w : World} {Q : Exit → Act → World → Prop} (hgd : o.guard = none) (s x : Operand)
    (ho : o.op = .call { callee := .builtin .append, args := #[s, x], argTypes := #[34, 34] })
    (base : Nat) (v : Value) (n : Nat) (bs : List Nat) (hs : a.eval s = v) (hown : w.ownsRow base 28 1 v n (ptrs bs))
    (q b c : Nat) (hx : a.eval x = .slice (some ⟨q, 0, none⟩) 1 c) (hq : w.heap[q]? = some (Obj.cells #[.pointer (some ⟨b, 0, none⟩)] 28 (0, 0))) (hn : n ≤ 100000) (hbase : base ≤ w.heap.size)
    (h : ∀ g cap w', w'.ownsRow base 28 1 (.slice (some ⟨g, 0, none⟩) (n + 1) cap) (n + 1) (ptrs (bs ++ [b])) → w.grownBy w' v.ownBlock → (v.ownBlock = some g ∨ g = w.heap.size) → g < w'.heap.size → wpList Try.prog ops Q rest (a.put o.dst (.slice (some ⟨g, 0, none⟩) (n + 1) cap)) w') :
    wpList Try.prog ops Q (o :: rest) a w := by
  obtain ⟨i0, hi, hz0, hz1, hz2⟩ := info_parts pinfo
  refine wpList_append_lies _ hgd s x 34 ho base 28 i0 (.pointer none) 1 8 Try.underlying34 hi hz0 hz1 hz2 rfl (by decide) v n (ptrs bs) hs hown ⟨q, 0, none⟩ 1 c [.pointer (some ⟨b, 0, none⟩)] hx rfl ?_ ?_ (by decide) (by unfold maxLen; omega) (by omega) hbase _ rfl ?_
  · exact World.news_of_block hq
  · intro u hu; simp at hu; subst hu; rfl
  · intro g cap w' h1 h2 h3 h4
    exact h g cap w' (by rw [ptrs_append]; exact h1) h2 h3 h4

end Go.Proofs.Ytlkfhobacgnckaa

