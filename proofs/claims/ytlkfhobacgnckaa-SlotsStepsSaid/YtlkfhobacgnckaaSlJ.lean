
/-
  Package slots: Held, Drop.
-/
import Derived.Test.YtlkfhobacgnckaaSlI
namespace Go.Proofs.Ytlkfhobacgnckaa
open Go.RowKit
set_option linter.unusedVariables false
set_option linter.unusedSimpArgs false
set_option maxRecDepth 100000

/-- A row that is newer than a world: what is appended to it leaves that world's blocks. -/
theorem keepT_newer {e : TypeId} {w1 w w' : World} {et : TypeId} {size n : Nat} {v : Value} {xs : List Value} (h : KeepT e w1 w) (hr : w.ownsRow w1.heap.size et size v n xs) (hg : w.grownBy w' v.ownBlock) (hle : w1.heap.size ≤ w.heap.size) : KeepT e w1 w' := fun i cur fz hi => by
  have hlt := lt_of_heap hi
  have h1 := h i cur fz hi
  rw [hg.block i (by omega) (fun he => ?_), h1]
  have : w1.heap.size ≤ i := by
    rcases hr.2 with ⟨rfl, _⟩ | ⟨g, cap, cur', rfl, hb, _⟩
    · cases he
    · cases he; exact hb
  omega
theorem KeepP.newer {B : Nat} {w1 w w' : World} {et : TypeId} {size n : Nat} {v : Value} {xs : List Value} (h : KeepP B w1 w) (hr : w.ownsRow w1.heap.size et size v n xs) (hg : w.grownBy w' v.ownBlock) (hle : w1.heap.size ≤ w.heap.size) (hB : B ≤ w1.heap.size) : KeepP B w1 w' :=
  ⟨fun e h1 h2 => keepT_newer (h.1 e h1 h2) hr hg hle, fun w0 hw hb => (h.2 w0 hw hb).grown hg (by omega) (fun k hk => by
    rcases hr.2 with ⟨rfl, _⟩ | ⟨g, cap, cur', rfl, hb2, _⟩
    · cases hk
    · cases hk; exact Nat.le_trans hB hb2)⟩
theorem KeepP.size {B : Nat} {w w' : World} (h : KeepP B w w') (hB : B ≤ w.heap.size) : w.heap.size ≤ w'.heap.size := h.s.size hB
theorem PSrc.keep {w w' : World} {v : Value} {l : List Nat} {base : Nat} (h : w.ownsRow base 28 1 v l.length (ptrs l)) (hk : KeepT 28 w w') : PSrc w' v l := PSrc.of_owns (ownsRow_keep h hk)
theorem Hass.of_at {F : Nat → Option Ck} : ∀ {bs : List Nat} {ls : List (List Int)}, bs.length = ls.length → (∀ j, j < bs.length → Has F (bs.getD j 0) (ls.getD j [])) → Hass F bs ls
  | [], [], _, _ => trivial
  | b :: bs, l :: ls, hl, h => ⟨h 0 (by simp), Hass.of_at (by simpa using hl) (fun j hj => by simpa using h (j + 1) (by simpa using hj))⟩
  | [], _ :: _, hl, _ => by simp at hl
  | _ :: _, [], hl, _ => by simp at hl
theorem Hass.split {F : Nat → Option Ck} : ∀ {bs cs : List Nat} {ls ms : List (List Int)}, bs.length = ls.length → Hass F (bs ++ cs) (ls ++ ms) → Hass F bs ls ∧ Hass F cs ms
  | [], _, [], _, _, h => ⟨trivial, h⟩
  | b :: bs, _, l :: ls, _, hl, h => by
    have h2 := Hass.split (bs := bs) (ls := ls) (by simpa using hl) h.2
    exact ⟨⟨h.1, h2.1⟩, h2.2⟩
  | [], _, _ :: _, _, hl, _ => by simp at hl
  | _ :: _, _, [], _, hl, _ => by simp at hl
theorem getD_map_drop (t : Int) (ls : List (List Int)) (j : Nat) (h : j < ls.length) : (ls.map (drop0 t)).getD j [] = drop0 t (ls.getD j []) := by simp [List.getD, h]

def HeldPost (B : Nat) (F : Nat → Option Ck) (ls : List (List Int)) (w : World) (r : Ending) (w' : World) : Prop :=
  ∃ v hb F', r = .returned v ∧ w'.ownsRow w.heap.size 28 1 v hb.length (ptrs hb) ∧ Fam B w' F' ∧ Same F F' ∧ Hass F' hb ls ∧ hb.Nodup ∧ (∀ b, b ∈ hb → w.heap.size ≤ b) ∧ KeepP B w w'

theorem held_nil (w : World) : Calls Try.prog 14 #[.pointer none] w fun r w' => r = .returned (.slice none 0 0) ∧ w = w' := by
  go_enter Try.func14, Try.ntmps14
  go_wp2_with fail
  refine (kept_nil _).mono ?_
  rintro r w1 ⟨rfl, rfl⟩
  go_wp2_with fail
  go_loopw [3, 9] (fun o i wr => o = .slice none 0 0 ∧ i = .int .i64 0 ∧ wr = w) (fun _ _ _ => 0)
  case atStart => exact ⟨rfl, rfl, rfl⟩
  case round =>
    obtain ⟨rfl, rfl, rfl⟩ := hrel
    go_wp2_with fail
    go_ret
    exact ⟨rfl, rfl⟩

theorem held_any {B s : Nat} {w : World} {F : Nat → Option Ck} {vS vR : Value} {sb rb : List Nat} {cb : Option Nat} {M : Md} (h : SlAt B s w F vS vR sb rb cb M) (hl1 : sb.length ≤ 40000) (hl2 : rb.length ≤ 40000) :
    Calls Try.prog 14 #[.pointer (some ⟨s, 0, none⟩)] w (HeldPost B F M.kept w) := by
  have H := Lib.hid h
  have HK := Lib.hid h.all
  have N1 := Lib.hid hl1
  have N2 := Lib.hid hl2
  clear h hl1 hl2
  go_enter Try.func14, Try.ntmps14
  go_wp2_with fail
  refine (kept_any H.out N1.out N2.out).mono ?_
  rintro r w1 ⟨v, rfl, hown, hB⟩
  obtain ⟨K, hK⟩ : ∃ K, sb ++ rb ++ cb.toList = K := ⟨_, rfl⟩
  rw [hK] at hown HK
  have KL := Lib.hid (show K.length ≤ 90000 by
    rw [← hK]; have := N1.out; have := N2.out
    have : cb.toList.length ≤ 1 := by cases cb <;> simp
    simp only [List.length_append]; omega)
  clear hK
  obtain ⟨ao, cap, rfl⟩ := owns_slice hown
  have RW := Lib.hid hown
  have BB := Lib.hid hB
  have F1 := Lib.hid (H.out.fam.below hB)
  have SZ := Lib.hid hB.size
  have BW := Lib.hid (Nat.le_trans H.out.bw hB.size)
  obtain ⟨n, hn⟩ : ∃ n, K.length = n := ⟨_, rfl⟩
  rw [hn]
  have HN := Lib.hid hn
  have b1 : (n : Int) ≤ 90000 := by have := KL.out; omega
  clear hown hB hn
  go_wp2_with fail
  go_loopw [3, 9] (fun o i wr => ∃ (k : Nat) (hb : List Nat) (F' : Nat → Option Ck), (k ≤ n ∧ hb.length = k) ∧ i = .int .i64 k ∧ wr.ownsRow w1.heap.size 28 1 o k (ptrs hb) ∧ Fam B wr F' ∧ Same F F' ∧ Hass F' hb (M.kept.take k) ∧ (hb.Nodup ∧ ∀ b, b ∈ hb → w1.heap.size ≤ b) ∧ KeepP B w1 wr) (fun _ i _ => n - (intOf i).toNat)
  case atStart => exact ⟨0, [], F, ⟨by omega, rfl⟩, rfl, ⟨rfl, .inl ⟨rfl, rfl⟩⟩, F1.out, Same.refl _, by simp [Hass], ⟨by simp, fun b hb => by simp at hb⟩, KeepP.refl _ _⟩
  case round =>
    obtain ⟨k, hb, F', ⟨hk, hlk⟩, rfl, hrow, hfam, hsame, hhas, hnd, hkp⟩ := hrel
    obtain ⟨ao', cap', rfl⟩ := owns_slice hrow
    have R := Lib.hid hrow
    have FF := Lib.hid hfam
    have SA := Lib.hid hsame
    have HA := Lib.hid hhas
    have ND := Lib.hid hnd
    have KP := Lib.hid hkp
    have LK := Lib.hid hlk
    have WS := Lib.hid (hkp.size BW.out)
    clear hrow hfam hsame hhas hnd hkp hlk
    by_cases hlt : k < n
    · have hlt' : (k : Int) < n := by omega
      obtain ⟨_, _, e, _, hc⟩ := PSrc.keep RW.out (KP.out.1 _ (by decide) (by decide))
      have hkK : k < K.length := by have := HN.out; omega
      obtain ⟨g, z, rfl, hc2⟩ := hc (by omega)
      rw [HN.out] at e
      cases e
      have c0 := hc2 k hkK
      have hbk := HK.out.at k hkK
      have HB := Lib.hid (hbk.same SA.out)
      have ML := Lib.hid (show k < M.kept.length by rw [← HK.out.len]; exact hkK)
      obtain ⟨bk, hbk'⟩ : ∃ b, K.getD k 0 = b := ⟨_, rfl⟩
      obtain ⟨lk, hlk'⟩ : ∃ l, M.kept.getD k [] = l := ⟨_, rfl⟩
      rw [hbk'] at c0 HB
      rw [hlk'] at HB
      have LL := Lib.hid hlk'
      clear hc hc2 hkK hbk hbk' hlk'
      go_wp2_with fail
      refine (fam_copy FF.out (Nat.le_trans BW.out WS.out) bk lk HB.out).mono ?_
      rintro r w3 ⟨b', F3, rfl, hF3, hb3, hlt3, hS3, hK3⟩
      have P3 := Lib.hid (show Fam B w3 F3 ∧ Has F3 b' lk ∧ wr.heap.size ≤ b' ∧ Same F' F3 ∧ KeepP B wr w3 from ⟨hF3, hb3, hlt3, hS3, hK3⟩)
      have R3 := Lib.hid (ownsRow_keep R.out (hK3.1 _ (by decide) (by decide)))
      have KP3 := Lib.hid (KP.out.trans hK3)
      have WS3 := Lib.hid (KP3.out.size BW.out)
      clear hF3 hb3 hlt3 hS3 hK3
      go_wp2_with (at_builtin; refine wpList_append_ptr rfl _ _ rfl w1.heap.size _ k hb rfl (R3.out.alloc _) w3.heap.size b' _ rfl (heap_alloc_new _ _) (by have := HN.out; have := KL.out; omega) (by have := WS3.out; simp; omega) ?_; intro g3 cap3 w5 hown3 hg3 _ _; have Q3 := Lib.hid (And.intro hown3 hg3); clear hown3 hg3)
      have BA := Lib.hid ((Below.refl w3.heap.size w3).alloc (Nat.le_refl _) (.cells #[.pointer (some ⟨b', 0, none⟩)] 28))
      have KPA := Lib.hid (KP3.out.trans (KeepP.below (Nat.le_trans BW.out WS3.out) BA.out))
      have KP5 := Lib.hid (KPA.out.newer (R3.out.alloc _) Q3.out.2 (by have := WS3.out; simp; omega) BW.out)
      have F5 := Lib.hid ((P3.out.1.below BA.out).keep (keepT_grown (R3.out.alloc _) Q3.out.2 (by decide)) (keepT_grown (R3.out.alloc _) Q3.out.2 (by decide)))
      go_roundw
      case rel => exact ⟨k + 1, hb ++ [b'], F3, ⟨by omega, by rw [List.length_append, LK.out]; rfl⟩, by go_num, Q3.out.1, F5.out, SA.out.trans P3.out.2.2.2.1, by
          rw [List.take_succ_eq_append_getElem ML.out]
          refine (HA.out.same P3.out.2.2.2.1).app (Hass.one ?_)
          have e : M.kept[k]'ML.out = lk := by rw [← LL.out]; simp [List.getD, ML.out]
          rw [e]; exact P3.out.2.1, ⟨by
          rw [List.nodup_append]
          refine ⟨ND.out.1, by simp, fun a ha c hc e => ?_⟩
          simp at hc; subst hc; subst e
          obtain ⟨l, hl⟩ := Hass.mem HA.out _ ha
          have := FF.out.lt hl
          have := P3.out.2.2.1
          omega, fun b hbm => by
          rcases List.mem_append.1 hbm with hm | hm
          · exact ND.out.2 b hm
          · simp at hm; subst hm; have := P3.out.2.2.1; have := WS.out; omega⟩, KP5.out⟩
      case measure => simp [intOf] <;> omega
    · have hkn : k = n := by omega
      have hge : (n : Int) ≤ k := by omega
      have ML := Lib.hid (show M.kept.length ≤ k by rw [← HK.out.len]; have := HN.out; omega)
      clear hlt hkn
      go_wp2_with fail
      go_ret
      exact ⟨_, hb, F', rfl, by rw [LK.out]; exact ownsRow_low R.out SZ.out, FF.out, SA.out, by have := HA.out; rwa [List.take_of_length_le ML.out] at this, ND.out.1, fun b hbm => Nat.le_trans SZ.out (ND.out.2 b hbm), (KeepP.below H.out.bw BB.out).trans KP.out⟩

/-! ### Drop -/
def DropPost (B s : Nat) (F : Nat → Option Ck) (vS vR : Value) (sb rb : List Nat) (cb : Option Nat) (M : Md) (t : Int) (w : World) (r : Ending) (w' : World) : Prop :=
  ∃ F', r = .returned (.tuple #[]) ∧ SlAt B s w' F' vS vR sb rb cb (M.drop t) ∧ (∀ b l, b ∉ sb ++ rb ++ cb.toList → Has F b l → Has F' b l) ∧ KeepP B w w'

theorem drop_nil (t : Int) (w : World) : Calls Try.prog 17 #[.pointer none, .int .i64 t] w fun r w' => r = .returned (.tuple #[]) ∧ w = w' := by
  go_enter Try.func17, Try.ntmps17
  go_wp2_with fail
  refine (kept_nil _).mono ?_
  rintro r w1 ⟨rfl, rfl⟩
  go_wp2_with fail
  go_loopw [9] (fun i wr => i = .int .i64 0 ∧ wr = w) (fun _ _ => 0)
  case atStart => exact ⟨rfl, rfl⟩
  case round =>
    obtain ⟨rfl, rfl⟩ := hrel
    go_wp2_with fail
    go_end0
    exact ⟨rfl, rfl⟩

/-- Behind k of the drops. -/
def DropTo (F : Nat → Option Ck) (K : List Nat) (ls : List (List Int)) (t : Int) (k : Nat) : Prop := ∀ j, j < K.length → Has F (K.getD j 0) (if j < k then drop0 t (ls.getD j []) else ls.getD j [])
theorem nodup_getD {K : List Nat} (h : K.Nodup) {i j : Nat} (hi : i < K.length) (hj : j < K.length) (hij : i ≠ j) : K.getD i 0 ≠ K.getD j 0 := by
  simp only [List.getD, List.getElem?_eq_getElem hi, List.getElem?_eq_getElem hj, Option.getD_some]
  intro e
  have p := List.pairwise_iff_getElem.1 h
  rcases Nat.lt_or_gt_of_ne hij with h1 | h1
  · exact p i j hi hj h1 e
  · exact p j i hj hi h1 e.symm

theorem sdrop_any {B s : Nat} {w : World} {F : Nat → Option Ck} {vS vR : Value} {sb rb : List Nat} {cb : Option Nat} {M : Md} (h : SlAt B s w F vS vR sb rb cb M) (hl1 : sb.length ≤ 40000) (hl2 : rb.length ≤ 40000) (t : Int) :
    Calls Try.prog 17 #[.pointer (some ⟨s, 0, none⟩), .int .i64 t] w (DropPost B s F vS vR sb rb cb M t w) := by
  have H := Lib.hid h
  have HK := Lib.hid h.all
  have ND := Lib.hid h.nodup
  have N1 := Lib.hid hl1
  have N2 := Lib.hid hl2
  clear h hl1 hl2
  go_enter Try.func17, Try.ntmps17
  go_wp2_with fail
  refine (kept_any H.out N1.out N2.out).mono ?_
  rintro r w1 ⟨v, rfl, hown, hB⟩
  obtain ⟨K, hK⟩ : ∃ K, sb ++ rb ++ cb.toList = K := ⟨_, rfl⟩
  rw [hK] at hown HK ND
  have KL := Lib.hid (show K.length ≤ 90000 by
    rw [← hK]; have := N1.out; have := N2.out
    have : cb.toList.length ≤ 1 := by cases cb <;> simp
    simp only [List.length_append]; omega)
  have KK := Lib.hid hK
  clear hK
  obtain ⟨ao, cap, rfl⟩ := owns_slice hown
  have RW := Lib.hid hown
  have BB := Lib.hid hB
  have F1 := Lib.hid (H.out.fam.below hB)
  obtain ⟨n, hn⟩ : ∃ n, K.length = n := ⟨_, rfl⟩
  rw [hn]
  have HN := Lib.hid hn
  have b1 : (n : Int) ≤ 90000 := by have := KL.out; omega
  clear hown hB hn
  go_wp2_with fail
  go_loopw [9] (fun i wr => ∃ (k : Nat) (F' : Nat → Option Ck), k ≤ n ∧ i = .int .i64 k ∧ Fam B wr F' ∧ DropTo F' K M.kept t k ∧ (∀ b l, b ∉ K → Has F b l → Has F' b l) ∧ KeepP B w1 wr) (fun i _ => n - (intOf i).toNat)
  case atStart => exact ⟨0, F, by omega, rfl, F1.out, fun j hj => by rw [if_neg (by omega)]; exact HK.out.at j hj, fun _ _ _ h => h, KeepP.refl _ _⟩
  case round =>
    obtain ⟨k, F', hk, rfl, hfam, hdr, hout, hkp⟩ := hrel
    have FF := Lib.hid hfam
    have DR := Lib.hid hdr
    have OU := Lib.hid hout
    have KP := Lib.hid hkp
    clear hfam hdr hout hkp
    by_cases hlt : k < n
    · have hlt' : (k : Int) < n := by omega
      obtain ⟨_, _, e, _, hc⟩ := PSrc.keep RW.out (KP.out.1 _ (by decide) (by decide))
      have hkK : k < K.length := by have := HN.out; omega
      obtain ⟨g, z, rfl, hc2⟩ := hc (by omega)
      rw [HN.out] at e
      cases e
      have c0 := hc2 k hkK
      have hbk := DR.out k hkK
      rw [if_neg (by omega)] at hbk
      have HB := Lib.hid hbk
      have HKK := Lib.hid hkK
      obtain ⟨bk, hbk'⟩ : ∃ b, K.getD k 0 = b := ⟨_, rfl⟩
      obtain ⟨lk, hlk'⟩ : ∃ l, M.kept.getD k [] = l := ⟨_, rfl⟩
      rw [hbk'] at c0 HB
      rw [hlk'] at HB
      have LL := Lib.hid hlk'
      have BK := Lib.hid hbk'
      clear hc hc2 hkK hbk hbk' hlk'
      go_wp2_with fail
      refine (fam_drop FF.out bk lk HB.out t).mono ?_
      rintro r w3 ⟨v3, F3, rfl, hF3, hb3, hR3, hK3⟩
      have P3 := Lib.hid (show Fam B w3 F3 ∧ Has F3 bk (drop0 t lk) ∧ Rest F' F3 bk ∧ KeepP B wr w3 from ⟨hF3, hb3, hR3, hK3⟩)
      clear hF3 hb3 hR3 hK3
      go_wp2_with fail
      go_roundw
      case rel => exact ⟨k + 1, F3, by omega, by go_num, P3.out.1, fun j hj => by
          by_cases hjk : j = k
          · subst hjk
            rw [if_pos (by omega), BK.out, LL.out]; exact P3.out.2.1
          · have h0 := (DR.out j hj).rest P3.out.2.2.1 (by rw [← BK.out]; exact nodup_getD ND.out hj HKK.out hjk)
            by_cases hlt2 : j < k
            · rw [if_pos hlt2] at h0; rw [if_pos (by omega)]; exact h0
            · rw [if_neg hlt2] at h0; rw [if_neg (by omega)]; exact h0, fun b l hb hh => (OU.out b l hb hh).rest P3.out.2.2.1 (fun e => hb (by
          rw [e, ← BK.out]
          simp only [List.getD, List.getElem?_eq_getElem HKK.out, Option.getD_some]
          exact List.getElem_mem _)), KP.out.trans P3.out.2.2.2⟩
      case measure => simp [intOf] <;> omega
    · have hkn : k = n := by omega
      have hge : (n : Int) ≤ k := by omega
      have hKn : K.length = k := by have := HN.out; omega
      have DD := Lib.hid (show Hass F' K (M.drop t).kept by
        have e : (M.drop t).kept = M.kept.map (drop0 t) := by
          unfold Md.kept Md.drop
          simp only [List.map_append]
          cases M.C <;> rfl
        rw [e]
        refine Hass.of_at (by rw [List.length_map]; exact HK.out.len) (fun j hj => ?_)
        have := DR.out j hj
        rw [if_pos (by omega)] at this
        rw [getD_map_drop t _ j (by rw [← HK.out.len]; exact hj)]
        exact this)
      clear hlt hkn hKn
      go_wp2_with fail
      go_end0
      have D := DD.out
      rw [← KK.out] at D
      unfold Md.kept at D
      have l1 : sb.length = (M.drop t).S.length := by rw [H.out.hS.len]; simp [Md.drop]
      have l2 : rb.length = (M.drop t).R.length := by rw [H.out.hR.len]; simp [Md.drop]
      have D1 := Hass.split (by rw [List.length_append, List.length_append, l1, l2]) D
      have D2 := Hass.split l1 D1.1
      have A1 := H.out.below BB.out
      exact ⟨F', rfl, ⟨(KP.out.1 _ (by decide) (by decide) _ _ _ A1.blk).trans A1.blk, ownsRow_keep A1.rowS (KP.out.1 _ (by decide) (by decide)), ownsRow_keep A1.rowR (KP.out.1 _ (by decide) (by decide)), A1.apart, FF.out, D2.1, D2.2, D1.2, A1.nodup, A1.low, Nat.le_trans A1.bw (KP.out.size A1.bw)⟩, fun b l hb => OU.out b l (by rw [← KK.out]; exact hb), (KeepP.below H.out.bw BB.out).trans KP.out⟩

end Go.Proofs.Ytlkfhobacgnckaa

