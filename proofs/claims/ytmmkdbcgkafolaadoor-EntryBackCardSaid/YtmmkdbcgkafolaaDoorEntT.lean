
/-
  All events' bytes: entry.All and staitheref12.All.
-/
import Derived.Test.YtmmkdbcgkafolaaDoorEntS
import Derived.Test.YtmmkdbcgkafolaaDoorEntE
import Derived.Test.YtmmkdbcgkafolaaDoorEntG
import Derived.Test.YtmmkdbcgkafolaaDoorBldS
namespace Go.Proofs.YtmmkdbcgkafolaaDoor
open Go.RowKit
set_option linter.unusedVariables false
set_option linter.unusedSimpArgs false
set_option maxRecDepth 100000

def firstBad : List Ev → Int
  | [] => 0
  | e :: es => if chk e = 0 then firstBad es else chk e
def allF (es : List Ev) : Int := if 2000 < es.length then 2 else firstBad es
def flatE (es : List Ev) : List UInt8 := es.flatMap encS
def allS (es : List Ev) : List UInt8 := if allF es = 0 then flatE es else []
theorem firstBad_bad : ∀ (es : List Ev) (k : Nat), k < es.length → (∀ j, j < k → chk (es.getD j default) = 0) → chk (es.getD k default) ≠ 0 → firstBad es = chk (es.getD k default)
  | [], k, h, _, _ => by simp at h
  | e :: es, 0, h, h0, h1 => by
    simp only [List.getD_cons_zero] at h1 ⊢
    simp [firstBad, h1]
  | e :: es, k + 1, h, h0, h1 => by
    have he : chk e = 0 := by simpa using h0 0 (by omega)
    simp only [List.getD_cons_succ] at h1 ⊢
    rw [firstBad, if_pos he]
    exact firstBad_bad es k (by simpa using h) (fun j hj => by simpa using h0 (j + 1) (by omega)) h1
theorem firstBad_good : ∀ (es : List Ev), (∀ j, j < es.length → chk (es.getD j default) = 0) → firstBad es = 0
  | [], _ => rfl
  | e :: es, h => by
    have he : chk e = 0 := by simpa using h 0 (by simp)
    rw [firstBad, if_pos he]
    exact firstBad_good es fun j hj => by simpa using h (j + 1) (by simpa using hj)
theorem flatE_len (es : List Ev) : (flatE es).length ≤ 49 * es.length := by
  induction es with
  | nil => simp [flatE]
  | cons a l ih =>
    have := encS_len a
    simp only [flatE, List.flatMap_cons, List.length_append, List.length_cons] at ih ⊢
    omega
theorem flatE_snoc (es : List Ev) (k : Nat) (h : k < es.length) : flatE (es.take (k + 1)) = flatE (es.take k) ++ encS (es.getD k default) := by
  have e : es.take (k + 1) = es.take k ++ [es.getD k default] := by rw [List.take_add_one]; simp [List.getD, h]
  rw [flatE, e, List.flatMap_append]
  simp [flatE]
theorem putS_ne (k : Nat) (h : k ≤ 1000000) : putS k ≠ [] := by
  have hk : okN (k : Int) = true := by simp [okN]; omega
  unfold putS
  rw [if_pos hk]
  intro e
  have := congrArg List.length e
  rw [length_enc] at this
  unfold sizeN at this
  split at this
  · simp at this
  · simp at this
theorem encS_ne {e : Ev} (h : chk e = 0) : encS e ≠ [] := by
  intro h0
  have h1 : accS e 5 ++ putS (marksI e) = [] := by rw [← h0]; exact (if_pos h).symm
  have h2 := congrArg List.length h1
  have h3 : putS e.kind ≠ [] := by
    obtain ⟨⟨k0, k1⟩, _⟩ := chk_zero h
    obtain ⟨n, hn⟩ := Int.eq_ofNat_of_zero_le (show 0 ≤ e.kind by omega)
    rw [hn]
    exact putS_ne n (by omega)
  have h4 : 0 < (putS e.kind).length := List.length_pos_iff.2 h3
  simp only [accS, List.length_append, List.length_nil] at h2
  omega
theorem flatE_ne {es : List Ev} (h0 : 0 < es.length) (h : ∀ j, j < es.length → chk (es.getD j default) = 0) : flatE es ≠ [] := by
  match es, h0 with
  | e :: es, _ =>
    intro e0
    have := h 0 (by simp)
    simp only [List.getD_cons_zero] at this
    have hne := encS_ne this
    simp [flatE] at e0
    exact hne e0.1

set_option maxHeartbeats 2000000 in
theorem all_any (v : Value) (es : List Ev) (w : World) (hg : Glob w) (hs : EvsOf w v es) :
    Calls Tryd.prog 17 #[v] w fun r w' => r = .returned (.tuple #[bs (allS es), .int .i64 (allF es)]) ∧ Below w.heap.size w w' := by
  obtain ⟨ao, cap, rfl, hc⟩ := hs
  have HC := Lib.hid hc
  have G := Lib.hid hg
  clear hc hg
  by_cases hbig : 2000 < es.length
  · have hbig' : (2000 : Int) < es.length := by omega
    have Q := Lib.hid (show allS es = [] ∧ allF es = 2 by simp [allS, allF, hbig])
    clear hbig
    go_enter Tryd.func17, Tryd.ntmps17
    go_wp2_with fail
    go_ret2
    exact ⟨by rw [Q.out.1, Q.out.2]; rfl, Below.refl _ _⟩
  · have hsm : ¬ (2000 : Int) < es.length := by omega
    have BN := bld_new w w.heap.size (Nat.le_refl _)
    go_enter Tryd.func17, Tryd.ntmps17
    go_wp2_with fail
    go_loopw [14] (fun i wr => ∃ k : Nat, k ≤ es.length ∧ i = .int .i64 k ∧ Lib.IsBuilder 76 5 w.heap.size w.heap.size (Lib.byteCells (flatE (es.take k))) wr ∧ (k = 0 → wr.heap[w.heap.size]? = some (.cells #[.pointer none, .slice none 0 0] 76 (0, 0))) ∧ (∀ j, j < k → chk (es.getD j default) = 0) ∧ Below w.heap.size w wr) (fun i _ => es.length - (intOf i).toNat)
    case atStart => exact ⟨0, by omega, rfl, by simpa [flatE] using BN, fun _ => heap_alloc_new w _, fun j hj => by omega, (Below.refl _ _).alloc (Nat.le_refl _) _⟩
    case round =>
      obtain ⟨k, hk, rfl, hi, hz, hok, hb⟩ := hrel
      have K := Lib.hid hok
      have HB := Lib.hid hb
      have HI := Lib.hid hi
      have HZ := Lib.hid hz
      clear hok hb hi hz BN
      by_cases hlt : k < es.length
      · have hlt' : (k : Int) < (es.length : Int) := by omega
        obtain ⟨g, z, rfl, hcc⟩ := HC.out (by omega)
        obtain ⟨c0, c1, c2, c3, c4, c5, c6, c7⟩ := (hcc k hlt).below (Nat.le_refl _) HB.out
        clear hcc
        have F := Lib.hid (flatE_snoc es k hlt)
        have FL := flatE_len (es.take k)
        have TL : (es.take k).length ≤ 2000 := by simp; omega
        have BAD := Lib.hid (firstBad_bad es k hlt K.out)
        obtain ⟨e, he⟩ : ∃ e, es.getD k default = e := ⟨_, rfl⟩
        rw [he] at c0 c1 c2 c3 c4 c5 c6 c7 F BAD
        have U := Lib.hid he
        have EL := encS_len e
        have P := fun w h => Lib.hid (encode_any e w h)
        obtain ⟨y, hy⟩ : ∃ y, encS e = y := ⟨_, rfl⟩
        obtain ⟨c, hce⟩ : ∃ c, chk e = c := ⟨_, rfl⟩
        rw [hy] at F EL P
        rw [hce] at BAD P
        have HCE := Lib.hid hce
        unfold evV at P
        clear he hy hce
        go_wp2_with fail
        refine ((P _ (G.out.below (HB.out.alloc HB.out.size _))).out).mono ?_
        rintro r w3 ⟨rfl, B3⟩
        have H3 := HB.out.trans (((Below.refl _ _).alloc (Nat.le_refl _) _).mono HB.out.size |>.trans (B3.mono (by have := HB.out.size; simp; omega)))
        have I3 := bld_below (bld_below HI.out ((Below.refl wr.heap.size wr).alloc (Nat.le_refl _) _)) B3
        clear B3 c0 c1 c2 c3 c4 c5 c6 c7
        by_cases hc0 : c = 0
        · subst hc0
          go_wp2_with fail
          refine (write_bs w.heap.size w.heap.size _ y w3 I3 (by omega) H3.size).mono ?_
          rintro r w4 ⟨⟨q4, rfl⟩, I4, B4⟩
          have H4 := Lib.hid (H3.trans B4)
          have J4 := Lib.hid I4
          clear I3 H3 B4 I4
          go_wp2_with fail
          refine ⟨⟨k + 1, by omega, by go_num, by rw [F.out]; exact J4.out, fun h0 => by omega, fun j hj => ?_, H4.out⟩, by simp [intOf] <;> omega⟩
          by_cases hjk : j = k
          · subst hjk; rw [U.out]; exact HCE.out
          · exact K.out j (by omega)
        · have q : (c == 0) = false := by simpa using hc0
          have QQ := BAD.out hc0
          have Q := Lib.hid (show allS es = [] ∧ allF es = c by
            have : allF es = c := by unfold allF; rw [if_neg (by omega), QQ]
            exact ⟨by unfold allS; rw [if_neg (by omega)], this⟩)
          have H4 := Lib.hid H3
          clear hc0 QQ I3 H3
          go_wp2_with fail
          go_ret2
          exact ⟨by rw [Q.out.1, Q.out.2]; rfl, H4.out⟩
      · have hkl : k = es.length := by omega
        have hge : (es.length : Int) ≤ k := by omega
        have G0 := firstBad_good es (fun j hj => K.out j (by omega))
        have A0 : allF es = 0 := by unfold allF; rw [if_neg (by omega)]; exact G0
        have Q := Lib.hid (show allS es = flatE (es.take k) ∧ allF es = 0 from ⟨by unfold allS; rw [if_pos A0, hkl, List.take_length], A0⟩)
        by_cases h0 : k = 0
        · have HZ0 := HZ.out h0
          have E0 := Lib.hid (show flatE (es.take k) = [] by rw [h0]; rfl)
          clear hkl hlt G0 A0 h0
          go_wp2_with fail
          refine (string_nil w.heap.size wr HZ0).mono ?_
          rintro r w5 ⟨rfl, B5⟩
          have H5 := Lib.hid (HB.out.trans (B5.mono HB.out.size))
          clear B5 HZ0
          go_wp2_with fail
          go_ret2
          exact ⟨by rw [Q.out.1, Q.out.2, E0.out]; rfl, H5.out⟩
        · have NE := flatE_ne (es := es) (by omega) (fun j hj => K.out j (by omega))
          have NE' : flatE (es.take k) ≠ [] := by rw [hkl, List.take_length]; exact NE
          clear hkl hlt G0 A0 h0 NE
          have HI' := HI.out
          go_wp2_with fail
          refine (string_any w.heap.size w.heap.size _ wr HI' NE').mono ?_
          rintro r w5 ⟨rfl, B5⟩
          have H5 := Lib.hid (HB.out.trans B5)
          clear B5 HI' NE'
          go_wp2_with fail
          go_ret2
          exact ⟨by rw [Q.out.1, Q.out.2]; rfl, H5.out⟩

set_option maxHeartbeats 2000000 in
theorem rall_any (v : Value) (es : List Ev) (w : World) (hs : EvsOf w v es) :
    Calls Tryd.prog 18 #[v] w fun r w' => r = .returned (.tuple #[bs (allS es), .int .i64 (allF es)]) ∧ Below w.heap.size w w' := by
  obtain ⟨ao, cap, rfl, hc⟩ := hs
  have HC := Lib.hid hc
  clear hc
  by_cases hbig : 2000 < es.length
  · have hbig' : (2000 : Int) < es.length := by omega
    have Q := Lib.hid (show allS es = [] ∧ allF es = 2 by simp [allS, allF, hbig])
    clear hbig
    go_enter Tryd.func18, Tryd.ntmps18
    go_wp2_with fail
    go_ret2
    exact ⟨by rw [Q.out.1, Q.out.2]; rfl, Below.refl _ _⟩
  · have hsm : ¬ (2000 : Int) < es.length := by omega
    go_enter Tryd.func18, Tryd.ntmps18
    go_wp2_with fail
    go_loopw [4, 14] (fun s i wr => ∃ k : Nat, k ≤ es.length ∧ i = .int .i64 k ∧ s = bs (flatE (es.take k)) ∧ (∀ j, j < k → chk (es.getD j default) = 0) ∧ Below w.heap.size w wr) (fun _ i _ => es.length - (intOf i).toNat)
    case atStart => exact ⟨0, by omega, rfl, rfl, fun j hj => by omega, Below.refl _ _⟩
    case round =>
      obtain ⟨k, hk, rfl, rfl, hok, hb⟩ := hrel
      have K := Lib.hid hok
      have HB := Lib.hid hb
      clear hok hb
      by_cases hlt : k < es.length
      · have hlt' : (k : Int) < (es.length : Int) := by omega
        obtain ⟨g, z, rfl, hcc⟩ := HC.out (by omega)
        obtain ⟨c0, c1, c2, c3, c4, c5, c6, c7⟩ := (hcc k hlt).below (Nat.le_refl _) HB.out
        clear hcc
        have F := Lib.hid (flatE_snoc es k hlt)
        have FL := flatE_len (es.take k)
        have TL : (es.take k).length ≤ 2000 := by simp; omega
        have BAD := Lib.hid (firstBad_bad es k hlt K.out)
        obtain ⟨e, he⟩ : ∃ e, es.getD k default = e := ⟨_, rfl⟩
        rw [he] at c0 c1 c2 c3 c4 c5 c6 c7 F BAD
        have U := Lib.hid he
        have EL := encS_len e
        have P := fun w => Lib.hid (rencode_any e w)
        obtain ⟨y, hy⟩ : ∃ y, encS e = y := ⟨_, rfl⟩
        obtain ⟨c, hce⟩ : ∃ c, chk e = c := ⟨_, rfl⟩
        obtain ⟨x, hx⟩ : ∃ x, flatE (es.take k) = x := ⟨_, rfl⟩
        rw [hy] at F EL P
        rw [hce] at BAD P
        rw [hx] at F FL ⊢
        have HX := Lib.hid hx
        have HCE := Lib.hid hce
        unfold evV at P
        have hxy : ¬ 9223372036854775807 < x.length + y.length := by omega
        clear he hy hce hx
        go_wp2_with fail
        refine ((P _).out).mono ?_
        rintro r w3 ⟨rfl, B3⟩
        have H3 := HB.out.trans (((Below.refl _ _).alloc (Nat.le_refl _) _).mono HB.out.size |>.trans (B3.mono (by have := HB.out.size; simp; omega)))
        clear B3 c0 c1 c2 c3 c4 c5 c6 c7
        have H4 := Lib.hid H3
        clear H3
        by_cases hc0 : c = 0
        · subst hc0
          go_wp2_with fail
          refine ⟨⟨k + 1, by omega, by go_num, by rw [F.out], fun j hj => ?_, H4.out⟩, by simp [intOf] <;> omega⟩
          by_cases hjk : j = k
          · subst hjk; rw [U.out]; exact HCE.out
          · exact K.out j (by omega)
        · have q : (c == 0) = false := by simpa using hc0
          have QQ := BAD.out hc0
          have Q := Lib.hid (show allS es = [] ∧ allF es = c by
            have : allF es = c := by unfold allF; rw [if_neg (by omega), QQ]
            exact ⟨by unfold allS; rw [if_neg (by omega)], this⟩)
          clear hc0 QQ
          go_wp2_with fail
          go_ret2
          exact ⟨by rw [Q.out.1, Q.out.2]; rfl, H4.out⟩
      · have hkl : k = es.length := by omega
        have hge : (es.length : Int) ≤ k := by omega
        have G0 := firstBad_good es (fun j hj => K.out j (by omega))
        have A0 : allF es = 0 := by unfold allF; rw [if_neg (by omega)]; exact G0
        have Q := Lib.hid (show allS es = flatE (es.take k) ∧ allF es = 0 from ⟨by unfold allS; rw [if_pos A0, hkl, List.take_length], A0⟩)
        clear hkl hlt G0 A0
        go_wp2_with fail
        go_ret2
        exact ⟨by rw [Q.out.1, Q.out.2]; rfl, HB.out⟩
end Go.Proofs.YtmmkdbcgkafolaaDoor

