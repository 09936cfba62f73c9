
/-
  Package deed: taker's take and truth.
-/
import Derived.Test.YtpefjcmaggimhaaDeeB
import Derived.Test.YtpefjcmaggimhaaGr
namespace Go.Proofs.Ytpefjcmaggimhaa
open Go.RowKit
set_option linter.unusedVariables false
set_option linter.unusedSimpArgs false
set_option maxRecDepth 100000

/-- What a taker holds. -/
structure Tk where
  l : List UInt8
  bad : Bool
def Tk.next (t : Tk) : Tk := if takE t.l = 0 then ⟨takR t.l, t.bad⟩ else ⟨t.l, true⟩
def Tk.nextT (t : Tk) : Tk := ⟨t.next.l, t.next.bad || decide (1 < takV t.l)⟩
def TkAt (t : Tk) (b : Nat) (w : World) : Prop := w.heap[b]? = some (Obj.cells #[bs t.l, .bool t.bad] 130 (0, 0))
theorem TkAt.below {t : Tk} {b : Nat} {w w' : World} (h : TkAt t b w) (hB : Below w.heap.size w w') : TkAt t b w' := (hB.block _ (lt_of_heap h)).trans h
theorem takR_len (l : List UInt8) : (takR l).length ≤ l.length := by
  unfold takR
  split
  · simp
  · simp
theorem Tk.next_len (t : Tk) : t.next.l.length ≤ t.l.length := by
  unfold Tk.next
  split
  · exact takR_len _
  · exact Nat.le_refl _
theorem takE_or (l : List UInt8) : takE l = 0 ∨ takE l = 4 := by
  unfold takE
  split
  · exact .inl rfl
  · exact .inr rfl
theorem takV_no {l : List UInt8} (h : takE l = 4) : takV l = 0 := by
  unfold takE at h
  unfold takV
  split at h
  · omega
  · rename_i hn; rw [hn]
theorem takV_bd (l : List UInt8) : 0 ≤ takV l ∧ takV l ≤ 1099511627776 := by
  unfold takV
  split
  · rename_i n z h
    have := (tak_some h).1
    unfold mostN at this
    omega
  · omega
theorem two_cells {w : World} {b : Nat} {x0 x1 : Value} {t : TypeId} (h : w.heap[b]? = some (Obj.cells #[x0, x1] t (0, 0))) :
    w.cell? ⟨b, 0, none⟩ = some x0 ∧ w.cell? ⟨b, 1, none⟩ = some x1 ∧ ∀ o, w.frozen? ⟨b, o, none⟩ = false := by
  refine ⟨?_, ?_, fun o => by simp [World.frozen?, h]⟩ <;> (simp only [World.cell?, h]; rfl)
theorem tk_set0 {l l' : List UInt8} {bad : Bool} {b : Nat} {w : World} (h : TkAt ⟨l, bad⟩ b w) : TkAt ⟨l', bad⟩ b (w.setCell ⟨b, 0, none⟩ (bs l')) := by
  unfold TkAt at h ⊢
  rw [heap_setCell_same w b 0 _ _ _ h]
  rfl
theorem tk_set1 {l : List UInt8} {bad bad' : Bool} {b : Nat} {w : World} (h : TkAt ⟨l, bad⟩ b w) : TkAt ⟨l, bad'⟩ b (w.setCell ⟨b, 1, none⟩ (.bool bad')) := by
  unfold TkAt at h ⊢
  rw [heap_setCell_same w b 1 _ _ _ h]
  rfl

def TakePost (t : Tk) (b : Nat) (w : World) (r : Ending) (w' : World) : Prop := r = .returned (.int .i64 (takV t.l)) ∧ TkAt t.next b w' ∧ w.grownBy w' (some b) ∧ w'.heap.size = w.heap.size
theorem ttake_any (t : Tk) (b : Nat) (w : World) (h : TkAt t b w) (hl : t.l.length ≤ 140737488351232) : Calls Try.prog 76 #[.pointer (some ⟨b, 0, none⟩)] w (TakePost t b w) := by
  obtain ⟨l, bad⟩ := t
  have T := fun w => Lib.hid (take_any l w hl)
  have H := Lib.hid h
  obtain ⟨z0, z1, zf⟩ := two_cells h
  dsimp only at z0 z1
  have hor := takE_or l
  have NO := Lib.hid (fun h => takV_no (l := l) h)
  obtain ⟨v, hv⟩ : ∃ v, takV l = v := ⟨_, rfl⟩
  obtain ⟨q, hq⟩ : ∃ q, takR l = q := ⟨_, rfl⟩
  obtain ⟨e, he⟩ : ∃ q, takE l = q := ⟨_, rfl⟩
  rw [hv, hq, he] at T
  rw [he] at hor NO
  rw [hv] at NO
  have N := Lib.hid (show (Tk.next ⟨l, bad⟩) = if e = 0 then ⟨q, bad⟩ else ⟨l, true⟩ by unfold Tk.next; dsimp only; rw [he, hq])
  have V := Lib.hid hv
  obtain ⟨qs, hqs⟩ : ∃ s, bs q = .string s := ⟨_, rfl⟩
  rw [hqs] at T
  have QS := Lib.hid hqs
  clear h hv hq he hqs
  rcases hor with rfl | rfl
  · go_enter Try.func76, Try.ntmps76
    go_wp2_with fail
    refine ((T _).out).mono ?_
    rintro r w1 ⟨rfl, n, rfl⟩
    have zg : ∀ o, (w.drewN n).frozen? ⟨b, o, none⟩ = false := zf
    go_wp2_with fail
    go_ret
    refine ⟨by dsimp only; rw [V.out]; rfl, ?_, (gr_drewN w n _).trans (gr_set _ _ _), by simp [World.drewN]⟩
    rw [N.out, if_pos (by trivial), ← QS.out]
    exact tk_set0 (w := w.drewN n) H.out
  · have V0 := NO.out rfl
    subst V0
    go_enter Try.func76, Try.ntmps76
    go_wp2_with fail
    refine ((T _).out).mono ?_
    rintro r w1 ⟨rfl, n, rfl⟩
    have zg : ∀ o, (w.drewN n).frozen? ⟨b, o, none⟩ = false := zf
    go_wp2_with fail
    go_ret
    refine ⟨by dsimp only; rw [V.out]; rfl, ?_, (gr_drewN w n _).trans (gr_set _ _ _), by simp [World.drewN]⟩
    rw [N.out, if_neg (by decide)]
    exact tk_set1 (w := w.drewN n) H.out

def TruthPost (t : Tk) (b : Nat) (w : World) (r : Ending) (w' : World) : Prop := r = .returned (.bool (takV t.l == 1)) ∧ TkAt t.nextT b w' ∧ w.grownBy w' (some b) ∧ w'.heap.size = w.heap.size
theorem truth_any (t : Tk) (b : Nat) (w : World) (h : TkAt t b w) (hl : t.l.length ≤ 140737488351232) : Calls Try.prog 77 #[.pointer (some ⟨b, 0, none⟩)] w (TruthPost t b w) := by
  have T := Lib.hid (ttake_any t b w h hl)
  have NT := Lib.hid (show t.nextT = ⟨t.next.l, t.next.bad || decide (1 < takV t.l)⟩ from rfl)
  unfold TakePost at T
  obtain ⟨⟨l1, b1⟩, hn⟩ : ∃ t', t.next = t' := ⟨_, rfl⟩
  obtain ⟨v, hv⟩ : ∃ v, takV t.l = v := ⟨_, rfl⟩
  rw [hn, hv] at T NT
  dsimp only at NT
  have V := Lib.hid (show (takV t.l == 1) = (v == 1) by rw [hv])
  clear h hl hn hv
  go_enter Try.func77, Try.ntmps77
  go_wp2_with fail
  refine T.out.mono ?_
  rintro r w1 ⟨rfl, h1, g1, S1⟩
  have H1 := Lib.hid h1
  obtain ⟨z0, z1, zf⟩ := two_cells h1
  dsimp only at z0 z1
  clear h1
  cases b1 with
  | true =>
    go_wp2_with fail
    go_ret
    refine ⟨by dsimp only; rw [V.out]; rfl, ?_, g1.trans (gr_set _ _ _), by simp [S1]⟩
    rw [NT.out]
    exact tk_set1 H1.out
  | false =>
    by_cases hb : 1 < v
    · have d : decide (1 < v) = true := decide_eq_true hb
      go_wp2_with fail
      go_ret
      refine ⟨by dsimp only; rw [V.out]; rfl, ?_, g1.trans (gr_set _ _ _), by simp [S1]⟩
      rw [NT.out, d]
      exact tk_set1 H1.out
    · have d : decide (1 < v) = false := decide_eq_false hb
      go_wp2_with fail
      go_ret
      refine ⟨by dsimp only; rw [V.out]; rfl, ?_, g1.trans (gr_set _ _ _), by simp [S1]⟩
      rw [NT.out, d]
      exact tk_set1 H1.out
end Go.Proofs.Ytpefjcmaggimhaa

