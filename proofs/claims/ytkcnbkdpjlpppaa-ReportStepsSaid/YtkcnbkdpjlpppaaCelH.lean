
/-
  Package cell: Write.
-/
import Derived.Test.YtkcnbkdpjlpppaaCelG
namespace Go.Proofs.Ytkcnbkdpjlpppaa
open Go.RowKit
set_option linter.unusedVariables false
set_option linter.unusedSimpArgs false
set_option maxRecDepth 100000

theorem cwrite_bad (v : Value) (ac : Option Addr) (e : Int) (w : World) (h : U64 e) (hk : okE e = false) : Calls Try.prog 24 #[v, .int .u64 e, .pointer ac] w fun r w' => r = .returned (.tuple #[.int .i64 0, .int .i64 1]) ∧ Below w.heap.size w w' := by
  obtain ⟨W, hW⟩ : ∃ W, (w.alloc (.cells #[.int .u64 e] 25)).alloc (.cells #[.pointer ac] 52) = W := ⟨_, rfl⟩
  have TB := Lib.hid (two_boxes hW)
  have HW := Lib.hid hW
  clear hW
  go_enter Try.func24, Try.ntmps24
  go_wp2_with fail
  rw [HW.out]
  refine (wrong_bad v e W h hk).mono ?_
  rintro r w' ⟨rfl, rfl⟩
  go_wp2_with fail
  go_ret2
  exact ⟨rfl, TB.out.1⟩
theorem cwrite_nil (ac : Option Addr) (e : Int) (w : World) (h : U64 e) (hk : okE e = true) : Calls Try.prog 24 #[.pointer none, .int .u64 e, .pointer ac] w fun r w' => r = .returned (.tuple #[.int .i64 0, .int .i64 7]) ∧ Below w.heap.size w w' := by
  obtain ⟨W, hW⟩ : ∃ W, (w.alloc (.cells #[.int .u64 e] 25)).alloc (.cells #[.pointer ac] 52) = W := ⟨_, rfl⟩
  have TB := Lib.hid (two_boxes hW)
  have HW := Lib.hid hW
  clear hW
  go_enter Try.func24, Try.ntmps24
  go_wp2_with fail
  rw [HW.out]
  refine (wrong_nil e W h hk).mono ?_
  rintro r w' ⟨rfl, rfl⟩
  go_wp2_with fail
  go_ret2
  exact ⟨rfl, TB.out.1⟩

theorem turned_drew (S : Nat → Prop) (w : World) : Turned S w w.drew := ⟨rfl, rfl, rfl, Nat.le_refl _, fun _ _ _ => rfl⟩
def writeV (x : Int) (l : List Int) (tl : Bool) (e : Int) (f : Int → Int) : Int := if knownB x e f then (if tl || l.any (fun y => !knownB y e f) then 2 else 0) else 1
def CWritePost (B b : Nat) (x : Int) (l : List Int) (tl : Bool) (e : Int) (f : Int → Int) (w : World) (r : Ending) (w' : World) : Prop :=
  r = .returned (.tuple #[.int .i64 (writeV x l tl e f), .int .i64 0]) ∧ Turned (fun i => i = b) w w' ∧ Cl B w' b (.slice none 0 0) e [] false
theorem cl_fresh {B : Nat} {w : World} {b : Nat} {v : Value} {x : Int} {l : List Int} {tl : Bool} (e : Int) (h : Cl B w b v x l tl) :
    Cl B (((w.setCell ⟨b, 0, none⟩ (.int .u64 e)).setCell ⟨b, 1, none⟩ (.slice none 0 0)).setCell ⟨b, 2, none⟩ (.bool false)) b (.slice none 0 0) e [] false ∧ Turned (fun i => i = b) w (((w.setCell ⟨b, 0, none⟩ (.int .u64 e)).setCell ⟨b, 1, none⟩ (.slice none 0 0)).setCell ⟨b, 2, none⟩ (.bool false)) := by
  have h0 : (w.setCell ⟨b, 0, none⟩ (.int .u64 e)).heap[b]? = _ := heap_setCell_same w b 0 _ _ _ h.blk
  have h1 : (World.setCell _ ⟨b, 1, none⟩ (.slice none 0 0)).heap[b]? = _ := heap_setCell_same _ b 1 _ _ _ h0
  have h2 := heap_setCell_same _ b 2 _ _ (.bool false) h1
  refine ⟨⟨h2, h.low, ⟨rfl, .inl ⟨rfl, rfl⟩⟩⟩, ((Turned.of_setCell ⟨b, 0, none⟩ _).trans (Turned.of_setCell ⟨b, 1, none⟩ _) (fun _ _ h => h) (fun _ _ h => h)).trans (Turned.of_setCell ⟨b, 2, none⟩ _) (fun _ _ h => h) (fun _ _ h => h)⟩

set_option maxHeartbeats 2000000 in
theorem cwrite_any (B b : Nat) (v : Value) (x : Int) (l : List Int) (tl : Bool) (e : Int) (cv : Value) (f : Int → Int) (w : World) (h : Cl B w b v x l tl) (hk : OkC x l) (he : okE e = true) (hc : CkN b w cv f) :
    Calls Try.prog 24 #[.pointer (some ⟨b, 0, none⟩), .int .u64 e, cv] w (CWritePost B b x l tl e f w) := by
  obtain ⟨ac, rfl⟩ : ∃ ac, cv = .pointer ac := by
    rcases hc w (Turned.refl _ _) with ⟨h, _⟩ | ⟨_, _, h, _⟩
    · exact ⟨_, h⟩
    · exact ⟨_, h⟩
  obtain ⟨W, hW⟩ : ∃ W, (w.alloc (.cells #[.int .u64 e] 25)).alloc (.cells #[.pointer ac] 52) = W := ⟨_, rfl⟩
  obtain ⟨hBW, hq1, hq2, hsz⟩ := two_boxes hW
  have hbl := h.lt
  have hh := h.below hBW
  have H := Lib.hid hh
  have CK := Lib.hid (show ∀ w', Turned (fun i => i = b) W w' → CkV w' (.pointer ac) f from fun w' ht => hc w' ((turned_below hBW).trans ht (fun _ _ h => h) (fun _ _ h => h)))
  have UE := Lib.hid (okE_u64 he)
  have OC := Lib.hid hk
  have SZ := Lib.hid hsz
  have BW := Lib.hid hBW
  have HE := Lib.hid he
  obtain ⟨c0, c1, c2⟩ := hh.cells
  have ff := hh.f
  have f0 := ff 0
  have f1 := ff 1
  have f2 := ff 2
  have HW := Lib.hid hW
  have hN : l.length ≤ 1000 := Nat.le_trans hk.len (by decide)
  have KN := Lib.hid (known_any x e (.pointer ac) f W.drew hk.u (okE_u64 he) (hc W.drew ((turned_below hBW).trans ⟨rfl, rfl, rfl, Nat.le_refl _, fun _ _ _ => rfl⟩ (fun _ _ h => h) (fun _ _ h => h))))
  obtain ⟨ao, cap, rfl, hno⟩ := hh.shape
  have EPS := Lib.hid hh.eps
  have CN := Lib.hid (contains_write l (fun y => !knownB y e f) (fun _ w' => w' = W.drew) w.heap.size (w.heap.size + 1) ao l.length cap W.drew rfl hN
    (fun j w' hw' hp => by
      subst hw'
      obtain ⟨ao', cap', ee, _, hcc⟩ := EPS.out
      cases ee
      obtain ⟨g, rfl, h1⟩ := hcc hp
      exact ⟨g, rfl, h1⟩)
    (fun j w' hj hw' => by
      subst hw'
      exact (write1_any (l.getD j 0) e _ _ (.pointer ac) f W.drew (okE_u64 (u64_at hk.ok hj)) (okE_u64 he) (hc W.drew ((turned_below hBW).trans ⟨rfl, rfl, rfl, Nat.le_refl _, fun _ _ _ => rfl⟩ (fun _ _ h => h) (fun _ _ h => h))) hq1 hq2).mono (fun r w'' hh => ⟨hh.1, hh.2.symm⟩)) rfl)
  have T := Lib.hid (show ∀ z, writeV x l tl e f = z → CWritePost B b x l tl e f w (.returned (.tuple #[.int .i64 z, .int .i64 0])) (((W.drew.setCell ⟨b, 0, none⟩ (.int .u64 e)).setCell ⟨b, 1, none⟩ (.slice none 0 0)).setCell ⟨b, 2, none⟩ (.bool false)) from fun z hz => by
    have hd : Cl B W.drew b (.slice ao l.length cap) x l tl := ⟨hh.blk, hh.low, hh.row⟩
    obtain ⟨k1, k2⟩ := cl_fresh e hd
    exact ⟨by rw [hz], ((turned_below hBW).trans (turned_drew _ _) (fun _ _ h => h) (fun _ _ h => h)).trans k2 (fun _ _ h => h) (fun _ _ h => h), k1⟩)
  clear hW hBW hsz hc hk h he hh ff hno
  go_enter Try.func24, Try.ntmps24
  go_wp2_with fail
  rw [HW.out]
  refine (wrong_ok _ e W UE.out HE.out).mono ?_
  rintro r w' ⟨rfl, rfl⟩
  obtain ⟨y, hy⟩ : ∃ y, knownB x e f = y := ⟨_, rfl⟩
  rw [hy] at KN
  have HY := Lib.hid hy
  clear hy
  go_wp2_with fail
  go_region_held3 (fun w' => w'.cell? ⟨b, 0, none⟩ = some (.int .u64 x) ∧ w'.cell? ⟨w.heap.size, 0, none⟩ = some (.int .u64 e) ∧ w'.cell? ⟨w.heap.size + 1, 0, none⟩ = some (.pointer ac)) (go_keep)
    (first | (go_at_call 38; (with_reducible refine KN.out.mono ?_); rintro r w8 ⟨rfl, rfl⟩))
  cases y with
  | false =>
    have V := Lib.hid (T.out 1 (by unfold writeV; rw [HY.out]; rfl))
    go_wp2_with fail
    go_ret2
    exact V.out
  | true =>
    cases tl with
    | true =>
      have V := Lib.hid (T.out 2 (by unfold writeV; rw [HY.out]; rfl))
      go_wp2_with fail
      go_ret2
      exact V.out
    | false =>
      go_wp2_with fail
      refine CN.out.mono ?_
      rintro r w9 ⟨rfl, k, hk, rfl⟩
      obtain ⟨z, hz⟩ : ∃ z, l.any (fun y => !knownB y e f) = z := ⟨_, rfl⟩
      have V := Lib.hid (T.out (if z then 2 else 0) (by unfold writeV; rw [HY.out, hz]; cases z <;> rfl))
      rw [hz]
      clear hz hk
      cases z with
      | true =>
        go_wp2_with fail
        go_ret2
        exact V.out
      | false =>
        go_wp2_with fail
        go_ret2
        exact V.out
end Go.Proofs.Ytkcnbkdpjlpppaa

