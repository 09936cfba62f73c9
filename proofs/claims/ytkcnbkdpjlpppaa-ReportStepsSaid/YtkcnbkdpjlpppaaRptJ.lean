
/-
  Report: two reports share nothing; Put and Retire whole; what they do to one cell.
-/
import Derived.Test.YtkcnbkdpjlpppaaRptI
namespace Go.Proofs.Ytkcnbkdpjlpppaa
open Go.RowKit
set_option linter.unusedVariables false
set_option linter.unusedSimpArgs false
set_option maxRecDepth 100000

/-- Two reports share nothing. -/
structure Apart (mb mb2 : Nat) (cs cs2 : Nat → Cel) : Prop where
  m : mb ≠ mb2
  c : ∀ i j, i < 8 → j < 8 → (cs i).b ≠ (cs2 j).b
theorem Apart.symm {mb mb2 : Nat} {cs cs2 : Nat → Cel} (h : Apart mb mb2 cs cs2) : Apart mb2 mb cs2 cs := ⟨fun e => h.m e.symm, fun i j hi hj e => h.c j i hj hi e.symm⟩
theorem Apart.to {mb mb2 : Nat} {cs cs2 ds ds2 : Nat → Cel} (h : Apart mb mb2 cs cs2) (h1 : ∀ i, (ds i).b = (cs i).b) (h2 : ∀ i, (ds2 i).b = (cs2 i).b) : Apart mb mb2 ds ds2 := ⟨h.m, fun i j hi hj => by rw [h1, h2]; exact h.c i j hi hj⟩
/-- The blocks of a report that a call may turn. -/
def RS (mb : Nat) (cs : Nat → Cel) : Nat → Prop := fun i => i = mb ∨ ∃ j, j < 8 ∧ i = (cs j).b
theorem Rp.blks {B : Nat} {w : World} {b mb n : Nat} {M : Int → Option Rce} {cs : Nat → Cel} (h : Rp B w b mb n 8 M cs) {i : Nat} {cur : Array Value} {e : TypeId} {fz : Nat × Nat} (hi : w.heap[i]? = some (.cells cur e fz)) (he : e ≠ 97) : ¬ RS mb cs i := by
  rintro (rfl | ⟨j, hj, rfl⟩)
  · obtain ⟨D, ⟨es, clock, hm, _⟩, _⟩ := h.mp
    rw [hi] at hm
    cases hm
  · obtain ⟨⟨v, k1⟩, _⟩ := h.ce j hj
    rw [k1.blk] at hi
    have := Option.some.inj hi
    injection this with e1 e2
    exact he e2.symm
theorem Rp.keepT {B : Nat} {w w' : World} {b mb n : Nat} {M : Int → Option Rce} {cs : Nat → Cel} (h : Rp B w b mb n 8 M cs) (ht : Turned (RS mb cs) w w') {e : TypeId} (he : e ≠ 97) : KeepT e w w' := fun i cur fz hi => ht.block i (lt_of_heap hi) (h.blks hi he)
theorem Rp.mb_ne {B B2 : Nat} {w : World} {b b2 mb mb2 n n2 : Nat} {M M2 : Int → Option Rce} {cs cs2 : Nat → Cel} (h : Rp B w b mb n 8 M cs) (h2 : Rp B2 w b2 mb2 n2 8 M2 cs2) {j : Nat} (hj : j < 8) : mb ≠ (cs2 j).b := by
  intro e
  obtain ⟨D, ⟨es, clock, hm, _⟩, _⟩ := h.mp
  obtain ⟨⟨v, k1⟩, _⟩ := h2.ce j hj
  rw [e, k1.blk] at hm
  cases hm
theorem Rp.other {B B2 : Nat} {w w' : World} {b b2 mb mb2 n n2 : Nat} {M M2 : Int → Option Rce} {cs cs2 : Nat → Cel} (h : Rp B w b mb n 8 M cs) (h2 : Rp B2 w b2 mb2 n2 8 M2 cs2) (ha : Apart mb mb2 cs cs2) (ht : Turned (RS mb2 cs2) w w') : Rp B w' b mb n 8 M cs := by
  refine ⟨(h2.keepT ht (e := 81) (by decide) _ _ _ h.blk).trans h.blk, fun i hi => ?_, h.ap, h.mp.kept (ht.block mb h.mp.lt ?_), h.low.1, h.low.2.1, Nat.le_trans h.low.2.2 ht.size⟩
  · obtain ⟨⟨v, k1⟩, k2, k3⟩ := h.ce i hi
    refine ⟨⟨v, ⟨(ht.block _ (lt_of_heap k1.blk) ?_).trans k1.blk, k1.low, ownsRow_keep k1.row (h2.keepT ht (by decide))⟩⟩, k2, Nat.le_trans k3 ht.size⟩
    rintro (e | ⟨j, hj, e⟩)
    · exact h2.mb_ne h hi e.symm
    · exact ha.c i j hi hj e
  · rintro (e | ⟨j, hj, e⟩)
    · exact ha.m e
    · exact h.mb_ne h2 hj e
theorem Rp.ckv {B : Nat} {w w' : World} {b mb n : Nat} {M : Int → Option Rce} {cs : Nat → Cel} (h : Rp B w b mb n 8 M cs) (ht : Turned (RS mb cs) w w') {v : Value} {f : Int → Int} (hc : CkV w v f) : CkV w' v f := by
  rcases hc with hc | ⟨c, k, h1, h2, h3⟩
  · exact .inl hc
  · refine .inr ⟨c, k, h1, h2.frame (fun i hi hh => ht.block i hi ?_), h3⟩
    obtain ⟨ao, cap, hb, _, _, hx⟩ := h2
    rcases hh with rfl | ⟨hp, rfl⟩
    · exact h.blks hb (by decide)
    · obtain ⟨_, cur, hg, _⟩ := hx hp
      exact h.blks hg (by decide)
theorem Rp.rlow {B : Nat} {w : World} {b mb n : Nat} {M : Int → Option Rce} {cs : Nat → Cel} (h : Rp B w b mb n 8 M cs) : ∀ i, RS mb cs i → B ≤ i := by
  rintro i (rfl | ⟨j, hj, rfl⟩)
  · exact h.low.2.1
  · exact (h.ce j hj).low.1
theorem rs_to {mb : Nat} {cs ds : Nat → Cel} (h : ∀ i, (ds i).b = (cs i).b) : ∀ i, RS mb ds i → RS mb cs i := by
  rintro i (rfl | ⟨j, hj, rfl⟩)
  · exact .inl rfl
  · exact .inr ⟨j, hj, h j⟩
theorem updCel_b {cs : Nat → Cel} {c : Nat} {k : Cel} (h : k.b = (cs c).b) (i : Nat) : (updCel cs c k i).b = (cs i).b := by
  unfold updCel
  by_cases hi : i = c
  · subst hi; rw [if_pos rfl, h]
  · rw [if_neg hi]

/-! ### Put whole -/
def putMs (M : Int → Option Rce) (cs : Nat → Cel) (x : Acc) (e : Int) (f : Int → Int) : Int → Option Rce :=
  if fitA x e = true ∧ celF x.wr (cs x.c.toNat) e f ≠ 0 ∧ M x.c = none then putM M x.c ⟨x.c, x.a, x.b, celF x.wr (cs x.c.toNat) e f, x.wr⟩ else M
def putCs (cs : Nat → Cel) (x : Acc) (e : Int) (f : Int → Int) : Nat → Cel := if fitA x e = true then updCel cs x.c.toNat (celN x.wr (cs x.c.toNat) e f) else cs
def putY (M : Int → Option Rce) (cs : Nat → Cel) (x : Acc) (e : Int) (f : Int → Int) : Bool := fitA x e && (celF x.wr (cs x.c.toNat) e f != 0 && (M x.c).isNone)
def PutDo (B b mb n : Nat) (M : Int → Option Rce) (cs : Nat → Cel) (x : Acc) (e : Int) (f : Int → Int) (w : World) (r : Ending) (w' : World) : Prop :=
  ∃ n' y z, r = .returned (.tuple #[.bool y, .int .i64 z]) ∧ (y = putY M cs x e f ∧ z = if fitA x e then 0 else 1) ∧ n' ≤ n + 1 ∧ Rp B w' b mb n' 8 (putMs M cs x e f) (putCs cs x e f) ∧ Turned (RS mb cs) w w'
theorem celN_b (wr : Bool) (k : Cel) (e : Int) (f : Int → Int) : (celN wr k e f).b = k.b := by cases wr <;> rfl
theorem putCs_b (cs : Nat → Cel) (x : Acc) (e : Int) (f : Int → Int) (i : Nat) : (putCs cs x e f i).b = (cs i).b := by
  unfold putCs
  split
  · exact updCel_b (celN_b _ _ _ _) i
  · rfl
theorem fit_in {x : Acc} {e : Int} (h : fitA x e = true) : 0 ≤ x.c ∧ x.c < 8 ∧ okE e = true := by
  unfold fitA at h
  simp at h
  obtain ⟨⟨⟨h1, _⟩, _⟩, h2⟩ := h
  obtain ⟨h3, h4⟩ := of_decide_eq_true h1
  exact ⟨h3, h4, h2⟩
theorem rput_do (B b mb n : Nat) (M : Int → Option Rce) (cs : Nat → Cel) (x : Acc) (e : Int) (ac : Option Addr) (f : Int → Int) (w : World) (h : Rp B w b mb n 8 M cs) (hn : n < maxLen) (hu : U64 e) (hck : CkV w (.pointer ac) f) :
    Calls Try.prog 7 #[.pointer (some ⟨b, 0, none⟩), accV x, .int .u64 e, .pointer ac] w (PutDo B b mb n M cs x e f w) := by
  cases hf : fitA x e with
  | false =>
    refine (rput_bad _ ac x e w hu hf).mono ?_
    rintro r w' ⟨rfl, hb⟩
    refine ⟨n, _, _, rfl, ⟨by unfold putY; rw [hf]; rfl, by rw [hf]; rfl⟩, by omega, ?_, turned_below hb⟩
    have e1 : putMs M cs x e f = M := by unfold putMs; rw [hf, if_neg (by simp)]
    have e2 : putCs cs x e f = cs := by unfold putCs; rw [hf]; rfl
    rw [e1, e2]
    exact h.below hb
  | true =>
    obtain ⟨h0, h8, hok⟩ := fit_in hf
    obtain ⟨pa, pb, c, wr⟩ := x
    dsimp only at h0 h8
    obtain ⟨k, rfl⟩ := Int.eq_ofNat_of_zero_le h0
    refine (pput_any B b mb n M cs pa pb k wr e ac f w h hn hu hf (by omega) hok hck).mono ?_
    rintro r w' ⟨y, M', n', rfl, hn', hr, ht, hy⟩
    dsimp only at hy hr
    have e2 : putCs cs ⟨pa, pb, k, wr⟩ e f = updCel cs k (celN wr (cs k) e f) := by unfold putCs; rw [hf]; rfl
    have e1 : putMs M cs ⟨pa, pb, k, wr⟩ e f = M' ∧ putY M cs ⟨pa, pb, k, wr⟩ e f = y := by
      unfold putMs putY
      rw [hf]
      show (if _ ∧ celF wr (cs k) e f ≠ 0 ∧ M k = none then _ else _) = _ ∧ (true && (celF wr (cs k) e f != 0 && (M k).isNone)) = _
      rcases hy with ⟨hy, rfl, rfl⟩ | ⟨hy, hm, rfl, rfl⟩
      · rw [if_neg (by
          rintro ⟨_, h1, h2⟩
          rcases hy with hy | hy
          · exact h1 hy
          · rw [h2] at hy; cases hy)]
        refine ⟨rfl, ?_⟩
        rcases hy with hy | hy
        · simp [hy]
        · cases hM : M' k with
          | none => rw [hM] at hy; cases hy
          | some _ => simp
      · rw [if_pos ⟨rfl, hy, hm⟩]
        exact ⟨rfl, by simp [hy, hm]⟩
    refine ⟨n', _, _, rfl, ⟨e1.2.symm, by rw [hf]; rfl⟩, hn', by rw [e1.1, e2]; exact hr, ht.mono fun i _ hi => ?_⟩
    rcases hi with hi | hi
    · exact .inl hi
    · exact .inr ⟨k, by omega, hi⟩
def retCs (cs : Nat → Cel) (tid cut : Int) : Nat → Cel := if retBad tid cut = true then cs else fun i => retCel tid cut (cs i)
theorem retCs_b (cs : Nat → Cel) (tid cut : Int) (i : Nat) : (retCs cs tid cut i).b = (cs i).b := by
  unfold retCs
  split <;> rfl
def RetDo (B b mb n : Nat) (M : Int → Option Rce) (cs : Nat → Cel) (tid cut : Int) (w : World) (r : Ending) (w' : World) : Prop :=
  ∃ z, r = .returned (.int .i64 z) ∧ (z = if retBad tid cut then 1 else 0) ∧ Rp B w' b mb n 8 M (retCs cs tid cut) ∧ Turned (RS mb cs) w w'
theorem rret_do (B b mb n : Nat) (M : Int → Option Rce) (cs : Nat → Cel) (tid cut : Int) (w : World) (h : Rp B w b mb n 8 M cs) :
    Calls Try.prog 9 #[.pointer (some ⟨b, 0, none⟩), .int .i64 tid, .int .i64 cut] w (RetDo B b mb n M cs tid cut w) := by
  unfold RetDo retCs
  cases hb : retBad tid cut with
  | true =>
    refine (rret_bad2 B b mb n M cs tid cut w h hb).mono ?_
    rintro r w' ⟨rfl, hB⟩
    exact ⟨_, rfl, rfl, h.below hB, turned_below hB⟩
  | false =>
    refine (pret_any B b mb n M cs tid cut w h hb).mono ?_
    rintro r w' ⟨rfl, hr, ht⟩
    exact ⟨_, rfl, rfl, hr, ht.mono fun i _ hi => .inr hi⟩

/-! ### One cell of two reports -/
def sameC (j k : Cel) : Prop := j.x = k.x ∧ j.l = k.l ∧ j.tl = k.tl
structure Same (i : Int) (M M2 : Int → Option Rce) (cs cs2 : Nat → Cel) : Prop where
  m : M i = M2 i
  c : isC i = true → sameC (cs i.toNat) (cs2 i.toNat)
  o : isC i = false → M i = none
theorem sameC_F {j k : Cel} (h : sameC j k) (wr : Bool) (e : Int) (f : Int → Int) : celF wr j e f = celF wr k e f := by
  unfold celF; rw [h.1, h.2.1, h.2.2]
theorem sameC_N {j k : Cel} (h : sameC j k) (wr : Bool) (e : Int) (f : Int → Int) : sameC (celN wr j e f) (celN wr k e f) := by
  obtain ⟨b, x, l, t⟩ := j
  obtain ⟨b', x', l', t'⟩ := k
  obtain ⟨h1, h2, h3⟩ := h
  dsimp only at h1 h2 h3
  subst h1; subst h2; subst h3
  unfold celN
  split <;> exact ⟨rfl, rfl, rfl⟩
theorem sameC_R {j k : Cel} (h : sameC j k) (tid cut : Int) : sameC (retCel tid cut j) (retCel tid cut k) := by
  obtain ⟨b, x, l, t⟩ := j
  obtain ⟨b', x', l', t'⟩ := k
  obtain ⟨h1, h2, h3⟩ := h
  dsimp only at h1 h2 h3
  subst h1; subst h2; subst h3
  exact ⟨rfl, rfl, rfl⟩
theorem Same.ret {i : Int} {M M2 : Int → Option Rce} {cs cs2 : Nat → Cel} (h : Same i M M2 cs cs2) (tid cut : Int) : Same i M M2 (retCs cs tid cut) (retCs cs2 tid cut) := by
  refine ⟨h.m, fun hi => ?_, h.o⟩
  unfold retCs
  split
  · exact h.c hi
  · exact sameC_R (h.c hi) tid cut
theorem putMs_off {M : Int → Option Rce} {cs : Nat → Cel} {x : Acc} {e : Int} {f : Int → Int} {i : Int} (h : x.c ≠ i) : putMs M cs x e f i = M i := by
  unfold putMs
  split
  · unfold putM; rw [if_neg (fun h' => h h'.symm)]
  · rfl
theorem Same.off {i : Int} {M M2 : Int → Option Rce} {cs cs2 : Nat → Cel} (h : Same i M M2 cs cs2) {x : Acc} {e : Int} {f : Int → Int} (hx : x.c ≠ i) : Same i (putMs M cs x e f) M2 (putCs cs x e f) cs2 := by
  refine ⟨by rw [putMs_off hx]; exact h.m, fun hi => ?_, fun hi => by rw [putMs_off hx]; exact h.o hi⟩
  have h1 := h.c hi
  unfold putCs
  split
  · rename_i hf
    obtain ⟨h0, h8, _⟩ := fit_in hf
    obtain ⟨i0, i8⟩ := of_decide_eq_true hi
    unfold updCel
    rw [if_neg (by omega)]
    exact h1
  · exact h1
theorem putMs_in {M : Int → Option Rce} {cs : Nat → Cel} {x : Acc} {e : Int} {f : Int → Int} : putMs M cs x e f x.c = if fitA x e = true ∧ celF x.wr (cs x.c.toNat) e f ≠ 0 ∧ M x.c = none then some ⟨x.c, x.a, x.b, celF x.wr (cs x.c.toNat) e f, x.wr⟩ else M x.c := by
  unfold putMs
  split
  · unfold putM; rw [if_pos rfl]
  · rfl
theorem Same.both {i : Int} {M M2 : Int → Option Rce} {cs cs2 : Nat → Cel} (h : Same i M M2 cs cs2) {x : Acc} {e : Int} {f : Int → Int} (hx : x.c = i) : Same i (putMs M cs x e f) (putMs M2 cs2 x e f) (putCs cs x e f) (putCs cs2 x e f) := by
  subst hx
  refine ⟨?_, fun hi => ?_, fun hi => ?_⟩
  · rw [putMs_in, putMs_in]
    cases hf : fitA x e with
    | false => simp only [Bool.false_eq_true, false_and, if_false]; exact h.m
    | true =>
      obtain ⟨h0, h8, _⟩ := fit_in hf
      rw [sameC_F (h.c (decide_eq_true ⟨h0, h8⟩)), h.m]
  · have h1 := h.c hi
    unfold putCs
    split
    · unfold updCel
      rw [if_pos rfl, if_pos rfl]
      exact sameC_N h1 _ _ _
    · exact h1
  · rw [putMs_in, if_neg]
    · exact h.o hi
    · rintro ⟨hf, _⟩
      obtain ⟨h0, h8, _⟩ := fit_in hf
      rw [show isC x.c = true from decide_eq_true ⟨h0, h8⟩] at hi
      cases hi
/-- What was told first stays. -/
theorem putMs_stays {M : Int → Option Rce} {cs : Nat → Cel} {x : Acc} {e : Int} {f : Int → Int} {i : Int} {r : Rce} (h : M i = some r) : putMs M cs x e f i = some r := by
  by_cases hx : x.c = i
  · subst hx
    rw [putMs_in, if_neg]
    · exact h
    · rintro ⟨_, _, h2⟩
      rw [h] at h2; cases h2
  · rw [putMs_off hx, h]
end Go.Proofs.Ytkcnbkdpjlpppaa

