
/-
  Report: both reports alike; staithelaw19.does.
-/
import Derived.Test.YtkcnbkdpjlpppaaRptO
namespace Go.Proofs.Ytkcnbkdpjlpppaa
open Go.RowKit
set_option linter.unusedVariables false
set_option linter.unusedSimpArgs false
set_option maxRecDepth 100000
attribute [local go_sem ↓] exec_ld37

def RelR (M : Int → Option Rce) (rs : Nat → Qr) : Prop := ∀ i : Nat, i < 8 → (M i = none ∧ (rs i).th = false) ∨ ∃ r, M i = some r ∧ rs i = qOf r
/-- Both reports, alike. -/
structure Both (B : Nat) (w : World) (b mb n d : Nat) (M : Int → Option Rce) (cs : Nat → Cel) (ms : Nat → M18) (rs : Nat → Qr) : Prop where
  rp : Rp B w b mb n 8 M cs
  rr : RR w d ms rs
  rel : ∀ i, i < 8 → RelC (cs i).x (cs i).l (cs i).tl (ms i)
  rac : RelR M rs
  out : ∀ i, isC i = false → M i = none
  low : B ≤ d
theorem Both.below {B : Nat} {w w' : World} {b mb n d : Nat} {M : Int → Option Rce} {cs : Nat → Cel} {ms : Nat → M18} {rs : Nat → Qr} (h : Both B w b mb n d M cs ms rs) (hB : Below w.heap.size w w') : Both B w' b mb n d M cs ms rs :=
  ⟨h.rp.below hB, h.rr.below hB, h.rel, h.rac, h.out, h.low⟩
theorem upto_q {M : Int → Option Rce} {rs : Nat → Qr} (h : RelR M rs) : ∀ k, k ≤ 8 → qupto rs k = (upto M k).map qOf
  | 0, _ => rfl
  | k + 1, hk => by
    rcases h k (by omega) with ⟨h1, h2⟩ | ⟨r, h1, h2⟩
    · rw [qupto_no h2, upto_none h1, upto_q h k (by omega)]
    · rw [qupto_yes (by rw [h2]; rfl), upto_some h1, upto_q h k (by omega), List.map_append, h2]; rfl
/-- The reference's report has turned: the program's has not. -/
theorem Rp.turnD {B : Nat} {w w' : World} {b mb n d : Nat} {M : Int → Option Rce} {cs : Nat → Cel} {ms : Nat → M18} {rs : Nat → Qr} (h : Rp B w b mb n 8 M cs) (hd : RR w d ms rs) (ht : Turned (fun i => i = d) w w') : Rp B w' b mb n 8 M cs := by
  obtain ⟨cur0, hty⟩ := hd.ty
  have kt : ∀ e, e ≠ 72 → KeepT e w w' := fun e he i cur fz hi => by
    refine ht.block i (lt_of_heap hi) ?_
    rintro rfl
    rw [hty] at hi
    have := Option.some.inj hi
    injection this with e1 e2
    exact he e2.symm
  refine ⟨(kt _ (by decide) _ _ _ h.blk).trans h.blk, fun i hi => ceKeep (h.ce i hi) (kt _ (by decide)) (kt _ (by decide)) ht.size, h.ap, h.mp.kept (ht.block mb h.mp.lt ?_), h.low.1, h.low.2.1, Nat.le_trans h.low.2.2 ht.size⟩
  intro e
  have e' : mb = d := e
  obtain ⟨D, ⟨es, clock, hm, _⟩, _⟩ := h.mp
  rw [e', hty] at hm
  cases hm
theorem RR.turnR {B : Nat} {w w' : World} {b mb n d : Nat} {M : Int → Option Rce} {cs : Nat → Cel} {ms : Nat → M18} {rs : Nat → Qr} (h : RR w d ms rs) (hr : Rp B w b mb n 8 M cs) (ht : Turned (RS mb cs) w w') : RR w' d ms rs := by
  obtain ⟨cur, h1⟩ := h.ty
  exact h.frame (ht.block d (lt_of_heap h1) (hr.blks h1 (by decide)))

theorem celF_q {k : Cel} {m : M18} {t : Nat} {n : Int} {f : Int → Int} {ns : List Int} (h : RelC k.x k.l k.tl m) (ht : t < 256) (hn : 1 ≤ n) (hn2 : n ≤ 1048576) (hf : ∀ u, f u = at0 ns u) (wr : Bool) : celF wr k (ep t n) f = qF wr m t ns := by
  have hte : tidE (ep (t : Nat) n) = t := tidE_ep (by omega) (by omega) hn hn2
  cases wr with
  | true => exact put_eq h ht hn hn2 hf
  | false =>
    show (if knownB k.x (ep t n) f then (0 : Int) else 1) = if rkB m.t m.n m.no m.ta t ns then 0 else 1
    rw [known_w h.w hte hf]
theorem celN_q {k : Cel} {m : M18} {t : Nat} {n : Int} {f : Int → Int} {ns : List Int} (h : RelC k.x k.l k.tl m) (ht : t < 256) (hn : 1 ≤ n) (hn2 : n ≤ 1048576) (hf : ∀ u, f u = at0 ns u) (wr : Bool) : RelC (celN wr k (ep t n) f).x (celN wr k (ep t n) f).l (celN wr k (ep t n) f).tl (qN wr m t n ns) := by
  cases wr with
  | true => exact rel_write ht hn hn2
  | false => exact rel_read h ht hn hn2 hf
theorem rel_upd {cs : Nat → Cel} {ms : Nat → M18} {c : Nat} {k : Cel} {m : M18} (h : ∀ i, i < 8 → RelC (cs i).x (cs i).l (cs i).tl (ms i)) (hk : RelC k.x k.l k.tl m) : ∀ i, i < 8 → RelC (updCel cs c k i).x (updCel cs c k i).l (updCel cs c k i).tl (updM ms c m i) := by
  intro i hi
  unfold updCel updM
  by_cases hic : i = c
  · rw [if_pos hic, if_pos hic]; exact hk
  · rw [if_neg hic, if_neg hic]; exact h i hi
/-- The same access, here and there. -/
theorem put_both {M : Int → Option Rce} {cs : Nat → Cel} {ms : Nat → M18} {rs : Nat → Qr} {c t : Nat} {n pa pb : Int} {wr : Bool} {f : Int → Int} {ns : List Int} (hrel : ∀ i, i < 8 → RelC (cs i).x (cs i).l (cs i).tl (ms i)) (hrac : RelR M rs) (hc : c < 8) (ht : t < 256) (hn : 1 ≤ n) (hn2 : n ≤ 1048576) (hf : ∀ u, f u = at0 ns u)
    (hfit : fitA ⟨pa, pb, c, wr⟩ (ep t n) = true) {y : Bool} {rs' : Nat → Qr}
    (hy : (qF wr (ms c) t ns = 0 ∨ (rs c).th = true) ∧ y = false ∧ rs' = rs ∨ qF wr (ms c) t ns ≠ 0 ∧ (rs c).th = false ∧ y = true ∧ rs' = updQ rs c ⟨true, c, pa, pb, qF wr (ms c) t ns, wr⟩) :
    putY M cs ⟨pa, pb, c, wr⟩ (ep t n) f = y ∧ RelR (putMs M cs ⟨pa, pb, c, wr⟩ (ep t n) f) rs' ∧ (∀ i, i < 8 → RelC (putCs cs ⟨pa, pb, c, wr⟩ (ep t n) f i).x (putCs cs ⟨pa, pb, c, wr⟩ (ep t n) f i).l (putCs cs ⟨pa, pb, c, wr⟩ (ep t n) f i).tl (updM ms c (qN wr (ms c) t n ns) i)) := by
  have hF := celF_q (hrel c hc) ht hn hn2 hf wr
  refine ⟨?_, ?_, ?_⟩
  · unfold putY
    rw [hfit]
    show (true && (celF wr (cs c) (ep t n) f != 0 && (M c).isNone)) = y
    rw [hF]
    rcases hy with ⟨h1, rfl, _⟩ | ⟨h1, h2, rfl, _⟩
    · rcases h1 with h1 | h1
      · simp [h1]
      · rcases hrac c hc with ⟨_, h2⟩ | ⟨r, h2, _⟩
        · rw [h1] at h2; cases h2
        · simp [h2]
    · rcases hrac c hc with ⟨h3, _⟩ | ⟨r, _, h3⟩
      · simp [h1, h3]
      · rw [h3] at h2; cases h2
  · unfold putMs
    rcases hy with ⟨h1, _, rfl⟩ | ⟨h1, h2, _, rfl⟩
    · rw [if_neg]
      · exact hrac
      · rintro ⟨_, h3, h4⟩
        rcases h1 with h1 | h1
        · exact h3 (hF.trans h1)
        · rcases hrac c hc with ⟨_, h5⟩ | ⟨r, h5, _⟩
          · rw [h1] at h5; cases h5
          · have h4' : M c = none := h4
            rw [h4'] at h5; cases h5
    · have h3 : M c = none := by
        rcases hrac c hc with ⟨h3, _⟩ | ⟨r, _, h3⟩
        · exact h3
        · rw [h3] at h2; cases h2
      rw [if_pos ⟨hfit, (fun e => h1 (hF.symm.trans e)), h3⟩]
      intro i hi
      unfold putM updQ
      by_cases hic : i = c
      · subst hic
        rw [if_pos rfl, if_pos rfl]
        refine .inr ⟨_, rfl, ?_⟩
        rw [← hF]; rfl
      · rw [if_neg (by show ¬ ((i : Int) = (c : Int)); omega), if_neg hic]
        exact hrac i hi
  · unfold putCs
    rw [hfit]
    exact rel_upd hrel (celN_q (hrel c hc) ht hn hn2 hf wr)
theorem putMs_out {M : Int → Option Rce} {cs : Nat → Cel} {x : Acc} {e : Int} {f : Int → Int} (h : ∀ i, isC i = false → M i = none) : ∀ i, isC i = false → putMs M cs x e f i = none := by
  intro i hi
  by_cases hx : x.c = i
  · subst hx
    rw [putMs_in, if_neg]
    · exact h _ hi
    · rintro ⟨hf, _⟩
      obtain ⟨h0, h8, _⟩ := fit_in hf
      rw [show isC x.c = true from decide_eq_true ⟨h0, h8⟩] at hi
      cases hi
  · rw [putMs_off hx]; exact h i hi
def DoSet (mb : Nat) (cs : Nat → Cel) (d : Nat) : Nat → Prop := fun i => RS mb cs i ∨ i = d
def DoesP (B b mb n d : Nat) (cs : Nat → Cel) (w : World) (r : Ending) (w' : World) : Prop :=
  r = .returned (.bool true) ∧ Turned (DoSet mb cs d) w w' ∧ ∃ n' M cs' ms rs, n' ≤ n + 1 ∧ Both B w' b mb n' d M cs' ms rs
end Go.Proofs.Ytkcnbkdpjlpppaa

