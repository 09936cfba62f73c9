
/-
  Package report: Put on a report.
-/
import Derived.Test.YtkcnbkdpjlpppaaRptD
namespace Go.Proofs.Ytkcnbkdpjlpppaa
open Go.RowKit
set_option linter.unusedVariables false
set_option linter.unusedSimpArgs false
set_option maxRecDepth 100000

def celF (wr : Bool) (k : Cel) (e : Int) (f : Int → Int) : Int := if wr then writeV k.x k.l k.tl e f else if knownB k.x e f then 0 else 1
def celN (wr : Bool) (k : Cel) (e : Int) (f : Int → Int) : Cel := if wr then ⟨k.b, e, [], false⟩ else ⟨k.b, k.x, readL k.l e f, k.tl⟩
def updCel (cs : Nat → Cel) (c : Nat) (k : Cel) : Nat → Cel := fun i => if i = c then k else cs i
/-- One cell has turned. -/
theorem Rp.turn {B : Nat} {w w' : World} {b mb n c : Nat} {M : Int → Option Rce} {cs : Nat → Cel} {k : Cel} (h : Rp B w b mb n 8 M cs) (hc : c < 8) (ht : Turned (fun i => i = (cs c).b) w w') (hk : Ce B w' k.b k.x k.l k.tl) (hb : k.b = (cs c).b) : Rp B w' b mb n 8 M (updCel cs c k) := by
  have kt : ∀ e, e ≠ 97 → KeepT e w w' := fun e he => keepT_celR (h.ce c hc) ht he
  have hbs : ∀ i, (updCel cs c k i).b = (cs i).b := fun i => by
    unfold updCel
    by_cases hi : i = c
    · subst hi; rw [if_pos rfl, hb]
    · rw [if_neg hi]
  refine ⟨?_, fun i hi => ?_, fun i j hi hj hne => by rw [hbs, hbs]; exact h.ap i j hi hj hne, h.mp.kept (ht.block mb h.mp.lt ?_), h.low.1, h.low.2.1, Nat.le_trans h.low.2.2 ht.size⟩
  · have e : rpV (updCel cs c k) 8 mb = rpV cs 8 mb := by
      have hp : ∀ i, pt (updCel cs c k) 8 i = pt cs 8 i := fun i => by unfold pt; rw [hbs]
      unfold rpV
      simp only [hp]
    rw [e]
    exact (kt _ (by decide) _ _ _ h.blk).trans h.blk
  · by_cases hic : i = c
    · subst hic; unfold updCel; rw [if_pos rfl]; exact hk
    · unfold updCel; rw [if_neg hic]; exact ceOther (h.ce i hi) (h.ce c hc) (h.ap i c hi hc hic) ht
  · obtain ⟨D, ⟨es, clock, hm, _⟩, _⟩ := h.mp
    obtain ⟨⟨v, h1⟩, _⟩ := h.ce c hc
    intro e
    have e' : mb = (cs c).b := e
    rw [e', h1.blk] at hm
    cases hm
theorem Rp.cells {B : Nat} {w : World} {b mb n : Nat} {M : Int → Option Rce} {cs : Nat → Cel} (h : Rp B w b mb n 8 M cs) : (∀ c, c < 8 → w.cell? ⟨b, c, none⟩ = some (.pointer (some ⟨(cs c).b, 0, none⟩))) ∧ w.cell? ⟨b, 8, none⟩ = some (.map (some mb)) := by
  constructor
  · intro c hc
    simp only [World.cell?, h.blk]
    exact rpV_at cs hc hc
  · simp only [World.cell?, h.blk]; rfl
theorem cel_do {B : Nat} {w : World} {k : Cel} (h : Ce B w k.b k.x k.l k.tl) (wr : Bool) (e : Int) (cv : Value) (f : Int → Int) (he : okE e = true) (hc : CkV w cv f) :
    Calls Try.prog (if wr then 24 else 23) #[.pointer (some ⟨k.b, 0, none⟩), .int .u64 e, cv] w fun r w' => r = .returned (.tuple #[.int .i64 (celF wr k e f), .int .i64 0]) ∧ Turned (fun i => i = k.b) w w' ∧ Ce B w' k.b (celN wr k e f).x (celN wr k e f).l (celN wr k e f).tl := by
  cases wr with
  | true => exact (ce_write h e cv f he hc)
  | false => exact (ce_read h e cv f he hc)

theorem turned_grown {mb : Nat} {w w' : World} (h : w.drew.grownBy w' (some mb)) : Turned (fun i => i = mb) w w' :=
  ⟨h.os, h.tape, h.output, h.size, fun i hi hne => h.block i hi (fun e => hne (Option.some.inj e))⟩
/-- The blocks that an access of cell c may turn. -/
def PS (mb c : Nat) (cs : Nat → Cel) : Nat → Prop := fun i => i = mb ∨ i = (cs c).b
theorem Rp.put {B : Nat} {w w' : World} {b mb n n' : Nat} {M M' : Int → Option Rce} {cs : Nat → Cel} (h : Rp B w b mb n 8 M cs) (hm : RMap w' mb n' M') (hg : w.drew.grownBy w' (some mb)) : Rp B w' b mb n' 8 M' cs := by
  have kt : ∀ e, KeepT e w w' := fun e i cur fz hi => by
    refine hg.block i (lt_of_heap hi) ?_
    intro he
    have e1 : mb = i := (Option.some.inj he).symm
    obtain ⟨D, ⟨es, clock, hmm, _⟩, _⟩ := h.mp
    rw [e1, hi] at hmm
    cases hmm
  exact ⟨(kt _ _ _ _ h.blk).trans h.blk, fun i hi => ceKeep (h.ce i hi) (kt _) (kt _) hg.size, h.ap, hm, h.low.1, h.low.2.1, Nat.le_trans h.low.2.2 hg.size⟩
theorem cell_put {mb n : Nat} {M : Int → Option Rce} {w w' : World} {p : Addr} {v : Value} (hm : RMap w mb n M) (hg : w.drew.grownBy w' (some mb)) (h : w.cell? p = some v) : w'.cell? p = some v := by
  have hlt : p.block < w.heap.size := block_lt_of_cell h
  by_cases hp : p.block = mb
  · exfalso
    obtain ⟨D, ⟨es, clock, hmm, _⟩, _⟩ := hm
    rw [← hp] at hmm
    simp only [World.cell?, hmm] at h
    cases h
  · have e := hg.block p.block hlt (fun e => hp (Option.some.inj e))
    simp only [World.cell?] at h ⊢
    have e2 : w.drew.heap[p.block]? = w.heap[p.block]? := rfl
    rw [e, e2]
    exact h
def PutPost (B b mb n : Nat) (M : Int → Option Rce) (cs : Nat → Cel) (x : Acc) (c : Nat) (e : Int) (f : Int → Int) (w : World) (r : Ending) (w' : World) : Prop :=
  ∃ y M' n', r = .returned (.tuple #[.bool y, .int .i64 0]) ∧ n' ≤ n + 1 ∧ Rp B w' b mb n' 8 M' (updCel cs c (celN x.wr (cs c) e f)) ∧ Turned (PS mb c cs) w w' ∧
    ((celF x.wr (cs c) e f = 0 ∨ (M c).isSome = true) ∧ y = false ∧ M' = M ∨ celF x.wr (cs c) e f ≠ 0 ∧ M c = none ∧ y = true ∧ M' = putM M c ⟨c, x.a, x.b, celF x.wr (cs c) e f, x.wr⟩)

set_option maxHeartbeats 4000000 in
theorem pput_any (B b mb n : Nat) (M : Int → Option Rce) (cs : Nat → Cel) (pa pb : Int) (c : Nat) (wr : Bool) (e : Int) (ac : Option Addr) (f : Int → Int) (w : World) (h : Rp B w b mb n 8 M cs) (hn : n < maxLen) (hu : U64 e) (hfit : fitA ⟨pa, pb, c, wr⟩ e = true) (hc8 : c < 8) (hok : okE e = true) (hck : CkV w (.pointer ac) f) :
    Calls Try.prog 7 #[.pointer (some ⟨b, 0, none⟩), accV ⟨pa, pb, c, wr⟩, .int .u64 e, .pointer ac] w (PutPost B b mb n M cs ⟨pa, pb, c, wr⟩ c e f w) := by
  rcases fit_cases ⟨pa, pb, c, wr⟩ e with ⟨h2, _⟩ | ⟨_, k, h1, h2, h3⟩
  case inl => rw [hfit] at h2; cases h2
  dsimp only at k h1 h2
  unfold accV
  dsimp only
  obtain ⟨W, hW⟩ : ∃ W, w.alloc (.cells #[.int .i64 pa, .int .i64 pb, .int .i64 c, .bool wr] 23) = W := ⟨_, rfl⟩
  obtain ⟨b1, c0, c1, c2, c3⟩ := four_new hW
  have HR := Lib.hid (h.below b1)
  have B1 := Lib.hid b1
  have HW := Lib.hid hW
  have IS := Lib.hid (is_any c W)
  have TI := Lib.hid (etid_of e W hu)
  rw [k] at IS
  obtain ⟨t, ht⟩ : ∃ t, tidE e = t := ⟨_, rfl⟩
  rw [ht] at TI h3
  obtain ⟨q, hq⟩ : ∃ q, w.heap.size = q := ⟨_, rfl⟩
  rw [hq] at c0 c1 c2 c3
  have HQ := Lib.hid hq
  have DO := Lib.hid (show ∀ X, Below W.heap.size W X → _ from fun X hX => cel_do ((HR.out.below hX).ce c hc8) wr e (.pointer ac) f hok ((hck.below B1.out).below hX))
  have hc8' : (c : Int) < 8 := by omega
  have NQ := Lib.hid (show q ≠ (cs c).b from by have := (h.ce c hc8).low.2; omega)
  have LOW := Lib.hid (show B ≤ (cs c).b from (h.ce c hc8).low.1)
  have KW := Lib.hid (kI_wf (c := (c : Int)) (by omega) hc8')
  obtain ⟨rc, -⟩ := HR.out.cells
  have rcc := rc c hc8
  clear rc b1 hW h hu ht k hq hfit hck
  go_enter Try.func7, Try.ntmps7
  go_upto_region 1 with fail
  rw [HW.out, HQ.out]
  go_wp2_with fail
  refine IS.out.mono ?_
  rintro r w' ⟨rfl, rfl⟩
  go_wp2_with fail
  refine TI.out.mono ?_
  rintro r w' ⟨rfl, rfl⟩
  go_wp2_with fail
  go_region_held3 (fun w' => w'.cell? ⟨q, 2, none⟩ = some (.int .i64 c) ∧ w'.cell? ⟨b, c, none⟩ = some (.pointer (some ⟨(cs c).b, 0, none⟩))) (go_keep) (fail)
  cases wr with
  | false =>
    go_wp2_with fail
    have D1 := DO.out W.drew (Below.refl W.heap.size W).drew
    simp only [Bool.false_eq_true, if_false] at D1
    refine D1.mono ?_
    rintro r w3 ⟨rfl, ht3, hk3⟩
    have R3 := Lib.hid ((HR.out.below (Below.refl W.heap.size W).drew).turn hc8 ht3 (k := celN false (cs c) e f) hk3 rfl)
    have T3 := Lib.hid (show Turned (PS mb c cs) w w3 from (turned_below (below_trans B1.out (Below.refl W.heap.size W).drew B1.out.size)).trans ht3 (fun _ _ hh => hh) (fun i _ hh => .inr hh))
    have e0 := (turned_cell ht3 (p := ⟨q, 0, none⟩) (block_lt_of_cell c0) NQ.out).trans c0
    have e1 := (turned_cell ht3 (p := ⟨q, 1, none⟩) (block_lt_of_cell c1) NQ.out).trans c1
    have e2 := (turned_cell ht3 (p := ⟨q, 2, none⟩) (block_lt_of_cell c2) NQ.out).trans c2
    have e3 := (turned_cell ht3 (p := ⟨q, 3, none⟩) (block_lt_of_cell c3) NQ.out).trans c3
    obtain ⟨-, r8⟩ := R3.out.cells
    have R4 := Lib.hid (R3.out.below ((Below.refl w3.heap.size w3).alloc (Nat.le_refl _) (.cells #[.int .i64 0, .int .i64 0, .int .i64 0, .int .i64 0, .bool false] 38)))
    have LK := (R4.out.mp.kept (w' := (w3.alloc (.cells #[.int .i64 0, .int .i64 0, .int .i64 0, .int .i64 0, .bool false] 38)).drew) rfl).look c KW.out
    have LK0 := (R3.out.mp.kept (w' := w3.drew) rfl).look c KW.out
    obtain ⟨y, hy⟩ : ∃ y, celF false (cs c) e f = y := ⟨_, rfl⟩
    obtain ⟨s, hs⟩ : ∃ s, (M c).isSome = s := ⟨_, rfl⟩
    obtain ⟨⟨g0, g1, g2, g3, g4⟩, hr0⟩ : ∃ r0, (M c).getD rce0 = r0 := ⟨_, rfl⟩
    rw [hy]
    rw [hs, hr0] at LK LK0
    unfold rcV at LK LK0
    dsimp only at LK LK0
    have HY := Lib.hid hy
    have HS := Lib.hid hs
    clear ht3 hk3 hy hs hr0 D1 c0 c1 c2 c3 rcc
    go_wp2_with fail
    go_region_held3 (fun w' => w'.cell? ⟨q, 2, none⟩ = some (.int .i64 c) ∧ w'.cell? ⟨b, 8, none⟩ = some (.map (some mb))) (go_keep) (fail)
    all_goals
      have al : Below w3.heap.size w3 (w3.alloc (.cells #[.int .i64 g0, .int .i64 g1, .int .i64 g2, .int .i64 g3, .bool g4] 38)).drew := ((Below.refl _ _).alloc (Nat.le_refl _) _).drew
      have R5 := Lib.hid (R3.out.below al)
      have T5 := Lib.hid (T3.out.trans (turned_below al) (fun _ _ hh => hh) (fun _ _ hh => hh))
      have Z0 := (al.cell (p := ⟨q, 0, none⟩) (block_lt_of_cell e0)).trans e0
      have Z1 := (al.cell (p := ⟨q, 1, none⟩) (block_lt_of_cell e1)).trans e1
      have Z2 := (al.cell (p := ⟨q, 2, none⟩) (block_lt_of_cell e2)).trans e2
      have Z3 := (al.cell (p := ⟨q, 3, none⟩) (block_lt_of_cell e3)).trans e3
      obtain ⟨-, Z8⟩ := R5.out.cells
      obtain ⟨W4, hW4⟩ : ∃ W4, (w3.alloc (.cells #[.int .i64 g0, .int .i64 g1, .int .i64 g2, .int .i64 g3, .bool g4] 38)).drew = W4 := ⟨_, rfl⟩
      rw [hW4] at R5 T5 Z0 Z1 Z2 Z3 Z8 ⊢
      clear hW4 al LK LK0 e0 e1 e2 e3 r8
      by_cases hy0 : y = 0
      · subst hy0
        go_wp2_with fail
        go_ret2
        exact ⟨false, M, n, rfl, by omega, R5.out, T5.out, .inl ⟨.inl HY.out, rfl, rfl⟩⟩
      have h9 : (y == 0) = false := by simp [hy0]
      cases s with
      | true =>
        go_wp2_with fail
        go_ret2
        exact ⟨false, M, n, rfl, by omega, R5.out, T5.out, .inl ⟨.inr HS.out, rfl, rfl⟩⟩
      | false =>
        obtain ⟨w5, hrun, hm5, hg5⟩ := (R5.out.mp.kept (w' := W4.drew) rfl).put hn c KW.out ⟨c, pa, pb, y, false⟩
        have FIN := Lib.hid (show PutPost B b mb n M cs ⟨pa, pb, c, false⟩ c e f w (.returned (.tuple #[.bool true, .int .i64 0])) w5 from ⟨true, _, n + 1, rfl, Nat.le_refl _, R5.out.put (w' := w5) hm5 hg5, T5.out.trans (turned_grown hg5) (fun _ _ hh => hh) (fun _ _ hh => .inl hh), .inr ⟨by show celF false (cs c) e f ≠ 0; rw [HY.out]; exact hy0, Option.isNone_iff_eq_none.1 (by have h1 := HS.out; cases hMc : M c with | none => rfl | some _ => rw [hMc] at h1; cases h1), rfl, by show _ = putM M c ⟨c, pa, pb, celF false (cs c) e f, false⟩; rw [HY.out]⟩⟩)
        have Y0 := cell_put R5.out.mp hg5 Z0
        have Y1 := cell_put R5.out.mp hg5 Z1
        have Y2 := cell_put R5.out.mp hg5 Z2
        have Y3 := cell_put R5.out.mp hg5 Z3
        have Y8 := cell_put R5.out.mp hg5 Z8
        unfold rcV at hrun
        dsimp only at hrun
        clear hm5 hg5
        go_wp2_with fail
        go_region_held3 (fun w' => w'.cell? ⟨q, 0, none⟩ = some (.int .i64 pa) ∧ w'.cell? ⟨q, 1, none⟩ = some (.int .i64 pb) ∧ w'.cell? ⟨q, 2, none⟩ = some (.int .i64 c) ∧ w'.cell? ⟨q, 3, none⟩ = some (.bool false) ∧ w'.cell? ⟨b, 8, none⟩ = some (.map (some mb))) (go_keep) (fail)
        go_wp2_with fail
        go_ret2
        exact FIN.out
  | true =>
    go_wp2_with fail
    go_region_held3 (fun w' => w'.cell? ⟨q, 2, none⟩ = some (.int .i64 c) ∧ w'.cell? ⟨b, c, none⟩ = some (.pointer (some ⟨(cs c).b, 0, none⟩))) (go_keep) (fail)
    go_wp2_with fail
    have D1 := DO.out W.drew.drew (Below.refl W.heap.size W).drew.drew
    simp only [if_true] at D1
    refine D1.mono ?_
    rintro r w3 ⟨rfl, ht3, hk3⟩
    have R3 := Lib.hid ((HR.out.below (Below.refl W.heap.size W).drew.drew).turn hc8 ht3 (k := celN true (cs c) e f) hk3 rfl)
    have T3 := Lib.hid (show Turned (PS mb c cs) w w3 from (turned_below (below_trans B1.out (Below.refl W.heap.size W).drew.drew B1.out.size)).trans ht3 (fun _ _ hh => hh) (fun i _ hh => .inr hh))
    have e0 := (turned_cell ht3 (p := ⟨q, 0, none⟩) (block_lt_of_cell c0) NQ.out).trans c0
    have e1 := (turned_cell ht3 (p := ⟨q, 1, none⟩) (block_lt_of_cell c1) NQ.out).trans c1
    have e2 := (turned_cell ht3 (p := ⟨q, 2, none⟩) (block_lt_of_cell c2) NQ.out).trans c2
    have e3 := (turned_cell ht3 (p := ⟨q, 3, none⟩) (block_lt_of_cell c3) NQ.out).trans c3
    obtain ⟨-, r8⟩ := R3.out.cells
    have R4 := Lib.hid (R3.out.below ((Below.refl w3.heap.size w3).alloc (Nat.le_refl _) (.cells #[.int .i64 0, .int .i64 0, .int .i64 0, .int .i64 0, .bool false] 38)))
    have LK := (R4.out.mp.kept (w' := (w3.alloc (.cells #[.int .i64 0, .int .i64 0, .int .i64 0, .int .i64 0, .bool false] 38)).drew) rfl).look c KW.out
    have LK0 := (R3.out.mp.kept (w' := w3.drew) rfl).look c KW.out
    obtain ⟨y, hy⟩ : ∃ y, celF true (cs c) e f = y := ⟨_, rfl⟩
    obtain ⟨s, hs⟩ : ∃ s, (M c).isSome = s := ⟨_, rfl⟩
    obtain ⟨⟨g0, g1, g2, g3, g4⟩, hr0⟩ : ∃ r0, (M c).getD rce0 = r0 := ⟨_, rfl⟩
    rw [hy]
    rw [hs, hr0] at LK LK0
    unfold rcV at LK LK0
    dsimp only at LK LK0
    have HY := Lib.hid hy
    have HS := Lib.hid hs
    clear ht3 hk3 hy hs hr0 D1 c0 c1 c2 c3 rcc
    go_wp2_with fail
    go_region_held3 (fun w' => w'.cell? ⟨q, 2, none⟩ = some (.int .i64 c) ∧ w'.cell? ⟨b, 8, none⟩ = some (.map (some mb))) (go_keep) (fail)
    all_goals
      have al : Below w3.heap.size w3 (w3.alloc (.cells #[.int .i64 g0, .int .i64 g1, .int .i64 g2, .int .i64 g3, .bool g4] 38)).drew := ((Below.refl _ _).alloc (Nat.le_refl _) _).drew
      have R5 := Lib.hid (R3.out.below al)
      have T5 := Lib.hid (T3.out.trans (turned_below al) (fun _ _ hh => hh) (fun _ _ hh => hh))
      have Z0 := (al.cell (p := ⟨q, 0, none⟩) (block_lt_of_cell e0)).trans e0
      have Z1 := (al.cell (p := ⟨q, 1, none⟩) (block_lt_of_cell e1)).trans e1
      have Z2 := (al.cell (p := ⟨q, 2, none⟩) (block_lt_of_cell e2)).trans e2
      have Z3 := (al.cell (p := ⟨q, 3, none⟩) (block_lt_of_cell e3)).trans e3
      obtain ⟨-, Z8⟩ := R5.out.cells
      obtain ⟨W4, hW4⟩ : ∃ W4, (w3.alloc (.cells #[.int .i64 g0, .int .i64 g1, .int .i64 g2, .int .i64 g3, .bool g4] 38)).drew = W4 := ⟨_, rfl⟩
      rw [hW4] at R5 T5 Z0 Z1 Z2 Z3 Z8 ⊢
      clear hW4 al LK LK0 e0 e1 e2 e3 r8
      by_cases hy0 : y = 0
      · subst hy0
        go_wp2_with fail
        go_ret2
        exact ⟨false, M, n, rfl, by omega, R5.out, T5.out, .inl ⟨.inl HY.out, rfl, rfl⟩⟩
      have h9 : (y == 0) = false := by simp [hy0]
      cases s with
      | true =>
        go_wp2_with fail
        go_ret2
        exact ⟨false, M, n, rfl, by omega, R5.out, T5.out, .inl ⟨.inr HS.out, rfl, rfl⟩⟩
      | false =>
        obtain ⟨w5, hrun, hm5, hg5⟩ := (R5.out.mp.kept (w' := W4.drew) rfl).put hn c KW.out ⟨c, pa, pb, y, true⟩
        have FIN := Lib.hid (show PutPost B b mb n M cs ⟨pa, pb, c, true⟩ c e f w (.returned (.tuple #[.bool true, .int .i64 0])) w5 from ⟨true, _, n + 1, rfl, Nat.le_refl _, R5.out.put (w' := w5) hm5 hg5, T5.out.trans (turned_grown hg5) (fun _ _ hh => hh) (fun _ _ hh => .inl hh), .inr ⟨by show celF true (cs c) e f ≠ 0; rw [HY.out]; exact hy0, Option.isNone_iff_eq_none.1 (by have h1 := HS.out; cases hMc : M c with | none => rfl | some _ => rw [hMc] at h1; cases h1), rfl, by show _ = putM M c ⟨c, pa, pb, celF true (cs c) e f, true⟩; rw [HY.out]⟩⟩)
        have Y0 := cell_put R5.out.mp hg5 Z0
        have Y1 := cell_put R5.out.mp hg5 Z1
        have Y2 := cell_put R5.out.mp hg5 Z2
        have Y3 := cell_put R5.out.mp hg5 Z3
        have Y8 := cell_put R5.out.mp hg5 Z8
        unfold rcV at hrun
        dsimp only at hrun
        clear hm5 hg5
        go_wp2_with fail
        go_region_held3 (fun w' => w'.cell? ⟨q, 0, none⟩ = some (.int .i64 pa) ∧ w'.cell? ⟨q, 1, none⟩ = some (.int .i64 pb) ∧ w'.cell? ⟨q, 2, none⟩ = some (.int .i64 c) ∧ w'.cell? ⟨q, 3, none⟩ = some (.bool true) ∧ w'.cell? ⟨b, 8, none⟩ = some (.map (some mb))) (go_keep) (fail)
        go_wp2_with fail
        go_ret2
        exact FIN.out
end Go.Proofs.Ytkcnbkdpjlpppaa

