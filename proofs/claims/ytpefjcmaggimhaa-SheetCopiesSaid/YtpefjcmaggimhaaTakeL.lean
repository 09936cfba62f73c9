
/-
  The contracts of reel.TakeList and staitheref03.TakeList: both give what 'takeL' (NumL) says.
-/
import Derived.Test.YtpefjcmaggimhaaList
import Derived.Test.YtpefjcmaggimhaaNumL
namespace Go.Proofs.Ytpefjcmaggimhaa
open Go.RowKit
set_option linter.unusedVariables false
set_option linter.unusedSimpArgs false
set_option maxRecDepth 100000

theorem info_int : (Try.prog.info? 3).map (fun i => (i.zero, i.size, i.bytes)) = some (some (.int .i64 0), 1, 8) := by kernel_rfl

theorem cell_new1 (W : World) (v : Value) (t : TypeId) : (W.alloc (.cells #[v] t)).cell? ⟨W.heap.size, 0, none⟩ = some v := by simp

/-- What TakeList returns: a slice of the call's own with these numbers. -/
def TLPost (t : List Int × List UInt8 × Int) (w : World) (r : Ending) (w' : World) : Prop :=
  ∃ v, r = .returned (.tuple #[v, bs t.2.1, .int .i64 t.2.2]) ∧ w'.ownsRow w.heap.size 3 1 v t.1.length (ints t.1) ∧ Below w.heap.size w w'

theorem takV_eq {s : List UInt8} {x z : Nat} (h : tak s = some (x, z)) : takV s = x ∧ takR s = s.drop z ∧ takE s = 0 := ⟨by simp [takV, h], by simp [takR, h], by simp [takE, h]⟩
theorem takV_none {s : List UInt8} (h : tak s = none) : takV s = 0 ∧ takR s = [] ∧ takE s = 4 := ⟨by simp [takV, h], by simp [takR, h], by simp [takE, h]⟩

set_option maxHeartbeats 1000000 in
theorem takeL_any (s : List UInt8) (most : Int) (w : World) (hl : s.length ≤ 1000000) :
    Calls Try.prog 38 #[bs s, .int .i64 most] w (TLPost (takeL s most) w) := by
  obtain ⟨i0, hi, hz0, hz1, hz2⟩ := info_parts info_int
  cases ht : tak s with
  | none =>
    have F := Lib.hid (takV_none ht)
    have G := Lib.hid (takeL_none (most := most) ht)
    clear ht
    go_enter Try.func38, Try.ntmps38
    go_wp2_with fail
    refine (take_any s _ (by omega)).mono ?_
    rintro r w2 ⟨rfl, n, rfl⟩
    rw [F.out.1, F.out.2.1, F.out.2.2]
    go_wp2
    go_ret3
    rw [G.out]
    exact ⟨_, rfl, World.ownsRow_nil _ _ _ _, below_drewN (Below.refl _ _) _⟩
  | some p =>
    obtain ⟨c, z⟩ := p
    have F := Lib.hid (takV_eq ht)
    by_cases hm : most < (c : Int)
    · have G := Lib.hid (takeL_long ht hm)
      clear ht
      go_enter Try.func38, Try.ntmps38
      go_wp2_with fail
      refine (take_any s _ (by omega)).mono ?_
      rintro r w2 ⟨rfl, n, rfl⟩
      rw [F.out.1, F.out.2.1, F.out.2.2]
      go_wp2
      go_ret3
      rw [G.out]
      exact ⟨_, rfl, World.ownsRow_nil _ _ _ _, below_drewN (Below.refl _ _) _⟩
    · have T := Lib.hid ht
      have hc : (c : Int) ≤ 1099511627776 := by have := (tak_some ht).1; unfold mostN at this; omega
      clear ht
      have hm2 : (c : Int) ≤ most := by omega
      have M := Lib.hid hm
      clear hm
      go_enter Try.func38, Try.ntmps38
      go_wp2_with fail
      refine (take_any s _ (by omega)).mono ?_
      rintro r w2 ⟨rfl, n, rfl⟩
      rw [F.out.1, F.out.2.1, F.out.2.2]
      go_wp2_with fail
      go_loopw [8, 9, 10, 27] (fun rv ev ov kv wr => ∃ (k : Nat) (l : List Int) (q : List UInt8), rv = bs q ∧ ev = .int .i64 0 ∧ kv = .int .i64 k ∧ Mid c (s.drop z) k l q ∧ wr.ownsRow w.heap.size 3 1 ov l.length (ints l) ∧ Below w.heap.size w wr) (fun _ _ _ kv _ => c - (intOf kv).toNat)
      case atStart => exact ⟨0, [], s.drop z, rfl, rfl, rfl, Mid.start _ _, World.ownsRow_nil _ _ _ _, below_drewN (Below.refl _ _) _⟩
      case round =>
        obtain ⟨k, l, q, rfl, rfl, rfl, hmid, hown, hb⟩ := hrel
        have hk := hmid.1
        have hql : q.length ≤ 1000000 := by have := hmid.2.2.1; simp at this; omega
        have hll : l.length ≤ 1000000 := by have := hmid.2.2.1; simp at this; omega
        have H := Lib.hid hmid
        clear hmid
        by_cases hlt : k < c
        · have hlt' : (k : Int) < c := by omega
          cases hq : tak q with
          | none =>
            have Q := Lib.hid (takV_none hq)
            have G := Lib.hid (takeL_bad T.out (show ¬ most < (c : Int) by omega) (H.out.fails hlt hq))
            clear hq
            go_wp2_with fail
            refine (take_any q _ (by omega)).mono ?_
            rintro r w2 ⟨rfl, n, rfl⟩
            rw [Q.out.1, Q.out.2.1, Q.out.2.2]
            go_wp2
            go_ret3
            rw [G.out]
            exact ⟨_, rfl, World.ownsRow_nil _ _ _ _, below_drewN hb _⟩
          | some p =>
            obtain ⟨x, z2⟩ := p
            have Q := Lib.hid (takV_eq hq)
            have N := Lib.hid (H.out.next hlt hq)
            clear hq
            go_wp2_with fail
            refine (take_any q _ (by omega)).mono ?_
            rintro r w2 ⟨rfl, n, rfl⟩
            rw [Q.out.1, Q.out.2.1, Q.out.2.2]
            go_wp2_with (at_builtin; refine wpList_append_own _ rfl _ _ 23 rfl w.heap.size 3 i0 (.int .i64 0) 1 8 Try.underlying23 hi hz0 hz1 hz2 rfl (by decide) _ _ _ rfl (show World.ownsRow _ _ _ _ _ _ _ from (show (wr.drewN n).ownsRow _ _ _ _ _ _ from hown).alloc _) ⟨wr.heap.size, 0, none⟩ 1 1 [.int .i64 (x : Int)] rfl rfl ?c1 ?c2 ?c3 ?c4 ?c5 ?_)
            case c1 =>
              intro j u hj
              match j, hj with
              | 0, hj => simp at hj; subst hj; exact cell_new1 (wr.drewN n) _ _
            case c2 => intro u hu; simp at hu; subst hu; rfl
            case c3 => unfold maxLen; omega
            case c4 => omega
            case c5 => have := hb.size; simp; omega
            · intro v' w1 hown' hgrow _
              have hb' : Below w.heap.size w w1 := ((below_drewN hb n).alloc (below_drewN hb n).size _).grown hgrow (by have := hb.size; simp; omega) (fun k hk => (hown.lt k hk).1)
              have ho : w1.ownsRow w.heap.size 3 1 v' (l ++ [(x : Int)]).length (ints (l ++ [(x : Int)])) := by
                simpa [ints] using hown'
              clear hown' hgrow hown hb
              go_wp2
              go_roundw
              case rel => exact ⟨k + 1, _, _, rfl, rfl, by go_num, N.out, ho, hb'⟩
              case measure => simp [intOf]; omega
        · have hkc : k = c := by omega
          subst hkc
          have G := Lib.hid (takeL_ok T.out (show ¬ most < (k : Int) by omega) H.out.ends)
          go_wp2
          go_ret3
          rw [G.out]
          exact ⟨_, rfl, hown, hb⟩

end Go.Proofs.Ytpefjcmaggimhaa

