
/-
  The contracts of package reel's functions: each call returns what the plain functions (Num) say, and writes no old memory.
-/
import Derived.Test.YtpefjcmaggimhaaProg
import Derived.Test.YtpefjcmaggimhaaStr
import Derived.WalkKit
import Derived.WalkSpells
import Derived.WalkMore
import Derived.ScopeJumps
import Derived.KernelRfl
import Derived.Lib.Hide
import Derived.Laws.BitsLemmas
import Derived.Laws.BytesString
import Derived.Laws.BytesArg
namespace Go
/-- As Q; by a goto to label l: J l. -/
def Exit.jumps (J : Nat → Act → World → Prop) (Q : Exit → Act → World → Prop) : Exit → Act → World → Prop
  | .goto l, a, w => J l a w
  | e, a, w => Q e a w

theorem wp_scope_many {P : Program} {a : Act} {w : World} {Q : Exit → Act → World → Prop} {c : Code} (J : Nat → Act → World → Prop) (μ : Nat → Act → World → Nat)
    (first : c.wp P (Exit.jumps J Q) a w)
    (pass : ∀ l a w, J l a w → ∃ rest, findLabel c l = some rest ∧ rest.wp P (Exit.jumps (fun l' a' w' => J l' a' w' ∧ μ l' a' w' < μ l a w) Q) a w) : (Code.scope c).wp P Q a w := by
  intro b k cs
  have hg : ∀ l rest, findLabel c l = some rest → gotoIn l (.inScope c :: k) = some (.code rest :: .inScope c :: k) := fun l rest hf => by simp [gotoIn, hf]
  have key : ∀ n l a w rest, findLabel c l = some rest → μ l a w = n → J l a w → ∃ e a' w', Q e a' w' ∧ Arrives P (lone (b.at a (.code rest :: .inScope c :: k)) cs w) b k cs e a' w' := by
    intro n
    induction n using Nat.strongRecOn with
    | _ n ih =>
      intro l a w rest hf hn hJ
      obtain ⟨rest', hf', hp⟩ := pass l a w hJ
      rw [hf] at hf'
      obtain rfl := Option.some.inj hf'
      obtain ⟨e, a₁, w₁, hq, harr⟩ := hp b (.inScope c :: k) cs
      cases e with
      | normal => exact ⟨.normal, a₁, w₁, hq, Steps.trans harr (.one step_inScope)⟩
      | exit id => exact ⟨.exit id, a₁, w₁, hq, fun k' hk => harr k' (by simp [exitTo, hk])⟩
      | goto l' =>
        obtain ⟨hJ', hlt⟩ := hq
        obtain ⟨r2, hf2, _⟩ := pass l' a₁ w₁ hJ'
        obtain ⟨e₂, a₂, w₂, hq₂, harr₂⟩ := ih _ (by omega) l' a₁ w₁ r2 hf2 rfl hJ'
        exact ⟨e₂, a₂, w₂, hq₂, .of_steps (harr _ (hg l' r2 hf2)) harr₂⟩
      | ret => exact ⟨_, a₁, w₁, hq, harr⟩
      | panic ch => exact ⟨_, a₁, w₁, hq, harr⟩
      | outgrown => exact ⟨_, a₁, w₁, hq, harr⟩
  obtain ⟨e, a₁, w₁, hq, harr⟩ := first b (.inScope c :: k) cs
  cases e with
  | normal => exact ⟨.normal, a₁, w₁, hq, .head step_scope (Steps.trans harr (.one step_inScope))⟩
  | exit id => exact ⟨.exit id, a₁, w₁, hq, fun k' hk => .head step_scope (harr k' (by simp [exitTo, hk]))⟩
  | goto l' =>
    obtain ⟨r2, hf2, _⟩ := pass l' a₁ w₁ hq
    obtain ⟨e₂, a₂, w₂, hq₂, harr₂⟩ := key _ l' a₁ w₁ r2 hf2 rfl hq
    exact ⟨e₂, a₂, w₂, hq₂, .of_steps (.head step_scope (harr _ (hg l' r2 hf2))) harr₂⟩
  | ret => exact ⟨_, a₁, w₁, hq, .of_steps (.one step_scope) harr⟩
  | panic ch => exact ⟨_, a₁, w₁, hq, .of_steps (.one step_scope) harr⟩
  | outgrown => exact ⟨_, a₁, w₁, hq, .of_steps (.one step_scope) harr⟩
end Go
namespace Go.Proofs.Ytpefjcmaggimhaa
open Go.RowKit
set_option linter.unusedVariables false
set_option linter.unusedSimpArgs false

def okN (n : Int) : Bool := decide (0 ≤ n ∧ n ≤ 1099511627776)
def sizeI (n : Int) : Int := if okN n then (sizeN n.toNat : Int) else 0

def SizeRest (w : World) (goal : Int) (l : Nat) (a : Act) (w' : World) : Prop :=
  w' = w ∧ ∃ (m : Nat) (s : Int) (u2 u4 u5 u6 u7 u8 u9 u10 u11 u12 u13 u14 u15 u16 u17 u18 : Value), m ≤ mostN ∧ 0 ≤ s ∧ s ≤ 100 ∧
    a = { tmps := #[.int .i64 m, u2, .int .i64 0, .int .i64 s, u4, u5, u6, u7, u8, u9, u10, u11, u12, u13, u14, u15, u16, u17, u18], defers := [] } ∧
    ((l = 0 ∧ goal = s) ∨ (l = 1 ∧ goal = s + nby m ∧ s + nby m ≤ 100))

set_option maxRecDepth 1000000 in
theorem size_yes (n : Nat) (w : World) (h : n ≤ mostN) :
    Calls Try.prog 52 #[.int .i64 n] w fun r w' => r = .returned (.int .i64 (sizeN n)) ∧ w = w' := by
  have h1 : (n : Int) ≤ 1099511627776 := by unfold mostN at h; omega
  have h0 : 0 ≤ (n : Int) := by omega
  go_enter Try.func52, Try.ntmps52
  go_wp2
  refine wp_scope_many (SizeRest w (sizeN n)) (fun l a _ => match l with | 1 => (intOf (a.tmps.getD 0 undef)).toNat + 1 | _ => 0) ?_ ?_
  · go_wp2
    · go_step3
      have hn : (n : Int) < 240 := by assumption
      have e : sizeN n = 1 := by rw [sizeN, if_pos (by omega)]
      exact ⟨rfl, n, 1, _, _, _, _, _, _, _, _, _, _, _, _, _, _, _, _, h, by omega, by omega, rfl, .inl ⟨rfl, by rw [e]; rfl⟩⟩
    · go_step3
      have hn : 240 ≤ (n : Int) := by assumption
      go_wp2
      · go_step3
        have hq0 : 0 < (n : Int) / 256 := by assumption
        obtain ⟨q, hq⟩ : ∃ q : Nat, n / 256 = q := ⟨_, rfl⟩
        have hqi : (n : Int) / 256 = (q : Int) := by omega
        have e : sizeN n = 2 + nby q := by rw [sizeN, if_neg (by omega), nby_big (by omega), hq]; omega
        have hq6 := nby_most (n := q) (by unfold mostN at *; omega)
        rw [hqi]
        exact ⟨rfl, q, 2, _, _, _, _, _, _, _, _, _, _, _, _, _, _, _, _, by unfold mostN at *; omega, by omega, by omega, rfl, .inr ⟨rfl, by rw [e]; omega, by omega⟩⟩
      · have hq0 : (n : Int) / 256 ≤ 0 := by assumption
        have e : sizeN n = 2 := by rw [sizeN, if_neg (by omega), nby_small (by omega)]
        have E := Lib.hid e
        clear e
        go_step3
        go_wp2
        simp only [Exit.jumps]
        go_ret
        exact ⟨by rw [E.out]; rfl, rfl⟩
  · rintro l a w' ⟨rfl, m, s, u2, u4, u5, u6, u7, u8, u9, u10, u11, u12, u13, u14, u15, u16, u17, u18, hm, hs0, hs1, rfl, hJ⟩
    rcases hJ with ⟨rfl, hg⟩ | ⟨rfl, hg, hb⟩
    · refine ⟨_, rfl, ?_⟩
      have H := Lib.hid hg
      clear hg
      go_wp2
      simp only [Exit.jumps]
      go_ret
      exact ⟨by rw [H.out]; rfl, rfl⟩
    · refine ⟨_, rfl, ?_⟩
      have H := Lib.hid hg
      clear hg
      have hbb : s ≤ 99 := by have := nby_pos m; omega
      go_wp2
      · have hq0 : 0 < (m : Int) / 256 := by assumption
        obtain ⟨q, hq⟩ : ∃ q : Nat, m / 256 = q := ⟨_, rfl⟩
        have hqi : (m : Int) / 256 = (q : Int) := by omega
        have e : nby m = 1 + nby q := by rw [nby_big (by omega), hq]
        rw [hqi]
        go_step3
        refine ⟨⟨rfl, q, s + 1, _, _, _, _, _, _, _, _, _, _, _, _, _, _, _, _, by unfold mostN at *; omega, by omega, by omega, rfl, .inr ⟨rfl, by rw [H.out, e]; omega, by omega⟩⟩, ?_⟩
        simp [intOf]; omega
      · have hq0 : (m : Int) / 256 ≤ 0 := by assumption
        have e : nby m = 1 := nby_small (by omega)
        have E := Lib.hid e
        clear e
        go_step3
        go_wp2
        simp only [Exit.jumps]
        go_ret
        exact ⟨by rw [H.out, E.out]; rfl, rfl⟩

theorem size_no (n : Int) (w : World) (h : okN n = false) :
    Calls Try.prog 52 #[.int .i64 n] w fun r w' => r = .returned (.int .i64 0) ∧ w = w' := by
  have hn := of_decide_eq_false h
  clear h
  go_enter Try.func52, Try.ntmps52
  go_wp2
  go_step3
  go_wp2
  all_goals (try rw [Exit.noGoto_ret])
  all_goals (go_ret; exact ⟨rfl, rfl⟩)

theorem size_any (n : Int) (w : World) :
    Calls Try.prog 52 #[.int .i64 n] w fun r w' => r = .returned (.int .i64 (sizeI n)) ∧ w = w' := by
  unfold sizeI
  cases h : okN n with
  | true =>
    obtain ⟨a, b⟩ := of_decide_eq_true h
    obtain ⟨m, rfl⟩ := Int.eq_ofNat_of_zero_le a
    exact (size_yes m w (by unfold mostN; omega)).mono fun r w' hh => by simpa using hh
  | false => exact (size_no n w h).mono fun r w' hh => by simpa using hh

theorem info_u8 : (Try.prog.info? 5).map (fun i => (i.zero, i.size, i.bytes)) = some (some (.int .u8 0), 1, 1) := by kernel_rfl

theorem byt_byte (n j : Nat) (hj : 0 < j) : (Value.int .u8 ((n : Int) / 2 ^ (8 * (j - 1)) % 256)) = .int .u8 ((UInt8.ofNat (n / 256 ^ (j - 1) % 256)).toNat : Int) := by
  have h1 : (UInt8.ofNat (n / 256 ^ (j - 1) % 256)).toNat = n / 256 ^ (j - 1) % 256 := by simp
  rw [h1]
  have h2 : (2 : Nat) ^ (8 * (j - 1)) = 256 ^ (j - 1) := by rw [Nat.pow_mul]
  have h3 : ((2 : Int) ^ (8 * (j - 1))) = ((256 ^ (j - 1) : Nat) : Int) := by rw [← h2]; norm_cast
  rw [h3, ← Int.natCast_ediv]
  congr 1

theorem put_step (k0 n j : Nat) (done : List UInt8) (hj : 0 < j) (h : done ++ be j n = be k0 n) :
    (done ++ [UInt8.ofNat (n / 256 ^ (j - 1) % 256)]) ++ be (j - 1) n = be k0 n := by
  obtain ⟨i, rfl⟩ : ∃ i, j = i + 1 := ⟨j - 1, by omega⟩
  simpa [be] using h

/-- What Put returns of a number. -/
theorem put_big (n : Nat) (w : World) (h : n ≤ mostN) (h2 : 240 ≤ n) :
    Calls Try.prog 22 #[.int .i64 n] w fun r w' => r = .returned (.tuple #[bs (enc n), .int .i64 0]) ∧ Below w.heap.size w w' := by
  have h6 := nby_most h
  have hp := nby_pos n
  have hm : (n : Int) ≤ 1099511627776 := by unfold mostN at h; omega
  obtain ⟨i0, hi, hz0, hz1, hz2⟩ := info_parts info_u8
  obtain ⟨k0, hk0⟩ : ∃ k0, nby n = k0 := ⟨_, rfl⟩
  have hsz : (sizeN n : Int) = (k0 : Int) + 1 := by rw [sizeN, if_neg (by omega), hk0]; omega
  obtain ⟨c, hc⟩ : ∃ c, UInt8.ofNat (240 + k0) = c := ⟨_, rfl⟩
  have E := Lib.hid (show enc n = c :: be k0 n by rw [enc_big h2, hk0, hc])
  rw [hk0] at h6 hp
  have C := Lib.hid (show c.toNat = 240 + k0 by rw [← hc]; simp; omega)
  clear hc
  have K0 := Lib.hid hk0
  clear hk0
  have hk00 : ((k0 : Int) == 0) = false := by simp; omega
  have hk01 : decide ((k0 : Int) < 0) = false := by simp
  go_enter Try.func22, Try.ntmps22
  go_wp2_with fail
  refine (size_yes n _ h).mono ?_
  rintro r w' ⟨rfl, rfl⟩
  rw [hsz]
  go_wp2_with fail
  go_loopw [4, 5] (fun kv v wr => ∃ (j : Nat) (done : List UInt8), j ≤ k0 ∧ kv = .int .i64 j ∧ done ++ be j n = be k0 n ∧ wr.ownsRow w.heap.size 5 1 v (done.length + 1) (byt (c :: done)) ∧ Below w.heap.size w wr) (fun kv _ _ => (intOf kv).toNat)
  case atStart =>
    refine ⟨k0, [], Nat.le_refl _, rfl, rfl, ?_, (Below.refl _ _).alloc (Nat.le_refl _) _⟩
    have := World.ownsRow_lit (base := w.heap.size) (e := 5) (size := 1) w #[.int .u8 (240 + (k0 : Int))] 1 (Nat.le_refl _) (by unfold maxLen; omega) rfl
    have e : byt [c] = [.int .u8 (240 + (k0 : Int))] := by
      unfold byt
      rw [List.map_singleton, C.out]
      simp
    rw [e]
    exact this
  case round =>
    obtain ⟨j, done, hj, rfl, hd, hown, hb⟩ := hrel
    have D := Lib.hid hd
    clear hd
    by_cases hlt : 0 < j
    · have hl : done.length + j = k0 := by have := congrArg List.length D.out; simpa [length_be] using this
      have HL := Lib.hid hl
      have hl2 : done.length ≤ 6 := by omega
      clear hl
      go_wp2_with (at_builtin; refine wpList_append_own _ rfl _ _ 52 rfl w.heap.size 5 i0 (.int .u8 0) 1 1 Try.underlying52 hi hz0 hz1 hz2 rfl (by decide) _ _ _ rfl (hown.alloc _) ⟨wr.heap.size, 0, none⟩ 1 1 [.int .u8 ((n : Int) / 2 ^ (8 * (j - 1)) % 256)] rfl rfl ?c1 ?c2 ?c3 ?c4 ?c5 ?_)
      case c1 =>
        intro j u hj
        match j, hj with
        | 0, hj => simp at hj; subst hj; simp [Addr.add]
      case c2 => intro u hu; simp at hu; subst hu; rfl
      case c3 => unfold maxLen; omega
      case c4 => omega
      case c5 => have := hb.size; simp; omega
      · intro v' w1 hown' hgrow _
        have hb' : Below w.heap.size w w1 := (hb.alloc hb.size _).grown hgrow (by have := hb.size; simp; omega) (fun k hk => (hown.lt k hk).1)
        rw [byt_byte n j hlt] at hown'
        have ho : w1.ownsRow w.heap.size 5 1 v' ((done ++ [UInt8.ofNat (n / 256 ^ (j - 1) % 256)]).length + 1) (byt (c :: (done ++ [UInt8.ofNat (n / 256 ^ (j - 1) % 256)]))) := by
          simpa [byt] using hown'
        have D2 := Lib.hid (put_step k0 n j done hlt D.out)
        clear hown' hgrow hown hb
        go_wp2
        go_roundw
        case rel => exact ⟨j - 1, _, by omega, by go_num, D2.out, ho, hb'⟩
        case measure => simp [intOf]; omega
    · have hs := run_string_own (P := Try.prog) 52 9 Try.underlying52 Try.underlying5 Try.underlying9 hown
      have hj0 : j = 0 := by omega
      have hd := D.out
      rw [hj0] at hd
      simp only [be, List.append_nil] at hd
      have D2 := Lib.hid (show enc n = c :: done by rw [E.out, hd])
      clear hd
      go_wp2
      go_ret2
      exact ⟨by rw [D2.out]; rfl, hb⟩

theorem put_small (n : Nat) (w : World) (h2 : n < 240) :
    Calls Try.prog 22 #[.int .i64 n] w fun r w' => r = .returned (.tuple #[bs (enc n), .int .i64 0]) ∧ Below w.heap.size w w' := by
  have hsz : (sizeN n : Int) = 1 := by rw [sizeN, if_pos h2]; rfl
  obtain ⟨c, hc⟩ : ∃ c, UInt8.ofNat n = c := ⟨_, rfl⟩
  have E := Lib.hid (show enc n = [c] by rw [enc_small h2, hc])
  have hcn : c.toNat = n := by rw [← hc]; simp; omega
  clear hc
  have hs := fun (W : World) (h : W.ownsRow w.heap.size 5 1 (.slice (some ⟨w.heap.size, 0, none⟩) 1 1) 1 (byt [c])) => run_string_own (P := Try.prog) 52 9 Try.underlying52 Try.underlying5 Try.underlying9 h
  have ho := World.ownsRow_lit (base := w.heap.size) (e := 5) (size := 1) w #[.int .u8 (n : Int)] 1 (Nat.le_refl _) (by unfold maxLen; omega) rfl
  have e : byt [c] = [.int .u8 (n : Int)] := by
    unfold byt
    rw [List.map_singleton, hcn]
  have ho2 : (w.alloc (.cells #[.int .u8 (n : Int)] 5)).ownsRow w.heap.size 5 1 (.slice (some ⟨w.heap.size, 0, none⟩) 1 1) 1 (byt [c]) := by rw [e]; exact ho
  have hs := hs _ ho2
  clear e ho ho2 hcn
  have hn2 : (n : Int) < 240 := by omega
  go_enter Try.func22, Try.ntmps22
  go_wp2_with fail
  refine (size_yes n _ (by unfold mostN; omega)).mono ?_
  rintro r w' ⟨rfl, rfl⟩
  rw [hsz]
  go_wp2
  go_ret2
  exact ⟨by rw [E.out]; rfl, (Below.refl _ _).alloc (Nat.le_refl _) _⟩

theorem put_no (n : Int) (w : World) (h : okN n = false) :
    Calls Try.prog 22 #[.int .i64 n] w fun r w' => r = .returned (.tuple #[bs [], .int .i64 1]) ∧ Below w.heap.size w w' := by
  go_enter Try.func22, Try.ntmps22
  go_wp2_with fail
  refine (size_no n _ h).mono ?_
  rintro r w' ⟨rfl, rfl⟩
  go_wp2
  go_ret2
  exact ⟨rfl, Below.refl _ _⟩

def putE (n : Int) : Int := if okN n then 0 else 1
def putS (n : Int) : List UInt8 := if okN n then enc n.toNat else []
theorem put_yes (n : Nat) (w : World) (h : n ≤ mostN) :
    Calls Try.prog 22 #[.int .i64 n] w fun r w' => r = .returned (.tuple #[bs (enc n), .int .i64 0]) ∧ Below w.heap.size w w' := by
  by_cases h2 : n < 240
  · exact put_small n w h2
  · exact put_big n w h (by omega)
theorem put_any (n : Int) (w : World) :
    Calls Try.prog 22 #[.int .i64 n] w fun r w' => r = .returned (.tuple #[bs (putS n), .int .i64 (putE n)]) ∧ Below w.heap.size w w' := by
  unfold putS putE
  cases h : okN n with
  | true =>
    obtain ⟨a, b⟩ := of_decide_eq_true h
    obtain ⟨m, rfl⟩ := Int.eq_ofNat_of_zero_le a
    exact (put_yes m w (by unfold mostN; omega)).mono fun r w' hh => by simpa using hh
  | false => exact (put_no n w h).mono fun r w' hh => by simpa using hh


end Go.Proofs.Ytpefjcmaggimhaa

