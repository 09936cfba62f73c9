
/-
  retire.Of: the closures, slices.IndexFunc, slices.ContainsFunc.
-/
import Derived.Test.YtcfkokjfhjdbfaaRetA
namespace Go.Proofs.Ytcfkokjfhjdbfaa
open Go.RowKit
set_option linter.unusedVariables false
set_option linter.unusedSimpArgs false
set_option maxRecDepth 100000

theorem quiet_add_left {P : Program} {f : FuncId} {args : Array Value} {w : World} {a n : Nat} {v : Value}
    (h : Calls P f args (w.drewN (a + n)) fun e w' => e = .returned v ∧ w.drewN (a + n) = w') :
    Calls P f args (w.drewN (a + n)) fun e w'' => e = .returned v ∧ ∃ m, w'' = w.drewN (a + m) :=
  h.mono fun _ _ ⟨he, hm⟩ => ⟨he, n, hm.symm⟩
theorem quiet_left {P : Program} {f : FuncId} {args : Array Value} {w : World} {n : Nat} {v : Value}
    (h : Calls P f args (w.drewN n) fun e w' => e = .returned v ∧ w.drewN n = w') : Calls P f args (w.drewN n) fun e w'' => e = .returned v ∧ ∃ m, w'' = w.drewN m :=
  h.mono fun _ _ ⟨he, hm⟩ => ⟨he, n, hm.symm⟩
theorem CkAt.drawn {w : World} {b : Nat} {k : Ck} (h : CkAt w b k) (n : Nat) : CkAt (w.drewN n) b k := h.frame (fun _ _ _ => rfl)

/-- A slice value of clocks. -/
def CksOf (w : World) (v : Value) (n : Nat) (bs : Nat → Nat) (ks : Nat → Ck) : Prop :=
  ∃ ao cap, v = .slice ao n cap ∧ (0 < n → ∃ b o, ao = some ⟨b, o, none⟩ ∧ ∀ j, j < n → w.cell? ⟨b, o + j, none⟩ = some (.pointer (some ⟨bs j, 0, none⟩)) ∧ CkAt w (bs j) (ks j))

theorem other_any (b pt pc : Nat) (k : Ck) (t cut : Int) (w : World) (h : CkAt w b k) (ht : w.cell? ⟨pt, 0, none⟩ = some (.int .i64 t)) (hc : w.cell? ⟨pc, 0, none⟩ = some (.int .i64 cut)) :
    Calls Try.prog 19 #[.pointer (some ⟨b, 0, none⟩), .pointer (some ⟨pt, 0, none⟩), .pointer (some ⟨pc, 0, none⟩)] w fun r w' => r = .returned (.bool (at0 k.xs t != cut)) ∧ ∃ n, w' = w.drewN n := by
  go_enter Try.func19, Try.ntmps19
  go_wp2_with fail
  go_quiet ((go_at_call 16; first | exact quiet_left (get_any b k t _ (h.drawn _)) | exact quiet_add_left (get_any b k t _ (h.drawn _))))
  go_wp2
  go_ret
  exact ⟨rfl, _, by first | rfl | exact World.drewN_drewN ..⟩

theorem more_any (b pt pc : Nat) (k : Ck) (t cut : Int) (w : World) (h : CkAt w b k) (ht : w.cell? ⟨pt, 0, none⟩ = some (.int .i64 t)) (hc : w.cell? ⟨pc, 0, none⟩ = some (.int .i64 cut)) :
    Calls Try.prog 20 #[.pointer (some ⟨b, 0, none⟩), .pointer (some ⟨pt, 0, none⟩), .pointer (some ⟨pc, 0, none⟩)] w fun r w' => r = .returned (.bool (decide (cut < at0 k.xs t))) ∧ ∃ n, w' = w.drewN n := by
  go_enter Try.func20, Try.ntmps20
  go_wp2_with fail
  go_quiet ((go_at_call 16; first | exact quiet_left (get_any b k t _ (h.drawn _)) | exact quiet_add_left (get_any b k t _ (h.drawn _))))
  go_wp2
  go_ret
  exact ⟨rfl, _, by first | rfl | exact World.drewN_drewN ..⟩

/-- Is there one of the first n? -/
def anyTo (n : Nat) (p : Nat → Bool) : Bool := decide (∃ j, j < n ∧ p j = true)

theorem index_any (fid : Nat) (q1 q2 : Value) (v : Value) (n : Nat) (bs : Nat → Nat) (ks : Nat → Ck) (p : Nat → Bool) (w : World) (h : CksOf w v n bs ks) (hn : n ≤ 1000) (he : ∀ args w, (callFunc fid args).run Try.prog w = .ok (.enter fid args) w)
    (hf : ∀ j, j < n → ∀ m, Calls Try.prog fid #[.pointer (some ⟨bs j, 0, none⟩), q1, q2] (w.drewN m) fun r w' => r = .returned (.bool (p j)) ∧ ∃ m', w' = (w.drewN m).drewN m') :
    Calls Try.prog 25 #[v, .func (.func fid) #[] #[q1, q2]] w fun r w' => (∃ i : Int, r = .returned (.int .i64 i) ∧ (0 ≤ i ↔ anyTo n p = true) ∧ i < 1000) ∧ ∃ m, w' = w.drewN m := by
  obtain ⟨ao, cap, rfl, hc⟩ := h
  have HC := Lib.hid hc
  clear hc
  go_enter Try.func25, Try.ntmps25
  go_wp2_with fail
  go_loopw [8] (fun i wr => ∃ k m : Nat, k ≤ n ∧ i = .int .i64 k ∧ (∀ j, j < k → p j = false) ∧ wr = w.drewN m) (fun i _ => n - (intOf i).toNat)
  case atStart => exact ⟨0, 0, by omega, rfl, fun j hj => by omega, rfl⟩
  case round =>
    obtain ⟨k, m, hk, rfl, hp, rfl⟩ := hrel
    have P := Lib.hid hp
    clear hp
    by_cases hlt : k < n
    · have hlt' : (k : Int) < n := by omega
      obtain ⟨g, z, rfl, hcc⟩ := HC.out (by omega)
      have c0 := (hcc k hlt).1
      clear hcc
      go_wp2_with fail
      refine (hf k hlt m).mono ?_
      rintro r w2 ⟨rfl, m', rfl⟩
      rw [World.drewN_drewN]
      cases hq : p k with
      | true =>
        have S := Lib.hid (show anyTo n p = true from decide_eq_true ⟨k, hlt, hq⟩)
        clear hq
        go_wp2_with fail
        go_ret
        exact ⟨⟨k, rfl, by rw [S.out]; simp, by omega⟩, _, rfl⟩
      | false =>
        have S := Lib.hid (show ∀ j, j < k + 1 → p j = false from fun j hj => by
          by_cases hjk : j = k
          · subst hjk; exact hq
          · exact P.out j (by omega))
        clear hq
        go_wp2_with fail
        go_roundw
        case rel => exact ⟨k + 1, _, by omega, by go_num, S.out, rfl⟩
        case measure => simp [intOf] <;> omega
    · have hge : (n : Int) ≤ k := by omega
      have S := Lib.hid (show anyTo n p = false from decide_eq_false (fun ⟨j, hj, e⟩ => by rw [P.out j (by omega)] at e; cases e))
      clear hlt
      go_wp2_with fail
      go_ret
      exact ⟨⟨-1, rfl, by rw [S.out]; simp, by omega⟩, _, rfl⟩

theorem contains_any (fid : Nat) (q1 q2 : Value) (v : Value) (n : Nat) (bs : Nat → Nat) (ks : Nat → Ck) (p : Nat → Bool) (w : World) (h : CksOf w v n bs ks) (hn : n ≤ 1000) (he : ∀ args w, (callFunc fid args).run Try.prog w = .ok (.enter fid args) w)
    (hf : ∀ j, j < n → ∀ m, Calls Try.prog fid #[.pointer (some ⟨bs j, 0, none⟩), q1, q2] (w.drewN m) fun r w' => r = .returned (.bool (p j)) ∧ ∃ m', w' = (w.drewN m).drewN m') :
    Calls Try.prog 21 #[v, .func (.func fid) #[] #[q1, q2]] w fun r w' => r = .returned (.bool (anyTo n p)) ∧ ∃ m, w' = w.drewN m := by
  have hx := index_any fid q1 q2 v n bs ks p w h hn he hf
  clear hf h
  go_enter Try.func21, Try.ntmps21
  go_wp2_with fail
  refine hx.mono ?_
  rintro r w2 ⟨⟨i, rfl, hi, hi2⟩, m, rfl⟩
  have A := Lib.hid (show decide (0 ≤ i) = anyTo n p by
    cases ha : anyTo n p with
    | true => exact decide_eq_true (hi.2 ha)
    | false => exact decide_eq_false (fun h => by rw [hi.1 h] at ha; cases ha))
  clear hi hx
  go_wp2_with fail
  go_ret
  exact ⟨by rw [← A.out]; rfl, _, rfl⟩

end Go.Proofs.Ytcfkokjfhjdbfaa

