
/-
  Report: staithelaw19.does.
-/
import Derived.Test.YtkcnbkdpjlpppaaRptP
import Derived.Deep.DeepCutAuto
namespace Go.Proofs.Ytkcnbkdpjlpppaa
open Go.RowKit
set_option linter.unusedVariables false
set_option linter.unusedSimpArgs false
set_option maxRecDepth 100000
attribute [local go_sem ↓] exec_ld37

def rstpV (s : RStp) : Value := .agg #[.int .i64 s.x.a, .int .i64 s.x.b, .int .i64 s.x.c, .bool s.x.wr, .int .u64 s.e, s.cv, .int .i64 s.tid, .int .i64 s.cut]
theorem Both.keepD {B : Nat} {w w' : World} {b mb n d : Nat} {M : Int → Option Rce} {cs : Nat → Cel} {ms : Nat → M18} {rs : Nat → Qr} (h : Both B w b mb n d M cs ms rs) (ht : Turned (DoSet mb cs d) w w') {i : Nat} {cur : Array Value} {e : TypeId} {fz : Nat × Nat} (hi : w.heap[i]? = some (.cells cur e fz)) (h1 : e ≠ 97) (h2 : e ≠ 72) : w'.heap[i]? = some (.cells cur e fz) := by
  refine (ht.block i (lt_of_heap hi) ?_).trans hi
  rintro (hr | rfl)
  · exact h.rp.blks hi h1 hr
  · obtain ⟨c2, hc⟩ := h.rr.ty
    rw [hi] at hc
    have := Option.some.inj hc
    injection this with e1 e2
    exact h2 e2
theorem of_noR (v : Value) (l : List Int) (w : World) (h : Src w v l) (h0 : ofE l ≠ 0) :
    Calls Try.prog 15 #[v] w fun r w' => r = .returned (.tuple #[.pointer none, .int .i64 (ofE l)]) ∧ w = w' := by
  refine (of_any v l w h).mono ?_
  rintro r w' (⟨h1, _⟩ | ⟨_, h⟩)
  · exact absurd h1 h0
  · exact h
theorem rat_laidR {w w1 w2 : World} {ns : List Int} {Z : Array Value} (hZ : (ints zeros).toArray = Z) (h : Turned (fun i => i = w1.heap.size) (w1.alloc (.cells Z 91)) w2) (hB : Below w.heap.size w w1) : Below w.heap.size w w2 ∧ Below w1.heap.size w1 w2 :=
  ⟨h.below (hB.alloc hB.size _) (Nat.le_refl _) (fun i e => by rw [e]; exact hB.size), h.below ((Below.refl _ _).alloc (Nat.le_refl _) _) (Nat.le_refl _) (fun i e => by rw [e]; exact Nat.le_refl _)⟩
theorem rat_loneR (w : World) (Z : Array Value) (hZ : (ints zeros).toArray = Z) : RAt (w.alloc (.cells Z 91)) w.heap.size zeros := by
  subst hZ; exact rat_new w zeros rfl
theorem ep_natR {e : Int} (h : okE e = true) : ∃ (t : Nat) (n : Int), t < 256 ∧ 1 ≤ n ∧ n ≤ 1048576 ∧ e = ep t n ∧ tid0 e = t ∧ clk0 e = n := by
  obtain ⟨t, c, a, b, d, f, rfl⟩ := ep_of h
  obtain ⟨k, rfl⟩ := Int.eq_ofNat_of_zero_le a
  refine ⟨k, c, by omega, d, f, rfl, ?_, ?_⟩
  · unfold tid0; rw [if_pos h]; unfold ep; omega
  · unfold clk0; rw [if_pos h]; unfold ep; omega
theorem ret_both {B : Nat} {w : World} {b mb n d : Nat} {M : Int → Option Rce} {cs : Nat → Cel} {ms : Nat → M18} {rs : Nat → Qr} (h : Both B w b mb n d M cs ms rs) (tid cut : Int) :
    ∃ z : Int, ∃ P : World → Prop, Calls Try.prog 9 #[.pointer (some ⟨b, 0, none⟩), .int .i64 tid, .int .i64 cut] w.drew (fun r w' => r = .returned (.int .i64 z) ∧ Turned (DoSet mb cs d) w w' ∧ P w') ∧
      ∀ w', Turned (DoSet mb cs d) w w' → P w' → Calls Try.prog 30 #[.pointer (some ⟨d, 0, none⟩), .int .i64 tid, .int .i64 cut] w' (fun r w'' => r = .returned (.int .i64 z) ∧ Turned (DoSet mb cs d) w w'' ∧ ∃ n' M cs' ms rs, n' ≤ n + 1 ∧ Both B w'' b mb n' d M cs' ms rs) := by
  have hd : Both B w.drew b mb n d M cs ms rs := h.below (Below.refl _ _).drew
  have td : Turned (DoSet mb cs d) w w.drew := ⟨rfl, rfl, rfl, Nat.le_refl _, fun _ _ _ => rfl⟩
  cases hb : retBad tid cut with
  | true =>
    refine ⟨1, fun w' => Both B w' b mb n d M cs ms rs, (rret_bad2 B b mb n M cs tid cut w.drew hd.rp hb).mono ?_, fun w' ht hp => (qret_bad d tid cut w' hb).mono ?_⟩
    · rintro r w' ⟨rfl, hbb⟩
      exact ⟨rfl, td.trans (turned_below (S := DoSet mb cs d) hbb) (fun _ _ h => h) (fun _ _ h => h), hd.below hbb⟩
    · rintro r w'' ⟨rfl, rfl⟩
      exact ⟨rfl, ht, n, _, _, _, _, by omega, hp⟩
  | false =>
    rcases ret_cases tid cut with ⟨h2, _⟩ | ⟨_, h1, h2, h3, h4⟩
    · exact absurd (h2.symm.trans hb) (by decide)
    obtain ⟨t, rfl⟩ := Int.eq_ofNat_of_zero_le (show 0 ≤ tid by omega)
    refine ⟨0, fun w' => Rp B w' b mb n 8 M (fun i => retCel t cut (cs i)) ∧ RR w' d ms rs, (pret_any B b mb n M cs t cut w.drew hd.rp hb).mono ?_, fun w' ht hp => (qret_any d ms rs t cut w' hp.2 (by omega) (by omega) (by omega)).mono ?_⟩
    · rintro r w' ⟨rfl, hr6, ht6⟩
      exact ⟨rfl, td.trans ht6 (fun _ _ h => h) (fun _ _ h => .inl (.inr h)), hr6, hd.rr.turnR hd.rp (ht6.mono fun i _ hi => .inr hi)⟩
    · rintro r w'' ⟨rfl, hr7, ht7⟩
      exact ⟨rfl, ht.trans ht7 (fun _ _ h => h) (fun _ _ h => .inr h), n, _, _, _, _, by omega, hp.1.turnD hp.2 ht7, hr7, fun i hi => rel_ret (h.rel i hi) (by omega) (by omega), h.rac, h.out, h.low⟩

set_option maxHeartbeats 8000000 in
theorem rdoes_any (B b mb n d : Nat) (M : Int → Option Rce) (cs : Nat → Cel) (ms : Nat → M18) (rs : Nat → Qr) (s : RStp) (w : World) (h : Both B w b mb n d M cs ms rs) (hn : n < maxLen) (hs : Src w s.cv s.cl) (hu : U64 s.e) :
    Calls Try.prog 17 #[.pointer (some ⟨b, 0, none⟩), .pointer (some ⟨d, 0, none⟩), rstpV s] w (DoesP B b mb n d cs w) := by
  obtain ⟨⟨sa, sb, sc, swr⟩, e, cv, cl, tid, cut⟩ := s
  obtain ⟨ao, ccap, rfl, hsrc⟩ : ∃ ao ccap, cv = .slice ao cl.length ccap ∧ Src w (.slice ao cl.length ccap) cl := by
    obtain ⟨ao, cap, h1, h2⟩ := hs
    dsimp only at h1
    subst h1
    exact ⟨ao, cap, rfl, ⟨ao, cap, rfl, h2⟩⟩
  unfold rstpV
  dsimp only at hu ⊢
  obtain ⟨Z, hZ⟩ : ∃ Z, (ints zeros).toArray = Z := ⟨_, rfl⟩
  have hz := (zero_of_info rinfo).1
  rw [hZ] at hz
  have HZ := Lib.hid hZ
  clear hZ
  obtain ⟨q, hq⟩ : ∃ q, cl.length = q := ⟨_, rfl⟩
  rw [hq] at hsrc ⊢
  obtain ⟨W0, hW0⟩ : ∃ W0, w.alloc (.cells #[.int .i64 sa, .int .i64 sb, .int .i64 sc, .bool swr, .int .u64 e, .slice ao q ccap, .int .i64 tid, .int .i64 cut] 51) = W0 := ⟨_, rfl⟩
  have S0 := Lib.hid (show W0.heap[w.heap.size]? = some (.cells #[.int .i64 sa, .int .i64 sb, .int .i64 sc, .bool swr, .int .u64 e, .slice ao q ccap, .int .i64 tid, .int .i64 cut] 51 (0, 0)) from by rw [← hW0]; exact heap_alloc_new w _)
  have hb0 : Below w.heap.size w W0 := by rw [← hW0]; exact (Below.refl _ _).alloc (Nat.le_refl _) _
  have BO0 := Lib.hid (h.below hb0)
  have B0 := Lib.hid hb0
  have SR0 := Lib.hid (hsrc.below (Nat.le_refl _) hb0)
  have HW0 := Lib.hid hW0
  have U := Lib.hid hu
  have NL := Lib.hid hn
  obtain ⟨p, hp⟩ : ∃ p, w.heap.size = p := ⟨_, rfl⟩
  rw [hp] at S0
  have HP := Lib.hid hp
  obtain ⟨z0, z1, z2, z3, z4, z5, z6, z7⟩ := eight_cells' S0.out
  clear h hs hsrc hb0 hW0 hu hn hp hq
  go_enter Try.func17, Try.ntmps17
  go_upto_region 1 with fail
  rw [HW0.out, HP.out]
  by_cases hcut : 0 ≤ cut
  · obtain ⟨z, P, hp1, hp2⟩ := ret_both BO0.out tid cut
    have P1 := Lib.hid hp1
    have P2 := Lib.hid hp2
    have FIN := Lib.hid (show ∀ w', Turned (DoSet mb cs d) W0 w' → (∃ n' M cs' ms rs, n' ≤ n + 1 ∧ Both B w' b mb n' d M cs' ms rs) → DoesP B b mb n d cs w (.returned (.bool true)) w' from fun w' ht hh => ⟨rfl, (turned_below B0.out).trans ht (fun _ _ h => h) (fun _ _ h => h), hh⟩)
    have KEEP := Lib.hid (show ∀ w', Turned (DoSet mb cs d) W0 w' → w'.cell? ⟨p, 6, none⟩ = some (.int .i64 tid) ∧ w'.cell? ⟨p, 7, none⟩ = some (.int .i64 cut) from fun w' ht => by
      obtain ⟨_, _, _, _, _, _, h6, h7⟩ := eight_cells' (BO0.out.keepD ht S0.out (by decide) (by decide))
      exact ⟨h6, h7⟩)
    clear hp1 hp2
    go_wp2_with fail
    go_region_held3 (fun w' => w'.cell? ⟨p, 6, none⟩ = some (.int .i64 tid) ∧ w'.cell? ⟨p, 7, none⟩ = some (.int .i64 cut)) (go_keep)
      (first | (go_at_call 9; (with_reducible refine P1.out.mono ?_); rintro r w6 ⟨rfl, ht6, hp6⟩; have T6 := Lib.hid ht6; have PP6 := Lib.hid hp6; obtain ⟨j1, j2⟩ := KEEP.out w6 ht6; clear ht6 hp6) | (go_at_call 30; (with_reducible refine (P2.out _ T6.out PP6.out).mono ?_); rintro r w7 ⟨rfl, ht7, hp7⟩; obtain ⟨i1, i2⟩ := KEEP.out w7 ht7; have F := Lib.hid (FIN.out w7 ht7 hp7); clear ht7 hp7))
    go_wp2_with fail
    go_ret
    exact F.out
  · by_cases hof : ofE cl = 0
    · have E0 := Lib.hid hof
      clear hof
      have h0 := U.out.1
      have h1 := U.out.2
      have hm := u64_low e h0 h1
      go_wp2_with fail
      refine (of_yes _ cl W0 SR0.out E0.out).mono ?_
      rintro r w1 ⟨cb, g, rfl, hk, hb1, _, _⟩
      have K1 := Lib.hid (show CkV w1 (.pointer (some ⟨cb, 0, none⟩)) (at0 cl) from .inr ⟨_, _, rfl, hk, rfl⟩)
      have BO1 := Lib.hid (BO0.out.below hb1)
      have B1 := Lib.hid (below_trans B0.out hb1 B0.out.size)
      have S1 := Lib.hid ((hb1.block _ (lt_of_heap S0.out)).trans S0.out)
      have SR1 := Lib.hid (SR0.out.below (Nat.le_refl _) hb1)
      clear hk hb1 z0 z1 z2 z3 z4 z5 z6 z7
      obtain ⟨z0, z1, z2, z3, z4, z5, z6, z7⟩ := eight_cells' S1.out
      go_wp2_with fail
      refine (rof_any _ cl w1 SR1.out).mono ?_
      rintro r w2 ⟨ns, rfl, hlen, hat, hb2⟩
      rw [E0.out]
      have HA := Lib.hid (show ∀ u, at0 cl u = at0 ns u from fun u => (hat E0.out u).symm)
      have HL := Lib.hid hlen
      obtain ⟨Z2, hZ2⟩ : ∃ Z2, (ints ns).toArray = Z2 := ⟨_, rfl⟩
      rw [hZ2]
      have HZ2 := Lib.hid hZ2
      have B2 := Lib.hid hb2
      clear hZ2 hat hlen hb2
      go_wp2_with (with_reducible refine wpList_store_clock rfl (.tmp 9) (.tmp 41) rfl w2.heap.size zeros ns ?hx Z2 ?hy HZ2.out ?h0 HL.out ?_)
      case hx => rfl
      case hy => rfl
      case h0 => exact rat_loneR w2 Z HZ.out
      intro w3 R3 T3
      obtain ⟨hb3, _⟩ := rat_laidR (ns := ns) HZ.out T3 B2.out
      have RT := Lib.hid R3
      have BO3 := Lib.hid (BO1.out.below hb3)
      have K3 := Lib.hid (K1.out.below hb3)
      have B3 := Lib.hid (below_trans B1.out hb3 B1.out.size)
      have S3 := Lib.hid ((hb3.block _ (lt_of_heap S1.out)).trans S1.out)
      obtain ⟨p9, hp9⟩ : ∃ p9, w2.heap.size = p9 := ⟨_, rfl⟩
      rw [hp9] at RT
      have HP9 := Lib.hid hp9
      clear hb3 T3 R3 z0 z1 z2 z3 z4 z5 z6 z7 K1 BO1 BO0 S1 S0 SR0 SR1 B2 B1 hp9
      rw [HP9.out]
      obtain ⟨z0, z1, z2, z3, z4, z5, z6, z7⟩ := eight_cells' S3.out
      go_wp2_with fail
      refine (ref_read_any e w3 h0 h1).mono ?_
      rintro r w4 ⟨rfl, hb4⟩
      unfold rE
      obtain ⟨a0, ha0⟩ : ∃ a, nE e = a := ⟨_, rfl⟩
      obtain ⟨a1, ha1⟩ : ∃ a, xE e = a := ⟨_, rfl⟩
      obtain ⟨a2, ha2⟩ : ∃ a, tid0 e = a := ⟨_, rfl⟩
      obtain ⟨a3, ha3⟩ : ∃ a, clk0 e = a := ⟨_, rfl⟩
      obtain ⟨rd, hrd⟩ : ∃ a, rdk e = a := ⟨_, rfl⟩
      have PL := plE e
      rw [ha0, ha1, hrd] at PL
      rw [ha0, ha1, ha2, ha3, hrd]
      have HA2 := Lib.hid ha2
      have HA3 := Lib.hid ha3
      obtain ⟨k, f, hk, hf, ways⟩ := nil_ways sa sb sc swr e
      rw [hk] at PL
      have PLN := Lib.hid (fun X => ref_plain_val a0 a1 rd a2 a3 k PL X)
      have WY := Lib.hid ways
      have HK := Lib.hid hk
      have HFT := Lib.hid hf
      obtain ⟨W5, hW5⟩ : ∃ W5, w4.alloc (.cells #[.bool a0, .bool a1, .int .i64 a2, .int .i64 a3] 28) = W5 := ⟨_, rfl⟩
      have hb45 : Below w4.heap.size w4 W5 := by rw [← hW5]; exact (Below.refl _ _).alloc (Nat.le_refl _) _
      have hb5 : Below w3.heap.size w3 W5 := below_trans hb4 hb45 hb4.size
      have V5 := Lib.hid (show W5.heap[w4.heap.size]? = some (.cells #[.bool a0, .bool a1, .int .i64 a2, .int .i64 a3] 28 (0, 0)) from by rw [← hW5]; exact heap_alloc_new w4 _)
      have HW5 := Lib.hid hW5
      have BO5 := Lib.hid (BO3.out.below hb5)
      have K5 := Lib.hid (K3.out.below hb5)
      have B5 := Lib.hid (below_trans B3.out hb5 B3.out.size)
      have S5 := Lib.hid ((hb5.block _ (lt_of_heap S3.out)).trans S3.out)
      have R5 := Lib.hid (RT.out.below hb5)
      obtain ⟨p11, hp11⟩ : ∃ p11, w4.heap.size = p11 := ⟨_, rfl⟩
      rw [hp11] at V5
      have HP11 := Lib.hid hp11
      have PUT := rput_do B b mb n M cs ⟨sa, sb, sc, swr⟩ e (some ⟨cb, 0, none⟩) (at0 cl) W5 BO5.out.rp NL.out U.out K5.out
      unfold accV at PUT
      dsimp only at PUT
      have PUT1 := Lib.hid PUT
      clear hb4 hb45 hb5 hW5 ha0 ha1 ha2 ha3 hrd BO3 K3 B3 S3 RT h0 h1 hm hk hf ways PL PUT hp11 z0 z1 z2 z3 z4 z5 z6 z7
      go_upto_region 10 with fail
      rw [HW5.out, HP11.out]
      obtain ⟨z0, z1, z2, z3, z4, z5, z6, z7⟩ := eight_cells' S5.out
      go_wp2_with fail
      refine PUT1.out.mono ?_
      rintro r w6 ⟨n', y, zr, rfl, ⟨hy, hzr⟩, hn', hr6, ht6⟩
      have td6 : Turned (DoSet mb cs d) W5 w6 := ht6.mono fun i _ hi => .inl hi
      have S6 := Lib.hid (BO5.out.keepD td6 S5.out (by decide) (by decide))
      have V6 := Lib.hid (BO5.out.keepD td6 V5.out (by decide) (by decide))
      have R6 := Lib.hid (show RAt w6 p9 ns from ⟨R5.out.1, BO5.out.keepD td6 R5.out.2 (by decide) (by decide)⟩)
      have RP6 := Lib.hid hr6
      have RR6 := Lib.hid (BO5.out.rr.turnR BO5.out.rp ht6)
      have T6 := Lib.hid (show Turned (DoSet mb cs d) w w6 from (turned_below B5.out).trans td6 (fun _ _ h => h) (fun _ _ h => h))
      have HY := Lib.hid hy
      have HZR := Lib.hid hzr
      have HN := Lib.hid hn'
      clear hy hzr hn' hr6 ht6 td6 z0 z1 z2 z3 z4 z5 z6 z7
      obtain ⟨z0, z1, z2, z3, z4, z5, z6, z7⟩ := eight_cells' S6.out
      obtain ⟨v0, v1, v2, v3⟩ := four_cells V6.out
      go_upto_region 11 with fail
      go_cut [97] (fun s wx => s = .bool (!f) ∧ Below w6.heap.size w6 wx)
      case first =>
        go_wp2_with fail
        refine (PLN.out w6).mono ?_
        rintro r w7 ⟨rfl, hb7⟩
        have B7 := Lib.hid hb7
        have S7 := Lib.hid ((hb7.block _ (lt_of_heap S6.out)).trans S6.out)
        clear hb7 z0 z1 z2 z3 z4 z5 z6 z7 v0 v1 v2 v3
        obtain ⟨z0, z1, z2, z3, z4, z5, z6, z7⟩ := eight_cells' S7.out
        rcases WY.out with ⟨rfl, rfl⟩ | ⟨rfl, rfl, g1⟩ | ⟨rfl, rfl, g1, g2⟩ | ⟨rfl, rfl, g1, g2, g3⟩ | ⟨rfl, rfl, g1, g2, g3, g4⟩ | ⟨rfl, rfl, g1, g2, g3, g4⟩
        all_goals
          go_wp2_with fail
          go_meet
          exact ⟨by simp <;> omega, B7.out⟩
      case rest =>
        obtain ⟨rfl, hb7⟩ := hcut
        have T7 := Lib.hid (show Turned (DoSet mb cs d) w wc from T6.out.trans (turned_below hb7) (fun _ _ h => h) (fun _ _ h => h))
        have RP7 := Lib.hid (RP6.out.below hb7)
        have RR7 := Lib.hid (RR6.out.below hb7)
        have S7 := Lib.hid ((hb7.block _ (lt_of_heap S6.out)).trans S6.out)
        have V7 := Lib.hid ((hb7.block _ (lt_of_heap V6.out)).trans V6.out)
        have R7 := Lib.hid (R6.out.below hb7)
        clear hb7 z0 z1 z2 z3 z4 z5 z6 z7 v0 v1 v2 v3
        cases f with
        | false =>
          have e1 : putMs M cs ⟨sa, sb, sc, swr⟩ e (at0 cl) = M := by unfold putMs; rw [HFT.out, if_neg (by simp)]
          have e2 : putCs cs ⟨sa, sb, sc, swr⟩ e (at0 cl) = cs := by unfold putCs; rw [HFT.out]; rfl
          have e3 : y = false := by rw [HY.out]; unfold putY; rw [HFT.out]; rfl
          have e4 : zr = 1 := by rw [HZR.out, HFT.out]; rfl
          have rp := RP7.out
          rw [e1, e2] at rp
          have F := Lib.hid (show DoesP B b mb n d cs w (.returned (.bool true)) wc from ⟨rfl, T7.out, n', M, cs, ms, rs, HN.out, rp, RR7.out, BO5.out.rel, BO5.out.rac, BO5.out.out, BO5.out.low⟩)
          clear e1 e2 rp
          subst e3 e4
          go_wp2_with fail
          go_ret
          exact F.out
        | true =>
          obtain ⟨h0, h8, hok⟩ := fit_in HFT.out
          dsimp only at h0 h8
          obtain ⟨t, nn, ht, hn1, hn2, rfl, ht0, hc0⟩ := ep_natR hok
          have ht2 := HA2.out.symm.trans ht0
          have hc3 := hc0.symm.trans HA3.out
          subst ht2 hc3
          obtain ⟨c, rfl⟩ := Int.eq_ofNat_of_zero_le h0
          have hc8 : c < 8 := by omega
          have e4 : zr = 0 := by rw [HZR.out, HFT.out]; rfl
          have QP := qput_any d ms rs c sa sb swr t nn ns Z2 HZ2.out HL.out wc RR7.out hc8 ht
          unfold qrV at QP
          dsimp only at QP
          have QP1 := Lib.hid QP
          have FIN := Lib.hid (show ∀ y' w8, (∃ rs', RR w8 d (updM ms c (qN swr (ms c) t nn ns)) rs' ∧ Turned (fun i => i = d) wc w8 ∧ ((qF swr (ms c) t ns = 0 ∨ (rs c).th = true) ∧ y' = false ∧ rs' = rs ∨ qF swr (ms c) t ns ≠ 0 ∧ (rs c).th = false ∧ y' = true ∧ rs' = updQ rs c ⟨true, c, sa, sb, qF swr (ms c) t ns, swr⟩)) → y = y' ∧ DoesP B b mb n d cs w (.returned (.bool true)) w8 from fun y' w8 ⟨rs', hrr, ht8, hyy⟩ => by
            obtain ⟨k1, k2, k3⟩ := put_both (M := M) (cs := cs) (pa := sa) (pb := sb) BO5.out.rel BO5.out.rac hc8 ht hn1 hn2 HA.out HFT.out hyy
            exact ⟨HY.out.trans k1, rfl, T7.out.trans ht8 (fun _ _ h => h) (fun _ _ h => .inr h), n', _, _, _, _, HN.out, RP7.out.turnD RR7.out ht8, hrr, k3, k2, putMs_out BO5.out.out, BO5.out.low⟩)
          subst e4
          have LD := run_ld37 p9 0 ns HL.out Z2 HZ2.out
          have rg7 := R7.out.range
          obtain ⟨z0, z1, z2, z3, z4, z5, z6, z7⟩ := eight_cells' S7.out
          obtain ⟨v0, v1, v2, v3⟩ := four_cells V7.out
          clear QP h0 h8 hok ht hn1 hn2 ht0 hc0
          go_wp2_with fail
          refine QP1.out.mono ?_
          rintro r w8 ⟨y', rs', rfl, hrr, ht8, hyy⟩
          obtain ⟨e5, hF⟩ := FIN.out y' w8 ⟨rs', hrr, ht8, hyy⟩
          have F := Lib.hid hF
          subst e5
          clear hrr ht8 hyy hF
          go_wp2_with fail
          go_ret
          exact ⟨by simp, F.out.2⟩
    · have E0 := Lib.hid hof
      have hne : (ofE cl == 0) = false := by simp [hof]
      have hne' : (ofE cl != 0) = true := by simp [hof]
      clear hof
      go_wp2_with fail
      refine (of_noR _ cl W0 SR0.out E0.out).mono ?_
      rintro r w1 ⟨rfl, rfl⟩
      go_wp2_with fail
      refine (rof_any _ cl W0 SR0.out).mono ?_
      rintro r w2 ⟨ns, rfl, hlen, hat, hb2⟩
      have HL := Lib.hid hlen
      obtain ⟨Z2, hZ2⟩ : ∃ Z2, (ints ns).toArray = Z2 := ⟨_, rfl⟩
      rw [hZ2]
      have HZ2 := Lib.hid hZ2
      have B2 := Lib.hid hb2
      clear hZ2 hat hlen hb2
      obtain ⟨oe, hoe⟩ : ∃ oe, ofE cl = oe := ⟨_, rfl⟩
      rw [hoe] at hne hne' ⊢
      clear hoe E0
      go_wp2_with (with_reducible refine wpList_store_clock rfl (.tmp 9) (.tmp 41) rfl w2.heap.size zeros ns ?kx Z2 ?ky HZ2.out ?k0 HL.out ?_)
      case kx => rfl
      case ky => rfl
      case k0 => exact rat_loneR w2 Z HZ.out
      intro w3 R3 T3
      obtain ⟨hb3, _⟩ := rat_laidR (ns := ns) HZ.out T3 B2.out
      have T := Lib.hid (show DoesP B b mb n d cs w (.returned (.bool true)) w3 from ⟨rfl, turned_below (below_trans B0.out hb3 B0.out.size), n, _, _, _, _, by omega, BO0.out.below hb3⟩)
      clear hb3 T3 R3
      go_wp2_with fail
      go_ret
      exact T.out
end Go.Proofs.Ytkcnbkdpjlpppaa

