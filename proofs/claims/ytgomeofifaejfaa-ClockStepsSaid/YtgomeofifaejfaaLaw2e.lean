
/-
  staithelaw02: ClockSteps.
-/
import Derived.Test.YtgomeofifaejfaaStepsC
namespace Go.Proofs.Ytgomeofifaejfaa
open Go.RowKit
set_option linter.unusedVariables false
set_option linter.unusedSimpArgs false
set_option maxRecDepth 100000

def z768 : List Int := List.replicate 768 0
theorem info3 : (Try.prog.info? 47).map (fun i => (i.zero, i.size)) = some (some (.agg (ints z768).toArray), 768) := by kernel_rfl

theorem rep_getD (n j : Nat) : (List.replicate n (0 : Int)).getD j 0 = 0 := by
  simp only [List.getD, List.getElem?_replicate]
  split <;> rfl

theorem three_any (i k : Int) (w : World) : Calls Try.prog 22 #[.int .i64 i, .int .i64 k] w fun r w' => r = .returned (.bool (decide ((0 ≤ i ∧ i < 3) ∧ 0 ≤ k ∧ k < 3))) ∧ w = w' := by
  by_cases a : 0 ≤ i <;> by_cases b : i < 3 <;> by_cases c : 0 ≤ k <;> by_cases d : k < 3
  all_goals
    go_enter Try.func22, Try.ntmps22
    go_wp2_with fail
    go_ret
    exact ⟨by simp [a, b, c, d], rfl⟩

theorem zeros_ok : Ok3 zeros := ⟨by simp [zeros], fun j hj => by
  have : zeros.getD j 0 = 0 := by
    have := at0_zeros j
    rwa [at0_nat] at this
  rw [this]; omega⟩

/-- The beginning: three clocks without numbers, and 768 noughts. -/
theorem steps_start {w w1 w2 w3 : World} {Z : Array Value} (hZ : (ints z768).toArray = Z) (h1 : CkAt w1 w.heap.size ⟨w.heap.size, [], false⟩) (b1 : Below w.heap.size w w1)
    (h2 : CkAt w2 w1.heap.size ⟨w1.heap.size, [], false⟩) (b2 : Below w1.heap.size w1 w2) (h3 : CkAt w3 w2.heap.size ⟨w2.heap.size, [], false⟩) (b3 : Below w2.heap.size w2 w3)
    (bs : Nat → Nat) (hb : bs = fun j => if j = 0 then w.heap.size else if j = 1 then w1.heap.size else w2.heap.size) {V : World}
    (hV : (w3.alloc (.cells (ptr3 bs) 23)).alloc (.cells Z 47) = V) :
    PH w.heap.size w3.heap.size V bs (fun _ => zeros) ∧ WH (w3.heap.size + 1) V (fun _ => zeros) ∧ Below w.heap.size w V := by
  have s1 := h1.lt
  have s2 := h2.lt
  have s3 := h3.lt
  have z1 := b1.size
  have z2 := b2.size
  have z3 := b3.size
  have B3 : Below w.heap.size w w3 := below_trans b1 (below_trans b2 b3 b2.size) b1.size
  have BV : Below w3.heap.size w3 V := by rw [← hV]; exact ((Below.refl _ _).alloc (Nat.le_refl _) _).alloc (by rw [size_alloc]; omega) _
  have c1 := (h1.below (below_trans b2 b3 b2.size)).below BV
  have c2 := (h2.below b3).below BV
  have c3 := h3.below BV
  have F0 := Fam.none w.heap.size V
  have F1 := F0.new c1 (Nat.le_refl _) (fun _ => Nat.le_refl _) (fun b' k' e => by simp at e)
  have F2 := F1.new c2 (by omega) (fun _ => by show w.heap.size ≤ w1.heap.size; omega) (fun b' k' e => ⟨by
    by_cases hb : b' = w.heap.size
    · omega
    · simp [upd, hb] at e, fun hp => by simp at hp⟩)
  have F3 := F2.new c3 (by omega) (fun _ => by show w.heap.size ≤ w2.heap.size; omega) (fun b' k' e => ⟨by
    by_cases hb : b' = w1.heap.size
    · omega
    · by_cases hb2 : b' = w.heap.size
      · omega
      · simp [upd, hb, hb2] at e, fun hp => by simp at hp⟩)
  have e0 : bs 0 = w.heap.size := by rw [hb]; rfl
  have e1 : bs 1 = w1.heap.size := by rw [hb]; rfl
  have e2 : bs 2 = w2.heap.size := by rw [hb]; rfl
  have hat : ∀ u : Int, at0 [] u = at0 zeros u := fun u => by rw [at0_zeros]; exact at0_out (by simp; omega)
  refine ⟨⟨?_, ⟨_, F3, fun i hi => ?_⟩, fun i j hi hj e => ?_, fun i hi => zeros_ok⟩, ⟨⟨Z, ?_⟩, fun i hi => ?_⟩, below_trans B3 BV B3.size⟩
  · rw [← hV, heap_alloc_old _ _ (by rw [size_alloc]; omega)]
    exact heap_alloc_new w3 _
  · match i, hi with
    | 0, _ => exact ⟨_, by rw [e0]; exact upd_ne (by omega) (upd_ne (by omega) (upd_self _ _ _)), hat⟩
    | 1, _ => exact ⟨_, by rw [e1]; exact upd_ne (by omega) (upd_self _ _ _), hat⟩
    | 2, _ => exact ⟨_, by rw [e2]; exact upd_self _ _ _, hat⟩
  · have hi' : i = 0 ∨ i = 1 ∨ i = 2 := by omega
    have hj' : j = 0 ∨ j = 1 ∨ j = 2 := by omega
    rcases hi' with rfl | rfl | rfl <;> rcases hj' with rfl | rfl | rfl <;> first | rfl | (rw [e0, e1] at e; omega) | (rw [e0, e2] at e; omega) | (rw [e1, e0] at e; omega) | (rw [e1, e2] at e; omega) | (rw [e2, e0] at e; omega) | (rw [e2, e1] at e; omega)
  · rw [← hV]
    have := heap_alloc_new (w3.alloc (.cells (ptr3 bs) 23)) (.cells Z 47)
    rw [size_alloc] at this
    exact this
  · have hg : V.heap[w3.heap.size + 1]? = some (Obj.cells Z 47 (0, 0)) := by
      rw [← hV]
      have := heap_alloc_new (w3.alloc (.cells (ptr3 bs) 23)) (.cells Z 47)
      rw [size_alloc] at this
      exact this
    subst hZ
    refine ⟨by simp [zeros], fun j hj => ?_, fun j => by simp [World.frozen?, hg]⟩
    have h1 := getElem?_ints z768 (i * 256 + j) (by simp [z768]; omega)
    simp only [World.cell?, hg]
    have hz : z768.getD (i * 256 + j) 0 = 0 := rep_getD _ _
    have hz2 : zeros.getD j 0 = 0 := by have := at0_zeros j; rwa [at0_nat] at this
    rw [hz] at h1
    rw [hz2]
    simpa using h1

theorem updT_join {ns : Nat → List Int} {i k : Nat} (h : Ok3 (ns i)) : updT ns i (maxL (ns i) (ns k)) k = ns k := by
  by_cases e : k = i
  · subst e
    rw [updT_self]
    exact maxL_of_le h (decide_eq_true (fun j _ => Int.le_refl _))
  · rw [updT_ne _ _ e]
theorem grab {P : Program} {C : Code} {Q : Exit → Act → World → Prop} {a : Act} {w : World} (h : ∀ a0, a = a0 → C.wp P Q a0 w) : C.wp P Q a w := h a rfl
attribute [local go_sem ↓] exec_ld35 exec_st35
set_option maxHeartbeats 4000000 in
theorem steps_law (v : Value) (ss : List Stp) (w : World) (h : StpsOf w v ss) : Calls Try.prog 6 #[v] w (RetB (.bool true) w) := by
  have HS := Lib.hid h
  obtain ⟨ao, cap, rfl, hc⟩ := h
  clear hc
  obtain ⟨Z, hZ⟩ : ∃ Z, (ints z768).toArray = Z := ⟨_, rfl⟩
  have hz := (zero_of_info info3).1
  rw [hZ] at hz
  have HZ := Lib.hid hZ
  clear hZ
  by_cases hlong : 300 < ss.length
  · have hlong' : (300 : Int) < ss.length := by omega
    go_enter Try.func6, Try.ntmps6
    go_wp2_with fail
    refine (new_any w).mono ?_
    rintro r w1 ⟨rfl, h1, b1⟩
    go_wp2_with fail
    refine (new_any w1).mono ?_
    rintro r w2 ⟨rfl, h2, b2⟩
    go_wp2_with fail
    refine (new_any w2).mono ?_
    rintro r w3 ⟨rfl, h3, b3⟩
    have B3 := Lib.hid (show Below w.heap.size w w3 from below_trans b1 (below_trans b2 b3 b2.size) b1.size)
    clear h1 h2 h3 b1 b2 b3
    go_wp2_with fail
    refine (joins_any _).mono ?_
    rintro r w4 ⟨rfl, hB4⟩
    go_wp2_with fail
    go_ret
    exact ⟨rfl, below_trans (B3.out.alloc B3.out.size _) hB4 (by rw [size_alloc]; have := B3.out.size; omega)⟩
  · have hlong' : (ss.length : Int) ≤ 300 := by omega
    go_enter Try.func6, Try.ntmps6
    go_wp2_with fail
    refine (new_any w).mono ?_
    rintro r w1 ⟨rfl, h1, b1⟩
    go_wp2_with fail
    refine (new_any w1).mono ?_
    rintro r w2 ⟨rfl, h2, b2⟩
    go_wp2_with fail
    refine (new_any w2).mono ?_
    rintro r w3 ⟨rfl, h3, b3⟩
    obtain ⟨V, hV⟩ : ∃ V, (w3.alloc (.cells #[.pointer (some ⟨w.heap.size, 0, none⟩), .pointer (some ⟨w1.heap.size, 0, none⟩), .pointer (some ⟨w2.heap.size, 0, none⟩)] 23)).alloc (.cells Z 47) = V := ⟨_, rfl⟩
    have ST := Lib.hid (steps_start HZ.out h1 b1 h2 b2 h3 b3 _ rfl hV)
    have G3 := Lib.hid (show w.heap.size ≤ w3.heap.size from Nat.le_trans b1.size (Nat.le_trans b2.size b3.size))
    clear h1 h2 h3 b1 b2 b3
    go_wp2_with fail
    clear hV
    obtain ⟨g, hg⟩ : ∃ g, w3.heap.size = g := ⟨_, rfl⟩
    rw [hg] at ST G3 ⊢
    clear hg
    go_loopw [30] (fun i wr => ∃ (q : Nat) (bs : Nat → Nat) (ns : Nat → List Int), q ≤ ss.length ∧ i = .int .i64 q ∧ PH w.heap.size g wr bs ns ∧ WH (g + 1) wr ns ∧ Below w.heap.size w wr) (fun i _ => ss.length - (intOf i).toNat)
    case atStart => exact ⟨0, _, _, by omega, rfl, ST.out.1, ST.out.2.1, ST.out.2.2⟩
    case round =>
      obtain ⟨q, bs, ns, hq, rfl, hP, hW, hB⟩ := hrel
      by_cases hlt : q < ss.length
      · have hlt' : (q : Int) < ss.length := by omega
        obtain ⟨_, _, e, hsc⟩ := HS.out
        cases e
        obtain ⟨sb, so, rfl, hsd⟩ := hsc (by omega)
        obtain ⟨c0, c1, c2, c3, c4⟩ := (hsd q hlt).below (Nat.le_refl _) hB
        obtain ⟨⟨What, I, K, T, N⟩, hst⟩ : ∃ s, ss.getD q default = s := ⟨_, rfl⟩
        rw [hst] at c0 c1 c2 c3 c4
        dsimp only at c0 c1 c2 c3 c4
        obtain ⟨X, hX⟩ : ∃ X, wr.alloc (.cells #[.int .i64 What, .int .i64 I, .int .i64 K, .int .i64 T, .int .i64 N] 49) = X := ⟨_, rfl⟩
        have BX : Below wr.heap.size wr X := by rw [← hX]; exact (Below.refl _ _).alloc (Nat.le_refl _) _
        have hsX : X.heap[wr.heap.size]? = some (Obj.cells #[.int .i64 What, .int .i64 I, .int .i64 K, .int .i64 T, .int .i64 N] 49 (0, 0)) := by rw [← hX]; exact heap_alloc_new wr _
        obtain ⟨x0, x1, x2, x3, x4⟩ := step_cells hsX
        have HX := Lib.hid hX
        have SX := Lib.hid hsX
        have PX := Lib.hid (hP.below BX)
        have WX := Lib.hid (hW.below BX)
        have HBX := Lib.hid (below_trans hB BX hB.size)
        clear hsc hsd hst BX hsX hP hW hB
        go_wp2_with fail
        try rw [HX.out]
        clear hX c0 c1 c2 c3 c4
        refine (three_any I K X).mono ?_
        rintro r w4 ⟨rfl, rfl⟩
        by_cases h3 : (0 ≤ I ∧ I < 3) ∧ 0 ≤ K ∧ K < 3
        · rw [decide_eq_true h3]
          obtain ⟨i, rfl⟩ := Int.eq_ofNat_of_zero_le h3.1.1
          obtain ⟨k, rfl⟩ := Int.eq_ofNat_of_zero_le h3.2.1
          have hi : i < 3 := by omega
          have hk : k < 3 := by omega
          rename_i K2 hK2 K1 hK1 K0 hK0
          have HK2 := Lib.hid hK2
          clear hK2
          go_wp2_with fail
          apply HK2.out
          clear HK2
          apply wp_seq_k
          intro K3 hK3
          obtain ⟨p, hp⟩ : ∃ p, wr.heap.size = p := ⟨_, rfl⟩
          clear HX
          rw [hp] at SX x0 x1 x2 x3 x4 ⊢
          clear hp
          refine grab ?_
          intro a0 ha0
          have REST : ∀ (x38 x39 x40 x41 x42 x43 x44 x45 x46 x47 x48 x49 x50 x51 x52 x53 x54 x55 x56 x57 x58 x59 x60 x61 x62 x63 x64 x65 x66 x67 x68 x69 x70 x71 x72 x73 x74 x75 x76 x77 x78 x79 x80 x81 x82 x83 x84 x85 x86 x87 x88 x89 x90 x91 x92 x93 x94 x95 x96 x97 x98 x99 x100 x101 x102 x103 x104 x105 x106 x107 x108 x109 x110 x111 x112 x113 x114 x115 x116 x117 x118 x119 x120 x121 x122 x123 x124 x125 : Value) (bs : Nat → Nat) (nf : Nat → List Int) (wf : World), SS w g p What i k T N bs nf wf → K3 (((((((((((((((((((((((((((((((((((((((((((((((((((((((((((((((((((((((((((((((((((((((((a0).put (some 38) x38).put (some 39) x39).put (some 40) x40).put (some 41) x41).put (some 42) x42).put (some 43) x43).put (some 44) x44).put (some 45) x45).put (some 46) x46).put (some 47) x47).put (some 48) x48).put (some 49) x49).put (some 50) x50).put (some 51) x51).put (some 52) x52).put (some 53) x53).put (some 54) x54).put (some 55) x55).put (some 56) x56).put (some 57) x57).put (some 58) x58).put (some 59) x59).put (some 60) x60).put (some 61) x61).put (some 62) x62).put (some 63) x63).put (some 64) x64).put (some 65) x65).put (some 66) x66).put (some 67) x67).put (some 68) x68).put (some 69) x69).put (some 70) x70).put (some 71) x71).put (some 72) x72).put (some 73) x73).put (some 74) x74).put (some 75) x75).put (some 76) x76).put (some 77) x77).put (some 78) x78).put (some 79) x79).put (some 80) x80).put (some 81) x81).put (some 82) x82).put (some 83) x83).put (some 84) x84).put (some 85) x85).put (some 86) x86).put (some 87) x87).put (some 88) x88).put (some 89) x89).put (some 90) x90).put (some 91) x91).put (some 92) x92).put (some 93) x93).put (some 94) x94).put (some 95) x95).put (some 96) x96).put (some 97) x97).put (some 98) x98).put (some 99) x99).put (some 100) x100).put (some 101) x101).put (some 102) x102).put (some 103) x103).put (some 104) x104).put (some 105) x105).put (some 106) x106).put (some 107) x107).put (some 108) x108).put (some 109) x109).put (some 110) x110).put (some 111) x111).put (some 112) x112).put (some 113) x113).put (some 114) x114).put (some 115) x115).put (some 116) x116).put (some 117) x117).put (some 118) x118).put (some 119) x119).put (some 120) x120).put (some 121) x121).put (some 122) x122).put (some 123) x123).put (some 124) x124).put (some 125) x125) wf := by
            intro x38 x39 x40 x41 x42 x43 x44 x45 x46 x47 x48 x49 x50 x51 x52 x53 x54 x55 x56 x57 x58 x59 x60 x61 x62 x63 x64 x65 x66 x67 x68 x69 x70 x71 x72 x73 x74 x75 x76 x77 x78 x79 x80 x81 x82 x83 x84 x85 x86 x87 x88 x89 x90 x91 x92 x93 x94 x95 x96 x97 x98 x99 x100 x101 x102 x103 x104 x105 x106 x107 x108 x109 x110 x111 x112 x113 x114 x115 x116 x117 x118 x119 x120 x121 x122 x123 x124 x125 bs nf wf SF
            have SF := Lib.hid SF
            rw [← ha0]
            clear PX WX SX x0 x1 x2 x3 x4 HBX ha0
            simp only [Act.put, List.setIfInBounds_toArray, List.set_cons_zero, List.set_cons_succ]
            have i1 : (i : Int) < 3 := by omega
            have k1 : (k : Int) < 3 := by omega
            apply hK3
            go_wp2_with fail
            have HI := Lib.hid hi
            have HK := Lib.hid hk
            clear hi hk i1 k1
            go_loopw [7] (fun c wc => ∃ j : Nat, j ≤ 3 ∧ c = .int .i64 j ∧ SS w g p What i k T N bs nf wc) (fun c _ => 3 - (intOf c).toNat)
            case atStart => exact ⟨0, by omega, rfl, SF.out⟩
            case round =>
              obtain ⟨j, hj3, rfl, hS⟩ := hrel
              have HS3 := Lib.hid hS
              clear hS
              by_cases hjl : j < 3
              · have hjl' : (j : Int) < 3 := by omega
                have k1 : (k : Int) < 3 := by have := HK.out; omega
                have k2 : k < 3 := HK.out
                have hL1 := run_ld35 (g + 1) (j * 256) (nf j) (HS3.out.ph.ok j hjl).1
                have hL2 := run_ld35 (g + 1) (k * 256) (nf k) (HS3.out.ph.ok k HK.out).1
                have sv := HS3.out.below (Below.refl _ _).drew
                go_wp2_with fail
                go_region_held3 (fun w' => w'.cell? ⟨g, j, none⟩ = some (.pointer (some ⟨bs j, 0, none⟩)) ∧ w'.cell? ⟨g, k, none⟩ = some (.pointer (some ⟨bs k, 0, none⟩)) ∧ w'.cell? ⟨p, 2, none⟩ = some (.int .i64 k) ∧ w'.cell? ⟨p, 3, none⟩ = some (.int .i64 T) ∧ w'.rangeAt (g + 1) (j * 256) (ints (nf j)) ∧ w'.rangeAt (g + 1) (k * 256) (ints (nf k)))
                  (exact sv.limbs hjl k2)
                  (first | (go_at_call 12; refine (l_list sv hjl).mono ?_; rintro r w8 ⟨v1, rfl, hv1, sv⟩) | (go_at_call 20; refine (l_rlist sv hjl v1 hv1).mono ?_; rintro r w8 ⟨v2, rfl, hv2, hv1, sv⟩) | (go_at_call 11; refine (l_ints sv hjl v1 v2 hv1 hv2).mono ?_; rintro r w8 ⟨rfl, sv⟩) | (go_at_call 19; refine (l_get sv hjl).mono ?_; rintro r w8 ⟨rfl, sv⟩) | (go_at_call 16; refine (l_rget sv hjl).mono ?_; rintro r w8 ⟨rfl, sv⟩) | (go_at_call 10; refine (l_within sv hjl k2).mono ?_; rintro r w8 ⟨rfl, sv⟩) | (go_at_call 28; refine (l_rwithin sv hjl k2 _ _ rfl rfl).mono ?_; rintro r w8 ⟨rfl, sv⟩))
                have SE := Lib.hid sv
                clear hv1 hv2 hL1 hL2 HS3
                go_wp2_with fail
                go_roundw
                case rel => exact ⟨j + 1, by omega, by go_num, SE.out⟩
                case measure => simp [intOf] <;> omega
              · have hjg : (3 : Int) ≤ j := by omega
                clear hjl
                have SE := Lib.hid HS3.out
                go_wp2_with fail
                exact ⟨⟨q + 1, bs, nf, by omega, by go_num, SE.out.ph, SE.out.wh, SE.out.be⟩, by simp [intOf] <;> omega⟩
          subst ha0
          simp only [Act.put, List.setIfInBounds_toArray, List.set_cons_zero, List.set_cons_succ] at REST
          have REST := Lib.hid REST
          clear hK3
          have i1 : (i : Int) < 3 := by omega
          have k1 : (k : Int) < 3 := by omega
          have pI := PX.out.cell i hi
          have pK := PX.out.cell k hk
          clear h3
          by_cases hw0 : What = 0
          · subst hw0
            have PD := Lib.hid (PX.out.below (Below.refl X.heap.size X).drew)
            have WD := Lib.hid (WX.out.below (Below.refl X.heap.size X).drew)
            have OKI := Lib.hid (PX.out.ok i hi)
            have HI := Lib.hid hi
            have GW := Lib.hid (show w.heap.size ≤ g + 1 by have := G3.out; omega)
            go_wp2_with fail
            go_region_held3 (fun w' => w'.cell? ⟨g, i, none⟩ = some (.pointer (some ⟨bs i, 0, none⟩)) ∧ w'.cell? ⟨p, 1, none⟩ = some (.int .i64 i) ∧ w'.cell? ⟨p, 3, none⟩ = some (.int .i64 T) ∧ w'.cell? ⟨p, 4, none⟩ = some (.int .i64 N))
              (first | (simp [*]; done) | (refine ⟨?_, ?_, ?_, ?_⟩ <;> first | assumption | (simp [*]; done)))
              (first | (go_at_call 23; refine (p_tick PD.out i HI.out T N).mono ?_; rintro r w8 ⟨rfl, ph8, kp8⟩; have s0 := ph8.cell i HI.out; obtain ⟨_, s1, _, s3, s4⟩ := step_cells ((kp8.1 _ (by decide) (by decide) _ _ _ SX.out).trans SX.out); have PH8 := Lib.hid ph8; have KP8 := Lib.hid kp8; clear ph8 kp8) | (go_at_call 24; refine (w_tick (WD.out.keep (KP8.out.1 _ (by decide) (by decide))) GW.out i HI.out T N OKI.out).mono ?_; rintro r w9 ⟨rfl, wh9, kw9⟩; have s0' := (PH8.out.keep (kw9.1 _ (by decide)) (kw9.1 _ (by decide)) (kw9.1 _ (by decide))).cell i HI.out; obtain ⟨_, s1', _, s3', s4'⟩ := step_cells ((kw9.1 _ (by decide) _ _ _ ((KP8.out.1 _ (by decide) (by decide) _ _ _ SX.out).trans SX.out)).trans ((KP8.out.1 _ (by decide) (by decide) _ _ _ SX.out).trans SX.out)); have WH9 := Lib.hid wh9; have KW9 := Lib.hid kw9; clear wh9 kw9))
            obtain ⟨nf, hnf⟩ : ∃ nf, updT ns i (tickF (ns i) T N).2 = nf := ⟨_, rfl⟩
            rw [hnf] at PH8 WH9
            have SF := Lib.hid (show SS w g p 0 i k T N bs nf w9 from ⟨PH8.out.keep (KW9.out.1 _ (by decide)) (KW9.out.1 _ (by decide)) (KW9.out.1 _ (by decide)), WH9.out, KW9.out.2 w (Nat.le_refl _) (KP8.out.2 w (Nat.le_refl _) HBX.out.drew), (KW9.out.1 _ (by decide) _ _ _ ((KP8.out.1 _ (by decide) (by decide) _ _ _ SX.out).trans SX.out)).trans ((KP8.out.1 _ (by decide) (by decide) _ _ _ SX.out).trans SX.out)⟩)
            clear PH8 WH9 KP8 KW9 PX WX HBX SX PD WD OKI HI GW
            go_wp2_with fail
            apply REST.out
            exact SF.out
          by_cases hw1 : What = 1
          · subst hw1
            have PD := Lib.hid (PX.out.below (Below.refl X.heap.size X).drew)
            have WD := Lib.hid (WX.out.below (Below.refl X.heap.size X).drew)
            have OKI := Lib.hid (PX.out.ok i hi)
            have HI := Lib.hid hi
            have GW := Lib.hid (show w.heap.size ≤ g + 1 by have := G3.out; omega)
            go_wp2_with fail
            go_region_held3 (fun w' => w'.cell? ⟨g, i, none⟩ = some (.pointer (some ⟨bs i, 0, none⟩)) ∧ w'.cell? ⟨p, 1, none⟩ = some (.int .i64 i) ∧ w'.cell? ⟨p, 3, none⟩ = some (.int .i64 T) ∧ w'.cell? ⟨p, 4, none⟩ = some (.int .i64 N))
              (first | (simp [*]; done) | (refine ⟨?_, ?_, ?_, ?_⟩ <;> first | assumption | (simp [*]; done)))
              (first | (go_at_call 23; refine (p_tick PD.out i HI.out T N).mono ?_; rintro r w8 ⟨rfl, ph8, kp8⟩; have s0 := ph8.cell i HI.out; obtain ⟨_, s1, _, s3, s4⟩ := step_cells ((kp8.1 _ (by decide) (by decide) _ _ _ SX.out).trans SX.out); have PH8 := Lib.hid ph8; have KP8 := Lib.hid kp8; clear ph8 kp8) | (go_at_call 24; refine (w_tick (WD.out.keep (KP8.out.1 _ (by decide) (by decide))) GW.out i HI.out T N OKI.out).mono ?_; rintro r w9 ⟨rfl, wh9, kw9⟩; have s0' := (PH8.out.keep (kw9.1 _ (by decide)) (kw9.1 _ (by decide)) (kw9.1 _ (by decide))).cell i HI.out; obtain ⟨_, s1', _, s3', s4'⟩ := step_cells ((kw9.1 _ (by decide) _ _ _ ((KP8.out.1 _ (by decide) (by decide) _ _ _ SX.out).trans SX.out)).trans ((KP8.out.1 _ (by decide) (by decide) _ _ _ SX.out).trans SX.out)); have WH9 := Lib.hid wh9; have KW9 := Lib.hid kw9; clear wh9 kw9))
            obtain ⟨nf, hnf⟩ : ∃ nf, updT ns i (tickF (ns i) T N).2 = nf := ⟨_, rfl⟩
            rw [hnf] at PH8 WH9
            have SF := Lib.hid (show SS w g p 1 i k T N bs nf w9 from ⟨PH8.out.keep (KW9.out.1 _ (by decide)) (KW9.out.1 _ (by decide)) (KW9.out.1 _ (by decide)), WH9.out, KW9.out.2 w (Nat.le_refl _) (KP8.out.2 w (Nat.le_refl _) HBX.out.drew), (KW9.out.1 _ (by decide) _ _ _ ((KP8.out.1 _ (by decide) (by decide) _ _ _ SX.out).trans SX.out)).trans ((KP8.out.1 _ (by decide) (by decide) _ _ _ SX.out).trans SX.out)⟩)
            clear PH8 WH9 KP8 KW9 PX WX HBX SX PD WD OKI HI GW
            go_wp2_with fail
            apply REST.out
            exact SF.out
          by_cases hw2 : What = 2
          · subst hw2
            have PD := Lib.hid (PX.out.below (Below.refl X.heap.size X).drew)
            have WD := Lib.hid (WX.out.below (Below.refl X.heap.size X).drew)
            have OKI := Lib.hid (PX.out.ok i hi)
            have HI := Lib.hid hi
            have GW := Lib.hid (show w.heap.size ≤ g + 1 by have := G3.out; omega)
            go_wp2_with fail
            go_region_held3 (fun w' => w'.cell? ⟨g, i, none⟩ = some (.pointer (some ⟨bs i, 0, none⟩)) ∧ w'.cell? ⟨p, 1, none⟩ = some (.int .i64 i) ∧ w'.cell? ⟨p, 3, none⟩ = some (.int .i64 T) ∧ w'.cell? ⟨p, 4, none⟩ = some (.int .i64 N))
              (first | (simp [*]; done) | (refine ⟨?_, ?_, ?_, ?_⟩ <;> first | assumption | (simp [*]; done)))
              (first | (go_at_call 25; refine (p_set PD.out i HI.out T N).mono ?_; rintro r w8 ⟨rfl, ph8, kp8⟩; have s0 := ph8.cell i HI.out; obtain ⟨_, s1, _, s3, s4⟩ := step_cells ((kp8.1 _ (by decide) (by decide) _ _ _ SX.out).trans SX.out); have PH8 := Lib.hid ph8; have KP8 := Lib.hid kp8; clear ph8 kp8) | (go_at_call 26; refine (w_set (WD.out.keep (KP8.out.1 _ (by decide) (by decide))) GW.out i HI.out T N).mono ?_; rintro r w9 ⟨rfl, wh9, kw9⟩; have s0' := (PH8.out.keep (kw9.1 _ (by decide)) (kw9.1 _ (by decide)) (kw9.1 _ (by decide))).cell i HI.out; obtain ⟨_, s1', _, s3', s4'⟩ := step_cells ((kw9.1 _ (by decide) _ _ _ ((KP8.out.1 _ (by decide) (by decide) _ _ _ SX.out).trans SX.out)).trans ((KP8.out.1 _ (by decide) (by decide) _ _ _ SX.out).trans SX.out)); have WH9 := Lib.hid wh9; have KW9 := Lib.hid kw9; clear wh9 kw9))
            obtain ⟨nf, hnf⟩ : ∃ nf, updT ns i (setF (ns i) T N).2 = nf := ⟨_, rfl⟩
            rw [hnf] at PH8 WH9
            have SF := Lib.hid (show SS w g p 2 i k T N bs nf w9 from ⟨PH8.out.keep (KW9.out.1 _ (by decide)) (KW9.out.1 _ (by decide)) (KW9.out.1 _ (by decide)), WH9.out, KW9.out.2 w (Nat.le_refl _) (KP8.out.2 w (Nat.le_refl _) HBX.out.drew), (KW9.out.1 _ (by decide) _ _ _ ((KP8.out.1 _ (by decide) (by decide) _ _ _ SX.out).trans SX.out)).trans ((KP8.out.1 _ (by decide) (by decide) _ _ _ SX.out).trans SX.out)⟩)
            clear PH8 WH9 KP8 KW9 PX WX HBX SX PD WD OKI HI GW
            go_wp2_with fail
            apply REST.out
            exact SF.out
          by_cases hw3 : What = 3
          · subst hw3
            have HK := Lib.hid hk
            have OKK := Lib.hid (PX.out.ok k hk)
            have hL2 := run_ld35 (g + 1) (k * 256) (ns k) (PX.out.ok k hk).1
            have PD := Lib.hid (PX.out.below (Below.refl X.heap.size X).drew)
            have WD := Lib.hid (WX.out.below (Below.refl X.heap.size X).drew)
            have OKI := Lib.hid (PX.out.ok i hi)
            have HI := Lib.hid hi
            have GW := Lib.hid (show w.heap.size ≤ g + 1 by have := G3.out; omega)
            go_wp2_with fail
            have r0 := (WD.out.rc k HK.out).range
            go_region_held3 (fun w' => w'.cell? ⟨g, i, none⟩ = some (.pointer (some ⟨bs i, 0, none⟩)) ∧ w'.cell? ⟨g, k, none⟩ = some (.pointer (some ⟨bs k, 0, none⟩)) ∧ w'.cell? ⟨p, 1, none⟩ = some (.int .i64 i) ∧ w'.cell? ⟨p, 2, none⟩ = some (.int .i64 k) ∧ w'.rangeAt (g + 1) (k * 256) (ints (ns k)))
              (first | (refine ⟨?_, ?_, ?_, ?_, ?_⟩ <;> first | assumption | (simp [*]; done)))
              (first | (go_at_call 14; refine (p_join PD.out i k HI.out HK.out).mono ?_; rintro r w8 ⟨rfl, ph8, kp8⟩; have s0 := ph8.cell i HI.out; have s00 := ph8.cell k HK.out; obtain ⟨_, s1, s2, _, _⟩ := step_cells ((kp8.1 _ (by decide) (by decide) _ _ _ SX.out).trans SX.out); have r8 := ((WD.out.keep (kp8.1 _ (by decide) (by decide))).rc k HK.out).range; have PH8 := Lib.hid ph8; have KP8 := Lib.hid kp8; clear ph8 kp8) | (go_at_call 27; refine (w_join (WD.out.keep (KP8.out.1 _ (by decide) (by decide))) GW.out (KP8.out.2 w (Nat.le_refl _) HBX.out.drew).size i k HI.out OKI.out OKK.out _ rfl).mono ?_; rintro r w9 ⟨rfl, wh9, kw9⟩; have ph9 := (PH8.out.keep (kw9.1 _ (by decide)) (kw9.1 _ (by decide)) (kw9.1 _ (by decide))); have s0' := ph9.cell i HI.out; have s00' := ph9.cell k HK.out; obtain ⟨_, s1', s2', _, _⟩ := step_cells ((kw9.1 _ (by decide) _ _ _ ((KP8.out.1 _ (by decide) (by decide) _ _ _ SX.out).trans SX.out)).trans ((KP8.out.1 _ (by decide) (by decide) _ _ _ SX.out).trans SX.out)); have r9 := (wh9.rc k HK.out).range; rw [updT_join OKI.out] at r9; have WH9 := Lib.hid wh9; have KW9 := Lib.hid kw9; clear wh9 kw9 ph9))
            obtain ⟨nf, hnf⟩ : ∃ nf, updT ns i (maxL (ns i) (ns k)) = nf := ⟨_, rfl⟩
            rw [hnf] at PH8 WH9
            have SF := Lib.hid (show SS w g p 3 i k T N bs nf w9 from ⟨PH8.out.keep (KW9.out.1 _ (by decide)) (KW9.out.1 _ (by decide)) (KW9.out.1 _ (by decide)), WH9.out, KW9.out.2 w (Nat.le_refl _) (KP8.out.2 w (Nat.le_refl _) HBX.out.drew), (KW9.out.1 _ (by decide) _ _ _ ((KP8.out.1 _ (by decide) (by decide) _ _ _ SX.out).trans SX.out)).trans ((KP8.out.1 _ (by decide) (by decide) _ _ _ SX.out).trans SX.out)⟩)
            clear PH8 WH9 KP8 KW9 PX WX HBX SX PD WD OKI HI GW
            go_wp2_with fail
            apply REST.out
            exact SF.out
          by_cases hw4 : What = 4
          · subst hw4
            have HK := Lib.hid hk
            have PD := Lib.hid (PX.out.below (Below.refl X.heap.size X).drew)
            have WD := Lib.hid (WX.out.below (Below.refl X.heap.size X).drew)
            have HI := Lib.hid hi
            have GW := Lib.hid (show w.heap.size ≤ g + 1 by have := G3.out; omega)
            have d1 : X.drew.cell? ⟨p, 1, none⟩ = some (.int .i64 i) := x1
            have d2 : X.drew.cell? ⟨p, 2, none⟩ = some (.int .i64 k) := x2
            have dK : X.drew.cell? ⟨g, k, none⟩ = some (.pointer (some ⟨bs k, 0, none⟩)) := pK
            go_wp2_with fail
            go_region_with (first | (go_at_call 13; refine (p_copy PD.out HBX.out.drew.size k HK.out).mono ?_; rintro r w8 ⟨b', rfl, ph8, kp8, st8⟩; have s0 := ph8.cell i HI.out; have f0 : w8.frozen? ⟨g, i, none⟩ = false := (by simp [World.frozen?, ph8.ptr]); obtain ⟨_, s1, s2, _, _⟩ := step_cells ((kp8.1 _ (by decide) (by decide) _ _ _ SX.out).trans SX.out); have PH8 := Lib.hid ph8; have KP8 := Lib.hid kp8; have ST8 := Lib.hid st8; clear ph8 kp8 st8) | fail)
            all_goals
              have PH9 := Lib.hid (ST8.out i HI.out)
              obtain ⟨V, hV⟩ : ∃ V, w8.setCell ⟨g, i, none⟩ (.pointer (some ⟨b', 0, none⟩)) = V := ⟨_, rfl⟩
              have KT := Lib.hid (show ∀ e, e ≠ 23 → KeepT e w8 V from fun e he => by rw [← hV]; exact keepT_set PH8.out.ptr he)
              have BV := Lib.hid (show Below w.heap.size w V from by rw [← hV]; exact (KP8.out.2 w (Nat.le_refl _) HBX.out.drew).setCell G3.out _)
              rw [hV] at PH9 ⊢
              clear hV
              have WV := Lib.hid ((WD.out.keep (KP8.out.1 _ (by decide) (by decide))).keep (KT.out _ (by decide)))
              have SV := Lib.hid ((KT.out 49 (by decide) _ _ _ ((KP8.out.1 _ (by decide) (by decide) _ _ _ SX.out).trans SX.out)).trans ((KP8.out.1 _ (by decide) (by decide) _ _ _ SX.out).trans SX.out))
              clear PH8 KP8 ST8 KT PD WD PX WX HBX SX s0 f0 s1 s2 d1 d2 dK x0 x1 x2 x3 x4 pI pK
              have LK := Lib.hid (WV.out.rc k HK.out).1
              have hL := run_ld35 (g + 1) (k * 256) (ns k) LK.out
              have hS := run_st35 (g + 1) (i * 256) (ns k) (ns i) LK.out V.drew ((WV.out.rc i HI.out).below (Nat.le_refl _) (Below.refl V.heap.size V).drew)
              obtain ⟨y0, y1, y2, y3, y4⟩ := step_cells (show V.drew.heap[p]? = _ from SV.out)
              have r0 := ((WV.out.rc k HK.out).below (Nat.le_refl _) (Below.refl V.heap.size V).drew).range
              obtain ⟨U, hU⟩ : ∃ U, V.drew.setCells (g + 1) (i * 256) (ints (ns k)) = U := ⟨_, rfl⟩
              obtain ⟨wu, ku⟩ : WH (g + 1) U (updT ns i (ns k)) ∧ KeepW w.heap.size V.drew U := by
                rw [← hU]
                exact (WV.out.below (Below.refl V.heap.size V).drew).copy GW.out HI.out LK.out
              rw [hU] at hS
              clear hU
              have r1 : U.rangeAt (g + 1) (k * 256) (ints (ns k)) := by
                have := (wu.rc k HK.out).range
                by_cases e : k = i
                · subst e
                  rwa [updT_self] at this
                · rwa [updT_ne _ _ e] at this
              obtain ⟨u0, u1, u2', u3, u4⟩ := step_cells ((ku.1 _ (by decide) _ _ _ (show V.drew.heap[p]? = _ from SV.out)).trans (show V.drew.heap[p]? = _ from SV.out))
              have SF := Lib.hid (show SS w g p 4 i k T N (updB bs i b') (updT ns i (ns k)) U from ⟨(PH9.out.below (Below.refl V.heap.size V).drew).keep (ku.1 _ (by decide)) (ku.1 _ (by decide)) (ku.1 _ (by decide)), wu, ku.2 w (Nat.le_refl _) BV.out.drew, (ku.1 _ (by decide) _ _ _ (show V.drew.heap[p]? = _ from SV.out)).trans (show V.drew.heap[p]? = _ from SV.out)⟩)
              clear wu ku PH9 WV SV BV
              go_wp2_with fail
              go_region_held3 (fun w' => w'.cell? ⟨p, 1, none⟩ = some (.int .i64 i) ∧ w'.cell? ⟨p, 2, none⟩ = some (.int .i64 k) ∧ w'.rangeAt (g + 1) (k * 256) (ints (ns k)))
                (first | (refine ⟨?_, ?_, ?_⟩ <;> first | assumption))
                (fail)
              clear hL hS
              go_wp2_with fail
              apply REST.out
              exact SF.out
          have HI := Lib.hid hi
          have SF := Lib.hid (show SS w g p What i k T N bs ns X from ⟨PX.out, WX.out, HBX.out, SX.out⟩)
          have e0 : decide (What = 0) = false := by simp [*]
          have e1 : decide (What = 1) = false := by simp [*]
          have e2 : decide (What = 2) = false := by simp [*]
          have e3 : decide (What = 3) = false := by simp [*]
          have e4 : decide (What = 4) = false := by simp [*]
          go_wp2_with fail
          apply REST.out
          exact SF.out
        · rw [decide_eq_false h3]
          clear h3
          go_wp2_with fail
          exact ⟨⟨q + 1, bs, ns, by omega, by go_num, PX.out, WX.out, HBX.out⟩, by simp [intOf] <;> omega⟩
      · have hge : (ss.length : Int) ≤ q := by omega
        have HB := Lib.hid hB
        clear hlt hB hP hW
        go_wp2_with fail
        refine (joins_any _).mono ?_
        rintro r w4 ⟨rfl, hB4⟩
        go_wp2_with fail
        go_ret
        exact ⟨rfl, below_trans HB.out hB4 HB.out.size⟩

end Go.Proofs.Ytgomeofifaejfaa

