
/-
  What slots hold, as plain lists; slots in memory.
-/
import Derived.Test.YtlkfhobacgnckaaSlA
namespace Go.Proofs.Ytlkfhobacgnckaa
open Go.RowKit
set_option linter.unusedVariables false
set_option linter.unusedSimpArgs false
set_option maxRecDepth 100000

theorem pinfo : (Try.prog.info? 28).map (fun i => (i.zero, i.size, i.bytes)) = some (some (.pointer none), 1, 8) := by kernel_rfl
/-- Pointers to these blocks. -/
def ptrs (l : List Nat) : List Value := l.map fun b => Value.pointer (some ⟨b, 0, none⟩)
theorem length_ptrs (l : List Nat) : (ptrs l).length = l.length := by simp [ptrs]
theorem ptrs_append (l m : List Nat) : ptrs (l ++ m) = ptrs l ++ ptrs m := by simp [ptrs]

/-! ### Plain slots -/
structure Md where
  size : Nat
  S : List (List Int)
  R : List (List Int)
  sn : Nat
  rn : Nat
  C : Option (List Int)
structure Md.Ok (M : Md) : Prop where
  sz : M.size ≤ 4
  ls : M.S.length + M.rn = M.sn
  lr : M.R.length + (if M.size = 0 then M.rn else M.sn - M.size) = M.rn
def Md.new (n : Nat) : Md := ⟨n, [], [], 0, 0, none⟩
theorem Md.new_ok (n : Nat) (h : n ≤ 4) : (Md.new n).Ok := ⟨h, rfl, by simp [Md.new]⟩
def Md.due (M : Md) : Bool := decide (0 < M.size ∧ M.size ≤ M.sn)
def Md.full (M : Md) : Bool := decide (max 1 M.size ≤ M.S.length)
def Md.sendE (M : Md) : Int := if M.C.isSome then 90 else if M.full then 5 else 0
def Md.send (M : Md) (l : List Int) : Md := if M.sendE = 0 then ⟨M.size, M.S ++ [l], if M.due then M.R.tail else M.R, M.sn + 1, M.rn, M.C⟩ else M
def Md.sendF (M : Md) : Option (List Int) := if M.sendE = 0 then (if M.due then some (M.R.headD []) else none) else none
def Md.recvE (M : Md) : Int := if M.S.length = 0 then 6 else 0
def Md.recv (M : Md) (l : List Int) : Md := if M.recvE = 0 then ⟨M.size, M.S.tail, if M.size = 0 then M.R else M.R ++ [l], M.sn, M.rn + 1, M.C⟩ else M
def Md.recvF (M : Md) : Option (List Int) := if M.recvE = 0 then some (M.S.headD []) else none
def Md.closeE (M : Md) : Int := if M.C.isSome then 90 else 0
def Md.close (M : Md) (l : List Int) : Md := if M.closeE = 0 then ⟨M.size, M.S, M.R, M.sn, M.rn, some l⟩ else M
def Md.drop (M : Md) (t : Int) : Md := ⟨M.size, M.S.map (drop0 t), M.R.map (drop0 t), M.sn, M.rn, M.C.map (drop0 t)⟩
def Md.peekF (M : Md) (send : Bool) : Option (List Int) := if send then (if M.due then M.R.head? else none) else M.S.head?
def Md.kept (M : Md) : List (List Int) := M.S ++ M.R ++ M.C.toList

theorem Md.due_R {M : Md} (h : M.Ok) (hf : M.full = false) (hd : M.due = true) : 0 < M.R.length := by
  have hf := of_decide_eq_false hf
  have hd := of_decide_eq_true hd
  have h1 := h.ls
  have h2 := h.lr
  rw [if_neg (by omega)] at h2
  omega
theorem Md.send_ok {M : Md} (h : M.Ok) (l : List Int) : (M.send l).Ok := by
  unfold Md.send
  split
  · rename_i he
    have h1 := h.ls
    have h2 := h.lr
    refine ⟨h.sz, by simp; omega, ?_⟩
    show (if M.due then M.R.tail else M.R).length + (if M.size = 0 then M.rn else M.sn + 1 - M.size) = M.rn
    cases hd : M.due with
    | false =>
      have hd := of_decide_eq_false hd
      simp only [Bool.false_eq_true, if_false]
      split at h2
      · rename_i h0; rw [if_pos h0]; exact h2
      · rename_i h0; rw [if_neg h0]; omega
    | true =>
      have hf : M.full = false := by
        cases hf : M.full with
        | false => rfl
        | true => unfold Md.sendE at he; rw [hf] at he; split at he <;> simp at he
      have hr := Md.due_R h hf hd
      have hd := of_decide_eq_true hd
      simp only [if_true, List.length_tail]
      rw [if_neg (by omega)] at h2 ⊢
      omega
  · exact h
theorem Md.recv_ok {M : Md} (h : M.Ok) (l : List Int) : (M.recv l).Ok := by
  unfold Md.recv
  split
  · rename_i he
    have h1 := h.ls
    have h2 := h.lr
    have hs : 0 < M.S.length := by
      unfold Md.recvE at he
      split at he
      · simp at he
      · omega
    refine ⟨h.sz, by simp; omega, ?_⟩
    show (if M.size = 0 then M.R else M.R ++ [l]).length + (if M.size = 0 then M.rn + 1 else M.sn - M.size) = M.rn + 1
    split at h2
    · rename_i h0; rw [if_pos h0, if_pos h0]; omega
    · rename_i h0; rw [if_neg h0, if_neg h0, List.length_append]; simp; omega
  · exact h
theorem Md.close_ok {M : Md} (h : M.Ok) (l : List Int) : (M.close l).Ok := by
  unfold Md.close
  split
  · exact ⟨h.sz, h.ls, h.lr⟩
  · exact h
theorem Md.drop_ok {M : Md} (h : M.Ok) (t : Int) : (M.drop t).Ok := ⟨h.sz, by show (M.S.map (drop0 t)).length + M.rn = M.sn; rw [List.length_map]; exact h.ls, by show (M.R.map (drop0 t)).length + (if M.size = 0 then M.rn else M.sn - M.size) = M.rn; rw [List.length_map]; exact h.lr⟩
theorem Md.small {M : Md} (h : M.Ok) : M.R.length ≤ M.rn := by have := h.lr; omega

/-! ### Lists of clocks -/
def Hass (F : Nat → Option Ck) : List Nat → List (List Int) → Prop
  | [], [] => True
  | b :: bs, l :: ls => Has F b l ∧ Hass F bs ls
  | _, _ => False
theorem Hass.same {F F' : Nat → Option Ck} (hs : Same F F') : ∀ {bs : List Nat} {ls : List (List Int)}, Hass F bs ls → Hass F' bs ls
  | [], [], _ => trivial
  | _ :: _, _ :: _, h => ⟨h.1.same hs, Hass.same hs h.2⟩
  | [], _ :: _, h => h.elim
  | _ :: _, [], h => h.elim
theorem Hass.rest {F F' : Nat → Option Ck} {b : Nat} (hs : Rest F F' b) : ∀ {bs : List Nat} {ls : List (List Int)}, Hass F bs ls → b ∉ bs → Hass F' bs ls
  | [], [], _, _ => trivial
  | _ :: _, _ :: _, h, hn => ⟨h.1.rest hs (fun e => hn (by simp [e])), Hass.rest hs h.2 (fun hm => hn (List.mem_cons_of_mem _ hm))⟩
  | [], _ :: _, h, _ => h.elim
  | _ :: _, [], h, _ => h.elim
theorem Hass.len {F : Nat → Option Ck} : ∀ {bs : List Nat} {ls : List (List Int)}, Hass F bs ls → bs.length = ls.length
  | [], [], _ => rfl
  | _ :: _, _ :: _, h => by simp [Hass.len h.2]
  | [], _ :: _, h => h.elim
  | _ :: _, [], h => h.elim
theorem Hass.app {F : Nat → Option Ck} : ∀ {bs : List Nat} {ls : List (List Int)} {cs : List Nat} {ms : List (List Int)}, Hass F bs ls → Hass F cs ms → Hass F (bs ++ cs) (ls ++ ms)
  | [], [], _, _, _, k => k
  | _ :: _, _ :: _, _, _, h, k => ⟨h.1, Hass.app h.2 k⟩
  | [], _ :: _, _, _, h, _ => h.elim
  | _ :: _, [], _, _, h, _ => h.elim
theorem Hass.one {F : Nat → Option Ck} {b : Nat} {l : List Int} (h : Has F b l) : Hass F [b] [l] := ⟨h, trivial⟩
theorem Hass.at {F : Nat → Option Ck} : ∀ {bs : List Nat} {ls : List (List Int)}, Hass F bs ls → ∀ j, j < bs.length → Has F (bs.getD j 0) (ls.getD j [])
  | _ :: _, _ :: _, h, 0, _ => h.1
  | _ :: bs, _ :: _, h, j + 1, hj => by
    simp only [List.getD_cons_succ]
    exact Hass.at h.2 j (by simpa using hj)
  | [], _, _, _, hj => by simp at hj
  | _ :: _, [], h, _, _ => h.elim
theorem Hass.mem {F : Nat → Option Ck} : ∀ {bs : List Nat} {ls : List (List Int)}, Hass F bs ls → ∀ b, b ∈ bs → ∃ l, Has F b l
  | _ :: _, _ :: _, h, b, hb => by
    rcases List.mem_cons.1 hb with rfl | hb
    · exact ⟨_, h.1⟩
    · exact Hass.mem h.2 b hb
  | [], _, _, _, hb => by simp at hb
  | _ :: _, [], h, _, _ => h.elim

/-! ### Slots in memory -/
/-- What a call on slots keeps. -/
def KeepS (B : Nat) (w w' : World) : Prop := (∀ e, e ≠ 75 → e ≠ 3 → e ≠ 28 → e ≠ 72 → KeepT e w w') ∧ ∀ w0 : World, B ≤ w0.heap.size → Below B w0 w → Below B w0 w'
theorem KeepS.refl (B : Nat) (w : World) : KeepS B w w := ⟨fun _ _ _ _ _ => KeepT.refl _ _, fun _ _ h => h⟩
theorem KeepS.trans {B : Nat} {a b c : World} (h : KeepS B a b) (k : KeepS B b c) : KeepS B a c := ⟨fun e h1 h2 h3 h4 => (h.1 e h1 h2 h3 h4).trans (k.1 e h1 h2 h3 h4), fun w0 hw hb => k.2 w0 hw (h.2 w0 hw hb)⟩
theorem KeepP.s {B : Nat} {w w' : World} (h : KeepP B w w') : KeepS B w w' := ⟨fun e h1 h2 _ _ => h.1 e h1 h2, h.2⟩
theorem KeepS.size {B : Nat} {w w' : World} (h : KeepS B w w') (hB : B ≤ w.heap.size) : w.heap.size ≤ w'.heap.size := by
  have := (h.2 w hB (Below.refl _ _)).size
  exact this

structure SlAt (B s : Nat) (w : World) (F : Nat → Option Ck) (vS vR : Value) (sb rb : List Nat) (cb : Option Nat) (M : Md) : Prop where
  blk : w.heap[s]? = some (Obj.cells #[.int .i64 (M.size : Nat), vS, vR, .int .i64 (M.sn : Nat), .int .i64 (M.rn : Nat), .pointer (cb.map fun b => ⟨b, 0, none⟩)] 72 (0, 0))
  rowS : w.ownsRow B 28 1 vS sb.length (ptrs sb)
  rowR : w.ownsRow B 28 1 vR rb.length (ptrs rb)
  apart : ∀ g, vS.ownBlock = some g → vR.ownBlock ≠ some g
  fam : Fam B w F
  hS : Hass F sb M.S
  hR : Hass F rb M.R
  hC : Hass F cb.toList M.C.toList
  nodup : (sb ++ rb ++ cb.toList).Nodup
  low : B ≤ s
  bw : B ≤ w.heap.size
/-- All that is kept. -/
theorem SlAt.all {B s : Nat} {w : World} {F : Nat → Option Ck} {vS vR : Value} {sb rb : List Nat} {cb : Option Nat} {M : Md} (h : SlAt B s w F vS vR sb rb cb M) : Hass F (sb ++ rb ++ cb.toList) M.kept := (h.hS.app h.hR).app h.hC
theorem SlAt.keep {B s : Nat} {w w' : World} {F F' : Nat → Option Ck} {vS vR : Value} {sb rb : List Nat} {cb : Option Nat} {M : Md} (h : SlAt B s w F vS vR sb rb cb M) (hf : Fam B w' F') (hs : Same F F') (h1 : KeepT 72 w w') (h2 : KeepT 28 w w') (hb : B ≤ w'.heap.size) : SlAt B s w' F' vS vR sb rb cb M :=
  ⟨(h1 _ _ _ h.blk).trans h.blk, ownsRow_keep h.rowS h2, ownsRow_keep h.rowR h2, h.apart, hf, h.hS.same hs, h.hR.same hs, h.hC.same hs, h.nodup, h.low, hb⟩
theorem SlAt.below {B s : Nat} {w w' : World} {F : Nat → Option Ck} {vS vR : Value} {sb rb : List Nat} {cb : Option Nat} {M : Md} (h : SlAt B s w F vS vR sb rb cb M) (hB : Below w.heap.size w w') : SlAt B s w' F vS vR sb rb cb M :=
  h.keep (h.fam.below hB) (Same.refl _) (keepT_below hB) (keepT_below hB) (Nat.le_trans h.bw hB.size)
theorem SlAt.keepP {B s : Nat} {w w' : World} {F F' : Nat → Option Ck} {vS vR : Value} {sb rb : List Nat} {cb : Option Nat} {M : Md} (h : SlAt B s w F vS vR sb rb cb M) (hf : Fam B w' F') (hs : Same F F') (hk : KeepP B w w') : SlAt B s w' F' vS vR sb rb cb M :=
  h.keep hf hs (hk.1 _ (by decide) (by decide)) (hk.1 _ (by decide) (by decide)) (Nat.le_trans h.bw (hk.2 w h.bw (Below.refl _ _)).size)

theorem owns_slice {w : World} {base size n : Nat} {e : TypeId} {v : Value} {xs : List Value} (h : w.ownsRow base e size v n xs) : ∃ ao cap, v = .slice ao n cap := by
  rcases h.2 with ⟨rfl, rfl⟩ | ⟨g, cap, _, rfl, _⟩
  · exact ⟨_, _, rfl⟩
  · exact ⟨_, _, rfl⟩
theorem ownsRow_low {w : World} {b1 b2 size n : Nat} {e : TypeId} {v : Value} {xs : List Value} (h : w.ownsRow b1 e size v n xs) (hle : b2 ≤ b1) : w.ownsRow b2 e size v n xs := by
  refine ⟨h.1, ?_⟩
  rcases h.2 with h2 | ⟨g, cap, cur, rfl, hb, h3⟩
  · exact .inl h2
  · exact .inr ⟨g, cap, cur, rfl, Nat.le_trans hle hb, h3⟩

/-- What a call that fetches answers. -/
def Fetched (F : Nat → Option Ck) (K : List Nat) (p : Option Addr) (o : Option (List Int)) : Prop :=
  match o with
  | none => p = none
  | some l => ∃ b, p = some ⟨b, 0, none⟩ ∧ Has F b l ∧ b ∉ K

end Go.Proofs.Ytlkfhobacgnckaa

