
/-
  Package remap: records, rows of records, tables; copies of elements of several cells.
-/
import Derived.Test.YtmhonibalgddcaaProg
import Derived.Test.YtmhonibalgddcaaChecked
import Derived.Shelf.Spec.SlicesInsertGrow
import Derived.Laws.AppendOwn
import Derived.Laws.CopyRow
import Derived.Below
import Derived.Deep.Draws
import Derived.Deep.RegionLaw
import Derived.Deep.RegionHeld3
import Derived.Lib.Hide
import Derived.WalkKit
namespace Go.Proofs.Ytmhonibalgddcaa
open Go.RowKit
set_option linter.unusedVariables false
set_option linter.unusedSimpArgs false
set_option maxRecDepth 100000

/-! ### Records -/
structure Rec where
  g : Int
  tid : Int
  frm : Int
  gone : Bool
  till : Int
  cut : Int
deriving DecidableEq
instance : Inhabited Rec := ⟨⟨0, 0, 0, false, 0, 0⟩⟩
def recL (r : Rec) : List Value := [.int .i64 r.g, .int .i64 r.tid, .int .i64 r.frm, .bool r.gone, .int .i64 r.till, .int .i64 r.cut]
def recV (r : Rec) : Value := .agg #[.int .i64 r.g, .int .i64 r.tid, .int .i64 r.frm, .bool r.gone, .int .i64 r.till, .int .i64 r.cut]
def recs (rs : List Rec) : List Value := rs.flatMap recL
theorem recL_len (r : Rec) : (recL r).length = 6 := rfl
theorem recs_len : ∀ rs : List Rec, (recs rs).length = rs.length * 6
  | [] => rfl
  | r :: rs => by
    show (recL r ++ recs rs).length = _
    rw [List.length_append, recs_len rs, recL_len, List.length_cons]; omega
theorem recs_append (a b : List Rec) : recs (a ++ b) = recs a ++ recs b := by simp [recs]
theorem recs_one (r : Rec) : recs [r] = recL r := by simp [recs]
theorem recs_take (rs : List Rec) (i : Nat) (h : i ≤ rs.length) : recs (rs.take i) = (recs rs).take (i * 6) := by
  have e : recs rs = recs (rs.take i) ++ recs (rs.drop i) := by rw [← recs_append, List.take_append_drop]
  rw [e, List.take_left' (by rw [recs_len, List.length_take, Nat.min_eq_left h])]
theorem recs_drop (rs : List Rec) (i : Nat) (h : i ≤ rs.length) : recs (rs.drop i) = (recs rs).drop (i * 6) := by
  have e : recs rs = recs (rs.take i) ++ recs (rs.drop i) := by rw [← recs_append, List.take_append_drop]
  rw [e, List.drop_left' (by rw [recs_len, List.length_take, Nat.min_eq_left h])]
theorem recs_at : ∀ (rs : List Rec) (i : Nat), i < rs.length → ∀ c, c < 6 → (recs rs)[i * 6 + c]? = (recL (rs.getD i default))[c]?
  | [], i, h, c, hc => by simp at h
  | e :: rs, 0, h, c, hc => by
    show (recL e ++ recs rs)[0 * 6 + c]? = _
    rw [List.getElem?_append_left (by rw [recL_len]; omega)]
    simp
  | e :: rs, i + 1, h, c, hc => by
    show (recL e ++ recs rs)[(i + 1) * 6 + c]? = _
    rw [List.getElem?_append_right (by rw [recL_len]; omega), recL_len, show (i + 1) * 6 + c - 6 = i * 6 + c by omega, recs_at rs i (by simpa using h) c hc]
    simp
theorem recs_one_cell (rs : List Rec) : ∀ u ∈ recs rs, u.oneCell' = true := by
  intro u hu
  simp only [recs, List.mem_flatMap] at hu
  obtain ⟨r, _, hu⟩ := hu
  simp [recL] at hu
  rcases hu with rfl | rfl | rfl | rfl | rfl | rfl <;> rfl

/-- These cells are this record. -/
structure RecAt (w : World) (b o : Nat) (r : Rec) : Prop where
  c0 : w.cell? ⟨b, o, none⟩ = some (.int .i64 r.g)
  c1 : w.cell? ⟨b, o + 1, none⟩ = some (.int .i64 r.tid)
  c2 : w.cell? ⟨b, o + 2, none⟩ = some (.int .i64 r.frm)
  c3 : w.cell? ⟨b, o + 3, none⟩ = some (.bool r.gone)
  c4 : w.cell? ⟨b, o + 4, none⟩ = some (.int .i64 r.till)
  c5 : w.cell? ⟨b, o + 5, none⟩ = some (.int .i64 r.cut)
theorem RecAt.below {w w' : World} {b o : Nat} {r : Rec} (h : RecAt w b o r) {n : Nat} (hn : w.heap.size ≤ n) (hB : Below n w w') : RecAt w' b o r := by
  have hb : b < n := Nat.lt_of_lt_of_le (block_lt_of_cell h.c0) hn
  obtain ⟨c0, c1, c2, c3, c4, c5⟩ := h
  have e : ∀ o, w'.cell? ⟨b, o, none⟩ = w.cell? ⟨b, o, none⟩ := fun o => hB.cell (p := ⟨b, o, none⟩) hb
  exact ⟨(e _).trans c0, (e _).trans c1, (e _).trans c2, (e _).trans c3, (e _).trans c4, (e _).trans c5⟩

/-! ### All blocks of this element type are as they were -/
theorem lt_of_heap {w : World} {b : Nat} {x : Obj} (h : w.heap[b]? = some x) : b < w.heap.size := by
  rcases Nat.lt_or_ge b w.heap.size with h' | h'
  · exact h'
  · simp [Array.getElem?_eq_none h'] at h
def KeepT (e : TypeId) (w w' : World) : Prop := ∀ (i : Nat) (cur : Array Value) (fz : Nat × Nat), w.heap[i]? = some (Obj.cells cur e fz) → w'.heap[i]? = w.heap[i]?
theorem KeepT.refl (e : TypeId) (w : World) : KeepT e w w := fun _ _ _ _ => rfl
theorem KeepT.trans {e : TypeId} {a b c : World} (h : KeepT e a b) (k : KeepT e b c) : KeepT e a c := fun i cur fz hi => by
  have h1 := h i cur fz hi
  rw [k i cur fz (h1.trans hi), h1]
theorem keepT_below {e : TypeId} {w w' : World} (h : Below w.heap.size w w') : KeepT e w w' := fun i cur fz hi => h.block i (lt_of_heap hi)
theorem keepT_set {e e0 : TypeId} {w : World} {g o : Nat} {cur : Array Value} {fz : Nat × Nat} {v : Value} (hg : w.heap[g]? = some (.cells cur e0 fz)) (hne : e ≠ e0) : KeepT e w (w.setCell ⟨g, o, none⟩ v) := fun i cur' fz' hi => by
  refine heap_setCell_other _ _ _ _ ?_
  rintro rfl
  rw [hg] at hi
  have := Option.some.inj hi
  injection this with e1 e2
  exact hne e2.symm
theorem keepT_grown {e e0 : TypeId} {w w' : World} {base size n : Nat} {v : Value} {xs : List Value} (h : w.ownsRow base e0 size v n xs) (hg : w.grownBy w' v.ownBlock) (hne : e ≠ e0) : KeepT e w w' := fun i cur fz hi => by
  refine hg.block i (lt_of_heap hi) ?_
  intro he
  rcases h.2 with ⟨rfl, _⟩ | ⟨g, cap, cur', rfl, _, hgg, _⟩
  · cases he
  · cases he
    rw [hgg] at hi
    have := Option.some.inj hi
    injection this with e1 e2
    exact hne e2.symm
theorem ownsRow_keep {e : TypeId} {w w' : World} {base size n : Nat} {v : Value} {xs : List Value} (h : w.ownsRow base e size v n xs) (hk : KeepT e w w') : w'.ownsRow base e size v n xs := by
  refine ⟨h.1, ?_⟩
  rcases h.2 with h2 | ⟨g, cap, cur', rfl, hb, hgg, h3⟩
  · exact .inl h2
  · exact .inr ⟨g, cap, cur', rfl, hb, (hk g _ _ hgg).trans hgg, h3⟩
theorem below_trans {n m : Nat} {w w1 w2 : World} (h : Below n w w1) (h2 : Below m w1 w2) (hm : n ≤ m) : Below n w w2 := h.trans (h2.mono hm)

/-! ### A slice of records -/
def RsOf (w : World) (v : Value) (rs : List Rec) : Prop :=
  ∃ ao cap, v = .slice ao rs.length cap ∧ (0 < rs.length → ∃ b o, ao = some ⟨b, o, none⟩ ∧ ∀ i, i < rs.length → RecAt w b (o + i * 6) (rs.getD i default))
theorem RsOf.below {w w' : World} {v : Value} {rs : List Rec} (h : RsOf w v rs) {n : Nat} (hn : w.heap.size ≤ n) (hB : Below n w w') : RsOf w' v rs := by
  obtain ⟨ao, cap, rfl, hc⟩ := h
  refine ⟨ao, cap, rfl, fun hp => ?_⟩
  obtain ⟨b, o, rfl, hd⟩ := hc hp
  exact ⟨b, o, rfl, fun i hi => (hd i hi).below hn hB⟩
theorem RsOf.at {w : World} {ao : Option Addr} {n cap : Nat} {rs : List Rec} (h : RsOf w (.slice ao n cap) rs) (i : Nat) (hi : i < rs.length) : ∃ b o, ao = some ⟨b, o, none⟩ ∧ RecAt w b (o + i * 6) (rs.getD i default) := by
  obtain ⟨_, _, e, hc⟩ := h
  cases e
  obtain ⟨b, o, rfl, hd⟩ := hc (by omega)
  exact ⟨b, o, rfl, hd i hi⟩
theorem rs_of_own {w : World} {base : Nat} {e : TypeId} {v : Value} {rs : List Rec} (h : w.ownsRow base e 6 v rs.length (recs rs)) : RsOf w v rs := by
  rcases h.2 with ⟨rfl, h0⟩ | ⟨g, cap, cur, rfl, hbg, hg, hnc, hcm, hcs, htake⟩
  · exact ⟨none, 0, by rw [h0], fun hp => by omega⟩
  · refine ⟨some ⟨g, 0, none⟩, cap, rfl, fun _ => ⟨g, 0, rfl, fun i hi => ?_⟩⟩
    have key : ∀ c u, c < 6 → (recL (rs.getD i default))[c]? = some u → w.cell? ⟨g, 0 + i * 6 + c, none⟩ = some u := fun c u hc hu => by
      have := h.cells (g := g) rfl (i * 6 + c) u (by rw [recs_at rs i hi c hc]; exact hu)
      rw [Go.WideShapes.add_plain, ← Nat.add_assoc] at this
      exact this
    exact ⟨key 0 _ (by omega) rfl, key 1 _ (by omega) rfl, key 2 _ (by omega) rfl, key 3 _ (by omega) rfl, key 4 _ (by omega) rfl, key 5 _ (by omega) rfl⟩

/-! ### copy, of elements of k cells -/
theorem run_copy_rowk {P : Program} (w : World) (dT sT ty elem : TypeId) (k g o dLen dCap : Nat) (a : Addr) (sLen sCap m : Nat) (cur : Array Value) (t : TypeId) (cs : List Value)
    (hu : P.underlying dT = some (.slice elem)) (hs : (P.info? elem).map (·.size) = some k)
    (hg : w.heap[g]? = some (.cells cur t (0, 0))) (hm : Nat.min sLen dLen = m) (hn : cs.length = m * k)
    (hsrc : ∀ j v, cs[j]? = some v → w.cell? (a.add j) = some v) (hfit : o + cs.length ≤ cur.size) (h1 : ∀ v ∈ cs, v.oneCell' = true) :
    (Builtin.copy_ #[dT, sT] ty #[.slice (some ⟨g, o, none⟩) dLen dCap, .slice (some a) sLen sCap]).run P w =
      .ok (goInt m) (w.setRow g (cur.toList.take o ++ cs ++ cur.toList.drop (o + cs.length)).toArray) := by
  have hl := run_loadCells_list (P := P) w a cs hsrc
  have hst := run_storeCells_at P g o t cs 0 cur w hg (by simpa using hfit) h1
  cases hq : P.info? elem with
  | none => simp [hq] at hs
  | some i =>
    have hi : i.size = k := by simpa [hq] using hs
    simp [Builtin.copy_, run_underlying hu, Builtin.lenOf, Builtin.firstCells, sizeOf, typeInfo, hq, hi, hm, ← hn, hl, hst]
end Go.Proofs.Ytmhonibalgddcaa

