
/-
  Strings of bytes in a walk: 'bs l' is the string whose bytes are l; what comparing, joining, indexing and cutting give. No program in sight but its string and byte types.
-/
import Derived.Test.YtpefjcmaggimhaaNum
import Derived.WalkKit
import Derived.WalkSpells
import Derived.KernelRfl
import Derived.Lib.Hide
import Derived.Lib.Strings
import Derived.Laws.BitsLemmas
import Derived.Laws.BytesString
import Derived.Laws.BytesArg
import Derived.Laws.IdiomStrings
namespace Go.Proofs.Ytpefjcmaggimhaa
open Go.RowKit
set_option linter.unusedVariables false
set_option linter.unusedSimpArgs false

/-- The cells of bytes. -/
def byt (l : List UInt8) : List Value := l.map fun b => .int .u8 (b.toNat : Int)
/-- A string of bytes. -/
def bs (l : List UInt8) : Value := .string ⟨l.toArray⟩

theorem length_byt (l : List UInt8) : (byt l).length = l.length := by simp [byt]
theorem byt_append (l m : List UInt8) : byt (l ++ m) = byt l ++ byt m := by simp [byt]
theorem byt_one (l : List UInt8) : ∀ u ∈ byt l, u.oneCell' = true := by
  intro u hu
  obtain ⟨_, _, rfl⟩ := List.mem_map.1 hu
  rfl

/-- 'string(b)' of a row of the call's own. -/
theorem run_string_own {P : Program} {w : World} {base e : Nat} {v : Value} {n : Nat} {l : List UInt8} (src dst : TypeId) (hs : P.underlying src = some (.slice e)) (he : P.underlying e = some (.int .u8)) (hd : P.underlying dst = some .string)
    (h : w.ownsRow base e 1 v n (byt l)) : (convert src dst v).run P w = .ok (bs l) w := by
  obtain ⟨hl, h⟩ := h
  have hn : l.length = n := by rw [length_byt] at hl; omega
  subst hn
  rcases h with ⟨rfl, h0⟩ | ⟨g, cap, cur, rfl, _, hg, _, _, hcs, ht⟩
  · have := List.eq_nil_of_length_eq_zero h0
    subst this
    exact run_convert_bytes_nil w src e hs he 0 0 dst hd
  · refine run_convert_bytes_back w src dst e ⟨g, 0, none⟩ cap l hs he hd ?_
    intro j hj
    have hj2 : (byt l)[j]? = some (.int .u8 (l[j].toNat : Int)) := by simp [byt, hj]
    rw [← ht, List.getElem?_take_of_lt (by omega)] at hj2
    have ha : (⟨g, 0, none⟩ : Addr).add j = ⟨g, j, none⟩ := by unfold Addr.add; split <;> simp_all
    rw [ha]
    simp only [World.cell?, hg]
    simpa using hj2

/-- A byte of a string as a number. -/
def btI (l : List UInt8) (i : Nat) : Int := ((l.getD i 0).toNat : Int)
theorem btI_bd (l : List UInt8) (i : Nat) : 0 ≤ btI l i ∧ btI l i ≤ 255 := by
  have := (l.getD i 0).toNat_lt
  unfold btI; omega
theorem getb {s : ByteArray} {l : List UInt8} (hs : s = ⟨l.toArray⟩) (i : Nat) (h : i < s.size) : ((s[i]'h).toNat : Int) = btI l i := by
  subst hs
  have h2 : i < l.length := by simpa [ByteArray.size] using h
  unfold btI
  simp only [List.getD, List.getElem?_eq_getElem h2, Option.getD_some]
  rfl
theorem sizeb {s : ByteArray} {l : List UInt8} (hs : s = ⟨l.toArray⟩) : s.size = l.length := by subst hs; simp [ByteArray.size]
theorem extb {s : ByteArray} {l : List UInt8} (hs : s = ⟨l.toArray⟩) (a : Nat) : Value.string (s.extract a l.length) = bs (l.drop a) := by
  have e1 : (s.extract a l.length).data.toList = l.drop a := by
    rw [Lib.extract_data, hs, List.take_of_length_le (by simp)]
  unfold bs
  congr 1
  apply ByteArray.ext
  rw [← Array.toList_inj, e1]
theorem notEmpty {s : ByteArray} {l : List UInt8} (hs : s = ⟨l.toArray⟩) (h : l ≠ []) : s.toList.isEmpty = false := by
  rw [Lib.toList_data, hs]
  simpa using h


/-! What the operations give on strings of bytes -/
theorem toList_bs (l : List UInt8) : (ByteArray.mk l.toArray).toList = l := by rw [Lib.toList_data]
theorem size_bs (l : List UInt8) : (ByteArray.mk l.toArray).size = l.length := by simp [ByteArray.size]

@[go_sem] theorem binOp_bs_eql (t : TypeId) (a b : List UInt8) : binOp .eql t (bs a) (bs b) = pure (.bool (a == b)) := by
  unfold bs; rw [binOp_string_eql, toList_bs, toList_bs]
@[go_sem] theorem binOp_bs_neq (t : TypeId) (a b : List UInt8) : binOp .neq t (bs a) (bs b) = pure (.bool !(a == b)) := by
  unfold bs; rw [binOp_string_neq, toList_bs, toList_bs]
@[go_sem] theorem binOp_bs_eql_str (t : TypeId) (a : List UInt8) (s : ByteArray) : binOp .eql t (bs a) (.string s) = pure (.bool (a == s.data.toList)) := by
  unfold bs; rw [binOp_string_eql, toList_bs, Lib.toList_data]
@[go_sem] theorem binOp_bs_neq_str (t : TypeId) (a : List UInt8) (s : ByteArray) : binOp .neq t (bs a) (.string s) = pure (.bool !(a == s.data.toList)) := by
  unfold bs; rw [binOp_string_neq, toList_bs, Lib.toList_data]

@[go_sem] theorem eqGuard_at_bs (op : BinOp) (t : TypeId) (x y : Operand) (l : List UInt8) (v : Value) : eqGuard op t x y (bs l) v = pure () := eqGuard_at_string _ _ _ _ _ _
@[go_sem] theorem cells_bs (l : List UInt8) : (bs l).cells = #[bs l] := rfl
@[go_sem] theorem run_store_bs {P : Program} (w : World) (a : Addr) (m : Mode) (l : List UInt8) : (store a (bs l) m).run P w = stored P w a (bs l) m := run_store_string _ _ _ _ _
@[go_sem] theorem oneCell_bs (l : List UInt8) : (bs l).oneCell' = true := rfl

section
variable {P : Program} (w : World)
@[go_sem] theorem run_bs_add (t : TypeId) (a b : List UInt8) : (binOp .add t (bs a) (bs b)).run P w =
    if a.length + b.length > 9223372036854775807 then .halt (.unsupported (.resourceLimit "string concatenation: a sum of the lengths that is no int")) w else .ok (bs (a ++ b)) w := by
  unfold bs
  rw [binOp_string_add, run_string_add_if, size_bs, size_bs, ByteArray.mk_append_mk]
@[go_sem] theorem run_bs_len (t ty : TypeId) (l : List UInt8) (h : P.underlying t = some .string) :
    (Builtin.len_ #[t] ty #[bs l]).run P w = .ok (goInt l.length) w := by
  unfold bs
  rw [run_len_string w t ty _ h, size_bs]
@[go_sem] theorem run_bs_index (t : TypeId) (l : List UInt8) (k : IntKind) (i : Int) (h : P.underlying t = some .string) :
    (Instr.index t (bs l) (.int k i)).run P w =
      if 0 ≤ i ∧ i < (l.length : Int) then .ok (.int .u8 (btI l i.toNat)) w else (boundsPanic k i l.length .index).run P w := by
  unfold bs
  rw [run_index_string w t _ k i h]
  by_cases hi : 0 ≤ i ∧ i < (l.length : Int)
  · rw [dif_pos (by rw [size_bs]; exact hi), if_pos hi, getb rfl]
  · rw [dif_neg (by rw [size_bs]; exact hi), if_neg hi, size_bs]
theorem ext_bs (l : List UInt8) (a b : Nat) : Value.string ((ByteArray.mk l.toArray).extract a b) = bs ((l.drop a).take (b - a)) := by
  rw [ByteArray.extract_mk]; rfl
@[go_sem] theorem run_bs_from (t : TypeId) (l : List UInt8) (k : IntKind) (i : Int) (h : P.underlying t = some .string) :
    (Instr.slice t (bs l) (some (.int k i)) none none).run P w =
      if 0 ≤ i ∧ i ≤ (l.length : Int) then .ok (bs (l.drop i.toNat)) w else ((boundsPanic k i l.length .sliceB : Sem Nat).run P w).andThen fun a w' => .ok (.string ((ByteArray.mk l.toArray).extract a l.length)) w' := by
  have h1 : bs l = .string ⟨l.toArray⟩ := rfl
  rw [h1, run_slice_string_from_if w t _ k i h, size_bs, ext_bs, List.take_of_length_le (by simp)]
@[go_sem] theorem run_bs_to (t : TypeId) (l : List UInt8) (k : IntKind) (j : Int) (h : P.underlying t = some .string) :
    (Instr.slice t (bs l) none (some (.int k j)) none).run P w =
      if 0 ≤ j ∧ j ≤ (l.length : Int) then .ok (bs (l.take j.toNat)) w else ((boundsPanic k j l.length .sliceAlen : Sem Nat).run P w).andThen fun a w' => .ok (.string ((ByteArray.mk l.toArray).extract 0 a)) w' := by
  have h1 : bs l = .string ⟨l.toArray⟩ := rfl
  rw [h1, run_slice_string_to_if w t _ k j h, size_bs, ext_bs, List.drop_zero, Nat.sub_zero]
end

end Go.Proofs.Ytpefjcmaggimhaa

