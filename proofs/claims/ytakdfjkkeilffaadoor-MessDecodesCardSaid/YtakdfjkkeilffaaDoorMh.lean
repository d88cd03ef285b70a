/- A message is written. -/
import Derived.Test.YtakdfjkkeilffaaDoorMg
set_option linter.unusedVariables false
set_option linter.unusedSimpArgs false
namespace Go.Proofs.YtakdfjkkeilffaaDoor
open Go.RowKit

/-- a message as an item -/
def msgIt (m : Msg) : It := itList (itNum m.kind.toNat :: (flds m.kind).map fun f => fieldIt m f.toNat)
/-- what Encode tells of a message -/
def encM (m : Msg) : ByteArray × Nat := if longM m then (⟨#[]⟩, 2) else if mayM m then encR (msgIt m) else (⟨#[]⟩, 200)

theorem short_num (f n : Nat) : short f (itNum n) := by
  cases f with
  | zero => simp [short]
  | succ f => exact ⟨by decide, fun y hy => absurd hy (by simp [itNum])⟩
theorem short_list (f : Nat) (l : List It) (h : ∀ y ∈ l, short f y) : short (f + 1) (itList l) := ⟨by decide, h⟩
theorem short_nums (f : Nat) (l : List Nat) : short f (itList (l.map itNum)) := by
  cases f with
  | zero => simp [short]
  | succ f => exact short_list f _ fun y hy => by obtain ⟨n, _, rfl⟩ := List.mem_map.1 hy; exact short_num f n
theorem short_mat (f : Nat) (y : Mat) : short f (itMat y) := by
  cases f with
  | zero => simp [short]
  | succ f =>
    refine short_list f _ fun x hx => ?_
    simp at hx
    rcases hx with rfl | rfl | rfl | rfl
    · exact short_num _ _
    · exact short_num _ _
    · exact short_num _ _
    · exact short_nums _ _
theorem short_field (f : Nat) (m : Msg) (i : Nat) : short f (fieldIt m i) := by
  unfold fieldIt
  split
  · exact short_nums _ _
  · split
    · exact short_nums _ _
    · split
      · cases f with
        | zero => simp [short]
        | succ f => exact short_list f _ fun y hy => by obtain ⟨n, _, rfl⟩ := List.mem_map.1 hy; exact short_mat f n
      · exact short_num _ _
theorem short_msg (m : Msg) : short 8 (msgIt m) := by
  refine short_list 7 _ fun y hy => ?_
  simp at hy
  rcases hy with rfl | ⟨f, _, rfl⟩
  · exact short_num _ _
  · exact short_field _ _ _
theorem flds_ok (k : Int) : (flds k).length ≤ 6 ∧ ∀ f ∈ flds k, 0 ≤ f ∧ f < 10 := by
  unfold flds
  split
  · exact ⟨by decide, by decide⟩
  · split
    · exact ⟨by decide, by decide⟩
    · split
      · exact ⟨by decide, by decide⟩
      · split
        · exact ⟨by decide, by decide⟩
        · exact ⟨by decide, by decide⟩
/-- what a message that may be, and is not long, has -/
theorem may_facts {m : Msg} (hl : longM m = false) (hm : mayM m = true) : m.ws.length ≤ 16384 ∧ m.ms.length ≤ 16384 ∧ m.ds.length ≤ 16384 ∧ (∀ y ∈ m.ms, y.d.length ≤ 16384) ∧ (∀ y ∈ m.ms, 0 ≤ y.lv ∧ 0 ≤ y.ce ∧ 0 ≤ y.ep) ∧ (∀ i, i < 7 → 0 ≤ m.num i) ∧ 1 ≤ m.kind ∧ m.kind ≤ 4 := by
  unfold longM at hl
  simp only [Bool.or_eq_false_iff, decide_eq_false_iff_not, List.any_eq_false] at hl
  unfold mayM at hm
  simp only [Bool.and_eq_true, List.all_eq_true, List.mem_range] at hm
  obtain ⟨⟨⟨l1, l2⟩, l3⟩, l4⟩ := hl
  obtain ⟨⟨⟨h1, h2⟩, h3⟩, h4⟩ := hm
  refine ⟨by omega, by omega, by omega, fun y hy => ?_, fun y hy => ?_, fun i hi => ?_, ?_⟩
  · have := l4 y hy; unfold longMat at this; simp at this; omega
  · have := h3 y hy; unfold okMat tick at this; simp at this; omega
  · have := h2 i hi; unfold okF at this; simp at this; omega
  · unfold isKind at h1; simpa using h1

end Go.Proofs.YtakdfjkkeilffaaDoor
