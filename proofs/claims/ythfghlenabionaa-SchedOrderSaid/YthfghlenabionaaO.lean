/- What came in, opened: lists of numbers, lists of jobs, a plan. -/
import Derived.Test.YthfghlenabionaaG
import Derived.ProofKit
import Derived.OpenShut
import Derived.Deep.Slices
import Derived.Deep.Strs
import Derived.Lib.SmallJoins
set_option linter.unusedVariables false
set_option linter.unusedSimpArgs false
namespace Go.Proofs.Ythfghlenabionaa
open Go.ChangeShapes Go.WideShapes Go.ChangeAt Go.RowKit Go.Deep Go.Joins

theorem addr_plain {w : World} {a : Addr} {v : Value} (h : w.cell? a = some v) : a = ⟨a.block, a.off, none⟩ := by
  obtain ⟨b, o, s⟩ := a
  cases s with
  | none => rfl
  | some s => simp only [World.cell?] at h; split at h <;> simp at h
theorem add_plain' (b o i : Nat) : (⟨b, o, none⟩ : Addr).add i = ⟨b, o + i, none⟩ := by unfold Addr.add; split <;> simp_all

variable {H : Type} {enc : TypeId × Value → H} {w : World}

theorem Try.cells3' : Try.prog.cellsOf 3 = 1 := by kernel_rfl
theorem Try.cells36' : Try.prog.cellsOf 36 = 1 := by kernel_rfl
theorem Try.cells38' : Try.prog.cellsOf 38 = 3 := by kernel_rfl
theorem Try.cells24' : Try.prog.cellsOf 24 = 4 := by kernel_rfl

theorem ints_of {fuel : Nat} {cs : List Value} {x : DataW H × List MemPlace} (h : DataW.trod enc Try.prog w 0 (fun _ => true) true fuel 36 cs = some x) : ∃ v l, cs = [v] ∧ IntsIn w v l := by
  rcases open_ints Try.underlying36 Try.underlying3 Try.cells3' h with ⟨rfl, _⟩ | ⟨a, len, cap, zs, rfl, _, hl, hm, hz, _, hcell, _⟩
  · exact ⟨_, [], rfl, none, 0, rfl, by simp, fun h => by simp at h⟩
  · simp at hz
    have hlen : (zs.take len).length = len := by simp; omega
    refine ⟨_, zs.take len, rfl, some a, cap, by rw [hlen], by rw [hlen]; unfold maxLen at hm; omega, fun h0 => ?_⟩
    rw [hlen] at h0 ⊢
    have h00 := hcell 0 (by omega)
    have ha : a.add 0 = a := by simp [Addr.add]
    rw [ha] at h00
    have hp := addr_plain h00
    refine ⟨a.block, a.off, by rw [← hp], fun j hj => ?_⟩
    have hj2 := hcell j (by omega)
    rw [hp, add_plain'] at hj2
    rw [hj2]
    simp [List.getD_eq_getElem?_getD, List.getElem?_take, hj]

theorem job_of {fuel : Nat} {cs : List Value} {x : DataW H × List MemPlace} (h : DataW.trod enc Try.prog w 0 (fun _ => true) true fuel 38 cs = some x) : ∃ (l c : Int) (v : Value) (nd : List Int), cs = [.int .i64 l, .int .i64 c, v] ∧ IntsIn w v nd := by
  obtain ⟨y0, y1, y2, n, _, hlen, h0, h1, h2⟩ := trod_struct3 Try.underlying38 h
  rw [Try.cells38'] at hlen
  simp only [Try.cells3', Try.cells36'] at h0 h1 h2
  match cs, hlen with
  | [c0, c1, c2], _ =>
    simp only [List.drop_zero, List.take_succ_cons, List.take_zero, List.drop_succ_cons] at h0 h1 h2
    obtain ⟨l, e0, _, _⟩ := DataW.trod_int Try.underlying3 h0
    obtain ⟨c, e1, _, _⟩ := DataW.trod_int Try.underlying3 h1
    obtain ⟨v, nd, e2, hi⟩ := ints_of h2
    simp only [List.cons.injEq, and_true] at e0 e1 e2
    subst e0 e1 e2
    exact ⟨l, c, _, nd, rfl, hi⟩

theorem jobs_of {fuel : Nat} {cs : List Value} {x : DataW H × List MemPlace} (h : DataW.trod enc Try.prog w 0 (fun _ => true) true fuel 22 cs = some x) :
    ∃ (v : Value) (n : Nat) (lv cv : Nat → Int) (nv : Nat → Value) (nd : Nat → List Int), cs = [v] ∧ JobsIn w v n lv cv nv nd := by
  rcases open_slice Try.underlying22 h with ⟨rfl, _⟩ | ⟨a, len, cap, m, n, D, Pl, rfl, _, hl, hm, hmm, _, hel⟩
  · exact ⟨_, 0, fun _ => 0, fun _ => 0, fun _ => .slice none 0 0, fun _ => [], rfl, ⟨none, 0, rfl, by decide, fun h => by omega⟩, fun i hi => by omega⟩
  · simp at hmm
    have hone : ∀ i, i < len → ∃ q : (Int × Int) × (Value × List Int), w.cell? (a.add (i * 3)) = some (.int .i64 q.1.1) ∧ w.cell? ((a.add (i * 3)).add 1) = some (.int .i64 q.1.2) ∧ w.cell? ((a.add (i * 3)).add 2) = some q.2.1 ∧ IntsIn w q.2.1 q.2.2 := by
      intro i hi
      obtain ⟨cs', h1, h2⟩ := hel i (by omega)
      rw [Try.cells38'] at h1
      obtain ⟨_, _, h3⟩ := World.cells?_some h1
      obtain ⟨l, c, v, nd, rfl, hv⟩ := job_of h2
      have e0 := h3 0 (by omega)
      have e1 := h3 1 (by omega)
      have e2 := h3 2 (by omega)
      simp at e1 e2
      rw [show (a.add (i * 3)).add 0 = a.add (i * 3) from by simp [Addr.add]] at e0
      exact ⟨((l, c), (v, nd)), by simpa using e0, e1, e2, hv⟩
    obtain ⟨f, hf⟩ := choose_lt (α := (Int × Int) × (Value × List Int)) hone
    refine ⟨_, len, fun i => (f i).1.1, fun i => (f i).1.2, fun i => (f i).2.1, fun i => (f i).2.2, rfl, ⟨some a, cap, rfl, by unfold maxLen at hm; omega, fun h0 => ?_⟩, fun i hi => (hf i hi).2.2.2⟩
    have h00 := (hf 0 h0).1
    rw [Nat.zero_mul, show a.add 0 = a from by simp [Addr.add]] at h00
    have hp := addr_plain h00
    refine ⟨a.block, a.off, by rw [← hp], fun i hi => ?_⟩
    have hi2 := hf i hi
    rw [hp] at hi2
    simp only [add_plain'] at hi2
    exact ⟨hi2.1, hi2.2.1, hi2.2.2.1⟩

end Go.Proofs.Ythfghlenabionaa
