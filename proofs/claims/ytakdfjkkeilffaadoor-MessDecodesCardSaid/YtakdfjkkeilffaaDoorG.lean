/- An item is read. -/
import Derived.Test.YtakdfjkkeilffaaDoorB
import Derived.Test.YtakdfjkkeilffaaDoorC
import Derived.Deep.AppendLies
import Derived.Deep.RegionLaw
import Derived.Deep.Cut
import Derived.Deep.CutRange
import Derived.OwnWalk
import Derived.KernelRfl
import Derived.IntWalk
set_option linter.unusedVariables false
set_option linter.unusedSimpArgs false
namespace Go.Proofs.YtakdfjkkeilffaaDoor
open Go.RowKit

/-- four values are an item in memory, all of its blocks are in a set -/
inductive HoldsP (S : Nat → Prop) (w : World) : Value → Value → Value → Value → It → Prop
  | mk (k : Int) (n : Nat) (s : ByteArray) (A : Option Addr) (c : Nat) (l : List It) (F : Nat → Value × Value × Value × Value)
      (hn : n < 18446744073709551616) (hs : s.size ≤ 140737488355328) (hm : l.length ≤ 9223372036854775807)
      (hA : 0 < l.length → ∃ g o, A = some ⟨g, o, none⟩ ∧ S g ∧ ∀ i, i < l.length → w.cell? ⟨g, o + i * 4, none⟩ = some (F i).1 ∧ w.cell? ⟨g, o + i * 4 + 1, none⟩ = some (F i).2.1 ∧ w.cell? ⟨g, o + i * 4 + 2, none⟩ = some (F i).2.2.1 ∧ w.cell? ⟨g, o + i * 4 + 3, none⟩ = some (F i).2.2.2)
      (hl : ∀ i (h : i < l.length), HoldsP S w (F i).1 (F i).2.1 (F i).2.2.1 (F i).2.2.2 l[i]) :
      HoldsP S w (.int .i64 k) (.int .u64 n) (.string s) (.slice A l.length c) (.mk k n s l)

theorem HoldsP.holds {S : Nat → Prop} {w : World} {v0 v1 v2 v3 : Value} {x : It} (h : HoldsP S w v0 v1 v2 v3 x) : Holds w v0 v1 v2 v3 x := by
  induction h with
  | mk k n s A c l F hn hs hm hA hl ih =>
    exact .mk k n s A c l F hn hs hm (fun h0 => by obtain ⟨g, o, e, _, hc⟩ := hA h0; exact ⟨g, o, e, hc⟩) ih
theorem HoldsP.keep {S S' : Nat → Prop} {w w' : World} {v0 v1 v2 v3 : Value} {x : It} (h : HoldsP S w v0 v1 v2 v3 x) (hS : ∀ g, S g → S' g) (hk : ∀ g, S g → w'.heap[g]? = w.heap[g]?) : HoldsP S' w' v0 v1 v2 v3 x := by
  induction h with
  | mk k n s A c l F hn hs hm hA hl ih =>
    refine .mk k n s A c l F hn hs hm (fun h0 => ?_) ih
    obtain ⟨g, o, e, hg, hc⟩ := hA h0
    have hcell : ∀ j, w'.cell? ⟨g, j, none⟩ = w.cell? ⟨g, j, none⟩ := fun j => World.cell?_of_block (hk g hg)
    exact ⟨g, o, e, hS g hg, fun i hi => by rw [hcell, hcell, hcell, hcell]; exact hc i hi⟩
theorem HoldsP.shape {S : Nat → Prop} {w : World} {v0 v1 v2 v3 : Value} {x : It} (h : HoldsP S w v0 v1 v2 v3 x) : ∃ (k : Int) (n : Nat) (s : ByteArray) (A : Option Addr) (m c : Nat), v0 = .int .i64 k ∧ v1 = .int .u64 n ∧ v2 = .string s ∧ v3 = .slice A m c := by
  cases h; exact ⟨_, _, _, _, _, _, rfl, rfl, rfl, rfl⟩

/-- some things, one behind the other -/
def psMany (rd : Nat → Except (Nat × Nat) (It × Nat)) : Nat → Nat → Except (Nat × Nat) (List It × Nat)
  | 0, p => .ok ([], p)
  | m + 1, p => match rd p with
    | .error e => .error e
    | .ok (x, q) => match psMany rd m q with
      | .error e => .error e
      | .ok (l, r) => .ok (x :: l, r)

/-- what is read at a place; the first number: how many depths are left -/
def ps : Nat → ByteArray → Nat → Except (Nat × Nat) (It × Nat)
  | 0, _, p => .error (p, 21)
  | f + 1, b, p =>
    if b.size ≤ p then .error (p, 23)
    else if (b.data.toList.getD p 0).toNat < 1 ∨ 3 < (b.data.toList.getD p 0).toNat then .error (p, 20)
    else if (pn 0 0 (rest b (p + 1))).1 ≠ 0 then .error (p + 1, (pn 0 0 (rest b (p + 1))).1)
    else if (b.data.toList.getD p 0).toNat = 1 then .ok (.mk 1 (pn 0 0 (rest b (p + 1))).2.1 ⟨#[]⟩ [], p + 1 + (pn 0 0 (rest b (p + 1))).2.2)
    else if (b.data.toList.getD p 0).toNat = 2 then
      if b.size - (p + 1 + (pn 0 0 (rest b (p + 1))).2.2) < (pn 0 0 (rest b (p + 1))).2.1 then .error (p + 1 + (pn 0 0 (rest b (p + 1))).2.2, 23)
      else .ok (.mk 2 0 (b.extract (p + 1 + (pn 0 0 (rest b (p + 1))).2.2) (p + 1 + (pn 0 0 (rest b (p + 1))).2.2 + (pn 0 0 (rest b (p + 1))).2.1)) [], p + 1 + (pn 0 0 (rest b (p + 1))).2.2 + (pn 0 0 (rest b (p + 1))).2.1)
    else if 16384 < (pn 0 0 (rest b (p + 1))).2.1 then .error (p + 1, 2)
    else match psMany (ps f b) (pn 0 0 (rest b (p + 1))).2.1 (p + 1 + (pn 0 0 (rest b (p + 1))).2.2) with
      | .error e => .error e
      | .ok (l, q) => .ok (.mk 3 0 ⟨#[]⟩ l, q)

def zeroItem : Value := .agg #[.int .i64 0, .int .u64 0, .string ⟨#[]⟩, .slice none 0 0]

def RdPost (rb : Nat) (b : ByteArray) (w : World) (r : Except (Nat × Nat) (It × Nat)) (e : Ending) (w' : World) : Prop :=
  w.grownBy w' (some rb) ∧ match r with
  | .error (a, c) => e = .returned (.tuple #[zeroItem, .agg #[.int .i64 (a : Nat), .int .i64 (c : Nat)]]) ∧ (∃ p' : Int, w'.heap[rb]? = some (.cells (readCells b p') 86 (0, 0))) ∧ c ≠ 0
  | .ok (x, q) => ∃ v0 v1 v2 v3, e = .returned (.tuple #[.agg #[v0, v1, v2, v3], .agg #[.int .i64 0, .int .i64 0]]) ∧ HoldsP (fun g => w.heap.size ≤ g ∧ g < w'.heap.size) w' v0 v1 v2 v3 x ∧ w'.heap[rb]? = some (.cells (readCells b (q : Nat)) 86 (0, 0)) ∧ q ≤ b.size

theorem grew {w W : World} {rb : Nat} (h : Below w.heap.size w W) : w.grownBy W (some rb) := ⟨h.os, h.tape, h.output, h.size, fun k hk _ => h.block k hk⟩
theorem rd_err {rb : Nat} {b : ByteArray} {w W : World} {r : Except (Nat × Nat) (It × Nat)} {a c : Nat} {p' : Int} (hr : r = .error (a, c)) (hg : w.grownBy W (some rb)) (hb : W.heap[rb]? = some (.cells (readCells b p') 86 (0, 0))) (hc : c ≠ 0) :
    RdPost rb b w r (.returned (.tuple #[zeroItem, .agg #[.int .i64 (a : Nat), .int .i64 (c : Nat)]])) W := by
  subst hr
  exact ⟨hg, rfl, ⟨p', hb⟩, hc⟩

/-- but for some blocks all is as it was -/
structure Off (B : Nat → Prop) (w w' : World) : Prop where
  os : w'.os = w.os
  tape : w'.tape = w.tape
  output : w'.output = w.output
  size : w.heap.size ≤ w'.heap.size
  block : ∀ g, ¬ B g → g < w.heap.size → w'.heap[g]? = w.heap[g]?
theorem Off.refl (B : Nat → Prop) (w : World) : Off B w w := ⟨rfl, rfl, rfl, Nat.le_refl _, fun _ _ _ => rfl⟩
theorem Off.set {B : Nat → Prop} {w w' : World} (h : Off B w w') {a : Addr} (ha : B a.block) (v : Value) : Off B w (w'.setCell a v) :=
  ⟨h.os, h.tape, h.output, by simpa [World.setCell] using h.size, fun g hg hlt => by rw [Below.heap_setCell _ _ _ _ (fun e => hg (by rw [e]; exact ha))]; exact h.block g hg hlt⟩
theorem Off.drew {B : Nat → Prop} {w w' : World} (h : Off B w w') : Off B w w'.drew := ⟨h.os, h.tape, h.output, h.size, h.block⟩
theorem Off.grown {B : Nat → Prop} {w w' W : World} {rb : Nat} (h : Off B w w') (hg : W.grownBy w (some rb)) (hB : ∀ g, B g → g < W.heap.size → g = rb) : W.grownBy w' (some rb) :=
  ⟨h.os.trans hg.os, h.tape.trans hg.tape, h.output.trans hg.output, Nat.le_trans hg.size h.size, fun k hk hne => by
    rw [h.block k (fun e => hne (by rw [hB k e hk])) (Nat.lt_of_lt_of_le hk hg.size)]; exact hg.block k hk hne⟩

theorem three (w : World) (x0 x1 x2 : Array Value) (t0 t1 t2 : Nat) :
    (((w.alloc (.cells x0 t0)).alloc (.cells x1 t1)).alloc (.cells x2 t2)).heap[w.heap.size]? = some (.cells x0 t0 (0, 0)) ∧
    (((w.alloc (.cells x0 t0)).alloc (.cells x1 t1)).alloc (.cells x2 t2)).heap[w.heap.size + 1]? = some (.cells x1 t1 (0, 0)) ∧
    (((w.alloc (.cells x0 t0)).alloc (.cells x1 t1)).alloc (.cells x2 t2)).heap[w.heap.size + 1 + 1]? = some (.cells x2 t2 (0, 0)) := by
  have e1 : (w.alloc (.cells x0 t0)).heap.size = w.heap.size + 1 := by simp
  have e2 : ((w.alloc (.cells x0 t0)).alloc (.cells x1 t1)).heap.size = w.heap.size + 1 + 1 := by simp
  refine ⟨?_, ?_, ?_⟩
  · rw [Below.heap_alloc _ _ _ (by rw [e2]; omega), Below.heap_alloc _ _ _ (by rw [e1]; omega)]; exact heap_alloc_new _ _
  · rw [Below.heap_alloc _ _ _ (by rw [e2]; omega), ← e1]; exact heap_alloc_new _ _
  · rw [← e2]; exact heap_alloc_new _ _

def outB (N : Nat) : Nat → Prop := fun g => g = N ∨ g = N + 1 ∨ g = N + 1 + 1
/-- behind the number: w is the world at the call; the results' cells are blocks N and N + 1, the item is block N + 2, the fault block fb -/
structure Mid (rb : Nat) (b : ByteArray) (w W : World) (pos : Int) (xc fc : Array Value) (fb : Nat) : Prop where
  grown : w.grownBy W (some rb)
  rd : W.heap[rb]? = some (.cells (readCells b pos) 86 (0, 0))
  z0 : W.heap[w.heap.size]? = some (.cells #[.int .i64 0, .int .u64 0, .string ⟨#[]⟩, .slice none 0 0] 57 (0, 0))
  z1 : W.heap[w.heap.size + 1]? = some (.cells #[.int .i64 0, .int .i64 0] 31 (0, 0))
  z2 : W.heap[w.heap.size + 1 + 1]? = some (.cells xc 57 (0, 0))
  ff : W.heap[fb]? = some (.cells fc 31 (0, 0))
  lt : rb < w.heap.size
  fbge : w.heap.size + 1 + 1 < fb

section
variable {rb : Nat} {b : ByteArray} {w W : World} {pos : Int} {xc fc : Array Value} {fb : Nat}
theorem Mid.reader (h : Mid rb b w W pos xc fc fb) : W.cell? ⟨rb, 0, none⟩ = some (.string b) ∧ W.cell? ⟨rb, 1, none⟩ = some (.int .i64 pos) ∧ W.frozen? ⟨rb, 1, none⟩ = false := by
  refine ⟨?_, ?_, ?_⟩
  · rw [cell_of_row _ _ _ _ _ _ h.rd]; rfl
  · rw [cell_of_row _ _ _ _ _ _ h.rd]; rfl
  · simp only [World.frozen?, h.rd]; rfl
theorem Mid.outs (h : Mid rb b w W pos xc fc fb) : W.cell? ⟨w.heap.size, 0, none⟩ = some (.int .i64 0) ∧ W.cell? ⟨w.heap.size, 1, none⟩ = some (.int .u64 0) ∧ W.cell? ⟨w.heap.size, 2, none⟩ = some (.string ⟨#[]⟩) ∧ W.cell? ⟨w.heap.size, 3, none⟩ = some (.slice none 0 0) ∧
    W.cell? ⟨w.heap.size + 1, 0, none⟩ = some (.int .i64 0) ∧ W.cell? ⟨w.heap.size + 1, 1, none⟩ = some (.int .i64 0) := by
  refine ⟨?_, ?_, ?_, ?_, ?_, ?_⟩
  · rw [cell_of_row _ _ _ _ _ _ h.z0]; rfl
  · rw [cell_of_row _ _ _ _ _ _ h.z0]; rfl
  · rw [cell_of_row _ _ _ _ _ _ h.z0]; rfl
  · rw [cell_of_row _ _ _ _ _ _ h.z0]; rfl
  · rw [cell_of_row _ _ _ _ _ _ h.z1]; rfl
  · rw [cell_of_row _ _ _ _ _ _ h.z1]; rfl
theorem Mid.free (h : Mid rb b w W pos xc fc fb) : (∀ j, W.frozen? ⟨w.heap.size, j, none⟩ = false) ∧ (∀ j, W.frozen? ⟨w.heap.size + 1, j, none⟩ = false) ∧ (∀ j, W.frozen? ⟨w.heap.size + 1 + 1, j, none⟩ = false) := by
  refine ⟨fun j => ?_, fun j => ?_, fun j => ?_⟩
  · simp only [World.frozen?, h.z0]; rfl
  · simp only [World.frozen?, h.z1]; rfl
  · simp only [World.frozen?, h.z2]; rfl
theorem Mid.item (h : Mid rb b w W pos xc fc fb) (j : Nat) : W.cell? ⟨w.heap.size + 1 + 1, j, none⟩ = xc[j]? := cell_of_row _ _ _ _ _ _ h.z2
theorem Mid.fault (h : Mid rb b w W pos xc fc fb) (j : Nat) : W.cell? ⟨fb, j, none⟩ = fc[j]? := cell_of_row _ _ _ _ _ _ h.ff
/-- the end: some of the three blocks may have been written -/
theorem Mid.err (h : Mid rb b w W pos xc fc fb) {W2 : World} (ho : Off (outB w.heap.size) W W2) {r : Except (Nat × Nat) (It × Nat)} {a c : Nat} (hr : r = .error (a, c)) (hc : c ≠ 0) :
    RdPost rb b w r (.returned (.tuple #[zeroItem, .agg #[.int .i64 (a : Nat), .int .i64 (c : Nat)]])) W2 := by
  have hlt := h.lt
  refine rd_err (p' := pos) hr (ho.grown h.grown (fun g hg hlt => by unfold outB at hg; omega)) ?_ hc
  · exact (ho.block rb (by unfold outB; omega) (lt_of_block h.rd)).trans h.rd
end
theorem Mid.first {rb : Nat} {b : ByteArray} {w W3 w1 : World} {pos : Int} {xc fc : Array Value} (hlt : rb < w.heap.size) (hg : w.grownBy W3 (some rb)) (hs : W3.heap.size = w.heap.size + 3)
    (z0 : W3.heap[w.heap.size]? = some (.cells #[.int .i64 0, .int .u64 0, .string ⟨#[]⟩, .slice none 0 0] 57 (0, 0)))
    (z1 : W3.heap[w.heap.size + 1]? = some (.cells #[.int .i64 0, .int .i64 0] 31 (0, 0)))
    (z2 : W3.heap[w.heap.size + 1 + 1]? = some (.cells xc 57 (0, 0))) (hg1 : W3.grownBy w1 (some rb)) (hrd : w1.heap[rb]? = some (.cells (readCells b pos) 86 (0, 0))) :
    Mid rb b w (w1.alloc (.cells fc 31)) pos xc fc w1.heap.size := by
  have hs1 := hg1.size
  have hk : ∀ g, g < W3.heap.size → g ≠ rb → (w1.alloc (.cells fc 31)).heap[g]? = W3.heap[g]? := fun g h1 h2 => by
    rw [Below.heap_alloc _ _ _ (by omega)]
    exact hg1.block g h1 (by simpa using h2)
  refine ⟨⟨hg1.os.trans hg.os, hg1.tape.trans hg.tape, hg1.output.trans hg.output, by simp; omega, fun k h1 h2 => ?_⟩, ?_, ?_, ?_, ?_, heap_alloc_new _ _, hlt, by omega⟩
  · rw [hk k (by omega) (by simpa using h2)]; exact hg.block k h1 h2
  · rw [Below.heap_alloc _ _ _ (by omega)]; exact hrd
  · rw [hk _ (by omega) (by omega)]; exact z0
  · rw [hk _ (by omega) (by omega)]; exact z1
  · rw [hk _ (by omega) (by omega)]; exact z2

theorem off6 {N : Nat} {W W1 : World} (h : Off (outB N) W W1) (v0 v1 v2 v3 v4 v5 : Value) : Off (outB N) W ((((((W1.setCell ⟨N, 0, none⟩ v0).setCell ⟨N, 1, none⟩ v1).setCell ⟨N, 2, none⟩ v2).setCell ⟨N, 3, none⟩ v3).setCell ⟨N + 1, 0, none⟩ v4).setCell ⟨N + 1, 1, none⟩ v5) :=
  (((((h.set (a := ⟨N, 0, none⟩) (.inl rfl) v0).set (a := ⟨N, 1, none⟩) (.inl rfl) v1).set (a := ⟨N, 2, none⟩) (.inl rfl) v2).set (a := ⟨N, 3, none⟩) (.inl rfl) v3).set (a := ⟨N + 1, 0, none⟩) (.inr (.inl rfl)) v4).set (a := ⟨N + 1, 1, none⟩) (.inr (.inl rfl)) v5
theorem off2 {N : Nat} {W W1 : World} (h : Off (outB N) W W1) (v4 v5 : Value) : Off (outB N) W ((W1.setCell ⟨N + 1, 0, none⟩ v4).setCell ⟨N + 1, 1, none⟩ v5) :=
  (h.set (a := ⟨N + 1, 0, none⟩) (.inr (.inl rfl)) v4).set (a := ⟨N + 1, 1, none⟩) (.inr (.inl rfl)) v5

theorem Mid.ok {rb : Nat} {b : ByteArray} {w W W2 : World} {pos : Int} {xc fc : Array Value} {fb : Nat} (h : Mid rb b w W pos xc fc fb) (ho : Off (outB w.heap.size) W W2) {r : Except (Nat × Nat) (It × Nat)} {x : It} {q : Nat} {v0 v1 v2 v3 : Value}
    (hr : r = .ok (x, q)) (hx : HoldsP (fun g => w.heap.size ≤ g ∧ g < W2.heap.size) W2 v0 v1 v2 v3 x) (hq : (q : Int) = pos) (hqb : q ≤ b.size) :
    RdPost rb b w r (.returned (.tuple #[.agg #[v0, v1, v2, v3], .agg #[.int .i64 0, .int .i64 0]])) W2 := by
  subst hr
  have hlt := h.lt
  refine ⟨ho.grown h.grown (fun g hg hlt => by unfold outB at hg; omega), v0, v1, v2, v3, rfl, hx, ?_, hqb⟩
  rw [hq]
  exact (ho.block rb (by unfold outB; omega) (lt_of_block h.rd)).trans h.rd
/-- a number or a text, in memory -/
theorem HoldsP.leaf {S : Nat → Prop} {w : World} (k : Int) (n : Nat) (s : ByteArray) (hn : n < 18446744073709551616) (hs : s.size ≤ 140737488355328) : HoldsP S w (.int .i64 k) (.int .u64 n) (.string s) (.slice none 0 0) (.mk k n s []) :=
  .mk k n s none 0 [] (fun _ => (.int .i64 0, .int .i64 0, .int .i64 0, .int .i64 0)) hn hs (by simp) (by simp) (by simp)

theorem num_bad {rb : Nat} {b : ByteArray} {p code n m : Nat} {W w1 : World} {e : Ending} (h : NumPost rb b p W e w1) (hpn : pn 0 0 (rest b p) = (code, n, m)) (hc : code ≠ 0) :
    e = .returned (.tuple #[.int .u64 0, .agg #[.int .i64 (p : Nat), .int .i64 code]]) ∧ W.grownBy w1 (some rb) ∧ w1.heap[rb]? = some (.cells (readCells b (p : Nat)) 86 (0, 0)) := by
  obtain ⟨h1, _, h3⟩ := h
  rw [hpn] at h3
  exact ⟨(h3 hc).1, h1, (h3 hc).2⟩
theorem num_good {rb : Nat} {b : ByteArray} {p n m : Nat} {W w1 : World} {e : Ending} (h : NumPost rb b p W e w1) (hpn : pn 0 0 (rest b p) = (0, n, m)) :
    e = .returned (.tuple #[.int .u64 n, .agg #[.int .i64 0, .int .i64 0]]) ∧ W.grownBy w1 (some rb) ∧ w1.heap[rb]? = some (.cells (readCells b (p + m : Nat)) 86 (0, 0)) := by
  obtain ⟨h1, h2, _⟩ := h
  rw [hpn] at h2
  exact ⟨(h2 rfl).1, h1, (h2 rfl).2⟩
theorem pn_bounds (l : List UInt8) : ∀ i acc n m, pn i acc l = (0, n, m) → acc < 128 ^ i → i ≤ 9 → n < 18446744073709551616 ∧ i < m ∧ m ≤ i + l.length := by
  induction l with
  | nil => intro i acc n m h; simp [pn] at h
  | cons c r ih =>
    intro i acc n m h ha hi
    simp only [pn] at h
    split at h
    · simp at h
    · rename_i h9
      split at h
      · rename_i h128
        split at h
        · simp at h
        · simp only [Prod.mk.injEq, true_and] at h
          obtain ⟨rfl, rfl⟩ := h
          refine ⟨?_, by omega, by simp⟩
          by_cases hi9 : i = 9
          · subst hi9
            have e : (128 : Nat) ^ 9 = 9223372036854775808 := by decide
            have : c.toNat * 128 ^ 9 ≤ 1 * 128 ^ 9 := Nat.mul_le_mul_right _ (by omega)
            omega
          · have h1 : c.toNat * 128 ^ i ≤ 127 * 128 ^ i := Nat.mul_le_mul_right _ (by omega)
            have h2 : (128 : Nat) ^ i ≤ 128 ^ 8 := Nat.pow_le_pow_right (by decide) (by omega)
            have e : (128 : Nat) ^ 8 = 72057594037927936 := by decide
            omega
      · rename_i h128
        have hi8 : i ≤ 8 := by
          have := c.toNat_lt
          omega
        have h1 : c.toNat % 128 * 128 ^ i ≤ 127 * 128 ^ i := Nat.mul_le_mul_right _ (by omega)
        have h2 : 128 ^ (i + 1) = 128 * 128 ^ i := by rw [Nat.pow_succ, Nat.mul_comm]
        have := ih (i + 1) _ n m h (by omega) (by omega)
        simp only [List.length_cons]
        omega

/-- the reader, behind some new blocks -/
theorem reads {rb p : Nat} {b : ByteArray} {w : World} (h : w.heap[rb]? = some (.cells (readCells b p) 86 (0, 0))) :
    (∀ o1 o2, ((w.alloc o1).alloc o2).heap[rb]? = some (.cells (readCells b p) 86 (0, 0))) ∧
    (∀ o1 o2 o3, (((w.alloc o1).alloc o2).alloc o3).heap[rb]? = some (.cells (readCells b p) 86 (0, 0))) ∧
    (∀ o1 o2, ((w.alloc o1).alloc o2).cell? ⟨rb, 0, none⟩ = some (.string b)) ∧
    (∀ o1 o2, ((w.alloc o1).alloc o2).cell? ⟨rb, 1, none⟩ = some (.int .i64 p)) ∧
    (∀ o1 o2 o3, (((w.alloc o1).alloc o2).alloc o3).cell? ⟨rb, 1, none⟩ = some (.int .i64 p)) ∧
    (∀ o1 o2 o3, (((w.alloc o1).alloc o2).alloc o3).frozen? ⟨rb, 1, none⟩ = false) := by
  have hlt := lt_of_block h
  have al2 : ∀ o1 o2, ((w.alloc o1).alloc o2).heap[rb]? = some (.cells (readCells b p) 86 (0, 0)) := fun o1 o2 =>
    ((Below.heap_alloc _ o2 _ (by simp; omega)).trans (Below.heap_alloc w o1 _ hlt)).trans h
  have al3 : ∀ o1 o2 o3, (((w.alloc o1).alloc o2).alloc o3).heap[rb]? = some (.cells (readCells b p) 86 (0, 0)) := fun o1 o2 o3 =>
    (Below.heap_alloc _ o3 _ (by simp; omega)).trans (al2 o1 o2)
  exact ⟨al2, al3, fun o1 o2 => by rw [cell_of_row _ _ _ _ _ _ (al2 o1 o2)]; rfl, fun o1 o2 => by rw [cell_of_row _ _ _ _ _ _ (al2 o1 o2)]; rfl,
    fun o1 o2 o3 => by rw [cell_of_row _ _ _ _ _ _ (al3 o1 o2 o3)]; rfl, fun o1 o2 o3 => by simp only [World.frozen?, al3]; rfl⟩

def Z57 : Obj := .cells #[.int .i64 0, .int .u64 0, .string ⟨#[]⟩, .slice none 0 0] 57
def Z31 : Obj := .cells #[.int .i64 0, .int .i64 0] 31
def K57 (k : Nat) : Obj := .cells #[.int .i64 k, .int .u64 0, .string ⟨#[]⟩, .slice none 0 0] 57
/-- the world at the call of number -/
def preW (rb p k : Nat) (w : World) : World := (((w.alloc Z57).alloc Z31).alloc (K57 k)).setCell ⟨rb, 1, none⟩ (.int .i64 ((p : Int) + 1))

theorem pre_any {rb p k : Nat} {b : ByteArray} {w : World} (hb : b.size ≤ 262144) (hlp : p < b.size) (h : w.heap[rb]? = some (.cells (readCells b p) 86 (0, 0))) :
    Calls Tryd.prog 68 #[.pointer (some ⟨rb, 0, none⟩)] (preW rb p k w) (NumPost rb b (p + 1) (preW rb p k w)) ∧
    ∀ (w1 : World) (pos : Int) (fc : Array Value), (preW rb p k w).grownBy w1 (some rb) → w1.heap[rb]? = some (.cells (readCells b pos) 86 (0, 0)) →
      Mid rb b w (w1.alloc (.cells fc 31)) pos #[.int .i64 k, .int .u64 0, .string ⟨#[]⟩, .slice none 0 0] fc w1.heap.size := by
  have hlt := lt_of_block h
  obtain ⟨al2, al3, _⟩ := reads h
  obtain ⟨W3, hW3⟩ : ∃ W3, W3 = preW rb p k w := ⟨_, rfl⟩
  unfold preW Z57 Z31 K57 at hW3
  have hW3b : W3.heap[rb]? = some (.cells (readCells b (p + 1 : Nat)) 86 (0, 0)) := by
    rw [hW3, heap_setCell_same _ rb 1 _ _ _ (al3 _ _ _)]; rfl
  have hz := three w #[.int .i64 0, .int .u64 0, .string ⟨#[]⟩, .slice none 0 0] #[.int .i64 0, .int .i64 0] #[.int .i64 k, .int .u64 0, .string ⟨#[]⟩, .slice none 0 0] 57 31 57
  have hs3 : W3.heap.size = w.heap.size + 3 := by rw [hW3]; simp [World.setCell]
  have hg3 : w.grownBy W3 (some rb) := by
    have hb3 := grew (rb := rb) ((((Below.refl w.heap.size w).alloc (Nat.le_refl _) (.cells #[.int .i64 0, .int .u64 0, .string ⟨#[]⟩, .slice none 0 0] 57)).alloc (by simp) (.cells #[.int .i64 0, .int .i64 0] 31)).alloc (by simp; omega) (.cells #[.int .i64 k, .int .u64 0, .string ⟨#[]⟩, .slice none 0 0] 57))
    rw [hW3]
    exact ((Off.refl (fun g => g = rb) _).set rfl _).grown hb3 (fun _ h _ => h)
  have z0 : W3.heap[w.heap.size]? = some (.cells #[.int .i64 0, .int .u64 0, .string ⟨#[]⟩, .slice none 0 0] 57 (0, 0)) := by
    rw [hW3, Below.heap_setCell _ _ _ _ (by simp; omega)]; exact hz.1
  have z1 : W3.heap[w.heap.size + 1]? = some (.cells #[.int .i64 0, .int .i64 0] 31 (0, 0)) := by
    rw [hW3, Below.heap_setCell _ _ _ _ (by simp; omega)]; exact hz.2.1
  have z2 : W3.heap[w.heap.size + 1 + 1]? = some (.cells #[.int .i64 k, .int .u64 0, .string ⟨#[]⟩, .slice none 0 0] 57 (0, 0)) := by
    rw [hW3, Below.heap_setCell _ _ _ _ (by simp; omega)]; exact hz.2.2
  have e : preW rb p k w = W3 := hW3.symm
  rw [e]
  exact ⟨number_any rb b (p + 1) W3 hb (by omega) hW3b, fun w1 pos fc hg hrd => Mid.first hlt hg3 hs3 z0 z1 z2 hg hrd⟩

end Go.Proofs.YtakdfjkkeilffaaDoor
