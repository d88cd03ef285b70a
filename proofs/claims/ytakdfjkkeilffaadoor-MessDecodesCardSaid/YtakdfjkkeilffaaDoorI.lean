/- A list is read. -/
import Derived.Test.YtakdfjkkeilffaaDoorH2
set_option linter.unusedVariables false
set_option linter.unusedSimpArgs false
namespace Go.Proofs.YtakdfjkkeilffaaDoor
open Go.RowKit

theorem t55 : Tryd.prog.underlying 55 = some (.slice 57) := by kernel_rfl
theorem i57 : (Tryd.prog.info? 57).map (fun i => (i.zero, i.size, i.bytes)) = some (some zeroItem, 4, 56) := by kernel_rfl

/-- the blocks of items: none of them is the row itself -/
def inRow (base : Nat) (W : World) (V : Value) : Nat → Prop := fun g => base ≤ g ∧ g < W.heap.size ∧ V.ownBlock ≠ some g
def at4 (vs : List Value) (i : Nat) : Value := vs.getD i (.int .i64 0)
/-- in the loop of a list: so many items are read -/
structure Row3 (rb : Nat) (b : ByteArray) (base : Nat) (w W : World) (q : Nat) (V : Value) (xs : List It) (vs : List Value) : Prop where
  grown : w.grownBy W (some rb)
  rd : W.heap[rb]? = some (.cells (readCells b q) 86 (0, 0))
  z0 : W.heap[w.heap.size]? = some (.cells #[.int .i64 0, .int .u64 0, .string ⟨#[]⟩, .slice none 0 0] 57 (0, 0))
  z1 : W.heap[w.heap.size + 1]? = some (.cells #[.int .i64 0, .int .i64 0] 31 (0, 0))
  z2 : W.heap[w.heap.size + 1 + 1]? = some (.cells #[.int .i64 3, .int .u64 0, .string ⟨#[]⟩, V] 57 (0, 0))
  row : W.ownsRow base 57 4 V xs.length vs
  items : ∀ i (h : i < xs.length), HoldsP (inRow base W V) W (at4 vs (i * 4)) (at4 vs (i * 4 + 1)) (at4 vs (i * 4 + 2)) (at4 vs (i * 4 + 3)) xs[i]
  lt : rb < w.heap.size
  lo : w.heap.size + 1 + 1 < base
  hi : base ≤ W.heap.size
  qb : q ≤ b.size

theorem Row3.first {rb : Nat} {b : ByteArray} {w W : World} {q : Nat} {fc : Array Value} {fb : Nat} (h : Mid rb b w W (q : Int) #[.int .i64 3, .int .u64 0, .string ⟨#[]⟩, .slice none 0 0] fc fb) (hq : q ≤ b.size) :
    Row3 rb b W.heap.size w W q (.slice none 0 0) [] [] := by
  have h1 := lt_of_block h.ff
  have h2 := h.fbge
  exact ⟨h.grown, h.rd, h.z0, h.z1, h.z2, World.ownsRow_nil _ _ _ _, fun i hi => by simp at hi, h.lt, by omega, Nat.le_refl _, hq⟩

/-- what a block behind the call is -/
theorem Row3.old {rb : Nat} {b : ByteArray} {base : Nat} {w W : World} {q : Nat} {V : Value} {xs : List It} {vs : List Value} (h : Row3 rb b base w W q V xs vs) : rb < W.heap.size ∧ w.heap.size + 1 + 1 < W.heap.size ∧ rb < w.heap.size := by
  have h1 := h.lt; have h2 := h.lo; have h3 := h.hi
  exact ⟨by omega, by omega, h1⟩

theorem at4_left (vs ws : List Value) (i : Nat) (h : i < vs.length) : at4 (vs ++ ws) i = at4 vs i := by
  unfold at4
  simp only [List.getD_eq_getElem?_getD, List.getElem?_append_left h]
theorem at4_right (vs ws : List Value) (j : Nat) : at4 (vs ++ ws) (vs.length + j) = at4 ws j := by
  unfold at4
  simp only [List.getD_eq_getElem?_getD]
  rw [List.getElem?_append_right (by omega), Nat.add_sub_cancel_left]

/-- one item more -/
theorem Row3.next {rb : Nat} {b : ByteArray} {base : Nat} {w W w1 w2 : World} {q q' : Nat} {V : Value} {xs : List It} {vs : List Value} (h : Row3 rb b base w W q V xs vs) {x : It} {v0 v1 v2 v3 : Value} {fc cs : Array Value} {g cap : Nat}
    (hg : W.grownBy w1 (some rb)) (hx : HoldsP (fun g => W.heap.size ≤ g ∧ g < w1.heap.size) w1 v0 v1 v2 v3 x) (hrd : w1.heap[rb]? = some (.cells (readCells b q') 86 (0, 0))) (hqb : q' ≤ b.size)
    (hown : w2.ownsRow base 57 4 (.slice (some ⟨g, 0, none⟩) (xs.length + 1) cap) (xs.length + 1) (vs ++ [v0, v1, v2, v3]))
    (hgr : (((w1.alloc (.cells #[v0, v1, v2, v3] 57)).alloc (.cells fc 31)).alloc (.cells cs 57)).grownBy w2 V.ownBlock) (hat : V.ownBlock = some g ∨ g = w1.heap.size + 3) (hlt2 : g < w2.heap.size) :
    Row3 rb b base w (w2.setCell ⟨w.heap.size + 1 + 1, 3, none⟩ (.slice (some ⟨g, 0, none⟩) (xs.length + 1) cap)) q' (.slice (some ⟨g, 0, none⟩) (xs.length + 1) cap) (xs ++ [x]) (vs ++ [v0, v1, v2, v3]) := by
  obtain ⟨hr1, hr2, hr3⟩ := h.old
  have hs1 := hg.size
  have hs2 : w1.heap.size + 3 ≤ w2.heap.size := by have := hgr.size; simpa using this
  have hlo := h.lo
  have hhi := h.hi
  have hvb : ∀ k, V.ownBlock = some k → base ≤ k ∧ k < W.heap.size := by
    intro k hk
    rcases h.row.2 with ⟨rfl, _⟩ | ⟨g', cap', cur, rfl, h2, h3, _⟩
    · simp [Value.ownBlock] at hk
    · simp [Value.ownBlock] at hk; subst hk; exact ⟨h2, lt_of_block h3⟩
  have hgb : base ≤ g ∧ g ≠ w.heap.size + 1 + 1 := by
    rcases hat with e | e
    · have := hvb g e; omega
    · omega
  -- a block of the world behind the call, that is not the row
  have keep1 : ∀ k, k < w1.heap.size → V.ownBlock ≠ some k → w2.heap[k]? = w1.heap[k]? := by
    intro k hk hne
    rw [hgr.block k (by simp; omega) (fun e => hne e.symm), Below.heap_alloc _ _ _ (by simp; omega), Below.heap_alloc _ _ _ (by simp; omega), Below.heap_alloc _ _ _ hk]
  have keep0 : ∀ k, k < W.heap.size → k ≠ rb → V.ownBlock ≠ some k → w2.heap[k]? = W.heap[k]? := by
    intro k hk hne hno
    rw [keep1 k (by omega) hno, hg.block k hk (by simpa using hne)]
  have nov : ∀ k, k < base → V.ownBlock ≠ some k := fun k hk e => by have := hvb k e; omega
  have set : ∀ k, k ≠ w.heap.size + 1 + 1 → (w2.setCell ⟨w.heap.size + 1 + 1, 3, none⟩ (.slice (some ⟨g, 0, none⟩) (xs.length + 1) cap)).heap[k]? = w2.heap[k]? := fun k hk => Below.heap_setCell _ _ _ _ hk
  have hsz : (w2.setCell ⟨w.heap.size + 1 + 1, 3, none⟩ (.slice (some ⟨g, 0, none⟩) (xs.length + 1) cap)).heap.size = w2.heap.size := by simp [World.setCell]
  have hvl : vs.length = xs.length * 4 := h.row.1
  refine ⟨?_, ?_, ?_, ?_, ?_, ?_, ?_, hr3, hlo, by rw [hsz]; omega, hqb⟩
  · have hg0 := h.grown
    refine ⟨?_, ?_, ?_, by rw [hsz]; have := hg0.size; omega, fun k hk hne => ?_⟩
    · show w2.os = _; rw [hgr.os]; exact hg.os.trans hg0.os
    · show w2.tape = _; rw [hgr.tape]; exact hg.tape.trans hg0.tape
    · show w2.output = _; rw [hgr.output]; exact hg.output.trans hg0.output
    · rw [set k (by omega), keep0 k (by have := hg0.size; omega) (by simpa using fun e : k = rb => hne (by rw [e])) (nov k (by omega))]
      exact hg0.block k hk hne
  · rw [set rb (by omega), keep1 rb (by omega) (nov rb (by omega))]; exact hrd
  · rw [set _ (by omega), keep0 _ (by omega) (by omega) (nov _ (by omega))]; exact h.z0
  · rw [set _ (by omega), keep0 _ (by omega) (by omega) (nov _ (by omega))]; exact h.z1
  · have hz : w2.heap[w.heap.size + 1 + 1]? = some (.cells #[.int .i64 3, .int .u64 0, .string ⟨#[]⟩, V] 57 (0, 0)) := by
      rw [keep0 _ (by omega) (by omega) (nov _ (by omega))]; exact h.z2
    rw [heap_setCell_same _ _ _ _ _ _ hz]; rfl
  · have e : (xs ++ [x]).length = xs.length + 1 := by simp
    rw [e]
    exact ownsRow_setCell_other hown (by simp [Value.ownBlock]; omega) _
  · intro i hi
    have hi2 : i < xs.length + 1 := by simpa using hi
    by_cases hil : i < xs.length
    · rw [List.getElem_append_left hil, at4_left _ _ _ (by omega), at4_left _ _ _ (by omega), at4_left _ _ _ (by omega), at4_left _ _ _ (by omega)]
      refine (h.items i hil).keep (fun k hk => ?_) (fun k hk => ?_)
      · obtain ⟨k1, k2, k3⟩ := hk
        refine ⟨k1, by rw [hsz]; omega, ?_⟩
        intro e
        simp [Value.ownBlock] at e
        rcases hat with e2 | e2
        · exact k3 (by rw [e2, e])
        · omega
      · obtain ⟨k1, k2, k3⟩ := hk
        rw [set k (by omega), keep0 k k2 (by omega) k3]
    · obtain rfl : i = xs.length := by omega
      have hxx : (xs ++ [x])[xs.length] = x := by simp
      rw [hxx, ← hvl, show at4 (vs ++ [v0, v1, v2, v3]) vs.length = at4 (vs ++ [v0, v1, v2, v3]) (vs.length + 0) from rfl, at4_right, at4_right, at4_right, at4_right]
      show HoldsP _ _ v0 v1 v2 v3 x
      refine hx.keep (fun k hk => ?_) (fun k hk => ?_)
      · obtain ⟨k1, k2⟩ := hk
        refine ⟨by omega, by rw [hsz]; omega, ?_⟩
        intro e
        simp [Value.ownBlock] at e
        rcases hat with e2 | e2
        · have := hvb g e2; omega
        · omega
      · obtain ⟨k1, k2⟩ := hk
        rw [set k (by omega), keep1 k k2 (fun e => by have := hvb k e; omega)]

/-- the list is read -/
theorem Row3.item {rb : Nat} {b : ByteArray} {base : Nat} {w W W2 : World} {q : Nat} {V : Value} {xs : List It} {vs : List Value} (h : Row3 rb b base w W q V xs vs) (ho : Off (outB w.heap.size) W W2) (hn : xs.length ≤ 16384) :
    HoldsP (fun g => w.heap.size ≤ g ∧ g < W2.heap.size) W2 (.int .i64 3) (.int .u64 0) (.string ⟨#[]⟩) V (.mk 3 0 ⟨#[]⟩ xs) := by
  have hlo := h.lo
  have hso := ho.size
  have hk : ∀ g, base ≤ g → g < W.heap.size → W2.heap[g]? = W.heap[g]? := fun g h1 h2 => ho.block g (by unfold outB; omega) h2
  have hF : ∀ i (hi : i < xs.length), HoldsP (fun g => w.heap.size ≤ g ∧ g < W2.heap.size) W2 (at4 vs (i * 4)) (at4 vs (i * 4 + 1)) (at4 vs (i * 4 + 2)) (at4 vs (i * 4 + 3)) xs[i] := fun i hi =>
    (h.items i hi).keep (fun g hg => ⟨by have := hg.1; omega, by have := hg.2.1; omega⟩) (fun g hg => hk g hg.1 hg.2.1)
  have hvl : vs.length = xs.length * 4 := h.row.1
  rcases h.row.2 with ⟨rfl, h0⟩ | ⟨g, cap, cur, rfl, h2, h3, h4, h5, _⟩
  · have e := HoldsP.mk (S := fun g => w.heap.size ≤ g ∧ g < W2.heap.size) (w := W2) 3 0 ⟨#[]⟩ none 0 xs (fun i => (at4 vs (i * 4), at4 vs (i * 4 + 1), at4 vs (i * 4 + 2), at4 vs (i * 4 + 3))) (by omega) (by decide) (by omega) (fun hp => by omega) hF
    rw [h0] at e
    exact e
  · refine HoldsP.mk (S := fun g => w.heap.size ≤ g ∧ g < W2.heap.size) (w := W2) 3 0 ⟨#[]⟩ (some ⟨g, 0, none⟩) cap xs (fun i => (at4 vs (i * 4), at4 vs (i * 4 + 1), at4 vs (i * 4 + 2), at4 vs (i * 4 + 3))) (by omega) (by decide) (by omega) (fun hp => ⟨g, 0, rfl, ⟨by omega, by have := lt_of_block h3; omega⟩, fun i hi => ?_⟩) hF
    have hc : ∀ j, j < xs.length * 4 → W2.cell? ⟨g, 0 + j, none⟩ = some (at4 vs j) := by
      intro j hj
      have e1 : W2.cell? ⟨g, 0 + j, none⟩ = W.cell? ⟨g, 0 + j, none⟩ := World.cell?_of_block (hk g h2 (lt_of_block h3))
      rw [e1, Nat.zero_add, h.row.cellAt j hj]
      unfold at4
      rw [List.getD_eq_getElem?_getD, List.getElem?_eq_getElem (by omega)]
      rfl
    exact ⟨hc _ (by omega), by rw [Nat.add_assoc]; exact hc _ (by omega), by rw [Nat.add_assoc]; exact hc _ (by omega), by rw [Nat.add_assoc]; exact hc _ (by omega)⟩

end Go.Proofs.YtakdfjkkeilffaaDoor
