/- A message is written: its row of items. -/
import Derived.Test.YtakdfjkkeilffaaDoorMh
set_option linter.unusedVariables false
set_option linter.unusedSimpArgs false
namespace Go.Proofs.YtakdfjkkeilffaaDoor
open Go.RowKit

set_option maxHeartbeats 1600000 in
theorem kindl_any (k : Int) (w : World) (hk : isKind k = true) : Calls Tryd.prog 35 #[.int .i64 k] w fun e w' => e = .returned (.tuple #[.slice (some ⟨w.heap.size, 0, none⟩) (flds k).length (flds k).length, .bool true]) ∧ w' = w.alloc (.cells ((flds k).map (Value.int .i64)).toArray 3) := by
  unfold isKind at hk
  simp at hk
  have : k = 1 ∨ k = 2 ∨ k = 3 ∨ k = 4 := by omega
  rcases this with rfl | rfl | rfl | rfl
  · go_enter Tryd.func35, Tryd.ntmps35
    go_wp2_with fail
    go_ret2
    exact ⟨rfl, rfl⟩
  · go_enter Tryd.func35, Tryd.ntmps35
    go_wp2_with fail
    go_ret2
    exact ⟨rfl, rfl⟩
  · go_enter Tryd.func35, Tryd.ntmps35
    go_wp2_with fail
    go_ret2
    exact ⟨rfl, rfl⟩
  · go_enter Tryd.func35, Tryd.ntmps35
    go_wp2_with fail
    go_ret2
    exact ⟨rfl, rfl⟩

/-- a list in the making whose first member lay there before -/
structure ERow (gs base xb : Nat) (w W : World) (V : Value) (xs : List It) (vs : List Value) : Prop where
  below : Below w.heap.size w W
  box : W.heap[xb]? = some (.cells #[.int .i64 3, .int .u64 0, .string ⟨#[]⟩, V] 57 (0, 0))
  row : W.ownsRow gs 57 4 V xs.length vs
  items : ∀ i (h : i < xs.length), HoldsP (inRow base W V) W (at4 vs (i * 4)) (at4 vs (i * 4 + 1)) (at4 vs (i * 4 + 2)) (at4 vs (i * 4 + 3)) xs[i]
  own : ∀ k, V.ownBlock = some k → k = gs ∨ base ≤ k
  glo : w.heap.size ≤ gs
  gx : gs < xb
  lo : xb < base
  hi : base ≤ W.heap.size

section
variable {gs base xb : Nat} {w W : World} {V : Value} {xs : List It} {vs : List Value}
theorem ERow.form (h : ERow gs base xb w W V xs vs) : ∃ A l c, V = .slice A l c := by
  rcases h.row.2 with ⟨rfl, _⟩ | ⟨g', cap', cur, rfl, _⟩
  · exact ⟨_, _, _, rfl⟩
  · exact ⟨_, _, _, rfl⟩
theorem ERow.later (h : ERow gs base xb w W V xs vs) {w1 : World} (hb : Below W.heap.size W w1) : ERow gs base xb w w1 V xs vs := by
  have hs := hb.size
  have h1 := h.below.size
  refine ⟨h.below.trans (hb.mono h1), (hb.block xb (by have := h.lo; have := h.hi; omega)).trans h.box, row_below h.row hb, fun i hi => (h.items i hi).keep (fun g hg => ⟨hg.1, by have := hg.2.1; omega, hg.2.2⟩) (fun g hg => hb.block g hg.2.1), h.own, h.glo, h.gx, h.lo, Nat.le_trans h.hi hs⟩
theorem ERow.first (hb : Below w.heap.size w W) {k : Int} {n : Nat} (hn : n < 18446744073709551616) (hrow : W.heap[gs]? = some (.cells #[.int .i64 k, .int .u64 n, .string ⟨#[]⟩, .slice none 0 0] 57 (0, 0)))
    (hbox : W.heap[xb]? = some (.cells #[.int .i64 3, .int .u64 0, .string ⟨#[]⟩, .slice (some ⟨gs, 0, none⟩) 1 1] 57 (0, 0))) (hg : w.heap.size ≤ gs) (hx : gs < xb) (hl : xb < base) (hh : base ≤ W.heap.size) :
    ERow gs base xb w W (.slice (some ⟨gs, 0, none⟩) 1 1) [.mk k n ⟨#[]⟩ []] [.int .i64 k, .int .u64 n, .string ⟨#[]⟩, .slice none 0 0] := by
  refine ⟨hb, hbox, ⟨rfl, .inr ⟨gs, 1, _, rfl, Nat.le_refl _, hrow, Nat.le_refl _, by unfold maxLen; omega, rfl, rfl⟩⟩, fun i hi => ?_, fun k hk => .inl (by simp [Value.ownBlock] at hk; exact hk.symm), hg, hx, hl, hh⟩
  obtain rfl : i = 0 := by simpa using hi
  exact HoldsP.leaf k n ⟨#[]⟩ hn (by decide)
theorem ERow.cells (h : ERow gs base xb w W V xs vs) : W.cell? ⟨xb, 0, none⟩ = some (.int .i64 3) ∧ W.cell? ⟨xb, 1, none⟩ = some (.int .u64 0) ∧ W.cell? ⟨xb, 2, none⟩ = some (.string ⟨#[]⟩) ∧ W.cell? ⟨xb, 3, none⟩ = some V ∧ (∀ j, W.frozen? ⟨xb, j, none⟩ = false) := by
  refine ⟨?_, ?_, ?_, ?_, fun j => ?_⟩
  · rw [cell_of_row _ _ _ _ _ _ h.box]; rfl
  · rw [cell_of_row _ _ _ _ _ _ h.box]; rfl
  · rw [cell_of_row _ _ _ _ _ _ h.box]; rfl
  · rw [cell_of_row _ _ _ _ _ _ h.box]; rfl
  · simp only [World.frozen?, h.box]; rfl
theorem ERow.nxb (h : ERow gs base xb w W V xs vs) : V.ownBlock ≠ some xb := fun e => by
  have h1 := h.gx
  have h2 := h.lo
  rcases h.own _ e with e | e <;> omega
theorem ERow.mid (h : ERow gs base xb w W V xs vs) {w2 : World} (hgr : W.grownBy w2 V.ownBlock) : w2.heap[xb]? = some (.cells #[.int .i64 3, .int .u64 0, .string ⟨#[]⟩, V] 57 (0, 0)) := by
  have h1 := h.lo
  have h2 := h.hi
  rw [hgr.block xb (by omega) (fun e => h.nxb e.symm)]
  exact h.box
theorem ERow.next (h : ERow gs base xb w W V xs vs) {x : It} {v0 v1 v2 v3 : Value} {g cap : Nat} {w2 : World}
    (hx : HoldsP (inRow base W V) W v0 v1 v2 v3 x)
    (hown : w2.ownsRow gs 57 4 (.slice (some ⟨g, 0, none⟩) (xs.length + 1) cap) (xs.length + 1) (vs ++ [v0, v1, v2, v3]))
    (hgr : W.grownBy w2 V.ownBlock) (hat : V.ownBlock = some g ∨ g = W.heap.size) (hlt2 : g < w2.heap.size) :
    ERow gs base xb w (w2.setCell ⟨xb, 3, none⟩ (.slice (some ⟨g, 0, none⟩) (xs.length + 1) cap)) (.slice (some ⟨g, 0, none⟩) (xs.length + 1) cap) (xs ++ [x]) (vs ++ [v0, v1, v2, v3]) := by
  have hlo := h.lo
  have hhi := h.hi
  have hgx := h.gx
  have hgl := h.glo
  have hs2 := hgr.size
  have hgb : g = gs ∨ base ≤ g := by
    rcases hat with e | e
    · exact h.own g e
    · omega
  have keep : ∀ k, k < W.heap.size → V.ownBlock ≠ some k → w2.heap[k]? = W.heap[k]? := fun k hk hne => hgr.block k hk (fun e => hne e.symm)
  have set : ∀ k, k ≠ xb → (w2.setCell ⟨xb, 3, none⟩ (.slice (some ⟨g, 0, none⟩) (xs.length + 1) cap)).heap[k]? = w2.heap[k]? := fun k hk => Below.heap_setCell _ _ _ _ hk
  have hsz : (w2.setCell ⟨xb, 3, none⟩ (.slice (some ⟨g, 0, none⟩) (xs.length + 1) cap)).heap.size = w2.heap.size := by simp [World.setCell]
  have hvl : vs.length = xs.length * 4 := h.row.1
  have inr : ∀ k, inRow base W V k → inRow base (w2.setCell ⟨xb, 3, none⟩ (.slice (some ⟨g, 0, none⟩) (xs.length + 1) cap)) (.slice (some ⟨g, 0, none⟩) (xs.length + 1) cap) k := by
    intro k hk
    obtain ⟨k1, k2, k3⟩ := hk
    refine ⟨k1, by rw [hsz]; omega, ?_⟩
    intro e
    simp [Value.ownBlock] at e
    rcases hat with e2 | e2
    · exact k3 (by rw [e2, e])
    · omega
  have blk : ∀ k, inRow base W V k → (w2.setCell ⟨xb, 3, none⟩ (.slice (some ⟨g, 0, none⟩) (xs.length + 1) cap)).heap[k]? = W.heap[k]? := by
    intro k hk
    obtain ⟨k1, k2, k3⟩ := hk
    rw [set k (by omega), keep k k2 k3]
  refine ⟨?_, ?_, ?_, ?_, fun k hk => by simp [Value.ownBlock] at hk; subst hk; exact hgb, hgl, hgx, hlo, by rw [hsz]; omega⟩
  · refine Below.setCell ?_ (show w.heap.size ≤ xb by omega) _
    exact h.below.grown hgr h.below.size (fun k hk => by rcases h.own k hk with e | e <;> omega)
  · rw [heap_setCell_same _ _ _ _ _ _ (h.mid hgr)]; rfl
  · have e : (xs ++ [x]).length = xs.length + 1 := by simp
    rw [e]
    exact ownsRow_setCell_other hown (by simp [Value.ownBlock]; omega) _
  · intro i hi
    have hi2 : i < xs.length + 1 := by simpa using hi
    by_cases hil : i < xs.length
    · rw [List.getElem_append_left hil, at4_left _ _ _ (by omega), at4_left _ _ _ (by omega), at4_left _ _ _ (by omega), at4_left _ _ _ (by omega)]
      exact (h.items i hil).keep inr blk
    · obtain rfl : i = xs.length := by omega
      have hxx : (xs ++ [x])[xs.length] = x := by simp
      rw [hxx, ← hvl, show at4 (vs ++ [v0, v1, v2, v3]) vs.length = at4 (vs ++ [v0, v1, v2, v3]) (vs.length + 0) from rfl, at4_right, at4_right, at4_right, at4_right]
      exact hx.keep inr blk
/-- old blocks behind the round -/
theorem ERow.old (h : ERow gs base xb w W V xs vs) {w2 : World} (hgr : W.grownBy w2 V.ownBlock) {k : Nat} (hk : k < base) (hg : k ≠ gs) (hx : k ≠ xb) (u : Value) : (w2.setCell ⟨xb, 3, none⟩ u).heap[k]? = W.heap[k]? := by
  have hhi := h.hi
  rw [Below.heap_setCell _ _ _ _ hx, hgr.block k (by omega) (fun e => by rcases h.own k e.symm with e | e <;> omega)]
/-- the list is made -/
theorem ERow.item (h : ERow gs base xb w W V xs vs) (hn : xs.length ≤ 65536) : HoldsP (fun g => gs ≤ g ∧ g < W.heap.size) W (.int .i64 3) (.int .u64 0) (.string ⟨#[]⟩) V (itList xs) := by
  have hgx := h.gx
  have hlo := h.lo
  have hF : ∀ i (hi : i < xs.length), HoldsP (fun g => gs ≤ g ∧ g < W.heap.size) W (at4 vs (i * 4)) (at4 vs (i * 4 + 1)) (at4 vs (i * 4 + 2)) (at4 vs (i * 4 + 3)) xs[i] := fun i hi =>
    (h.items i hi).keep (fun g hg => ⟨by have := hg.1; omega, hg.2.1⟩) (fun g hg => rfl)
  have hvl : vs.length = xs.length * 4 := h.row.1
  rcases h.row.2 with ⟨rfl, h0⟩ | ⟨g, cap, cur, rfl, h2, h3, h4, h5, _⟩
  · have e := HoldsP.mk (S := fun g => gs ≤ g ∧ g < W.heap.size) (w := W) 3 0 ⟨#[]⟩ none 0 xs (fun i => (at4 vs (i * 4), at4 vs (i * 4 + 1), at4 vs (i * 4 + 2), at4 vs (i * 4 + 3))) (by omega) (by decide) (by omega) (fun hp => by omega) hF
    rw [h0] at e
    exact e
  · refine HoldsP.mk (S := fun g => gs ≤ g ∧ g < W.heap.size) (w := W) 3 0 ⟨#[]⟩ (some ⟨g, 0, none⟩) cap xs (fun i => (at4 vs (i * 4), at4 vs (i * 4 + 1), at4 vs (i * 4 + 2), at4 vs (i * 4 + 3))) (by omega) (by decide) (by omega) (fun hp => ⟨g, 0, rfl, ⟨h2, lt_of_block h3⟩, fun i hi => ?_⟩) hF
    have hc : ∀ j, j < xs.length * 4 → W.cell? ⟨g, 0 + j, none⟩ = some (at4 vs j) := by
      intro j hj
      rw [Nat.zero_add, h.row.cellAt j hj]
      unfold at4
      rw [List.getD_eq_getElem?_getD, List.getElem?_eq_getElem (by omega)]
      rfl
    exact ⟨hc _ (by omega), by rw [Nat.add_assoc]; exact hc _ (by omega), by rw [Nat.add_assoc]; exact hc _ (by omega), by rw [Nat.add_assoc]; exact hc _ (by omega)⟩
end

end Go.Proofs.YtakdfjkkeilffaaDoor
