/- Messages: lists of items are made. -/
import Derived.Test.YtakdfjkkeilffaaDoorMa
import Derived.Test.YtakdfjkkeilffaaDoorZ
set_option linter.unusedVariables false
set_option linter.unusedSimpArgs false
namespace Go.Proofs.YtakdfjkkeilffaaDoor
open Go.RowKit

def itNum (n : Nat) : It := .mk 1 n ⟨#[]⟩ []
def itList (l : List It) : It := .mk 3 0 ⟨#[]⟩ l

/-- a list in the making: its item lies in block xb -/
structure LRow (base xb : Nat) (w W : World) (V : Value) (xs : List It) (vs : List Value) : Prop where
  below : Below w.heap.size w W
  box : W.heap[xb]? = some (.cells #[.int .i64 3, .int .u64 0, .string ⟨#[]⟩, V] 57 (0, 0))
  row : W.ownsRow base 57 4 V xs.length vs
  items : ∀ i (h : i < xs.length), HoldsP (inRow base W V) W (at4 vs (i * 4)) (at4 vs (i * 4 + 1)) (at4 vs (i * 4 + 2)) (at4 vs (i * 4 + 3)) xs[i]
  xlo : w.heap.size ≤ xb
  lo : xb < base
  hi : base ≤ W.heap.size

section
variable {base xb : Nat} {w W : World} {V : Value} {xs : List It} {vs : List Value}
theorem LRow.own (h : LRow base xb w W V xs vs) : ∀ k, V.ownBlock = some k → base ≤ k ∧ k < W.heap.size := by
  intro k hk
  rcases h.row.2 with ⟨rfl, _⟩ | ⟨g', cap', cur, rfl, h2, h3, _⟩
  · simp [Value.ownBlock] at hk
  · simp [Value.ownBlock] at hk; subst hk; exact ⟨h2, lt_of_block h3⟩
theorem LRow.form (h : LRow base xb w W V xs vs) : ∃ A l c, V = .slice A l c := by
  rcases h.row.2 with ⟨rfl, _⟩ | ⟨g', cap', cur, rfl, _⟩
  · exact ⟨_, _, _, rfl⟩
  · exact ⟨_, _, _, rfl⟩
theorem LRow.later (h : LRow base xb w W V xs vs) {w1 : World} (hb : Below W.heap.size W w1) : LRow base xb w w1 V xs vs := by
  have hs := hb.size
  have h1 := h.below.size
  refine ⟨h.below.trans (hb.mono h1), (hb.block xb (by have := h.lo; have := h.hi; omega)).trans h.box, row_below h.row hb, fun i hi => (h.items i hi).keep (fun g hg => ⟨hg.1, by have := hg.2.1; omega, hg.2.2⟩) (fun g hg => hb.block g hg.2.1), h.xlo, h.lo, Nat.le_trans h.hi hs⟩
theorem LRow.first (hb : Below w.heap.size w W) {cs : Array Value} (hbox : W.heap[xb]? = some (.cells #[.int .i64 3, .int .u64 0, .string ⟨#[]⟩, .slice none 0 0] 57 (0, 0))) (hx : w.heap.size ≤ xb) : LRow W.heap.size xb w W (.slice none 0 0) [] [] :=
  ⟨hb, hbox, World.ownsRow_nil _ _ _ _, fun i hi => by simp at hi, hx, lt_of_block hbox, Nat.le_refl _⟩
theorem LRow.cells (h : LRow base xb w W V xs vs) : W.cell? ⟨xb, 0, none⟩ = some (.int .i64 3) ∧ W.cell? ⟨xb, 1, none⟩ = some (.int .u64 0) ∧ W.cell? ⟨xb, 2, none⟩ = some (.string ⟨#[]⟩) ∧ W.cell? ⟨xb, 3, none⟩ = some V ∧ (∀ j, W.frozen? ⟨xb, j, none⟩ = false) := by
  refine ⟨?_, ?_, ?_, ?_, fun j => ?_⟩
  · rw [cell_of_row _ _ _ _ _ _ h.box]; rfl
  · rw [cell_of_row _ _ _ _ _ _ h.box]; rfl
  · rw [cell_of_row _ _ _ _ _ _ h.box]; rfl
  · rw [cell_of_row _ _ _ _ _ _ h.box]; rfl
  · simp only [World.frozen?, h.box]; rfl
/-- behind the append -/
theorem LRow.mid (h : LRow base xb w W V xs vs) {w2 : World} (hgr : W.grownBy w2 V.ownBlock) : w2.heap[xb]? = some (.cells #[.int .i64 3, .int .u64 0, .string ⟨#[]⟩, V] 57 (0, 0)) := by
  have h1 := h.lo
  have h2 := h.hi
  rw [hgr.block xb (by omega) (fun e => by have := h.own xb e.symm; omega)]
  exact h.box
/-- one item more -/
theorem LRow.next (h : LRow base xb w W V xs vs) {x : It} {v0 v1 v2 v3 : Value} {g cap : Nat} {w2 : World}
    (hx : HoldsP (inRow base W V) W v0 v1 v2 v3 x)
    (hown : w2.ownsRow base 57 4 (.slice (some ⟨g, 0, none⟩) (xs.length + 1) cap) (xs.length + 1) (vs ++ [v0, v1, v2, v3]))
    (hgr : W.grownBy w2 V.ownBlock) (hat : V.ownBlock = some g ∨ g = W.heap.size) (hlt2 : g < w2.heap.size) :
    LRow base xb w (w2.setCell ⟨xb, 3, none⟩ (.slice (some ⟨g, 0, none⟩) (xs.length + 1) cap)) (.slice (some ⟨g, 0, none⟩) (xs.length + 1) cap) (xs ++ [x]) (vs ++ [v0, v1, v2, v3]) := by
  have hlo := h.lo
  have hhi := h.hi
  have hxl := h.xlo
  have hs2 := hgr.size
  have hgb : base ≤ g ∧ g ≠ xb := by
    rcases hat with e | e
    · have := h.own g e; omega
    · omega
  have keep : ∀ k, k < W.heap.size → V.ownBlock ≠ some k → w2.heap[k]? = W.heap[k]? := fun k hk hne => hgr.block k hk (fun e => hne e.symm)
  have nov : ∀ k, k < base → V.ownBlock ≠ some k := fun k hk e => by have := h.own k e; omega
  have set : ∀ k, k ≠ xb → (w2.setCell ⟨xb, 3, none⟩ (.slice (some ⟨g, 0, none⟩) (xs.length + 1) cap)).heap[k]? = w2.heap[k]? := fun k hk => Below.heap_setCell _ _ _ _ hk
  have hsz : (w2.setCell ⟨xb, 3, none⟩ (.slice (some ⟨g, 0, none⟩) (xs.length + 1) cap)).heap.size = w2.heap.size := by simp [World.setCell]
  have hvl : vs.length = xs.length * 4 := h.row.1
  have inr : ∀ k, inRow base W V k → inRow base (w2.setCell ⟨xb, 3, none⟩ (.slice (some ⟨g, 0, none⟩) (xs.length + 1) cap)) (.slice (some ⟨g, 0, none⟩) (xs.length + 1) cap) k := by
    intro k hk
    obtain ⟨k1, k2, k3⟩ := hk
    refine ⟨k1, by rw [hsz]; omega, ?_⟩
    intro e
    simp [Value.ownBlock] at e
    rcases hat with e2 | e2
    · exact k3 (by rw [e2, e])
    · omega
  have blk : ∀ k, inRow base W V k → (w2.setCell ⟨xb, 3, none⟩ (.slice (some ⟨g, 0, none⟩) (xs.length + 1) cap)).heap[k]? = W.heap[k]? := by
    intro k hk
    obtain ⟨k1, k2, k3⟩ := hk
    rw [set k (by omega), keep k k2 k3]
  refine ⟨?_, ?_, ?_, ?_, hxl, hlo, by rw [hsz]; omega⟩
  · refine Below.setCell ?_ hxl _
    exact h.below.grown hgr h.below.size (fun k hk => by have := h.own k hk; omega)
  · rw [heap_setCell_same _ _ _ _ _ _ (h.mid hgr)]; rfl
  · have e : (xs ++ [x]).length = xs.length + 1 := by simp
    rw [e]
    exact ownsRow_setCell_other hown (by simp [Value.ownBlock]; omega) _
  · intro i hi
    have hi2 : i < xs.length + 1 := by simpa using hi
    by_cases hil : i < xs.length
    · rw [List.getElem_append_left hil, at4_left _ _ _ (by omega), at4_left _ _ _ (by omega), at4_left _ _ _ (by omega), at4_left _ _ _ (by omega)]
      exact (h.items i hil).keep inr blk
    · obtain rfl : i = xs.length := by omega
      have hxx : (xs ++ [x])[xs.length] = x := by simp
      rw [hxx, ← hvl, show at4 (vs ++ [v0, v1, v2, v3]) vs.length = at4 (vs ++ [v0, v1, v2, v3]) (vs.length + 0) from rfl, at4_right, at4_right, at4_right, at4_right]
      exact hx.keep inr blk
/-- the list is made -/
theorem LRow.item (h : LRow base xb w W V xs vs) (hn : xs.length ≤ 65536) : HoldsP (fun g => base ≤ g ∧ g < W.heap.size) W (.int .i64 3) (.int .u64 0) (.string ⟨#[]⟩) V (itList xs) := by
  have hF : ∀ i (hi : i < xs.length), HoldsP (fun g => base ≤ g ∧ g < W.heap.size) W (at4 vs (i * 4)) (at4 vs (i * 4 + 1)) (at4 vs (i * 4 + 2)) (at4 vs (i * 4 + 3)) xs[i] := fun i hi =>
    (h.items i hi).keep (fun g hg => ⟨hg.1, hg.2.1⟩) (fun g hg => rfl)
  have hvl : vs.length = xs.length * 4 := h.row.1
  rcases h.row.2 with ⟨rfl, h0⟩ | ⟨g, cap, cur, rfl, h2, h3, h4, h5, _⟩
  · have e := HoldsP.mk (S := fun g => base ≤ g ∧ g < W.heap.size) (w := W) 3 0 ⟨#[]⟩ none 0 xs (fun i => (at4 vs (i * 4), at4 vs (i * 4 + 1), at4 vs (i * 4 + 2), at4 vs (i * 4 + 3))) (by omega) (by decide) (by omega) (fun hp => by omega) hF
    rw [h0] at e
    exact e
  · refine HoldsP.mk (S := fun g => base ≤ g ∧ g < W.heap.size) (w := W) 3 0 ⟨#[]⟩ (some ⟨g, 0, none⟩) cap xs (fun i => (at4 vs (i * 4), at4 vs (i * 4 + 1), at4 vs (i * 4 + 2), at4 vs (i * 4 + 3))) (by omega) (by decide) (by omega) (fun hp => ⟨g, 0, rfl, ⟨h2, lt_of_block h3⟩, fun i hi => ?_⟩) hF
    have hc : ∀ j, j < xs.length * 4 → W.cell? ⟨g, 0 + j, none⟩ = some (at4 vs j) := by
      intro j hj
      rw [Nat.zero_add, h.row.cellAt j hj]
      unfold at4
      rw [List.getD_eq_getElem?_getD, List.getElem?_eq_getElem (by omega)]
      rfl
    exact ⟨hc _ (by omega), by rw [Nat.add_assoc]; exact hc _ (by omega), by rw [Nat.add_assoc]; exact hc _ (by omega), by rw [Nat.add_assoc]; exact hc _ (by omega)⟩
end

def Callable (P : Program) (f : FuncId) : Prop := ∃ fn, P.funcs[f]? = some fn ∧ (fn.name == "runtime.NumGoroutine") = false ∧ fn.body.isNone = false
theorem step_call {P : Program} {w : World} {ops : Array Oper} {o : Oper} {a : Act} {K : Act → World → Prop} {Q : Exit → Act → World → Prop} {E : Prop} (hgd : o.guard = none) (f : FuncId) (hcal : Callable P f) (args : Array Operand) (ts : Array TypeId)
    (hop : o.op = Op.call { callee := Callee.value (Operand.func f), args := args, argTypes := ts }) (vs : Array Value) (hv : args.map a.eval = vs)
    (h : Calls P f vs w fun e w' => ∃ v, e = .returned v ∧ K (a.put o.dst v) w') : if Region.wanted o (yielded ops a.tmps) = true then Oper.wp P o a w K Q else E := by
  have hw : Region.wanted o (yielded ops a.tmps) = true := by simp [Region.wanted, hgd]
  rw [if_pos hw]
  subst hv
  have hr : (execOp a.eval o).run P w = .ok (.enter f (args.map a.eval)) w := by
    obtain ⟨fn, h1, h2, h3⟩ := hcal
    have h2' : ¬ fn.name = "runtime.NumGoroutine" := by simpa using h2
    have h3' : ¬ fn.body = none := by intro e; rw [e] at h3; cases h3
    simp [execOp, hop, resolve, invoke, Act.eval, Deferred.ofValue, callFunc, go_sem, h1, h2', h3']
  unfold Oper.wp
  rw [hr, Oper.upon_enter]
  refine h.mono ?_
  rintro e w' ⟨v, rfl, hk⟩
  exact hk
theorem call74 : Callable Tryd.prog 74 := ⟨_, Tryd.func74, by kernel_rfl, by kernel_rfl⟩
theorem call44 : Callable Tryd.prog 44 := ⟨_, Tryd.func44, by kernel_rfl, by kernel_rfl⟩
theorem call45 : Callable Tryd.prog 45 := ⟨_, Tryd.func45, by kernel_rfl, by kernel_rfl⟩
theorem call67 : Callable Tryd.prog 67 := ⟨_, Tryd.func67, by kernel_rfl, by kernel_rfl⟩
theorem call73 : Callable Tryd.prog 73 := ⟨_, Tryd.func73, by kernel_rfl, by kernel_rfl⟩
theorem one4 (k : Int) (n : Nat) (s : ByteArray) (A : Option Addr) (m c : Nat) : ∀ u ∈ [Value.int .i64 k, .int .u64 n, .string s, .slice A m c], u.oneCell' = true := by
  intro u hu
  simp at hu
  rcases hu with rfl | rfl | rfl | rfl <;> rfl
theorem four_kept {base N : Nat} {W : World} {v0 v1 v2 v3 : Value} {x : It} (h : HoldsP (fun g => base ≤ g ∧ g < W.heap.size) W v0 v1 v2 v3 x) (hb : base = N + 2) (hn : N < base) {u0 u1 u2 u3 : Value} :
    HoldsP (fun g => N ≤ g ∧ g < ((((W.setCell ⟨N, 0, none⟩ u0).setCell ⟨N, 1, none⟩ u1).setCell ⟨N, 2, none⟩ u2).setCell ⟨N, 3, none⟩ u3).heap.size) ((((W.setCell ⟨N, 0, none⟩ u0).setCell ⟨N, 1, none⟩ u1).setCell ⟨N, 2, none⟩ u2).setCell ⟨N, 3, none⟩ u3) v0 v1 v2 v3 x := by
  have hof := ((((Off.refl (fun g => g = N) W).set (a := ⟨N, 0, none⟩) rfl u0).set (a := ⟨N, 1, none⟩) rfl u1).set (a := ⟨N, 2, none⟩) rfl u2).set (a := ⟨N, 3, none⟩) rfl u3
  have hs := hof.size
  exact h.keep (fun g hg => ⟨by omega, by omega⟩) (fun g hg => hof.block g (by omega) hg.2)
theorem t42 : Tryd.prog.underlying 42 = some (.slice 24) := by kernel_rfl
theorem t44 : Tryd.prog.underlying 44 = some (.slice 51) := by kernel_rfl

def ItemPost (w : World) (x : It) (e : Ending) (w' : World) : Prop :=
  ∃ v0 v1 v2 v3, e = .returned (.agg #[v0, v1, v2, v3]) ∧ HoldsP (fun g => w.heap.size ≤ g ∧ g < w'.heap.size) w' v0 v1 v2 v3 x ∧ Below w.heap.size w w'

set_option maxRecDepth 100000 in
set_option maxHeartbeats 1600000 in
theorem items66_any (v : Value) (l : List Nat) (w : World) (h : Nums w .u32 v (l.map fun n : Nat => (n : Int))) (hn : l.length ≤ 16384) (hl : ∀ n ∈ l, n < 4294967296) :
    Calls Tryd.prog 66 #[v] w (ItemPost w (itList (l.map itNum))) := by
  obtain ⟨_, A, c, rfl, hA⟩ := h
  obtain ⟨m, hm⟩ : ∃ m, m = l.length := ⟨_, rfl⟩
  have hm2 : (l.map fun n : Nat => (n : Int)).length = m := by rw [List.length_map, hm]
  rw [hm2]
  have HA : Hid (0 < m → ∃ g o, A = some ⟨g, o, none⟩ ∧ ∀ i (h : i < l.length), w.cell? ⟨g, o + i, none⟩ = some (.int .u32 (l[i] : Int))) := by
    intro h0
    obtain ⟨g, o, e, hc⟩ := hA (by rw [hm2]; exact h0)
    refine ⟨g, o, e, fun i hi => ?_⟩
    have := hc i (by simpa using hi)
    simpa using this
  have HM := Lib.hid hm
  have HL := Lib.hid hl
  rw [← hm] at hn
  clear hA hm hl hm2
  obtain ⟨j0, hj0, hjz0, hjz1, hjz2⟩ := info_parts i57
  have hfirst : LRow ((w.alloc Z57).alloc (.cells #[.int .i64 3, .int .u64 0, .string ⟨#[]⟩, .slice none 0 0] 57)).heap.size (w.heap.size + 1) w ((w.alloc Z57).alloc (.cells #[.int .i64 3, .int .u64 0, .string ⟨#[]⟩, .slice none 0 0] 57)) (.slice none 0 0) [] [] := by
    refine LRow.first (cs := #[]) ((below_al _ _).alloc (by simp) _) ?_ (by omega)
    have e : (w.alloc Z57).heap.size = w.heap.size + 1 := by simp
    rw [← e]; exact heap_alloc_new _ _
  obtain ⟨base, hbase⟩ : ∃ base, base = ((w.alloc Z57).alloc (.cells #[.int .i64 3, .int .u64 0, .string ⟨#[]⟩, .slice none 0 0] 57)).heap.size := ⟨_, rfl⟩
  rw [← hbase] at hfirst
  have HFI := Lib.hid hfirst
  have hb2 : base = w.heap.size + 2 := by rw [hbase]; simp
  clear hfirst hbase
  go_enter Tryd.func66, Tryd.ntmps66
  go_wp2_with fail
  go_loopw [9] (fun i wr => ∃ k : Nat, ∃ V vs, k ≤ m ∧ i = .int .i64 k ∧ Hid (LRow base (w.heap.size + 1) w wr V ((l.take k).map itNum) vs) ∧ Hid (wr.heap[w.heap.size]? = some Z57)) (fun i _ => m - (intOf i).toNat)
  case atStart =>
    refine ⟨0, _, _, by omega, rfl, HFI.out, ?_⟩
    show _ = _
    rw [Below.heap_alloc _ _ _ (by simp)]; exact heap_alloc_new _ _
  case round =>
    obtain ⟨k, V, vs, hk, rfl, HR, HZ⟩ := hrel
    obtain ⟨wo, rfl⟩ : ∃ wo : World, wo = wr := ⟨_, rfl⟩
    by_cases hlt : k < m
    · have hkl : k < l.length := by have := HM.out; omega
      obtain ⟨g, o, rfl, hc⟩ := HA.out (by omega)
      obtain ⟨y, hy⟩ : ∃ y, y = l[k] := ⟨_, rfl⟩
      have d0 := hc k hkl
      rw [← hy] at d0
      replace d0 := (HR.out.below.cell (World.block_lt_of_cell? w _ d0)).trans d0
      have hyl : y < 4294967296 := by rw [hy]; exact HL.out _ (List.getElem_mem hkl)
      obtain ⟨xs, hxs⟩ : ∃ xs, xs = (l.take k).map itNum := ⟨_, rfl⟩
      rw [← hxs] at HR
      have hlen : xs.length ≤ 16384 := by rw [hxs]; simp; omega
      have HXS : Hid (xs ++ [itNum y] = (l.take (k + 1)).map itNum) := by
        show _ = _
        rw [List.take_succ_eq_append_getElem hkl, List.map_append, hxs, hy]; rfl
      clear hxs
      obtain ⟨q0, q1, q2, q3, q4⟩ := HR.out.cells
      have HY := Lib.hid hy
      clear hc hy
      go_wp2_with fail
      go_region_law (first
        | (refine step_call rfl 73 call73 #[.tmp 15] #[24] rfl #[.int .u32 (y : Int)] (by simp [Act.eval, Act.put]) ?_; refine (item73_any y _ hyl).mono ?_; rintro e w1 ⟨rfl, hb1⟩; refine ⟨_, rfl, ?_⟩; have hbw : Below wo.heap.size wo w1 := ⟨hb1.os, hb1.tape, hb1.output, hb1.size, hb1.block⟩; have HL1 := Lib.hid (HR.out.later hbw); have HZ1 : Hid (w1.heap[w.heap.size]? = some Z57) := ((hbw.block _ (lt_of_block HZ.out)).trans HZ.out); obtain ⟨r0, r1, r2, r3, r4⟩ := HL1.out.cells; have r3a : ∀ ob, (w1.alloc ob).cell? ⟨w.heap.size + 1, 3, none⟩ = some V := (fun ob => (World.cell?_of_block (Below.heap_alloc w1 ob _ (lt_of_block HL1.out.box))).trans r3); clear hb1 hbw)
        | (refine step_append_lies _ rfl (.tmp 14) (.tmp 17) 55 rfl base 57 j0 zeroItem 4 56 t55 hj0 hjz0 hjz1 hjz2 rfl (by decide) V xs.length vs (by simp [Act.eval, Act.put]) (HL1.out.row.alloc _) ⟨w1.heap.size, 0, none⟩ 1 1 [.int .i64 1, .int .u64 y, .string ⟨#[]⟩, .slice none 0 0] (by simp [Act.eval, Act.put]) rfl (news4 _ _ _ _ _ _) (one4 _ _ _ _ _ _) (by omega) (by unfold maxLen; omega) (by omega) (by have h1 := HL1.out.hi; simp; omega) (w1.heap.size + 1) (by simp) ?_; intro g2 cap w2 hown hgrow hat hlt2; have HL2 := Lib.hid (HL1.out.later (below_al w1 (.cells #[.int .i64 1, .int .u64 y, .string ⟨#[]⟩, .slice none 0 0] 57))); have hmid := HL2.out.mid hgrow; have HN := Lib.hid (HL2.out.next (x := itNum y) (HoldsP.leaf 1 y ⟨#[]⟩ (by omega) (by decide)) hown hgrow (by simpa using hat) hlt2); have HZ2 : Hid (w2.heap[w.heap.size]? = some Z57) := ((hgrow.block _ (by simp; have := lt_of_block HZ1.out; omega) (fun e => by have := HL2.out.own _ e.symm; omega)).trans ((Below.heap_alloc _ _ _ (lt_of_block HZ1.out)).trans HZ1.out)); have z3 := cell_of_row w2 (w.heap.size + 1) 3 _ _ _ hmid; have zf : w2.frozen? ⟨w.heap.size + 1, 3, none⟩ = false := (by simp only [World.frozen?, hmid]; rfl); simp only [List.getElem?_toArray, List.getElem?_cons_zero, List.getElem?_cons_succ] at z3; clear hown hgrow hat hlt2 hmid))
      all_goals
        go_wp2_with fail
        go_roundw
        case rel =>
          refine ⟨k + 1, _, _, by omega, by go_num, by rw [← HXS.out]; exact HN.out, ?_⟩
          show _ = _
          rw [Below.heap_setCell _ _ _ _ (by simp)]; exact HZ2.out
        case measure => simp [intOf]; omega
    · obtain rfl : k = m := by omega
      have htk : l.take k = l := List.take_of_length_le (by have := HM.out; omega)
      rw [htk] at HR
      obtain ⟨VA, VL, VC, rfl⟩ := HR.out.form
      obtain ⟨q0, q1, q2, q3, q4⟩ := HR.out.cells
      have hz := HZ.out
      unfold Z57 at hz
      have c0 := cell_of_row wo w.heap.size 0 _ _ _ hz
      have c1 := cell_of_row wo w.heap.size 1 _ _ _ hz
      have c2 := cell_of_row wo w.heap.size 2 _ _ _ hz
      have c3 := cell_of_row wo w.heap.size 3 _ _ _ hz
      have f0 : ∀ j, wo.frozen? ⟨w.heap.size, j, none⟩ = false := fun j => by simp only [World.frozen?, hz]; rfl
      simp only [List.getElem?_toArray, List.getElem?_cons_zero, List.getElem?_cons_succ] at c0 c1 c2 c3
      have HIT := Lib.hid (HR.out.item (by simp; have := HM.out; omega))
      clear hz htk
      go_wp2_with fail
      refine bodyPost_ret (v := .agg #[.int .i64 3, .int .u64 0, .string ⟨#[]⟩, .slice VA VL VC]) (by simp [results, Tryd.results66, go_sem, c0, c1, c2, c3]) rfl ⟨_, _, _, _, rfl, ?_, ?_⟩
      · exact four_kept HIT.out hb2 (by omega)
      · repeat (refine Below.setCell ?_ (by exact Nat.le_refl _) _)
        exact HR.out.below

set_option maxRecDepth 100000 in
set_option maxHeartbeats 1600000 in
theorem items67_any (v : Value) (l : List Nat) (w : World) (h : Nums w .u64 v (l.map fun n : Nat => (n : Int))) (hn : l.length ≤ 16384) (hl : ∀ n ∈ l, n < 18446744073709551616) :
    Calls Tryd.prog 67 #[v] w (ItemPost w (itList (l.map itNum))) := by
  obtain ⟨_, A, c, rfl, hA⟩ := h
  obtain ⟨m, hm⟩ : ∃ m, m = l.length := ⟨_, rfl⟩
  have hm2 : (l.map fun n : Nat => (n : Int)).length = m := by rw [List.length_map, hm]
  rw [hm2]
  have HA : Hid (0 < m → ∃ g o, A = some ⟨g, o, none⟩ ∧ ∀ i (h : i < l.length), w.cell? ⟨g, o + i, none⟩ = some (.int .u64 (l[i] : Int))) := by
    intro h0
    obtain ⟨g, o, e, hc⟩ := hA (by rw [hm2]; exact h0)
    refine ⟨g, o, e, fun i hi => ?_⟩
    have := hc i (by simpa using hi)
    simpa using this
  have HM := Lib.hid hm
  have HL := Lib.hid hl
  rw [← hm] at hn
  clear hA hm hl hm2
  obtain ⟨j0, hj0, hjz0, hjz1, hjz2⟩ := info_parts i57
  have hfirst : LRow ((w.alloc Z57).alloc (.cells #[.int .i64 3, .int .u64 0, .string ⟨#[]⟩, .slice none 0 0] 57)).heap.size (w.heap.size + 1) w ((w.alloc Z57).alloc (.cells #[.int .i64 3, .int .u64 0, .string ⟨#[]⟩, .slice none 0 0] 57)) (.slice none 0 0) [] [] := by
    refine LRow.first (cs := #[]) ((below_al _ _).alloc (by simp) _) ?_ (by omega)
    have e : (w.alloc Z57).heap.size = w.heap.size + 1 := by simp
    rw [← e]; exact heap_alloc_new _ _
  obtain ⟨base, hbase⟩ : ∃ base, base = ((w.alloc Z57).alloc (.cells #[.int .i64 3, .int .u64 0, .string ⟨#[]⟩, .slice none 0 0] 57)).heap.size := ⟨_, rfl⟩
  rw [← hbase] at hfirst
  have HFI := Lib.hid hfirst
  have hb2 : base = w.heap.size + 2 := by rw [hbase]; simp
  clear hfirst hbase
  go_enter Tryd.func67, Tryd.ntmps67
  go_wp2_with fail
  go_loopw [9] (fun i wr => ∃ k : Nat, ∃ V vs, k ≤ m ∧ i = .int .i64 k ∧ Hid (LRow base (w.heap.size + 1) w wr V ((l.take k).map itNum) vs) ∧ Hid (wr.heap[w.heap.size]? = some Z57)) (fun i _ => m - (intOf i).toNat)
  case atStart =>
    refine ⟨0, _, _, by omega, rfl, HFI.out, ?_⟩
    show _ = _
    rw [Below.heap_alloc _ _ _ (by simp)]; exact heap_alloc_new _ _
  case round =>
    obtain ⟨k, V, vs, hk, rfl, HR, HZ⟩ := hrel
    obtain ⟨wo, rfl⟩ : ∃ wo : World, wo = wr := ⟨_, rfl⟩
    by_cases hlt : k < m
    · have hkl : k < l.length := by have := HM.out; omega
      obtain ⟨g, o, rfl, hc⟩ := HA.out (by omega)
      obtain ⟨y, hy⟩ : ∃ y, y = l[k] := ⟨_, rfl⟩
      have d0 := hc k hkl
      rw [← hy] at d0
      replace d0 := (HR.out.below.cell (World.block_lt_of_cell? w _ d0)).trans d0
      have hyl : y < 18446744073709551616 := by rw [hy]; exact HL.out _ (List.getElem_mem hkl)
      obtain ⟨xs, hxs⟩ : ∃ xs, xs = (l.take k).map itNum := ⟨_, rfl⟩
      rw [← hxs] at HR
      have hlen : xs.length ≤ 16384 := by rw [hxs]; simp; omega
      have HXS : Hid (xs ++ [itNum y] = (l.take (k + 1)).map itNum) := by
        show _ = _
        rw [List.take_succ_eq_append_getElem hkl, List.map_append, hxs, hy]; rfl
      clear hxs
      obtain ⟨q0, q1, q2, q3, q4⟩ := HR.out.cells
      have HY := Lib.hid hy
      clear hc hy
      go_wp2_with fail
      go_region_law (first
        | (refine step_call rfl 74 call74 #[.tmp 15] #[51] rfl #[.int .u64 (y : Int)] (by simp [Act.eval, Act.put]) ?_; refine (item74_any y _ hyl).mono ?_; rintro e w1 ⟨rfl, hb1⟩; refine ⟨_, rfl, ?_⟩; have hbw : Below wo.heap.size wo w1 := ⟨hb1.os, hb1.tape, hb1.output, hb1.size, hb1.block⟩; have HL1 := Lib.hid (HR.out.later hbw); have HZ1 : Hid (w1.heap[w.heap.size]? = some Z57) := ((hbw.block _ (lt_of_block HZ.out)).trans HZ.out); obtain ⟨r0, r1, r2, r3, r4⟩ := HL1.out.cells; have r3a : ∀ ob, (w1.alloc ob).cell? ⟨w.heap.size + 1, 3, none⟩ = some V := (fun ob => (World.cell?_of_block (Below.heap_alloc w1 ob _ (lt_of_block HL1.out.box))).trans r3); clear hb1 hbw)
        | (refine step_append_lies _ rfl (.tmp 14) (.tmp 17) 55 rfl base 57 j0 zeroItem 4 56 t55 hj0 hjz0 hjz1 hjz2 rfl (by decide) V xs.length vs (by simp [Act.eval, Act.put]) (HL1.out.row.alloc _) ⟨w1.heap.size, 0, none⟩ 1 1 [.int .i64 1, .int .u64 y, .string ⟨#[]⟩, .slice none 0 0] (by simp [Act.eval, Act.put]) rfl (news4 _ _ _ _ _ _) (one4 _ _ _ _ _ _) (by omega) (by unfold maxLen; omega) (by omega) (by have h1 := HL1.out.hi; simp; omega) (w1.heap.size + 1) (by simp) ?_; intro g2 cap w2 hown hgrow hat hlt2; have HL2 := Lib.hid (HL1.out.later (below_al w1 (.cells #[.int .i64 1, .int .u64 y, .string ⟨#[]⟩, .slice none 0 0] 57))); have hmid := HL2.out.mid hgrow; have HN := Lib.hid (HL2.out.next (x := itNum y) (HoldsP.leaf 1 y ⟨#[]⟩ (by omega) (by decide)) hown hgrow (by simpa using hat) hlt2); have HZ2 : Hid (w2.heap[w.heap.size]? = some Z57) := ((hgrow.block _ (by simp; have := lt_of_block HZ1.out; omega) (fun e => by have := HL2.out.own _ e.symm; omega)).trans ((Below.heap_alloc _ _ _ (lt_of_block HZ1.out)).trans HZ1.out)); have z3 := cell_of_row w2 (w.heap.size + 1) 3 _ _ _ hmid; have zf : w2.frozen? ⟨w.heap.size + 1, 3, none⟩ = false := (by simp only [World.frozen?, hmid]; rfl); simp only [List.getElem?_toArray, List.getElem?_cons_zero, List.getElem?_cons_succ] at z3; clear hown hgrow hat hlt2 hmid))
      all_goals
        go_wp2_with fail
        go_roundw
        case rel =>
          refine ⟨k + 1, _, _, by omega, by go_num, by rw [← HXS.out]; exact HN.out, ?_⟩
          show _ = _
          rw [Below.heap_setCell _ _ _ _ (by simp)]; exact HZ2.out
        case measure => simp [intOf]; omega
    · obtain rfl : k = m := by omega
      have htk : l.take k = l := List.take_of_length_le (by have := HM.out; omega)
      rw [htk] at HR
      obtain ⟨VA, VL, VC, rfl⟩ := HR.out.form
      obtain ⟨q0, q1, q2, q3, q4⟩ := HR.out.cells
      have hz := HZ.out
      unfold Z57 at hz
      have c0 := cell_of_row wo w.heap.size 0 _ _ _ hz
      have c1 := cell_of_row wo w.heap.size 1 _ _ _ hz
      have c2 := cell_of_row wo w.heap.size 2 _ _ _ hz
      have c3 := cell_of_row wo w.heap.size 3 _ _ _ hz
      have f0 : ∀ j, wo.frozen? ⟨w.heap.size, j, none⟩ = false := fun j => by simp only [World.frozen?, hz]; rfl
      simp only [List.getElem?_toArray, List.getElem?_cons_zero, List.getElem?_cons_succ] at c0 c1 c2 c3
      have HIT := Lib.hid (HR.out.item (by simp; have := HM.out; omega))
      clear hz htk
      go_wp2_with fail
      refine bodyPost_ret (v := .agg #[.int .i64 3, .int .u64 0, .string ⟨#[]⟩, .slice VA VL VC]) (by simp [results, Tryd.results67, go_sem, c0, c1, c2, c3]) rfl ⟨_, _, _, _, rfl, ?_, ?_⟩
      · exact four_kept HIT.out hb2 (by omega)
      · repeat (refine Below.setCell ?_ (by exact Nat.le_refl _) _)
        exact HR.out.below

end Go.Proofs.YtakdfjkkeilffaaDoor
