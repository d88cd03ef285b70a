/- A message is read. -/
import Derived.Test.YtakdfjkkeilffaaDoorQd
set_option linter.unusedVariables false
set_option linter.unusedSimpArgs false
namespace Go.Proofs.YtakdfjkkeilffaaDoor
open Go.RowKit

def zeroM : Array Value := #[.int .i64 0, .int .i64 0, .int .i64 0, .int .i64 0, .int .i64 0, .int .i64 0, .int .i64 0, .int .i64 0, .slice none 0 0, .slice none 0 0, .slice none 0 0]
/-- what Decode of a message does -/
def DecMPost (w : World) (r : Except (Nat × Nat) Msg) (e : Ending) (w' : World) : Prop :=
  Below w.heap.size w w' ∧ match r with
  | .error (a, c) => e = .returned (.tuple #[.agg zeroM, .agg #[.int .i64 (a : Nat), .int .i64 (c : Nat)]]) ∧ c ≠ 0
  | .ok m => ∃ a b c, e = .returned (.tuple #[.agg (mcells m a b c), .agg #[.int .i64 0, .int .i64 0]]) ∧ MsgOwn w.heap.size w' a b c m

/-- the world at the call of the item's Decode -/
def decW (w : World) : World := (w.alloc (.cells zeroM 46)).alloc (.cells #[.int .i64 0, .int .i64 0] 31)
theorem decW_facts (w : World) : Below w.heap.size w (decW w) ∧ (decW w).heap.size = w.heap.size + 2 ∧ (decW w).heap[w.heap.size]? = some (.cells zeroM 46 (0, 0)) ∧ (decW w).heap[w.heap.size + 1]? = some (.cells #[.int .i64 0, .int .i64 0] 31 (0, 0)) := by
  have e : (w.alloc (.cells zeroM 46)).heap.size = w.heap.size + 1 := by simp
  refine ⟨al2' _ _ _, by unfold decW; simp, ?_, ?_⟩
  · unfold decW; rw [Below.heap_alloc _ _ _ (by simp)]; exact heap_alloc_new _ _
  · unfold decW; rw [← e]; exact heap_alloc_new _ _

theorem zeroM_at {W : World} {N : Nat} (h : W.heap[N]? = some (.cells zeroM 46 (0, 0))) :
    (W.cell? ⟨N, 0, none⟩ = some (.int .i64 0) ∧ W.cell? ⟨N, 1, none⟩ = some (.int .i64 0) ∧ W.cell? ⟨N, 2, none⟩ = some (.int .i64 0) ∧ W.cell? ⟨N, 3, none⟩ = some (.int .i64 0) ∧ W.cell? ⟨N, 4, none⟩ = some (.int .i64 0) ∧ W.cell? ⟨N, 5, none⟩ = some (.int .i64 0) ∧ W.cell? ⟨N, 6, none⟩ = some (.int .i64 0) ∧ W.cell? ⟨N, 7, none⟩ = some (.int .i64 0) ∧ W.cell? ⟨N, 8, none⟩ = some (.slice none 0 0) ∧ W.cell? ⟨N, 9, none⟩ = some (.slice none 0 0) ∧ W.cell? ⟨N, 10, none⟩ = some (.slice none 0 0)) ∧ ∀ j, W.frozen? ⟨N, j, none⟩ = false := by
  refine ⟨⟨?_, ?_, ?_, ?_, ?_, ?_, ?_, ?_, ?_, ?_, ?_⟩, fun j => by simp only [World.frozen?, h]; rfl⟩ <;> (rw [cell_of_row _ _ _ _ _ _ h]; rfl)
theorem fault_at {W : World} {N : Nat} {u v : Value} (h : W.heap[N]? = some (.cells #[u, v] 31 (0, 0))) : W.cell? ⟨N, 0, none⟩ = some u ∧ W.cell? ⟨N, 1, none⟩ = some v ∧ ∀ j, W.frozen? ⟨N, j, none⟩ = false := by
  refine ⟨?_, ?_, fun j => by simp only [World.frozen?, h]; rfl⟩ <;> (rw [cell_of_row _ _ _ _ _ _ h]; rfl)
theorem item_at {W : World} {N : Nat} {u v x y : Value} (h : W.heap[N]? = some (.cells #[u, v, x, y] 57 (0, 0))) : W.cell? ⟨N, 0, none⟩ = some u ∧ W.cell? ⟨N, 1, none⟩ = some v ∧ W.cell? ⟨N, 2, none⟩ = some x ∧ W.cell? ⟨N, 3, none⟩ = some y := by
  refine ⟨?_, ?_, ?_, ?_⟩ <;> (rw [cell_of_row _ _ _ _ _ _ h]; rfl)

/-- the results are stored -/
def put13 (W : World) (N : Nat) (v0 v1 v2 v3 v4 v5 v6 v7 v8 v9 v10 p q : Value) : World := ((((((((((((W.setCell ⟨N, 0, none⟩ v0).setCell ⟨N, 1, none⟩ v1).setCell ⟨N, 2, none⟩ v2).setCell ⟨N, 3, none⟩ v3).setCell ⟨N, 4, none⟩ v4).setCell ⟨N, 5, none⟩ v5).setCell ⟨N, 6, none⟩ v6).setCell ⟨N, 7, none⟩ v7).setCell ⟨N, 8, none⟩ v8).setCell ⟨N, 9, none⟩ v9).setCell ⟨N, 10, none⟩ v10).setCell ⟨N + 1, 0, none⟩ p).setCell ⟨N + 1, 1, none⟩ q
theorem put13_off (W : World) (N : Nat) (v0 v1 v2 v3 v4 v5 v6 v7 v8 v9 v10 p q : Value) : Off (fun g => g = N ∨ g = N + 1) W (put13 W N v0 v1 v2 v3 v4 v5 v6 v7 v8 v9 v10 p q) := by
  unfold put13
  repeat (first | refine Off.set ?_ (.inl rfl) _ | refine Off.set ?_ (.inr rfl) _)
  exact Off.refl _ _
theorem put13_at {W : World} {N : Nat} (h : W.heap[N]? = some (.cells zeroM 46 (0, 0))) (h1 : W.heap[N + 1]? = some (.cells #[.int .i64 0, .int .i64 0] 31 (0, 0))) (v0 v1 v2 v3 v4 v5 v6 v7 v8 v9 v10 p q : Value) :
    (put13 W N v0 v1 v2 v3 v4 v5 v6 v7 v8 v9 v10 p q).heap[N]? = some (.cells #[v0, v1, v2, v3, v4, v5, v6, v7, v8, v9, v10] 46 (0, 0)) ∧ (put13 W N v0 v1 v2 v3 v4 v5 v6 v7 v8 v9 v10 p q).heap[N + 1]? = some (.cells #[p, q] 31 (0, 0)) := by
  unfold put13
  have hn : N ≠ N + 1 := by omega
  constructor
  · rw [Below.heap_setCell _ _ _ _ hn, Below.heap_setCell _ _ _ _ hn]
    have a0 : (W.setCell ⟨N, 0, none⟩ v0).heap[N]? = some (.cells #[v0, .int .i64 0, .int .i64 0, .int .i64 0, .int .i64 0, .int .i64 0, .int .i64 0, .int .i64 0, .slice none 0 0, .slice none 0 0, .slice none 0 0] 46 (0, 0)) := heap_setCell_same _ _ _ _ _ _ h
    have a1 : ((W.setCell ⟨N, 0, none⟩ v0).setCell ⟨N, 1, none⟩ v1).heap[N]? = some (.cells #[v0, v1, .int .i64 0, .int .i64 0, .int .i64 0, .int .i64 0, .int .i64 0, .int .i64 0, .slice none 0 0, .slice none 0 0, .slice none 0 0] 46 (0, 0)) := heap_setCell_same _ _ _ _ _ _ a0
    have a2 : (((W.setCell ⟨N, 0, none⟩ v0).setCell ⟨N, 1, none⟩ v1).setCell ⟨N, 2, none⟩ v2).heap[N]? = some (.cells #[v0, v1, v2, .int .i64 0, .int .i64 0, .int .i64 0, .int .i64 0, .int .i64 0, .slice none 0 0, .slice none 0 0, .slice none 0 0] 46 (0, 0)) := heap_setCell_same _ _ _ _ _ _ a1
    have a3 : ((((W.setCell ⟨N, 0, none⟩ v0).setCell ⟨N, 1, none⟩ v1).setCell ⟨N, 2, none⟩ v2).setCell ⟨N, 3, none⟩ v3).heap[N]? = some (.cells #[v0, v1, v2, v3, .int .i64 0, .int .i64 0, .int .i64 0, .int .i64 0, .slice none 0 0, .slice none 0 0, .slice none 0 0] 46 (0, 0)) := heap_setCell_same _ _ _ _ _ _ a2
    have a4 : (((((W.setCell ⟨N, 0, none⟩ v0).setCell ⟨N, 1, none⟩ v1).setCell ⟨N, 2, none⟩ v2).setCell ⟨N, 3, none⟩ v3).setCell ⟨N, 4, none⟩ v4).heap[N]? = some (.cells #[v0, v1, v2, v3, v4, .int .i64 0, .int .i64 0, .int .i64 0, .slice none 0 0, .slice none 0 0, .slice none 0 0] 46 (0, 0)) := heap_setCell_same _ _ _ _ _ _ a3
    have a5 : ((((((W.setCell ⟨N, 0, none⟩ v0).setCell ⟨N, 1, none⟩ v1).setCell ⟨N, 2, none⟩ v2).setCell ⟨N, 3, none⟩ v3).setCell ⟨N, 4, none⟩ v4).setCell ⟨N, 5, none⟩ v5).heap[N]? = some (.cells #[v0, v1, v2, v3, v4, v5, .int .i64 0, .int .i64 0, .slice none 0 0, .slice none 0 0, .slice none 0 0] 46 (0, 0)) := heap_setCell_same _ _ _ _ _ _ a4
    have a6 : (((((((W.setCell ⟨N, 0, none⟩ v0).setCell ⟨N, 1, none⟩ v1).setCell ⟨N, 2, none⟩ v2).setCell ⟨N, 3, none⟩ v3).setCell ⟨N, 4, none⟩ v4).setCell ⟨N, 5, none⟩ v5).setCell ⟨N, 6, none⟩ v6).heap[N]? = some (.cells #[v0, v1, v2, v3, v4, v5, v6, .int .i64 0, .slice none 0 0, .slice none 0 0, .slice none 0 0] 46 (0, 0)) := heap_setCell_same _ _ _ _ _ _ a5
    have a7 : ((((((((W.setCell ⟨N, 0, none⟩ v0).setCell ⟨N, 1, none⟩ v1).setCell ⟨N, 2, none⟩ v2).setCell ⟨N, 3, none⟩ v3).setCell ⟨N, 4, none⟩ v4).setCell ⟨N, 5, none⟩ v5).setCell ⟨N, 6, none⟩ v6).setCell ⟨N, 7, none⟩ v7).heap[N]? = some (.cells #[v0, v1, v2, v3, v4, v5, v6, v7, .slice none 0 0, .slice none 0 0, .slice none 0 0] 46 (0, 0)) := heap_setCell_same _ _ _ _ _ _ a6
    have a8 : (((((((((W.setCell ⟨N, 0, none⟩ v0).setCell ⟨N, 1, none⟩ v1).setCell ⟨N, 2, none⟩ v2).setCell ⟨N, 3, none⟩ v3).setCell ⟨N, 4, none⟩ v4).setCell ⟨N, 5, none⟩ v5).setCell ⟨N, 6, none⟩ v6).setCell ⟨N, 7, none⟩ v7).setCell ⟨N, 8, none⟩ v8).heap[N]? = some (.cells #[v0, v1, v2, v3, v4, v5, v6, v7, v8, .slice none 0 0, .slice none 0 0] 46 (0, 0)) := heap_setCell_same _ _ _ _ _ _ a7
    have a9 : ((((((((((W.setCell ⟨N, 0, none⟩ v0).setCell ⟨N, 1, none⟩ v1).setCell ⟨N, 2, none⟩ v2).setCell ⟨N, 3, none⟩ v3).setCell ⟨N, 4, none⟩ v4).setCell ⟨N, 5, none⟩ v5).setCell ⟨N, 6, none⟩ v6).setCell ⟨N, 7, none⟩ v7).setCell ⟨N, 8, none⟩ v8).setCell ⟨N, 9, none⟩ v9).heap[N]? = some (.cells #[v0, v1, v2, v3, v4, v5, v6, v7, v8, v9, .slice none 0 0] 46 (0, 0)) := heap_setCell_same _ _ _ _ _ _ a8
    have a10 : (((((((((((W.setCell ⟨N, 0, none⟩ v0).setCell ⟨N, 1, none⟩ v1).setCell ⟨N, 2, none⟩ v2).setCell ⟨N, 3, none⟩ v3).setCell ⟨N, 4, none⟩ v4).setCell ⟨N, 5, none⟩ v5).setCell ⟨N, 6, none⟩ v6).setCell ⟨N, 7, none⟩ v7).setCell ⟨N, 8, none⟩ v8).setCell ⟨N, 9, none⟩ v9).setCell ⟨N, 10, none⟩ v10).heap[N]? = some (.cells #[v0, v1, v2, v3, v4, v5, v6, v7, v8, v9, v10] 46 (0, 0)) := heap_setCell_same _ _ _ _ _ _ a9
    exact a10
  · have e : ∀ (W' : World) (i : Nat) (v : Value), (W'.setCell ⟨N, i, none⟩ v).heap[N + 1]? = W'.heap[N + 1]? := fun W' i v => Below.heap_setCell _ _ _ _ (by simp)
    have e2 : ∀ (W' : World) (cs : Array Value) (i : Nat) (v : Value), W'.heap[N + 1]? = some (.cells cs 31 (0, 0)) → (W'.setCell ⟨N + 1, i, none⟩ v).heap[N + 1]? = some (.cells (cs.setIfInBounds i v) 31 (0, 0)) := fun W' cs i v h => heap_setCell_same _ _ _ _ _ _ h
    have b0 := e2 _ #[.int .i64 0, .int .i64 0] 0 p (((e _ 10 v10).trans ((e _ 9 v9).trans ((e _ 8 v8).trans ((e _ 7 v7).trans ((e _ 6 v6).trans ((e _ 5 v5).trans ((e _ 4 v4).trans ((e _ 3 v3).trans ((e _ 2 v2).trans ((e _ 1 v1).trans (e W 0 v0))))))))))).trans h1)
    have b1 := e2 _ _ 1 q b0
    rw [b1]; rfl
theorem res20 {tmps : Array Value} {W : World} {N : Nat} {v0 v1 v2 v3 v4 v5 v6 v7 v8 v9 v10 p q : Value} (h2 : tmps.getD 2 undef = .pointer (some ⟨N, 0, none⟩)) (h3 : tmps.getD 3 undef = .pointer (some ⟨N + 1, 0, none⟩))
    (h : W.heap[N]? = some (.cells #[v0, v1, v2, v3, v4, v5, v6, v7, v8, v9, v10] 46 (0, 0))) (h1 : W.heap[N + 1]? = some (.cells #[p, q] 31 (0, 0))) : (results Tryd.f20 tmps).run Tryd.prog W = .ok (.tuple #[.agg #[v0, v1, v2, v3, v4, v5, v6, v7, v8, v9, v10], .agg #[p, q]]) W := by
  rw [Array.getD_eq_getD_getElem?] at h2 h3
  obtain ⟨z0, z1, _⟩ := fault_at h1
  have x0 := cell_of_row W N 0 _ _ _ h
  have x1 := cell_of_row W N 1 _ _ _ h
  have x2 := cell_of_row W N 2 _ _ _ h
  have x3 := cell_of_row W N 3 _ _ _ h
  have x4 := cell_of_row W N 4 _ _ _ h
  have x5 := cell_of_row W N 5 _ _ _ h
  have x6 := cell_of_row W N 6 _ _ _ h
  have x7 := cell_of_row W N 7 _ _ _ h
  have x8 := cell_of_row W N 8 _ _ _ h
  have x9 := cell_of_row W N 9 _ _ _ h
  have x10 := cell_of_row W N 10 _ _ _ h
  simp only [List.getElem?_toArray, List.getElem?_cons_zero, List.getElem?_cons_succ] at x0 x1 x2 x3 x4 x5 x6 x7 x8 x9 x10
  simp [results, Tryd.results20, go_sem, h2, h3, z0, z1, x0, x1, x2, x3, x4, x5, x6, x7, x8, x9, x10]
theorem MsgOwn.keep {base : Nat} {W W' : World} {a b c : Value} {M : Msg} (h : MsgOwn base W a b c M) (hk : ∀ g, base ≤ g → g < W.heap.size → W'.heap[g]? = W.heap[g]?) : MsgOwn base W' a b c M :=
  ⟨ownsRow_keep h.ws hk, h.ms.imp fun vs hv => hv.keep hk, ownsRow_keep h.ds hk⟩
theorem MsgOwn.mono {b2 base : Nat} {W : World} {a b c : Value} {M : Msg} (h : MsgOwn base W a b c M) (hb : b2 ≤ base) : MsgOwn b2 W a b c M :=
  ⟨ownsRow_mono h.ws hb, h.ms.imp fun vs hv => hv.mono hb, ownsRow_mono h.ds hb⟩
theorem fin_err {w W4 W6 : World} {tmps : Array Value} {a c : Nat} (h2 : tmps.getD 2 undef = .pointer (some ⟨w.heap.size, 0, none⟩)) (h3 : tmps.getD 3 undef = .pointer (some ⟨w.heap.size + 1, 0, none⟩))
    (hz : W4.heap[w.heap.size]? = some (.cells zeroM 46 (0, 0))) (hz1 : W4.heap[w.heap.size + 1]? = some (.cells #[.int .i64 0, .int .i64 0] 31 (0, 0))) (hb : Below w.heap.size w W4) (hc : c ≠ 0)
    (h6 : W6 = (put13 W4 w.heap.size (.int .i64 0) (.int .i64 0) (.int .i64 0) (.int .i64 0) (.int .i64 0) (.int .i64 0) (.int .i64 0) (.int .i64 0) (.slice none 0 0) (.slice none 0 0) (.slice none 0 0) (.int .i64 a) (.int .i64 c)).drew) :
    bodyPost Tryd.prog Tryd.f20 (DecMPost w (.error (a, c))) .ret ⟨tmps, []⟩ W6 := by
  have hp := put13_at hz hz1 (.int .i64 0) (.int .i64 0) (.int .i64 0) (.int .i64 0) (.int .i64 0) (.int .i64 0) (.int .i64 0) (.int .i64 0) (.slice none 0 0) (.slice none 0 0) (.slice none 0 0) (.int .i64 a) (.int .i64 c)
  have ho := put13_off W4 w.heap.size (.int .i64 0) (.int .i64 0) (.int .i64 0) (.int .i64 0) (.int .i64 0) (.int .i64 0) (.int .i64 0) (.int .i64 0) (.slice none 0 0) (.slice none 0 0) (.slice none 0 0) (.int .i64 a) (.int .i64 c)
  subst h6
  generalize put13 W4 _ _ _ _ _ _ _ _ _ _ _ _ _ _ = W5 at hp ho
  have hs := hb.size
  refine bodyPost_ret (res20 h2 h3 (W := W5.drew) hp.1 hp.2) rfl ⟨⟨ho.os.trans hb.os, ho.tape.trans hb.tape, ho.output.trans hb.output, Nat.le_trans hs ho.size, fun k hk => ?_⟩, rfl, hc⟩
  exact (ho.block k (by omega) (by omega)).trans (hb.block k hk)
theorem fin_ok {w W4 W6 : World} {tmps : Array Value} {m : Msg} {a b c : Value} {base : Nat} (h2 : tmps.getD 2 undef = .pointer (some ⟨w.heap.size, 0, none⟩)) (h3 : tmps.getD 3 undef = .pointer (some ⟨w.heap.size + 1, 0, none⟩))
    (hz : W4.heap[w.heap.size]? = some (.cells zeroM 46 (0, 0))) (hz1 : W4.heap[w.heap.size + 1]? = some (.cells #[.int .i64 0, .int .i64 0] 31 (0, 0))) (hb : Below w.heap.size w W4) (hm : MsgOwn base W4 a b c m) (hbase : w.heap.size + 2 ≤ base)
    (h6 : W6 = put13 W4 w.heap.size (.int .i64 m.kind) (.int .i64 m.n0) (.int .i64 m.n1) (.int .i64 m.n2) (.int .i64 m.n3) (.int .i64 m.n4) (.int .i64 m.n5) (.int .i64 m.n6) a b c (.int .i64 0) (.int .i64 0)) :
    bodyPost Tryd.prog Tryd.f20 (DecMPost w (.ok m)) .ret ⟨tmps, []⟩ W6 := by
  have hp := put13_at hz hz1 (.int .i64 m.kind) (.int .i64 m.n0) (.int .i64 m.n1) (.int .i64 m.n2) (.int .i64 m.n3) (.int .i64 m.n4) (.int .i64 m.n5) (.int .i64 m.n6) a b c (.int .i64 0) (.int .i64 0)
  have ho := put13_off W4 w.heap.size (.int .i64 m.kind) (.int .i64 m.n0) (.int .i64 m.n1) (.int .i64 m.n2) (.int .i64 m.n3) (.int .i64 m.n4) (.int .i64 m.n5) (.int .i64 m.n6) a b c (.int .i64 0) (.int .i64 0)
  subst h6
  generalize put13 W4 _ _ _ _ _ _ _ _ _ _ _ _ _ _ = W5 at hp ho
  have hs := hb.size
  refine bodyPost_ret (res20 h2 h3 (W := W5) hp.1 hp.2) rfl ⟨⟨ho.os.trans hb.os, ho.tape.trans hb.tape, ho.output.trans hb.output, Nat.le_trans hs ho.size, fun k hk => ?_⟩, a, b, c, rfl, ?_⟩
  · exact (ho.block k (by omega) (by omega)).trans (hb.block k hk)
  · exact (hm.keep fun g hg hlt => ho.block g (by omega) hlt).mono (by omega)

end Go.Proofs.YtakdfjkkeilffaaDoor
