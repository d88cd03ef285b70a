/- A number is read into a message; any field. -/
import Derived.Test.YtakdfjkkeilffaaDoorQc
set_option linter.unusedVariables false
set_option linter.unusedSimpArgs false
namespace Go.Proofs.YtakdfjkkeilffaaDoor
open Go.RowKit

theorem call53 : Callable Tryd.prog 53 := ⟨_, Tryd.func53, by kernel_rfl, by kernel_rfl⟩
theorem call34 : Callable Tryd.prog 34 := ⟨_, Tryd.func34, by kernel_rfl, by kernel_rfl⟩
theorem setNum_lists (M : Msg) (f : Nat) (x : Int) : (M.setNum f x).ws = M.ws ∧ (M.setNum f x).ms = M.ms ∧ (M.setNum f x).ds = M.ds := by
  unfold Msg.setNum
  repeat' split
  all_goals exact ⟨rfl, rfl, rfl⟩
theorem setNum_cells (M : Msg) (f : Nat) (x : Int) (a b c : Value) (hf : f < 7) : (mcells M a b c).setIfInBounds (f + 1) (.int .i64 x) = mcells (M.setNum f x) a b c := by
  have : f = 0 ∨ f = 1 ∨ f = 2 ∨ f = 3 ∨ f = 4 ∨ f = 5 ∨ f = 6 := by omega
  rcases this with rfl | rfl | rfl | rfl | rfl | rfl | rfl <;> rfl
theorem num_cell {M : Msg} {a b c : Value} {W : World} {mb f : Nat} (h : W.heap[mb]? = some (.cells (mcells M a b c) 46 (0, 0))) (hf : f < 7) : W.cell? ⟨mb, f + 1, none⟩ = some (.int .i64 (M.num f)) := by
  rw [cell_of_row _ _ _ _ _ _ h]
  have : f = 0 ∨ f = 1 ∨ f = 2 ∨ f = 3 ∨ f = 4 ∨ f = 5 ∨ f = 6 := by omega
  rcases this with rfl | rfl | rfl | rfl | rfl | rfl | rfl <;> rfl

set_option maxRecDepth 100000 in
set_option maxHeartbeats 1600000 in
theorem readn_any (base mb : Nat) (a b c : Value) (M : Msg) (k : Int) (n : Nat) (s : ByteArray) (A : Option Addr) (m d : Nat) (l : List It) (f : Nat) (w : World) (hf : f < 7) (hn : n < 18446744073709551616)
    (hmb : w.heap[mb]? = some (.cells (mcells M a b c) 46 (0, 0))) (ho : MsgOwn base w a b c M) (hmo : MostAt w) (h0 : 1 < w.heap.size) :
    Calls Tryd.prog 36 #[.agg #[.int .i64 k, .int .u64 n, .string s, .slice A m d], .int .i64 f, .pointer (some ⟨mb, 0, none⟩)] w (ReadPost base mb f a b c M (.mk k n s l) w) := by
  have hlt := lt_of_block hmb
  obtain ⟨W0, hW0⟩ : ∃ W0, W0 = w.alloc (.cells #[.int .i64 k, .int .u64 n, .string s, .slice A m d] 57) := ⟨_, rfl⟩
  have hb0 : Below w.heap.size w W0 := by rw [hW0]; exact below_al _ _
  have hbx : W0.heap[w.heap.size]? = some (.cells #[.int .i64 k, .int .u64 n, .string s, .slice A m d] 57 (0, 0)) := by rw [hW0]; exact heap_alloc_new _ _
  have hm0 : W0.heap[mb]? = some (.cells (mcells M a b c) 46 (0, 0)) := (hb0.block mb hlt).trans hmb
  have hmo0 := hmo.later h0 hb0
  have hmlt : mostN f < 9223372036854775808 := by unfold mostN; split <;> omega
  have hset : setF M f (.mk k n s l) = if numOk (mostN f) (.mk k n s l) = true then some (M.setNum f n) else none := by
    unfold setF
    rw [if_neg (by omega), if_neg (by omega), if_neg (by omega)]; rfl
  have HW : Hid (∀ W : World, W.heap = W0.heap → Calls Tryd.prog 34 #[.agg #[.int .i64 k, .int .u64 n, .string s, .slice A m d], .int .u64 (mostN f), .pointer (some ⟨mb, f + 1, none⟩)] W (WholePost (mostN f) (.mk k n s l) mb (f + 1) (.cells #[.int .i64 k, .int .u64 n, .string s, .slice A m d] 57) W)) := fun W hW => by
    have hmw : W.heap[mb]? = some (.cells (mcells M a b c) 46 (0, 0)) := by rw [hW]; exact hm0
    exact whole_any k n s A m d l (mostN f) mb (f + 1) (.int .i64 (M.num f)) W hn hmlt (num_cell hmw hf) (by simp only [World.frozen?, hmw]; rfl)
  have x0 := cell_of_row W0 w.heap.size 0 _ _ _ hbx
  have x1 := cell_of_row W0 w.heap.size 1 _ _ _ hbx
  have x2 := cell_of_row W0 w.heap.size 2 _ _ _ hbx
  have x3 := cell_of_row W0 w.heap.size 3 _ _ _ hbx
  simp only [List.getElem?_toArray, List.getElem?_cons_zero, List.getElem?_cons_succ] at x0 x1 x2 x3
  have hmost := hmo0 f hf
  obtain ⟨g, hg⟩ : ∃ g, g = mostN f := ⟨_, rfl⟩
  rw [← hg] at HW hmost hset
  have f7 : ((f : Int) == 7) = false := by simp; omega
  have f9 : ((f : Int) == 9) = false := by simp; omega
  have f8 : ((f : Int) == 8) = false := by simp; omega
  have hf10 : (f : Int) < 10 := by omega
  have hmq : ∀ q, (W0.drew.drewN q).cell? ⟨1, f, none⟩ = some (.int .u64 (g : Int)) := fun q => hmost
  have hm1 : W0.drew.cell? ⟨1, f, none⟩ = some (.int .u64 (g : Int)) := hmost
  have HSET := Lib.hid hset
  have HM0 := Lib.hid hm0
  have HMB := Lib.hid hmb
  have HO := Lib.hid ho
  have HB0 := Lib.hid hb0
  have HW0 := Lib.hid hW0
  have HNM := Lib.hid (fun W => number_any' mb f W hf)
  have HEND : Hid (∀ (r : Nat) (w2 : World), (w2 = if numOk g (.mk k n s l) = true then ((W0.drewN r).setCell ⟨mb, f + 1, none⟩ (.int .i64 ((It.mk k n s l).n : Int))).alloc (.cells #[.int .i64 k, .int .u64 n, .string s, .slice A m d] 57) else (W0.drewN r).alloc (.cells #[.int .i64 k, .int .u64 n, .string s, .slice A m d] 57)) → ReadPost base mb f a b c M (.mk k n s l) w (.returned (.bool (numOk g (.mk k n s l)))) w2) := by
    intro r w2 hw2
    have hbr : Below w.heap.size w (W0.drewN r) := below_drewN hb0 r
    have hmr : (W0.drewN r).heap[mb]? = some (.cells (mcells M a b c) 46 (0, 0)) := hm0
    have hor := ho.kept (below_grown (row := some mb) hbr) hmb
    by_cases ht : numOk g (.mk k n s l) = true
    · rw [if_pos ht] at hw2
      rw [if_pos ht] at hset
      subst hw2
      have hg1 : (W0.drewN r).grownBy ((W0.drewN r).setCell ⟨mb, f + 1, none⟩ (.int .i64 ((It.mk k n s l).n : Int))) (some mb) := grown_set (World.grownBy.refl _ _) _
      have hms : ((W0.drewN r).setCell ⟨mb, f + 1, none⟩ (.int .i64 ((It.mk k n s l).n : Int))).heap[mb]? = some (.cells (mcells (M.setNum f n) a b c) 46 (0, 0)) := by
        rw [heap_setCell_same _ _ _ _ _ _ hmr, setNum_cells _ _ _ _ _ _ hf]; rfl
      have ho2 := hor.kept hg1 hmr
      have hal := below_grown (row := some mb) (below_al ((W0.drewN r).setCell ⟨mb, f + 1, none⟩ (.int .i64 ((It.mk k n s l).n : Int))) (.cells #[.int .i64 k, .int .u64 n, .string s, .slice A m d] 57))
      have ho3 := ho2.kept hal hms
      refine ⟨(grown_set (below_grown hbr) _).andThen hal (fun j hj => .inr hj), ?_⟩
      rw [hset, ht]
      obtain ⟨e1, e2, e3⟩ := setNum_lists M f n
      refine ⟨rfl, a, b, c, ?_, by rw [e1]; exact ho3.ws, by rw [e2]; exact ho3.ms, by rw [e3]; exact ho3.ds⟩
      rw [Below.heap_alloc _ _ _ (lt_of_block hms)]; exact hms
    · rw [if_neg ht] at hw2 hset
      subst hw2
      refine ⟨below_grown (hbr.alloc hbr.size _), ?_⟩
      rw [hset]
      simp only [Bool.not_eq_true] at ht
      rw [ht]
  clear hset hm0 hmb ho hb0 hW0 hmo0 hmo hg hmlt hbx
  go_enter Tryd.func36, Tryd.ntmps36
  go_upto_region 1 with (fail)
  rw [← HW0.out]
  go_upto_region 2 with (fail)
  go_region_law (first
    | (refine step_call rfl 53 call53 #[.tmp 12, .tmp 13] #[73, 3] rfl #[.pointer (some ⟨mb, 0, none⟩), .int .i64 f] (by simp [Act.eval, Act.put]) ?_; refine (HNM.out _).mono ?_; rintro e w1 ⟨rfl, q, rfl⟩; refine ⟨_, rfl, ?_⟩)
    | (refine step_call rfl 34 call34 #[.tmp 8, .tmp 11, .tmp 14] #[57, 34, 68] rfl #[.agg #[.int .i64 k, .int .u64 n, .string s, .slice A m d], .int .u64 g, .pointer (some ⟨mb, f + 1, none⟩)] (by simp [Act.eval, Act.put]) ?_; refine (HW.out _ (by rfl)).mono ?_; rintro e w2 ⟨rfl, hw2⟩; have HW2 := Lib.hid hw2; clear hw2; refine ⟨_, rfl, ?_⟩))
  all_goals
    go_wp2_with fail
    go_ret
    exact HEND.out _ _ HW2.out

theorem read_field (base mb : Nat) (a b c : Value) (M : Msg) (k : Int) (n : Nat) (s : ByteArray) (A : Option Addr) (m d : Nat) (l : List It) (f : Nat) (w : World) (hm : m = l.length) (hf : f < 10) (hx : Holds w (.int .i64 k) (.int .u64 n) (.string s) (.slice A m d) (.mk k n s l)) (hl : look 7 (.mk k n s l) = 0) (hn : n < 18446744073709551616)
    (hmb : w.heap[mb]? = some (.cells (mcells M a b c) 46 (0, 0))) (ho : MsgOwn base w a b c M) (hbase : base ≤ w.heap.size) (hmo : MostAt w) (h0 : 1 < w.heap.size) :
    Calls Tryd.prog 36 #[.agg #[.int .i64 k, .int .u64 n, .string s, .slice A m d], .int .i64 f, .pointer (some ⟨mb, 0, none⟩)] w (ReadPost base mb f a b c M (.mk k n s l) w) := by
  by_cases h7 : f < 7
  · exact readn_any base mb a b c M k n s A m d l f w h7 hn hmb ho hmo h0
  · have h3 : f = 7 ∨ f = 8 ∨ f = 9 := by omega
    have hll := (look_part hl).1
    rcases h3 with rfl | rfl | rfl
    · exact read7_any base mb a b c M k n s A m d l w hm hx hll hmb ho hbase
    · exact read8_any base mb a b c M k n s A m d l w hm hx hl hmb ho hbase
    · exact read9_any base mb a b c M k n s A m d l w hm hx hll hmb ho hbase

end Go.Proofs.YtakdfjkkeilffaaDoor
