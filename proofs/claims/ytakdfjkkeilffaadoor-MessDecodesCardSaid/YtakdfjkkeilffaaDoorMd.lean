/- A field as an item: the walk. -/
import Derived.Test.YtakdfjkkeilffaaDoorMc
set_option linter.unusedVariables false
set_option linter.unusedSimpArgs false
namespace Go.Proofs.YtakdfjkkeilffaaDoor
open Go.RowKit

/-- a message and an item of the call's own -/
def mesW (m : Msg) (a b c : Value) (w : World) : World := (w.alloc (.cells (mcells m a b c) 46)).alloc Z57
theorem mes_facts (m : Msg) (a b c : Value) (w : World) : Below w.heap.size w (mesW m a b c w) ∧ (mesW m a b c w).heap.size = w.heap.size + 2 ∧ (mesW m a b c w).heap[w.heap.size]? = some (.cells (mcells m a b c) 46 (0, 0)) ∧ (mesW m a b c w).heap[w.heap.size + 1]? = some Z57 := by
  have e : (w.alloc (.cells (mcells m a b c) 46)).heap.size = w.heap.size + 1 := by simp
  refine ⟨(below_al _ _).alloc (by simp) _, by unfold mesW; simp, ?_, ?_⟩
  · unfold mesW; rw [Below.heap_alloc _ _ _ (by simp)]; exact heap_alloc_new _ _
  · unfold mesW; rw [← e]; exact heap_alloc_new _ _
theorem four_at {N : Nat} {W : World} {S : Nat → Prop} {v0 v1 v2 v3 : Value} {x : It} (h : HoldsP S W v0 v1 v2 v3 x) (hS : ∀ g, S g → g < W.heap.size ∧ g ≠ N) {lo : Nat} (hlo : ∀ g, S g → lo ≤ g) {u0 u1 u2 u3 : Value} :
    HoldsP (fun g => lo ≤ g ∧ g < ((((W.setCell ⟨N, 0, none⟩ u0).setCell ⟨N, 1, none⟩ u1).setCell ⟨N, 2, none⟩ u2).setCell ⟨N, 3, none⟩ u3).heap.size) ((((W.setCell ⟨N, 0, none⟩ u0).setCell ⟨N, 1, none⟩ u1).setCell ⟨N, 2, none⟩ u2).setCell ⟨N, 3, none⟩ u3) v0 v1 v2 v3 x := by
  have hof := ((((Off.refl (fun g => g = N) W).set (a := ⟨N, 0, none⟩) rfl u0).set (a := ⟨N, 1, none⟩) rfl u1).set (a := ⟨N, 2, none⟩) rfl u2).set (a := ⟨N, 3, none⟩) rfl u3
  have hs := hof.size
  exact h.keep (fun g hg => ⟨hlo g hg, by have := (hS g hg).1; omega⟩) (fun g hg => hof.block g (hS g hg).2 (hS g hg).1)

set_option maxRecDepth 100000 in
set_option maxHeartbeats 1600000 in
theorem field7_any (m : Msg) (a b c : Value) (w : World) (h : MsgIn w a b c m) (hn : m.ws.length ≤ 16384) :
    Calls Tryd.prog 45 #[.agg (mcells m a b c), .int .i64 7] w (ItemPost w (itList (m.ws.map itNum))) := by
  obtain ⟨A1, L1, C1, rfl⟩ : ∃ A l c, a = .slice A l c := by obtain ⟨A, c, e⟩ := h.ws.form; exact ⟨A, _, c, e⟩
  obtain ⟨f1, f2, f3, f4⟩ := mes_facts m (.slice A1 L1 C1) b c w
  have HIT := Lib.hid (items66_any _ m.ws (mesW m (.slice A1 L1 C1) b c w) (h.ws.later f1) hn h.wl)
  have F1 := Lib.hid f1
  have F4 := Lib.hid f4
  rw [f2.symm.symm] at f2
  have F2 := Lib.hid f2
  clear h f1 f2 f3 f4
  unfold mesW mcells Z57 at HIT
  unfold mcells
  go_enter Tryd.func45, Tryd.ntmps45
  go_wp2_with (go_at_call 66; refine HIT.out.mono ?_; rintro e w3 ⟨v0, v1, v2, v3, rfl, hx, hb3⟩; obtain ⟨xk, xn, xt, xA, xm, xc, rfl, rfl, rfl, rfl⟩ := hx.shape; have HX := Lib.hid hx; have HB3 := Lib.hid hb3; have hz : w3.heap[w.heap.size + 1]? = some Z57 := ((hb3.block _ (by simp)).trans F4.out); unfold Z57 at hz; have c0 := cell_of_row w3 (w.heap.size + 1) 0 _ _ _ hz; have c1 := cell_of_row w3 (w.heap.size + 1) 1 _ _ _ hz; have c2 := cell_of_row w3 (w.heap.size + 1) 2 _ _ _ hz; have c3 := cell_of_row w3 (w.heap.size + 1) 3 _ _ _ hz; have f0 : ∀ j, w3.frozen? ⟨w.heap.size + 1, j, none⟩ = false := (fun j => by { simp only [World.frozen?, hz]; rfl }); simp only [List.getElem?_toArray, List.getElem?_cons_zero, List.getElem?_cons_succ] at c0 c1 c2 c3; clear hx hb3 hz)
  refine bodyPost_ret (v := .agg #[.int .i64 xk, .int .u64 xn, .string xt, .slice xA xm xc]) (by simp [results, Tryd.results45, go_sem, c0, c1, c2, c3]) rfl ⟨_, _, _, _, rfl, ?_, ?_⟩
  · exact four_at HX.out (fun g hg => ⟨hg.2, by have := hg.1; simp at this; omega⟩) (fun g hg => by have := hg.1; simp at this; omega)
  · repeat (refine Below.setCell ?_ (by simp) _)
    exact F1.out.trans (HB3.out.mono (by simp; omega))

set_option maxRecDepth 100000 in
set_option maxHeartbeats 1600000 in
theorem field9_any (m : Msg) (a b c : Value) (w : World) (h : MsgIn w a b c m) (hn : m.ds.length ≤ 16384) :
    Calls Tryd.prog 45 #[.agg (mcells m a b c), .int .i64 9] w (ItemPost w (itList (m.ds.map itNum))) := by
  obtain ⟨A1, L1, C1, rfl⟩ : ∃ A l c', c = .slice A l c' := by obtain ⟨A, c', e⟩ := h.ds.form; exact ⟨A, _, c', e⟩
  obtain ⟨f1, f2, f3, f4⟩ := mes_facts m a b (.slice A1 L1 C1) w
  have HIT := Lib.hid (items67_any _ m.ds (mesW m a b (.slice A1 L1 C1) w) (h.ds.later f1) hn h.dl)
  have F1 := Lib.hid f1
  have F4 := Lib.hid f4
  rw [f2.symm.symm] at f2
  have F2 := Lib.hid f2
  clear h f1 f2 f3 f4
  unfold mesW mcells Z57 at HIT
  unfold mcells
  go_enter Tryd.func45, Tryd.ntmps45
  go_wp2_with (go_at_call 67; refine HIT.out.mono ?_; rintro e w3 ⟨v0, v1, v2, v3, rfl, hx, hb3⟩; obtain ⟨xk, xn, xt, xA, xm, xc, rfl, rfl, rfl, rfl⟩ := hx.shape; have HX := Lib.hid hx; have HB3 := Lib.hid hb3; have hz : w3.heap[w.heap.size + 1]? = some Z57 := ((hb3.block _ (by simp)).trans F4.out); unfold Z57 at hz; have c0 := cell_of_row w3 (w.heap.size + 1) 0 _ _ _ hz; have c1 := cell_of_row w3 (w.heap.size + 1) 1 _ _ _ hz; have c2 := cell_of_row w3 (w.heap.size + 1) 2 _ _ _ hz; have c3 := cell_of_row w3 (w.heap.size + 1) 3 _ _ _ hz; have f0 : ∀ j, w3.frozen? ⟨w.heap.size + 1, j, none⟩ = false := (fun j => by { simp only [World.frozen?, hz]; rfl }); simp only [List.getElem?_toArray, List.getElem?_cons_zero, List.getElem?_cons_succ] at c0 c1 c2 c3; clear hx hb3 hz)
  refine bodyPost_ret (v := .agg #[.int .i64 xk, .int .u64 xn, .string xt, .slice xA xm xc]) (by simp [results, Tryd.results45, go_sem, c0, c1, c2, c3]) rfl ⟨_, _, _, _, rfl, ?_, ?_⟩
  · exact four_at HX.out (fun g hg => ⟨hg.2, by have := hg.1; simp at this; omega⟩) (fun g hg => by have := hg.1; simp at this; omega)
  · repeat (refine Below.setCell ?_ (by simp) _)
    exact F1.out.trans (HB3.out.mono (by simp; omega))

set_option maxRecDepth 100000 in
set_option maxHeartbeats 1600000 in
theorem fieldn_any (m : Msg) (a b c : Value) (w : World) (f n : Nat) (h : MsgIn w a b c m) (hf : f < 7) (hn : m.num f = (n : Int)) (hnl : n < 9223372036854775808) :
    Calls Tryd.prog 45 #[.agg (mcells m a b c), .int .i64 f] w (ItemPost w (itNum n)) := by
  obtain ⟨f1, f2, f3, f4⟩ := mes_facts m a b c w
  have HNM := Lib.hid (number_any' w.heap.size f (mesW m a b c w) hf)
  have hcell : (mesW m a b c w).cell? ⟨w.heap.size, f + 1, none⟩ = some (.int .i64 (n : Int)) := by
    rw [cell_of_row _ _ _ _ _ _ f3, ← hn]
    have : f = 0 ∨ f = 1 ∨ f = 2 ∨ f = 3 ∨ f = 4 ∨ f = 5 ∨ f = 6 := by omega
    rcases this with rfl | rfl | rfl | rfl | rfl | rfl | rfl <;> rfl
  have b7 : (((f : Nat) : Int) == 7) = false := by simp; omega
  have b8 : (((f : Nat) : Int) == 8) = false := by simp; omega
  have b9 : (((f : Nat) : Int) == 9) = false := by simp; omega
  have F1 := Lib.hid f1
  have F4 := Lib.hid f4
  have F2 := Lib.hid f2
  have HC := Lib.hid hcell
  clear h f1 f2 f3 f4 hcell hn
  obtain ⟨W2, hW2⟩ : ∃ W2, W2 = mesW m a b c w := ⟨_, rfl⟩
  rw [← hW2] at F1 F2 F4 HC HNM
  unfold mesW mcells Z57 at hW2
  unfold mcells
  go_enter Tryd.func45, Tryd.ntmps45
  go_upto_region 14 with (fail)
  rw [← hW2]
  clear hW2
  go_wp2_with (first
    | (go_at_call 53; refine HNM.out.mono ?_; rintro e w3 ⟨rfl, q, rfl⟩; have hcell : (W2.drewN q).cell? ⟨w.heap.size, f + 1, none⟩ = some (.int .i64 (n : Int)) := HC.out)
    | (go_at_call 44; refine (item44_any n _ hnl).mono ?_; rintro e w4 ⟨rfl, hb4⟩; have hbw : Below W2.heap.size W2 w4 := ⟨hb4.os, hb4.tape, hb4.output, hb4.size, hb4.block⟩; have HB4 := Lib.hid hbw; have hz : w4.heap[w.heap.size + 1]? = some Z57 := ((hbw.block _ (by have := F2.out; omega)).trans F4.out); unfold Z57 at hz; have c0 := cell_of_row w4 (w.heap.size + 1) 0 _ _ _ hz; have c1 := cell_of_row w4 (w.heap.size + 1) 1 _ _ _ hz; have c2 := cell_of_row w4 (w.heap.size + 1) 2 _ _ _ hz; have c3 := cell_of_row w4 (w.heap.size + 1) 3 _ _ _ hz; have f0 : ∀ j, w4.frozen? ⟨w.heap.size + 1, j, none⟩ = false := (fun j => by { simp only [World.frozen?, hz]; rfl }); simp only [List.getElem?_toArray, List.getElem?_cons_zero, List.getElem?_cons_succ] at c0 c1 c2 c3; clear hb4 hbw hz))
  refine bodyPost_ret (v := .agg #[.int .i64 1, .int .u64 n, .string ⟨#[]⟩, .slice none 0 0]) (by simp [results, Tryd.results45, go_sem, c0, c1, c2, c3]) rfl ⟨_, _, _, _, rfl, ?_, ?_⟩
  · exact HoldsP.leaf 1 n ⟨#[]⟩ (by omega) (by decide)
  · repeat (refine Below.setCell ?_ (by simp) _)
    exact F1.out.trans (HB4.out.mono (by have := F2.out; omega))

end Go.Proofs.YtakdfjkkeilffaaDoor
