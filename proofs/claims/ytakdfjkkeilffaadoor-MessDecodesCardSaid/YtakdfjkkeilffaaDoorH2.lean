/- A text is read. -/
import Derived.Test.YtakdfjkkeilffaaDoorH
set_option linter.unusedVariables false
set_option linter.unusedSimpArgs false
namespace Go.Proofs.YtakdfjkkeilffaaDoor
open Go.RowKit

theorem Mid.ok2 {rb : Nat} {b : ByteArray} {w W W1 W2 : World} {pos : Int} {xc fc : Array Value} {fb : Nat} (h : Mid rb b w W pos xc fc fb) {q : Nat} {qi : Int} (ho : Off (outB w.heap.size) W W1) (ho2 : Off (outB w.heap.size) (W1.setCell ⟨rb, 1, none⟩ (.int .i64 qi)) W2)
    {r : Except (Nat × Nat) (It × Nat)} {x : It} {v0 v1 v2 v3 : Value} (hr : r = .ok (x, q)) (hx : HoldsP (fun g => w.heap.size ≤ g ∧ g < W2.heap.size) W2 v0 v1 v2 v3 x) (hq : (q : Int) = qi) (hqb : q ≤ b.size) :
    RdPost rb b w r (.returned (.tuple #[.agg #[v0, v1, v2, v3], .agg #[.int .i64 0, .int .i64 0]])) W2 := by
  subst hr
  have hlt := h.lt
  have hb1 : W1.heap[rb]? = some (.cells (readCells b pos) 86 (0, 0)) := (ho.block rb (by unfold outB; omega) (lt_of_block h.rd)).trans h.rd
  have hg1 := ho.grown h.grown (fun g hg hlt => by unfold outB at hg; omega)
  have hg2 : w.grownBy (W1.setCell ⟨rb, 1, none⟩ (.int .i64 qi)) (some rb) := ((Off.refl (fun g => g = rb) _).set rfl _).grown hg1 (fun _ h _ => h)
  have hb2 := heap_setCell_same W1 rb 1 _ _ (.int .i64 qi) hb1
  refine ⟨ho2.grown hg2 (fun g hg hlt => by unfold outB at hg; omega), v0, v1, v2, v3, rfl, hx, ?_, hqb⟩
  rw [ho2.block rb (by unfold outB; omega) (lt_of_block hb2), hb2, hq]
  rfl

set_option maxRecDepth 100000 in
set_option maxHeartbeats 1600000 in
theorem read_two_ok (d : Int) (rb : Nat) (b : ByteArray) (p k n m : Nat) (w : World) (r : Except (Nat × Nat) (It × Nat)) (hd8 : d ≤ 8) (hb : b.size ≤ 262144) (hlp : p < b.size) (h : w.heap[rb]? = some (.cells (readCells b p) 86 (0, 0)))
    (hk : k = b[p].toNat) (hkv : k = 2) (hpn : pn 0 0 (rest b (p + 1)) = (0, n, m)) (htoo : ¬ b.size - (p + 1 + m) < n) (hr : r = .ok (.mk k 0 (b.extract (p + 1 + m) (p + 1 + m + n)) [], p + 1 + m + n)) :
    Calls Tryd.prog 46 #[.pointer (some ⟨rb, 0, none⟩), .int .i64 d] w (RdPost rb b w r) := by
  have hlt := lt_of_block h
  have hend : ¬ b.size ≤ p := by omega
  obtain ⟨al2, al3, r0, r1, r3, f3⟩ := reads h
  obtain ⟨hnum, hmid⟩ := pre_any (k := k) hb hlp h
  have HNUM := Lib.hid hnum
  have HMID := Lib.hid hmid
  have HPN := Lib.hid hpn
  have hkl : k < 256 := by rw [hk]; exact b[p].toNat_lt
  have e0 : wrap64 ((b[p].toNat : Nat) : Int) = (k : Int) := by rw [← hk]; unfold wrap64; omega
  have hk1 : ¬ (k : Int) < 1 := by omega
  have hk3 : ¬ 3 < (k : Int) := by omega
  obtain ⟨hn64, hm1, hm2⟩ := pn_bounds _ _ _ _ _ hpn (by omega) (by omega)
  have hmb : p + 1 + m ≤ b.size := by simp [rest] at hm2; omega
  clear hnum hmid hpn h hm2 al2 al3
  obtain ⟨q, hq⟩ : ∃ q, q = p + 1 + m := ⟨_, rfl⟩
  rw [← hq] at hmb
  have HQ := Lib.hid hq
  have HR : Hid (r = .ok (.mk k 0 (b.extract q (q + n)) [], q + n)) := by show r = _; rw [hq]; exact hr
  rw [← hq] at htoo
  have htoo2 : ¬ (b.size : Int) - q < n := by omega
  have hqn : q + n ≤ b.size := by omega
  have hqn2 : n ≤ 262144 := by omega
  obtain ⟨y, hex⟩ : ∃ y, b.extract q (q + n) = y := ⟨_, rfl⟩
  rw [hex] at HR
  have HYS : Hid (y.size ≤ 140737488355328) := by show _ ≤ _; rw [← hex]; simp; omega
  have q1 : (((k : Nat) : Int) == 1) = false := by rw [hkv]; rfl
  have q2 : (((k : Nat) : Int) == 2) = true := by rw [hkv]; rfl
  clear hk hkv hq hr htoo
  go_enter Tryd.func46, Tryd.ntmps46
  go_upto_region 11 with (go_at_call 68; refine HNUM.out.mono ?_; rintro e w1 hpost; obtain ⟨rfl, hgr, hrb1⟩ := num_good hpost HPN.out; have hmid2 := HMID.out w1 (q : Int) #[.int .i64 0, .int .i64 0] hgr (by rw [HQ.out]; exact hrb1); have HM2 := Lib.hid hmid2; clear hmid2 hpost hgr hrb1)
  obtain ⟨W4, hW4⟩ : ∃ W4, W4 = w1.alloc (.cells #[.int .i64 0, .int .i64 0] 31) := ⟨_, rfl⟩
  obtain ⟨fb, hfb⟩ : ∃ fb, fb = w1.heap.size := ⟨_, rfl⟩
  have HM : Hid (Mid rb b w W4 (q : Int) #[.int .i64 k, .int .u64 0, .string ⟨#[]⟩, .slice none 0 0] #[.int .i64 0, .int .i64 0] fb) := by
    show Mid _ _ _ _ _ _ _ _
    rw [hW4, hfb]
    exact HM2.out
  rw [← hW4, ← hfb]
  clear hW4 hfb HM2 HMID HNUM
  obtain ⟨g0, g1, g2⟩ := HM.out.reader
  obtain ⟨c0, c1, c2, c3, c4, c5⟩ := HM.out.outs
  obtain ⟨f0, f1, f2⟩ := HM.out.free
  have t0 : W4.cell? ⟨fb, 0, none⟩ = some (.int .i64 0) := HM.out.fault 0
  have t1 : W4.cell? ⟨fb, 1, none⟩ = some (.int .i64 0) := HM.out.fault 1
  have x0 : W4.cell? ⟨w.heap.size + 1 + 1, 0, none⟩ = some (.int .i64 k) := HM.out.item 0
  have x1 : W4.cell? ⟨w.heap.size + 1 + 1, 1, none⟩ = some (.int .u64 0) := HM.out.item 1
  have x2 : W4.cell? ⟨w.heap.size + 1 + 1, 2, none⟩ = some (.string ⟨#[]⟩) := HM.out.item 2
  have x3 : W4.cell? ⟨w.heap.size + 1 + 1, 3, none⟩ = some (.slice none 0 0) := HM.out.item 3
  have hfbge := HM.out.fbge
  have n1 : fb ≠ w.heap.size := by omega
  have n2 : fb ≠ w.heap.size + 1 := by omega
  have n3 : fb ≠ w.heap.size + 1 + 1 := by omega
  go_wp2_with fail
  go_quiet (fail)
  go_wp2_with fail
  refine still_tail2 17 (by kernel_rfl) (by kernel_rfl) _ rfl ?_
  simp only [List.take_succ_cons, List.take_zero, List.drop_succ_cons, List.drop_zero]
  repeat still_step
  refine wpStill_step (fun K hK => ?_)
  go_simp
  have ew0 : IntKind.i64.wrap (n : Int) = (n : Int) := by rw [IntKind.wrap_i64]; omega
  have ew : IntKind.i64.wrap ((q : Int) + (n : Int)) = ((q + n : Nat) : Int) := by rw [IntKind.wrap_i64]; omega
  simp only [ew0, ew]
  rw [if_pos ⟨by omega, by omega⟩, if_pos (by omega), Int.toNat_natCast, hex]
  clear ew ew0
  refine ⟨rfl, hK _ ?_⟩
  clear hK K
  repeat still_step
  refine wpStill_nil ?_
  go_wp2_with fail
  exact bodyPost_ret (v := .tuple #[.agg #[.int .i64 k, .int .u64 0, .string y, .slice none 0 0], .agg #[.int .i64 0, .int .i64 0]]) (by simp [results, Tryd.results46, go_sem, c0, c1, c2, c3, c4, c5, x0, x1, x2, x3]) rfl
    (HM.out.ok2 (q := q + n) (((Off.refl _ _).drewN _).set (a := ⟨w.heap.size + 1 + 1, 2, none⟩) (.inr (.inr rfl)) _) (off6 (Off.refl _ _) _ _ _ _ _ _) HR.out (HoldsP.leaf _ _ _ (by decide) HYS.out) (by simp) hqn)

end Go.Proofs.YtakdfjkkeilffaaDoor
