/- Decode at one text, and the examples. -/
import Derived.Test.YtakdfjkkeilffaaDoorG
import Derived.Test.YtakdfjkkeilffaaDoorF
import Derived.StillTailTactics
set_option linter.unusedVariables false
set_option linter.unusedSimpArgs false
namespace Go.Proofs.YtakdfjkkeilffaaDoor
open Go.RowKit

set_option maxRecDepth 100000 in
set_option maxHeartbeats 1600000 in
theorem read_bad (d : Int) (rb : Nat) (b : ByteArray) (p k c n m : Nat) (w : World) (r : Except (Nat × Nat) (It × Nat)) (hd8 : d ≤ 8) (hb : b.size ≤ 262144) (hlp : p < b.size) (h : w.heap[rb]? = some (.cells (readCells b p) 86 (0, 0)))
    (hk : k = b[p].toNat) (hkv : 1 ≤ k ∧ k ≤ 3) (hpn : pn 0 0 (rest b (p + 1)) = (c, n, m)) (hc : c ≠ 0) (hr : r = .error (p + 1, c)) :
    Calls Tryd.prog 46 #[.pointer (some ⟨rb, 0, none⟩), .int .i64 d] w (RdPost rb b w r) := by
  have hlt := lt_of_block h
  have hend : ¬ b.size ≤ p := by omega
  obtain ⟨al2, al3, r0, r1, r3, f3⟩ := reads h
  obtain ⟨hnum, hmid⟩ := pre_any (k := k) hb hlp h
  have HNUM := Lib.hid hnum
  have HMID := Lib.hid hmid
  have HPN := Lib.hid hpn
  have hkl : k < 256 := by rw [hk]; exact b[p].toNat_lt
  have e0 : wrap64 ((b[p].toNat : Nat) : Int) = (k : Int) := by rw [← hk]; unfold wrap64; omega
  have hk1 : ¬ (k : Int) < 1 := by omega
  have hk3 : ¬ 3 < (k : Int) := by omega
  clear hnum hmid hpn h al2 al3
  have HC := Lib.hid hc
  have HR := Lib.hid hr
  have ht : (((c : Nat) : Int) != 0) = true := by simp; omega
  clear hk hkv hr hc
  go_enter Tryd.func46, Tryd.ntmps46
  go_upto_region 11 with (go_at_call 68; refine HNUM.out.mono ?_; rintro e w1 hpost; obtain ⟨rfl, hgr, hrb1⟩ := num_bad hpost HPN.out HC.out; have hmid2 := HMID.out w1 ((p + 1 : Nat) : Int) #[.int .i64 ((p : Int) + 1), .int .i64 c] hgr hrb1; have HM2 := Lib.hid hmid2; clear hmid2 hpost hgr hrb1)
  obtain ⟨W4, hW4⟩ : ∃ W4, W4 = w1.alloc (.cells #[.int .i64 ((p : Int) + 1), .int .i64 c] 31) := ⟨_, rfl⟩
  obtain ⟨fb, hfb⟩ : ∃ fb, fb = w1.heap.size := ⟨_, rfl⟩
  have HM : Hid (Mid rb b w W4 ((p + 1 : Nat) : Int) #[.int .i64 k, .int .u64 0, .string ⟨#[]⟩, .slice none 0 0] #[.int .i64 ((p : Int) + 1), .int .i64 c] fb) := by
    show Mid _ _ _ _ _ _ _ _
    rw [hW4, hfb]
    exact HM2.out
  rw [← hW4, ← hfb]
  clear hW4 hfb HM2 HMID HNUM
  obtain ⟨g0, g1, g2⟩ := HM.out.reader
  obtain ⟨c0, c1, c2, c3, c4, c5⟩ := HM.out.outs
  obtain ⟨f0, f1, f2⟩ := HM.out.free
  have t0 : W4.cell? ⟨fb, 0, none⟩ = some (.int .i64 ((p : Int) + 1)) := HM.out.fault 0
  have t1 : W4.cell? ⟨fb, 1, none⟩ = some (.int .i64 c) := HM.out.fault 1
  have x0 : W4.cell? ⟨w.heap.size + 1 + 1, 0, none⟩ = some (.int .i64 k) := HM.out.item 0
  have x1 : W4.cell? ⟨w.heap.size + 1 + 1, 1, none⟩ = some (.int .u64 0) := HM.out.item 1
  have x2 : W4.cell? ⟨w.heap.size + 1 + 1, 2, none⟩ = some (.string ⟨#[]⟩) := HM.out.item 2
  have x3 : W4.cell? ⟨w.heap.size + 1 + 1, 3, none⟩ = some (.slice none 0 0) := HM.out.item 3
  have hfbge := HM.out.fbge
  have n1 : fb ≠ w.heap.size := by omega
  have n2 : fb ≠ w.heap.size + 1 := by omega
  have n3 : fb ≠ w.heap.size + 1 + 1 := by omega
  go_wp2_with fail
  go_region
  all_goals
    go_wp2_with fail
    exact bodyPost_ret (v := .tuple #[zeroItem, .agg #[.int .i64 ((p + 1 : Nat) : Int), .int .i64 (c : Nat)]]) (by simp [results, Tryd.results46, go_sem, zeroItem, c0, c1, c2, c3, c4, c5]) rfl
      (HM.out.err (off6 (Off.refl _ _) _ _ _ _ _ _).drew HR.out HC.out)

/-- the reader's own world -/
theorem rd_world {b : ByteArray} (w : World) (o1 o2 : Obj) : ((( w.alloc o1).alloc o2).alloc (.cells (readCells b 0) 86)).heap[w.heap.size + 1 + 1]? = some (.cells (readCells b 0) 86 (0, 0)) := by
  have e2 : ((w.alloc o1).alloc o2).heap.size = w.heap.size + 1 + 1 := by simp
  rw [← e2]; exact heap_alloc_new _ _

theorem rd_outs {b : ByteArray} (w : World) : (((w.alloc Z57).alloc Z31).alloc (.cells (readCells b 0) 86)).heap[w.heap.size]? = some Z57 ∧ (((w.alloc Z57).alloc Z31).alloc (.cells (readCells b 0) 86)).heap[w.heap.size + 1]? = some Z31 := by
  have h := three w #[.int .i64 0, .int .u64 0, .string ⟨#[]⟩, .slice none 0 0] #[.int .i64 0, .int .i64 0] (readCells b 0) 57 31 86
  exact ⟨h.1, h.2.1⟩

set_option maxRecDepth 100000 in
set_option maxHeartbeats 1600000 in
theorem decode_err (b : ByteArray) (a c : Nat) (w : World) (hb : b.size ≤ 262144)
    (hrd : ∀ (rb : Nat) (w : World), w.heap[rb]? = some (.cells (readCells b (0 : Nat)) 86 (0, 0)) → Calls Tryd.prog 46 #[.pointer (some ⟨rb, 0, none⟩), .int .i64 1] w (RdPost rb b w (.error (a, c)))) :
    Calls Tryd.prog 27 #[.string b] w fun e w' => e = .returned (.tuple #[zeroItem, .agg #[.int .i64 (a : Nat), .int .i64 (c : Nat)]]) ∧ Below w.heap.size w w' := by
  have HRD := Lib.hid (hrd (w.heap.size + 1 + 1) _ (rd_world (b := b) w Z57 Z31))
  clear hrd
  have hbl : ¬ 262144 < (b.size : Int) := by omega
  go_enter Tryd.func27, Tryd.ntmps27
  go_wp2_with (go_at_call 46; refine HRD.out.mono ?_; rintro e w1 ⟨hg, rfl, hw1, hc⟩; have ht : (((c : Nat) : Int) == 0) = false := by { simp; omega }; unfold zeroItem; have hz0 := (hg.block w.heap.size (by simp [Z57, Z31]; omega) (by simp; omega)).trans (rd_outs w).1; have hz1 := (hg.block (w.heap.size + 1) (by simp [Z57, Z31]) (by simp)).trans (rd_outs w).2; have HZ0 := Lib.hid hz0; have HZ1 := Lib.hid hz1; have HG := Lib.hid hg; clear hz0 hz1; have HB1 := Lib.hid (((((Below.refl w.heap.size w).alloc (Nat.le_refl _) Z57).alloc (by simp) Z31).alloc (by simp; omega) (.cells (readCells b 0) 86)).grown hg (by simp; omega) (by simp; omega)); have HC := Lib.hid hc; have hs1 : w.heap.size + 3 ≤ w1.heap.size := by { have := hg.size; simpa [Z57, Z31] using this }; have k1 : w.heap.size ≠ w1.heap.size := by { omega }; have k2 : w.heap.size ≠ w1.heap.size + 1 := by { omega }; have k3 : w.heap.size + 1 ≠ w1.heap.size := by { omega }; have k4 : w.heap.size + 1 ≠ w1.heap.size + 1 := by { omega }; clear hg hw1 hc)
  obtain ⟨W4, hW4⟩ : ∃ W4, W4 = (w1.alloc (.cells #[.int .i64 0, .int .u64 0, .string ⟨#[]⟩, .slice none 0 0] 57)).alloc (.cells #[.int .i64 a, .int .i64 c] 31) := ⟨_, rfl⟩
  rw [← hW4]
  have hz0 : W4.heap[w.heap.size]? = some (.cells #[.int .i64 0, .int .u64 0, .string ⟨#[]⟩, .slice none 0 0] 57 (0, 0)) := by
    rw [hW4, Below.heap_alloc _ _ _ (by simp; omega), Below.heap_alloc _ _ _ (by omega)]; exact HZ0.out
  have hz1 : W4.heap[w.heap.size + 1]? = some (.cells #[.int .i64 0, .int .i64 0] 31 (0, 0)) := by
    rw [hW4, Below.heap_alloc _ _ _ (by simp; omega), Below.heap_alloc _ _ _ (by omega)]; exact HZ1.out
  have y0 := cell_of_row W4 w.heap.size 0 _ _ _ hz0
  have y1 := cell_of_row W4 w.heap.size 1 _ _ _ hz0
  have y2 := cell_of_row W4 w.heap.size 2 _ _ _ hz0
  have y3 := cell_of_row W4 w.heap.size 3 _ _ _ hz0
  have y4 := cell_of_row W4 (w.heap.size + 1) 0 _ _ _ hz1
  have y5 := cell_of_row W4 (w.heap.size + 1) 1 _ _ _ hz1
  have u0 : ∀ j, W4.frozen? ⟨w.heap.size, j, none⟩ = false := fun j => by simp only [World.frozen?, hz0]; rfl
  have u1 : ∀ j, W4.frozen? ⟨w.heap.size + 1, j, none⟩ = false := fun j => by simp only [World.frozen?, hz1]; rfl
  simp only [List.getElem?_toArray, List.getElem?_cons_zero, List.getElem?_cons_succ] at y0 y1 y2 y3 y4 y5
  have z6 : W4.cell? ⟨w1.heap.size + 1, 0, none⟩ = some (.int .i64 a) := by
    rw [hW4]; simp
  have z7 : W4.cell? ⟨w1.heap.size + 1, 1, none⟩ = some (.int .i64 c) := by
    rw [hW4]; simp
  have HB4 : Hid (Below w.heap.size w W4) := by
    show Below _ _ _
    rw [hW4]
    exact (HB1.out.alloc (by omega) _).alloc (by simp; omega) _
  clear hz0 hz1 hW4
  go_region
  all_goals
    go_wp2_with fail
    refine bodyPost_ret (v := .tuple #[zeroItem, .agg #[.int .i64 (a : Nat), .int .i64 (c : Nat)]]) (by simp [results, Tryd.results27, go_sem, zeroItem, y0, y1, y2, y3, y4, y5, k1, k2, k3, k4]) rfl ⟨rfl, ?_⟩
    repeat (first | refine Below.setCell ?_ (by simp; try omega) _ | refine Below.drew ?_)
    exact HB4.out

end Go.Proofs.YtakdfjkkeilffaaDoor
