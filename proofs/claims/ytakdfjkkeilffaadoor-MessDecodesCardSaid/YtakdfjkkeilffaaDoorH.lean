/- An item is read: kind by kind. -/
import Derived.Test.YtakdfjkkeilffaaDoorG
import Derived.StillTailTactics
set_option linter.unusedVariables false
set_option linter.unusedSimpArgs false
namespace Go.Proofs.YtakdfjkkeilffaaDoor
open Go.RowKit

theorem Off.drewN {B : Nat → Prop} {w w' : World} (h : Off B w w') (n : Nat) : Off B w (w'.drewN n) := ⟨h.os, h.tape, h.output, h.size, h.block⟩
theorem still_tail2 {P : Program} {id : Nat} {Q : Exit → Act → World → Prop} {a : Act} {w : World} {l : List Oper} (n : Nat) (hm : P.follows .mixedOrders = true) (hB : Region.lexTailB .any l.toArray n = true)
    (wd : World) (hwd : wd = w.drew)
    (h : wpStill P l.toArray wd (fun a' => wpList P l.toArray Q (l.drop n) a' wd) (l.take n) a) : (Code.region id l.toArray true).wp P Q a w := by
  subst hwd
  exact wp_region_still_tail n hm hB h

set_option maxRecDepth 100000 in
set_option maxHeartbeats 1600000 in
theorem read_one (d : Int) (rb : Nat) (b : ByteArray) (p k n m : Nat) (w : World) (r : Except (Nat × Nat) (It × Nat)) (hd8 : d ≤ 8) (hb : b.size ≤ 262144) (hlp : p < b.size) (h : w.heap[rb]? = some (.cells (readCells b p) 86 (0, 0)))
    (hk : k = b[p].toNat) (hkv : k = 1) (hpn : pn 0 0 (rest b (p + 1)) = (0, n, m)) (hr : r = .ok (.mk k n ⟨#[]⟩ [], p + 1 + m)) :
    Calls Tryd.prog 46 #[.pointer (some ⟨rb, 0, none⟩), .int .i64 d] w (RdPost rb b w r) := by
  have hlt := lt_of_block h
  have hend : ¬ b.size ≤ p := by omega
  obtain ⟨al2, al3, r0, r1, r3, f3⟩ := reads h
  obtain ⟨hnum, hmid⟩ := pre_any (k := k) hb hlp h
  have HNUM := Lib.hid hnum
  have HMID := Lib.hid hmid
  have HPN := Lib.hid hpn
  have hkl : k < 256 := by rw [hk]; exact b[p].toNat_lt
  have e0 : wrap64 ((b[p].toNat : Nat) : Int) = (k : Int) := by rw [← hk]; unfold wrap64; omega
  have hk1 : ¬ (k : Int) < 1 := by omega
  have hk3 : ¬ 3 < (k : Int) := by omega
  obtain ⟨hn64, hm1, hm2⟩ := pn_bounds _ _ _ _ _ hpn (by omega) (by omega)
  have hmb : p + 1 + m ≤ b.size := by simp [rest] at hm2; omega
  clear hnum hmid hpn h hm2 al2 al3
  obtain ⟨q, hq⟩ : ∃ q, q = p + 1 + m := ⟨_, rfl⟩
  rw [← hq] at hmb
  have HQ := Lib.hid hq
  have HR : Hid (r = .ok (.mk k n ⟨#[]⟩ [], q)) := by show r = _; rw [hq]; exact hr
  have q1 : (((k : Nat) : Int) == 1) = true := by rw [hkv]; rfl
  clear hk hkv hq hr
  go_enter Tryd.func46, Tryd.ntmps46
  go_upto_region 11 with (go_at_call 68; refine HNUM.out.mono ?_; rintro e w1 hpost; obtain ⟨rfl, hgr, hrb1⟩ := num_good hpost HPN.out; have hmid2 := HMID.out w1 (q : Int) #[.int .i64 0, .int .i64 0] hgr (by rw [HQ.out]; exact hrb1); have HM2 := Lib.hid hmid2; clear hmid2 hpost hgr hrb1)
  obtain ⟨W4, hW4⟩ : ∃ W4, W4 = w1.alloc (.cells #[.int .i64 0, .int .i64 0] 31) := ⟨_, rfl⟩
  obtain ⟨fb, hfb⟩ : ∃ fb, fb = w1.heap.size := ⟨_, rfl⟩
  have HM : Hid (Mid rb b w W4 (q : Int) #[.int .i64 k, .int .u64 0, .string ⟨#[]⟩, .slice none 0 0] #[.int .i64 0, .int .i64 0] fb) := by
    show Mid _ _ _ _ _ _ _ _
    rw [hW4, hfb]
    exact HM2.out
  rw [← hW4, ← hfb]
  clear hW4 hfb HM2 HMID HNUM
  obtain ⟨g0, g1, g2⟩ := HM.out.reader
  obtain ⟨c0, c1, c2, c3, c4, c5⟩ := HM.out.outs
  obtain ⟨f0, f1, f2⟩ := HM.out.free
  have t0 : W4.cell? ⟨fb, 0, none⟩ = some (.int .i64 0) := HM.out.fault 0
  have t1 : W4.cell? ⟨fb, 1, none⟩ = some (.int .i64 0) := HM.out.fault 1
  have x0 : W4.cell? ⟨w.heap.size + 1 + 1, 0, none⟩ = some (.int .i64 k) := HM.out.item 0
  have x1 : W4.cell? ⟨w.heap.size + 1 + 1, 1, none⟩ = some (.int .u64 0) := HM.out.item 1
  have x2 : W4.cell? ⟨w.heap.size + 1 + 1, 2, none⟩ = some (.string ⟨#[]⟩) := HM.out.item 2
  have x3 : W4.cell? ⟨w.heap.size + 1 + 1, 3, none⟩ = some (.slice none 0 0) := HM.out.item 3
  have hfbge := HM.out.fbge
  have n1 : fb ≠ w.heap.size := by omega
  have n2 : fb ≠ w.heap.size + 1 := by omega
  have n3 : fb ≠ w.heap.size + 1 + 1 := by omega
  go_wp2_with fail
  exact bodyPost_ret (v := .tuple #[.agg #[.int .i64 k, .int .u64 n, .string ⟨#[]⟩, .slice none 0 0], .agg #[.int .i64 0, .int .i64 0]]) (by simp [results, Tryd.results46, go_sem, c0, c1, c2, c3, c4, c5, x0, x1, x2, x3]) rfl
    (HM.out.ok (off6 ((Off.refl _ _).set (a := ⟨w.heap.size + 1 + 1, 1, none⟩) (.inr (.inr rfl)) _) _ _ _ _ _ _) HR.out (HoldsP.leaf _ _ _ hn64 (Nat.zero_le _)) rfl hmb)

set_option maxRecDepth 100000 in
set_option maxHeartbeats 1600000 in
theorem read_two_far (d : Int) (rb : Nat) (b : ByteArray) (p k n m : Nat) (w : World) (r : Except (Nat × Nat) (It × Nat)) (hd8 : d ≤ 8) (hb : b.size ≤ 262144) (hlp : p < b.size) (h : w.heap[rb]? = some (.cells (readCells b p) 86 (0, 0)))
    (hk : k = b[p].toNat) (hkv : k = 2) (hpn : pn 0 0 (rest b (p + 1)) = (0, n, m)) (htoo : b.size - (p + 1 + m) < n) (hr : r = .error (p + 1 + m, 23)) :
    Calls Tryd.prog 46 #[.pointer (some ⟨rb, 0, none⟩), .int .i64 d] w (RdPost rb b w r) := by
  have hlt := lt_of_block h
  have hend : ¬ b.size ≤ p := by omega
  obtain ⟨al2, al3, r0, r1, r3, f3⟩ := reads h
  obtain ⟨hnum, hmid⟩ := pre_any (k := k) hb hlp h
  have HNUM := Lib.hid hnum
  have HMID := Lib.hid hmid
  have HPN := Lib.hid hpn
  have hkl : k < 256 := by rw [hk]; exact b[p].toNat_lt
  have e0 : wrap64 ((b[p].toNat : Nat) : Int) = (k : Int) := by rw [← hk]; unfold wrap64; omega
  have hk1 : ¬ (k : Int) < 1 := by omega
  have hk3 : ¬ 3 < (k : Int) := by omega
  obtain ⟨hn64, hm1, hm2⟩ := pn_bounds _ _ _ _ _ hpn (by omega) (by omega)
  have hmb : p + 1 + m ≤ b.size := by simp [rest] at hm2; omega
  clear hnum hmid hpn h hm2 al2 al3
  obtain ⟨q, hq⟩ : ∃ q, q = p + 1 + m := ⟨_, rfl⟩
  rw [← hq] at hmb
  have HQ := Lib.hid hq
  have HR : Hid (r = .error (q, 23)) := by show r = _; rw [hq]; exact hr
  rw [← hq] at htoo
  have htoo2 : (b.size : Int) - q < n := by omega
  have q1 : (((k : Nat) : Int) == 1) = false := by rw [hkv]; rfl
  have q2 : (((k : Nat) : Int) == 2) = true := by rw [hkv]; rfl
  clear hk hkv hq hr htoo
  go_enter Tryd.func46, Tryd.ntmps46
  go_upto_region 11 with (go_at_call 68; refine HNUM.out.mono ?_; rintro e w1 hpost; obtain ⟨rfl, hgr, hrb1⟩ := num_good hpost HPN.out; have hmid2 := HMID.out w1 (q : Int) #[.int .i64 0, .int .i64 0] hgr (by rw [HQ.out]; exact hrb1); have HM2 := Lib.hid hmid2; clear hmid2 hpost hgr hrb1)
  obtain ⟨W4, hW4⟩ : ∃ W4, W4 = w1.alloc (.cells #[.int .i64 0, .int .i64 0] 31) := ⟨_, rfl⟩
  obtain ⟨fb, hfb⟩ : ∃ fb, fb = w1.heap.size := ⟨_, rfl⟩
  have HM : Hid (Mid rb b w W4 (q : Int) #[.int .i64 k, .int .u64 0, .string ⟨#[]⟩, .slice none 0 0] #[.int .i64 0, .int .i64 0] fb) := by
    show Mid _ _ _ _ _ _ _ _
    rw [hW4, hfb]
    exact HM2.out
  rw [← hW4, ← hfb]
  clear hW4 hfb HM2 HMID HNUM
  obtain ⟨g0, g1, g2⟩ := HM.out.reader
  obtain ⟨c0, c1, c2, c3, c4, c5⟩ := HM.out.outs
  obtain ⟨f0, f1, f2⟩ := HM.out.free
  have t0 : W4.cell? ⟨fb, 0, none⟩ = some (.int .i64 0) := HM.out.fault 0
  have t1 : W4.cell? ⟨fb, 1, none⟩ = some (.int .i64 0) := HM.out.fault 1
  have x0 : W4.cell? ⟨w.heap.size + 1 + 1, 0, none⟩ = some (.int .i64 k) := HM.out.item 0
  have x1 : W4.cell? ⟨w.heap.size + 1 + 1, 1, none⟩ = some (.int .u64 0) := HM.out.item 1
  have x2 : W4.cell? ⟨w.heap.size + 1 + 1, 2, none⟩ = some (.string ⟨#[]⟩) := HM.out.item 2
  have x3 : W4.cell? ⟨w.heap.size + 1 + 1, 3, none⟩ = some (.slice none 0 0) := HM.out.item 3
  have hfbge := HM.out.fbge
  have n1 : fb ≠ w.heap.size := by omega
  have n2 : fb ≠ w.heap.size + 1 := by omega
  have n3 : fb ≠ w.heap.size + 1 + 1 := by omega
  go_wp2_with fail
  go_quiet (fail)
  go_wp2_with fail
  go_region
  all_goals
    go_wp2_with fail
    exact bodyPost_ret (v := .tuple #[zeroItem, .agg #[.int .i64 (q : Nat), .int .i64 (23 : Nat)]]) (by simp [results, Tryd.results46, go_sem, zeroItem, c0, c1, c2, c3, c4, c5]) rfl
      (HM.out.err (off6 ((Off.refl _ _).drewN _) _ _ _ _ _ _) HR.out (by decide))

end Go.Proofs.YtakdfjkkeilffaaDoor
