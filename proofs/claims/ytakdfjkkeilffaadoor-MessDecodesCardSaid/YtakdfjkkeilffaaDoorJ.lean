/- Lists are read: the walk. -/
import Derived.Test.YtakdfjkkeilffaaDoorI
import Derived.Test.YtakdfjkkeilffaaDoorN
set_option linter.unusedVariables false
set_option linter.unusedSimpArgs false
namespace Go.Proofs.YtakdfjkkeilffaaDoor
open Go.RowKit

theorem Row3.bad {rb : Nat} {b : ByteArray} {base : Nat} {w W w1 : World} {q : Nat} {p' : Int} {V : Value} {xs : List It} {vs : List Value} (h : Row3 rb b base w W q V xs vs) (hg : W.grownBy w1 (some rb)) (hrd : w1.heap[rb]? = some (.cells (readCells b p') 86 (0, 0))) (c1 c2 : Array Value) :
    w.grownBy ((w1.alloc (.cells c1 57)).alloc (.cells c2 31)) (some rb) ∧ ((w1.alloc (.cells c1 57)).alloc (.cells c2 31)).heap[rb]? = some (.cells (readCells b p') 86 (0, 0)) ∧
    ((w1.alloc (.cells c1 57)).alloc (.cells c2 31)).heap[w.heap.size]? = some (.cells #[.int .i64 0, .int .u64 0, .string ⟨#[]⟩, .slice none 0 0] 57 (0, 0)) ∧
    ((w1.alloc (.cells c1 57)).alloc (.cells c2 31)).heap[w.heap.size + 1]? = some (.cells #[.int .i64 0, .int .i64 0] 31 (0, 0)) ∧
    ((w1.alloc (.cells c1 57)).alloc (.cells c2 31)).heap[w1.heap.size + 1]? = some (.cells c2 31 (0, 0)) ∧ w.heap.size + 1 + 1 < w1.heap.size := by
  obtain ⟨o1, o2, o3⟩ := h.old
  have hs := hg.size
  have old : ∀ k, k < w1.heap.size → ((w1.alloc (.cells c1 57)).alloc (.cells c2 31)).heap[k]? = w1.heap[k]? := fun k hk => by
    rw [Below.heap_alloc _ _ _ (by simp; omega), Below.heap_alloc _ _ _ hk]
  refine ⟨⟨hg.os.trans h.grown.os, hg.tape.trans h.grown.tape, hg.output.trans h.grown.output, by simp; have := h.grown.size; omega, fun k hk hne => ?_⟩, ?_, ?_, ?_, ?_, by omega⟩
  · rw [old k (by omega), hg.block k (by omega) hne]; exact h.grown.block k hk hne
  · rw [old rb (by omega)]; exact hrd
  · rw [old _ (by omega), hg.block _ (by omega) (by simp; omega)]; exact h.z0
  · rw [old _ (by omega), hg.block _ (by omega) (by simp; omega)]; exact h.z1
  · have e : (w1.alloc (.cells c1 57)).heap.size = w1.heap.size + 1 := by simp
    rw [← e]; exact heap_alloc_new _ _

theorem Row3.slot {rb : Nat} {b : ByteArray} {base : Nat} {w W w1 : World} {q : Nat} {V : Value} {xs : List It} {vs : List Value} (h : Row3 rb b base w W q V xs vs) (hg : W.grownBy w1 (some rb)) (o1 o2 : Obj) :
    ((w1.alloc o1).alloc o2).heap[w.heap.size + 1 + 1]? = some (.cells #[.int .i64 3, .int .u64 0, .string ⟨#[]⟩, V] 57 (0, 0)) := by
  obtain ⟨a1, a2, a3⟩ := h.old
  have hs := hg.size
  rw [Below.heap_alloc _ _ _ (by simp; omega), Below.heap_alloc _ _ _ (by omega), hg.block _ (by omega) (by simp; omega)]; exact h.z2
theorem Row3.slot2 {rb : Nat} {b : ByteArray} {base : Nat} {w W w1 w2 : World} {q : Nat} {V : Value} {xs : List It} {vs : List Value} (h : Row3 rb b base w W q V xs vs) (hg : W.grownBy w1 (some rb)) {o1 o2 o3 : Obj} (hgr : (((w1.alloc o1).alloc o2).alloc o3).grownBy w2 V.ownBlock) :
    w2.heap[w.heap.size + 1 + 1]? = some (.cells #[.int .i64 3, .int .u64 0, .string ⟨#[]⟩, V] 57 (0, 0)) := by
  obtain ⟨a1, a2, a3⟩ := h.old
  have hs := hg.size
  have hlo := h.lo
  have hne : some (w.heap.size + 1 + 1) ≠ V.ownBlock := by
    intro e
    rcases h.row.2 with ⟨rfl, _⟩ | ⟨g', cap', cur, rfl, h2, h3, _⟩
    · simp [Value.ownBlock] at e
    · simp [Value.ownBlock] at e; omega
  rw [hgr.block _ (by simp; omega) hne, Below.heap_alloc _ _ _ (by simp; omega)]; exact h.slot hg o1 o2
theorem news4t (w : World) (o1 o2 : Obj) (x0 x1 x2 x3 : Value) (ty : TypeId) : ∀ (j : Nat) (u : Value), [x0, x1, x2, x3][j]? = some u → (((w.alloc o1).alloc o2).alloc (.cells #[x0, x1, x2, x3] ty)).cell? ((⟨w.heap.size + 2, 0, none⟩ : Addr).add j) = some u := fun j u hj => by
  have := news4 ((w.alloc o1).alloc o2) x0 x1 x2 x3 ty j u hj
  rwa [show ((w.alloc o1).alloc o2).heap.size = w.heap.size + 2 from by simp] at this
theorem HoldsP.one {S : Nat → Prop} {w : World} {v0 v1 v2 v3 : Value} {x : It} (h : HoldsP S w v0 v1 v2 v3 x) : ∀ u ∈ [v0, v1, v2, v3], u.oneCell' = true := by
  obtain ⟨k, n, s, A, m, c, rfl, rfl, rfl, rfl⟩ := h.shape
  intro u hu
  simp at hu
  rcases hu with rfl | rfl | rfl | rfl <;> rfl
theorem Row3.row3 {rb : Nat} {b : ByteArray} {base : Nat} {w W w1 : World} {q : Nat} {V : Value} {xs : List It} {vs : List Value} (h : Row3 rb b base w W q V xs vs) (hg : W.grownBy w1 (some rb)) (o1 o2 o3 : Obj) : (((w1.alloc o1).alloc o2).alloc o3).ownsRow base 57 4 V xs.length vs := by
  have hr := h.row
  have hlt := h.lt
  have hlo := h.lo
  have h1 : w1.ownsRow base 57 4 V xs.length vs := by
    refine ⟨hr.1, ?_⟩
    rcases hr.2 with hn | ⟨g, cap, cur, e1, e2, e3, e4⟩
    · exact .inl hn
    · exact .inr ⟨g, cap, cur, e1, e2, (hg.block g (lt_of_block e3) (by simp; omega)).trans e3, e4⟩
  exact ((h1.alloc _).alloc _).alloc _

theorem Row3.form {rb : Nat} {b : ByteArray} {base : Nat} {w W : World} {q : Nat} {V : Value} {xs : List It} {vs : List Value} (h : Row3 rb b base w W q V xs vs) : ∃ A l c, V = .slice A l c := by
  rcases h.row.2 with ⟨rfl, _⟩ | ⟨g', cap', cur, rfl, _⟩
  · exact ⟨_, _, _, rfl⟩
  · exact ⟨_, _, _, rfl⟩
theorem Row3.done {rb : Nat} {b : ByteArray} {base : Nat} {w W W2 : World} {q : Nat} {V : Value} {xs : List It} {vs : List Value} (h : Row3 rb b base w W q V xs vs) (ho : Off (outB w.heap.size) W W2) {r : Except (Nat × Nat) (It × Nat)} (hr : r = .ok (.mk 3 0 ⟨#[]⟩ xs, q)) (hn : xs.length ≤ 16384) :
    RdPost rb b w r (.returned (.tuple #[.agg #[.int .i64 3, .int .u64 0, .string ⟨#[]⟩, V], .agg #[.int .i64 0, .int .i64 0]])) W2 := by
  subst hr
  obtain ⟨a1, a2, a3⟩ := h.old
  refine ⟨ho.grown h.grown (fun g hg hlt => by unfold outB at hg; omega), _, _, _, _, rfl, h.item ho hn, ?_, h.qb⟩
  exact (ho.block rb (by unfold outB; omega) (lt_of_block h.rd)).trans h.rd

set_option maxRecDepth 100000 in
set_option maxHeartbeats 1600000 in
theorem read_three_far (d : Int) (rb : Nat) (b : ByteArray) (p k n m : Nat) (w : World) (r : Except (Nat × Nat) (It × Nat)) (hd8 : d ≤ 8) (hb : b.size ≤ 262144) (hlp : p < b.size) (h : w.heap[rb]? = some (.cells (readCells b p) 86 (0, 0)))
    (hk : k = b[p].toNat) (hkv : k = 3) (hpn : pn 0 0 (rest b (p + 1)) = (0, n, m)) (htoo : 16384 < n) (hr : r = .error (p + 1, 2)) :
    Calls Tryd.prog 46 #[.pointer (some ⟨rb, 0, none⟩), .int .i64 d] w (RdPost rb b w r) := by
  have hlt := lt_of_block h
  have hend : ¬ b.size ≤ p := by omega
  obtain ⟨al2, al3, r0, r1, r3, f3⟩ := reads h
  obtain ⟨hnum, hmid⟩ := pre_any (k := k) hb hlp h
  have HNUM := Lib.hid hnum
  have HMID := Lib.hid hmid
  have HPN := Lib.hid hpn
  have hkl : k < 256 := by rw [hk]; exact b[p].toNat_lt
  have e0 : wrap64 ((b[p].toNat : Nat) : Int) = (k : Int) := by rw [← hk]; unfold wrap64; omega
  have hk1 : ¬ (k : Int) < 1 := by omega
  have hk3 : ¬ 3 < (k : Int) := by omega
  obtain ⟨hn64, hm1, hm2⟩ := pn_bounds _ _ _ _ _ hpn (by omega) (by omega)
  have hmb : p + 1 + m ≤ b.size := by simp [rest] at hm2; omega
  clear hnum hmid hpn h hm2 al2 al3
  obtain ⟨q, hq⟩ : ∃ q, q = p + 1 + m := ⟨_, rfl⟩
  rw [← hq] at hmb
  have HQ := Lib.hid hq
  have HR := Lib.hid hr
  have htoo2 : (16384 : Int) < (n : Int) := by omega
  have q1 : (((k : Nat) : Int) == 1) = false := by rw [hkv]; rfl
  have q2 : (((k : Nat) : Int) == 2) = false := by rw [hkv]; rfl
  have hpb : p ≤ 262144 := by omega
  clear hk hkv hq hr htoo
  go_enter Tryd.func46, Tryd.ntmps46
  go_upto_region 11 with (go_at_call 68; refine HNUM.out.mono ?_; rintro e w1 hpost; obtain ⟨rfl, hgr, hrb1⟩ := num_good hpost HPN.out; have hmid2 := HMID.out w1 (q : Int) #[.int .i64 0, .int .i64 0] hgr (by rw [HQ.out]; exact hrb1); have HM2 := Lib.hid hmid2; clear hmid2 hpost hgr hrb1)
  obtain ⟨W4, hW4⟩ : ∃ W4, W4 = w1.alloc (.cells #[.int .i64 0, .int .i64 0] 31) := ⟨_, rfl⟩
  obtain ⟨fb, hfb⟩ : ∃ fb, fb = w1.heap.size := ⟨_, rfl⟩
  have HM : Hid (Mid rb b w W4 (q : Int) #[.int .i64 k, .int .u64 0, .string ⟨#[]⟩, .slice none 0 0] #[.int .i64 0, .int .i64 0] fb) := by
    show Mid _ _ _ _ _ _ _ _
    rw [hW4, hfb]
    exact HM2.out
  rw [← hW4, ← hfb]
  clear hW4 hfb HM2 HMID HNUM
  obtain ⟨g0, g1, g2⟩ := HM.out.reader
  obtain ⟨c0, c1, c2, c3, c4, c5⟩ := HM.out.outs
  obtain ⟨f0, f1, f2⟩ := HM.out.free
  have t0 : W4.cell? ⟨fb, 0, none⟩ = some (.int .i64 0) := HM.out.fault 0
  have t1 : W4.cell? ⟨fb, 1, none⟩ = some (.int .i64 0) := HM.out.fault 1
  have x0 : W4.cell? ⟨w.heap.size + 1 + 1, 0, none⟩ = some (.int .i64 k) := HM.out.item 0
  have x1 : W4.cell? ⟨w.heap.size + 1 + 1, 1, none⟩ = some (.int .u64 0) := HM.out.item 1
  have x2 : W4.cell? ⟨w.heap.size + 1 + 1, 2, none⟩ = some (.string ⟨#[]⟩) := HM.out.item 2
  have x3 : W4.cell? ⟨w.heap.size + 1 + 1, 3, none⟩ = some (.slice none 0 0) := HM.out.item 3
  have hfbge := HM.out.fbge
  have n1 : fb ≠ w.heap.size := by omega
  have n2 : fb ≠ w.heap.size + 1 := by omega
  have n3 : fb ≠ w.heap.size + 1 + 1 := by omega
  go_wp2_with fail
  exact bodyPost_ret (v := .tuple #[zeroItem, .agg #[.int .i64 ((p + 1 : Nat) : Int), .int .i64 (2 : Nat)]]) (by simp [results, Tryd.results46, go_sem, zeroItem, c0, c1, c2, c3, c4, c5]) rfl
    (HM.out.err (off6 (Off.refl _ _) _ _ _ _ _ _) HR.out (by decide))

set_option maxRecDepth 100000 in
set_option maxHeartbeats 1600000 in
theorem read_three_ok (d : Int) (rb : Nat) (b : ByteArray) (p k n m : Nat) (w : World) (r : Except (Nat × Nat) (It × Nat)) (hd8 : d ≤ 8) (hb : b.size ≤ 262144) (hlp : p < b.size) (h : w.heap[rb]? = some (.cells (readCells b p) 86 (0, 0)))
    (hk : k = b[p].toNat) (hkv : k = 3) (hpn : pn 0 0 (rest b (p + 1)) = (0, n, m)) (hd1 : 1 ≤ d) (htoo : ¬ 16384 < n) (rd : Nat → Except (Nat × Nat) (It × Nat))
    (ih : ∀ (q : Nat) (w : World), q ≤ b.size → w.heap[rb]? = some (.cells (readCells b q) 86 (0, 0)) → Calls Tryd.prog 46 #[.pointer (some ⟨rb, 0, none⟩), .int .i64 (d + 1)] w (RdPost rb b w (rd q)))
    (hr : r = match psMany rd n (p + 1 + m) with | .error e => .error e | .ok (l, q) => .ok (.mk 3 0 ⟨#[]⟩ l, q)) :
    Calls Tryd.prog 46 #[.pointer (some ⟨rb, 0, none⟩), .int .i64 d] w (RdPost rb b w r) := by
  have hlt := lt_of_block h
  have hend : ¬ b.size ≤ p := by omega
  obtain ⟨al2, al3, r0, r1, r3, f3⟩ := reads h
  obtain ⟨hnum, hmid⟩ := pre_any (k := k) hb hlp h
  have HNUM := Lib.hid hnum
  have HMID := Lib.hid hmid
  have HPN := Lib.hid hpn
  have hkl : k < 256 := by rw [hk]; exact b[p].toNat_lt
  have e0 : wrap64 ((b[p].toNat : Nat) : Int) = (k : Int) := by rw [← hk]; unfold wrap64; omega
  have hk1 : ¬ (k : Int) < 1 := by omega
  have hk3 : ¬ 3 < (k : Int) := by omega
  obtain ⟨hn64, hm1, hm2⟩ := pn_bounds _ _ _ _ _ hpn (by omega) (by omega)
  have hmb : p + 1 + m ≤ b.size := by simp [rest] at hm2; omega
  clear hnum hmid hpn h hm2 al2 al3
  obtain ⟨q, hq⟩ : ∃ q, q = p + 1 + m := ⟨_, rfl⟩
  rw [← hq] at hmb
  have HQ := Lib.hid hq
  have HR : Hid (r = match psMany rd n q with | .error e => .error e | .ok (l, q) => .ok (.mk 3 0 ⟨#[]⟩ l, q)) := by show r = _; rw [hq]; exact hr
  have IH := Lib.hid ih
  have htoo2 : ¬ (16384 : Int) < (n : Int) := by omega
  have q1 : (((k : Nat) : Int) == 1) = false := by rw [hkv]; rfl
  have q2 : (((k : Nat) : Int) == 2) = false := by rw [hkv]; rfl
  have HK3 := Lib.hid hkv
  clear hk hkv hq hr ih
  go_enter Tryd.func46, Tryd.ntmps46
  go_upto_region 11 with (go_at_call 68; refine HNUM.out.mono ?_; rintro e w1 hpost; obtain ⟨rfl, hgr, hrb1⟩ := num_good hpost HPN.out; have hmid2 := HMID.out w1 (q : Int) #[.int .i64 0, .int .i64 0] hgr (by rw [HQ.out]; exact hrb1); have HM2 := Lib.hid hmid2; clear hmid2 hpost hgr hrb1)
  obtain ⟨W4, hW4⟩ : ∃ W4, W4 = w1.alloc (.cells #[.int .i64 0, .int .i64 0] 31) := ⟨_, rfl⟩
  obtain ⟨fb, hfb⟩ : ∃ fb, fb = w1.heap.size := ⟨_, rfl⟩
  have HM : Hid (Mid rb b w W4 (q : Int) #[.int .i64 k, .int .u64 0, .string ⟨#[]⟩, .slice none 0 0] #[.int .i64 0, .int .i64 0] fb) := by
    show Mid _ _ _ _ _ _ _ _
    rw [hW4, hfb]
    exact HM2.out
  rw [← hW4, ← hfb]
  clear hW4 hfb HM2 HMID HNUM
  obtain ⟨g0, g1, g2⟩ := HM.out.reader
  obtain ⟨c0, c1, c2, c3, c4, c5⟩ := HM.out.outs
  obtain ⟨f0, f1, f2⟩ := HM.out.free
  have t0 : W4.cell? ⟨fb, 0, none⟩ = some (.int .i64 0) := HM.out.fault 0
  have t1 : W4.cell? ⟨fb, 1, none⟩ = some (.int .i64 0) := HM.out.fault 1
  have x0 : W4.cell? ⟨w.heap.size + 1 + 1, 0, none⟩ = some (.int .i64 k) := HM.out.item 0
  have x1 : W4.cell? ⟨w.heap.size + 1 + 1, 1, none⟩ = some (.int .u64 0) := HM.out.item 1
  have x2 : W4.cell? ⟨w.heap.size + 1 + 1, 2, none⟩ = some (.string ⟨#[]⟩) := HM.out.item 2
  have x3 : W4.cell? ⟨w.heap.size + 1 + 1, 3, none⟩ = some (.slice none 0 0) := HM.out.item 3
  have hfbge := HM.out.fbge
  have n1 : fb ≠ w.heap.size := by omega
  have n2 : fb ≠ w.heap.size + 1 := by omega
  have n3 : fb ≠ w.heap.size + 1 + 1 := by omega
  obtain ⟨base, hbase⟩ : ∃ base, base = W4.heap.size := ⟨_, rfl⟩
  have HROW : Hid (Row3 rb b base w W4 q (.slice none 0 0) [] []) := by
    have h := HM.out
    rw [HK3.out] at h
    rw [hbase]
    exact Row3.first h hmb
  clear hbase g0 g1 g2 c0 c1 c2 c3 c4 c5 f0 f1 f2 x1 x2 x3 HM
  obtain ⟨j0, hj0, hjz0, hjz1, hjz2⟩ := info_parts i57
  go_wp2_with fail
  clear t0 t1 x0
  go_loopw [78] (fun i wr => ∃ t qt : Nat, ∃ V xs vs, t ≤ n ∧ i = .int .u64 t ∧ xs.length = t ∧ Hid (Row3 rb b base w wr qt V xs vs) ∧ Hid (psMany rd n q = match psMany rd (n - t) qt with | .error e => .error e | .ok (l, e) => .ok (xs ++ l, e))) (fun i _ => n - (intOf i).toNat)
  case atStart =>
    refine ⟨0, q, _, _, _, by omega, rfl, rfl, HROW.out, ?_⟩
    show _ = _
    rw [Nat.sub_zero]
    cases psMany rd n q <;> rfl
  case round =>
    obtain ⟨t, qt, V, xs, vs, ht, rfl, hxl, HRW, HPS⟩ := hrel
    obtain ⟨wo, rfl⟩ : ∃ wo : World, wo = wr := ⟨_, rfl⟩
    obtain ⟨o1, o2, o3⟩ := HRW.out.old
    have hqb := HRW.out.qb
    by_cases htn : t < n
    · have HCALL := Lib.hid (IH.out qt wo HRW.out.qb HRW.out.rd)
      have hd2 : 1 ≤ d := hd1
      cases hrd : rd qt with
      | error ec =>
        obtain ⟨a, c⟩ := ec
        have HRE : Hid (r = .error (a, c)) := by
          show r = _
          have h := HPS.out
          rw [show n - t = (n - t - 1) + 1 from by omega] at h
          simp only [psMany, hrd] at h
          rw [HR.out, h]
        rw [hrd] at HCALL
        clear hrd
        go_wp2_with (go_at_call 46; refine HCALL.out.mono ?_; rintro e w1 ⟨hg1, rfl, hb1, hc⟩; unfold zeroItem; have HG1 := Lib.hid hg1; have HB1 := Lib.hid hb1; have HC := Lib.hid hc; have hcb : (((c : Nat) : Int) == 0) = false := (by simp; omega); clear hg1 hb1 hc)
        obtain ⟨W5, hW5⟩ : ∃ W5, W5 = (w1.alloc (.cells #[.int .i64 0, .int .u64 0, .string ⟨#[]⟩, .slice none 0 0] 57)).alloc (.cells #[.int .i64 a, .int .i64 c] 31) := ⟨_, rfl⟩
        obtain ⟨p', hp'⟩ := HB1.out
        obtain ⟨y1, y2, y3, y4, y5, y6⟩ := HRW.out.bad HG1.out hp' #[.int .i64 0, .int .u64 0, .string ⟨#[]⟩, .slice none 0 0] #[.int .i64 a, .int .i64 c]
        rw [← hW5] at y1 y2 y3 y4 y5
        rw [← hW5]
        have c0 := cell_of_row W5 w.heap.size 0 _ _ _ y3
        have c1 := cell_of_row W5 w.heap.size 1 _ _ _ y3
        have c2 := cell_of_row W5 w.heap.size 2 _ _ _ y3
        have c3 := cell_of_row W5 w.heap.size 3 _ _ _ y3
        have c4 := cell_of_row W5 (w.heap.size + 1) 0 _ _ _ y4
        have c5 := cell_of_row W5 (w.heap.size + 1) 1 _ _ _ y4
        have c6 := cell_of_row W5 (w1.heap.size + 1) 0 _ _ _ y5
        have c7 := cell_of_row W5 (w1.heap.size + 1) 1 _ _ _ y5
        have f0 : ∀ j, W5.frozen? ⟨w.heap.size, j, none⟩ = false := fun j => by simp only [World.frozen?, y3]; rfl
        have f1 : ∀ j, W5.frozen? ⟨w.heap.size + 1, j, none⟩ = false := fun j => by simp only [World.frozen?, y4]; rfl
        simp only [List.getElem?_toArray, List.getElem?_cons_zero, List.getElem?_cons_succ] at c0 c1 c2 c3 c4 c5 c6 c7
        have k1 : w.heap.size ≠ w1.heap.size + 1 := by omega
        have k2 : w.heap.size + 1 ≠ w1.heap.size + 1 := by omega
        have Y1 := Lib.hid y1
        have Y2 := Lib.hid y2
        clear hW5 y1 y2 y3 y4 y5 hp'
        go_region
        all_goals
          go_wp2_with fail
          exact bodyPost_ret (v := .tuple #[zeroItem, .agg #[.int .i64 a, .int .i64 c]]) (by simp [results, Tryd.results46, go_sem, zeroItem, c0, c1, c2, c3, c4, c5]) rfl
            (rd_err (p' := p') HRE.out ((off6 (Off.refl _ _) _ _ _ _ _ _).drew.grown Y1.out (fun g hg hl => by unfold outB at hg; omega)) (((off6 (Off.refl _ _) _ _ _ _ _ _).drew.block rb (by unfold outB; omega) (lt_of_block Y2.out)).trans Y2.out) HC.out)
      | ok xq =>
        obtain ⟨x, q'⟩ := xq
        have HPS2 : Hid (psMany rd n q = match psMany rd (n - (t + 1)) q' with | .error e => .error e | .ok (l, e) => .ok ((xs ++ [x]) ++ l, e)) := by
          show _ = _
          have h := HPS.out
          rw [show n - t = (n - (t + 1)) + 1 from by omega] at h
          simp only [psMany, hrd] at h
          rw [h]
          cases psMany rd (n - (t + 1)) q' with
          | error e => rfl
          | ok le => simp
        rw [hrd] at HCALL
        clear hrd HPS
        go_wp2_with (first
          | (go_at_call 46; refine HCALL.out.mono ?_; rintro e w1 ⟨hg1, v0, v1, v2, v3, rfl, hx, hb1, hqb1⟩; have HX := Lib.hid hx; obtain ⟨xk, xn, xt, xA, xm, xc, rfl, rfl, rfl, rfl⟩ := hx.shape; have HG1 := Lib.hid hg1; have HB1 := Lib.hid hb1; have hsl := HRW.out.slot hg1; have hV : ∀ o1 o2, ((w1.alloc o1).alloc o2).cell? ⟨w.heap.size + 1 + 1, 3, none⟩ = some V := (fun o1 o2 => (cell_of_row _ _ _ _ _ _ (hsl o1 o2)).trans rfl); clear hg1 hb1 hx hsl)
          | (at_builtin; refine wpList_append_lies _ rfl _ _ 55 rfl base 57 j0 zeroItem 4 56 t55 hj0 hjz0 hjz1 hjz2 rfl (by decide) V xs.length vs rfl (HRW.out.row3 HG1.out _ _ _) ⟨w1.heap.size + 2, 0, none⟩ 1 1 [.int .i64 xk, .int .u64 xn, .string xt, .slice xA xm xc] rfl rfl (news4t _ _ _ _ _ _ _ _) HX.out.one (by omega) (by unfold maxLen; omega) (by omega) (by have h1 := HRW.out.hi; have h2 := HG1.out.size; simp; omega) (w1.heap.size + 3) (by simp) ?_; intro g cap w2 hown hgrow hat hlt2; have hsl2 := HRW.out.slot2 HG1.out hgrow; have HN := Lib.hid (HRW.out.next HG1.out HX.out HB1.out hqb1 hown hgrow hat hlt2); have z3 : w2.cell? ⟨w.heap.size + 1 + 1, 3, none⟩ = some V := ((cell_of_row _ _ _ _ _ _ hsl2).trans rfl); have zf : w2.frozen? ⟨w.heap.size + 1 + 1, 3, none⟩ = false := (by simp only [World.frozen?, hsl2]; rfl); clear hown hgrow hat hlt2 hsl2))
        go_roundw
        case rel =>
          refine ⟨t + 1, q', _, xs ++ [x], _, by omega, by go_num, by simp [hxl], by have h := HN.out; rw [hxl] at h; exact h, HPS2.out⟩
        case measure => simp [intOf]; omega
    · obtain rfl : t = n := by omega
      have HRE : Hid (r = .ok (.mk 3 0 ⟨#[]⟩ xs, qt)) := by
        show r = _
        have h := HPS.out
        rw [Nat.sub_self] at h
        simp only [psMany, List.append_nil] at h
        rw [HR.out, h]
      obtain ⟨VA, VL, VC, rfl⟩ := HRW.out.form
      have y2 := HRW.out.z2
      have y3 := HRW.out.z0
      have y4 := HRW.out.z1
      have x0 := cell_of_row wo (w.heap.size + 1 + 1) 0 _ _ _ y2
      have x1 := cell_of_row wo (w.heap.size + 1 + 1) 1 _ _ _ y2
      have x2 := cell_of_row wo (w.heap.size + 1 + 1) 2 _ _ _ y2
      have x3 := cell_of_row wo (w.heap.size + 1 + 1) 3 _ _ _ y2
      have c0 := cell_of_row wo w.heap.size 0 _ _ _ y3
      have c1 := cell_of_row wo w.heap.size 1 _ _ _ y3
      have c2 := cell_of_row wo w.heap.size 2 _ _ _ y3
      have c3 := cell_of_row wo w.heap.size 3 _ _ _ y3
      have c4 := cell_of_row wo (w.heap.size + 1) 0 _ _ _ y4
      have c5 := cell_of_row wo (w.heap.size + 1) 1 _ _ _ y4
      have f0 : ∀ j, wo.frozen? ⟨w.heap.size, j, none⟩ = false := fun j => by simp only [World.frozen?, y3]; rfl
      have f1 : ∀ j, wo.frozen? ⟨w.heap.size + 1, j, none⟩ = false := fun j => by simp only [World.frozen?, y4]; rfl
      simp only [List.getElem?_toArray, List.getElem?_cons_zero, List.getElem?_cons_succ] at x0 x1 x2 x3 c0 c1 c2 c3 c4 c5
      clear y2 y3 y4
      go_wp2_with fail
      exact bodyPost_ret (v := .tuple #[.agg #[.int .i64 3, .int .u64 0, .string ⟨#[]⟩, .slice VA VL VC], .agg #[.int .i64 0, .int .i64 0]]) (by simp [results, Tryd.results46, go_sem, c0, c1, c2, c3, c4, c5, x0, x1, x2, x3]) rfl
        (HRW.out.done (off6 (Off.refl _ _) _ _ _ _ _ _) HRE.out (by omega))

end Go.Proofs.YtakdfjkkeilffaaDoor
