/- Matrices and messages are compared. -/
import Derived.Test.YtakdfjkkeilffaaDoorNb
set_option linter.unusedVariables false
set_option linter.unusedSimpArgs false
namespace Go.Proofs.YtakdfjkkeilffaaDoor
open Go.RowKit

/-- a message's cells, one by one -/
theorem mcells_at2 {m : Msg} {a b c : Value} {W : World} {mb : Nat} (h : W.heap[mb]? = some (.cells (mcells m a b c) 46 (0, 0))) :
    W.cell? ⟨mb, 0, none⟩ = some (.int .i64 m.kind) ∧ W.cell? ⟨mb, 1, none⟩ = some (.int .i64 m.n0) ∧ W.cell? ⟨mb, 2, none⟩ = some (.int .i64 m.n1) ∧ W.cell? ⟨mb, 3, none⟩ = some (.int .i64 m.n2) ∧ W.cell? ⟨mb, 4, none⟩ = some (.int .i64 m.n3) ∧ W.cell? ⟨mb, 5, none⟩ = some (.int .i64 m.n4) ∧ W.cell? ⟨mb, 6, none⟩ = some (.int .i64 m.n5) ∧ W.cell? ⟨mb, 7, none⟩ = some (.int .i64 m.n6) ∧ W.cell? ⟨mb, 8, none⟩ = some a ∧ W.cell? ⟨mb, 9, none⟩ = some b ∧ W.cell? ⟨mb, 10, none⟩ = some c := by
  refine ⟨?_, ?_, ?_, ?_, ?_, ?_, ?_, ?_, ?_, ?_, ?_⟩ <;> (rw [cell_of_row _ _ _ _ _ _ h]; rfl)
instance matDec : DecidableEq Mat := fun a b =>
  if h : a.lv = b.lv ∧ a.ce = b.ce ∧ a.ep = b.ep ∧ a.d = b.d then isTrue (by cases a; cases b; simp_all) else isFalse (by rintro rfl; exact h ⟨rfl, rfl, rfl, rfl⟩)
instance msgDec : DecidableEq Msg := fun a b =>
  if h : a.kind = b.kind ∧ (a.n0 = b.n0 ∧ a.n1 = b.n1 ∧ a.n2 = b.n2 ∧ a.n3 = b.n3 ∧ a.n4 = b.n4 ∧ a.n5 = b.n5 ∧ a.n6 = b.n6) ∧ a.ws = b.ws ∧ a.ms = b.ms ∧ a.ds = b.ds then isTrue (by cases a; cases b; simp_all) else isFalse (by rintro rfl; exact h ⟨rfl, ⟨rfl, rfl, rfl, rfl, rfl, rfl, rfl⟩, rfl, rfl, rfl⟩)
theorem al2' (W : World) (o1 o2 : Obj) : Below W.heap.size W ((W.alloc o1).alloc o2) := (below_al _ _).alloc (by simp) _
theorem call61 : Callable Tryd.prog 61 := ⟨_, Tryd.func61, by kernel_rfl, by kernel_rfl⟩
theorem toI_inj {a b : List Nat} (h : toI a = toI b) : a = b := by
  unfold toI at h
  exact (List.map_inj_right (fun x y h => Int.ofNat.inj h)).1 h

set_option maxRecDepth 100000 in
set_option maxHeartbeats 1600000 in
theorem same61_any (y1 y2 : Mat) (F1 F2 : Value) (w : World) (h1 : Nums w .u64 F1 (toI y1.d)) (h2 : Nums w .u64 F2 (toI y2.d)) :
    Calls Tryd.prog 61 #[.agg #[.int .i64 y1.lv, .int .i64 y1.ce, .int .i64 y1.ep, F1], .agg #[.int .i64 y2.lv, .int .i64 y2.ce, .int .i64 y2.ep, F2]] w fun e w' => e = .returned (.bool (decide (y1 = y2))) ∧ Below w.heap.size w w' := by
  obtain ⟨A1, L1, C1, ha⟩ : ∃ A l c, F1 = .slice A l c := by obtain ⟨A, c, e⟩ := h1.form; exact ⟨A, _, c, e⟩
  obtain ⟨A2, L2, C2, hb⟩ : ∃ A l c, F2 = .slice A l c := by obtain ⟨A, c, e⟩ := h2.form; exact ⟨A, _, c, e⟩
  subst ha hb
  have HC := Lib.hid (same41_any _ _ _ _ ((w.alloc (.cells #[.int .i64 y1.lv, .int .i64 y1.ce, .int .i64 y1.ep, .slice A1 L1 C1] 80)).alloc (.cells #[.int .i64 y2.lv, .int .i64 y2.ce, .int .i64 y2.ep, .slice A2 L2 C2] 80)) (h1.later (al2' _ _ _)) (h2.later (al2' _ _ _)))
  have hb0 : Below w.heap.size w ((w.alloc (.cells #[.int .i64 y1.lv, .int .i64 y1.ce, .int .i64 y1.ep, .slice A1 L1 C1] 80)).alloc (.cells #[.int .i64 y2.lv, .int .i64 y2.ce, .int .i64 y2.ep, .slice A2 L2 C2] 80)) := al2' _ _ _
  have HB0 := Lib.hid hb0
  clear h1 h2 hb0
  have HD : Hid (decide (y1 = y2) = (decide (y1.lv = y2.lv) && (decide (y1.ce = y2.ce) && (decide (y1.ep = y2.ep) && decide (toI y1.d = toI y2.d))))) := by
    show _ = _
    rw [← Bool.decide_and, ← Bool.decide_and, ← Bool.decide_and]
    refine decide_eq_decide.2 ⟨fun h => by subst h; exact ⟨rfl, rfl, rfl, rfl⟩, fun ⟨e1, e2, e3, e4⟩ => ?_⟩
    have e5 := toI_inj e4
    cases y1; cases y2; simp_all
  rw [HD.out]
  obtain ⟨a1, b1, c1, d1⟩ := y1
  obtain ⟨a2, b2, c2, d2⟩ := y2
  simp only at HC HB0
  obtain ⟨r, hr⟩ : ∃ r, r = decide (toI d1 = toI d2) := ⟨_, rfl⟩
  simp only [← hr]
  rw [← hr] at HC
  clear hr HD
  by_cases k1 : a1 = a2
  · subst k1
    by_cases k2 : b1 = b2
    · subst k2
      by_cases k3 : c1 = c2
      · subst k3
        go_enter Tryd.func61, Tryd.ntmps61
        go_wp2_with (go_at_call 41; refine HC.out.mono ?_; rintro e w1 ⟨rfl, hb1⟩; have HB1 := Lib.hid (below_then HB0.out hb1); clear hb1)
        go_ret
        exact ⟨by simp, HB1.out⟩
      · have e3 : (c1 == c2) = false := beq_false_of_ne k3
        go_enter Tryd.func61, Tryd.ntmps61
        go_wp2_with fail
        go_ret
        exact ⟨by simp [k3], HB0.out⟩
    · have e2 : (b1 == b2) = false := beq_false_of_ne k2
      go_enter Tryd.func61, Tryd.ntmps61
      go_wp2_with fail
      go_ret
      exact ⟨by simp [k2], HB0.out⟩
  · have e1 : (a1 == a2) = false := beq_false_of_ne k1
    go_enter Tryd.func61, Tryd.ntmps61
    go_wp2_with fail
    go_ret
    exact ⟨by simp [k1], HB0.out⟩

set_option maxRecDepth 100000 in
set_option maxHeartbeats 1600000 in
theorem same40_any (v1 v2 : Value) (l1 l2 : List Mat) (w : World) (h1 : Mats w v1 l1) (h2 : Mats w v2 l2) : Calls Tryd.prog 40 #[v1, v2] w fun e w' => e = .returned (.bool (decide (l1 = l2))) ∧ Below w.heap.size w w' := by
  obtain ⟨hl1, _, A1, c1, rfl, F1, hA1, hF1⟩ := h1
  obtain ⟨hl2, _, A2, c2, rfl, F2, hA2, hF2⟩ := h2
  by_cases hlen : l1.length = l2.length
  · obtain ⟨n, hn⟩ : ∃ n, n = l1.length := ⟨_, rfl⟩
    have hn2 : l2.length = n := by omega
    have HA1 := Lib.hid hA1
    have HA2 := Lib.hid hA2
    have HF1 := Lib.hid hF1
    have HF2 := Lib.hid hF2
    clear hA1 hA2 hF1 hF2
    rw [hn2] at hl2
    rw [← hn] at hl1
    rw [hn2, ← hn]
    have HN := Lib.hid hn
    have HN2 := Lib.hid hn2
    clear hn hn2 hlen
    go_enter Tryd.func40, Tryd.ntmps40
    go_wp2
    go_loopw [5] (fun i wr => ∃ k : Nat, k ≤ n ∧ i = .int .i64 k ∧ Hid (l1.take k = l2.take k) ∧ Hid (Below w.heap.size w wr)) (fun i _ => n - (intOf i).toNat)
    case atStart => exact ⟨0, by omega, rfl, by show _ = _; simp, Below.refl _ _⟩
    case round =>
      obtain ⟨k, hk, rfl, HT, HB⟩ := hrel
      obtain ⟨wo, rfl⟩ : ∃ wo : World, wo = wr := ⟨_, rfl⟩
      have hso := HB.out.size
      by_cases hlt : k < n
      · have hk1 : k < l1.length := by have := HN.out; omega
        have hk2 : k < l2.length := by have := HN2.out; omega
        obtain ⟨g1, o1, rfl, hc1⟩ := HA1.out (by omega)
        obtain ⟨g2, o2, rfl, hc2⟩ := HA2.out (by omega)
        obtain ⟨d0, d1, d2, d3⟩ := hc1 k hk1
        obtain ⟨f0, f1, f2, f3⟩ := hc2 k hk2
        replace d0 := (HB.out.cell (World.block_lt_of_cell? w _ d0)).trans d0
        replace d1 := (HB.out.cell (World.block_lt_of_cell? w _ d1)).trans d1
        replace d2 := (HB.out.cell (World.block_lt_of_cell? w _ d2)).trans d2
        replace d3 := (HB.out.cell (World.block_lt_of_cell? w _ d3)).trans d3
        replace f0 := (HB.out.cell (World.block_lt_of_cell? w _ f0)).trans f0
        replace f1 := (HB.out.cell (World.block_lt_of_cell? w _ f1)).trans f1
        replace f2 := (HB.out.cell (World.block_lt_of_cell? w _ f2)).trans f2
        replace f3 := (HB.out.cell (World.block_lt_of_cell? w _ f3)).trans f3
        obtain ⟨y1, hy1⟩ : ∃ y1, y1 = l1[k] := ⟨_, rfl⟩
        obtain ⟨y2, hy2⟩ : ∃ y2, y2 = l2[k] := ⟨_, rfl⟩
        have n1 := (HF1.out k hk1).later HB.out
        have n2 := (HF2.out k hk2).later HB.out
        rw [← hy1] at d0 d1 d2 n1
        rw [← hy2] at f0 f1 f2 n2
        have HC : Hid (∀ q, Calls Tryd.prog 61 #[.agg #[.int .i64 y1.lv, .int .i64 y1.ce, .int .i64 y1.ep, F1 k], .agg #[.int .i64 y2.lv, .int .i64 y2.ce, .int .i64 y2.ep, F2 k]] (wo.drewN q) fun e w' => e = .returned (.bool (decide (y1 = y2))) ∧ Below wo.heap.size wo w') := fun q =>
          (same61_any y1 y2 (F1 k) (F2 k) (wo.drewN q) (n1.later (below_drewN (Below.refl _ _) _)) (n2.later (below_drewN (Below.refl _ _) _))).mono fun e w' ⟨he, hb⟩ => ⟨he, ⟨hb.os, hb.tape, hb.output, hb.size, hb.block⟩⟩
        obtain ⟨r, hr⟩ : ∃ r, r = decide (y1 = y2) := ⟨_, rfl⟩
        rw [← hr] at HC
        have HT2 : Hid (r = true → l1.take (k + 1) = l2.take (k + 1)) := by
          intro h
          rw [hr] at h
          rw [List.take_succ_eq_append_getElem hk1, List.take_succ_eq_append_getElem hk2, HT.out, ← hy1, ← hy2, of_decide_eq_true h]
        have HNE : Hid (r = false → decide (l1 = l2) = false) := by
          intro h
          rw [hr] at h
          refine decide_eq_false fun h2 => of_decide_eq_false h ?_
          rw [hy1, hy2]
          simp only [h2]
        obtain ⟨G1, M1, K1, e1⟩ : ∃ A l c, F1 k = .slice A l c := by obtain ⟨A, c, e⟩ := n1.form; exact ⟨A, _, c, e⟩
        obtain ⟨G2, M2, K2, e2⟩ : ∃ A l c, F2 k = .slice A l c := by obtain ⟨A, c, e⟩ := n2.form; exact ⟨A, _, c, e⟩
        rw [e1] at d3 HC
        rw [e2] at f3 HC
        clear hc1 hc2 hr hy1 hy2 n1 n2 e1 e2
        obtain ⟨a1, b1, c1, _⟩ := y1
        obtain ⟨a2, b2, c2, _⟩ := y2
        simp only at d0 d1 d2 f0 f1 f2 HC
        cases r
        · have HNE2 := Lib.hid (HNE.out rfl)
          clear HNE HT2
          go_wp2_with fail
          go_region_law (refine step_call rfl 61 call61 #[.tmp 20, .tmp 24] #[80, 80] rfl #[.agg #[.int .i64 a1, .int .i64 b1, .int .i64 c1, .slice G1 M1 K1], .agg #[.int .i64 a2, .int .i64 b2, .int .i64 c2, .slice G2 M2 K2]] (by simp [Act.eval, Act.put]) ?_; refine (HC.out 1).mono ?_; rintro e w1 ⟨rfl, hb1⟩; have HB1 := Lib.hid (HB.out.trans (hb1.mono hso)); clear hb1; refine ⟨_, rfl, ?_⟩)
          all_goals
            go_wp2_with fail
            go_ret
            exact ⟨by rw [HNE2.out]; rfl, HB1.out⟩
        · have HT3 := Lib.hid (HT2.out rfl)
          clear HNE HT2
          go_wp2_with fail
          go_region_law (refine step_call rfl 61 call61 #[.tmp 20, .tmp 24] #[80, 80] rfl #[.agg #[.int .i64 a1, .int .i64 b1, .int .i64 c1, .slice G1 M1 K1], .agg #[.int .i64 a2, .int .i64 b2, .int .i64 c2, .slice G2 M2 K2]] (by simp [Act.eval, Act.put]) ?_; refine (HC.out 1).mono ?_; rintro e w1 ⟨rfl, hb1⟩; have HB1 := Lib.hid (HB.out.trans (hb1.mono hso)); clear hb1; refine ⟨_, rfl, ?_⟩)
          all_goals
            go_wp2_with fail
            go_roundw
            case rel => exact ⟨k + 1, by omega, by go_num, HT3.out, HB1.out⟩
            case measure => simp [intOf]; omega
      · obtain rfl : k = n := by omega
        go_wp2_with fail
        go_ret
        refine ⟨?_, HB.out⟩
        have h := HT.out
        rw [List.take_of_length_le (by have := HN.out; omega), List.take_of_length_le (by have := HN2.out; omega)] at h
        rw [decide_eq_true h]; rfl
  · have HNE : Hid (decide (l1 = l2) = false) := by
      show _ = _
      refine decide_eq_false fun h => hlen (by rw [h])
    have hb1 : (((l1.length : Nat) : Int) == ((l2.length : Nat) : Int)) = false := by simp; omega
    have hb2 : (((l1.length : Nat) : Int) != ((l2.length : Nat) : Int)) = true := by simp; omega
    clear hA1 hA2 hlen hF1 hF2
    go_enter Tryd.func40, Tryd.ntmps40
    go_wp2_with fail
    go_ret
    exact ⟨by rw [HNE.out]; rfl, Below.refl _ _⟩

/-- Msg equality, field by field -/
theorem msg_eq (m1 m2 : Msg) : decide (m1 = m2) = (decide (m1.kind = m2.kind) && (decide (m1.n0 = m2.n0) && (decide (m1.n1 = m2.n1) && (decide (m1.n2 = m2.n2) && (decide (m1.n3 = m2.n3) && (decide (m1.n4 = m2.n4) && (decide (m1.n5 = m2.n5) && (decide (m1.n6 = m2.n6) && (decide (toI m1.ws = toI m2.ws) && (decide (m1.ms = m2.ms) && decide (toI m1.ds = toI m2.ds))))))))))) := by
  repeat rw [← Bool.decide_and]
  refine decide_eq_decide.2 ⟨fun h => by subst h; exact ⟨rfl, rfl, rfl, rfl, rfl, rfl, rfl, rfl, rfl, rfl, rfl⟩, fun ⟨e0, e1, e2, e3, e4, e5, e6, e7, e8, e9, e10⟩ => ?_⟩
  have k8 := toI_inj e8
  have k10 := toI_inj e10
  cases m1; cases m2; simp_all

set_option maxRecDepth 100000 in
set_option maxHeartbeats 3200000 in
theorem same22_any (m1 m2 : Msg) (a1 b1 c1 a2 b2 c2 : Value) (w : World) (h1 : MsgIn w a1 b1 c1 m1) (h2 : MsgIn w a2 b2 c2 m2) :
    Calls Tryd.prog 22 #[.agg (mcells m1 a1 b1 c1), .agg (mcells m2 a2 b2 c2)] w fun e w' => e = .returned (.bool (decide (m1 = m2))) ∧ Below w.heap.size w w' := by
  obtain ⟨A1, L1, C1, ea1⟩ : ∃ A l c, a1 = .slice A l c := by obtain ⟨A, c, e⟩ := h1.ws.form; exact ⟨A, _, c, e⟩
  obtain ⟨A2, L2, C2, eb1⟩ : ∃ A l c, b1 = .slice A l c := by obtain ⟨A, c, e⟩ := h1.ms.form; exact ⟨A, _, c, e⟩
  obtain ⟨A3, L3, C3, ec1⟩ : ∃ A l c, c1 = .slice A l c := by obtain ⟨A, c, e⟩ := h1.ds.form; exact ⟨A, _, c, e⟩
  obtain ⟨A4, L4, C4, ea2⟩ : ∃ A l c, a2 = .slice A l c := by obtain ⟨A, c, e⟩ := h2.ws.form; exact ⟨A, _, c, e⟩
  obtain ⟨A5, L5, C5, eb2⟩ : ∃ A l c, b2 = .slice A l c := by obtain ⟨A, c, e⟩ := h2.ms.form; exact ⟨A, _, c, e⟩
  obtain ⟨A6, L6, C6, ec2⟩ : ∃ A l c, c2 = .slice A l c := by obtain ⟨A, c, e⟩ := h2.ds.form; exact ⟨A, _, c, e⟩
  subst ea1 eb1 ec1 ea2 eb2 ec2
  obtain ⟨W0, hW0⟩ : ∃ W0, W0 = ((w.alloc (.cells (mcells m1 (.slice A1 L1 C1) (.slice A2 L2 C2) (.slice A3 L3 C3)) 46)).alloc (.cells (mcells m2 (.slice A4 L4 C4) (.slice A5 L5 C5) (.slice A6 L6 C6)) 46)) := ⟨_, rfl⟩
  have hb0 : Below w.heap.size w W0 := by rw [hW0]; exact al2' _ _ _
  have hm1 : W0.heap[w.heap.size]? = some (.cells (mcells m1 (.slice A1 L1 C1) (.slice A2 L2 C2) (.slice A3 L3 C3)) 46 (0, 0)) := by
    rw [hW0, Below.heap_alloc _ _ _ (by simp)]; exact heap_alloc_new _ _
  have hm2 : W0.heap[w.heap.size + 1]? = some (.cells (mcells m2 (.slice A4 L4 C4) (.slice A5 L5 C5) (.slice A6 L6 C6)) 46 (0, 0)) := by
    have e : (w.alloc (.cells (mcells m1 (.slice A1 L1 C1) (.slice A2 L2 C2) (.slice A3 L3 C3)) 46)).heap.size = w.heap.size + 1 := by simp
    rw [hW0, ← e]; exact heap_alloc_new _ _
  have HM1 : Hid (∀ W, Below W0.heap.size W0 W → W.heap[w.heap.size]? = some (.cells (mcells m1 (.slice A1 L1 C1) (.slice A2 L2 C2) (.slice A3 L3 C3)) 46 (0, 0))) := fun W hb => (hb.block _ (lt_of_block hm1)).trans hm1
  have HM2 : Hid (∀ W, Below W0.heap.size W0 W → W.heap[w.heap.size + 1]? = some (.cells (mcells m2 (.slice A4 L4 C4) (.slice A5 L5 C5) (.slice A6 L6 C6)) 46 (0, 0))) := fun W hb => (hb.block _ (lt_of_block hm2)).trans hm2
  have HC1 : Hid (∀ W, Below W0.heap.size W0 W → Calls Tryd.prog 39 #[.slice A1 L1 C1, .slice A4 L4 C4] W fun e w' => e = .returned (.bool (decide (toI m1.ws = toI m2.ws))) ∧ Below W.heap.size W w') := fun W hb => same39_any _ _ _ _ W ((h1.later (hb0.trans (hb.mono hb0.size))).ws) ((h2.later (hb0.trans (hb.mono hb0.size))).ws)
  have HC2 : Hid (∀ W, Below W0.heap.size W0 W → Calls Tryd.prog 40 #[.slice A2 L2 C2, .slice A5 L5 C5] W fun e w' => e = .returned (.bool (decide (m1.ms = m2.ms))) ∧ Below W.heap.size W w') := fun W hb => same40_any _ _ _ _ W ((h1.later (hb0.trans (hb.mono hb0.size))).ms) ((h2.later (hb0.trans (hb.mono hb0.size))).ms)
  have HC3 : Hid (∀ W, Below W0.heap.size W0 W → Calls Tryd.prog 41 #[.slice A3 L3 C3, .slice A6 L6 C6] W fun e w' => e = .returned (.bool (decide (toI m1.ds = toI m2.ds))) ∧ Below W.heap.size W w') := fun W hb => same41_any _ _ _ _ W ((h1.later (hb0.trans (hb.mono hb0.size))).ds) ((h2.later (hb0.trans (hb.mono hb0.size))).ds)
  rw [msg_eq]
  obtain ⟨x0, x1, x2, x3, x4, x5, x6, x7, x8, x9, x10⟩ := mcells_at2 hm1
  obtain ⟨y0, y1, y2, y3, y4, y5, y6, y7, y8, y9, y10⟩ := mcells_at2 hm2
  have HB0 := Lib.hid hb0
  have HW0 := Lib.hid hW0
  clear h1 h2 hb0 hm1 hm2 hW0
  unfold mcells at HW0 HM1 HM2 ⊢
  obtain ⟨k, p0, p1, p2, p3, p4, p5, p6, l1, l2, l3⟩ := m1
  obtain ⟨k', p0', p1', p2', p3', p4', p5', p6', l1', l2', l3'⟩ := m2
  simp only at *
  obtain ⟨r1, hr1⟩ : ∃ r, r = decide (toI l1 = toI l1') := ⟨_, rfl⟩
  obtain ⟨r2, hr2⟩ : ∃ r, r = decide (l2 = l2') := ⟨_, rfl⟩
  obtain ⟨r3, hr3⟩ : ∃ r, r = decide (toI l3 = toI l3') := ⟨_, rfl⟩
  rw [← hr1] at HC1
  rw [← hr2] at HC2
  rw [← hr3] at HC3
  rw [← hr1, ← hr2, ← hr3]
  clear hr1 hr2 hr3
  by_cases e0 : k = k'
  · subst e0
    by_cases e1 : p0 = p0'
    · subst e1
      by_cases e2 : p1 = p1'
      · subst e2
        by_cases e3 : p2 = p2'
        · subst e3
          by_cases e4 : p3 = p3'
          · subst e4
            by_cases e5 : p4 = p4'
            · subst e5
              by_cases e6 : p5 = p5'
              · subst e6
                by_cases e7 : p6 = p6'
                · subst e7
                  cases r1
                  · go_enter Tryd.func22, Tryd.ntmps22
                    go_upto_region 1 with (fail)
                    rw [← HW0.out]
                    go_wp2_with (go_at_call 39; refine (HC1.out _ (Below.refl _ _)).mono ?_; rintro e w1 ⟨rfl, hb1⟩; obtain ⟨f0, f1, f2, f3, f4, f5, f6, f7, f8, f9, f10⟩ := mcells_at2 (m := ⟨k, p0, p1, p2, p3, p4, p5, p6, l1, l2, l3⟩) (HM1.out w1 hb1); obtain ⟨g0, g1, g2, g3, g4, g5, g6, g7, g8, g9, g10⟩ := mcells_at2 (m := ⟨k, p0, p1, p2, p3, p4, p5, p6, l1', l2', l3'⟩) (HM2.out w1 hb1); have HB1 := Lib.hid hb1; clear hb1)
                    go_ret
                    exact ⟨by simp, HB0.out.trans (HB1.out.mono HB0.out.size)⟩
                  · cases r2
                    · go_enter Tryd.func22, Tryd.ntmps22
                      go_upto_region 1 with (fail)
                      rw [← HW0.out]
                      go_wp2_with (first
                        | (go_at_call 39; refine (HC1.out _ (Below.refl _ _)).mono ?_; rintro e w1 ⟨rfl, hb1⟩; obtain ⟨f0, f1, f2, f3, f4, f5, f6, f7, f8, f9, f10⟩ := mcells_at2 (m := ⟨k, p0, p1, p2, p3, p4, p5, p6, l1, l2, l3⟩) (HM1.out w1 hb1); obtain ⟨g0, g1, g2, g3, g4, g5, g6, g7, g8, g9, g10⟩ := mcells_at2 (m := ⟨k, p0, p1, p2, p3, p4, p5, p6, l1', l2', l3'⟩) (HM2.out w1 hb1); have HB1 := Lib.hid hb1; clear hb1)
                        | (go_at_call 40; refine (HC2.out _ HB1.out).mono ?_; rintro e w2 ⟨rfl, hb2⟩; have HB2 := Lib.hid (below_then HB1.out hb2); obtain ⟨j0, j1, j2, j3, j4, j5, j6, j7, j8, j9, j10⟩ := mcells_at2 (m := ⟨k, p0, p1, p2, p3, p4, p5, p6, l1, l2, l3⟩) (HM1.out w2 HB2.out); obtain ⟨q0, q1, q2, q3, q4, q5, q6, q7, q8, q9, q10⟩ := mcells_at2 (m := ⟨k, p0, p1, p2, p3, p4, p5, p6, l1', l2', l3'⟩) (HM2.out w2 HB2.out); clear hb2))
                      go_ret
                      exact ⟨by simp, HB0.out.trans (HB2.out.mono HB0.out.size)⟩
                    · go_enter Tryd.func22, Tryd.ntmps22
                      go_upto_region 1 with (fail)
                      rw [← HW0.out]
                      go_wp2_with (first
                        | (go_at_call 39; refine (HC1.out _ (Below.refl _ _)).mono ?_; rintro e w1 ⟨rfl, hb1⟩; obtain ⟨f0, f1, f2, f3, f4, f5, f6, f7, f8, f9, f10⟩ := mcells_at2 (m := ⟨k, p0, p1, p2, p3, p4, p5, p6, l1, l2, l3⟩) (HM1.out w1 hb1); obtain ⟨g0, g1, g2, g3, g4, g5, g6, g7, g8, g9, g10⟩ := mcells_at2 (m := ⟨k, p0, p1, p2, p3, p4, p5, p6, l1', l2', l3'⟩) (HM2.out w1 hb1); have HB1 := Lib.hid hb1; clear hb1)
                        | (go_at_call 40; refine (HC2.out _ HB1.out).mono ?_; rintro e w2 ⟨rfl, hb2⟩; have HB2 := Lib.hid (below_then HB1.out hb2); obtain ⟨j0, j1, j2, j3, j4, j5, j6, j7, j8, j9, j10⟩ := mcells_at2 (m := ⟨k, p0, p1, p2, p3, p4, p5, p6, l1, l2, l3⟩) (HM1.out w2 HB2.out); obtain ⟨q0, q1, q2, q3, q4, q5, q6, q7, q8, q9, q10⟩ := mcells_at2 (m := ⟨k, p0, p1, p2, p3, p4, p5, p6, l1', l2', l3'⟩) (HM2.out w2 HB2.out); clear hb2)
                        | (go_at_call 41; refine (HC3.out _ HB2.out).mono ?_; rintro e w3 ⟨rfl, hb3⟩; have HB3 := Lib.hid (below_then HB2.out hb3); clear hb3))
                      go_ret
                      exact ⟨by simp, HB0.out.trans (HB3.out.mono HB0.out.size)⟩
                · have b7 : (p6 == p6') = false := beq_false_of_ne e7
                  go_enter Tryd.func22, Tryd.ntmps22
                  go_upto_region 1 with (fail)
                  rw [← HW0.out]
                  go_wp2_with fail
                  go_ret
                  exact ⟨by simp [e7], HB0.out⟩
              · have b6 : (p5 == p5') = false := beq_false_of_ne e6
                go_enter Tryd.func22, Tryd.ntmps22
                go_upto_region 1 with (fail)
                rw [← HW0.out]
                go_wp2_with fail
                go_ret
                exact ⟨by simp [e6], HB0.out⟩
            · have b5 : (p4 == p4') = false := beq_false_of_ne e5
              go_enter Tryd.func22, Tryd.ntmps22
              go_upto_region 1 with (fail)
              rw [← HW0.out]
              go_wp2_with fail
              go_ret
              exact ⟨by simp [e5], HB0.out⟩
          · have b4 : (p3 == p3') = false := beq_false_of_ne e4
            go_enter Tryd.func22, Tryd.ntmps22
            go_upto_region 1 with (fail)
            rw [← HW0.out]
            go_wp2_with fail
            go_ret
            exact ⟨by simp [e4], HB0.out⟩
        · have b3 : (p2 == p2') = false := beq_false_of_ne e3
          go_enter Tryd.func22, Tryd.ntmps22
          go_upto_region 1 with (fail)
          rw [← HW0.out]
          go_wp2_with fail
          go_ret
          exact ⟨by simp [e3], HB0.out⟩
      · have b2 : (p1 == p1') = false := beq_false_of_ne e2
        go_enter Tryd.func22, Tryd.ntmps22
        go_upto_region 1 with (fail)
        rw [← HW0.out]
        go_wp2_with fail
        go_ret
        exact ⟨by simp [e2], HB0.out⟩
    · have b1 : (p0 == p0') = false := beq_false_of_ne e1
      go_enter Tryd.func22, Tryd.ntmps22
      go_upto_region 1 with (fail)
      rw [← HW0.out]
      go_wp2_with fail
      go_ret
      exact ⟨by simp [e1], HB0.out⟩
  · have b0 : (k == k') = false := beq_false_of_ne e0
    go_enter Tryd.func22, Tryd.ntmps22
    go_upto_region 1 with (fail)
    rw [← HW0.out]
    go_wp2_with fail
    go_ret
    exact ⟨by simp [e0], HB0.out⟩

end Go.Proofs.YtakdfjkkeilffaaDoor
