/- Matrices out of an item: the walk. -/
import Derived.Test.YtakdfjkkeilffaaDoorQa
set_option linter.unusedVariables false
set_option linter.unusedSimpArgs false
namespace Go.Proofs.YtakdfjkkeilffaaDoor
open Go.RowKit

/-- four cells are an item's -/
structure ICells (W : World) (g o : Nat) (k : Int) (n : Nat) (s : ByteArray) (A : Option Addr) (m c : Nat) : Prop where
  c0 : W.cell? ⟨g, o, none⟩ = some (.int .i64 k)
  c1 : W.cell? ⟨g, o + 1, none⟩ = some (.int .u64 (n : Int))
  c2 : W.cell? ⟨g, o + 2, none⟩ = some (.string s)
  c3 : W.cell? ⟨g, o + 3, none⟩ = some (.slice A m c)
theorem ICells.later {wo W : World} {g o : Nat} {k : Int} {n : Nat} {s : ByteArray} {A : Option Addr} {m c : Nat} (h : ICells wo g o k n s A m c) (hb : Below wo.heap.size wo W) : ICells W g o k n s A m c :=
  ⟨(hb.cell (lt_cell h.c0)).trans h.c0, (hb.cell (lt_cell h.c1)).trans h.c1, (hb.cell (lt_cell h.c2)).trans h.c2, (hb.cell (lt_cell h.c3)).trans h.c3⟩

theorem whole_mid {wo W : World} {yv mv : Array Value} (h : MMid wo W yv mv) (k : Int) (n : Nat) (s : ByteArray) (A : Option Addr) (l c : Nat) (li : List It) (g j : Nat) (u : Value) (hn : n < 18446744073709551616) (hg : g < 9223372036854775808) (hc : mv[j]? = some u) :
    Calls Tryd.prog 34 #[.agg #[.int .i64 k, .int .u64 n, .string s, .slice A l c], .int .u64 g, .pointer (some ⟨wo.heap.size + 1, j, none⟩)] W fun e w1 => e = .returned (.bool (numOk g (.mk k n s li))) ∧ MMid wo w1 yv (if numOk g (.mk k n s li) = true then mv.setIfInBounds j (.int .i64 (n : Int)) else mv) := by
  obtain ⟨_, f2, f3⟩ := h.cells j
  refine (whole_any k n s A l c li g (wo.heap.size + 1) j u W hn hg (f2.trans hc) f3).mono ?_
  rintro e w1 hp
  refine ⟨hp.1, ?_⟩
  obtain ⟨h1, h2⟩ := h.whole hp
  by_cases ht : numOk g (.mk k n s li) = true
  · rw [if_pos ht]
    exact h2 ht _ (heap_setCell_same _ _ _ _ _ _ h.mb)
  · rw [if_neg ht]
    exact h1 (by simpa using ht)

theorem newsm (w : World) (x0 x1 x2 x3 : Value) (ty : TypeId) : ∀ (j : Nat) (u : Value), [x0, x1, x2, x3][j]? = some u → (w.alloc (.cells #[x0, x1, x2, x3] ty)).cell? ((⟨w.heap.size, 0, none⟩ : Addr).add j) = some u := fun j u hj =>
  World.news_of_block (cs := #[x0, x1, x2, x3]) (heap_alloc_new w _) j u hj

theorem four_list {α : Type} {l : List α} (h : l.length = 4) : ∃ a b c d, l = [a, b, c, d] := by
  match l, h with
  | [a, b, c, d], _ => exact ⟨a, b, c, d, rfl⟩

set_option maxRecDepth 100000 in
set_option maxHeartbeats 1600000 in
theorem mats_any (k : Int) (n : Nat) (s : ByteArray) (A : Option Addr) (c : Nat) (l : List It) (m : Nat) (w : World) (hm : m = l.length) (hx : Holds w (.int .i64 k) (.int .u64 n) (.string s) (.slice A m c) (.mk k n s l)) (hl : look 7 (.mk k n s l) = 0) :
    Calls Tryd.prog 52 #[.agg #[.int .i64 k, .int .u64 n, .string s, .slice A m c]] w (MatsPost (matsR (.mk k n s l)) w) := by
  obtain ⟨hl1, hl2⟩ := look_part hl
  simp only [It.l] at hl1 hl2
  have HM := Lib.hid hm
  rw [← hm] at hl1
  have HX := Lib.hid hx
  have HL2 := Lib.hid hl2
  clear hx hm hl hl2
  by_cases hk : k = 3
  · subst hk
    obtain ⟨i0, hi, hz0, hz1, hz2⟩ := info_parts i80
    obtain ⟨base, hbase⟩ : ∃ base, base = w.heap.size + 1 := ⟨_, rfl⟩
    have HR0 := Lib.hid (MRow.nil base (w.alloc (.cells #[.int .i64 3, .int .u64 n, .string s, .slice A m c] 57)))
    have HBA := Lib.hid hbase
    clear hbase
    go_enter Tryd.func52, Tryd.ntmps52
    go_wp2_with fail
    go_loopw [4, 16] (fun v i wr => ∃ q : Nat, ∃ ms vs, q ≤ m ∧ i = .int .i64 q ∧ Hid (matsL (l.take q) = some ms) ∧ Hid (ms.length = q) ∧ Hid (MRow base wr v ms vs) ∧ Hid (Below w.heap.size w wr) ∧ Hid (base ≤ wr.heap.size)) (fun _ i _ => m - (intOf i).toNat)
    case atStart => exact ⟨0, [], [], by omega, rfl, by show _ = _; simp [matsL], rfl, HR0.out, below_al _ _, by have := HBA.out; show _ ≤ _; simp; omega⟩
    case round =>
      obtain ⟨q, ms, vs, hq, rfl, HOK, HLN, HRW, HB, HBS⟩ := hrel
      obtain ⟨wo, rfl⟩ : ∃ wo : World, wo = wr := ⟨_, rfl⟩
      have hso := HB.out.size
      by_cases hlt : q < m
      · have hql : q < l.length := by have := HM.out; omega
        obtain ⟨gb, o, rfl, yk, yn, ys, yA, yc, yl, hy, hyn, d0, d1, d2, d3, hyh⟩ := HX.out.part q hql
        have hne : wo.heap.size ≠ gb := by have := World.block_lt_of_cell? w _ d0; simp at this; omega
        replace d0 := (HB.out.cell (World.block_lt_of_cell? w _ d0)).trans d0
        replace d1 := (HB.out.cell (World.block_lt_of_cell? w _ d1)).trans d1
        replace d2 := (HB.out.cell (World.block_lt_of_cell? w _ d2)).trans d2
        replace d3 := (HB.out.cell (World.block_lt_of_cell? w _ d3)).trans d3
        have hyl : look 6 (.mk yk yn ys yl) = 0 := by rw [← hy]; exact HL2.out _ (List.getElem_mem hql)
        have HT : Hid (l.take (q + 1) = l.take q ++ [.mk yk yn ys yl]) := by show _ = _; rw [List.take_succ_eq_append_getElem hql, ← hy]
        have HBAD : Hid (matR (.mk yk yn ys yl) = none → matsR (.mk 3 n s l) = none) := by
          intro h
          unfold matsR
          rw [if_pos (show (It.mk 3 n s l).kind = 3 from rfl)]
          show matsL l = none
          have e := List.take_append_drop q l
          rw [List.drop_eq_getElem_cons hql, hy] at e
          rw [← e]
          exact matsL_bad h
        have HYH := Lib.hid (hyh.later (HB.out.mono (Nat.le_refl _) |> fun h => h))
        have HYL := Lib.hid hyl
        clear hyh hyl hy
        by_cases hk3 : yk = 3
        · subst hk3
          by_cases h4 : yl.length = 4
          · obtain ⟨a, b, c', d, rfl⟩ := four_list h4
            clear h4
            obtain ⟨ga, oa, rfl, ak, an, at_, aA, ac, al, ha, han, a0, a1, a2, a3, hah⟩ := HYH.out.part 0 (by simp)
            obtain ⟨ga', oa', eA, bk, bn, bt, bA, bc, bl', hb', hbn, b0, b1, b2, b3, hbh⟩ := HYH.out.part 1 (by simp)
            obtain ⟨rfl, rfl⟩ : ga = ga' ∧ oa = oa' := by simpa using eA
            clear eA
            obtain ⟨ga', oa', eA, ck, cn, ct, cA, cc, cl, hc', hcn, c0, c1, c2, c3, hch⟩ := HYH.out.part 2 (by simp)
            obtain ⟨rfl, rfl⟩ : ga = ga' ∧ oa = oa' := by simpa using eA
            clear eA
            obtain ⟨ga', oa', eA, dk, dn, dt, dA, dc, dl, hd', hdn, e0, e1, e2, e3, hdh⟩ := HYH.out.part 3 (by simp)
            obtain ⟨rfl, rfl⟩ : ga = ga' ∧ oa = oa' := by simpa using eA
            clear eA
            obtain rfl : a = .mk ak an at_ al := ha
            obtain rfl : b = .mk bk bn bt bl' := hb'
            obtain rfl : c' = .mk ck cn ct cl := hc'
            obtain rfl : d = .mk dk dn dt dl := hd'
            have IA : Hid (ICells wo ga oa ak an at_ aA al.length ac) := ⟨by simpa using a0, by simpa using a1, by simpa using a2, by simpa using a3⟩
            have IB : Hid (ICells wo ga (oa + 4) bk bn bt bA bl'.length bc) := ⟨by simpa using b0, by simpa using b1, by simpa using b2, by simpa using b3⟩
            have IC : Hid (ICells wo ga (oa + 8) ck cn ct cA cl.length cc) := ⟨by simpa using c0, by simpa using c1, by simpa using c2, by simpa using c3⟩
            have ID : Hid (ICells wo ga (oa + 12) dk dn dt dA dl.length dc) := ⟨by simpa using e0, by simpa using e1, by simpa using e2, by simpa using e3⟩
            have HDH := Lib.hid hdh
            have HDL : Hid (dl.length ≤ 16384) := by
              have h1 := (look_part HYL.out).2 (.mk dk dn dt dl) (by simp [It.l])
              exact (look_part h1).1
            clear a0 a1 a2 a3 b0 b1 b2 b3 c0 c1 c2 c3 e0 e1 e2 e3 hah hbh hch hdh HYH HYL
            have HC1 : Hid (∀ (W : World) (yv : Array Value), MMid wo W yv #[.int .i64 0, .int .i64 0, .int .i64 0, .slice none 0 0] → _) := fun W yv h => whole_mid h ak an at_ aA al.length ac al 1073741824 0 (.int .i64 0) han (by decide) rfl
            have HC2 : Hid (∀ (W : World) (yv : Array Value), MMid wo W yv #[.int .i64 an, .int .i64 0, .int .i64 0, .slice none 0 0] → _) := fun W yv h => whole_mid h bk bn bt bA bl'.length bc bl' 1073741824 1 (.int .i64 0) hbn (by decide) rfl
            have HC3 : Hid (∀ (W : World) (yv : Array Value), MMid wo W yv #[.int .i64 an, .int .i64 bn, .int .i64 0, .slice none 0 0] → _) := fun W yv h => whole_mid h ck cn ct cA cl.length cc cl 1073741824 2 (.int .i64 0) hcn (by decide) rfl
            have HC4 : Hid (∀ (W : World), Below wo.heap.size wo W → Calls Tryd.prog 51 #[.agg #[.int .i64 dk, .int .u64 dn, .string dt, .slice dA dl.length dc], .int .u64 (18446744073709551615 : Nat)] W (NumsPost .u64 51 (numsR 18446744073709551615 (.mk dk dn dt dl)) W)) := fun W hb => numbers51_any dk dn dt dA dc dl 18446744073709551615 dl.length W rfl (HDH.out.later hb) (by decide) HDL.out
            have HM0 := Lib.hid (MMid.first wo #[.int .i64 3, .int .u64 yn, .string ys, .slice (some ⟨ga, oa, none⟩) 4 yc] #[.int .i64 0, .int .i64 0, .int .i64 0, .slice none 0 0])
            have HMR : Hid (matR (.mk 3 yn ys [.mk ak an at_ al, .mk bk bn bt bl', .mk ck cn ct cl, .mk dk dn dt dl]) = _) := matR_four
            obtain ⟨t0, ht0⟩ : ∃ t0, t0 = numOk 1073741824 (.mk ak an at_ al) := ⟨_, rfl⟩
            obtain ⟨t1, ht1⟩ : ∃ t1, t1 = numOk 1073741824 (.mk bk bn bt bl') := ⟨_, rfl⟩
            obtain ⟨t2, ht2⟩ : ∃ t2, t2 = numOk 1073741824 (.mk ck cn ct cl) := ⟨_, rfl⟩
            obtain ⟨rd, hrd⟩ : ∃ rd, rd = numsR 18446744073709551615 (.mk dk dn dt dl) := ⟨_, rfl⟩
            rw [← ht0] at HC1 HMR
            rw [← ht1] at HC2 HMR
            rw [← ht2] at HC3 HMR
            rw [← hrd] at HC4 HMR
            clear ht0 ht1 ht2 hrd HDH
            go_upto_region 8 with (fail)
            obtain ⟨W0, hW0⟩ : ∃ W0, W0 = ((wo.alloc (.cells #[.int .i64 3, .int .u64 yn, .string ys, .slice (some ⟨ga, oa, none⟩) 4 yc] 57)).alloc (.cells #[.int .i64 0, .int .i64 0, .int .i64 0, .slice none 0 0] 80)) := ⟨_, rfl⟩
            rw [← hW0] at HM0 ⊢
            clear hW0
            obtain ⟨a0, a1, a2, a3⟩ := IA.out.later HM0.out.below
            obtain ⟨y0, z0, f0⟩ := HM0.out.cells 0
            obtain ⟨y1, z1, f1⟩ := HM0.out.cells 1
            obtain ⟨y2, z2, f2⟩ := HM0.out.cells 2
            obtain ⟨y3, z3, f3⟩ := HM0.out.cells 3
            simp only [List.getElem?_toArray, List.getElem?_cons_zero, List.getElem?_cons_succ] at y0 y1 y2 y3 z0 z1 z2 z3
            cases t0
            · have HR := Lib.hid (HBAD.out (HMR.out.trans (by simp)))
              go_wp2_with (go_at_call 34; refine (HC1.out _ _ HM0.out).mono ?_; rintro e w1 ⟨rfl, hw1⟩; have HW1 := Lib.hid hw1; clear hw1)
              go_ret2
              refine ⟨HB.out.trans (HW1.out.below.mono hso), ?_⟩
              rw [HR.out]; rfl
            · have tok1 : True := trivial
              have tok2 : True := trivial
              have tok3 : True := trivial
              cases t1
              · skip
                have HR := Lib.hid (HBAD.out (HMR.out.trans (by simp)))
                go_wp2_with (first
                  | (clear tok1; go_at_call 34; refine (HC1.out _ _ HM0.out).mono ?_; rintro e w1 ⟨rfl, hw1⟩; have HW1 : Hid (MMid wo w1 #[.int .i64 3, .int .u64 yn, .string ys, .slice (some ⟨ga, oa, none⟩) 4 yc] #[.int .i64 an, .int .i64 0, .int .i64 0, .slice none 0 0]) := hw1; clear hw1; obtain ⟨b0, b1, b2, b3⟩ := IB.out.later HW1.out.below; obtain ⟨y10, z10, f10⟩ := HW1.out.cells 0; obtain ⟨y11, z11, f11⟩ := HW1.out.cells 1; obtain ⟨y12, z12, f12⟩ := HW1.out.cells 2; obtain ⟨y13, z13, f13⟩ := HW1.out.cells 3; simp only [List.getElem?_toArray, List.getElem?_cons_zero, List.getElem?_cons_succ] at y10 z10 y11 z11 y12 z12 y13 z13)
                  | (clear tok2; go_at_call 34; refine (HC2.out _ _ HW1.out).mono ?_; rintro e w2 ⟨rfl, hw2⟩; have HW2 := Lib.hid hw2; clear hw2))
                go_ret2
                refine ⟨HB.out.trans (HW2.out.below.mono hso), ?_⟩
                rw [HR.out]; rfl
              · cases t2
                · skip
                  have HR := Lib.hid (HBAD.out (HMR.out.trans (by simp)))
                  go_wp2_with (first
                    | (clear tok1; go_at_call 34; refine (HC1.out _ _ HM0.out).mono ?_; rintro e w1 ⟨rfl, hw1⟩; have HW1 : Hid (MMid wo w1 #[.int .i64 3, .int .u64 yn, .string ys, .slice (some ⟨ga, oa, none⟩) 4 yc] #[.int .i64 an, .int .i64 0, .int .i64 0, .slice none 0 0]) := hw1; clear hw1; obtain ⟨b0, b1, b2, b3⟩ := IB.out.later HW1.out.below; obtain ⟨y10, z10, f10⟩ := HW1.out.cells 0; obtain ⟨y11, z11, f11⟩ := HW1.out.cells 1; obtain ⟨y12, z12, f12⟩ := HW1.out.cells 2; obtain ⟨y13, z13, f13⟩ := HW1.out.cells 3; simp only [List.getElem?_toArray, List.getElem?_cons_zero, List.getElem?_cons_succ] at y10 z10 y11 z11 y12 z12 y13 z13)
                    | (clear tok2; go_at_call 34; refine (HC2.out _ _ HW1.out).mono ?_; rintro e w2 ⟨rfl, hw2⟩; have HW2 : Hid (MMid wo w2 #[.int .i64 3, .int .u64 yn, .string ys, .slice (some ⟨ga, oa, none⟩) 4 yc] #[.int .i64 an, .int .i64 bn, .int .i64 0, .slice none 0 0]) := hw2; clear hw2; obtain ⟨c0, c1, c2, c3⟩ := IC.out.later HW2.out.below; obtain ⟨y20, z20, f20⟩ := HW2.out.cells 0; obtain ⟨y21, z21, f21⟩ := HW2.out.cells 1; obtain ⟨y22, z22, f22⟩ := HW2.out.cells 2; obtain ⟨y23, z23, f23⟩ := HW2.out.cells 3; simp only [List.getElem?_toArray, List.getElem?_cons_zero, List.getElem?_cons_succ] at y20 z20 y21 z21 y22 z22 y23 z23)
                    | (clear tok3; go_at_call 34; refine (HC3.out _ _ HW2.out).mono ?_; rintro e w3 ⟨rfl, hw3⟩; have HW3 := Lib.hid hw3; clear hw3))
                  go_ret2
                  refine ⟨HB.out.trans (HW3.out.below.mono hso), ?_⟩
                  rw [HR.out]; rfl
                · have HN4 := Lib.hid (HC4.out)
                  cases rd with
                  | none =>
                    have HR := Lib.hid (HBAD.out (HMR.out.trans (by simp)))
                    go_wp2_with (first
                      | (clear tok1; go_at_call 34; refine (HC1.out _ _ HM0.out).mono ?_; rintro e w1 ⟨rfl, hw1⟩; have HW1 : Hid (MMid wo w1 #[.int .i64 3, .int .u64 yn, .string ys, .slice (some ⟨ga, oa, none⟩) 4 yc] #[.int .i64 an, .int .i64 0, .int .i64 0, .slice none 0 0]) := hw1; clear hw1; obtain ⟨b0, b1, b2, b3⟩ := IB.out.later HW1.out.below; obtain ⟨y10, z10, f10⟩ := HW1.out.cells 0; obtain ⟨y11, z11, f11⟩ := HW1.out.cells 1; obtain ⟨y12, z12, f12⟩ := HW1.out.cells 2; obtain ⟨y13, z13, f13⟩ := HW1.out.cells 3; simp only [List.getElem?_toArray, List.getElem?_cons_zero, List.getElem?_cons_succ] at y10 z10 y11 z11 y12 z12 y13 z13)
                      | (clear tok2; go_at_call 34; refine (HC2.out _ _ HW1.out).mono ?_; rintro e w2 ⟨rfl, hw2⟩; have HW2 : Hid (MMid wo w2 #[.int .i64 3, .int .u64 yn, .string ys, .slice (some ⟨ga, oa, none⟩) 4 yc] #[.int .i64 an, .int .i64 bn, .int .i64 0, .slice none 0 0]) := hw2; clear hw2; obtain ⟨c0, c1, c2, c3⟩ := IC.out.later HW2.out.below; obtain ⟨y20, z20, f20⟩ := HW2.out.cells 0; obtain ⟨y21, z21, f21⟩ := HW2.out.cells 1; obtain ⟨y22, z22, f22⟩ := HW2.out.cells 2; obtain ⟨y23, z23, f23⟩ := HW2.out.cells 3; simp only [List.getElem?_toArray, List.getElem?_cons_zero, List.getElem?_cons_succ] at y20 z20 y21 z21 y22 z22 y23 z23)
                      | (clear tok3; go_at_call 34; refine (HC3.out _ _ HW2.out).mono ?_; rintro e w3 ⟨rfl, hw3⟩; have HW3 : Hid (MMid wo w3 #[.int .i64 3, .int .u64 yn, .string ys, .slice (some ⟨ga, oa, none⟩) 4 yc] #[.int .i64 an, .int .i64 bn, .int .i64 cn, .slice none 0 0]) := hw3; clear hw3; obtain ⟨e0, e1, e2, e3⟩ := ID.out.later HW3.out.below; obtain ⟨y30, z30, f30⟩ := HW3.out.cells 0; obtain ⟨y31, z31, f31⟩ := HW3.out.cells 1; obtain ⟨y32, z32, f32⟩ := HW3.out.cells 2; obtain ⟨y33, z33, f33⟩ := HW3.out.cells 3; simp only [List.getElem?_toArray, List.getElem?_cons_zero, List.getElem?_cons_succ] at y30 z30 y31 z31 y32 z32 y33 z33)
                      | (go_at_call 51; refine (HC4.out _ HW3.out.below).mono ?_; rintro e w4 ⟨hb4, rfl⟩; have HB4 := Lib.hid hb4; clear hb4))
                    go_ret2
                    refine ⟨HB.out.trans ((below_then HW3.out.below HB4.out |> fun h => h).mono hso), ?_⟩
                    rw [HR.out]; rfl
                  | some ds =>
                    go_upto_region 14 with (first
                      | (clear tok1; go_at_call 34; refine (HC1.out _ _ HM0.out).mono ?_; rintro e w1 ⟨rfl, hw1⟩; have HW1 : Hid (MMid wo w1 #[.int .i64 3, .int .u64 yn, .string ys, .slice (some ⟨ga, oa, none⟩) 4 yc] #[.int .i64 an, .int .i64 0, .int .i64 0, .slice none 0 0]) := hw1; clear hw1; obtain ⟨b0, b1, b2, b3⟩ := IB.out.later HW1.out.below; obtain ⟨y10, z10, f10⟩ := HW1.out.cells 0; obtain ⟨y11, z11, f11⟩ := HW1.out.cells 1; obtain ⟨y12, z12, f12⟩ := HW1.out.cells 2; obtain ⟨y13, z13, f13⟩ := HW1.out.cells 3; simp only [List.getElem?_toArray, List.getElem?_cons_zero, List.getElem?_cons_succ] at y10 z10 y11 z11 y12 z12 y13 z13)
                      | (clear tok2; go_at_call 34; refine (HC2.out _ _ HW1.out).mono ?_; rintro e w2 ⟨rfl, hw2⟩; have HW2 : Hid (MMid wo w2 #[.int .i64 3, .int .u64 yn, .string ys, .slice (some ⟨ga, oa, none⟩) 4 yc] #[.int .i64 an, .int .i64 bn, .int .i64 0, .slice none 0 0]) := hw2; clear hw2; obtain ⟨c0, c1, c2, c3⟩ := IC.out.later HW2.out.below; obtain ⟨y20, z20, f20⟩ := HW2.out.cells 0; obtain ⟨y21, z21, f21⟩ := HW2.out.cells 1; obtain ⟨y22, z22, f22⟩ := HW2.out.cells 2; obtain ⟨y23, z23, f23⟩ := HW2.out.cells 3; simp only [List.getElem?_toArray, List.getElem?_cons_zero, List.getElem?_cons_succ] at y20 z20 y21 z21 y22 z22 y23 z23)
                      | (clear tok3; go_at_call 34; refine (HC3.out _ _ HW2.out).mono ?_; rintro e w3 ⟨rfl, hw3⟩; have HW3 : Hid (MMid wo w3 #[.int .i64 3, .int .u64 yn, .string ys, .slice (some ⟨ga, oa, none⟩) 4 yc] #[.int .i64 an, .int .i64 bn, .int .i64 cn, .slice none 0 0]) := hw3; clear hw3; obtain ⟨e0, e1, e2, e3⟩ := ID.out.later HW3.out.below; obtain ⟨y30, z30, f30⟩ := HW3.out.cells 0; obtain ⟨y31, z31, f31⟩ := HW3.out.cells 1; obtain ⟨y32, z32, f32⟩ := HW3.out.cells 2; obtain ⟨y33, z33, f33⟩ := HW3.out.cells 3; simp only [List.getElem?_toArray, List.getElem?_cons_zero, List.getElem?_cons_succ] at y30 z30 y31 z31 y32 z32 y33 z33)
                      | (go_at_call 51; refine (HC4.out _ HW3.out.below).mono ?_; rintro e w4 ⟨hb4, D, rfl, hD⟩; obtain ⟨DA, DL, DC, rfl⟩ : ∃ DA DL DC, D = .slice DA DL DC := (by rcases hD.2 with ⟨rfl, _⟩ | ⟨g', cap', cur, rfl, _⟩ <;> exact ⟨_, _, _, rfl⟩); have HD := Lib.hid hD; have HW4 := Lib.hid (HW3.out.far hb4); clear hb4 hD; obtain ⟨y40, z40, f40⟩ := HW4.out.cells 0; obtain ⟨y41, z41, f41⟩ := HW4.out.cells 1; obtain ⟨y42, z42, f42⟩ := HW4.out.cells 2; obtain ⟨y43, z43, f43⟩ := HW4.out.cells 3; simp only [List.getElem?_toArray, List.getElem?_cons_zero, List.getElem?_cons_succ] at y40 z40 y41 z41 y42 z42 y43 z43))
                    obtain ⟨W5, hW5⟩ : ∃ W5, W5 = w4.setCell ⟨wo.heap.size + 1, 3, none⟩ (.slice DA DL DC) := ⟨_, rfl⟩
                    have HM5 : Hid (MMid wo W5 #[.int .i64 3, .int .u64 yn, .string ys, .slice (some ⟨ga, oa, none⟩) 4 yc] #[.int .i64 an, .int .i64 bn, .int .i64 cn, .slice DA DL DC]) := by
                      rw [hW5]
                      exact ⟨HW4.out.below.setCell (by simp) _, by rw [Below.heap_setCell _ _ _ _ (by simp)]; exact HW4.out.yb, heap_setCell_same _ _ _ _ _ _ HW4.out.mb⟩
                    have hsz3 : wo.heap.size + 1 < w3.heap.size := lt_of_block HW3.out.mb
                    have HD5 : Hid (W5.ownsRow base 51 1 (.slice DA DL DC) (toI ds).length ((toI ds).map (Value.int .u64))) := by
                      show World.ownsRow _ _ _ _ _ _ _
                      refine ownsRow_mono (ownsRow_keep HD.out fun g hg hlt => ?_) (by have := HBS.out; omega)
                      rw [hW5, Below.heap_setCell _ _ _ _ (by simp; omega)]
                    have HR5 : Hid (MRow base W5 u4 ms vs) := HRW.out.later HM5.out.below
                    have HROW5 : Hid (W5.ownsRow base 80 4 u4 q vs) := by have := HR5.out.row; rwa [HLN.out] at this
                    rw [← hW5]
                    obtain ⟨y50, z50, f50⟩ := HM5.out.cells 0
                    obtain ⟨y51, z51, f51⟩ := HM5.out.cells 1
                    obtain ⟨y52, z52, f52⟩ := HM5.out.cells 2
                    obtain ⟨y53, z53, f53⟩ := HM5.out.cells 3
                    simp only [List.getElem?_toArray, List.getElem?_cons_zero, List.getElem?_cons_succ] at z50 z51 z52 z53
                    have HNEWS := Lib.hid (newsm W5 (.int .i64 an) (.int .i64 bn) (.int .i64 cn) (.slice DA DL DC) 80)
                    have hs5 := HM5.out.below.size
                    clear hW5 z43 z42 z41 z40 y40 y41 y42 y43 f40 f41 f42 f43
                    go_wp2_with (at_builtin; refine wpList_append_lies _ rfl _ _ 43 rfl base 80 i0 (.agg #[.int .i64 0, .int .i64 0, .int .i64 0, .slice none 0 0]) 4 48 t43 hi hz0 hz1 hz2 rfl (by decide) _ _ _ rfl (HROW5.out.alloc _) ⟨W5.heap.size, 0, none⟩ 1 1 [.int .i64 an, .int .i64 bn, .int .i64 cn, .slice DA DL DC] rfl rfl HNEWS.out (by intro u hu; simp at hu; rcases hu with rfl | rfl | rfl | rfl <;> rfl) (by omega) (by unfold maxLen; omega) (by omega) (by have := HBS.out; simp; omega) (W5.heap.size + 1) (by simp) ?_)
                    intro g2 cap w6 hown hgrow hat hlt2
                    have HNX : Hid (MRow base w6 (.slice (some ⟨g2, 0, none⟩) (q + 1) cap) (ms ++ [⟨an, bn, cn, ds⟩]) (vs ++ [.int .i64 an, .int .i64 bn, .int .i64 cn, .slice DA DL DC])) :=
                      MRow.next (m := ⟨an, bn, cn, ds⟩) (HR5.out.later (below_al _ _)) (HD5.out.alloc _) (by rw [HLN.out]; exact hown) hgrow
                    have HB6 : Hid (Below w.heap.size w w6) := ((HB.out.trans (HM5.out.below.mono hso)).alloc (by omega) _).grown hgrow (by simp; omega) (fun k hk => by have := HRW.out.row.lt _ hk; have := HBA.out; omega)
                    have HBS6 : Hid (base ≤ w6.heap.size) := by have := hgrow.size; have := HBS.out; show _ ≤ _; simp at *; omega
                    clear hown hgrow hat hlt2
                    go_wp2_with fail
                    go_roundw
                    case rel =>
                      refine ⟨q + 1, ms ++ [(⟨(an : Int), (bn : Int), (cn : Int), ds⟩ : Mat)], vs ++ [.int .i64 (an : Int), .int .i64 (bn : Int), .int .i64 (cn : Int), .slice DA DL DC], by omega, by go_num, ?_, ?_, HNX, HB6, HBS6⟩
                      · show _ = _
                        rw [HT.out]
                        exact matsL_snoc HOK.out (HMR.out.trans (by simp [It.n]))
                      · show _ = _
                        rw [List.length_append, HLN.out]; rfl
                    case measure => simp [intOf]; omega
          · have HR := Lib.hid (HBAD.out (matR_len h4))
            have h4i : ((((yl.length : Nat) : Int)) != 4) = true := by simp; omega
            clear h4
            go_wp2_with fail
            go_ret2
            refine ⟨HB.out.trans ((al2' _ _ _).mono hso), ?_⟩
            rw [HR.out]; rfl
        · have HR := Lib.hid (HBAD.out (matR_kind hk3))
          have hb : (yk != 3) = true := by simp [hk3]
          go_wp2_with fail
          go_ret2
          refine ⟨HB.out.trans ((al2' _ _ _).mono hso), ?_⟩
          rw [HR.out]; rfl
      · obtain rfl : q = m := by omega
        have htk : l.take q = l := List.take_of_length_le (by have := HM.out; omega)
        rw [htk] at HOK
        have HR : Hid (matsR (.mk 3 n s l) = some ms) := by show _ = _; unfold matsR; rw [if_pos (show (It.mk 3 n s l).kind = 3 from rfl)]; exact HOK.out
        go_wp2_with fail
        go_ret2
        refine ⟨HB.out, ?_⟩
        rw [HR.out]
        exact ⟨_, vs, rfl, HRW.out.mono (by have := HBA.out; omega)⟩
  · have hb : (k != 3) = true := by simp [hk]
    have HO : Hid (matsR (.mk k n s l) = none) := by show _ = _; unfold matsR; rw [if_neg (show ¬ (It.mk k n s l).kind = 3 from hk)]
    go_enter Tryd.func52, Tryd.ntmps52
    go_wp2_with fail
    go_ret2
    refine ⟨below_al _ _, ?_⟩
    rw [HO.out]; rfl

end Go.Proofs.YtakdfjkkeilffaaDoor
