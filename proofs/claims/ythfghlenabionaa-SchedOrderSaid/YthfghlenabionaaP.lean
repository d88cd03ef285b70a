/- SchedOrder: no job is dealt out ahead of what it needs; all are done, each once. -/
import Derived.Test.YthfghlenabionaaM
set_option linter.unusedVariables false
set_option linter.unusedSimpArgs false
namespace Go.Proofs.Ythfghlenabionaa
open Go.RowKit
variable {w w' : World} {B sb n : Nat} {ps : Nat → Nat} {nds : Nat → List Nat} {wk ls ms now : Int} {st : Nat → JobS}

/-- behind r rounds -/
structure OrderR (w0 : World) (sb n : Nat) (ps : Nat → Nat) (nds : Nat → List Nat) (wk ls ms : Int) (gd : Nat) (r lf : Nat) (st : Nat → JobS) (clock : Int) (w : World) : Prop where
  rep : Rep w w0.heap.size sb n ps nds wk ls ms clock st
  clean : Clean st n
  tries : ∀ j, j < n → (st j).tries ≤ r
  c0 : 0 ≤ clock
  c1 : clock ≤ r
  row : w.ownsRow w0.heap.size 4 1 (.slice (some ⟨gd, 0, none⟩) n n) n (bools st n)
  left : (leftK st n).length = lf
  many : lf + r ≤ n
  below : Below w0.heap.size w0 w

/-- within a round, behind t jobs that were said to be done -/
structure DoneR (w0 wo : World) (sb n : Nat) (ps : Nat → Nat) (nds : Nat → List Nat) (wk ls ms : Int) (gd r lf : Nat) (v : Value) (st1 : Nat → JobS) (js : List Nat) (out : List (Int × Int × Int)) (t : Nat) (w : World) : Prop where
  rep : Rep w w0.heap.size sb n ps nds wk ls ms r (Dn st1 (js.take t))
  row : w.ownsRow w0.heap.size 4 1 (.slice (some ⟨gd, 0, none⟩) n n) n (bools (Dn st1 (js.take t)) n)
  out : w.ownsRow wo.heap.size 35 3 v out.length (cells3 out)
  left : (leftK (Dn st1 (js.take t)) n).length + t = lf
  below : Below w0.heap.size w0 w

theorem own_block {w : World} {b e m cap g : Nat} {xs : List Value} (h : w.ownsRow b e 1 (.slice (some ⟨g, 0, none⟩) m cap) m xs) : ∃ cur, w.heap[g]? = some (.cells cur e (0, 0)) := by
  rcases h.2 with ⟨h1, _⟩ | ⟨g', cap', cur, h1, _, h2, _⟩
  · simp at h1
  · simp only [Value.slice.injEq, Option.some.injEq, Addr.mk.injEq, and_true, true_and] at h1
    obtain ⟨rfl, -⟩ := h1
    exact ⟨cur, h2⟩

set_option maxRecDepth 100000 in
set_option maxHeartbeats 3200000 in
theorem order_any (v : Value) (lvs cvs : Nat → Int) (nvs : Nat → Value) (nd : Nat → List Int) (w : World) (h : JobsIn w v n lvs cvs nvs nd) :
    Calls Try.prog 3 #[.agg #[v, .int .i64 wk, .int .i64 ls, .int .i64 ms]] w fun e w' => e = .returned (.bool true) ∧ Below w.heap.size w w' := by
  obtain ⟨w0, hw0⟩ : ∃ w0 : World, w0 = w.alloc (.cells #[v, .int .i64 wk, .int .i64 ls, .int .i64 ms] 24) := ⟨_, rfl⟩
  have hb0 : Below w.heap.size w w0 := by rw [hw0]; exact (Below.refl _ _).alloc (Nat.le_refl _) _
  have hp0 : w0.heap[w.heap.size]? = some (.cells #[v, .int .i64 wk, .int .i64 ls, .int .i64 ms] 24 (0, 0)) := by rw [hw0]; exact heap_alloc_new _ _
  have h0 := h.below hb0
  obtain ⟨A, c, rfl, hm, _⟩ := h.form
  have HW0 := Lib.hid hw0
  have HB0 := Lib.hid hb0
  have HP0 := Lib.hid hp0
  have H0 := Lib.hid h0
  clear h hb0 hp0 h0 hw0
  go_enter Try.func3, Try.ntmps3
  go_wp2_with fail
  rw [← HW0.out]
  refine (works_any w0).mono ?_
  rintro e w1 ⟨rfl, hb1⟩
  have hp := (hb1.block _ (lt_of_block HP0.out)).trans HP0.out
  have p0 : w1.cell? ⟨w.heap.size, 0, none⟩ = some (.slice A n c) := by simp [World.cell?, hp]
  have p1 : w1.cell? ⟨w.heap.size, 1, none⟩ = some (.int .i64 wk) := by simp [World.cell?, hp]
  have p2 : w1.cell? ⟨w.heap.size, 2, none⟩ = some (.int .i64 ls) := by simp [World.cell?, hp]
  have p3 : w1.cell? ⟨w.heap.size, 3, none⟩ = some (.int .i64 ms) := by simp [World.cell?, hp]
  have HB1 := Lib.hid (HB0.out.trans (hb1.mono HB0.out.size))
  have HJ := Lib.hid (H0.out.below hb1)
  have P0 := Lib.hid p0
  have P1 := Lib.hid p1
  clear hb1 hp
  go_wp2_with fail
  refine (new_any _ n _ _ _ nd wk ls ms w1 HJ.out).mono ?_
  rintro e w2 (⟨er, her, rfl, hV, hb2⟩ | ⟨sb, ps, rfl, hV, hrep, hb2⟩)
  · have hne : (er != 0) = true := by rw [bne_iff_ne]; exact her
    have HB2 := Lib.hid (HB1.out.trans (hb2.mono HB1.out.size))
    clear hb2 hV her p0 p1 p2 p3
    go_wp2_with fail
    go_ret
    exact ⟨rfl, HB2.out⟩
  · have HREP := Lib.hid hrep
    have HB2 := Lib.hid hb2
    have HV := Lib.hid hV
    have q0 := (hb2.cell (lt_cell p0)).trans p0
    have hs2 := hb2.size
    clear hrep hb2 hV p0 p1 p2 p3
    by_cases hn : n ≤ 300
    · obtain ⟨i0, hi0, hz0, hz1, hz2⟩ := info_parts Try.info4
      go_wp2_with (at_make; refine wpList_make_full _ rfl _ _ 30 rfl w1.heap.size 4 i0 (.bool false) 1 Try.underlying30 hi0 hz0 hz1 .i64 .i64 n n n rfl rfl rfl rfl ?c1 ?c2 ?c3 ?_)
      case c1 => rw [hz2]; omega
      case c2 => unfold maxLen; omega
      case c3 => exact hs2
      intro w3 hown hgrow
      have hb3 : Below w2.heap.size w2 w3 := ⟨hgrow.os, hgrow.tape, hgrow.output, hgrow.size, fun k hk => hgrow.block k hk (by simp)⟩
      have HORD : Hid (OrderR w1 sb n ps (ndsOf nd) wk ls ms w2.heap.size 0 n st0 0 w3) := by
        refine ⟨HREP.out.below hb3, fun j _ _ => rfl, fun j _ => by simp [st0], by decide, by decide, ?_, left_st0 n, by omega, HB2.out.trans (hb3.mono HB2.out.size)⟩
        have e : (madeCells #[.bool false] n).toList = bools st0 n := by
          rw [toList_madeCells_one]
          simp [bools, st0, List.map_const']
        rw [← e]
        exact hown
      have q0' := (hb3.cell (lt_cell q0)).trans q0
      obtain ⟨gd, hgd⟩ : ∃ gd, gd = w2.heap.size := ⟨_, rfl⟩
      rw [← hgd] at HORD ⊢
      clear hgd hown hgrow HREP q0 hb3
      go_wp2_with fail
      go_loopw [6, 7] (fun ll rr wr => ∃ (r lf : Nat) (st : Nat → JobS) (clock : Int), ll = .int .i64 lf ∧ rr = .int .i64 r ∧ OrderR w1 sb n ps (ndsOf nd) wk ls ms gd r lf st clock wr) (fun ll rr _ => n + 1 - (intOf rr).toNat)
      case atStart => exact ⟨0, n, st0, 0, rfl, rfl, HORD.out⟩
      case round =>
        obtain ⟨r, lf, st, clock, rfl, rfl, hO⟩ := hrel
        obtain ⟨wo, rfl⟩ : ∃ wo : World, wo = wr := ⟨_, rfl⟩
        have hmn := hO.many
        have a0 := (hO.below.cell (lt_cell P0.out)).trans P0.out
        by_cases hlf : 0 < lf
        · have hBi := valid_bds HV.out (show (0 : Int) ≤ (r : Int) by omega) (show (r : Int) ≤ 1073741824 by omega)
          have HBI := Lib.hid hBi
          have HO := Lib.hid hO
          have HNEXT := Lib.hid (next_any hO.rep (r : Int) hBi hO.c0 hO.c1 (fun j hj => by have := hO.tries j hj; omega))
          obtain ⟨js, hjs⟩ : ∃ js, js = opens st (ndsOf nd) (r : Int) n := ⟨_, rfl⟩
          have hlen : 0 < js.length := by rw [hjs]; exact some_open hO.clean hBi.needs (by rw [hO.left]; exact hlf)
          have hlen2 : js.length ≤ n := by rw [hjs]; exact opens_len
          obtain ⟨lx, hlx⟩ : ∃ lx, lx = js.length := ⟨_, rfl⟩
          rw [← hlx] at hlen hlen2
          have HJS := Lib.hid hjs
          have HLX := Lib.hid hlx
          clear hO hBi hjs hlx
          go_wp2_with fail
          refine HNEXT.out.mono ?_
          rintro e w4 ⟨v4, rfl, hrep4, hown4, hfr4⟩
          obtain ⟨out, hout⟩ : ∃ out, out = outK st (ndsOf nd) wk ls ms r n := ⟨_, rfl⟩
          have hol : out.length = lx := by rw [hout, outK_opens, List.length_map, HLX.out, HJS.out]
          rw [← hout, hol] at hown4
          have hol2 : lx = out.length := hol.symm
          have HREP4 := Lib.hid hrep4
          have HOWN4 := Lib.hid hown4
          have HFR4 := Lib.hid hfr4
          have HOUT := Lib.hid hout
          have HOL := Lib.hid hol2
          obtain ⟨gx, cx, rfl, _, hcx⟩ := row3_at hown4 hlen
          have HCX := Lib.hid hcx
          have hB1 : w1.heap.size ≤ wo.heap.size := HO.out.rep.size
          have HDR4 := Lib.hid (hfr4.row HO.out.row (by decide) (by decide))
          have a4 := (hfr4.below.cell (lt_cell P0.out)).trans a0
          have HBW4 := Lib.hid (HO.out.below.trans hfr4.below)
          have b1 := (HBW4.out.cell (lt_cell P1.out)).trans P1.out
          clear hrep4 hown4 hfr4 hout hol hol2 hcx
          have hlx0 : ((lx : Int) == 0) = false := by rw [beq_eq_false_iff_ne]; omega
          go_wp2_with fail
          go_loopw [81] (fun tt wr => ∃ t : Nat, t ≤ lx ∧ tt = .int .i64 t ∧ Below w4.heap.size w4 wr) (fun tt _ => lx - (intOf tt).toNat)
          case atStart => exact ⟨0, by omega, rfl, Below.refl _ _⟩
          case round =>
            obtain ⟨t, ht, rfl, hbt⟩ := hrel
            have HBT := Lib.hid hbt
            clear hbt
            by_cases htl : t < lx
            · obtain ⟨x, hx⟩ : ∃ x, out[t]? = some x := ⟨_, List.getElem?_eq_getElem (by rw [← HOL.out]; exact htl)⟩
              obtain ⟨y0, y1, y2⟩ := cells3_at out t x hx
              obtain ⟨j, hj, hop, hxj⟩ := out_mem (by rw [← HOUT.out]; exact List.mem_of_getElem? hx)
              obtain ⟨hdj, hneeds⟩ := open_done hop
              have e0 := (HBT.out.cell (lt_cell (HCX.out _ _ y0))).trans (HCX.out _ _ y0)
              have e1 := (HBT.out.cell (lt_cell (HCX.out _ _ y1))).trans (HCX.out _ _ y1)
              have e2 := (HBT.out.cell (lt_cell (HCX.out _ _ y2))).trans (HCX.out _ _ y2)
              rw [hxj] at e0 e1 e2
              simp only [leaseOf] at e0 e1 e2
              have hwb := leaseW_bd (wk := wk) (i := j) (j := st j) HV.out.w1
              obtain ⟨u, hu⟩ : ∃ u, u = leaseU ls ms (r : Int) (st j) := ⟨_, rfl⟩
              obtain ⟨b, hb⟩ : ∃ b, b = leaseW wk j (st j) := ⟨_, rfl⟩
              rw [← hu] at e2
              rw [← hb] at e1 hwb
              obtain ⟨hwb0, hwb1⟩ := hwb
              obtain ⟨wq, hwq⟩ : ∃ wq : World, wq = wr.alloc (.cells #[.int .i64 (j : Int), .int .i64 b, .int .i64 u] 35) := ⟨_, rfl⟩
              have hq : Below wr.heap.size wr wq := by rw [hwq]; exact (Below.refl _ _).alloc (Nat.le_refl _) _
              have hq4 := HBT.out.trans (hq.mono HBT.out.size)
              obtain ⟨gd', cd', hgd', _, hcd⟩ := row_at HDR4.out (by omega)
              simp only [Value.slice.injEq, Option.some.injEq, Addr.mk.injEq, and_true, true_and] at hgd'
              obtain ⟨rfl, -⟩ := hgd'
              have e3 := hcd j _ (bools_at j hj)
              rw [hdj] at e3
              have e3' := (hq4.cell (lt_cell e3)).trans e3
              have a5 := (hq4.cell (lt_cell a4)).trans a4
              have b5 := (hq4.cell (lt_cell b1)).trans b1
              obtain ⟨A', c', hA, _, hjobs⟩ := (HJ.out.below HBW4.out).form
              simp only [Value.slice.injEq, true_and] at hA
              obtain ⟨rfl, rfl⟩ := hA
              obtain ⟨g, o, rfl, hel⟩ := hjobs (by omega)
              have hn2 := (hel j hj).2.2
              obtain ⟨nA, nc, hnv, hnm, hni⟩ := (HJ.out.below HBW4.out).needs j hj
              rw [hnv] at hn2
              have e6 := (hq4.cell (lt_cell hn2)).trans hn2
              have HNI := Lib.hid hni
              have HND : Hid (∀ (s : Nat) (y : Int), (nd j)[s]? = some y → ∃ yn : Nat, y = (yn : Int) ∧ yn < n ∧ wq.cell? ⟨gd, yn, none⟩ = some (.bool true)) := by
                show ∀ (s : Nat) (y : Int), (nd j)[s]? = some y → ∃ yn : Nat, y = (yn : Int) ∧ yn < n ∧ wq.cell? ⟨gd, yn, none⟩ = some (.bool true)
                intro s y hy
                have hmem := List.mem_of_getElem? hy
                obtain ⟨h1, h2⟩ := HV.out.needs j hj y hmem
                obtain ⟨yn, rfl⟩ := Int.eq_ofNat_of_zero_le h1
                have h3 := hneeds yn (List.mem_map.2 ⟨_, hmem, by simp⟩)
                have h4 := hcd yn _ (bools_at yn (by omega))
                rw [h3] at h4
                exact ⟨yn, rfl, by omega, (hq4.cell (lt_cell h4)).trans h4⟩
              obtain ⟨m, hml⟩ : ∃ m, m = (nd j).length := ⟨_, rfl⟩
              rw [← hml] at e6 hnm
              have HML := Lib.hid hml
              have HQ4 := Lib.hid hq4
              rw [hwq] at e3' a5 b5 e6
              have HWQ := Lib.hid hwq
              clear hx y0 y1 y2 hop hxj hdj hneeds hu hb hq hq4 hcd e3 hjobs hel hn2 hnv hni hml hwq
              go_wp2_with fail
              rw [← HWQ.out]
              go_loop [122] (fun ss => ∃ q : Nat, q ≤ m ∧ ss = .int .i64 q) (fun ss => m - (intOf ss).toNat)
              case atStart => exact ⟨0, by omega, rfl⟩
              case round =>
                obtain ⟨q, hq, rfl⟩ := hrel
                by_cases hqm : q < m
                · obtain ⟨gn, on, rfl, hnc⟩ := HNI.out (by rw [← HML.out]; omega)
                  have hy0 := hnc q (by rw [← HML.out]; exact hqm)
                  have hget : (nd j)[q]? = some ((nd j).getD q 0) := by rw [List.getD_eq_getElem?_getD, List.getElem?_eq_getElem (by rw [← HML.out]; exact hqm)]; rfl
                  obtain ⟨yn, hyn, hynn, hyc⟩ := HND.out q _ hget
                  rw [hyn] at hy0
                  have hy1 := (HQ4.out.cell (lt_cell hy0)).trans hy0
                  clear hnc hy0 hget hyn
                  go_wp2_with fail
                  go_round
                  case rel => exact ⟨q + 1, by omega, by go_num⟩
                  case measure => simp [intOf]; omega
                · go_wp2_with fail
                  go_roundw
                  case rel =>
                    first
                      | exact ⟨t + 1, by omega, by go_num, HQ4.out⟩
                      | ((repeat apply Exists.intro)
                         refine ⟨⟨t + 1, by omega, ?g, HQ4.out⟩, ?e⟩
                         case e => repeat (first | rfl | refine ⟨rfl, ?_⟩)
                         case g => go_num)
                  case measure => simp [intOf]; omega
            · obtain rfl : lx = t := by omega
              have HS : Hid (DoneR w1 wo sb n ps (ndsOf nd) wk ls ms gd r lf (.slice (some ⟨gx, 0, none⟩) lx cx) (stK st (ndsOf nd) wk ls ms r n) js out 0 wr) := by
                refine ⟨?_, ?_, ?_, ?_, HBW4.out.trans (HBT.out.mono (Nat.le_trans hB1 HFR4.out.size))⟩
                · exact HREP4.out.below HBT.out
                · show wr.ownsRow _ 4 1 _ n (bools (stK st (ndsOf nd) wk ls ms r n) n)
                  rw [bools_stK]
                  exact (Fr.of_below HBT.out HREP4.out.size).row HDR4.out (by decide) (by decide)
                · rw [← HOL.out]; exact (Fr.of_below HBT.out HREP4.out.size).row HOWN4.out (by decide) (by decide)
                · show (leftK (stK st (ndsOf nd) wk ls ms r n) n).length + 0 = lf
                  rw [left_stK]; exact HO.out.left
              obtain ⟨st1, hst1⟩ : ∃ st1, st1 = stK st (ndsOf nd) wk ls ms r n := ⟨_, rfl⟩
              rw [← hst1] at HS
              have HST1 := Lib.hid hst1
              have HEACH : Hid (∀ (t : Nat) x, out[t]? = some x → ∃ j : Nat, js[t]? = some j ∧ j < n ∧ (st1 j).done = false ∧ x.1 = j ∧ j ∉ js.take t) := by
                show ∀ (t : Nat) x, out[t]? = some x → ∃ j : Nat, js[t]? = some j ∧ j < n ∧ (st1 j).done = false ∧ x.1 = j ∧ j ∉ js.take t
                intro t x hx
                rw [HOUT.out, outK_opens, ← HJS.out, List.getElem?_map] at hx
                obtain ⟨j, hj, rfl⟩ := Option.map_eq_some_iff.1 hx
                have hmem : j ∈ opens st (ndsOf nd) (r : Int) n := by rw [← HJS.out]; exact List.mem_of_getElem? hj
                obtain ⟨h1, h2⟩ := opens_mem hmem
                refine ⟨j, hj, h1, ?_, rfl, not_in_take js (by rw [HJS.out]; exact opens_nodup) t j hj⟩
                rw [HST1.out, stK_done]
                exact (open_done h2).1
              clear hst1 a0 a4 b1
              go_wp2_with fail
              go_loopw [6, 135] (fun ll tt wr => ∃ t lc : Nat, t ≤ lx ∧ tt = .int .i64 t ∧ ll = .int .i64 lc ∧ lc + t = lf ∧ DoneR w1 wo sb n ps (ndsOf nd) wk ls ms gd r lf (.slice (some ⟨gx, 0, none⟩) lx cx) st1 js out t wr) (fun _ tt _ => lx - (intOf tt).toNat)
              case atStart => exact ⟨0, lf, by omega, rfl, rfl, by omega, HS.out⟩
              case round =>
                clear HBT HS
                obtain ⟨t, lc, ht, rfl, rfl, hlc, hD⟩ := hrel
                have HLC := Lib.hid hlc
                have HD := Lib.hid hD
                clear hlc hD
                by_cases htl : t < lx
                · obtain ⟨x, hx⟩ : ∃ x, out[t]? = some x := ⟨_, List.getElem?_eq_getElem (by rw [← HOL.out]; exact htl)⟩
                  obtain ⟨y0, y1, y2⟩ := cells3_at out t x hx
                  obtain ⟨j, hjs, hj, hdj, hxj, hnt⟩ := HEACH.out t x hx
                  obtain ⟨gx', cx', hgx', _, hcx⟩ := row3_at HD.out.out (by rw [← HOL.out]; omega)
                  simp only [Value.slice.injEq, Option.some.injEq, Addr.mk.injEq, and_true, true_and] at hgx'
                  obtain ⟨rfl, -⟩ := hgx'
                  have e0 := hcx _ _ y0
                  have e1 := hcx _ _ y1
                  have e2 := hcx _ _ y2
                  rw [hxj] at e0
                  obtain ⟨u, hu⟩ : ∃ u, u = x.2.2 := ⟨_, rfl⟩
                  obtain ⟨b, hb⟩ : ∃ b, b = x.2.1 := ⟨_, rfl⟩
                  rw [← hu] at e2
                  rw [← hb] at e1
                  obtain ⟨wq, hwq⟩ : ∃ wq : World, wq = wr.alloc (.cells #[.int .i64 (j : Int), .int .i64 b, .int .i64 u] 35) := ⟨_, rfl⟩
                  have hq : Below wr.heap.size wr wq := by rw [hwq]; exact (Below.refl _ _).alloc (Nat.le_refl _) _
                  have hbx := heap_alloc_new wr (.cells #[.int .i64 (j : Int), .int .i64 b, .int .i64 u] 35)
                  rw [← hwq] at hbx
                  have hrq := HD.out.rep.below hq
                  have hdt : (Dn st1 (js.take t) j).done = false := by
                    cases h : (Dn st1 (js.take t) j).done with
                    | false => rfl
                    | true =>
                      rw [Dn_done] at h
                      rcases h with h | h
                      · rw [hdj] at h; cases h
                      · exact absurd h hnt
                  have hdi := done_in hrq HBI.out j hj
                  rw [hdt] at hdi
                  have HDI := Lib.hid hdi
                  have HWQ := Lib.hid hwq
                  have HQ := Lib.hid hq
                  have HRQ := Lib.hid hrq
                  have HDT := Lib.hid hdt
                  have HJST := Lib.hid hjs
                  have HBX := Lib.hid hbx
                  clear hx y0 y1 y2 hjs hdj hxj hnt hcx hu hb hq hrq hdt hdi hwq hbx
                  go_wp2_with fail
                  rw [← HWQ.out]
                  refine HDI.out.mono ?_
                  rintro e w8 ⟨rfl, hrep8, hfr8⟩
                  have hrow8 := hfr8.row ((Fr.of_below HQ.out HD.out.rep.size).row HD.out.row (by decide) (by decide)) (by decide) (by decide)
                  have hout8 := hfr8.row ((Fr.of_below HQ.out HD.out.rep.size).row HD.out.out (by decide) (by decide)) (by decide) (by decide)
                  have hd8 := hrow8.cellAt j (by omega)
                  rw [bools_at j hj] at hd8
                  have fd8 := hrow8.frozenAt j
                  obtain ⟨hrow9, hg9⟩ := hrow8.stored j (.bool true)
                  rw [bools_set j hj] at hrow9
                  have hrep9 := hrep8.grown0 hrow8 (by decide) hg9
                  have hx8 := hfr8.cell HBX.out (by decide) (by decide)
                  have hx80 : w8.cell? ⟨wr.heap.size, 0, none⟩ = some (.int .i64 (j : Int)) := by simp [World.cell?, hx8]
                  have hne : Value.ownBlock (.slice (some ⟨gx, 0, none⟩) lx cx) ≠ some gd := (by obtain ⟨cur, hcur⟩ := own_block hrow8; exact row_ne hout8 hcur (by decide))
                  have HD9 : Hid (DoneR w1 wo sb n ps (ndsOf nd) wk ls ms gd r lf (.slice (some ⟨gx, 0, none⟩) lx cx) st1 js out (t + 1) (w8.setCell ⟨gd, j, none⟩ (.bool true))) := by
                    show DoneR w1 wo sb n ps (ndsOf nd) wk ls ms gd r lf (.slice (some ⟨gx, 0, none⟩) lx cx) st1 js out (t + 1) (w8.setCell ⟨gd, j, none⟩ (.bool true))
                    have e := take_get js t j HJST.out
                    have hl := left_doneAt (st := Dn st1 (js.take t)) j n
                    rw [HDT.out] at hl
                    refine ⟨?_, ?_, hout8.kept hg9 (.inr hne), ?_, ((HD.out.below.trans (HQ.out.mono HD.out.rep.size)).trans hfr8.below).setCell (p := ⟨gd, j, none⟩) (hrow8.lt gd rfl).1 _⟩
                    · rw [e, Dn_snoc]; exact hrep9
                    · rw [e, Dn_snoc]; exact hrow9
                    · rw [e, Dn_snoc]
                      have := HD.out.left
                      simp [hj] at hl
                      omega
                  clear hrep8 hfr8 hrow8 hout8 hrow9 hg9 hrep9 hx8 hne
                  have hlc1 : 1 ≤ lc := by have := HD.out.left; have := HLC.out; have := HD9.out.left; omega
                  have hlc2 : lc ≤ 300 := by have := HLC.out; omega
                  go_wp2_with fail
                  go_roundw
                  case rel =>
                    first
                      | exact ⟨t + 1, lc - 1, by omega, by go_num, by go_num, by have := HLC.out; omega, HD9.out⟩
                      | ((repeat apply Exists.intro)
                         refine ⟨⟨t + 1, lc - 1, by omega, ?g1, ?g2, by have := HLC.out; omega, HD9.out⟩, ?e⟩
                         case e => first | rfl | repeat (first | rfl | refine ⟨rfl, ?_⟩)
                         case g1 => go_num
                         case g2 => go_num)
                  case measure => simp [intOf]; omega
                · obtain rfl : lx = t := by omega
                  have hlc1 : lc + 1 ≤ lf := by have := HLC.out; omega
                  have hfull : js.take lx = js := by rw [HLX.out, List.take_length]
                  have HNEW : Hid (OrderR w1 sb n ps (ndsOf nd) wk ls ms gd (r + 1) lc (Dn st1 js) r wr) := by
                    have hD := HD.out
                    have hr := hD.rep
                    have hw := hD.row
                    have hl := hD.left
                    rw [hfull] at hr hw hl
                    refine ⟨hr, ?_, fun j hj => ?_, by omega, by omega, hw, ?_, by omega, hD.below⟩
                    · rw [HST1.out, HJS.out]; exact clean_after HO.out.clean
                    · rw [Dn_tries, HST1.out]; exact Nat.le_trans (tries_stK n j) (by have := HO.out.tries j hj; omega)
                    · have := HLC.out; omega
                  go_wp2_with fail
                  go_roundw
                  case rel =>
                    first
                      | exact ⟨r + 1, lc, _, _, by go_num, by go_num, HNEW.out⟩
                      | ((repeat apply Exists.intro)
                         refine ⟨⟨r + 1, lc, _, _, ?g1, ?g2, HNEW.out⟩, ?e⟩
                         case e => repeat (first | rfl | refine ⟨rfl, ?_⟩)
                         case g1 => go_num
                         case g2 => go_num)
                  case measure => simp [intOf]; omega
        · obtain rfl : lf = 0 := by omega
          have hlf0 := hO.left
          have HBEL := Lib.hid hO.below
          have hBc := valid_bds HV.out hO.c0 (show clock ≤ 1073741824 by have := hO.c1; omega)
          have HLEFT := Lib.hid (left_any hO.rep hBc)
          have HL0 := Lib.hid hlf0
          have hrr := hO.rep
          have hrun := fun (w' : World) (hb : Below wo.heap.size wo w') => running_any (hrr.below hb) hBc 0
          have HRUN := Lib.hid hrun
          rw [hlf0] at HLEFT
          rw [none_run hlf0 0] at HRUN
          clear hO hlf0 hBc hrr hrun hlf
          go_wp2_with fail
          refine HLEFT.out.mono ?_
          rintro e w5 ⟨rfl, hb5⟩
          have HB5 := Lib.hid hb5
          clear hb5
          go_wp2_with fail
          refine (HRUN.out w5 HB5.out).mono ?_
          rintro e w6 ⟨v6, rfl, hown6, hb6⟩
          obtain ⟨A6, c6, rfl⟩ : ∃ A c, v6 = .slice A 0 c := by
            rcases hown6.2 with ⟨rfl, _⟩ | ⟨g, c, cur, rfl, _⟩ <;> exact ⟨_, _, rfl⟩
          have HB6 := Lib.hid (HB5.out.trans (hb6.mono HB5.out.size))
          clear hown6 hb6
          go_wp2_with fail
          go_ret
          exact ⟨rfl, HB1.out.trans ((HBEL.out.trans (HB6.out.mono HBEL.out.size)).mono HB1.out.size)⟩
    · go_wp2_with fail
      go_ret
      exact ⟨rfl, HB1.out.trans (HB2.out.mono HB1.out.size)⟩

end Go.Proofs.Ythfghlenabionaa
