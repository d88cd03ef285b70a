/- SchedOnce: each job is done once. -/
import Derived.Test.YthfghlenabionaaK
set_option linter.unusedVariables false
set_option linter.unusedSimpArgs false
namespace Go.Proofs.Ythfghlenabionaa
open Go.RowKit
variable {w w' : World} {B sb n : Nat} {ps : Nat → Nat} {nds : Nat → List Nat} {wk ls ms now : Int} {st : Nat → JobS}

/-- behind i numbers -/
structure OnceR (w0 : World) (sb n : Nat) (ps : Nat → Nat) (nds : Nat → List Nat) (wk ls ms : Int) (gd : Nat) (i many : Nat) (st : Nat → JobS) (clock : Int) (w : World) : Prop where
  rep : Rep w w0.heap.size sb n ps nds wk ls ms clock st
  own : OwnN st n
  tries : ∀ j, j < n → (st j).tries ≤ i
  c0 : 0 ≤ clock
  c1 : clock ≤ i
  row : w.ownsRow w0.heap.size 4 1 (.slice (some ⟨gd, 0, none⟩) n n) n (bools st n)
  left : (leftK st n).length + many = n
  below : Below w0.heap.size w0 w

/-- what is said of a lease -/
def Fine (st : Nat → JobS) (n : Nat) (t : Int) (x : Int × Int × Int) : Prop := ∃ j, j < n ∧ x.1 = j ∧ (st j).done = false ∧ t ≤ x.2.2

theorem fine_all (hB : Bds n nds wk ls ms now) (ho : OwnN st n) : ∀ x ∈ outK st nds wk ls ms now n ++ runK (stK st nds wk ls ms now n) now n, Fine (stK st nds wk ls ms now n) n now x := by
  intro x hx
  rcases List.mem_append.1 hx with hx | hx
  · obtain ⟨j, hj, hop, rfl⟩ := out_mem hx
    exact ⟨j, hj, rfl, by rw [stK_done]; exact (open_done hop).1, by have := leaseU_ge (now := now) (j := st j) hB.l1 hB.l2; simp only [leaseOf]; omega⟩
  · obtain ⟨j, hj, hr, rfl⟩ := run_mem hx
    obtain ⟨h1, h2, h3⟩ := run_done hr
    exact ⟨j, hj, own_stK ho n j hj h2, h1, h3⟩

set_option maxRecDepth 100000 in
set_option maxHeartbeats 3200000 in
theorem once_any (v lv : Value) (lvs cvs : Nat → Int) (nvs : Nat → Value) (nd : Nat → List Int) (l : List Int) (w : World) (h : JobsIn w v n lvs cvs nvs nd) (hl : IntsIn w lv l) :
    Calls Try.prog 5 #[.agg #[v, .int .i64 wk, .int .i64 ls, .int .i64 ms], lv] w fun e w' => e = .returned (.bool true) ∧ Below w.heap.size w w' := by
  obtain ⟨w0, hw0⟩ : ∃ w0 : World, w0 = w.alloc (.cells #[v, .int .i64 wk, .int .i64 ls, .int .i64 ms] 24) := ⟨_, rfl⟩
  have hb0 : Below w.heap.size w w0 := by rw [hw0]; exact (Below.refl _ _).alloc (Nat.le_refl _) _
  have hp0 : w0.heap[w.heap.size]? = some (.cells #[v, .int .i64 wk, .int .i64 ls, .int .i64 ms] 24 (0, 0)) := by rw [hw0]; exact heap_alloc_new _ _
  have h0 := h.below hb0
  have hl0 := hl.below hb0
  obtain ⟨A, c, rfl, hm, _⟩ := h.form
  obtain ⟨lA, lc, rfl, hlm, _⟩ := hl
  have HW0 := Lib.hid hw0
  have HB0 := Lib.hid hb0
  have HP0 := Lib.hid hp0
  have H0 := Lib.hid h0
  have HL0 := Lib.hid hl0
  clear h hb0 hp0 h0 hl0 hw0
  go_enter Try.func5, Try.ntmps5
  go_wp2_with fail
  rw [← HW0.out]
  refine (works_any w0).mono ?_
  rintro e w1 ⟨rfl, hb1⟩
  have hp := (hb1.block _ (lt_of_block HP0.out)).trans HP0.out
  have p0 : w1.cell? ⟨w.heap.size, 0, none⟩ = some (.slice A n c) := by simp [World.cell?, hp]
  have p1 : w1.cell? ⟨w.heap.size, 1, none⟩ = some (.int .i64 wk) := by simp [World.cell?, hp]
  have p2 : w1.cell? ⟨w.heap.size, 2, none⟩ = some (.int .i64 ls) := by simp [World.cell?, hp]
  have p3 : w1.cell? ⟨w.heap.size, 3, none⟩ = some (.int .i64 ms) := by simp [World.cell?, hp]
  have HP := Lib.hid hp
  have HB1 := Lib.hid (HB0.out.trans (hb1.mono HB0.out.size))
  have HJ := Lib.hid (H0.out.below hb1)
  have HI := Lib.hid (HL0.out.below hb1)
  clear hb1 hp
  by_cases hn : n ≤ 200
  · go_wp2_with fail
    refine (new_any _ n _ _ _ nd wk ls ms w1 HJ.out).mono ?_
    rintro e w2 (⟨er, her, rfl, hV, hb2⟩ | ⟨sb, ps, rfl, hV, hrep, hb2⟩)
    · have hne : (er != 0) = true := by rw [bne_iff_ne]; exact her
      have HB2 := Lib.hid (HB1.out.trans (hb2.mono HB1.out.size))
      clear hb2 hV her p0 p1 p2 p3
      go_wp2_with fail
      go_ret
      exact ⟨rfl, HB2.out⟩
    · obtain ⟨i0, hi0, hz0, hz1, hz2⟩ := info_parts Try.info4
      have HREP := Lib.hid hrep
      have HB2 := Lib.hid hb2
      have HV := Lib.hid hV
      have q0 := (hb2.cell (lt_cell p0)).trans p0
      have hs2 := hb2.size
      clear hrep hb2 hV p0 p1 p2 p3
      go_wp2_with (at_make; refine wpList_make_full _ rfl _ _ 30 rfl w1.heap.size 4 i0 (.bool false) 1 Try.underlying30 hi0 hz0 hz1 .i64 .i64 n n n rfl rfl rfl rfl ?c1 ?c2 ?c3 ?_)
      case c1 => rw [hz2]; omega
      case c2 => unfold maxLen; omega
      case c3 => exact hs2
      intro w3 hown hgrow
      have HOWN := Lib.hid hown
      have HGROW := Lib.hid hgrow
      clear hown hgrow
      have HONE : Hid (OnceR w1 sb n ps (ndsOf nd) wk ls ms w2.heap.size 0 0 st0 0 w3) := by
        have hb3 : Below w2.heap.size w2 w3 := ⟨HGROW.out.os, HGROW.out.tape, HGROW.out.output, HGROW.out.size, fun k hk => HGROW.out.block k hk (by simp)⟩
        refine ⟨HREP.out.below hb3, own_st0 n, fun j _ => by simp [st0], by decide, by decide, ?_, by rw [left_st0]; omega, HB2.out.trans (hb3.mono HB2.out.size)⟩
        have e : (madeCells #[.bool false] n).toList = bools st0 n := by
          rw [toList_madeCells_one]
          simp [bools, st0, List.map_const']
        rw [← e]
        exact HOWN.out
      obtain ⟨m, hml⟩ : ∃ m, m = l.length := ⟨_, rfl⟩
      rw [← hml] at hlm ⊢
      have HML := Lib.hid hml
      obtain ⟨gd, hgd⟩ : ∃ gd, gd = w2.heap.size := ⟨_, rfl⟩
      rw [← hgd] at HONE ⊢
      have hb3' : Below w1.heap.size w1 w3 := HONE.out.below
      clear hml hgd HOWN HGROW HREP
      go_wp2_with fail
      go_loopw [8, 9] (fun mn ii wr => ∃ (i many : Nat) (st : Nat → JobS) (clock : Int), i ≤ m ∧ i ≤ 100 ∧ mn = .int .i64 many ∧ ii = .int .i64 i ∧ OnceR w1 sb n ps (ndsOf nd) wk ls ms gd i many st clock wr) (fun _ ii _ => m - (intOf ii).toNat)
      case atStart => exact ⟨0, 0, st0, 0, by omega, by omega, rfl, rfl, HONE.out⟩
      case round =>
        obtain ⟨i, many, st, clock, him, hi100, rfl, rfl, hO⟩ := hrel
        obtain ⟨wo, rfl⟩ : ∃ wo : World, wo = wr := ⟨_, rfl⟩
        by_cases hlt : i < m ∧ i < 100
        · obtain ⟨hlt1, hlt2⟩ := hlt
          have hBi := valid_bds HV.out (show (0 : Int) ≤ (i : Int) by omega) (show (i : Int) ≤ 1073741824 by omega)
          have HBI := Lib.hid hBi
          have HO := Lib.hid hO
          have hmany : many ≤ n := by have := hO.left; omega
          have HNEXT := Lib.hid (next_any hO.rep (i : Int) hBi hO.c0 hO.c1 (fun j hj => by have := hO.tries j hj; omega))
          clear hO hBi
          go_wp2_with fail
          refine HNEXT.out.mono ?_
          rintro e w4 ⟨v4, rfl, hrep4, hown4, hfr4⟩
          have HREP4 := Lib.hid hrep4
          have HOWN4 := Lib.hid hown4
          have HFR4 := Lib.hid hfr4
          have HRUN := Lib.hid (running_any hrep4 HBI.out (i : Int))
          clear hrep4 hown4 hfr4
          go_wp2_with fail
          refine HRUN.out.mono ?_
          rintro e w5 ⟨v5, rfl, hown5, hb5⟩
          obtain ⟨i1, hi1, hy0, hy1, hy2⟩ := info_parts Try.info35
          have HOWN5 := Lib.hid hown5
          have HB5 := Lib.hid hb5
          have HOWN45 := Lib.hid (HOWN4.out.kept (row := none) ⟨hb5.os, hb5.tape, hb5.output, hb5.size, fun k hk _ => hb5.block k hk⟩ (by cases Value.ownBlock _ <;> simp))
          have hs45 := hb5.size
          have hso := HFR4.out.size
          have z1 := outK_len st (ndsOf nd) wk ls ms i n
          have z2 := runK_len (stK st (ndsOf nd) wk ls ms i n) i n
          have HZ1 := Lib.hid z1
          have HZ2 := Lib.hid z2
          clear hown5 hb5 z1 z2
          go_wp2_with (at_builtin; refine wpList_append_rows w5 rfl _ _ 31 rfl wo.heap.size w4.heap.size 35 i1 (.agg #[.int .i64 0, .int .i64 0, .int .i64 0]) 3 24 Try.underlying31 hi1 hy0 hy1 hy2 rfl (by decide) _ _ _ _ _ _ rfl rfl HOWN45.out HOWN5.out (cells3_one _) ?d1 ?d2 ?d3 ?_)
          case d1 => have := HZ1.out; have := HZ2.out; unfold maxLen; omega
          case d2 => have := HZ1.out; have := HZ2.out; omega
          case d3 => omega
          intro vX wX hownX hgrowX
          obtain ⟨X, hX⟩ : ∃ X, X = outK st (ndsOf nd) wk ls ms i n ++ runK (stK st (ndsOf nd) wk ls ms i n) i n := ⟨_, rfl⟩
          obtain ⟨st1, hst1⟩ : ∃ st1, st1 = stK st (ndsOf nd) wk ls ms i n := ⟨_, rfl⟩
          have hB1 : w1.heap.size ≤ wo.heap.size := HO.out.rep.size
          have HREPX : Hid (Rep wX w1.heap.size sb n ps (ndsOf nd) wk ls ms i st1) := by
            show Rep wX w1.heap.size sb n ps (ndsOf nd) wk ls ms i st1
            rw [hst1]; exact (HREP4.out.below HB5.out).grown0 HOWN45.out (by decide) hgrowX
          have HFRX := Lib.hid ((HFR4.out.trans (Fr.of_below HB5.out HREP4.out.size)).grown0 hB1 HOWN45.out (Nat.le_refl _) hgrowX)
          have HXROW : Hid (wX.ownsRow wo.heap.size 35 3 vX X.length (cells3 X)) := by
            show wX.ownsRow wo.heap.size 35 3 vX X.length (cells3 X)
            rw [hX, List.length_append, cells3_append]; exact hownX
          have HFINE : Hid (∀ x ∈ X, Fine st1 n i x) := by
            show ∀ x ∈ X, Fine st1 n i x
            rw [hX, hst1]; exact fine_all HBI.out HO.out.own
          have HDROW : Hid (wX.ownsRow w1.heap.size 4 1 (.slice (some ⟨gd, 0, none⟩) n n) n (bools st1 n)) := by
            show wX.ownsRow w1.heap.size 4 1 (.slice (some ⟨gd, 0, none⟩) n n) n (bools st1 n)
            rw [hst1, bools_stK]; exact HFRX.out.row HO.out.row (by decide) (by decide)
          have hxl : X.length ≤ 400 := by rw [hX, List.length_append]; have := HZ1.out; have := HZ2.out; omega
          obtain ⟨lx, hlx⟩ : ∃ lx, lx = X.length := ⟨_, rfl⟩
          obtain ⟨A', c', rfl, hxm⟩ := row3_any HXROW.out
          rw [← hlx] at hxl hxm
          have HLX := Lib.hid hlx
          have HST1 := Lib.hid hst1
          rw [← hlx]
          clear hX hst1 hownX hgrowX hlx
          go_wp2_with fail
          go_loopw [74] (fun tt wr => ∃ t : Nat, t ≤ lx ∧ tt = .int .i64 t ∧ Below wX.heap.size wX wr) (fun tt _ => lx - (intOf tt).toNat)
          case atStart => exact ⟨0, by omega, rfl, Below.refl _ _⟩
          case round =>
            obtain ⟨t, ht, rfl, hbt⟩ := hrel
            have HBT := Lib.hid hbt
            clear hbt
            by_cases htl : t < lx
            · obtain ⟨gx, cx, hgx, _, hcx⟩ := row3_at HXROW.out (by rw [← HLX.out]; omega)
              simp only [Value.slice.injEq] at hgx
              obtain ⟨rfl, -, rfl⟩ := hgx
              obtain ⟨x, hx⟩ : ∃ x, X[t]? = some x := ⟨_, List.getElem?_eq_getElem (by rw [← HLX.out]; exact htl)⟩
              obtain ⟨y0, y1, y2⟩ := cells3_at X t x hx
              obtain ⟨j, hj, hxj, hdj, huj⟩ := HFINE.out x (List.mem_of_getElem? hx)
              have e0 := (HBT.out.cell (lt_cell (hcx _ _ y0))).trans (hcx _ _ y0)
              have e1 := (HBT.out.cell (lt_cell (hcx _ _ y1))).trans (hcx _ _ y1)
              have e2 := (HBT.out.cell (lt_cell (hcx _ _ y2))).trans (hcx _ _ y2)
              rw [hxj] at e0
              obtain ⟨u, hu⟩ : ∃ u, u = x.2.2 := ⟨_, rfl⟩
              obtain ⟨b, hb⟩ : ∃ b, b = x.2.1 := ⟨_, rfl⟩
              rw [← hu] at e2 huj
              rw [← hb] at e1
              obtain ⟨gd', cd', hgd', _, hcd⟩ := row_at HDROW.out (by omega)
              simp only [Value.slice.injEq, Option.some.injEq, Addr.mk.injEq, and_true, true_and] at hgd'
              obtain ⟨rfl, -⟩ := hgd'
              have e3 := hcd j _ (bools_at j hj)
              rw [hdj] at e3
              have e3' := (HBT.out.cell (lt_cell e3)).trans e3
              have hlt3 : gx < wr.heap.size := lt_cell e0
              clear hcx hx y0 y1 y2 hxj hdj hu hb hcd e3
              have e4 : (wr.alloc (.cells #[.int .i64 (j : Int), .int .i64 b, .int .i64 u] 35)).cell? ⟨gd, j, none⟩ = some (.bool false) := (World.cell?_of_block (w := wr) (Below.heap_alloc _ _ _ (lt_cell e3'))).trans e3'
              clear e3'
              go_wp2_with fail
              go_roundw
              case rel => exact ⟨t + 1, by omega, by go_num, HBT.out.alloc HBT.out.size _⟩
              case measure => simp [intOf]; omega
            · obtain rfl : t = lx := by omega
              obtain ⟨lA', lc', hla, _, hli⟩ := HI.out
              simp only [Value.slice.injEq, true_and] at hla
              obtain ⟨rfl, rfl⟩ := hla
              obtain ⟨ga, oa, rfl, hca⟩ := hli (by rw [← HML.out]; omega)
              have hx0 := hca i (by rw [← HML.out]; exact hlt1)
              have HBW := Lib.hid ((HO.out.below.trans HFRX.out.below).trans (HBT.out.mono (Nat.le_trans hB1 HFRX.out.size)))
              have hx1 := (HBW.out.cell (lt_cell hx0)).trans hx0
              obtain ⟨x, hx⟩ : ∃ x, x = l.getD i 0 := ⟨_, rfl⟩
              rw [← hx] at hx1
              have HREPR := Lib.hid (HREPX.out.below HBT.out)
              have HDR := Lib.hid ((Fr.of_below HBT.out HREPX.out.size).row HDROW.out (by decide) (by decide))
              have HOWN1 : Hid (OwnN st1 n) := by show OwnN st1 n; rw [HST1.out]; exact own_stK HO.out.own n
              have HTR1 : Hid (∀ j, j < n → (st1 j).tries ≤ i + 1) := by
                show ∀ j, j < n → (st1 j).tries ≤ i + 1
                intro j hj
                rw [HST1.out]
                have h1 := HO.out.tries j hj
                exact Nat.le_trans (tries_stK n j) (by omega)
              have HLEFT1 : Hid ((leftK st1 n).length + many = n) := by show (leftK st1 n).length + many = n; rw [HST1.out, left_stK]; exact HO.out.left
              have hx0a : w1.cell? ⟨ga, oa + i, none⟩ = some (.int .i64 x) := by rw [hx]; exact hx0
              clear hx0 hli hca hx
              by_cases hxr : x < 0 ∨ (n : Int) ≤ x
              · have HDO := Lib.hid (done_out HREPR.out HBI.out x hxr)
                go_wp2_with fail
                refine HDO.out.mono ?_
                rintro e w8 ⟨rfl, rfl⟩
                have HFINAL : Hid (OnceR w1 sb n ps (ndsOf nd) wk ls ms gd (i + 1) many st1 i wr) :=
                  ⟨HREPR.out, HOWN1.out, HTR1.out, by omega, by omega, HDR.out, HLEFT1.out, HBW.out⟩
                by_cases hx0 : x < 0
                · clear hxr
                  go_wp2_with fail
                  go_roundw
                  case rel => exact ⟨i + 1, many, st1, i, by omega, by omega, by go_num, by go_num, HFINAL.out⟩
                  case measure => simp [intOf]; omega
                · have hxn : (n : Int) ≤ x := by omega
                  have hx00 : 0 ≤ x := by omega
                  clear hxr hx0
                  go_wp2_with fail
                  go_roundw
                  case rel => exact ⟨i + 1, many, st1, i, by omega, by omega, by go_num, by go_num, HFINAL.out⟩
                  case measure => simp [intOf]; omega
              · obtain ⟨xn, hxn⟩ := Int.eq_ofNat_of_zero_le (show 0 ≤ x by omega)
                subst hxn
                have hxlt : xn < n := by omega
                clear hxr
                have hdi := done_in HREPR.out HBI.out xn hxlt
                obtain ⟨d, hd⟩ : ∃ d, d = (st1 xn).done := ⟨_, rfl⟩
                rw [← hd] at hdi
                have HDI := Lib.hid hdi
                have HD := Lib.hid hd
                clear hdi hd
                have hx1a := hx0a
                cases d
                · go_wp2_with fail
                  refine HDI.out.mono ?_
                  rintro e w8 ⟨rfl, hrep8, hfr8⟩
                  have hx8 := (hfr8.below.cell (lt_cell hx1a)).trans hx1
                  have hr8 := hfr8.row HDR.out (by decide) (by decide)
                  have hd8 := hr8.cellAt xn (by omega)
                  rw [bools_at xn hxlt, ← HD.out] at hd8
                  have fd8 := hr8.frozenAt xn
                  obtain ⟨hr9, hg9⟩ := hr8.stored xn (.bool true)
                  rw [bools_set xn hxlt] at hr9
                  have hrep9 := hrep8.grown0 hr8 (by decide) hg9
                  have hlv := left_any hrep9 HBI.out
                  obtain ⟨L2, hL2⟩ : ∃ L2, L2 = (leftK (doneAt st1 xn) n).length := ⟨_, rfl⟩
                  have hla := left_doneAt (st := st1) xn n
                  rw [← hL2] at hlv hla
                  have hl1 := HLEFT1.out
                  rw [← HD.out] at hla
                  have hneq : ((L2 : Int) != (n : Int) - ((many : Int) + 1)) = false := by rw [bne_eq_false_iff_eq]; simp [hxlt] at hla; omega
                  have hsum : L2 + many + 1 = n := by simp [hxlt] at hla; omega
                  have HLV := Lib.hid hlv
                  have HREP9 := Lib.hid hrep9
                  have HR9 := Lib.hid hr9
                  have HSUM : Hid ((leftK (doneAt st1 xn) n).length + many + 1 = n) := by show (leftK (doneAt st1 xn) n).length + many + 1 = n; rw [← hL2]; exact hsum
                  have HB9 : Hid (Below w1.heap.size w1 (w8.setCell ⟨gd, xn, none⟩ (.bool true))) := by
                    show Below w1.heap.size w1 (w8.setCell ⟨gd, xn, none⟩ (.bool true))
                    exact (HBW.out.trans hfr8.below).setCell (p := ⟨gd, xn, none⟩) (hr8.lt gd rfl).1 _
                  clear hrep8 hfr8 hr8 hr9 hg9 hrep9 hlv hL2 hla hl1 hsum
                  go_wp2_with fail
                  refine HLV.out.mono ?_
                  rintro e w10 ⟨rfl, hb10⟩
                  have HFINAL : Hid (OnceR w1 sb n ps (ndsOf nd) wk ls ms gd (i + 1) (many + 1) (doneAt st1 xn) i w10) :=
                    ⟨HREP9.out.below hb10, own_doneAt HOWN1.out xn, fun j hj => by rw [tries_doneAt]; exact HTR1.out j hj, by omega, by omega, (Fr.of_below hb10 HREP9.out.size).row HR9.out (by decide) (by decide), HSUM.out, HB9.out.trans (hb10.mono HREP9.out.size)⟩
                  clear hb10
                  go_wp2_with fail
                  go_roundw
                  case rel => exact ⟨i + 1, many + 1, doneAt st1 xn, i, by omega, by omega, by go_num, by go_num, HFINAL.out⟩
                  case measure => simp [intOf]; omega
                · go_wp2_with fail
                  refine HDI.out.mono ?_
                  rintro e w8 ⟨rfl, hrep8, hfr8⟩
                  have hx8 := (hfr8.below.cell (lt_cell hx1a)).trans hx1
                  have hr8 := hfr8.row HDR.out (by decide) (by decide)
                  have hd8 := hr8.cellAt xn (by omega)
                  rw [bools_at xn hxlt, ← HD.out] at hd8
                  have fd8 := hr8.frozenAt xn
                  obtain ⟨hr9, hg9⟩ := hr8.stored xn (.bool true)
                  rw [bools_set xn hxlt] at hr9
                  have hrep9 := hrep8.grown0 hr8 (by decide) hg9
                  have hlv := left_any hrep9 HBI.out
                  obtain ⟨L2, hL2⟩ : ∃ L2, L2 = (leftK (doneAt st1 xn) n).length := ⟨_, rfl⟩
                  have hla := left_doneAt (st := st1) xn n
                  rw [← hL2] at hlv hla
                  have hl1 := HLEFT1.out
                  rw [← HD.out] at hla
                  have hneq : ((L2 : Int) != (n : Int) - (many : Int)) = false := by rw [bne_eq_false_iff_eq]; simp [hxlt] at hla; omega
                  have hsum : L2 + many = n := by simp [hxlt] at hla; omega
                  have HLV := Lib.hid hlv
                  have HREP9 := Lib.hid hrep9
                  have HR9 := Lib.hid hr9
                  have HSUM : Hid ((leftK (doneAt st1 xn) n).length + many = n) := by show (leftK (doneAt st1 xn) n).length + many = n; rw [← hL2]; exact hsum
                  have HB9 : Hid (Below w1.heap.size w1 (w8.setCell ⟨gd, xn, none⟩ (.bool true))) := by
                    show Below w1.heap.size w1 (w8.setCell ⟨gd, xn, none⟩ (.bool true))
                    exact (HBW.out.trans hfr8.below).setCell (p := ⟨gd, xn, none⟩) (hr8.lt gd rfl).1 _
                  clear hrep8 hfr8 hr8 hr9 hg9 hrep9 hlv hL2 hla hl1 hsum
                  go_wp2_with fail
                  refine HLV.out.mono ?_
                  rintro e w10 ⟨rfl, hb10⟩
                  have HFINAL : Hid (OnceR w1 sb n ps (ndsOf nd) wk ls ms gd (i + 1) (many) (doneAt st1 xn) i w10) :=
                    ⟨HREP9.out.below hb10, own_doneAt HOWN1.out xn, fun j hj => by rw [tries_doneAt]; exact HTR1.out j hj, by omega, by omega, (Fr.of_below hb10 HREP9.out.size).row HR9.out (by decide) (by decide), HSUM.out, HB9.out.trans (hb10.mono HREP9.out.size)⟩
                  clear hb10
                  go_wp2_with fail
                  go_roundw
                  case rel => exact ⟨i + 1, many, doneAt st1 xn, i, by omega, by omega, by go_num, by go_num, HFINAL.out⟩
                  case measure => simp [intOf]; omega
        · have HO := Lib.hid hO
          have hstop : (m : Int) ≤ i ∨ (100 : Int) ≤ i := by omega
          have HSTOP := Lib.hid hstop
          clear hO hlt hstop
          by_cases hmi : (i : Int) < m
          · have : (100 : Int) ≤ i := by have := HSTOP.out; omega
            go_wp2_with fail
            go_ret
            exact ⟨rfl, HB1.out.trans (HO.out.below.mono HB1.out.size)⟩
          · go_wp2_with fail
            go_ret
            exact ⟨rfl, HB1.out.trans (HO.out.below.mono HB1.out.size)⟩
  · go_wp2_with fail
    go_ret
    exact ⟨rfl, HB1.out⟩

end Go.Proofs.Ythfghlenabionaa
