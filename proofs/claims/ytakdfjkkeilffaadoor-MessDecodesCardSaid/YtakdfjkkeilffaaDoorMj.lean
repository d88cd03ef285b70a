/- A message is written. -/
import Derived.Test.YtakdfjkkeilffaaDoorMi
import Derived.Test.YtakdfjkkeilffaaDoorMe
import Derived.Test.YtakdfjkkeilffaaDoorMg
set_option linter.unusedVariables false
set_option linter.unusedSimpArgs false
namespace Go.Proofs.YtakdfjkkeilffaaDoor
open Go.RowKit

/-- a message's cells, one by one -/
theorem mcells_at {m : Msg} {a b c : Value} {W : World} {mb : Nat} (h : W.heap[mb]? = some (.cells (mcells m a b c) 46 (0, 0))) :
    W.cell? ⟨mb, 0, none⟩ = some (.int .i64 m.kind) ∧ W.cell? ⟨mb, 1, none⟩ = some (.int .i64 m.n0) ∧ W.cell? ⟨mb, 2, none⟩ = some (.int .i64 m.n1) ∧ W.cell? ⟨mb, 3, none⟩ = some (.int .i64 m.n2) ∧ W.cell? ⟨mb, 4, none⟩ = some (.int .i64 m.n3) ∧ W.cell? ⟨mb, 5, none⟩ = some (.int .i64 m.n4) ∧ W.cell? ⟨mb, 6, none⟩ = some (.int .i64 m.n5) ∧ W.cell? ⟨mb, 7, none⟩ = some (.int .i64 m.n6) ∧ W.cell? ⟨mb, 8, none⟩ = some a ∧ W.cell? ⟨mb, 9, none⟩ = some b ∧ W.cell? ⟨mb, 10, none⟩ = some c := by
  refine ⟨?_, ?_, ?_, ?_, ?_, ?_, ?_, ?_, ?_, ?_, ?_⟩ <;> (rw [cell_of_row _ _ _ _ _ _ h]; rfl)

set_option maxRecDepth 100000 in
set_option maxHeartbeats 3200000 in
theorem encm_any (m : Msg) (a b c : Value) (w : World) (h : MsgIn w a b c m) (hmo : MostAt w) (h0 : 1 < w.heap.size) :
    Calls Tryd.prog 26 #[.agg (mcells m a b c)] w fun e w' => e = .returned (.tuple #[.string (encM m).1, .int .i64 ((encM m).2 : Nat)]) ∧ Below w.heap.size w w' := by
  obtain ⟨A1, L1, C1, ha⟩ : ∃ A l c, a = .slice A l c := by obtain ⟨_, A, c, e, _⟩ := h.ws; exact ⟨A, _, c, e⟩
  obtain ⟨A2, L2, C2, hb⟩ : ∃ A l c, b = .slice A l c := by obtain ⟨_, _, A, c, e, _⟩ := h.ms; exact ⟨A, _, c, e⟩
  obtain ⟨A3, L3, C3, hc⟩ : ∃ A l d, c = .slice A l d := by obtain ⟨_, A, c, e, _⟩ := h.ds; exact ⟨A, _, c, e⟩
  obtain ⟨W0, hW0⟩ : ∃ W0, W0 = w.alloc (.cells (mcells m a b c) 46) := ⟨_, rfl⟩
  have hB0 : Below w.heap.size w W0 := by rw [hW0]; exact below_al _ _
  have hs0 : W0.heap.size = w.heap.size + 1 := by rw [hW0]; simp
  have hmb : W0.heap[w.heap.size]? = some (.cells (mcells m a b c) 46 (0, 0)) := by rw [hW0]; exact heap_alloc_new _ _
  have HLO := Lib.hid (long_any m a b c W0 (h.later hB0))
  have HMA : Hid (∀ w1, Below W0.heap.size W0 w1 → Calls Tryd.prog 43 #[.agg (mcells m a b c)] w1 fun e w' => e = .returned (.bool (mayM m)) ∧ Below w1.heap.size w1 w') := fun w1 hb1 => by
    have hb : Below w.heap.size w w1 := hB0.trans (hb1.mono (by omega))
    exact may_any m a b c w1 (h.later hb) (hmo.later h0 hb) (by have := hb.size; omega)
  have HM := Lib.hid h
  have HB0 := Lib.hid hB0
  have HMB := Lib.hid hmb
  have HW0 := Lib.hid hW0
  have HRE : Hid (encM m = if longM m then (⟨#[]⟩, 2) else if mayM m then encR (msgIt m) else (⟨#[]⟩, 200)) := rfl
  obtain ⟨t1, ht1⟩ : ∃ t, t = longM m := ⟨_, rfl⟩
  obtain ⟨t2, ht2⟩ : ∃ t, t = mayM m := ⟨_, rfl⟩
  rw [← ht1] at HLO HRE
  rw [← ht2] at HMA HRE
  have c0 := mcells_at hmb
  subst ha hb hc
  obtain ⟨x0, x1, x2, x3, x4, x5, x6, x7, x8, x9, x10⟩ := c0
  have HT1 := Lib.hid ht1
  have HT2 := Lib.hid ht2
  clear h hmo hB0 hmb hW0 ht1 ht2
  unfold mcells at HLO HMA HW0 ⊢
  cases t1
  · have HMO : Hid (∀ w1, Below W0.heap.size W0 w1 → w1.heap[w.heap.size]? = some (.cells (mcells m (.slice A1 L1 C1) (.slice A2 L2 C2) (.slice A3 L3 C3)) 46 (0, 0))) := fun w1 hb1 => (hb1.block _ (by omega)).trans HMB.out
    cases t2
    · go_enter Tryd.func26, Tryd.ntmps26
      go_upto_region 1 with (fail)
      rw [← HW0.out]
      go_wp2_with (first
        | (go_at_call 42; refine HLO.out.mono ?_; rintro e w1 ⟨rfl, hb1⟩; obtain ⟨y0, y1, y2, y3, y4, y5, y6, y7, y8, y9, y10⟩ := mcells_at (HMO.out w1 hb1); have HB1 := Lib.hid hb1; clear hb1)
        | (go_at_call 43; refine (HMA.out w1 HB1.out).mono ?_; rintro e w2 ⟨rfl, hb2⟩; have HB2 := Lib.hid hb2; clear hb2))
      go_ret2
      rw [HRE.out]
      exact ⟨rfl, HB0.out.trans ((below_then HB1.out HB2.out).mono (by omega))⟩
    · obtain ⟨f1, f2, f3, f4, f5, f6, f7, f8⟩ := may_facts HT1.out.symm HT2.out.symm
      obtain ⟨kn, hkn⟩ : ∃ kn : Nat, kn = m.kind.toNat := ⟨_, rfl⟩
      have hki : m.kind = (kn : Int) := by omega
      have hkk : isKind m.kind = true := by unfold isKind; simp; omega
      have HFO := Lib.hid (flds_ok m.kind)
      have HKL : Hid (∀ W, Calls Tryd.prog 35 #[.int .i64 m.kind] W fun e w' => e = .returned (.tuple #[.slice (some ⟨W.heap.size, 0, none⟩) (flds m.kind).length (flds m.kind).length, .bool true]) ∧ w' = W.alloc (.cells ((flds m.kind).map (Value.int .i64)).toArray 3)) := fun W => kindl_any m.kind W hkk
      have HMI : Hid (msgIt m = itList (itNum kn :: (flds m.kind).map fun f => fieldIt m f.toNat)) := by show msgIt m = _; unfold msgIt; rw [hkn]
      have HFA : Hid (∀ (W : World) (f : Nat), Below w.heap.size w W → f < 10 → Calls Tryd.prog 45 #[.agg (mcells m (.slice A1 L1 C1) (.slice A2 L2 C2) (.slice A3 L3 C3)), .int .i64 f] W (ItemPost W (fieldIt m f))) := fun W f hb hf => field_any m _ _ _ W f (HM.out.later hb) hf f1 f2 f3 f4 f5 f6
      obtain ⟨fl, hfl⟩ : ∃ fl, fl = flds m.kind := ⟨_, rfl⟩
      rw [← hfl] at HFO HKL HMI
      rw [hki] at HKL x0 HW0 HLO HMA
      have HKI := Lib.hid hki
      obtain ⟨n, hn⟩ : ∃ n, n = fl.length := ⟨_, rfl⟩
      rw [← hn] at HFO HKL
      have hn6 := HFO.out.1
      have HFO2 := Lib.hid HFO.out.2
      have HN := Lib.hid hn
      have hknl : kn < 9223372036854775808 := by omega
      obtain ⟨L, hL⟩ : ∃ L, L = (itNum kn :: fl.map fun f => fieldIt m f.toNat) := ⟨_, rfl⟩
      rw [← hL] at HMI
      have HLL := Lib.hid hL
      have HSH := Lib.hid (short_msg m)
      unfold mcells at HFA
      obtain ⟨j0, hj0, hjz0, hjz1, hjz2⟩ := info_parts i57
      clear HFO hn hfl hkn hki hkk f1 f2 f3 f4 f5 f6 f7 f8 hL
      rw [HKI.out]
      go_enter Tryd.func26, Tryd.ntmps26
      go_upto_region 1 with (fail)
      rw [← HW0.out]
      go_wp2_with (first
        | (go_at_call 42; refine HLO.out.mono ?_; rintro e w1 ⟨rfl, hb1⟩; obtain ⟨y0, y1, y2, y3, y4, y5, y6, y7, y8, y9, y10⟩ := mcells_at (HMO.out w1 hb1); rw [HKI.out] at y0; have HB1 := Lib.hid hb1; clear hb1)
        | (go_at_call 43; refine (HMA.out w1 HB1.out).mono ?_; rintro e w2 ⟨rfl, hb2⟩; have HBB2 := Lib.hid (below_then HB1.out hb2); obtain ⟨z0, z1, z2, z3, z4, z5, z6, z7, z8, z9, z10⟩ := mcells_at (HMO.out w2 HBB2.out); rw [HKI.out] at z0; clear hb2)
        | (go_at_call 44; refine (item44_any kn w2 hknl).mono ?_; rintro e w3 ⟨rfl, hb3⟩; have HBB3 := Lib.hid (below_then HBB2.out hb3); clear hb3; have u0 : ∀ o1 o2, ((w3.alloc o1).alloc o2).cell? ⟨w.heap.size, 0, none⟩ = some (.int .i64 (kn : Int)) := (fun o1 o2 => by { have hq := below_then HBB3.out (al2 w3 o1 o2); rw [← HKI.out]; exact (mcells_at (HMO.out _ hq)).1 }))
        | (go_at_call 35; refine (HKL.out _).mono ?_; rintro e w5 ⟨rfl, hw5⟩))
      obtain ⟨gs, hgs⟩ : ∃ gs, gs = w3.heap.size := ⟨_, rfl⟩
      have hgw : w.heap.size < gs := by have := HBB3.out.size; omega
      rw [← hgs]
      have hE0 : ERow gs (gs + 3) (gs + 1) w (((w3.alloc (.cells #[.int .i64 1, .int .u64 kn, .string ⟨#[]⟩, .slice none 0 0] 57)).alloc (.cells #[.int .i64 3, .int .u64 0, .string ⟨#[]⟩, .slice (some ⟨gs, 0, none⟩) 1 1] 57)).alloc (.cells (fl.map (Value.int .i64)).toArray 3)) (.slice (some ⟨gs, 0, none⟩) 1 1) (L.take 1) [.int .i64 1, .int .u64 kn, .string ⟨#[]⟩, .slice none 0 0] := by
        have e1 : L.take 1 = [.mk 1 kn ⟨#[]⟩ []] := by rw [HLL.out]; rfl
        rw [e1]
        refine ERow.first ?_ (by omega) ?_ ?_ (by omega) (by omega) (by omega) (by simp; omega)
        · exact (HB0.out.trans (HBB3.out.mono (by omega))).trans ((al2 _ _ _).alloc (by simp; omega) _ |>.mono (by omega))
        · rw [Below.heap_alloc _ _ _ (by simp; omega), Below.heap_alloc _ _ _ (by simp; omega), hgs]; exact heap_alloc_new _ _
        · rw [Below.heap_alloc _ _ _ (by simp; omega), hgs]
          have := heap_alloc_new (w3.alloc (.cells #[.int .i64 1, .int .u64 kn, .string ⟨#[]⟩, .slice none 0 0] 57)) (.cells #[.int .i64 3, .int .u64 0, .string ⟨#[]⟩, .slice (some ⟨w3.heap.size, 0, none⟩) 1 1] 57)
          rwa [show (w3.alloc (.cells #[.int .i64 1, .int .u64 kn, .string ⟨#[]⟩, .slice none 0 0] 57)).heap.size = w3.heap.size + 1 from by simp] at this
      have hM0 : (((w3.alloc (.cells #[.int .i64 1, .int .u64 kn, .string ⟨#[]⟩, .slice none 0 0] 57)).alloc (.cells #[.int .i64 3, .int .u64 0, .string ⟨#[]⟩, .slice (some ⟨gs, 0, none⟩) 1 1] 57)).alloc (.cells (fl.map (Value.int .i64)).toArray 3)).heap[w.heap.size]? = some (.cells (mcells m (.slice A1 L1 C1) (.slice A2 L2 C2) (.slice A3 L3 C3)) 46 (0, 0)) := by
        rw [Below.heap_alloc _ _ _ (by simp; omega), Below.heap_alloc _ _ _ (by simp; omega), Below.heap_alloc _ _ _ (by omega)]
        exact HMO.out _ HBB3.out
      have hF0 : (((w3.alloc (.cells #[.int .i64 1, .int .u64 kn, .string ⟨#[]⟩, .slice none 0 0] 57)).alloc (.cells #[.int .i64 3, .int .u64 0, .string ⟨#[]⟩, .slice (some ⟨gs, 0, none⟩) 1 1] 57)).alloc (.cells (fl.map (Value.int .i64)).toArray 3)).heap[gs + 1 + 1]? = some (.cells (fl.map (Value.int .i64)).toArray 3 (0, 0)) := by
        have := heap_alloc_new ((w3.alloc (.cells #[.int .i64 1, .int .u64 kn, .string ⟨#[]⟩, .slice none 0 0] 57)).alloc (.cells #[.int .i64 3, .int .u64 0, .string ⟨#[]⟩, .slice (some ⟨gs, 0, none⟩) 1 1] 57)) (.cells (fl.map (Value.int .i64)).toArray 3)
        rwa [show ((w3.alloc (.cells #[.int .i64 1, .int .u64 kn, .string ⟨#[]⟩, .slice none 0 0] 57)).alloc (.cells #[.int .i64 3, .int .u64 0, .string ⟨#[]⟩, .slice (some ⟨gs, 0, none⟩) 1 1] 57)).heap.size = gs + 1 + 1 from by simp; omega] at this
      have HE0 := Lib.hid hE0
      have HM0 := Lib.hid hM0
      have HF0 := Lib.hid hF0
      rw [HKI.out] at HFA
      obtain ⟨base, hbase⟩ : ∃ base, base = gs + 3 := ⟨_, rfl⟩
      rw [← hbase] at HE0
      clear hE0 hM0 hF0 hgs hw5 u0 x0 x1 x2 x3 x4 x5 x6 x7 x8 x9 x10 y0 y1 y2 y3 y4 y5 y6 y7 y8 y9 y10 z0 z1 z2 z3 z4 z5 z6 z7 z8 z9 z10
      go_loopw [27] (fun i wr => ∃ k : Nat, ∃ V vs, k ≤ n ∧ i = .int .i64 k ∧ Hid (ERow gs base (gs + 1) w wr V (L.take (k + 1)) vs) ∧ Hid (wr.heap[w.heap.size]? = some (.cells (mcells m (.slice A1 L1 C1) (.slice A2 L2 C2) (.slice A3 L3 C3)) 46 (0, 0))) ∧ Hid (wr.heap[gs + 1 + 1]? = some (.cells (fl.map (Value.int .i64)).toArray 3 (0, 0)))) (fun i _ => n - (intOf i).toNat)
      case atStart => exact ⟨0, _, _, by omega, rfl, HE0.out, HM0.out, HF0.out⟩
      case round =>
        obtain ⟨k, V, vs, hk, rfl, HR, HMB1, HFB⟩ := hrel
        obtain ⟨wo, rfl⟩ : ∃ wo : World, wo = wr := ⟨_, rfl⟩
        by_cases hlt : k < n
        · have hkl : k < fl.length := by have := HN.out; omega
          have hfm := HFO2.out fl[k] (List.getElem_mem hkl)
          obtain ⟨f, hf⟩ : ∃ f : Nat, fl[k] = (f : Int) := ⟨fl[k].toNat, by omega⟩
          have hf10 : f < 10 := by omega
          have d0 : wo.cell? ⟨gs + 1 + 1, k, none⟩ = some (.int .i64 (f : Int)) := by
            rw [cell_of_row _ _ _ _ _ _ HFB.out, ← hf]; simp [hkl]
          obtain ⟨y0, y1, y2, y3, y4, y5, y6, y7, y8, y9, y10⟩ := mcells_at HMB1.out
          rw [HKI.out] at y0
          obtain ⟨xs, hxs⟩ : ∃ xs, xs = L.take (k + 1) := ⟨_, rfl⟩
          rw [← hxs] at HR
          have hlen : xs.length ≤ 16384 := by rw [hxs]; simp; omega
          have HXS : Hid (xs ++ [fieldIt m f] = L.take (k + 1 + 1)) := by
            show _ = _
            have hkL : k + 1 < L.length := by rw [HLL.out]; simp; omega
            rw [List.take_succ_eq_append_getElem hkL, hxs]
            congr 2
            have : L[k + 1] = ((itNum kn :: fl.map fun f => fieldIt m f.toNat) : List It)[k + 1]'(by simp; omega) := by
              congr 1
            rw [this]; simp [hf]
          clear hxs hfm hf
          obtain ⟨q0, q1, q2, q3, q4⟩ := HR.out.cells
          have HCA : Hid (Calls Tryd.prog 45 #[.agg #[.int .i64 (kn : Int), .int .i64 m.n0, .int .i64 m.n1, .int .i64 m.n2, .int .i64 m.n3, .int .i64 m.n4, .int .i64 m.n5, .int .i64 m.n6, .slice A1 L1 C1, .slice A2 L2 C2, .slice A3 L3 C3], .int .i64 (f : Int)] wo.drew fun e w1 => ∃ v0 v1 v2 v3, e = .returned (.agg #[v0, v1, v2, v3]) ∧ HoldsP (fun g => wo.heap.size ≤ g ∧ g < w1.heap.size) w1 v0 v1 v2 v3 (fieldIt m f) ∧ Below wo.heap.size wo w1) := by
            refine (HFA.out wo.drew f ⟨HR.out.below.os, HR.out.below.tape, HR.out.below.output, HR.out.below.size, HR.out.below.block⟩ hf10).mono ?_
            rintro e w1 ⟨v0, v1, v2, v3, he, hx, hb⟩
            exact ⟨v0, v1, v2, v3, he, hx, ⟨hb.os, hb.tape, hb.output, hb.size, hb.block⟩⟩
          go_wp2_with fail
          go_region_law (first
            | (refine step_call rfl 45 call45 #[.tmp 33, .tmp 34] #[46, 3] rfl #[.agg #[.int .i64 (kn : Int), .int .i64 m.n0, .int .i64 m.n1, .int .i64 m.n2, .int .i64 m.n3, .int .i64 m.n4, .int .i64 m.n5, .int .i64 m.n6, .slice A1 L1 C1, .slice A2 L2 C2, .slice A3 L3 C3], .int .i64 (f : Int)] (by simp [Act.eval, Act.put]) ?_; refine HCA.out.mono ?_; rintro e w1 ⟨v0, v1, v2, v3, rfl, hx, hb1⟩; obtain ⟨xk, xn, xt, xA, xm, xc, rfl, rfl, rfl, rfl⟩ := hx.shape; refine ⟨_, rfl, ?_⟩; have HX := Lib.hid hx; have HL1 := Lib.hid (HR.out.later hb1); have HMB2 : Hid (w1.heap[w.heap.size]? = some (.cells (mcells m (.slice A1 L1 C1) (.slice A2 L2 C2) (.slice A3 L3 C3)) 46 (0, 0))) := ((hb1.block _ (lt_of_block HMB1.out)).trans HMB1.out); have HFB2 : Hid (w1.heap[gs + 1 + 1]? = some (.cells (fl.map (Value.int .i64)).toArray 3 (0, 0))) := ((hb1.block _ (lt_of_block HFB.out)).trans HFB.out); obtain ⟨r0, r1, r2, r3, r4⟩ := HL1.out.cells; have r3a : ∀ ob, (w1.alloc ob).cell? ⟨gs + 1, 3, none⟩ = some V := (fun ob => (World.cell?_of_block (Below.heap_alloc w1 ob _ (lt_of_block HL1.out.box))).trans r3); clear hb1 hx)
            | (refine step_append_lies _ rfl (.tmp 32) (.tmp 36) 55 rfl gs 57 j0 zeroItem 4 56 t55 hj0 hjz0 hjz1 hjz2 rfl (by decide) V xs.length vs (by simp [Act.eval, Act.put]) (HL1.out.row.alloc _) ⟨w1.heap.size, 0, none⟩ 1 1 [.int .i64 xk, .int .u64 xn, .string xt, .slice xA xm xc] (by simp [Act.eval, Act.put]) rfl (news4 _ _ _ _ _ _) (one4 _ _ _ _ _ _) (by omega) (by unfold maxLen; omega) (by omega) (by have h1 := HL1.out.hi; have h2 := HL1.out.lo; simp; omega) (w1.heap.size + 1) (by simp) ?_; intro g2 cap w2 hown hgrow hat hlt2; have HL2 := Lib.hid (HL1.out.later (below_al w1 (.cells #[.int .i64 xk, .int .u64 xn, .string xt, .slice xA xm xc] 57))); have hmid := HL2.out.mid hgrow; have HN := Lib.hid (HL2.out.next (x := fieldIt m f) (HX.out.keep (fun g hg => ⟨by have := HR.out.hi; omega, by simp; omega, fun e => by have := HR.out.row.lt _ e; omega⟩) (fun g hg => Below.heap_alloc _ _ _ hg.2)) hown hgrow (by simpa using hat) hlt2); have HMB3 := Lib.hid ((HL2.out.old hgrow (k := w.heap.size) (by omega) (by omega) (by omega) (.slice (some ⟨g2, 0, none⟩) (xs.length + 1) cap)).trans ((Below.heap_alloc _ _ _ (lt_of_block HMB2.out)).trans HMB2.out)); have HFB3 := Lib.hid ((HL2.out.old hgrow (k := gs + 1 + 1) (by omega) (by omega) (by omega) (.slice (some ⟨g2, 0, none⟩) (xs.length + 1) cap)).trans ((Below.heap_alloc _ _ _ (lt_of_block HFB2.out)).trans HFB2.out)); have z3 := cell_of_row w2 (gs + 1) 3 _ _ _ hmid; have zf : w2.frozen? ⟨gs + 1, 3, none⟩ = false := (by simp only [World.frozen?, hmid]; rfl); simp only [List.getElem?_toArray, List.getElem?_cons_zero, List.getElem?_cons_succ] at z3; clear hown hgrow hat hlt2 hmid))
          all_goals
            go_wp2_with fail
            go_roundw
            case rel =>
              exact ⟨k + 1, _, _, by omega, by go_num, by rw [← HXS.out]; exact HN.out, HMB3.out, HFB3.out⟩
            case measure => simp [intOf]; omega
        · obtain rfl : k = n := by omega
          have htk : L.take (k + 1) = L := List.take_of_length_le (by rw [HLL.out]; have := HN.out; simp; omega)
          rw [htk] at HR
          obtain ⟨VA, VL, VC, rfl⟩ := HR.out.form
          obtain ⟨q0, q1, q2, q3, q4⟩ := HR.out.cells
          have hhold := (HR.out.item (by rw [HLL.out]; have := HN.out; simp; omega)).holds
          rw [← HMI.out] at hhold
          have HEN := Lib.hid (encode_any _ _ _ _ _ wo hhold HSH.out)
          clear hhold htk
          go_wp2_with (go_at_call 28; refine HEN.out.mono ?_; rintro e w9 ⟨rfl, hb9⟩; have HB9 := Lib.hid (below_then HR.out.below hb9); clear hb9)
          go_ret2
          rw [HRE.out]
          exact ⟨rfl, HB9.out⟩
  · go_enter Tryd.func26, Tryd.ntmps26
    go_upto_region 1 with (fail)
    rw [← HW0.out]
    go_wp2_with (go_at_call 42; refine HLO.out.mono ?_; rintro e w1 ⟨rfl, hb1⟩; have HB1 := Lib.hid hb1; clear hb1)
    go_ret2
    rw [HRE.out]
    exact ⟨rfl, HB0.out.trans (HB1.out.mono (by omega))⟩

end Go.Proofs.YtakdfjkkeilffaaDoor
