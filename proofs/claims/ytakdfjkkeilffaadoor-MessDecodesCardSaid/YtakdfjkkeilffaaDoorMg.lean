/- Messages that may be. -/
import Derived.Test.YtakdfjkkeilffaaDoorMf
import Derived.Maps.Own
import Derived.Maps.RangeWalk
set_option linter.unusedVariables false
set_option linter.unusedSimpArgs false
namespace Go.Proofs.YtakdfjkkeilffaaDoor
open Go.RowKit

def mostN (f : Nat) : Nat := if f = 6 then 1 else 1073741824
/-- the table of greatest numbers lies where it lies -/
def MostAt (w : World) : Prop := ∀ f, f < 7 → w.cell? ⟨1, f, none⟩ = some (.int .u64 ((mostN f : Nat) : Int))
theorem MostAt.later {w w' : World} (h : MostAt w) (h0 : 1 < w.heap.size) (hb : Below w.heap.size w w') : MostAt w' := fun f hf => (hb.cell (p := ⟨1, f, none⟩) h0).trans (h f hf)

def okF (m : Msg) (f : Nat) : Bool := decide (0 ≤ m.num f) && decide (m.num f ≤ (mostN f : Int)) && (decide (m.num f = 0) || decide ((f : Int) ∈ flds m.kind))
def tick (n : Int) : Bool := decide (0 ≤ n ∧ n ≤ 1073741824)
def okMat (y : Mat) : Bool := tick y.lv && tick y.ce && tick y.ep
def okL (m : Msg) (f : Int) (n : Nat) : Bool := decide (n = 0) || decide (f ∈ flds m.kind)
def mayM (m : Msg) : Bool := isKind m.kind && (List.range 7).all (okF m) && m.ms.all okMat && (okL m 7 m.ws.length && okL m 8 m.ms.length && okL m 9 m.ds.length)

open Go.Maps in
theorem wpList_insert_own {H : Type} {P : Program} (w : World) {ops : Array Oper} {rest : List Oper} {o : Oper} {a : Act} {Q : Exit → Act → World → Prop}
    (hg : o.guard = none) (m x v : Operand) (t : TypeId) (hop : o.op = Op.insert t m x v)
    (k e : TypeId) (K : Keyed P k) (ht : P.underlying t = some (.map k e)) (R : Value → Option (DataW H × List MemPlace)) (b n : Nat) (D : DataW H)
    (hm : a.eval m = .map (some b)) (hown : w.ownsMap P k R b n D) (hn : n < maxLen) (key val : Value) (kl : Lit) (hx : a.eval x = key) (hv : a.eval v = val) (hkey : keyOf P k key = some kl)
    (d : DataW H) (ps : List MemPlace) (hval : R val = some (d, ps))
    (hK : ∀ w', w'.ownsMap P k R b (n + 1) (D.put kl d) → w.grownBy w' (some b) → wpList P ops Q rest (a.put o.dst undef) w') :
    wpList P ops Q (o :: rest) a w := by
  refine wpList_plain hg fun K' hK' => ?_
  obtain ⟨w', hrun, r1, r2⟩ := hown.update K ht hn hkey hval
  unfold Oper.wp
  simp [execOp, hop, hm, hx, hv, hrun, Result.andThen]
  exact hK' _ _ (hK w' r1 r2)
theorem u112 : Tryd.prog.underlying 112 = some (.map 3 3) := by kernel_rfl
open Go.Maps in
theorem key3 : Keyed Tryd.prog 3 := int_keyed Tryd.underlying3
/-- the map's datum -/
def mapD (n1 n2 n3 : Nat) : DataW Unit := (((DataW.map []).put (.int .i64 7) (.lit (.int .i64 n1))).put (.int .i64 8) (.lit (.int .i64 n2))).put (.int .i64 9) (.lit (.int .i64 n3))
theorem mapD_at (n1 n2 n3 : Nat) (x c : Int) (h : ∀ zd, (mapD n1 n2 n3).atKey (.int .i64 x) zd = .lit (.int .i64 c)) : (x = 7 ∧ c = n1) ∨ (x = 8 ∧ c = n2) ∨ (x = 9 ∧ c = n3) := by
  have h1 := h (.lit (.int .i64 (c + 1)))
  by_cases e7 : x = 7
  · subst e7
    left
    simp [mapD, DataW.put, DataW.insert, DataW.atKey, Lit.sameKey, Lit.before] at h1
    exact ⟨rfl, h1.symm⟩
  · by_cases e8 : x = 8
    · subst e8
      right; left
      simp [mapD, DataW.put, DataW.insert, DataW.atKey, Lit.sameKey, Lit.before] at h1
      exact ⟨rfl, h1.symm⟩
    · by_cases e9 : x = 9
      · subst e9
        right; right
        simp [mapD, DataW.put, DataW.insert, DataW.atKey, Lit.sameKey, Lit.before] at h1
        exact ⟨rfl, h1.symm⟩
      · have f7 : ¬ (7 : Int) = x := fun h => e7 h.symm
        have f8 : ¬ (8 : Int) = x := fun h => e8 h.symm
        have f9 : ¬ (9 : Int) = x := fun h => e9 h.symm
        simp [mapD, DataW.put, DataW.insert, DataW.atKey, Lit.sameKey, Lit.before, f7, f8, f9] at h1
        omega

/-- the first loop's round -/
theorem mnum_cell {m : Msg} {a b c : Value} {W : World} {mb f : Nat} (h : W.heap[mb]? = some (.cells (mcells m a b c) 46 (0, 0))) (hf : f < 7) : W.cell? ⟨mb, f + 1, none⟩ = some (.int .i64 (m.num f)) := by
  rw [cell_of_row _ _ _ _ _ _ h]
  have : f = 0 ∨ f = 1 ∨ f = 2 ∨ f = 3 ∨ f = 4 ∨ f = 5 ∨ f = 6 := by omega
  rcases this with rfl | rfl | rfl | rfl | rfl | rfl | rfl <;> rfl

set_option maxRecDepth 100000 in
set_option maxHeartbeats 3200000 in
theorem may_any (m : Msg) (a b c : Value) (w : World) (h : MsgIn w a b c m) (hmo : MostAt w) (h0 : 1 < w.heap.size) : Calls Tryd.prog 43 #[.agg (mcells m a b c)] w fun e w' => e = .returned (.bool (mayM m)) ∧ Below w.heap.size w w' := by
  obtain ⟨A1, L1, C1, ha, hL1⟩ : ∃ A l c, a = .slice A l c ∧ l = m.ws.length := by obtain ⟨_, A, c, e, _⟩ := h.ws; exact ⟨A, _, c, e, by simp [toI]⟩
  obtain ⟨A2, L2, C2, hb, hL2⟩ : ∃ A l c, b = .slice A l c ∧ l = m.ms.length := by obtain ⟨_, _, A, c, e, _⟩ := h.ms; exact ⟨A, _, c, e, rfl⟩
  obtain ⟨A3, L3, C3, hc, hL3⟩ : ∃ A l d, c = .slice A l d ∧ l = m.ds.length := by obtain ⟨_, A, c, e, _⟩ := h.ds; exact ⟨A, _, c, e, by simp [toI]⟩
  subst ha hb hc
  obtain ⟨W0, hW0⟩ : ∃ W0, W0 = w.alloc (.cells (mcells m (.slice A1 L1 C1) (.slice A2 L2 C2) (.slice A3 L3 C3)) 46) := ⟨_, rfl⟩
  have hB0 : Below w.heap.size w W0 := by rw [hW0]; exact below_al _ _
  have hs0 : W0.heap.size = w.heap.size + 1 := by rw [hW0]; simp
  have hmb : W0.heap[w.heap.size]? = some (.cells (mcells m (.slice A1 L1 C1) (.slice A2 L2 C2) (.slice A3 L3 C3)) 46 (0, 0)) := by rw [hW0]; exact heap_alloc_new _ _
  have HM := Lib.hid h
  have HMO := Lib.hid hmo
  have HKI := Lib.hid (kind_any m.kind W0)
  have HB0 := Lib.hid hB0
  have HMB := Lib.hid hmb
  have k0 : W0.cell? ⟨w.heap.size, 0, none⟩ = some (.int .i64 m.kind) := (cell_of_row _ _ _ _ _ _ hmb).trans rfl
  have HW0 := Lib.hid hW0
  have HL1 := Lib.hid hL1
  have HL2 := Lib.hid hL2
  have HL3 := Lib.hid hL3
  have l1 : L1 ≤ 9223372036854775807 := by rw [hL1]; have := HM.out.ws.1; simpa [toI] using this
  have l2 : L2 ≤ 9223372036854775807 := by rw [hL2]; exact HM.out.ms.1
  have l3 : L3 ≤ 9223372036854775807 := by rw [hL3]; have := HM.out.ds.1; simpa [toI] using this
  clear h hmo hB0 hmb hW0 hL1 hL2 hL3
  unfold mcells at HW0 ⊢
  by_cases hkind : isKind m.kind = true
  · have HKT := Lib.hid hkind
    rw [hkind] at HKI
    go_enter Tryd.func43, Tryd.ntmps43
    go_upto_region 1 with (fail)
    rw [← HW0.out]
    go_wp2_with (go_at_call 35; refine HKI.out.mono ?_; rintro e w1 ⟨v, rfl, hv, hb1⟩; have HV := Lib.hid hv; have HB1 := Lib.hid hb1; clear hv hb1)
    go_loopw [5] (fun i wr => ∃ k q : Nat, k ≤ 7 ∧ i = .int .i64 k ∧ Hid ((List.range k).all (okF m) = true) ∧ wr = w1.drewN q) (fun i _ => 7 - (intOf i).toNat)
    case atStart => exact ⟨0, 0, by omega, rfl, rfl, rfl⟩
    case round =>
      obtain ⟨k, q, hk, rfl, HOK, rfl⟩ := hrel
      by_cases hlt : k < 7
      · have hkn : ((k : Nat) : Int) ≤ 6 := by omega
        have HNM := Lib.hid (number_any' w.heap.size k (w1.drewN q) hlt)
        obtain ⟨x, hx⟩ : ∃ x, x = m.num k := ⟨_, rfl⟩
        have HC1 : Hid (∀ r, (w1.drewN r).cell? ⟨w.heap.size, k + 1, none⟩ = some (.int .i64 x)) := by
          intro r
          rw [hx]
          exact mnum_cell ((HB1.out.block w.heap.size (by omega)).trans HMB.out) hlt
        have HC2 : Hid (∀ r, (w1.drewN r).cell? ⟨1, k, none⟩ = some (.int .u64 ((mostN k : Nat) : Int))) := fun r => (HMO.out.later h0 (HB0.out.trans (HB1.out.mono (by omega)))) k hlt
        have HCO := Lib.hid (fun r => contains_any v (flds m.kind) (k : Int) (w1.drewN r) HV.out)
        obtain ⟨mo, hmo⟩ : ∃ mo, mo = mostN k := ⟨_, rfl⟩
        rw [← hmo] at HC2
        have hmol : mo ≤ 1073741824 := by rw [hmo]; unfold mostN; split <;> omega
        obtain ⟨t, ht⟩ : ∃ t, t = decide ((k : Int) ∈ flds m.kind) := ⟨_, rfl⟩
        rw [← ht] at HCO
        have HF : Hid (okF m k = (decide (0 ≤ x) && decide (x ≤ (mo : Int)) && (decide (x = 0) || t))) := by show okF m k = _; rw [hx, hmo, ht]; rfl
        have hxi : inI x := by
          rw [hx]
          obtain ⟨i0, i1, i2, i3, i4, i5, i6⟩ := HM.out.ni
          have : k = 0 ∨ k = 1 ∨ k = 2 ∨ k = 3 ∨ k = 4 ∨ k = 5 ∨ k = 6 := by omega
          rcases this with rfl | rfl | rfl | rfl | rfl | rfl | rfl
          · exact i0
          · exact i1
          · exact i2
          · exact i3
          · exact i4
          · exact i5
          · exact i6
        obtain ⟨x1, x2⟩ := hxi
        have HBAD : Hid (okF m k = false → mayM m = false) := by
          intro hf
          unfold mayM
          have : (List.range 7).all (okF m) = false := by
            rw [List.all_eq_false]
            exact ⟨k, List.mem_range.2 hlt, by rw [hf]; decide⟩
          rw [this]; simp
        have HNEXT : Hid (okF m k = true → (List.range (k + 1)).all (okF m) = true) := by
          intro hf
          rw [List.range_succ, List.all_append, HOK.out]; simp [hf]
        clear hx hmo ht
        by_cases hneg : x < 0
        · have hb : mayM m = false := HBAD.out (by rw [HF.out, decide_eq_false (show ¬ 0 ≤ x from by omega)]; rfl)
          have HB := Lib.hid hb
          clear hb
          go_wp2_with (go_at_call 53; refine HNM.out.mono ?_; rintro e w3 ⟨rfl, r, rfl⟩; have cc := HC1.out (q + r))
          go_ret
          exact ⟨by rw [HB.out]; rfl, HB0.out.trans ((below_drewN HB1.out _).mono (by omega))⟩
        · by_cases hmost : (mo : Int) < x
          · have hb : mayM m = false := HBAD.out (by rw [HF.out, decide_eq_true (show 0 ≤ x from by omega), decide_eq_false (show ¬ x ≤ (mo : Int) from by omega)]; rfl)
            have HB := Lib.hid hb
            clear hb
            go_wp2_with (go_at_call 53; refine HNM.out.mono ?_; rintro e w3 ⟨rfl, r, rfl⟩; have cc := HC1.out (q + r); have cm := HC2.out (q + r))
            go_ret
            exact ⟨by rw [HB.out]; rfl, HB0.out.trans ((below_drewN HB1.out _).mono (by omega))⟩
          · by_cases hz : x = 0
            · have HNX := Lib.hid (HNEXT.out (by rw [HF.out, decide_eq_true (show 0 ≤ x from by omega), decide_eq_true (show x ≤ (mo : Int) from by omega), decide_eq_true hz]; rfl))
              subst hz
              go_wp2_with (go_at_call 53; refine HNM.out.mono ?_; rintro e w3 ⟨rfl, r, rfl⟩; have cc := HC1.out (q + r); have cm := HC2.out (q + r))
              go_roundw
              case rel => exact ⟨k + 1, q + r, by omega, by go_num, HNX.out, rfl⟩
              case measure => simp [intOf]; omega
            · have bz : (x == 0) = false := beq_false_of_ne hz
              have bz2 : (x != 0) = true := by simp [hz]
              cases t
              · have hb : mayM m = false := HBAD.out (by rw [HF.out, decide_eq_true (show 0 ≤ x from by omega), decide_eq_true (show x ≤ (mo : Int) from by omega), decide_eq_false hz]; rfl)
                have HB := Lib.hid hb
                clear hb hz
                go_wp2_with (first | (go_at_call 53; refine HNM.out.mono ?_; rintro e w3 ⟨rfl, r, rfl⟩; have cc := HC1.out (q + r); have cm := HC2.out (q + r)) | (go_at_call 64; refine (HCO.out _).mono ?_; rintro e w4 ⟨rfl, rfl⟩))
                go_ret
                exact ⟨by rw [HB.out]; rfl, HB0.out.trans ((below_drewN HB1.out _).mono (by omega))⟩
              · have HNX := Lib.hid (HNEXT.out (by rw [HF.out, decide_eq_true (show 0 ≤ x from by omega), decide_eq_true (show x ≤ (mo : Int) from by omega), decide_eq_false hz]; rfl))
                clear hz
                go_wp2_with (first | (go_at_call 53; refine HNM.out.mono ?_; rintro e w3 ⟨rfl, r, rfl⟩; have cc := HC1.out (q + r); have cm := HC2.out (q + r)) | (go_at_call 64; refine (HCO.out _).mono ?_; rintro e w4 ⟨rfl, rfl⟩))
                go_roundw
                case rel => exact ⟨k + 1, q + r, by omega, by go_num, HNX.out, rfl⟩
                case measure => simp [intOf]; omega
      · obtain rfl : k = 7 := by omega
        obtain ⟨W2, hW2⟩ : ∃ W2, W2 = w1.drewN q := ⟨_, rfl⟩
        rw [← hW2]
        have HB2 : Hid (Below w.heap.size w W2) := by show Below _ _ _; rw [hW2]; exact HB0.out.trans ((below_drewN HB1.out _).mono (by omega))
        have hs2 := HB2.out.size
        have hmb2 : W2.heap[w.heap.size]? = some (.cells (mcells m (.slice A1 L1 C1) (.slice A2 L2 C2) (.slice A3 L3 C3)) 46 (0, 0)) := by rw [hW2]; exact (HB1.out.block w.heap.size (by omega)).trans HMB.out
        have HMB2 := Lib.hid hmb2
        have HV2 : Hid (Nums W2 .i64 v (flds m.kind)) := by show Nums _ _ _ _; rw [hW2]; exact HV.out
        have q8 : W2.cell? ⟨w.heap.size, 8, none⟩ = some (.slice A1 L1 C1) := (cell_of_row _ _ _ _ _ _ hmb2).trans rfl
        have q9 : W2.cell? ⟨w.heap.size, 9, none⟩ = some (.slice A2 L2 C2) := (cell_of_row _ _ _ _ _ _ hmb2).trans rfl
        have q10 : W2.cell? ⟨w.heap.size, 10, none⟩ = some (.slice A3 L3 C3) := (cell_of_row _ _ _ _ _ _ hmb2).trans rfl
        clear hW2 hmb2
        obtain ⟨ml, hml⟩ : ∃ ml, ml = m.ms := ⟨_, rfl⟩
        obtain ⟨_, hwf, Am, Cm, hAe, F, hAm, hFm⟩ := HM.out.ms
        injection hAe with hA1 hA2 hA3
        subst hA1
        have HAM : Hid (0 < L2 → ∃ g o, A2 = some ⟨g, o, none⟩ ∧ ∀ i (h : i < ml.length), w.cell? ⟨g, o + i * 4, none⟩ = some (.int .i64 ml[i].lv) ∧ w.cell? ⟨g, o + i * 4 + 1, none⟩ = some (.int .i64 ml[i].ce) ∧ w.cell? ⟨g, o + i * 4 + 2, none⟩ = some (.int .i64 ml[i].ep) ∧ w.cell? ⟨g, o + i * 4 + 3, none⟩ = some (F i)) := by
          subst hml; exact fun h0 => hAm (by omega)
        have HFM : Hid (∀ i (h : i < ml.length), Nums w .u64 (F i) (toI ml[i].d)) := by subst hml; exact hFm
        have HLM : Hid (L2 = ml.length) := by show _ = _; rw [HL2.out, hml]
        have HML := Lib.hid hml
        clear hwf hAm hFm hA2 hA3 hml
        go_wp2_with fail
        go_loopw [50] (fun i wr => ∃ k : Nat, k ≤ L2 ∧ i = .int .i64 k ∧ Hid ((ml.take k).all okMat = true) ∧ Hid (Below W2.heap.size W2 wr)) (fun i _ => L2 - (intOf i).toNat)
        case atStart => exact ⟨0, by omega, rfl, by show _ = _; simp, Below.refl _ _⟩
        case round =>
          obtain ⟨k, hk, rfl, HT, HB⟩ := hrel
          obtain ⟨wo, rfl⟩ : ∃ wo : World, wo = wr := ⟨_, rfl⟩
          have hso := HB.out.size
          by_cases hlt : k < L2
          · have hkl : k < ml.length := by have := HLM.out; omega
            obtain ⟨g, o, rfl, hc⟩ := HAM.out (by omega)
            obtain ⟨y, hy⟩ : ∃ y, y = ml[k] := ⟨_, rfl⟩
            obtain ⟨d0, d1, d2, d3⟩ := hc k hkl
            rw [← hy] at d0 d1 d2
            have HBW : Below w.heap.size w wo := HB2.out.trans (HB.out.mono hs2)
            replace d0 := (HBW.cell (World.block_lt_of_cell? w _ d0)).trans d0
            replace d1 := (HBW.cell (World.block_lt_of_cell? w _ d1)).trans d1
            replace d2 := (HBW.cell (World.block_lt_of_cell? w _ d2)).trans d2
            replace d3 := (HBW.cell (World.block_lt_of_cell? w _ d3)).trans d3
            obtain ⟨FA, FL, FC, hFs⟩ : ∃ A l c, F k = .slice A l c := by obtain ⟨A, c, e⟩ := (HFM.out k hkl).form; exact ⟨A, _, c, e⟩
            rw [hFs] at d3
            obtain ⟨t0, ht0⟩ : ∃ t0, t0 = tick y.lv := ⟨_, rfl⟩
            obtain ⟨t1, ht1⟩ : ∃ t1, t1 = tick y.ce := ⟨_, rfl⟩
            obtain ⟨t2, ht2⟩ : ∃ t2, t2 = tick y.ep := ⟨_, rfl⟩
            have TK0 : Hid (∀ w, Calls Tryd.prog 65 #[.int .i64 y.lv] w fun e w' => e = .returned (.bool t0) ∧ w = w') := fun w => by rw [ht0]; exact ticks_any y.lv w
            have TK1 : Hid (∀ w, Calls Tryd.prog 65 #[.int .i64 y.ce] w fun e w' => e = .returned (.bool t1) ∧ w = w') := fun w => by rw [ht1]; exact ticks_any y.ce w
            have TK2 : Hid (∀ w, Calls Tryd.prog 65 #[.int .i64 y.ep] w fun e w' => e = .returned (.bool t2) ∧ w = w') := fun w => by rw [ht2]; exact ticks_any y.ep w
            have HOKM : Hid (okMat y = (t0 && t1 && t2)) := by show _ = _; rw [ht0, ht1, ht2]; rfl
            have HBADM : Hid ((t0 && t1 && t2) = false → mayM m = false) := by
              intro hf
              unfold mayM
              have : m.ms.all okMat = false := by
                rw [List.all_eq_false]
                exact ⟨y, by rw [hy, ← HML.out]; exact List.getElem_mem hkl, by rw [HOKM.out, hf]; decide⟩
              rw [this]; simp
            have HNXM : Hid ((t0 && t1 && t2) = true → (ml.take (k + 1)).all okMat = true) := by
              intro hf
              rw [List.take_succ_eq_append_getElem hkl, List.all_append, HT.out, ← hy]
              simp [HOKM.out, hf]
            have hsw := HBW.size
            have HBW := Lib.hid HBW
            clear hc hy ht0 ht1 ht2 hFs
            clear HBW
            have HBW : Hid (Below w.heap.size w wo) := HB2.out.trans (HB.out.mono hs2)
            cases t0
            · have HB9 := Lib.hid (HBADM.out rfl)
              go_wp2_with (first | (go_at_call_of 65 (Value.int .i64 y.lv); refine (TK0.out _).mono ?_; rintro e w4 ⟨rfl, rfl⟩) | (go_at_call_of 65 (Value.int .i64 y.ce); refine (TK1.out _).mono ?_; rintro e w4 ⟨rfl, rfl⟩) | (go_at_call_of 65 (Value.int .i64 y.ep); refine (TK2.out _).mono ?_; rintro e w4 ⟨rfl, rfl⟩))
              go_ret
              exact ⟨by rw [HB9.out]; rfl, (HBW.out.alloc hsw _)⟩
            · cases t1
              · have HB9 := Lib.hid (HBADM.out rfl)
                go_wp2_with (first | (go_at_call_of 65 (Value.int .i64 y.lv); refine (TK0.out _).mono ?_; rintro e w4 ⟨rfl, rfl⟩) | (go_at_call_of 65 (Value.int .i64 y.ce); refine (TK1.out _).mono ?_; rintro e w4 ⟨rfl, rfl⟩) | (go_at_call_of 65 (Value.int .i64 y.ep); refine (TK2.out _).mono ?_; rintro e w4 ⟨rfl, rfl⟩))
                go_ret
                exact ⟨by rw [HB9.out]; rfl, (HBW.out.alloc hsw _)⟩
              · cases t2
                · have HB9 := Lib.hid (HBADM.out rfl)
                  go_wp2_with (first | (go_at_call_of 65 (Value.int .i64 y.lv); refine (TK0.out _).mono ?_; rintro e w4 ⟨rfl, rfl⟩) | (go_at_call_of 65 (Value.int .i64 y.ce); refine (TK1.out _).mono ?_; rintro e w4 ⟨rfl, rfl⟩) | (go_at_call_of 65 (Value.int .i64 y.ep); refine (TK2.out _).mono ?_; rintro e w4 ⟨rfl, rfl⟩))
                  go_ret
                  exact ⟨by rw [HB9.out]; rfl, (HBW.out.alloc hsw _)⟩
                · have HNX := Lib.hid (HNXM.out rfl)
                  go_wp2_with (first | (go_at_call_of 65 (Value.int .i64 y.lv); refine (TK0.out _).mono ?_; rintro e w4 ⟨rfl, rfl⟩) | (go_at_call_of 65 (Value.int .i64 y.ce); refine (TK1.out _).mono ?_; rintro e w4 ⟨rfl, rfl⟩) | (go_at_call_of 65 (Value.int .i64 y.ep); refine (TK2.out _).mono ?_; rintro e w4 ⟨rfl, rfl⟩))
                  go_roundw
                  case rel =>
                    repeat apply Exists.intro
                    exact ⟨⟨k + 1, by omega, by go_num, HNX.out, HB.out.alloc hso _⟩, rfl⟩
                  case measure => simp [intOf]; omega
          · obtain rfl : k = L2 := by omega
            have hall : ml.all okMat = true := by
              have h := HT.out
              rwa [List.take_of_length_le (by have := HLM.out; omega)] at h
            have HALL := Lib.hid hall
            have HBW : Hid (Below w.heap.size w wo) := HB2.out.trans (HB.out.mono hs2)
            clear hall
            have hmm := @run_makeMap Tryd.prog
            have hmbo : wo.heap[w.heap.size]? = some (.cells (mcells m (.slice A1 L1 C1) (.slice A2 k C2) (.slice A3 L3 C3)) 46 (0, 0)) := (HB.out.block w.heap.size (lt_of_block HMB2.out)).trans HMB2.out
            have hmba : (wo.alloc (.map #[] 0)).heap[w.heap.size]? = some (.cells (mcells m (.slice A1 L1 C1) (.slice A2 k C2) (.slice A3 L3 C3)) 46 (0, 0)) := (Below.heap_alloc _ _ _ (lt_of_block hmbo)).trans hmbo
            have q9o : wo.cell? ⟨w.heap.size, 9, none⟩ = some (.slice A2 k C2) := (cell_of_row _ _ _ _ _ _ hmbo).trans rfl
            have q8a : (wo.alloc (.map #[] 0)).cell? ⟨w.heap.size, 8, none⟩ = some (.slice A1 L1 C1) := (cell_of_row _ _ _ _ _ _ hmba).trans rfl
            have HLTO := Lib.hid (lt_of_block hmbo)
            have hown0 := World.ownsMap_made wo Tryd.prog 3 (plainElem (H := Unit) Tryd.prog 3)
            have HOWN0 := Lib.hid hown0
            have HMBA := Lib.hid hmba
            clear hown0 hmba hmbo q8 q9 q10
            have H1 : Hid (∀ x1 : World, (wo.alloc (.map #[] 0)).grownBy x1 (some wo.heap.size) → x1.heap[w.heap.size]? = some (.cells (mcells m (.slice A1 L1 C1) (.slice A2 k C2) (.slice A3 L3 C3)) 46 (0, 0))) := fun x1 hg => (hg.block w.heap.size (by have := HLTO.out; simp; omega) (by have := HLTO.out; simp; omega)).trans HMBA.out
            have H2 : Hid (∀ x1 x2 : World, x1.heap[w.heap.size]? = some (.cells (mcells m (.slice A1 L1 C1) (.slice A2 k C2) (.slice A3 L3 C3)) 46 (0, 0)) → x1.grownBy x2 (some wo.heap.size) → x2.heap[w.heap.size]? = some (.cells (mcells m (.slice A1 L1 C1) (.slice A2 k C2) (.slice A3 L3 C3)) 46 (0, 0))) := fun x1 x2 h hg => (hg.block w.heap.size (lt_of_block h) (by have := HLTO.out; simp; omega)).trans h
            have HB9 : Hid (∀ x1 : World, (wo.alloc (.map #[] 0)).grownBy x1 (some wo.heap.size) → Below w.heap.size w x1) := fun x1 hg => (HBW.out.alloc HBW.out.size _).grown hg (by have := HBW.out.size; simp; omega) (by intro q hq; simp at hq; have := HBW.out.size; omega)
            go_wp2_with (first
              | (refine wpList_insert_own _ rfl (.tmp 71) (.const (.int .i64 7)) (.tmp 74) 112 rfl 3 3 key3 u112 (plainElem Tryd.prog 3) wo.heap.size 0 _ rfl HOWN0.out (by unfold maxLen; omega) _ _ (.int .i64 7) rfl rfl (Go.Maps.keyOf_int_mk Tryd.underlying3 (by decide)) _ [] (plainElem_int Tryd.underlying3 (WalkArith.wf_i64 (by omega))) ?_; intro x1 hown1 hg1; have hm1 := H1.out x1 hg1; have qa1 : x1.cell? ⟨w.heap.size, 9, none⟩ = some (.slice A2 k C2) := ((cell_of_row _ _ _ _ _ _ hm1).trans rfl); have HOWN1 := Lib.hid hown1; have HG1 := Lib.hid hg1; have HM1 := Lib.hid hm1; clear hown1 hg1 hm1)
              | (refine wpList_insert_own _ rfl (.tmp 71) (.const (.int .i64 8)) (.tmp 77) 112 rfl 3 3 key3 u112 (plainElem Tryd.prog 3) wo.heap.size 1 _ rfl HOWN1.out (by unfold maxLen; omega) _ _ (.int .i64 8) rfl rfl (Go.Maps.keyOf_int_mk Tryd.underlying3 (by decide)) _ [] (plainElem_int Tryd.underlying3 (WalkArith.wf_i64 (by omega))) ?_; intro x2 hown2 hg2; have hm2 := H2.out x1 x2 HM1.out hg2; have qa2 : x2.cell? ⟨w.heap.size, 10, none⟩ = some (.slice A3 L3 C3) := ((cell_of_row _ _ _ _ _ _ hm2).trans rfl); have HOWN2 := Lib.hid hown2; have HG2 := Lib.hid (HG1.out.andThen hg2 (fun j hj => Or.inr hj)); have HM2 := Lib.hid hm2; clear hown2 hg2 hm2)
              | (refine wpList_insert_own _ rfl (.tmp 71) (.const (.int .i64 9)) (.tmp 80) 112 rfl 3 3 key3 u112 (plainElem Tryd.prog 3) wo.heap.size 2 _ rfl HOWN2.out (by unfold maxLen; omega) _ _ (.int .i64 9) rfl rfl (Go.Maps.keyOf_int_mk Tryd.underlying3 (by decide)) _ [] (plainElem_int Tryd.underlying3 (WalkArith.wf_i64 (by omega))) ?_; intro x3 hown3 hg3; have HOWN3 := Lib.hid hown3; have HG3 := Lib.hid (HG2.out.andThen hg3 (fun j hj => Or.inr hj)); clear hown3 hg3)
              | (at_range; refine wpList_range_own _ rfl _ 112 rfl 3 3 key3 u112 _ wo.heap.size 3 _ rfl HOWN3.out ?_; intro x4 hrg0 hg4 hs4; have HRG := Lib.hid hrg0; have HG4 := Lib.hid (HG3.out.andThen (hg4.but _) (fun j hj => Or.inr hj)); clear hrg0 hg4))
            go_frame
            have H3 : Hid (∀ x1 : World, (wo.alloc (.map #[] 0)).grownBy x1 (some wo.heap.size) → Nums x1 .i64 v (flds m.kind)) := fun x1 hg => HV2.out.keep fun ad u hc => by
              have hlt := World.block_lt_of_cell? W2 ad hc
              have h1 := HB.out.cell hlt
              have h2 := HB.out.size
              have h3 : (wo.alloc (.map #[] 0)).cell? ad = wo.cell? ad := World.cell?_of_block (Below.heap_alloc wo _ _ (by omega))
              have h4 : x1.cell? ad = (wo.alloc (.map #[] 0)).cell? ad := World.cell?_of_block (hg.block ad.block (by simp; omega) (by simp; omega))
              rw [h4, h3, h1]; exact hc
            have hD : ((((DataW.map []).put (.int .i64 7) (.lit (.int .i64 L1))).put (.int .i64 8) (.lit (.int .i64 k))).put (.int .i64 9) (.lit (.int .i64 L3)) : DataW Unit) = mapD L1 k L3 := rfl
            have HP0 : Hid (∀ (f : Int) (n : Nat), ((f = 7 ∧ n = L1) ∨ (f = 8 ∧ n = k) ∨ (f = 9 ∧ n = L3)) → Maps.has (mapD L1 k L3) (.int .i64 f) = false → okL m f n = true) := by
              intro f n h hf
              rcases h with ⟨rfl, _⟩ | ⟨rfl, _⟩ | ⟨rfl, _⟩ <;> simp [mapD, Maps.has, DataW.put, DataW.insert, Lit.sameKey, Lit.before] at hf
            have hrg1 := HRG.out
            go_loopw [9] (fun _ wr => ∃ (left : Lit → Bool) (cnt : Nat), wr.ranges Tryd.prog 3 (plainElem (H := Unit) Tryd.prog 3) wo.heap.size x3.heap.size 3 (mapD L1 k L3) left cnt ∧ Hid (∀ (f : Int) (n : Nat), ((f = 7 ∧ n = L1) ∨ (f = 8 ∧ n = k) ∨ (f = 9 ∧ n = L3)) → left (.int .i64 f) = false → okL m f n = true) ∧ Hid ((wo.alloc (.map #[] 0)).grownBy wr (some wo.heap.size))) (fun _ wr => wr.rangeLeft wo.heap.size x3.heap.size)
            case atStart => exact ⟨_, _, hrg1, HP0.out, HG4.out⟩
            case round =>
              obtain ⟨left, cnt, hrg, HP, HGW⟩ := hrel
              go_wp2_with (first
                | (at_next; refine wpList_next_ranges_ii _ rfl _ rfl 3 3 .i64 .i64 key3 Tryd.underlying3 Tryd.underlying3 wo.heap.size x3.heap.size 3 _ _ _ rfl hrg ?_ ?_))
              · intro _ hl0
                have hmay : mayM m = true := by
                  have h7 := HP.out 7 L1 (Or.inl ⟨rfl, rfl⟩) (hl0 _)
                  have h8 := HP.out 8 k (Or.inr (Or.inl ⟨rfl, rfl⟩)) (hl0 _)
                  have h9 := HP.out 9 L3 (Or.inr (Or.inr ⟨rfl, rfl⟩)) (hl0 _)
                  unfold mayM
                  rw [HKT.out, HOK.out, ← HML.out, HALL.out, ← HL1.out, ← HL3.out, ← HLM.out, h7, h8, h9]
                  rfl
                have HMAY := Lib.hid hmay
                clear hmay hl0
                go_wp2_with fail
                go_ret
                exact ⟨by rw [HMAY.out]; rfl, HB9.out _ HGW.out⟩
              · intro x c y1 cnt1 hwx hwc hlx hat hrg2 hlt2 hg5 hs5 hen
                have hGY := HGW.out.andThen hg5 (fun j hj => by cases hj; exact Or.inl (by have := HG3.out.size; omega))
                have HGY := Lib.hid hGY
                have HNY := Lib.hid (H3.out y1 hGY)
                obtain ⟨n, hcn, hfn⟩ : ∃ n : Nat, c = n ∧ ((x = 7 ∧ n = L1) ∨ (x = 8 ∧ n = k) ∨ (x = 9 ∧ n = L3)) := by
                  rcases mapD_at _ _ _ _ _ hat with ⟨h1, h2⟩ | ⟨h1, h2⟩ | ⟨h1, h2⟩
                  · exact ⟨L1, h2, Or.inl ⟨h1, rfl⟩⟩
                  · exact ⟨k, h2, Or.inr (Or.inl ⟨h1, rfl⟩)⟩
                  · exact ⟨L3, h2, Or.inr (Or.inr ⟨h1, rfl⟩)⟩
                subst hcn
                obtain ⟨t, ht⟩ : ∃ t, t = decide (x ∈ flds m.kind) := ⟨_, rfl⟩
                have HCO : Hid (Calls Tryd.prog 64 #[v, .int .i64 x] y1 fun e w' => e = .returned (.bool t) ∧ y1 = w') := by
                  rw [ht]; exact contains_any v (flds m.kind) x y1 HNY.out
                have HOKL : Hid (okL m x n = (decide (n = 0) || t)) := by show _ = _; rw [ht]; rfl
                have HBADL : Hid ((decide (n = 0) || t) = false → mayM m = false) := by
                  intro hf
                  have h : okL m x n = false := by rw [HOKL.out, hf]
                  unfold mayM
                  rcases hfn with ⟨rfl, rfl⟩ | ⟨rfl, rfl⟩ | ⟨rfl, rfl⟩
                  · rw [HL1.out] at h; rw [h]; simp
                  · rw [HL2.out] at h; rw [h]; simp
                  · rw [HL3.out] at h; rw [h]; simp
                have HNP : Hid ((decide (n = 0) || t) = true → ∀ (f : Int) (n : Nat), ((f = 7 ∧ n = L1) ∨ (f = 8 ∧ n = k) ∨ (f = 9 ∧ n = L3)) → (left (.int .i64 f) && !(Lit.int .i64 f).sameKey (.int .i64 x)) = false → okL m f n = true) := by
                  intro hf f n' h hz
                  by_cases hfx : f = x
                  · subst hfx
                    have : n' = n := by omega
                    rw [this, HOKL.out, hf]
                  · refine HP.out f n' h ?_
                    have e : (Lit.int .i64 f).sameKey (.int .i64 x) = false := by simp [Lit.sameKey, hfx]
                    rw [e] at hz
                    simpa using hz
                clear ht hwx hwc hlx hat hg5 hs5 hfn
                by_cases hz : n = 0
                · have HNX := Lib.hid (HNP.out (by rw [decide_eq_true hz]; rfl))
                  subst hz
                  go_wp2_with fail
                  go_roundw
                  case rel => exact ⟨_, cnt1, hrg2, HNX.out, HGY.out⟩
                  case measure => rw [hrg2.left_eq, hrg.left_eq]; exact hlt2
                · have hpos : (0 : Int) < (n : Int) := by omega
                  cases t
                  · have hb : mayM m = false := HBADL.out (by rw [decide_eq_false hz]; rfl)
                    have HB8 := Lib.hid hb
                    clear hb hz
                    go_wp2_with (go_at_call 64; refine HCO.out.mono ?_; rintro e w4 ⟨rfl, rfl⟩)
                    go_ret
                    exact ⟨by rw [HB8.out]; rfl, HB9.out _ HGY.out⟩
                  · have HNX := Lib.hid (HNP.out (by rw [decide_eq_false hz]; rfl))
                    clear hz
                    go_wp2_with (go_at_call 64; refine HCO.out.mono ?_; rintro e w4 ⟨rfl, rfl⟩)
                    go_roundw
                    case rel => exact ⟨_, cnt1, hrg2, HNX.out, HGY.out⟩
                    case measure => rw [hrg2.left_eq, hrg.left_eq]; exact hlt2
  · have hk : isKind m.kind = false := by simpa using hkind
    have hb : mayM m = false := by unfold mayM; rw [hk]; rfl
    have HB := Lib.hid hb
    rw [hk] at HKI
    clear hb hk hkind
    go_enter Tryd.func43, Tryd.ntmps43
    go_upto_region 1 with (fail)
    rw [← HW0.out]
    go_wp2_with (go_at_call 35; refine HKI.out.mono ?_; rintro e w1 ⟨v, rfl, hv, hb1⟩; have HB1 := Lib.hid hb1; clear hv hb1)
    go_ret
    exact ⟨by rw [HB.out]; rfl, HB0.out.trans (HB1.out.mono (by omega))⟩

end Go.Proofs.YtakdfjkkeilffaaDoor
