/- A message is read: its fields, one by one. -/
import Derived.Test.YtakdfjkkeilffaaDoorQg
set_option linter.unusedVariables false
set_option linter.unusedSimpArgs false
namespace Go.Proofs.YtakdfjkkeilffaaDoor
open Go.RowKit

def msgOut : Option Msg → Except (Nat × Nat) Msg
  | none => .error (0, 200)
  | some M => .ok M
theorem readAll_none {m : Msg} {fl : List Int} {r : List It} {q : Nat} (h1 : q < fl.length) (h2 : q < r.length) (h : setF m (fl[q]).toNat r[q] = none) : readAll m (fl.drop q) (r.drop q) = none := by
  rw [List.drop_eq_getElem_cons h1, List.drop_eq_getElem_cons h2]
  simp only [readAll, h]
theorem readAll_some {m m' : Msg} {fl : List Int} {r : List It} {q : Nat} (h1 : q < fl.length) (h2 : q < r.length) (h : setF m (fl[q]).toNat r[q] = some m') : readAll m (fl.drop q) (r.drop q) = readAll m' (fl.drop (q + 1)) (r.drop (q + 1)) := by
  rw [List.drop_eq_getElem_cons h1, List.drop_eq_getElem_cons h2]
  simp only [readAll, h]
/-- an item's member, by its place -/
theorem Holds.at {w : World} {k : Int} {n : Nat} {s : ByteArray} {g o m c : Nat} {l : List It} (h : Holds w (.int .i64 k) (.int .u64 n) (.string s) (.slice (some ⟨g, o, none⟩) m c) (.mk k n s l)) (i : Nat) (hi : i < l.length) :
    ∃ (k' : Int) (n' : Nat) (s' : ByteArray) (A' : Option Addr) (c' : Nat) (l' : List It), l[i] = .mk k' n' s' l' ∧ n' < 18446744073709551616 ∧ ICells w g (o + i * 4) k' n' s' A' l'.length c' ∧ Holds w (.int .i64 k') (.int .u64 n') (.string s') (.slice A' l'.length c') (.mk k' n' s' l') := by
  obtain ⟨g', o', e, k', n', s', A', c', l', h1, h2, c0, c1, c2, c3, h3⟩ := h.part i hi
  obtain ⟨rfl, rfl⟩ : g = g' ∧ o = o' := by simpa using e
  exact ⟨k', n', s', A', c', l', h1, h2, ⟨c0, c1, c2, c3⟩, h3⟩

set_option maxRecDepth 100000 in
set_option maxHeartbeats 3200000 in
theorem decm_fields (b : ByteArray) (n : Nat) (s : ByteArray) (hk : Int) (hn : Nat) (ht : ByteArray) (hl r : List It) (w : World) (R : Option Msg) (h : decR b = .ok (.mk 3 n s (.mk hk hn ht hl :: r))) (hlook : ∀ y ∈ r, look 7 y = 0) (hok : numOk 4 (.mk hk hn ht hl) = true) (hik : isKind hn = true) (hlen : r.length = (flds hn).length)
    (hR : R = readAll (zeroMsg hn) (flds hn) r) (hmo : MostAt w) (h0 : 1 < w.heap.size) : Calls Tryd.prog 20 #[.string b] w (DecMPost w (msgOut R)) := by
  have HD := Lib.hid (dec_ok_at b 3 n s _ (decW w) h)
  obtain ⟨m, hm⟩ : ∃ m, m = (It.mk hk hn ht hl :: r).length := ⟨_, rfl⟩
  rw [← hm] at HD
  have hmr : m = r.length + 1 := by rw [hm]; simp
  have hm0 : ¬ ((m : Nat) : Int) < 1 := by omega
  have hmp : (0 : Int) < ((m : Nat) : Int) := by omega
  have HF := Lib.hid (fun w1 hb => DMid.first (w := w) (w1 := w1) hb)
  have HH := Lib.hid (fun (W w1 : World) (A : Option Addr) (c : Nat) (h : DMid w w1 W 3 n s A m c) hm (hA : Option Addr) (hc : Nat) hnn => head_any h hm hk hn ht hA hl hc hnn)
  rw [hok] at HH
  have HK := Lib.hid (fun W : World => kindl_any hn W hik)
  have hff := flds_ok hn
  obtain ⟨fl, hfl⟩ : ∃ fl, fl = flds (hn : Int) := ⟨_, rfl⟩
  rw [← hfl] at HK hlen hff hR
  obtain ⟨fn, hfn⟩ : ∃ fn, fn = fl.length := ⟨_, rfl⟩
  have hf6 := hff.1
  rw [← hfn] at HK hlen hf6
  have hmfn : m = fn + 1 := by omega
  have hne : (((m : Nat) : Int) != 1 + ((fn : Nat) : Int)) = false := by
    simp; omega
  have HMFN := Lib.hid hmfn
  have HFF := Lib.hid hff.2
  have HFN := Lib.hid hfn
  have HLEN := Lib.hid hlen
  have HLO := Lib.hid hlook
  have HR := Lib.hid hR
  have HMO := Lib.hid hmo
  have HXL : Hid (∀ q, q < fn → ∃ h1 : q < r.length, (It.mk hk hn ht hl :: r)[1 + q]? = some r[q]) := fun q hq => ⟨by omega, by rw [Nat.add_comm, List.getElem?_cons_succ, List.getElem?_eq_getElem (by omega)]⟩
  clear h hm hmr hlook hok hik hlen hff hfl hfn hR hmo hmfn
  unfold decW zeroM at HD
  go_enter Tryd.func20, Tryd.ntmps20
  go_upto_region 6 with (go_at_call 27; refine HD.out.mono ?_; rintro e w1 ⟨A, c, rfl, hb1, hx⟩; obtain ⟨g, o, rfl, hA, hc, hnn, hic⟩ := hx.head; have HM := Lib.hid (HF.out _ hb1 3 n s (some ⟨g, o, none⟩) m c); have HIC := Lib.hid hic; have HX := Lib.hid hx; clear hb1 hx hic)
  obtain ⟨W6, hW6⟩ : ∃ W6, W6 = midW w1 3 n s (some ⟨g, o, none⟩) m c := ⟨_, rfl⟩
  rw [← hW6] at HM
  unfold midW zeroM at hW6
  rw [← hW6]
  clear hW6
  obtain ⟨x0, x1, x2, x3⟩ := item_at HM.out.1.xb
  have hlo := HM.out.1.lo
  have k1 : w.heap.size ≠ w1.heap.size := by omega
  have k2 : w.heap.size ≠ w1.heap.size + 1 + 1 := by omega
  have k3 : w.heap.size + 1 ≠ w1.heap.size := by omega
  have k4 : w.heap.size + 1 ≠ w1.heap.size + 1 + 1 := by omega
  obtain ⟨a0, a1, a2, a3⟩ := HIC.out.later HM.out.2.2.2
  have HS6 := Lib.hid HM.out.2.2.1
  go_wp2_with (first
    | (go_at_call 34; refine (HH.out _ _ _ _ HM.out.1 HM.out.2.1 hA hc hnn).mono ?_; rintro e w2 ⟨rfl, hd2, hb2, hm2⟩; have HD2 := Lib.hid hd2; have HM2 := Lib.hid (hm2 (by trivial)); have HB2 := Lib.hid hb2; clear hd2 hb2 hm2; obtain ⟨z0, _⟩ := mcells_at2 HM2.out; obtain ⟨x0_2, x1_2, x2_2, x3_2⟩ := item_at HD2.out.xb)
    | (go_at_call 35; refine (HK.out _).mono ?_; rintro e w3 ⟨rfl, hw3⟩; have HD3 : Hid (DMid w w1 w3 3 n s (some ⟨g, o, none⟩) m c) := (by rw [hw3]; exact HD2.out.keep (below_grown (below_al _ _))); have HM3 : Hid (w3.heap[w1.heap.size + 1 + 1 + 1]? = some (.cells (mcells (zeroMsg hn) (.slice none 0 0) (.slice none 0 0) (.slice none 0 0)) 46 (0, 0))) := (by rw [hw3, Below.heap_alloc _ _ _ (lt_of_block HM2.out)]; exact HM2.out); have HF3 : Hid (w3.heap[w2.heap.size]? = some (.cells (fl.map (Value.int .i64)).toArray 3 (0, 0))) := (by rw [hw3]; exact heap_alloc_new _ _); have HB3 : Hid (Below w1.heap.size w1 w3) := (by have hq := HM.out.2.2.2.trans HB2.out; rw [hw3]; exact hq.alloc hq.size _); clear hw3; obtain ⟨x0_3, x1_3, x2_3, x3_3⟩ := item_at HD3.out.xb; obtain ⟨n0_3, n1_3, _⟩ := fault_at HD3.out.nb; obtain ⟨⟨y0_3, y1_3, y2_3, y3_3, y4_3, y5_3, y6_3, y7_3, y8_3, y9_3, y10_3⟩, u0_3⟩ := zeroM_at HD3.out.z0; obtain ⟨y11_3, y12_3, u1_3⟩ := fault_at HD3.out.z1))
  obtain ⟨mb, hmb⟩ : ∃ mb, mb = w1.heap.size + 1 + 1 + 1 := ⟨_, rfl⟩
  obtain ⟨fb, hfb⟩ : ∃ fb, fb = w2.heap.size := ⟨_, rfl⟩
  have hlt2 := lt_of_block HM2.out
  have hlt3 := lt_of_block HF3.out
  have hmf : mb ≠ fb := by omega
  have hs2 := hlt2
  rw [← hmb] at HM3 ⊢
  rw [← hfb] at HF3 ⊢
  have HMBS := Lib.hid hmb
  have hlo3 := HD3.out.lo
  have hw1mb : w1.heap.size ≤ mb := by omega
  have HO3 := Lib.hid (MsgOwn.zero w1.heap.size w3 (hn : Int))
  have HR3 : Hid (R = readAll (zeroMsg hn) (fl.drop 0) (r.drop 0)) := HR.out
  clear hmb hfb hlt2 hs2 hlt3 z0 x0_2 x1_2 x2_2 x3_2 x0_3 x1_3 x2_3 x3_3 n0_3 n1_3 y0_3 y1_3 y2_3 y3_3 y4_3 y5_3 y6_3 y7_3 y8_3 y9_3 y10_3 u0_3 y11_3 y12_3 u1_3 x0 x1 x2 x3 a0 a1 a2 a3
  go_loopw [64] (fun i wr => ∃ (q : Nat) (M : Msg) (va vb vc : Value), q ≤ fn ∧ i = .int .i64 q ∧ Hid (DMid w w1 wr 3 n s (some ⟨g, o, none⟩) m c) ∧ Hid (wr.heap[mb]? = some (.cells (mcells M va vb vc) 46 (0, 0))) ∧ Hid (MsgOwn w1.heap.size wr va vb vc M) ∧ Hid (wr.heap[fb]? = some (.cells (fl.map (Value.int .i64)).toArray 3 (0, 0))) ∧ Hid (Below w1.heap.size w1 wr) ∧ Hid (R = readAll M (fl.drop q) (r.drop q))) (fun i _ => fn - (intOf i).toNat)
  case atStart => exact ⟨0, _, _, _, _, by omega, rfl, HD3.out, HM3.out, HO3.out, HF3.out, HB3.out, HR3.out⟩
  case round =>
    obtain ⟨q, M, va, vb, vc, hq, rfl, HDR, HMR, HOR, HFR, HBR, HRR⟩ := hrel
    obtain ⟨wo, rfl⟩ : ∃ wo : World, wo = wr := ⟨_, rfl⟩
    have hso := HBR.out.size
    by_cases hlt : q < fn
    · have hqf : q < fl.length := by have := HFN.out; omega
      obtain ⟨hqr, hxq⟩ := HXL.out q hlt
      have hfm := HFF.out fl[q] (List.getElem_mem hqf)
      obtain ⟨f, hf⟩ : ∃ f : Nat, fl[q] = (f : Int) := ⟨fl[q].toNat, by omega⟩
      have hf10 : f < 10 := by omega
      have d0 : wo.cell? ⟨fb, q, none⟩ = some (.int .i64 (f : Int)) := by
        rw [cell_of_row _ _ _ _ _ _ HFR.out, ← hf]; simp [hqf]
      have h1q : 1 + q < (It.mk hk hn ht hl :: r).length := by simp; omega
      obtain ⟨k', n', s', A', c', l', e1, hn', hic, hxx⟩ := (HX.out.later HBR.out).at (1 + q) h1q
      have e2 : r[q] = .mk k' n' s' l' := by
        rw [List.getElem?_eq_getElem h1q, e1] at hxq
        exact (Option.some.inj hxq).symm
      have hlk : look 7 (.mk k' n' s' l') = 0 := by rw [← e2]; exact HLO.out _ (List.getElem_mem hqr)
      obtain ⟨b0, b1, b2, b3⟩ := hic
      obtain ⟨x0, x1, x2, x3⟩ := item_at HDR.out.xb
      have HRD := Lib.hid (read_field w1.heap.size mb va vb vc M k' n' s' A' l'.length c' l' f wo rfl hf10 hxx hlk hn' HMR.out HOR.out hso (HMO.out.later h0 HDR.out.below) (by have := HDR.out.below.size; omega))
      have HRN : Hid (setF M f (.mk k' n' s' l') = none → R = none) := fun h => by rw [HRR.out]; exact readAll_none hqf hqr (by rw [hf, e2]; exact h)
      have HRS : Hid (∀ M', setF M f (.mk k' n' s' l') = some M' → R = readAll M' (fl.drop (q + 1)) (r.drop (q + 1))) := fun M' h => by rw [HRR.out]; exact readAll_some hqf hqr (by rw [hf, e2]; exact h)
      obtain ⟨rf, hrf⟩ : ∃ rf, rf = setF M f (.mk k' n' s' l') := ⟨_, rfl⟩
      unfold ReadPost at HRD
      rw [← hrf] at HRD HRN HRS
      have hqm : (q : Int) + 1 < m := by have := HMFN.out; omega
      clear hrf hxx hlk e1 e2 hxq hfm hf
      cases rf with
      | none =>
        have HN := Lib.hid (HRN.out rfl)
        go_wp2_with (go_at_call 36; refine HRD.out.mono ?_; rintro e w4 ⟨hg4, rfl⟩; have HD4 := Lib.hid (HDR.out.keep (by rw [← HMBS.out]; exact hg4)); clear hg4; obtain ⟨x0_4, x1_4, x2_4, x3_4⟩ := item_at HD4.out.xb; obtain ⟨n0_4, n1_4, _⟩ := fault_at HD4.out.nb; obtain ⟨⟨y0_4, y1_4, y2_4, y3_4, y4_4, y5_4, y6_4, y7_4, y8_4, y9_4, y10_4⟩, u0_4⟩ := zeroM_at HD4.out.z0; obtain ⟨y11_4, y12_4, u1_4⟩ := fault_at HD4.out.z1)
        go_region
        all_goals
          go_wp2_with fail
          rw [HN.out]
          exact HD4.out.none rfl rfl rfl
      | some M' =>
        have HN := Lib.hid (HRS.out M' rfl)
        go_wp2_with (go_at_call 36; refine HRD.out.mono ?_; rintro e w4 ⟨hg4, rfl, va', vb', vc', hm4, ho4⟩; have HD4 := Lib.hid (HDR.out.keep (by rw [← HMBS.out]; exact hg4)); have HM4 := Lib.hid hm4; have HO4 := Lib.hid ho4; have HF4 : Hid (w4.heap[fb]? = some (.cells (fl.map (Value.int .i64)).toArray 3 (0, 0))) := ((hg4.block fb (lt_of_block HFR.out) (by simp; omega)).trans HFR.out); have HB4 : Hid (Below w1.heap.size w1 w4) := (HBR.out.grown hg4 hso (by intro z hz; cases hz; omega)); clear hg4 hm4 ho4)
        go_roundw
        case rel => exact ⟨q + 1, M', va', vb', vc', by omega, by go_num, HD4, HM4, HO4, HF4, HB4, HN⟩
        case measure => simp [intOf]; omega
    · obtain rfl : q = fn := by omega
      have HN : Hid (R = some M) := by
        show R = some M
        rw [HRR.out, List.drop_of_length_le (by have := HFN.out; omega)]
        rfl
      obtain ⟨A1, L1, C1, rfl⟩ : ∃ A l c, va = .slice A l c := by obtain ⟨A, c, e⟩ := (Nums.of_row HOR.out.ws).form; exact ⟨A, _, c, e⟩
      obtain ⟨A2, L2, C2, rfl⟩ : ∃ A l c, vb = .slice A l c := by
        obtain ⟨vs, hv⟩ := HOR.out.ms
        rcases hv.row.2 with ⟨rfl, _⟩ | ⟨g', cap', cur, rfl, _⟩ <;> exact ⟨_, _, _, rfl⟩
      obtain ⟨A3, L3, C3, rfl⟩ : ∃ A l c, vc = .slice A l c := by obtain ⟨A, c, e⟩ := (Nums.of_row HOR.out.ds).form; exact ⟨A, _, c, e⟩
      obtain ⟨z0, z1, z2, z3, z4, z5, z6, z7, z8, z9, z10⟩ := mcells_at2 HMR.out
      obtain ⟨⟨y0, y1, y2, y3, y4, y5, y6, y7, y8, y9, y10⟩, u0⟩ := zeroM_at HDR.out.z0
      obtain ⟨y11, y12, u1⟩ := fault_at HDR.out.z1
      go_wp2_with fail
      rw [HN.out]
      exact fin_ok rfl rfl HDR.out.z0 HDR.out.z1 HDR.out.below HOR.out hlo3 rfl

/-- a message is read -/
theorem decm_any (b : ByteArray) (w : World) (hmo : MostAt w) (h0 : 1 < w.heap.size) : Calls Tryd.prog 20 #[.string b] w (DecMPost w (decM b)) := by
  unfold decM
  cases hd : decR b with
  | error ac =>
    obtain ⟨a, c⟩ := ac
    exact decm_err b a c w hd
  | ok x =>
    have hl := (dec_back hd).1
    have e : (match msgR x with | none => .error (0, 200) | some m => .ok m : Except (Nat × Nat) Msg) = msgOut (msgR x) := by cases msgR x <;> rfl
    show Calls Tryd.prog 20 #[.string b] w (DecMPost w (match msgR x with | none => .error (0, 200) | some m => .ok m : Except (Nat × Nat) Msg))
    rw [e]
    obtain ⟨k, n, s, l⟩ := x
    by_cases hk : k = 3
    · subst hk
      cases l with
      | nil => exact decm_bad b 3 n s [] w hd (.inr ⟨rfl, rfl⟩)
      | cons h r =>
        obtain ⟨hk, hn, ht, hl'⟩ := h
        have hn2 : (It.mk hk hn ht hl').n = hn := rfl
        have hlr : ∀ y ∈ r, look 7 y = 0 := fun y hy => (look_part hl).2 y (by simp [It.l, hy])
        by_cases hok : numOk 4 (.mk hk hn ht hl') = true
        · by_cases hik : isKind hn = true
          · by_cases hlen : r.length = (flds hn).length
            · have := decm_fields b n s hk hn ht hl' r w _ hd hlr hok hik hlen rfl hmo h0
              have e2 : msgR (.mk 3 n s (.mk hk hn ht hl' :: r)) = readAll (zeroMsg hn) (flds hn) r := by unfold msgR; simp only [hn2]; rw [if_pos ⟨trivial, hok, hik, hlen⟩]
              rw [e2]; exact this
            · have e2 : msgR (.mk 3 n s (.mk hk hn ht hl' :: r)) = none := by unfold msgR; simp only [hn2]; rw [if_neg fun h => hlen h.2.2.2]
              rw [e2]
              exact decm_head b n s hk hn ht hl' r w hd (.inr ⟨hok, .inr ⟨hik, hlen⟩⟩)
          · have e2 : msgR (.mk 3 n s (.mk hk hn ht hl' :: r)) = none := by unfold msgR; simp only [hn2]; rw [if_neg fun h => hik h.2.2.1]
            rw [e2]
            exact decm_head b n s hk hn ht hl' r w hd (.inr ⟨hok, .inl (by simpa using hik)⟩)
        · have e2 : msgR (.mk 3 n s (.mk hk hn ht hl' :: r)) = none := by unfold msgR; simp only [hn2]; rw [if_neg fun h => hok h.2.1]
          rw [e2]
          exact decm_head b n s hk hn ht hl' r w hd (.inl (by simpa using hok))
    · have e2 : msgR (.mk k n s l) = none := by
        unfold msgR
        split
        · rename_i k' n' s' h r he
          injection he with h1 h2 h3 h4
          rw [if_neg fun h => hk (h1.trans h.1)]
        · rfl
      rw [e2]
      exact decm_bad b k n s l w hd (.inl hk)

end Go.Proofs.YtakdfjkkeilffaaDoor
