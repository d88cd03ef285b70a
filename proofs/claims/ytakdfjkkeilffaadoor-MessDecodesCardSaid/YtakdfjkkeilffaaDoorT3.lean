/- Decode of the document: Ti. -/
import Derived.Test.YtakdfjkkeilffaaDoorT2
import Derived.Deep.RegionHeld3
set_option linter.unusedVariables false
set_option linter.unusedSimpArgs false
namespace Go.Proofs.YtakdfjkkeilffaaDoor
open Go.RowKit

theorem put11_offs (W : World) (N : Nat) (v0 v1 v2 v3 v4 v5 v6 v7 v8 v9 v10 : Value) : Off (fun g => g = N) W (((((((((((W.setCell ⟨N, 0, none⟩ v0).setCell ⟨N, 1, none⟩ v1).setCell ⟨N, 2, none⟩ v2).setCell ⟨N, 3, none⟩ v3).setCell ⟨N, 4, none⟩ v4).setCell ⟨N, 5, none⟩ v5).setCell ⟨N, 6, none⟩ v6).setCell ⟨N, 7, none⟩ v7).setCell ⟨N, 8, none⟩ v8).setCell ⟨N, 9, none⟩ v9).setCell ⟨N, 10, none⟩ v10) := put11_off W N v0 v1 v2 v3 v4 v5 v6 v7 v8 v9 v10
theorem call59 : Callable Tryd.prog 59 := ⟨_, Tryd.func59, by kernel_rfl, by kernel_rfl⟩
theorem rd1 (x1 x2 x3 x4 x5 : It) : readAll (zeroMsg 1) (flds 1) [x1, x2, x3, x4, x5] = if numOk 1073741824 x1 = true ∧ numOk 1073741824 x2 = true ∧ numOk 1073741824 x3 = true then (match numsR 4294967295 x4 with | none => none | some l => (match matsR x5 with | none => none | some ms => some ⟨1, (x1.n : Int), (x2.n : Int), (x3.n : Int), 0, 0, 0, 0, l, ms, []⟩)) else none := by
  show readAll (zeroMsg 1) [0, 1, 2, 7, 8] [x1, x2, x3, x4, x5] = _
  by_cases h0 : numOk 1073741824 x1 = true
  · skip
    by_cases h1 : numOk 1073741824 x2 = true
    · skip
      by_cases h2 : numOk 1073741824 x3 = true
      · skip
        cases hq : numsR 4294967295 x4 <;> cases hm : matsR x5 <;> simp [readAll, setF, mostN, zeroMsg, Msg.setNum, h0, h1, h2, hq, hm]
      · simp [readAll, setF, mostN, zeroMsg, Msg.setNum, h0, h1, h2]
    · simp [readAll, setF, mostN, zeroMsg, Msg.setNum, h0, h1]
  · simp [readAll, setF, mostN, zeroMsg, Msg.setNum, h0]

theorem rd2 (x1 x2 x3 x4 : It) : readAll (zeroMsg 2) (flds 2) [x1, x2, x3, x4] = if numOk 1073741824 x1 = true ∧ numOk 1073741824 x2 = true ∧ numOk 1073741824 x3 = true then (match numsR 18446744073709551615 x4 with | none => none | some l => some ⟨2, (x1.n : Int), (x2.n : Int), (x3.n : Int), 0, 0, 0, 0, [], [], l⟩) else none := by
  show readAll (zeroMsg 2) [0, 1, 2, 9] [x1, x2, x3, x4] = _
  by_cases h0 : numOk 1073741824 x1 = true
  · skip
    by_cases h1 : numOk 1073741824 x2 = true
    · skip
      by_cases h2 : numOk 1073741824 x3 = true
      · skip
        cases hq : numsR 18446744073709551615 x4 <;> simp [readAll, setF, mostN, zeroMsg, Msg.setNum, h0, h1, h2, hq]
      · simp [readAll, setF, mostN, zeroMsg, Msg.setNum, h0, h1, h2]
    · simp [readAll, setF, mostN, zeroMsg, Msg.setNum, h0, h1]
  · simp [readAll, setF, mostN, zeroMsg, Msg.setNum, h0]

theorem rd3 (x1 x2 x3 x4 x5 x6 : It) : readAll (zeroMsg 3) (flds 3) [x1, x2, x3, x4, x5, x6] = if numOk 1073741824 x1 = true ∧ numOk 1073741824 x2 = true ∧ numOk 1073741824 x3 = true ∧ numOk 1073741824 x4 = true ∧ numOk 1 x5 = true then (match numsR 4294967295 x6 with | none => none | some l => some ⟨3, (x2.n : Int), 0, 0, (x1.n : Int), (x3.n : Int), (x4.n : Int), (x5.n : Int), l, [], []⟩) else none := by
  show readAll (zeroMsg 3) [3, 0, 4, 5, 6, 7] [x1, x2, x3, x4, x5, x6] = _
  by_cases h0 : numOk 1073741824 x1 = true
  · skip
    by_cases h1 : numOk 1073741824 x2 = true
    · skip
      by_cases h2 : numOk 1073741824 x3 = true
      · skip
        by_cases h3 : numOk 1073741824 x4 = true
        · skip
          by_cases h4 : numOk 1 x5 = true
          · skip
            cases hq : numsR 4294967295 x6 <;> simp [readAll, setF, mostN, zeroMsg, Msg.setNum, h0, h1, h2, h3, h4, hq]
          · simp [readAll, setF, mostN, zeroMsg, Msg.setNum, h0, h1, h2, h3, h4]
        · simp [readAll, setF, mostN, zeroMsg, Msg.setNum, h0, h1, h2, h3]
      · simp [readAll, setF, mostN, zeroMsg, Msg.setNum, h0, h1, h2]
    · simp [readAll, setF, mostN, zeroMsg, Msg.setNum, h0, h1]
  · simp [readAll, setF, mostN, zeroMsg, Msg.setNum, h0]

theorem rd4 (x1 x2 x3 x4 : It) : readAll (zeroMsg 4) (flds 4) [x1, x2, x3, x4] = if numOk 1073741824 x1 = true ∧ numOk 1073741824 x2 = true ∧ numOk 1 x3 = true then (match numsR 18446744073709551615 x4 with | none => none | some l => some ⟨4, (x2.n : Int), 0, 0, (x1.n : Int), 0, 0, (x3.n : Int), [], [], l⟩) else none := by
  show readAll (zeroMsg 4) [3, 0, 6, 9] [x1, x2, x3, x4] = _
  by_cases h0 : numOk 1073741824 x1 = true
  · skip
    by_cases h1 : numOk 1073741824 x2 = true
    · skip
      by_cases h2 : numOk 1 x3 = true
      · skip
        cases hq : numsR 18446744073709551615 x4 <;> simp [readAll, setF, mostN, zeroMsg, Msg.setNum, h0, h1, h2, hq]
      · simp [readAll, setF, mostN, zeroMsg, Msg.setNum, h0, h1, h2]
    · simp [readAll, setF, mostN, zeroMsg, Msg.setNum, h0, h1]
  · simp [readAll, setF, mostN, zeroMsg, Msg.setNum, h0]

set_option maxRecDepth 100000 in
set_option maxHeartbeats 6400000 in
theorem msg38_k1 (w : World) (n m c g o : Nat) (s : ByteArray) (hk : Int) (hn : Nat) (ht : ByteArray) (hl r : List It) (R : Option Msg) {S : Nat → Prop} (hS : ∀ z, S z → z < w.heap.size) (hm : m = (It.mk hk hn ht hl :: r).length)
    (hx : Holds w (.int .i64 3) (.int .u64 n) (.string s) (.slice (some ⟨g, o, none⟩) m c) (.mk 3 n s (.mk hk hn ht hl :: r))) (hcp : CapsP S w 3 (.slice (some ⟨g, o, none⟩) m c) (.mk 3 n s (.mk hk hn ht hl :: r))) (hlook : ∀ y ∈ r, look 7 y = 0) (hok : numOk 4 (.mk hk hn ht hl) = true) (hkn : hn = 1)
    (hR : R = if r.length = 5 then readAll (zeroMsg 1) (flds 1) r else none) : Calls Tryd.prog 38 #[.agg #[.int .i64 3, .int .u64 n, .string s, .slice (some ⟨g, o, none⟩) m c]] w (Msg38 w R) := by
  have hmr : m = r.length + 1 := by rw [hm]; simp
  have hm0 : ¬ ((m : Nat) : Int) < 1 := by omega
  have hmp : (0 : Int) < ((m : Nat) : Int) := by omega
  obtain ⟨hA, hc, hnn, hic⟩ : ∃ hA hc, hn < 18446744073709551616 ∧ ICells w g o hk hn ht hA hl.length hc := by
    obtain ⟨g', o', e, hA, hc, h1, h2⟩ := hx.head
    obtain ⟨rfl, rfl⟩ : g = g' ∧ o = o' := by simpa using e
    exact ⟨hA, hc, h1, h2⟩
  have hgw : g < w.heap.size := lt_cell hic.c0
  have HIC := Lib.hid hic
  have HW := Lib.hid (W38.first w 3 n s (some ⟨g, o, none⟩) m c)
  obtain ⟨W0, hW0⟩ : ∃ W0, W0 = w38 w 3 n s (some ⟨g, o, none⟩) m c := ⟨_, rfl⟩
  rw [← hW0] at HW
  unfold w38 zeroM at hW0
  have HW0 := Lib.hid hW0
  have H55 : Hid (∀ W : World, Calls Tryd.prog 55 #[.agg #[.int .i64 hk, .int .u64 hn, .string ht, .slice hA hl.length hc], .int .u64 (4 : Nat)] W fun e w' => e = .returned (.bool true) ∧ Below W.heap.size W w') := fun W => by
    have := isnum55_any hk hn ht hA hl.length hc hl 4 W
    rwa [hok] at this
  have hwn : IntKind.i64.wrap (hn : Int) = (hn : Int) := by rw [IntKind.wrap_i64]; omega
  have q1 : ((hn : Int) == 1) = true := by rw [hkn]; rfl
  have hmc : m ≤ c := by
    have h1 := hcp.cap
    have h2 : (It.mk hk hn ht hl :: r).length ≤ c := h1
    omega
  clear hic hW0 hok hkn
  by_cases hlen : r.length = 5
  · rw [if_pos hlen] at hR
    have hml : m = 6 := by omega
    have hne : (((m : Nat) : Int) != 6) = false := by rw [hml]; rfl
    have hcf : ¬ ((c : Nat) : Int) < 4 := by omega
    have hmi1 : ¬ ((m : Nat) : Int) ≤ 1 := by omega
    have hmi2 : ¬ ((m : Nat) : Int) ≤ 2 := by omega
    have hmi3 : ¬ ((m : Nat) : Int) ≤ 3 := by omega
    have hmi4 : ¬ ((m : Nat) : Int) ≤ 4 := by omega
    have hmi5 : ¬ ((m : Nat) : Int) ≤ 5 := by omega
    obtain ⟨x1, x2, x3, x4, x5, rfl⟩ : ∃ x1 x2 x3 x4 x5, r = [x1, x2, x3, x4, x5] := by
      match r, hlen with
      | [x1, x2, x3, x4, x5], _ => exact ⟨x1, x2, x3, x4, x5, rfl⟩
    have HIT := Lib.hid hx.members
    obtain ⟨k1, n1, s1, A1, c1, l1, e1, hn1, ic1, hh1⟩ := hx.at 1 (by simp)
    have e1 : x1 = .mk k1 n1 s1 l1 := e1
    subst e1
    have I1 : Hid (ICells w g (o + 4) k1 n1 s1 A1 l1.length c1) := by
      show ICells w g (o + 4) k1 n1 s1 A1 l1.length c1
      have h := ic1
      simpa using h
    obtain ⟨k2, n2, s2, A2, c2, l2, e2, hn2, ic2, hh2⟩ := hx.at 2 (by simp)
    have e2 : x2 = .mk k2 n2 s2 l2 := e2
    subst e2
    have I2 : Hid (ICells w g (o + 8) k2 n2 s2 A2 l2.length c2) := by
      show ICells w g (o + 8) k2 n2 s2 A2 l2.length c2
      have h := ic2
      simpa using h
    obtain ⟨k3, n3, s3, A3, c3, l3, e3, hn3, ic3, hh3⟩ := hx.at 3 (by simp)
    have e3 : x3 = .mk k3 n3 s3 l3 := e3
    subst e3
    have I3 : Hid (ICells w g (o + 12) k3 n3 s3 A3 l3.length c3) := by
      show ICells w g (o + 12) k3 n3 s3 A3 l3.length c3
      have h := ic3
      simpa using h
    obtain ⟨k4, n4, s4, A4, c4, l4, e4, hn4, ic4, hh4⟩ := hx.at 4 (by simp)
    have e4 : x4 = .mk k4 n4 s4 l4 := e4
    subst e4
    have I4 : Hid (ICells w g (o + 16) k4 n4 s4 A4 l4.length c4) := by
      show ICells w g (o + 16) k4 n4 s4 A4 l4.length c4
      have h := ic4
      simpa using h
    obtain ⟨k5, n5, s5, A5, c5, l5, e5, hn5, ic5, hh5⟩ := hx.at 5 (by simp)
    have e5 : x5 = .mk k5 n5 s5 l5 := e5
    subst e5
    have I5 : Hid (ICells w g (o + 20) k5 n5 s5 A5 l5.length c5) := by
      show ICells w g (o + 20) k5 n5 s5 A5 l5.length c5
      have h := ic5
      simpa using h
    have HL4 : Hid (l4.length ≤ 16384) := (look_part (f := 6) (x := .mk k4 n4 s4 l4) (hlook _ (by simp))).1
    have HM4 : Hid (Items w A4 l4) := hh4.members
    have HI3 : Hid (Items w (some ⟨g, o + 4, none⟩) [It.mk k1 n1 s1 l1, It.mk k2 n2 s2 l2, It.mk k3 n3 s3 l3]) := HIT.out.sub 1 3 (by simp)
    have H56 : Hid (∀ (W : World) (c' : Nat), Below w.heap.size w W → Calls Tryd.prog 56 #[.slice (some ⟨g, o + 4, none⟩) 3 c'] W fun e w' => e = .returned (.bool ([It.mk k1 n1 s1 l1, It.mk k2 n2 s2 l2, It.mk k3 n3 s3 l3].all (numOk 1073741824))) ∧ Below W.heap.size W w') := fun W c' hb => fits56_any _ 3 c' _ W rfl (by decide) (HI3.out.later hb)
    have H57 : Hid (∀ (W : World), Below w.heap.size w W → Calls Tryd.prog 57 #[.agg #[.int .i64 k4, .int .u64 n4, .string s4, .slice A4 l4.length c4], .int .u64 (4294967295 : Nat)] W fun e w' => e = .returned (.bool (decide (k4 = 3 ∧ l4.all (numOk 4294967295) = true))) ∧ Below W.heap.size W w') := fun W hb => nums57_any k4 n4 s4 A4 l4.length c4 l4 4294967295 W rfl HL4.out (HM4.out.later hb)
    have H58 : Hid (∀ (W : World), Below w.heap.size w W → Calls Tryd.prog 58 #[.agg #[.int .i64 k5, .int .u64 n5, .string s5, .slice A5 l5.length c5]] W (MatsPost (matsR (.mk k5 n5 s5 l5)) W)) := fun W hb => mats58_any k5 n5 s5 A5 c5 l5 l5.length W rfl (hh5.later hb) (hlook _ (by simp)) ((hcp.at 5 (by simp) ic5.c3).keep (fun z hz => hz) (fun z hz => hb.block z (hS z hz)))
    have HGET : Hid (l4.all (numOk 4294967295) = true → ∀ (W : World), Below w.heap.size w W → Calls Tryd.prog 59 #[.agg #[.int .i64 k4, .int .u64 n4, .string s4, .slice A4 l4.length c4]] W fun e w' => Below W.heap.size W w' ∧ ∃ v, e = .returned v ∧ w'.ownsRow W.heap.size 24 1 v (toI (l4.map It.n)).length ((toI (l4.map It.n)).map (Value.int .u32))) := fun ha W hb => weights59_any k4 n4 s4 A4 l4.length c4 l4 W rfl HL4.out (HM4.out.later hb) (fun y hy => (of_decide_eq_true (List.all_eq_true.1 ha y hy)).2)
    obtain ⟨t1, ht1⟩ : ∃ t1, t1 = [It.mk k1 n1 s1 l1, It.mk k2 n2 s2 l2, It.mk k3 n3 s3 l3].all (numOk 1073741824) := ⟨_, rfl⟩
    obtain ⟨t2, ht2⟩ : ∃ t2, t2 = decide (k4 = 3 ∧ l4.all (numOk 4294967295) = true) := ⟨_, rfl⟩
    obtain ⟨rm, hrm⟩ : ∃ rm, rm = matsR (.mk k5 n5 s5 l5) := ⟨_, rfl⟩
    rw [rd1] at hR
    have HBAD : Hid (t1 = false ∨ t2 = false → R = none) := by
      intro hf
      rw [hR]
      rcases hf with hf | hf
      · rw [if_neg]
        intro h
        rw [hf] at ht1
        simp [h] at ht1
      · rw [hf] at ht2
        have hq : numsR 4294967295 (.mk k4 n4 s4 l4) = none := by rw [numsR_of, if_neg (of_decide_eq_false ht2.symm)]
        rw [hq]; split <;> rfl
    have HGOOD : Hid (t1 = true → t2 = true → R = Option.map (fun ms => (⟨1, (n1 : Int), (n2 : Int), (n3 : Int), 0, 0, 0, 0, l4.map It.n, ms, []⟩ : Msg)) rm ∧ (n1 ≤ 1073741824 ∧ n2 ≤ 1073741824 ∧ n3 ≤ 1073741824) ∧ l4.all (numOk 4294967295) = true) := by
      intro gt1 gt2
      rw [gt1] at ht1
      rw [gt2] at ht2
      have h2 := of_decide_eq_true ht2.symm
      have hq : numsR 4294967295 (.mk k4 n4 s4 l4) = some (l4.map It.n) := by rw [numsR_of, if_pos h2]
      have h1 := ht1.symm
      simp only [List.all_cons, List.all_nil, Bool.and_true, Bool.and_eq_true] at h1
      obtain ⟨y1, y2, y3⟩ := h1
      refine ⟨?_, ⟨(of_decide_eq_true y1).2, (of_decide_eq_true y2).2, (of_decide_eq_true y3).2⟩, h2.2⟩
      rw [hR, if_pos ⟨y1, y2, y3⟩, hq, ← hrm]
      cases rm <;> rfl
    rw [← ht1] at H56
    rw [← ht2] at H57
    rw [← hrm] at H58
    clear hx hcp hlook hR ht1 ht2 HIT HI3 hm hlen hmr hml ic1 hh1 ic2 hh2 ic3 hh3 ic4 hh4 ic5 hh5
    clear hrm
    have tok1 : True := trivial
    cases t1
    · have HF := Lib.hid (HBAD.out (.inl rfl))
      go_enter Tryd.func38, Tryd.ntmps38
      go_upto_region 2 with (fail)
      rw [← HW0.out]
      obtain ⟨a0, a1, a2, a3⟩ := HIC.out.later HW.out.below
      obtain ⟨b0, b1, b2, b3⟩ := item_at HW.out.xb
      go_wp2_with (first
        | (clear tok1; go_at_call 55; refine (H55.out _).mono ?_; rintro e w1 ⟨rfl, hb1⟩; have HW1 := Lib.hid (HW.out.later hb1); clear hb1; obtain ⟨a01, a11, a21, a31⟩ := HIC.out.later HW1.out.below; obtain ⟨b01, b11, b21, b31⟩ := item_at HW1.out.xb)
        | (go_at_call 56; refine (H56.out _ _ HW1.out.below).mono ?_; rintro e w2 ⟨rfl, hb2⟩; have HW2 := Lib.hid (HW1.out.later hb2); clear hb2; obtain ⟨f0, f1, f2, f3⟩ := I4.out.later HW2.out.below; obtain ⟨⟨z0, z1, z2, z3, z4, z5, z6, z7, z8, z9, z10⟩, zf⟩ := zeroM_at HW2.out.z1; obtain ⟨⟨v0, v1, v2, v3, v4, v5, v6, v7, v8, v9, v10⟩, vf⟩ := zeroM_at HW2.out.z2))
      rw [HF.out]
      exact HW2.out.bad rfl rfl rfl
    · skip
      cases t2
      · have HF := Lib.hid (HBAD.out (.inr rfl))
        go_enter Tryd.func38, Tryd.ntmps38
        go_upto_region 2 with (fail)
        rw [← HW0.out]
        obtain ⟨a0, a1, a2, a3⟩ := HIC.out.later HW.out.below
        obtain ⟨b0, b1, b2, b3⟩ := item_at HW.out.xb
        go_wp2_with (first
          | (clear tok1; go_at_call 55; refine (H55.out _).mono ?_; rintro e w1 ⟨rfl, hb1⟩; have HW1 := Lib.hid (HW.out.later hb1); clear hb1; obtain ⟨a01, a11, a21, a31⟩ := HIC.out.later HW1.out.below; obtain ⟨b01, b11, b21, b31⟩ := item_at HW1.out.xb)
          | (go_at_call 56; refine (H56.out _ _ HW1.out.below).mono ?_; rintro e w2 ⟨rfl, hb2⟩; have HW2 := Lib.hid (HW1.out.later hb2); clear hb2; obtain ⟨f0, f1, f2, f3⟩ := I4.out.later HW2.out.below)
          | (go_at_call 57; refine (H57.out _ HW2.out.below).mono ?_; rintro e w3 ⟨rfl, hb3⟩; have HW3 := Lib.hid (HW2.out.later hb3); clear hb3; obtain ⟨h0, h1, h2, h3⟩ := I5.out.later HW3.out.below; obtain ⟨⟨z0, z1, z2, z3, z4, z5, z6, z7, z8, z9, z10⟩, zf⟩ := zeroM_at HW3.out.z1; obtain ⟨⟨v0, v1, v2, v3, v4, v5, v6, v7, v8, v9, v10⟩, vf⟩ := zeroM_at HW3.out.z2))
        rw [HF.out]
        exact HW3.out.bad rfl rfl rfl
      · skip
        obtain ⟨hg, ⟨m1, m2, m3⟩, hall⟩ := HGOOD.out rfl rfl
        have w51 : IntKind.i64.wrap (n1 : Int) = (n1 : Int) := by rw [IntKind.wrap_i64]; omega
        have w52 : IntKind.i64.wrap (n2 : Int) = (n2 : Int) := by rw [IntKind.wrap_i64]; omega
        have w53 : IntKind.i64.wrap (n3 : Int) = (n3 : Int) := by rw [IntKind.wrap_i64]; omega
        have HALL := Lib.hid hall
        clear hall HBAD HGOOD
        cases rm with
        | none =>
          have HG : Hid (R = none) := hg
          clear hg
          go_enter Tryd.func38, Tryd.ntmps38
          go_upto_region 2 with (fail)
          rw [← HW0.out]
          obtain ⟨a0, a1, a2, a3⟩ := HIC.out.later HW.out.below
          obtain ⟨b0, b1, b2, b3⟩ := item_at HW.out.xb
          go_wp2_with (first
            | (clear tok1; go_at_call 55; refine (H55.out _).mono ?_; rintro e w1 ⟨rfl, hb1⟩; have HW1 := Lib.hid (HW.out.later hb1); clear hb1; obtain ⟨a01, a11, a21, a31⟩ := HIC.out.later HW1.out.below; obtain ⟨b01, b11, b21, b31⟩ := item_at HW1.out.xb)
            | (go_at_call 56; refine (H56.out _ _ HW1.out.below).mono ?_; rintro e w2 ⟨rfl, hb2⟩; have HW2 := Lib.hid (HW1.out.later hb2); clear hb2; obtain ⟨f0, f1, f2, f3⟩ := I4.out.later HW2.out.below)
            | (go_at_call 57; refine (H57.out _ HW2.out.below).mono ?_; rintro e w3 ⟨rfl, hb3⟩; have HW3 := Lib.hid (HW2.out.later hb3); clear hb3; obtain ⟨h0, h1, h2, h3⟩ := I5.out.later HW3.out.below)
            | (go_at_call 58; refine (H58.out _ HW3.out.below).mono ?_; rintro e w4 ⟨hb4, rfl⟩; have HW4 := Lib.hid (HW3.out.later hb4); clear hb4; obtain ⟨⟨z0, z1, z2, z3, z4, z5, z6, z7, z8, z9, z10⟩, zf⟩ := zeroM_at HW4.out.z1; obtain ⟨⟨v0, v1, v2, v3, v4, v5, v6, v7, v8, v9, v10⟩, vf⟩ := zeroM_at HW4.out.z2))
          rw [HG.out]
          exact HW4.out.bad rfl rfl rfl
        | some ms =>
          have HG : Hid (R = some (⟨1, (n1 : Int), (n2 : Int), (n3 : Int), 0, 0, 0, 0, l4.map It.n, ms, []⟩ : Msg)) := hg
          clear hg
          go_enter Tryd.func38, Tryd.ntmps38
          go_upto_region 2 with (fail)
          rw [← HW0.out]
          obtain ⟨a0, a1, a2, a3⟩ := HIC.out.later HW.out.below
          obtain ⟨b0, b1, b2, b3⟩ := item_at HW.out.xb
          go_upto_region 12 with (first
            | (clear tok1; go_at_call 55; refine (H55.out _).mono ?_; rintro e w1 ⟨rfl, hb1⟩; have HW1 := Lib.hid (HW.out.later hb1); clear hb1; obtain ⟨a01, a11, a21, a31⟩ := HIC.out.later HW1.out.below; obtain ⟨b01, b11, b21, b31⟩ := item_at HW1.out.xb)
            | (go_at_call 56; refine (H56.out _ _ HW1.out.below).mono ?_; rintro e w2 ⟨rfl, hb2⟩; have HW2 := Lib.hid (HW1.out.later hb2); clear hb2; obtain ⟨f0, f1, f2, f3⟩ := I4.out.later HW2.out.below)
            | (go_at_call 57; refine (H57.out _ HW2.out.below).mono ?_; rintro e w3 ⟨rfl, hb3⟩; have HW3 := Lib.hid (HW2.out.later hb3); clear hb3; obtain ⟨h0, h1, h2, h3⟩ := I5.out.later HW3.out.below)
            | (go_at_call 58; refine (H58.out _ HW3.out.below).mono ?_; rintro e w4 ⟨hb4, vm, vvs, rfl, hrow⟩; obtain ⟨MA, ML, MC, rfl⟩ : ∃ A l c, vm = .slice A l c := (by rcases hrow.row.2 with ⟨rfl, _⟩ | ⟨g', cap', cur, rfl, _⟩ <;> exact ⟨_, _, _, rfl⟩); have HROW := Lib.hid hrow; have HW4 := Lib.hid (HW3.out.later hb4); clear hb4 hrow))
          have HSS : Hid (∀ w' : World, w'.heap[g]? = w.heap[g]? → w'.heap[w.heap.size]? = some (.cells #[.int .i64 3, .int .u64 n, .string s, .slice (some ⟨g, o, none⟩) m c] 57 (0, 0)) → w'.cell? ⟨w.heap.size, 3, none⟩ = some (.slice (some ⟨g, o, none⟩) m c) ∧ w'.cell? ⟨g, o + 4 + 1, none⟩ = some (.int .u64 (n1 : Int)) ∧ w'.cell? ⟨g, o + 8 + 1, none⟩ = some (.int .u64 (n2 : Int)) ∧ w'.cell? ⟨g, o + 12 + 1, none⟩ = some (.int .u64 (n3 : Int)) ∧ w'.cell? ⟨g, o + 16, none⟩ = some (.int .i64 k4) ∧ w'.cell? ⟨g, o + 16 + 1, none⟩ = some (.int .u64 (n4 : Int)) ∧ w'.cell? ⟨g, o + 16 + 2, none⟩ = some (.string s4) ∧ w'.cell? ⟨g, o + 16 + 3, none⟩ = some (.slice A4 l4.length c4)) := fun w' hb hy => by
            have hcc : ∀ j, w'.cell? ⟨g, j, none⟩ = w.cell? ⟨g, j, none⟩ := fun j => World.cell?_of_block hb
            exact ⟨(item_at hy).2.2.2, (hcc _).trans I1.out.c1, (hcc _).trans I2.out.c1, (hcc _).trans I3.out.c1, (hcc _).trans I4.out.c0, (hcc _).trans I4.out.c1, (hcc _).trans I4.out.c2, (hcc _).trans I4.out.c3⟩
          have hbl := HW4.out.below
          have hsl := hbl.size
          have hS0 := HSS.out w4.drew (hbl.block g hgw) HW4.out.xb
          have HCG : Hid (Calls Tryd.prog 59 #[.agg #[.int .i64 k4, .int .u64 n4, .string s4, .slice A4 l4.length c4]] w4.drew fun e w' => Below w4.heap.size w4 w' ∧ ∃ v, e = .returned v ∧ w'.ownsRow w4.heap.size 24 1 v (toI (l4.map It.n)).length ((toI (l4.map It.n)).map (Value.int .u32))) := by
            refine (HGET.out HALL.out w4.drew ⟨hbl.os, hbl.tape, hbl.output, hbl.size, hbl.block⟩).mono ?_
            rintro e w' ⟨hb, v, he, hr⟩
            exact ⟨⟨hb.os, hb.tape, hb.output, hb.size, hb.block⟩, v, he, hr⟩
          have hgN : g ≠ w.heap.size + 1 := by omega
          have HBL := Lib.hid hbl
          clear hbl a0 a1 a2 a3 b0 b1 b2 b3
          go_region_held3 (fun w' => w'.cell? ⟨w.heap.size, 3, none⟩ = some (.slice (some ⟨g, o, none⟩) m c) ∧ w'.cell? ⟨g, o + 4 + 1, none⟩ = some (.int .u64 (n1 : Int)) ∧ w'.cell? ⟨g, o + 8 + 1, none⟩ = some (.int .u64 (n2 : Int)) ∧ w'.cell? ⟨g, o + 12 + 1, none⟩ = some (.int .u64 (n3 : Int)) ∧ w'.cell? ⟨g, o + 16, none⟩ = some (.int .i64 k4) ∧ w'.cell? ⟨g, o + 16 + 1, none⟩ = some (.int .u64 (n4 : Int)) ∧ w'.cell? ⟨g, o + 16 + 2, none⟩ = some (.string s4) ∧ w'.cell? ⟨g, o + 16 + 3, none⟩ = some (.slice A4 l4.length c4)) (first | (with_reducible exact hS0) | (with_reducible exact hS3) | exact HSS.out _ (((put11_offs _ _ _ _ _ _ _ _ _ _ _ _ _).block g hgN (by have h8 := hs9; omega)).trans hg9) (((put11_offs _ _ _ _ _ _ _ _ _ _ _ _ _).block w.heap.size (by omega) (by have h8 := lt_of_block HW9.out.xb; omega)).trans HW9.out.xb)) (first
            | (refine step_call rfl 59 call59 #[.tmp 80] #[57] rfl #[.agg #[.int .i64 k4, .int .u64 n4, .string s4, .slice A4 l4.length c4]] (by simp [Act.eval, Act.put]) ?_; refine HCG.out.mono ?_; rintro e w9 ⟨hb9, D, rfl, hD⟩; obtain ⟨DA, DL, DC, rfl⟩ : ∃ DA DL DC, D = .slice DA DL DC := (by rcases hD.2 with ⟨rfl, _⟩ | ⟨g', cap', cur, rfl, _⟩ <;> exact ⟨_, _, _, rfl⟩); have HD := Lib.hid hD; have hg9 := (hb9.block g (by omega)).trans (HBL.out.block g hgw); have hs9 : w.heap.size ≤ w9.heap.size := (Nat.le_trans hsl hb9.size); have HW9 := Lib.hid (HW4.out.later hb9); have hS3 := HSS.out w9 hg9 HW9.out.xb; have HB9 := Lib.hid hb9; clear hb9 hD; obtain ⟨⟨z0, z1, z2, z3, z4, z5, z6, z7, z8, z9, z10⟩, zf⟩ := zeroM_at HW9.out.z1; refine ⟨_, rfl, ?_⟩))
          all_goals
            go_wp2_with fail
            rw [HG.out]
            exact HW9.out.good (base := w.heap.size + 2) ⟨ownsRow_mono HD.out (by have h1 := HW4.out.z2; have h2 := lt_of_block h1; omega), ⟨vvs, (HROW.out.later HB9.out).mono (by have h1 := lt_of_block HW3.out.z2; omega)⟩, World.ownsRow_nil _ _ _ _⟩ (by omega) rfl rfl rfl
  · rw [if_neg hlen] at hR
    have hne : (((m : Nat) : Int) != 6) = true := by simp; omega
    have HF := Lib.hid hR
    have tok1 : True := trivial
    clear hx hcp hlook hR hm hlen hmr
    go_enter Tryd.func38, Tryd.ntmps38
    go_upto_region 2 with (fail)
    rw [← HW0.out]
    obtain ⟨a0, a1, a2, a3⟩ := HIC.out.later HW.out.below
    obtain ⟨b0, b1, b2, b3⟩ := item_at HW.out.xb
    go_wp2_with (first
      | (clear tok1; go_at_call 55; refine (H55.out _).mono ?_; rintro e w1 ⟨rfl, hb1⟩; have HW1 := Lib.hid (HW.out.later hb1); clear hb1; obtain ⟨a01, a11, a21, a31⟩ := HIC.out.later HW1.out.below; obtain ⟨b01, b11, b21, b31⟩ := item_at HW1.out.xb; obtain ⟨⟨z0, z1, z2, z3, z4, z5, z6, z7, z8, z9, z10⟩, zf⟩ := zeroM_at HW1.out.z1; obtain ⟨⟨v0, v1, v2, v3, v4, v5, v6, v7, v8, v9, v10⟩, vf⟩ := zeroM_at HW1.out.z2))
    rw [HF.out]
    exact HW1.out.bad rfl rfl rfl

set_option maxRecDepth 100000 in
set_option maxHeartbeats 6400000 in
theorem msg38_k2 (w : World) (n m c g o : Nat) (s : ByteArray) (hk : Int) (hn : Nat) (ht : ByteArray) (hl r : List It) (R : Option Msg) {S : Nat → Prop} (hS : ∀ z, S z → z < w.heap.size) (hm : m = (It.mk hk hn ht hl :: r).length)
    (hx : Holds w (.int .i64 3) (.int .u64 n) (.string s) (.slice (some ⟨g, o, none⟩) m c) (.mk 3 n s (.mk hk hn ht hl :: r))) (hcp : CapsP S w 3 (.slice (some ⟨g, o, none⟩) m c) (.mk 3 n s (.mk hk hn ht hl :: r))) (hlook : ∀ y ∈ r, look 7 y = 0) (hok : numOk 4 (.mk hk hn ht hl) = true) (hkn : hn = 2)
    (hR : R = if r.length = 4 then readAll (zeroMsg 2) (flds 2) r else none) : Calls Tryd.prog 38 #[.agg #[.int .i64 3, .int .u64 n, .string s, .slice (some ⟨g, o, none⟩) m c]] w (Msg38 w R) := by
  have hmr : m = r.length + 1 := by rw [hm]; simp
  have hm0 : ¬ ((m : Nat) : Int) < 1 := by omega
  have hmp : (0 : Int) < ((m : Nat) : Int) := by omega
  obtain ⟨hA, hc, hnn, hic⟩ : ∃ hA hc, hn < 18446744073709551616 ∧ ICells w g o hk hn ht hA hl.length hc := by
    obtain ⟨g', o', e, hA, hc, h1, h2⟩ := hx.head
    obtain ⟨rfl, rfl⟩ : g = g' ∧ o = o' := by simpa using e
    exact ⟨hA, hc, h1, h2⟩
  have hgw : g < w.heap.size := lt_cell hic.c0
  have HIC := Lib.hid hic
  have HW := Lib.hid (W38.first w 3 n s (some ⟨g, o, none⟩) m c)
  obtain ⟨W0, hW0⟩ : ∃ W0, W0 = w38 w 3 n s (some ⟨g, o, none⟩) m c := ⟨_, rfl⟩
  rw [← hW0] at HW
  unfold w38 zeroM at hW0
  have HW0 := Lib.hid hW0
  have H55 : Hid (∀ W : World, Calls Tryd.prog 55 #[.agg #[.int .i64 hk, .int .u64 hn, .string ht, .slice hA hl.length hc], .int .u64 (4 : Nat)] W fun e w' => e = .returned (.bool true) ∧ Below W.heap.size W w') := fun W => by
    have := isnum55_any hk hn ht hA hl.length hc hl 4 W
    rwa [hok] at this
  have hwn : IntKind.i64.wrap (hn : Int) = (hn : Int) := by rw [IntKind.wrap_i64]; omega
  have q1 : ((hn : Int) == 1) = false := by rw [hkn]; rfl
  have q2 : ((hn : Int) == 2) = true := by rw [hkn]; rfl
  have hmc : m ≤ c := by
    have h1 := hcp.cap
    have h2 : (It.mk hk hn ht hl :: r).length ≤ c := h1
    omega
  clear hic hW0 hok hkn
  by_cases hlen : r.length = 4
  · rw [if_pos hlen] at hR
    have hml : m = 5 := by omega
    have hne : (((m : Nat) : Int) != 5) = false := by rw [hml]; rfl
    have hcf : ¬ ((c : Nat) : Int) < 4 := by omega
    have hmi1 : ¬ ((m : Nat) : Int) ≤ 1 := by omega
    have hmi2 : ¬ ((m : Nat) : Int) ≤ 2 := by omega
    have hmi3 : ¬ ((m : Nat) : Int) ≤ 3 := by omega
    have hmi4 : ¬ ((m : Nat) : Int) ≤ 4 := by omega
    obtain ⟨x1, x2, x3, x4, rfl⟩ : ∃ x1 x2 x3 x4, r = [x1, x2, x3, x4] := by
      match r, hlen with
      | [x1, x2, x3, x4], _ => exact ⟨x1, x2, x3, x4, rfl⟩
    have HIT := Lib.hid hx.members
    obtain ⟨k1, n1, s1, A1, c1, l1, e1, hn1, ic1, hh1⟩ := hx.at 1 (by simp)
    have e1 : x1 = .mk k1 n1 s1 l1 := e1
    subst e1
    have I1 : Hid (ICells w g (o + 4) k1 n1 s1 A1 l1.length c1) := by
      show ICells w g (o + 4) k1 n1 s1 A1 l1.length c1
      have h := ic1
      simpa using h
    obtain ⟨k2, n2, s2, A2, c2, l2, e2, hn2, ic2, hh2⟩ := hx.at 2 (by simp)
    have e2 : x2 = .mk k2 n2 s2 l2 := e2
    subst e2
    have I2 : Hid (ICells w g (o + 8) k2 n2 s2 A2 l2.length c2) := by
      show ICells w g (o + 8) k2 n2 s2 A2 l2.length c2
      have h := ic2
      simpa using h
    obtain ⟨k3, n3, s3, A3, c3, l3, e3, hn3, ic3, hh3⟩ := hx.at 3 (by simp)
    have e3 : x3 = .mk k3 n3 s3 l3 := e3
    subst e3
    have I3 : Hid (ICells w g (o + 12) k3 n3 s3 A3 l3.length c3) := by
      show ICells w g (o + 12) k3 n3 s3 A3 l3.length c3
      have h := ic3
      simpa using h
    obtain ⟨k4, n4, s4, A4, c4, l4, e4, hn4, ic4, hh4⟩ := hx.at 4 (by simp)
    have e4 : x4 = .mk k4 n4 s4 l4 := e4
    subst e4
    have I4 : Hid (ICells w g (o + 16) k4 n4 s4 A4 l4.length c4) := by
      show ICells w g (o + 16) k4 n4 s4 A4 l4.length c4
      have h := ic4
      simpa using h
    have HL4 : Hid (l4.length ≤ 16384) := (look_part (f := 6) (x := .mk k4 n4 s4 l4) (hlook _ (by simp))).1
    have HM4 : Hid (Items w A4 l4) := hh4.members
    have HI3 : Hid (Items w (some ⟨g, o + 4, none⟩) [It.mk k1 n1 s1 l1, It.mk k2 n2 s2 l2, It.mk k3 n3 s3 l3]) := HIT.out.sub 1 3 (by simp)
    have H56 : Hid (∀ (W : World) (c' : Nat), Below w.heap.size w W → Calls Tryd.prog 56 #[.slice (some ⟨g, o + 4, none⟩) 3 c'] W fun e w' => e = .returned (.bool ([It.mk k1 n1 s1 l1, It.mk k2 n2 s2 l2, It.mk k3 n3 s3 l3].all (numOk 1073741824))) ∧ Below W.heap.size W w') := fun W c' hb => fits56_any _ 3 c' _ W rfl (by decide) (HI3.out.later hb)
    have H57 : Hid (∀ (W : World), Below w.heap.size w W → Calls Tryd.prog 57 #[.agg #[.int .i64 k4, .int .u64 n4, .string s4, .slice A4 l4.length c4], .int .u64 (18446744073709551615 : Nat)] W fun e w' => e = .returned (.bool (decide (k4 = 3 ∧ l4.all (numOk 18446744073709551615) = true))) ∧ Below W.heap.size W w') := fun W hb => nums57_any k4 n4 s4 A4 l4.length c4 l4 18446744073709551615 W rfl HL4.out (HM4.out.later hb)
    have HGET : Hid (∀ (W : World), Below w.heap.size w W → Calls Tryd.prog 60 #[.agg #[.int .i64 k4, .int .u64 n4, .string s4, .slice A4 l4.length c4]] W fun e w' => Below W.heap.size W w' ∧ ∃ v, e = .returned v ∧ w'.ownsRow W.heap.size 51 1 v (toI (l4.map It.n)).length ((toI (l4.map It.n)).map (Value.int .u64))) := fun W hb => dists60_any k4 n4 s4 A4 l4.length c4 l4 W rfl HL4.out (HM4.out.later hb)
    obtain ⟨t1, ht1⟩ : ∃ t1, t1 = [It.mk k1 n1 s1 l1, It.mk k2 n2 s2 l2, It.mk k3 n3 s3 l3].all (numOk 1073741824) := ⟨_, rfl⟩
    obtain ⟨t2, ht2⟩ : ∃ t2, t2 = decide (k4 = 3 ∧ l4.all (numOk 18446744073709551615) = true) := ⟨_, rfl⟩
    rw [rd2] at hR
    have HBAD : Hid (t1 = false ∨ t2 = false → R = none) := by
      intro hf
      rw [hR]
      rcases hf with hf | hf
      · rw [if_neg]
        intro h
        rw [hf] at ht1
        simp [h] at ht1
      · rw [hf] at ht2
        have hq : numsR 18446744073709551615 (.mk k4 n4 s4 l4) = none := by rw [numsR_of, if_neg (of_decide_eq_false ht2.symm)]
        rw [hq]; split <;> rfl
    have HGOOD : Hid (t1 = true → t2 = true → R = some (⟨2, (n1 : Int), (n2 : Int), (n3 : Int), 0, 0, 0, 0, [], [], l4.map It.n⟩ : Msg) ∧ (n1 ≤ 1073741824 ∧ n2 ≤ 1073741824 ∧ n3 ≤ 1073741824) ∧ l4.all (numOk 18446744073709551615) = true) := by
      intro gt1 gt2
      rw [gt1] at ht1
      rw [gt2] at ht2
      have h2 := of_decide_eq_true ht2.symm
      have hq : numsR 18446744073709551615 (.mk k4 n4 s4 l4) = some (l4.map It.n) := by rw [numsR_of, if_pos h2]
      have h1 := ht1.symm
      simp only [List.all_cons, List.all_nil, Bool.and_true, Bool.and_eq_true] at h1
      obtain ⟨y1, y2, y3⟩ := h1
      refine ⟨?_, ⟨(of_decide_eq_true y1).2, (of_decide_eq_true y2).2, (of_decide_eq_true y3).2⟩, h2.2⟩
      rw [hR, if_pos ⟨y1, y2, y3⟩, hq]
      rfl
    rw [← ht1] at H56
    rw [← ht2] at H57
    clear hx hcp hlook hR ht1 ht2 HIT HI3 hm hlen hmr hml ic1 hh1 ic2 hh2 ic3 hh3 ic4 hh4
    have tok1 : True := trivial
    cases t1
    · have HF := Lib.hid (HBAD.out (.inl rfl))
      go_enter Tryd.func38, Tryd.ntmps38
      go_upto_region 2 with (fail)
      rw [← HW0.out]
      obtain ⟨a0, a1, a2, a3⟩ := HIC.out.later HW.out.below
      obtain ⟨b0, b1, b2, b3⟩ := item_at HW.out.xb
      go_wp2_with (first
        | (clear tok1; go_at_call 55; refine (H55.out _).mono ?_; rintro e w1 ⟨rfl, hb1⟩; have HW1 := Lib.hid (HW.out.later hb1); clear hb1; obtain ⟨a01, a11, a21, a31⟩ := HIC.out.later HW1.out.below; obtain ⟨b01, b11, b21, b31⟩ := item_at HW1.out.xb)
        | (go_at_call 56; refine (H56.out _ _ HW1.out.below).mono ?_; rintro e w2 ⟨rfl, hb2⟩; have HW2 := Lib.hid (HW1.out.later hb2); clear hb2; obtain ⟨f0, f1, f2, f3⟩ := I4.out.later HW2.out.below; obtain ⟨⟨z0, z1, z2, z3, z4, z5, z6, z7, z8, z9, z10⟩, zf⟩ := zeroM_at HW2.out.z1; obtain ⟨⟨v0, v1, v2, v3, v4, v5, v6, v7, v8, v9, v10⟩, vf⟩ := zeroM_at HW2.out.z2))
      rw [HF.out]
      exact HW2.out.bad rfl rfl rfl
    · skip
      cases t2
      · have HF := Lib.hid (HBAD.out (.inr rfl))
        go_enter Tryd.func38, Tryd.ntmps38
        go_upto_region 2 with (fail)
        rw [← HW0.out]
        obtain ⟨a0, a1, a2, a3⟩ := HIC.out.later HW.out.below
        obtain ⟨b0, b1, b2, b3⟩ := item_at HW.out.xb
        go_wp2_with (first
          | (clear tok1; go_at_call 55; refine (H55.out _).mono ?_; rintro e w1 ⟨rfl, hb1⟩; have HW1 := Lib.hid (HW.out.later hb1); clear hb1; obtain ⟨a01, a11, a21, a31⟩ := HIC.out.later HW1.out.below; obtain ⟨b01, b11, b21, b31⟩ := item_at HW1.out.xb)
          | (go_at_call 56; refine (H56.out _ _ HW1.out.below).mono ?_; rintro e w2 ⟨rfl, hb2⟩; have HW2 := Lib.hid (HW1.out.later hb2); clear hb2; obtain ⟨f0, f1, f2, f3⟩ := I4.out.later HW2.out.below)
          | (go_at_call 57; refine (H57.out _ HW2.out.below).mono ?_; rintro e w3 ⟨rfl, hb3⟩; have HW3 := Lib.hid (HW2.out.later hb3); clear hb3; obtain ⟨⟨z0, z1, z2, z3, z4, z5, z6, z7, z8, z9, z10⟩, zf⟩ := zeroM_at HW3.out.z1; obtain ⟨⟨v0, v1, v2, v3, v4, v5, v6, v7, v8, v9, v10⟩, vf⟩ := zeroM_at HW3.out.z2))
        rw [HF.out]
        exact HW3.out.bad rfl rfl rfl
      · skip
        obtain ⟨hg, ⟨m1, m2, m3⟩, hall⟩ := HGOOD.out rfl rfl
        have w51 : IntKind.i64.wrap (n1 : Int) = (n1 : Int) := by rw [IntKind.wrap_i64]; omega
        have w52 : IntKind.i64.wrap (n2 : Int) = (n2 : Int) := by rw [IntKind.wrap_i64]; omega
        have w53 : IntKind.i64.wrap (n3 : Int) = (n3 : Int) := by rw [IntKind.wrap_i64]; omega
        have HG := Lib.hid hg
        have HALL := Lib.hid hall
        clear hg hall HBAD HGOOD
        go_enter Tryd.func38, Tryd.ntmps38
        go_upto_region 2 with (fail)
        rw [← HW0.out]
        obtain ⟨a0, a1, a2, a3⟩ := HIC.out.later HW.out.below
        obtain ⟨b0, b1, b2, b3⟩ := item_at HW.out.xb
        go_upto_region 16 with (first
          | (clear tok1; go_at_call 55; refine (H55.out _).mono ?_; rintro e w1 ⟨rfl, hb1⟩; have HW1 := Lib.hid (HW.out.later hb1); clear hb1; obtain ⟨a01, a11, a21, a31⟩ := HIC.out.later HW1.out.below; obtain ⟨b01, b11, b21, b31⟩ := item_at HW1.out.xb)
          | (go_at_call 56; refine (H56.out _ _ HW1.out.below).mono ?_; rintro e w2 ⟨rfl, hb2⟩; have HW2 := Lib.hid (HW1.out.later hb2); clear hb2; obtain ⟨f0, f1, f2, f3⟩ := I4.out.later HW2.out.below)
          | (go_at_call 57; refine (H57.out _ HW2.out.below).mono ?_; rintro e w3 ⟨rfl, hb3⟩; have HW3 := Lib.hid (HW2.out.later hb3); clear hb3))
        have HSS : Hid (∀ w' : World, w'.heap[g]? = w.heap[g]? → w'.heap[w.heap.size]? = some (.cells #[.int .i64 3, .int .u64 n, .string s, .slice (some ⟨g, o, none⟩) m c] 57 (0, 0)) → w'.cell? ⟨w.heap.size, 3, none⟩ = some (.slice (some ⟨g, o, none⟩) m c) ∧ w'.cell? ⟨g, o + 4 + 1, none⟩ = some (.int .u64 (n1 : Int)) ∧ w'.cell? ⟨g, o + 8 + 1, none⟩ = some (.int .u64 (n2 : Int)) ∧ w'.cell? ⟨g, o + 12 + 1, none⟩ = some (.int .u64 (n3 : Int)) ∧ w'.cell? ⟨g, o + 16, none⟩ = some (.int .i64 k4) ∧ w'.cell? ⟨g, o + 16 + 1, none⟩ = some (.int .u64 (n4 : Int)) ∧ w'.cell? ⟨g, o + 16 + 2, none⟩ = some (.string s4) ∧ w'.cell? ⟨g, o + 16 + 3, none⟩ = some (.slice A4 l4.length c4)) := fun w' hb hy => by
          have hcc : ∀ j, w'.cell? ⟨g, j, none⟩ = w.cell? ⟨g, j, none⟩ := fun j => World.cell?_of_block hb
          exact ⟨(item_at hy).2.2.2, (hcc _).trans I1.out.c1, (hcc _).trans I2.out.c1, (hcc _).trans I3.out.c1, (hcc _).trans I4.out.c0, (hcc _).trans I4.out.c1, (hcc _).trans I4.out.c2, (hcc _).trans I4.out.c3⟩
        have hbl := HW3.out.below
        have hsl := hbl.size
        have hS0 := HSS.out w3.drew (hbl.block g hgw) HW3.out.xb
        have HCG : Hid (Calls Tryd.prog 60 #[.agg #[.int .i64 k4, .int .u64 n4, .string s4, .slice A4 l4.length c4]] w3.drew fun e w' => Below w3.heap.size w3 w' ∧ ∃ v, e = .returned v ∧ w'.ownsRow w3.heap.size 51 1 v (toI (l4.map It.n)).length ((toI (l4.map It.n)).map (Value.int .u64))) := by
          refine (HGET.out w3.drew ⟨hbl.os, hbl.tape, hbl.output, hbl.size, hbl.block⟩).mono ?_
          rintro e w' ⟨hb, v, he, hr⟩
          exact ⟨⟨hb.os, hb.tape, hb.output, hb.size, hb.block⟩, v, he, hr⟩
        have hgN : g ≠ w.heap.size + 1 := by omega
        have HBL := Lib.hid hbl
        clear hbl a0 a1 a2 a3 b0 b1 b2 b3
        go_region_held3 (fun w' => w'.cell? ⟨w.heap.size, 3, none⟩ = some (.slice (some ⟨g, o, none⟩) m c) ∧ w'.cell? ⟨g, o + 4 + 1, none⟩ = some (.int .u64 (n1 : Int)) ∧ w'.cell? ⟨g, o + 8 + 1, none⟩ = some (.int .u64 (n2 : Int)) ∧ w'.cell? ⟨g, o + 12 + 1, none⟩ = some (.int .u64 (n3 : Int)) ∧ w'.cell? ⟨g, o + 16, none⟩ = some (.int .i64 k4) ∧ w'.cell? ⟨g, o + 16 + 1, none⟩ = some (.int .u64 (n4 : Int)) ∧ w'.cell? ⟨g, o + 16 + 2, none⟩ = some (.string s4) ∧ w'.cell? ⟨g, o + 16 + 3, none⟩ = some (.slice A4 l4.length c4)) (first | (with_reducible exact hS0) | (with_reducible exact hS3) | exact HSS.out _ (((put11_offs _ _ _ _ _ _ _ _ _ _ _ _ _).block g hgN (by have h8 := hs9; omega)).trans hg9) (((put11_offs _ _ _ _ _ _ _ _ _ _ _ _ _).block w.heap.size (by omega) (by have h8 := lt_of_block HW9.out.xb; omega)).trans HW9.out.xb)) (first
          | (refine step_call rfl 60 call60 #[.tmp 120] #[57] rfl #[.agg #[.int .i64 k4, .int .u64 n4, .string s4, .slice A4 l4.length c4]] (by simp [Act.eval, Act.put]) ?_; refine HCG.out.mono ?_; rintro e w9 ⟨hb9, D, rfl, hD⟩; obtain ⟨DA, DL, DC, rfl⟩ : ∃ DA DL DC, D = .slice DA DL DC := (by rcases hD.2 with ⟨rfl, _⟩ | ⟨g', cap', cur, rfl, _⟩ <;> exact ⟨_, _, _, rfl⟩); have HD := Lib.hid hD; have hg9 := (hb9.block g (by omega)).trans (HBL.out.block g hgw); have hs9 : w.heap.size ≤ w9.heap.size := (Nat.le_trans hsl hb9.size); have HW9 := Lib.hid (HW3.out.later hb9); have hS3 := HSS.out w9 hg9 HW9.out.xb; have HB9 := Lib.hid hb9; clear hb9 hD; obtain ⟨⟨z0, z1, z2, z3, z4, z5, z6, z7, z8, z9, z10⟩, zf⟩ := zeroM_at HW9.out.z1; refine ⟨_, rfl, ?_⟩))
        all_goals
          go_wp2_with fail
          rw [HG.out]
          exact HW9.out.good (base := w.heap.size + 2) ⟨World.ownsRow_nil _ _ _ _, ⟨[], MRow.nil _ _⟩, ownsRow_mono HD.out (by have h1 := HW3.out.z2; have h2 := lt_of_block h1; omega)⟩ (by omega) rfl rfl rfl
  · rw [if_neg hlen] at hR
    have hne : (((m : Nat) : Int) != 5) = true := by simp; omega
    have HF := Lib.hid hR
    have tok1 : True := trivial
    clear hx hcp hlook hR hm hlen hmr
    go_enter Tryd.func38, Tryd.ntmps38
    go_upto_region 2 with (fail)
    rw [← HW0.out]
    obtain ⟨a0, a1, a2, a3⟩ := HIC.out.later HW.out.below
    obtain ⟨b0, b1, b2, b3⟩ := item_at HW.out.xb
    go_wp2_with (first
      | (clear tok1; go_at_call 55; refine (H55.out _).mono ?_; rintro e w1 ⟨rfl, hb1⟩; have HW1 := Lib.hid (HW.out.later hb1); clear hb1; obtain ⟨a01, a11, a21, a31⟩ := HIC.out.later HW1.out.below; obtain ⟨b01, b11, b21, b31⟩ := item_at HW1.out.xb; obtain ⟨⟨z0, z1, z2, z3, z4, z5, z6, z7, z8, z9, z10⟩, zf⟩ := zeroM_at HW1.out.z1; obtain ⟨⟨v0, v1, v2, v3, v4, v5, v6, v7, v8, v9, v10⟩, vf⟩ := zeroM_at HW1.out.z2))
    rw [HF.out]
    exact HW1.out.bad rfl rfl rfl

set_option maxRecDepth 100000 in
set_option maxHeartbeats 6400000 in
theorem msg38_k3 (w : World) (n m c g o : Nat) (s : ByteArray) (hk : Int) (hn : Nat) (ht : ByteArray) (hl r : List It) (R : Option Msg) {S : Nat → Prop} (hS : ∀ z, S z → z < w.heap.size) (hm : m = (It.mk hk hn ht hl :: r).length)
    (hx : Holds w (.int .i64 3) (.int .u64 n) (.string s) (.slice (some ⟨g, o, none⟩) m c) (.mk 3 n s (.mk hk hn ht hl :: r))) (hcp : CapsP S w 3 (.slice (some ⟨g, o, none⟩) m c) (.mk 3 n s (.mk hk hn ht hl :: r))) (hlook : ∀ y ∈ r, look 7 y = 0) (hok : numOk 4 (.mk hk hn ht hl) = true) (hkn : hn = 3)
    (hR : R = if r.length = 6 then readAll (zeroMsg 3) (flds 3) r else none) : Calls Tryd.prog 38 #[.agg #[.int .i64 3, .int .u64 n, .string s, .slice (some ⟨g, o, none⟩) m c]] w (Msg38 w R) := by
  have hmr : m = r.length + 1 := by rw [hm]; simp
  have hm0 : ¬ ((m : Nat) : Int) < 1 := by omega
  have hmp : (0 : Int) < ((m : Nat) : Int) := by omega
  obtain ⟨hA, hc, hnn, hic⟩ : ∃ hA hc, hn < 18446744073709551616 ∧ ICells w g o hk hn ht hA hl.length hc := by
    obtain ⟨g', o', e, hA, hc, h1, h2⟩ := hx.head
    obtain ⟨rfl, rfl⟩ : g = g' ∧ o = o' := by simpa using e
    exact ⟨hA, hc, h1, h2⟩
  have hgw : g < w.heap.size := lt_cell hic.c0
  have HIC := Lib.hid hic
  have HW := Lib.hid (W38.first w 3 n s (some ⟨g, o, none⟩) m c)
  obtain ⟨W0, hW0⟩ : ∃ W0, W0 = w38 w 3 n s (some ⟨g, o, none⟩) m c := ⟨_, rfl⟩
  rw [← hW0] at HW
  unfold w38 zeroM at hW0
  have HW0 := Lib.hid hW0
  have H55 : Hid (∀ W : World, Calls Tryd.prog 55 #[.agg #[.int .i64 hk, .int .u64 hn, .string ht, .slice hA hl.length hc], .int .u64 (4 : Nat)] W fun e w' => e = .returned (.bool true) ∧ Below W.heap.size W w') := fun W => by
    have := isnum55_any hk hn ht hA hl.length hc hl 4 W
    rwa [hok] at this
  have hwn : IntKind.i64.wrap (hn : Int) = (hn : Int) := by rw [IntKind.wrap_i64]; omega
  have q1 : ((hn : Int) == 1) = false := by rw [hkn]; rfl
  have q2 : ((hn : Int) == 2) = false := by rw [hkn]; rfl
  have q3 : ((hn : Int) == 3) = true := by rw [hkn]; rfl
  have hmc : m ≤ c := by
    have h1 := hcp.cap
    have h2 : (It.mk hk hn ht hl :: r).length ≤ c := h1
    omega
  clear hic hW0 hok hkn
  by_cases hlen : r.length = 6
  · rw [if_pos hlen] at hR
    have hml : m = 7 := by omega
    have hne : (((m : Nat) : Int) != 7) = false := by rw [hml]; rfl
    have hcf : ¬ ((c : Nat) : Int) < 5 := by omega
    have hmi1 : ¬ ((m : Nat) : Int) ≤ 1 := by omega
    have hmi2 : ¬ ((m : Nat) : Int) ≤ 2 := by omega
    have hmi3 : ¬ ((m : Nat) : Int) ≤ 3 := by omega
    have hmi4 : ¬ ((m : Nat) : Int) ≤ 4 := by omega
    have hmi5 : ¬ ((m : Nat) : Int) ≤ 5 := by omega
    have hmi6 : ¬ ((m : Nat) : Int) ≤ 6 := by omega
    obtain ⟨x1, x2, x3, x4, x5, x6, rfl⟩ : ∃ x1 x2 x3 x4 x5 x6, r = [x1, x2, x3, x4, x5, x6] := by
      match r, hlen with
      | [x1, x2, x3, x4, x5, x6], _ => exact ⟨x1, x2, x3, x4, x5, x6, rfl⟩
    have HIT := Lib.hid hx.members
    obtain ⟨k1, n1, s1, A1, c1, l1, e1, hn1, ic1, hh1⟩ := hx.at 1 (by simp)
    have e1 : x1 = .mk k1 n1 s1 l1 := e1
    subst e1
    have I1 : Hid (ICells w g (o + 4) k1 n1 s1 A1 l1.length c1) := by
      show ICells w g (o + 4) k1 n1 s1 A1 l1.length c1
      have h := ic1
      simpa using h
    obtain ⟨k2, n2, s2, A2, c2, l2, e2, hn2, ic2, hh2⟩ := hx.at 2 (by simp)
    have e2 : x2 = .mk k2 n2 s2 l2 := e2
    subst e2
    have I2 : Hid (ICells w g (o + 8) k2 n2 s2 A2 l2.length c2) := by
      show ICells w g (o + 8) k2 n2 s2 A2 l2.length c2
      have h := ic2
      simpa using h
    obtain ⟨k3, n3, s3, A3, c3, l3, e3, hn3, ic3, hh3⟩ := hx.at 3 (by simp)
    have e3 : x3 = .mk k3 n3 s3 l3 := e3
    subst e3
    have I3 : Hid (ICells w g (o + 12) k3 n3 s3 A3 l3.length c3) := by
      show ICells w g (o + 12) k3 n3 s3 A3 l3.length c3
      have h := ic3
      simpa using h
    obtain ⟨k4, n4, s4, A4, c4, l4, e4, hn4, ic4, hh4⟩ := hx.at 4 (by simp)
    have e4 : x4 = .mk k4 n4 s4 l4 := e4
    subst e4
    have I4 : Hid (ICells w g (o + 16) k4 n4 s4 A4 l4.length c4) := by
      show ICells w g (o + 16) k4 n4 s4 A4 l4.length c4
      have h := ic4
      simpa using h
    obtain ⟨k5, n5, s5, A5, c5, l5, e5, hn5, ic5, hh5⟩ := hx.at 5 (by simp)
    have e5 : x5 = .mk k5 n5 s5 l5 := e5
    subst e5
    have I5 : Hid (ICells w g (o + 20) k5 n5 s5 A5 l5.length c5) := by
      show ICells w g (o + 20) k5 n5 s5 A5 l5.length c5
      have h := ic5
      simpa using h
    obtain ⟨k6, n6, s6, A6, c6, l6, e6, hn6, ic6, hh6⟩ := hx.at 6 (by simp)
    have e6 : x6 = .mk k6 n6 s6 l6 := e6
    subst e6
    have I6 : Hid (ICells w g (o + 24) k6 n6 s6 A6 l6.length c6) := by
      show ICells w g (o + 24) k6 n6 s6 A6 l6.length c6
      have h := ic6
      simpa using h
    have HL6 : Hid (l6.length ≤ 16384) := (look_part (f := 6) (x := .mk k6 n6 s6 l6) (hlook _ (by simp))).1
    have HM6 : Hid (Items w A6 l6) := hh6.members
    have HI3 : Hid (Items w (some ⟨g, o + 4, none⟩) [It.mk k1 n1 s1 l1, It.mk k2 n2 s2 l2, It.mk k3 n3 s3 l3, It.mk k4 n4 s4 l4]) := HIT.out.sub 1 4 (by simp)
    have H56 : Hid (∀ (W : World) (c' : Nat), Below w.heap.size w W → Calls Tryd.prog 56 #[.slice (some ⟨g, o + 4, none⟩) 4 c'] W fun e w' => e = .returned (.bool ([It.mk k1 n1 s1 l1, It.mk k2 n2 s2 l2, It.mk k3 n3 s3 l3, It.mk k4 n4 s4 l4].all (numOk 1073741824))) ∧ Below W.heap.size W w') := fun W c' hb => fits56_any _ 4 c' _ W rfl (by decide) (HI3.out.later hb)
    have H57 : Hid (∀ (W : World), Below w.heap.size w W → Calls Tryd.prog 57 #[.agg #[.int .i64 k6, .int .u64 n6, .string s6, .slice A6 l6.length c6], .int .u64 (4294967295 : Nat)] W fun e w' => e = .returned (.bool (decide (k6 = 3 ∧ l6.all (numOk 4294967295) = true))) ∧ Below W.heap.size W w') := fun W hb => nums57_any k6 n6 s6 A6 l6.length c6 l6 4294967295 W rfl HL6.out (HM6.out.later hb)
    have H55b : Hid (∀ (W : World), Calls Tryd.prog 55 #[.agg #[.int .i64 k5, .int .u64 n5, .string s5, .slice A5 l5.length c5], .int .u64 (1 : Nat)] W fun e w' => e = .returned (.bool (numOk 1 (.mk k5 n5 s5 l5))) ∧ Below W.heap.size W w') := fun W => isnum55_any k5 n5 s5 A5 l5.length c5 l5 1 W
    have HGET : Hid (l6.all (numOk 4294967295) = true → ∀ (W : World), Below w.heap.size w W → Calls Tryd.prog 59 #[.agg #[.int .i64 k6, .int .u64 n6, .string s6, .slice A6 l6.length c6]] W fun e w' => Below W.heap.size W w' ∧ ∃ v, e = .returned v ∧ w'.ownsRow W.heap.size 24 1 v (toI (l6.map It.n)).length ((toI (l6.map It.n)).map (Value.int .u32))) := fun ha W hb => weights59_any k6 n6 s6 A6 l6.length c6 l6 W rfl HL6.out (HM6.out.later hb) (fun y hy => (of_decide_eq_true (List.all_eq_true.1 ha y hy)).2)
    obtain ⟨t1, ht1⟩ : ∃ t1, t1 = [It.mk k1 n1 s1 l1, It.mk k2 n2 s2 l2, It.mk k3 n3 s3 l3, It.mk k4 n4 s4 l4].all (numOk 1073741824) := ⟨_, rfl⟩
    obtain ⟨t2, ht2⟩ : ∃ t2, t2 = decide (k6 = 3 ∧ l6.all (numOk 4294967295) = true) := ⟨_, rfl⟩
    obtain ⟨t3, ht3⟩ : ∃ t3, t3 = numOk 1 (.mk k5 n5 s5 l5) := ⟨_, rfl⟩
    rw [rd3] at hR
    have HBAD : Hid (t1 = false ∨ t3 = false ∨ t2 = false → R = none) := by
      intro hf
      rw [hR]
      rcases hf with hf | hf | hf
      · rw [if_neg]
        intro h
        rw [hf] at ht1
        simp [h] at ht1
      · rw [if_neg]
        intro h
        rw [hf] at ht3
        simp [h] at ht3
      · rw [hf] at ht2
        have hq : numsR 4294967295 (.mk k6 n6 s6 l6) = none := by rw [numsR_of, if_neg (of_decide_eq_false ht2.symm)]
        rw [hq]; split <;> rfl
    have HGOOD : Hid (t1 = true → t3 = true → t2 = true → R = some (⟨3, (n2 : Int), 0, 0, (n1 : Int), (n3 : Int), (n4 : Int), (n5 : Int), l6.map It.n, [], []⟩ : Msg) ∧ (n1 ≤ 1073741824 ∧ n2 ≤ 1073741824 ∧ n3 ≤ 1073741824 ∧ n4 ≤ 1073741824 ∧ n5 ≤ 1) ∧ l6.all (numOk 4294967295) = true) := by
      intro gt1 gt3 gt2
      rw [gt1] at ht1
      rw [gt2] at ht2
      rw [gt3] at ht3
      have h2 := of_decide_eq_true ht2.symm
      have hq : numsR 4294967295 (.mk k6 n6 s6 l6) = some (l6.map It.n) := by rw [numsR_of, if_pos h2]
      have h1 := ht1.symm
      simp only [List.all_cons, List.all_nil, Bool.and_true, Bool.and_eq_true] at h1
      obtain ⟨y1, y2, y3, y4⟩ := h1
      refine ⟨?_, ⟨(of_decide_eq_true y1).2, (of_decide_eq_true y2).2, (of_decide_eq_true y3).2, (of_decide_eq_true y4).2, (of_decide_eq_true ht3.symm).2⟩, h2.2⟩
      rw [hR, if_pos ⟨y1, y2, y3, y4, ht3.symm⟩, hq]
      rfl
    rw [← ht1] at H56
    rw [← ht2] at H57
    rw [← ht3] at H55b
    clear hx hcp hlook hR ht1 ht2 HIT HI3 hm hlen hmr hml ic1 hh1 ic2 hh2 ic3 hh3 ic4 hh4 ic5 hh5 ic6 hh6 ht3
    have tok1 : True := trivial
    cases t1
    · have HF := Lib.hid (HBAD.out (.inl rfl))
      go_enter Tryd.func38, Tryd.ntmps38
      go_upto_region 2 with (fail)
      rw [← HW0.out]
      obtain ⟨a0, a1, a2, a3⟩ := HIC.out.later HW.out.below
      obtain ⟨b0, b1, b2, b3⟩ := item_at HW.out.xb
      go_wp2_with (first
        | (clear tok1; go_at_call 55; refine (H55.out _).mono ?_; rintro e w1 ⟨rfl, hb1⟩; have HW1 := Lib.hid (HW.out.later hb1); clear hb1; obtain ⟨a01, a11, a21, a31⟩ := HIC.out.later HW1.out.below; obtain ⟨b01, b11, b21, b31⟩ := item_at HW1.out.xb)
        | (go_at_call 56; refine (H56.out _ _ HW1.out.below).mono ?_; rintro e w2 ⟨rfl, hb2⟩; have HW2 := Lib.hid (HW1.out.later hb2); clear hb2; obtain ⟨f0, f1, f2, f3⟩ := I5.out.later HW2.out.below; obtain ⟨⟨z0, z1, z2, z3, z4, z5, z6, z7, z8, z9, z10⟩, zf⟩ := zeroM_at HW2.out.z1; obtain ⟨⟨v0, v1, v2, v3, v4, v5, v6, v7, v8, v9, v10⟩, vf⟩ := zeroM_at HW2.out.z2))
      rw [HF.out]
      exact HW2.out.bad rfl rfl rfl
    · skip
      cases t3
      · have HF := Lib.hid (HBAD.out (.inr (.inl rfl)))
        go_enter Tryd.func38, Tryd.ntmps38
        go_upto_region 2 with (fail)
        rw [← HW0.out]
        obtain ⟨a0, a1, a2, a3⟩ := HIC.out.later HW.out.below
        obtain ⟨b0, b1, b2, b3⟩ := item_at HW.out.xb
        go_wp2_with (first
          | (clear tok1; go_at_call 55; refine (H55.out _).mono ?_; rintro e w1 ⟨rfl, hb1⟩; have HW1 := Lib.hid (HW.out.later hb1); clear hb1; obtain ⟨a01, a11, a21, a31⟩ := HIC.out.later HW1.out.below; obtain ⟨b01, b11, b21, b31⟩ := item_at HW1.out.xb)
          | (go_at_call 56; refine (H56.out _ _ HW1.out.below).mono ?_; rintro e w2 ⟨rfl, hb2⟩; have HW2 := Lib.hid (HW1.out.later hb2); clear hb2; obtain ⟨f0, f1, f2, f3⟩ := I5.out.later HW2.out.below)
          | (go_at_call 55; refine (H55b.out _).mono ?_; rintro e w3 ⟨rfl, hb3⟩; have HW3 := Lib.hid (HW2.out.later hb3); clear hb3; obtain ⟨f03, f13, f23, f33⟩ := I6.out.later HW3.out.below; obtain ⟨⟨z0, z1, z2, z3, z4, z5, z6, z7, z8, z9, z10⟩, zf⟩ := zeroM_at HW3.out.z1; obtain ⟨⟨v0, v1, v2, v3, v4, v5, v6, v7, v8, v9, v10⟩, vf⟩ := zeroM_at HW3.out.z2))
        rw [HF.out]
        exact HW3.out.bad rfl rfl rfl
      · skip
        cases t2
        · have HF := Lib.hid (HBAD.out (.inr (.inr rfl)))
          go_enter Tryd.func38, Tryd.ntmps38
          go_upto_region 2 with (fail)
          rw [← HW0.out]
          obtain ⟨a0, a1, a2, a3⟩ := HIC.out.later HW.out.below
          obtain ⟨b0, b1, b2, b3⟩ := item_at HW.out.xb
          go_wp2_with (first
            | (clear tok1; go_at_call 55; refine (H55.out _).mono ?_; rintro e w1 ⟨rfl, hb1⟩; have HW1 := Lib.hid (HW.out.later hb1); clear hb1; obtain ⟨a01, a11, a21, a31⟩ := HIC.out.later HW1.out.below; obtain ⟨b01, b11, b21, b31⟩ := item_at HW1.out.xb)
            | (go_at_call 56; refine (H56.out _ _ HW1.out.below).mono ?_; rintro e w2 ⟨rfl, hb2⟩; have HW2 := Lib.hid (HW1.out.later hb2); clear hb2; obtain ⟨f0, f1, f2, f3⟩ := I5.out.later HW2.out.below)
            | (go_at_call 55; refine (H55b.out _).mono ?_; rintro e w3 ⟨rfl, hb3⟩; have HW3 := Lib.hid (HW2.out.later hb3); clear hb3; obtain ⟨f03, f13, f23, f33⟩ := I6.out.later HW3.out.below)
            | (go_at_call 57; refine (H57.out _ HW3.out.below).mono ?_; rintro e w4 ⟨rfl, hb4⟩; have HW4 := Lib.hid (HW3.out.later hb4); clear hb4; obtain ⟨⟨z0, z1, z2, z3, z4, z5, z6, z7, z8, z9, z10⟩, zf⟩ := zeroM_at HW4.out.z1; obtain ⟨⟨v0, v1, v2, v3, v4, v5, v6, v7, v8, v9, v10⟩, vf⟩ := zeroM_at HW4.out.z2))
          rw [HF.out]
          exact HW4.out.bad rfl rfl rfl
        · skip
          obtain ⟨hg, ⟨m1, m2, m3, m4, m5⟩, hall⟩ := HGOOD.out rfl rfl rfl
          have w51 : IntKind.i64.wrap (n1 : Int) = (n1 : Int) := by rw [IntKind.wrap_i64]; omega
          have w52 : IntKind.i64.wrap (n2 : Int) = (n2 : Int) := by rw [IntKind.wrap_i64]; omega
          have w53 : IntKind.i64.wrap (n3 : Int) = (n3 : Int) := by rw [IntKind.wrap_i64]; omega
          have w54 : IntKind.i64.wrap (n4 : Int) = (n4 : Int) := by rw [IntKind.wrap_i64]; omega
          have w55 : IntKind.i64.wrap (n5 : Int) = (n5 : Int) := by rw [IntKind.wrap_i64]; omega
          have HG := Lib.hid hg
          have HALL := Lib.hid hall
          clear hg hall HBAD HGOOD
          go_enter Tryd.func38, Tryd.ntmps38
          go_upto_region 2 with (fail)
          rw [← HW0.out]
          obtain ⟨a0, a1, a2, a3⟩ := HIC.out.later HW.out.below
          obtain ⟨b0, b1, b2, b3⟩ := item_at HW.out.xb
          go_upto_region 20 with (first
            | (clear tok1; go_at_call 55; refine (H55.out _).mono ?_; rintro e w1 ⟨rfl, hb1⟩; have HW1 := Lib.hid (HW.out.later hb1); clear hb1; obtain ⟨a01, a11, a21, a31⟩ := HIC.out.later HW1.out.below; obtain ⟨b01, b11, b21, b31⟩ := item_at HW1.out.xb)
            | (go_at_call 56; refine (H56.out _ _ HW1.out.below).mono ?_; rintro e w2 ⟨rfl, hb2⟩; have HW2 := Lib.hid (HW1.out.later hb2); clear hb2; obtain ⟨f0, f1, f2, f3⟩ := I5.out.later HW2.out.below)
            | (go_at_call 55; refine (H55b.out _).mono ?_; rintro e w3 ⟨rfl, hb3⟩; have HW3 := Lib.hid (HW2.out.later hb3); clear hb3; obtain ⟨f03, f13, f23, f33⟩ := I6.out.later HW3.out.below)
            | (go_at_call 57; refine (H57.out _ HW3.out.below).mono ?_; rintro e w4 ⟨rfl, hb4⟩; have HW4 := Lib.hid (HW3.out.later hb4); clear hb4))
          have HSS : Hid (∀ w' : World, w'.heap[g]? = w.heap[g]? → w'.heap[w.heap.size]? = some (.cells #[.int .i64 3, .int .u64 n, .string s, .slice (some ⟨g, o, none⟩) m c] 57 (0, 0)) → w'.cell? ⟨w.heap.size, 3, none⟩ = some (.slice (some ⟨g, o, none⟩) m c) ∧ w'.cell? ⟨g, o + 4 + 1, none⟩ = some (.int .u64 (n1 : Int)) ∧ w'.cell? ⟨g, o + 8 + 1, none⟩ = some (.int .u64 (n2 : Int)) ∧ w'.cell? ⟨g, o + 12 + 1, none⟩ = some (.int .u64 (n3 : Int)) ∧ w'.cell? ⟨g, o + 16 + 1, none⟩ = some (.int .u64 (n4 : Int)) ∧ w'.cell? ⟨g, o + 20 + 1, none⟩ = some (.int .u64 (n5 : Int)) ∧ w'.cell? ⟨g, o + 24, none⟩ = some (.int .i64 k6) ∧ w'.cell? ⟨g, o + 24 + 1, none⟩ = some (.int .u64 (n6 : Int)) ∧ w'.cell? ⟨g, o + 24 + 2, none⟩ = some (.string s6) ∧ w'.cell? ⟨g, o + 24 + 3, none⟩ = some (.slice A6 l6.length c6)) := fun w' hb hy => by
            have hcc : ∀ j, w'.cell? ⟨g, j, none⟩ = w.cell? ⟨g, j, none⟩ := fun j => World.cell?_of_block hb
            exact ⟨(item_at hy).2.2.2, (hcc _).trans I1.out.c1, (hcc _).trans I2.out.c1, (hcc _).trans I3.out.c1, (hcc _).trans I4.out.c1, (hcc _).trans I5.out.c1, (hcc _).trans I6.out.c0, (hcc _).trans I6.out.c1, (hcc _).trans I6.out.c2, (hcc _).trans I6.out.c3⟩
          have hbl := HW4.out.below
          have hsl := hbl.size
          have hS0 := HSS.out w4.drew (hbl.block g hgw) HW4.out.xb
          have HCG : Hid (Calls Tryd.prog 59 #[.agg #[.int .i64 k6, .int .u64 n6, .string s6, .slice A6 l6.length c6]] w4.drew fun e w' => Below w4.heap.size w4 w' ∧ ∃ v, e = .returned v ∧ w'.ownsRow w4.heap.size 24 1 v (toI (l6.map It.n)).length ((toI (l6.map It.n)).map (Value.int .u32))) := by
            refine (HGET.out HALL.out w4.drew ⟨hbl.os, hbl.tape, hbl.output, hbl.size, hbl.block⟩).mono ?_
            rintro e w' ⟨hb, v, he, hr⟩
            exact ⟨⟨hb.os, hb.tape, hb.output, hb.size, hb.block⟩, v, he, hr⟩
          have hgN : g ≠ w.heap.size + 1 := by omega
          have HBL := Lib.hid hbl
          clear hbl a0 a1 a2 a3 b0 b1 b2 b3
          go_region_held3 (fun w' => w'.cell? ⟨w.heap.size, 3, none⟩ = some (.slice (some ⟨g, o, none⟩) m c) ∧ w'.cell? ⟨g, o + 4 + 1, none⟩ = some (.int .u64 (n1 : Int)) ∧ w'.cell? ⟨g, o + 8 + 1, none⟩ = some (.int .u64 (n2 : Int)) ∧ w'.cell? ⟨g, o + 12 + 1, none⟩ = some (.int .u64 (n3 : Int)) ∧ w'.cell? ⟨g, o + 16 + 1, none⟩ = some (.int .u64 (n4 : Int)) ∧ w'.cell? ⟨g, o + 20 + 1, none⟩ = some (.int .u64 (n5 : Int)) ∧ w'.cell? ⟨g, o + 24, none⟩ = some (.int .i64 k6) ∧ w'.cell? ⟨g, o + 24 + 1, none⟩ = some (.int .u64 (n6 : Int)) ∧ w'.cell? ⟨g, o + 24 + 2, none⟩ = some (.string s6) ∧ w'.cell? ⟨g, o + 24 + 3, none⟩ = some (.slice A6 l6.length c6)) (first | (with_reducible exact hS0) | (with_reducible exact hS3) | exact HSS.out _ (((put11_offs _ _ _ _ _ _ _ _ _ _ _ _ _).block g hgN (by have h8 := hs9; omega)).trans hg9) (((put11_offs _ _ _ _ _ _ _ _ _ _ _ _ _).block w.heap.size (by omega) (by have h8 := lt_of_block HW9.out.xb; omega)).trans HW9.out.xb)) (first
            | (refine step_call rfl 59 call59 #[.tmp 176] #[57] rfl #[.agg #[.int .i64 k6, .int .u64 n6, .string s6, .slice A6 l6.length c6]] (by simp [Act.eval, Act.put]) ?_; refine HCG.out.mono ?_; rintro e w9 ⟨hb9, D, rfl, hD⟩; obtain ⟨DA, DL, DC, rfl⟩ : ∃ DA DL DC, D = .slice DA DL DC := (by rcases hD.2 with ⟨rfl, _⟩ | ⟨g', cap', cur, rfl, _⟩ <;> exact ⟨_, _, _, rfl⟩); have HD := Lib.hid hD; have hg9 := (hb9.block g (by omega)).trans (HBL.out.block g hgw); have hs9 : w.heap.size ≤ w9.heap.size := (Nat.le_trans hsl hb9.size); have HW9 := Lib.hid (HW4.out.later hb9); have hS3 := HSS.out w9 hg9 HW9.out.xb; have HB9 := Lib.hid hb9; clear hb9 hD; obtain ⟨⟨z0, z1, z2, z3, z4, z5, z6, z7, z8, z9, z10⟩, zf⟩ := zeroM_at HW9.out.z1; refine ⟨_, rfl, ?_⟩))
          all_goals
            go_wp2_with fail
            rw [HG.out]
            exact HW9.out.good (base := w.heap.size + 2) ⟨ownsRow_mono HD.out (by have h1 := HW4.out.z2; have h2 := lt_of_block h1; omega), ⟨[], MRow.nil _ _⟩, World.ownsRow_nil _ _ _ _⟩ (by omega) rfl rfl rfl
  · rw [if_neg hlen] at hR
    have hne : (((m : Nat) : Int) != 7) = true := by simp; omega
    have HF := Lib.hid hR
    have tok1 : True := trivial
    clear hx hcp hlook hR hm hlen hmr
    go_enter Tryd.func38, Tryd.ntmps38
    go_upto_region 2 with (fail)
    rw [← HW0.out]
    obtain ⟨a0, a1, a2, a3⟩ := HIC.out.later HW.out.below
    obtain ⟨b0, b1, b2, b3⟩ := item_at HW.out.xb
    go_wp2_with (first
      | (clear tok1; go_at_call 55; refine (H55.out _).mono ?_; rintro e w1 ⟨rfl, hb1⟩; have HW1 := Lib.hid (HW.out.later hb1); clear hb1; obtain ⟨a01, a11, a21, a31⟩ := HIC.out.later HW1.out.below; obtain ⟨b01, b11, b21, b31⟩ := item_at HW1.out.xb; obtain ⟨⟨z0, z1, z2, z3, z4, z5, z6, z7, z8, z9, z10⟩, zf⟩ := zeroM_at HW1.out.z1; obtain ⟨⟨v0, v1, v2, v3, v4, v5, v6, v7, v8, v9, v10⟩, vf⟩ := zeroM_at HW1.out.z2))
    rw [HF.out]
    exact HW1.out.bad rfl rfl rfl

set_option maxRecDepth 100000 in
set_option maxHeartbeats 6400000 in
theorem msg38_k4 (w : World) (n m c g o : Nat) (s : ByteArray) (hk : Int) (hn : Nat) (ht : ByteArray) (hl r : List It) (R : Option Msg) {S : Nat → Prop} (hS : ∀ z, S z → z < w.heap.size) (hm : m = (It.mk hk hn ht hl :: r).length)
    (hx : Holds w (.int .i64 3) (.int .u64 n) (.string s) (.slice (some ⟨g, o, none⟩) m c) (.mk 3 n s (.mk hk hn ht hl :: r))) (hcp : CapsP S w 3 (.slice (some ⟨g, o, none⟩) m c) (.mk 3 n s (.mk hk hn ht hl :: r))) (hlook : ∀ y ∈ r, look 7 y = 0) (hok : numOk 4 (.mk hk hn ht hl) = true) (hkn : hn = 4)
    (hR : R = if r.length = 4 then readAll (zeroMsg 4) (flds 4) r else none) : Calls Tryd.prog 38 #[.agg #[.int .i64 3, .int .u64 n, .string s, .slice (some ⟨g, o, none⟩) m c]] w (Msg38 w R) := by
  have hmr : m = r.length + 1 := by rw [hm]; simp
  have hm0 : ¬ ((m : Nat) : Int) < 1 := by omega
  have hmp : (0 : Int) < ((m : Nat) : Int) := by omega
  obtain ⟨hA, hc, hnn, hic⟩ : ∃ hA hc, hn < 18446744073709551616 ∧ ICells w g o hk hn ht hA hl.length hc := by
    obtain ⟨g', o', e, hA, hc, h1, h2⟩ := hx.head
    obtain ⟨rfl, rfl⟩ : g = g' ∧ o = o' := by simpa using e
    exact ⟨hA, hc, h1, h2⟩
  have hgw : g < w.heap.size := lt_cell hic.c0
  have HIC := Lib.hid hic
  have HW := Lib.hid (W38.first w 3 n s (some ⟨g, o, none⟩) m c)
  obtain ⟨W0, hW0⟩ : ∃ W0, W0 = w38 w 3 n s (some ⟨g, o, none⟩) m c := ⟨_, rfl⟩
  rw [← hW0] at HW
  unfold w38 zeroM at hW0
  have HW0 := Lib.hid hW0
  have H55 : Hid (∀ W : World, Calls Tryd.prog 55 #[.agg #[.int .i64 hk, .int .u64 hn, .string ht, .slice hA hl.length hc], .int .u64 (4 : Nat)] W fun e w' => e = .returned (.bool true) ∧ Below W.heap.size W w') := fun W => by
    have := isnum55_any hk hn ht hA hl.length hc hl 4 W
    rwa [hok] at this
  have hwn : IntKind.i64.wrap (hn : Int) = (hn : Int) := by rw [IntKind.wrap_i64]; omega
  have q1 : ((hn : Int) == 1) = false := by rw [hkn]; rfl
  have q2 : ((hn : Int) == 2) = false := by rw [hkn]; rfl
  have q3 : ((hn : Int) == 3) = false := by rw [hkn]; rfl
  have q4 : ((hn : Int) == 4) = true := by rw [hkn]; rfl
  have hmc : m ≤ c := by
    have h1 := hcp.cap
    have h2 : (It.mk hk hn ht hl :: r).length ≤ c := h1
    omega
  clear hic hW0 hok hkn
  by_cases hlen : r.length = 4
  · rw [if_pos hlen] at hR
    have hml : m = 5 := by omega
    have hne : (((m : Nat) : Int) != 5) = false := by rw [hml]; rfl
    have hcf : ¬ ((c : Nat) : Int) < 3 := by omega
    have hmi1 : ¬ ((m : Nat) : Int) ≤ 1 := by omega
    have hmi2 : ¬ ((m : Nat) : Int) ≤ 2 := by omega
    have hmi3 : ¬ ((m : Nat) : Int) ≤ 3 := by omega
    have hmi4 : ¬ ((m : Nat) : Int) ≤ 4 := by omega
    obtain ⟨x1, x2, x3, x4, rfl⟩ : ∃ x1 x2 x3 x4, r = [x1, x2, x3, x4] := by
      match r, hlen with
      | [x1, x2, x3, x4], _ => exact ⟨x1, x2, x3, x4, rfl⟩
    have HIT := Lib.hid hx.members
    obtain ⟨k1, n1, s1, A1, c1, l1, e1, hn1, ic1, hh1⟩ := hx.at 1 (by simp)
    have e1 : x1 = .mk k1 n1 s1 l1 := e1
    subst e1
    have I1 : Hid (ICells w g (o + 4) k1 n1 s1 A1 l1.length c1) := by
      show ICells w g (o + 4) k1 n1 s1 A1 l1.length c1
      have h := ic1
      simpa using h
    obtain ⟨k2, n2, s2, A2, c2, l2, e2, hn2, ic2, hh2⟩ := hx.at 2 (by simp)
    have e2 : x2 = .mk k2 n2 s2 l2 := e2
    subst e2
    have I2 : Hid (ICells w g (o + 8) k2 n2 s2 A2 l2.length c2) := by
      show ICells w g (o + 8) k2 n2 s2 A2 l2.length c2
      have h := ic2
      simpa using h
    obtain ⟨k3, n3, s3, A3, c3, l3, e3, hn3, ic3, hh3⟩ := hx.at 3 (by simp)
    have e3 : x3 = .mk k3 n3 s3 l3 := e3
    subst e3
    have I3 : Hid (ICells w g (o + 12) k3 n3 s3 A3 l3.length c3) := by
      show ICells w g (o + 12) k3 n3 s3 A3 l3.length c3
      have h := ic3
      simpa using h
    obtain ⟨k4, n4, s4, A4, c4, l4, e4, hn4, ic4, hh4⟩ := hx.at 4 (by simp)
    have e4 : x4 = .mk k4 n4 s4 l4 := e4
    subst e4
    have I4 : Hid (ICells w g (o + 16) k4 n4 s4 A4 l4.length c4) := by
      show ICells w g (o + 16) k4 n4 s4 A4 l4.length c4
      have h := ic4
      simpa using h
    have HL4 : Hid (l4.length ≤ 16384) := (look_part (f := 6) (x := .mk k4 n4 s4 l4) (hlook _ (by simp))).1
    have HM4 : Hid (Items w A4 l4) := hh4.members
    have HI3 : Hid (Items w (some ⟨g, o + 4, none⟩) [It.mk k1 n1 s1 l1, It.mk k2 n2 s2 l2]) := HIT.out.sub 1 2 (by simp)
    have H56 : Hid (∀ (W : World) (c' : Nat), Below w.heap.size w W → Calls Tryd.prog 56 #[.slice (some ⟨g, o + 4, none⟩) 2 c'] W fun e w' => e = .returned (.bool ([It.mk k1 n1 s1 l1, It.mk k2 n2 s2 l2].all (numOk 1073741824))) ∧ Below W.heap.size W w') := fun W c' hb => fits56_any _ 2 c' _ W rfl (by decide) (HI3.out.later hb)
    have H57 : Hid (∀ (W : World), Below w.heap.size w W → Calls Tryd.prog 57 #[.agg #[.int .i64 k4, .int .u64 n4, .string s4, .slice A4 l4.length c4], .int .u64 (18446744073709551615 : Nat)] W fun e w' => e = .returned (.bool (decide (k4 = 3 ∧ l4.all (numOk 18446744073709551615) = true))) ∧ Below W.heap.size W w') := fun W hb => nums57_any k4 n4 s4 A4 l4.length c4 l4 18446744073709551615 W rfl HL4.out (HM4.out.later hb)
    have H55b : Hid (∀ (W : World), Calls Tryd.prog 55 #[.agg #[.int .i64 k3, .int .u64 n3, .string s3, .slice A3 l3.length c3], .int .u64 (1 : Nat)] W fun e w' => e = .returned (.bool (numOk 1 (.mk k3 n3 s3 l3))) ∧ Below W.heap.size W w') := fun W => isnum55_any k3 n3 s3 A3 l3.length c3 l3 1 W
    have HGET : Hid (∀ (W : World), Below w.heap.size w W → Calls Tryd.prog 60 #[.agg #[.int .i64 k4, .int .u64 n4, .string s4, .slice A4 l4.length c4]] W fun e w' => Below W.heap.size W w' ∧ ∃ v, e = .returned v ∧ w'.ownsRow W.heap.size 51 1 v (toI (l4.map It.n)).length ((toI (l4.map It.n)).map (Value.int .u64))) := fun W hb => dists60_any k4 n4 s4 A4 l4.length c4 l4 W rfl HL4.out (HM4.out.later hb)
    obtain ⟨t1, ht1⟩ : ∃ t1, t1 = [It.mk k1 n1 s1 l1, It.mk k2 n2 s2 l2].all (numOk 1073741824) := ⟨_, rfl⟩
    obtain ⟨t2, ht2⟩ : ∃ t2, t2 = decide (k4 = 3 ∧ l4.all (numOk 18446744073709551615) = true) := ⟨_, rfl⟩
    obtain ⟨t3, ht3⟩ : ∃ t3, t3 = numOk 1 (.mk k3 n3 s3 l3) := ⟨_, rfl⟩
    rw [rd4] at hR
    have HBAD : Hid (t1 = false ∨ t3 = false ∨ t2 = false → R = none) := by
      intro hf
      rw [hR]
      rcases hf with hf | hf | hf
      · rw [if_neg]
        intro h
        rw [hf] at ht1
        simp [h] at ht1
      · rw [if_neg]
        intro h
        rw [hf] at ht3
        simp [h] at ht3
      · rw [hf] at ht2
        have hq : numsR 18446744073709551615 (.mk k4 n4 s4 l4) = none := by rw [numsR_of, if_neg (of_decide_eq_false ht2.symm)]
        rw [hq]; split <;> rfl
    have HGOOD : Hid (t1 = true → t3 = true → t2 = true → R = some (⟨4, (n2 : Int), 0, 0, (n1 : Int), 0, 0, (n3 : Int), [], [], l4.map It.n⟩ : Msg) ∧ (n1 ≤ 1073741824 ∧ n2 ≤ 1073741824 ∧ n3 ≤ 1) ∧ l4.all (numOk 18446744073709551615) = true) := by
      intro gt1 gt3 gt2
      rw [gt1] at ht1
      rw [gt2] at ht2
      rw [gt3] at ht3
      have h2 := of_decide_eq_true ht2.symm
      have hq : numsR 18446744073709551615 (.mk k4 n4 s4 l4) = some (l4.map It.n) := by rw [numsR_of, if_pos h2]
      have h1 := ht1.symm
      simp only [List.all_cons, List.all_nil, Bool.and_true, Bool.and_eq_true] at h1
      obtain ⟨y1, y2⟩ := h1
      refine ⟨?_, ⟨(of_decide_eq_true y1).2, (of_decide_eq_true y2).2, (of_decide_eq_true ht3.symm).2⟩, h2.2⟩
      rw [hR, if_pos ⟨y1, y2, ht3.symm⟩, hq]
      rfl
    rw [← ht1] at H56
    rw [← ht2] at H57
    rw [← ht3] at H55b
    clear hx hcp hlook hR ht1 ht2 HIT HI3 hm hlen hmr hml ic1 hh1 ic2 hh2 ic3 hh3 ic4 hh4 ht3
    have tok1 : True := trivial
    cases t1
    · have HF := Lib.hid (HBAD.out (.inl rfl))
      go_enter Tryd.func38, Tryd.ntmps38
      go_upto_region 2 with (fail)
      rw [← HW0.out]
      obtain ⟨a0, a1, a2, a3⟩ := HIC.out.later HW.out.below
      obtain ⟨b0, b1, b2, b3⟩ := item_at HW.out.xb
      go_wp2_with (first
        | (clear tok1; go_at_call 55; refine (H55.out _).mono ?_; rintro e w1 ⟨rfl, hb1⟩; have HW1 := Lib.hid (HW.out.later hb1); clear hb1; obtain ⟨a01, a11, a21, a31⟩ := HIC.out.later HW1.out.below; obtain ⟨b01, b11, b21, b31⟩ := item_at HW1.out.xb)
        | (go_at_call 56; refine (H56.out _ _ HW1.out.below).mono ?_; rintro e w2 ⟨rfl, hb2⟩; have HW2 := Lib.hid (HW1.out.later hb2); clear hb2; obtain ⟨f0, f1, f2, f3⟩ := I3.out.later HW2.out.below; obtain ⟨⟨z0, z1, z2, z3, z4, z5, z6, z7, z8, z9, z10⟩, zf⟩ := zeroM_at HW2.out.z1; obtain ⟨⟨v0, v1, v2, v3, v4, v5, v6, v7, v8, v9, v10⟩, vf⟩ := zeroM_at HW2.out.z2))
      rw [HF.out]
      exact HW2.out.bad rfl rfl rfl
    · skip
      cases t3
      · have HF := Lib.hid (HBAD.out (.inr (.inl rfl)))
        go_enter Tryd.func38, Tryd.ntmps38
        go_upto_region 2 with (fail)
        rw [← HW0.out]
        obtain ⟨a0, a1, a2, a3⟩ := HIC.out.later HW.out.below
        obtain ⟨b0, b1, b2, b3⟩ := item_at HW.out.xb
        go_wp2_with (first
          | (clear tok1; go_at_call 55; refine (H55.out _).mono ?_; rintro e w1 ⟨rfl, hb1⟩; have HW1 := Lib.hid (HW.out.later hb1); clear hb1; obtain ⟨a01, a11, a21, a31⟩ := HIC.out.later HW1.out.below; obtain ⟨b01, b11, b21, b31⟩ := item_at HW1.out.xb)
          | (go_at_call 56; refine (H56.out _ _ HW1.out.below).mono ?_; rintro e w2 ⟨rfl, hb2⟩; have HW2 := Lib.hid (HW1.out.later hb2); clear hb2; obtain ⟨f0, f1, f2, f3⟩ := I3.out.later HW2.out.below)
          | (go_at_call 55; refine (H55b.out _).mono ?_; rintro e w3 ⟨rfl, hb3⟩; have HW3 := Lib.hid (HW2.out.later hb3); clear hb3; obtain ⟨f03, f13, f23, f33⟩ := I4.out.later HW3.out.below; obtain ⟨⟨z0, z1, z2, z3, z4, z5, z6, z7, z8, z9, z10⟩, zf⟩ := zeroM_at HW3.out.z1; obtain ⟨⟨v0, v1, v2, v3, v4, v5, v6, v7, v8, v9, v10⟩, vf⟩ := zeroM_at HW3.out.z2))
        rw [HF.out]
        exact HW3.out.bad rfl rfl rfl
      · skip
        cases t2
        · have HF := Lib.hid (HBAD.out (.inr (.inr rfl)))
          go_enter Tryd.func38, Tryd.ntmps38
          go_upto_region 2 with (fail)
          rw [← HW0.out]
          obtain ⟨a0, a1, a2, a3⟩ := HIC.out.later HW.out.below
          obtain ⟨b0, b1, b2, b3⟩ := item_at HW.out.xb
          go_wp2_with (first
            | (clear tok1; go_at_call 55; refine (H55.out _).mono ?_; rintro e w1 ⟨rfl, hb1⟩; have HW1 := Lib.hid (HW.out.later hb1); clear hb1; obtain ⟨a01, a11, a21, a31⟩ := HIC.out.later HW1.out.below; obtain ⟨b01, b11, b21, b31⟩ := item_at HW1.out.xb)
            | (go_at_call 56; refine (H56.out _ _ HW1.out.below).mono ?_; rintro e w2 ⟨rfl, hb2⟩; have HW2 := Lib.hid (HW1.out.later hb2); clear hb2; obtain ⟨f0, f1, f2, f3⟩ := I3.out.later HW2.out.below)
            | (go_at_call 55; refine (H55b.out _).mono ?_; rintro e w3 ⟨rfl, hb3⟩; have HW3 := Lib.hid (HW2.out.later hb3); clear hb3; obtain ⟨f03, f13, f23, f33⟩ := I4.out.later HW3.out.below)
            | (go_at_call 57; refine (H57.out _ HW3.out.below).mono ?_; rintro e w4 ⟨rfl, hb4⟩; have HW4 := Lib.hid (HW3.out.later hb4); clear hb4; obtain ⟨⟨z0, z1, z2, z3, z4, z5, z6, z7, z8, z9, z10⟩, zf⟩ := zeroM_at HW4.out.z1; obtain ⟨⟨v0, v1, v2, v3, v4, v5, v6, v7, v8, v9, v10⟩, vf⟩ := zeroM_at HW4.out.z2))
          rw [HF.out]
          exact HW4.out.bad rfl rfl rfl
        · skip
          obtain ⟨hg, ⟨m1, m2, m3⟩, hall⟩ := HGOOD.out rfl rfl rfl
          have w51 : IntKind.i64.wrap (n1 : Int) = (n1 : Int) := by rw [IntKind.wrap_i64]; omega
          have w52 : IntKind.i64.wrap (n2 : Int) = (n2 : Int) := by rw [IntKind.wrap_i64]; omega
          have w53 : IntKind.i64.wrap (n3 : Int) = (n3 : Int) := by rw [IntKind.wrap_i64]; omega
          have HG := Lib.hid hg
          have HALL := Lib.hid hall
          clear hg hall HBAD HGOOD
          go_enter Tryd.func38, Tryd.ntmps38
          go_upto_region 2 with (fail)
          rw [← HW0.out]
          obtain ⟨a0, a1, a2, a3⟩ := HIC.out.later HW.out.below
          obtain ⟨b0, b1, b2, b3⟩ := item_at HW.out.xb
          go_upto_region 24 with (first
            | (clear tok1; go_at_call 55; refine (H55.out _).mono ?_; rintro e w1 ⟨rfl, hb1⟩; have HW1 := Lib.hid (HW.out.later hb1); clear hb1; obtain ⟨a01, a11, a21, a31⟩ := HIC.out.later HW1.out.below; obtain ⟨b01, b11, b21, b31⟩ := item_at HW1.out.xb)
            | (go_at_call 56; refine (H56.out _ _ HW1.out.below).mono ?_; rintro e w2 ⟨rfl, hb2⟩; have HW2 := Lib.hid (HW1.out.later hb2); clear hb2; obtain ⟨f0, f1, f2, f3⟩ := I3.out.later HW2.out.below)
            | (go_at_call 55; refine (H55b.out _).mono ?_; rintro e w3 ⟨rfl, hb3⟩; have HW3 := Lib.hid (HW2.out.later hb3); clear hb3; obtain ⟨f03, f13, f23, f33⟩ := I4.out.later HW3.out.below)
            | (go_at_call 57; refine (H57.out _ HW3.out.below).mono ?_; rintro e w4 ⟨rfl, hb4⟩; have HW4 := Lib.hid (HW3.out.later hb4); clear hb4))
          have HSS : Hid (∀ w' : World, w'.heap[g]? = w.heap[g]? → w'.heap[w.heap.size]? = some (.cells #[.int .i64 3, .int .u64 n, .string s, .slice (some ⟨g, o, none⟩) m c] 57 (0, 0)) → w'.cell? ⟨w.heap.size, 3, none⟩ = some (.slice (some ⟨g, o, none⟩) m c) ∧ w'.cell? ⟨g, o + 4 + 1, none⟩ = some (.int .u64 (n1 : Int)) ∧ w'.cell? ⟨g, o + 8 + 1, none⟩ = some (.int .u64 (n2 : Int)) ∧ w'.cell? ⟨g, o + 12 + 1, none⟩ = some (.int .u64 (n3 : Int)) ∧ w'.cell? ⟨g, o + 16, none⟩ = some (.int .i64 k4) ∧ w'.cell? ⟨g, o + 16 + 1, none⟩ = some (.int .u64 (n4 : Int)) ∧ w'.cell? ⟨g, o + 16 + 2, none⟩ = some (.string s4) ∧ w'.cell? ⟨g, o + 16 + 3, none⟩ = some (.slice A4 l4.length c4)) := fun w' hb hy => by
            have hcc : ∀ j, w'.cell? ⟨g, j, none⟩ = w.cell? ⟨g, j, none⟩ := fun j => World.cell?_of_block hb
            exact ⟨(item_at hy).2.2.2, (hcc _).trans I1.out.c1, (hcc _).trans I2.out.c1, (hcc _).trans I3.out.c1, (hcc _).trans I4.out.c0, (hcc _).trans I4.out.c1, (hcc _).trans I4.out.c2, (hcc _).trans I4.out.c3⟩
          have hbl := HW4.out.below
          have hsl := hbl.size
          have hS0 := HSS.out w4.drew (hbl.block g hgw) HW4.out.xb
          have HCG : Hid (Calls Tryd.prog 60 #[.agg #[.int .i64 k4, .int .u64 n4, .string s4, .slice A4 l4.length c4]] w4.drew fun e w' => Below w4.heap.size w4 w' ∧ ∃ v, e = .returned v ∧ w'.ownsRow w4.heap.size 51 1 v (toI (l4.map It.n)).length ((toI (l4.map It.n)).map (Value.int .u64))) := by
            refine (HGET.out w4.drew ⟨hbl.os, hbl.tape, hbl.output, hbl.size, hbl.block⟩).mono ?_
            rintro e w' ⟨hb, v, he, hr⟩
            exact ⟨⟨hb.os, hb.tape, hb.output, hb.size, hb.block⟩, v, he, hr⟩
          have hgN : g ≠ w.heap.size + 1 := by omega
          have HBL := Lib.hid hbl
          clear hbl a0 a1 a2 a3 b0 b1 b2 b3
          go_region_held3 (fun w' => w'.cell? ⟨w.heap.size, 3, none⟩ = some (.slice (some ⟨g, o, none⟩) m c) ∧ w'.cell? ⟨g, o + 4 + 1, none⟩ = some (.int .u64 (n1 : Int)) ∧ w'.cell? ⟨g, o + 8 + 1, none⟩ = some (.int .u64 (n2 : Int)) ∧ w'.cell? ⟨g, o + 12 + 1, none⟩ = some (.int .u64 (n3 : Int)) ∧ w'.cell? ⟨g, o + 16, none⟩ = some (.int .i64 k4) ∧ w'.cell? ⟨g, o + 16 + 1, none⟩ = some (.int .u64 (n4 : Int)) ∧ w'.cell? ⟨g, o + 16 + 2, none⟩ = some (.string s4) ∧ w'.cell? ⟨g, o + 16 + 3, none⟩ = some (.slice A4 l4.length c4)) (first | (with_reducible exact hS0) | (with_reducible exact hS3) | exact HSS.out _ (((put11_offs _ _ _ _ _ _ _ _ _ _ _ _ _).block g hgN (by have h8 := hs9; omega)).trans hg9) (((put11_offs _ _ _ _ _ _ _ _ _ _ _ _ _).block w.heap.size (by omega) (by have h8 := lt_of_block HW9.out.xb; omega)).trans HW9.out.xb)) (first
            | (refine step_call rfl 60 call60 #[.tmp 222] #[57] rfl #[.agg #[.int .i64 k4, .int .u64 n4, .string s4, .slice A4 l4.length c4]] (by simp [Act.eval, Act.put]) ?_; refine HCG.out.mono ?_; rintro e w9 ⟨hb9, D, rfl, hD⟩; obtain ⟨DA, DL, DC, rfl⟩ : ∃ DA DL DC, D = .slice DA DL DC := (by rcases hD.2 with ⟨rfl, _⟩ | ⟨g', cap', cur, rfl, _⟩ <;> exact ⟨_, _, _, rfl⟩); have HD := Lib.hid hD; have hg9 := (hb9.block g (by omega)).trans (HBL.out.block g hgw); have hs9 : w.heap.size ≤ w9.heap.size := (Nat.le_trans hsl hb9.size); have HW9 := Lib.hid (HW4.out.later hb9); have hS3 := HSS.out w9 hg9 HW9.out.xb; have HB9 := Lib.hid hb9; clear hb9 hD; obtain ⟨⟨z0, z1, z2, z3, z4, z5, z6, z7, z8, z9, z10⟩, zf⟩ := zeroM_at HW9.out.z1; refine ⟨_, rfl, ?_⟩))
          all_goals
            go_wp2_with fail
            rw [HG.out]
            exact HW9.out.good (base := w.heap.size + 2) ⟨World.ownsRow_nil _ _ _ _, ⟨[], MRow.nil _ _⟩, ownsRow_mono HD.out (by have h1 := HW4.out.z2; have h2 := lt_of_block h1; omega)⟩ (by omega) rfl rfl rfl
  · rw [if_neg hlen] at hR
    have hne : (((m : Nat) : Int) != 5) = true := by simp; omega
    have HF := Lib.hid hR
    have tok1 : True := trivial
    clear hx hcp hlook hR hm hlen hmr
    go_enter Tryd.func38, Tryd.ntmps38
    go_upto_region 2 with (fail)
    rw [← HW0.out]
    obtain ⟨a0, a1, a2, a3⟩ := HIC.out.later HW.out.below
    obtain ⟨b0, b1, b2, b3⟩ := item_at HW.out.xb
    go_wp2_with (first
      | (clear tok1; go_at_call 55; refine (H55.out _).mono ?_; rintro e w1 ⟨rfl, hb1⟩; have HW1 := Lib.hid (HW.out.later hb1); clear hb1; obtain ⟨a01, a11, a21, a31⟩ := HIC.out.later HW1.out.below; obtain ⟨b01, b11, b21, b31⟩ := item_at HW1.out.xb; obtain ⟨⟨z0, z1, z2, z3, z4, z5, z6, z7, z8, z9, z10⟩, zf⟩ := zeroM_at HW1.out.z1; obtain ⟨⟨v0, v1, v2, v3, v4, v5, v6, v7, v8, v9, v10⟩, vf⟩ := zeroM_at HW1.out.z2))
    rw [HF.out]
    exact HW1.out.bad rfl rfl rfl

end Go.Proofs.YtakdfjkkeilffaaDoor

