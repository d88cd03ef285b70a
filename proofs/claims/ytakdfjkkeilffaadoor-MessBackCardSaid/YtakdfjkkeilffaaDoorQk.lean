/- Unlike messages: the walk. -/
import Derived.Test.YtakdfjkkeilffaaDoorQj
set_option linter.unusedVariables false
set_option linter.unusedSimpArgs false
namespace Go.Proofs.YtakdfjkkeilffaaDoor
open Go.RowKit

theorem MsgIn.fits {w : World} {a b c : Value} {m : Msg} (h : MsgIn w a b c m) : Fits m := ⟨h.wl, h.dl, fun y hy => (h.ms.2.1 y hy).2⟩
theorem MsgIn.forms {w : World} {a b c : Value} {m : Msg} (h : MsgIn w a b c m) : ∃ A1 L1 C1 A2 L2 C2 A3 L3 C3, a = .slice A1 L1 C1 ∧ b = .slice A2 L2 C2 ∧ c = .slice A3 L3 C3 := by
  obtain ⟨A1, C1, rfl⟩ := h.ws.form
  obtain ⟨A2, C2, rfl⟩ := h.ms.form
  obtain ⟨A3, C3, rfl⟩ := h.ds.form
  exact ⟨_, _, _, _, _, _, _, _, _, rfl, rfl, rfl⟩

set_option maxRecDepth 100000 in
set_option maxHeartbeats 3200000 in
theorem unlike_any (m1 m2 : Msg) (a1 b1 c1 a2 b2 c2 : Value) (w : World) (h1 : MsgIn w a1 b1 c1 m1) (h2 : MsgIn w a2 b2 c2 m2) (hmo : MostAt w) (h0 : 1 < w.heap.size) :
    Calls Tryd.prog 9 #[.agg (mcells m1 a1 b1 c1), .agg (mcells m2 a2 b2 c2)] w fun e w' => e = .returned (.bool true) ∧ Below w.heap.size w w' := by
  obtain ⟨A1, L1, C1, A2, L2, C2, A3, L3, C3, rfl, rfl, rfl⟩ := h1.forms
  obtain ⟨A4, L4, C4, A5, L5, C5, A6, L6, C6, rfl, rfl, rfl⟩ := h2.forms
  obtain ⟨W1, hW1⟩ : ∃ W1, W1 = (w.alloc (.cells (mcells m1 (.slice A1 L1 C1) (.slice A2 L2 C2) (.slice A3 L3 C3)) 46)).alloc (.cells (mcells m2 (.slice A4 L4 C4) (.slice A5 L5 C5) (.slice A6 L6 C6)) 46) := ⟨_, rfl⟩
  have hb1 : Below w.heap.size w W1 := by rw [hW1]; exact al2' _ _ _
  obtain ⟨k1, k2⟩ := two_al w (mcells m1 (.slice A1 L1 C1) (.slice A2 L2 C2) (.slice A3 L3 C3)) (mcells m2 (.slice A4 L4 C4) (.slice A5 L5 C5) (.slice A6 L6 C6)) 46 46
  rw [← hW1] at k1 k2
  have hs1 := hb1.size
  obtain ⟨s, e, hse⟩ : ∃ s e, encM m1 = (s, e) := ⟨_, _, rfl⟩
  obtain ⟨t, f, htf⟩ : ∃ t f, encM m2 = (t, f) := ⟨_, _, rfl⟩
  have HWK : Hid (∀ W, Below w.heap.size w W → Calls Tryd.prog 25 #[] W fun e w' => e = .returned (.bool true) ∧ Below W.heap.size W w') := fun W hb => works25_any W (hmo.later h0 hb) (by have := hb.size; omega)
  have HE1 : Hid (∀ W, Below w.heap.size w W → Calls Tryd.prog 26 #[.agg (mcells m1 (.slice A1 L1 C1) (.slice A2 L2 C2) (.slice A3 L3 C3))] W fun e' w' => e' = .returned (.tuple #[.string s, .int .i64 (e : Nat)]) ∧ Below W.heap.size W w') := fun W hb => by
    have := encm_any m1 _ _ _ W (h1.later hb) (hmo.later h0 hb) (by have := hb.size; omega)
    rwa [hse] at this
  have HE2 : Hid (∀ W, Below w.heap.size w W → Calls Tryd.prog 26 #[.agg (mcells m2 (.slice A4 L4 C4) (.slice A5 L5 C5) (.slice A6 L6 C6))] W fun e' w' => e' = .returned (.tuple #[.string t, .int .i64 (f : Nat)]) ∧ Below W.heap.size W w') := fun W hb => by
    have := encm_any m2 _ _ _ W (h2.later hb) (hmo.later h0 hb) (by have := hb.size; omega)
    rwa [htf] at this
  have HS : Hid (∀ W, Below w.heap.size w W → Calls Tryd.prog 22 #[.agg (mcells m1 (.slice A1 L1 C1) (.slice A2 L2 C2) (.slice A3 L3 C3)), .agg (mcells m2 (.slice A4 L4 C4) (.slice A5 L5 C5) (.slice A6 L6 C6))] W fun e w' => e = .returned (.bool (decide (m1 = m2))) ∧ Below W.heap.size W w') := fun W hb => same22_any m1 m2 _ _ _ _ _ _ W (h1.later hb) (h2.later hb)
  have HMB : Hid (∀ W, Below W1.heap.size W1 W → W.heap[w.heap.size]? = some (.cells (mcells m1 (.slice A1 L1 C1) (.slice A2 L2 C2) (.slice A3 L3 C3)) 46 (0, 0)) ∧ W.heap[w.heap.size + 1]? = some (.cells (mcells m2 (.slice A4 L4 C4) (.slice A5 L5 C5) (.slice A6 L6 C6)) 46 (0, 0)) ∧ Below w.heap.size w W) := fun W hb => ⟨keepb hb k1, keepb hb k2, hb1.trans (hb.mono hs1)⟩
  have HU : Hid (e = 0 → f = 0 → m1 ≠ m2 → ∀ r, t.data.toList ≠ s.data.toList ++ r ∧ s.data.toList ≠ t.data.toList ++ r) := fun he hf hne r => by
    subst he hf
    exact ⟨fun h => hne (msg_unlike h1.fits h2.fits hse htf r h), fun h => hne (msg_unlike h2.fits h1.fits htf hse r h).symm⟩
  have HEQ : Hid (m1 = m2 → s = t) := fun h => by
    subst h
    rw [hse] at htf
    exact (Prod.mk.inj htf).1
  have HW1 := Lib.hid hW1
  obtain ⟨d, hd⟩ : ∃ d, d = decide (m1 = m2) := ⟨_, rfl⟩
  rw [← hd] at HS
  have HD1 : Hid (d = true → s = t) := fun h => HEQ.out (of_decide_eq_true (hd ▸ h))
  have HD2 : Hid (d = false → m1 ≠ m2) := fun h => of_decide_eq_false (hd ▸ h)
  clear h1 h2 hmo hb1 k1 k2 hse htf hW1 hs1 HEQ hd
  obtain ⟨kk, p0, p1, p2, p3, p4, p5, p6, ll1, ll2, ll3⟩ := m1
  obtain ⟨kk', p0', p1', p2', p3', p4', p5', p6', ll1', ll2', ll3'⟩ := m2
  unfold mcells at HW1 HE1 HE2 HS ⊢
  simp only at HW1 HE1 HE2 HS ⊢
  have tok1 : True := trivial
  have tok2 : True := trivial
  by_cases he : e = 0
  · subst he
    by_cases hf : f = 0
    · subst hf
      have HUU := Lib.hid (HU.out rfl rfl)
      clear HU
      cases d
      · have HUV := Lib.hid (HUU.out (HD2.out rfl))
        have hne : (s.toList == t.toList) = false := by
          refine beq_false_of_ne fun h => ?_
          rw [Lib.toList_data, Lib.toList_data] at h
          exact (HUV.out []).1 (by simp [h])
        have hne2 : (t.toList == s.toList) = false := by
          refine beq_false_of_ne fun h => ?_
          rw [Lib.toList_data, Lib.toList_data] at h
          exact (HUV.out []).1 (by simp [h])
        have HTS : Hid (s.size ≤ t.size → (s.toList == (t.extract 0 s.size).toList) = false) := fun hle => by
          refine beq_false_of_ne fun h => ?_
          rw [Lib.toList_data, Lib.toList_data] at h
          simp only [ByteArray.data_extract, Array.toList_extract, List.extract_eq_take_drop] at h
          have := (HUV.out (t.data.toList.drop s.size)).1
          refine this ?_
          conv => rhs; rw [h]
          simp
        have HST : Hid (t.size ≤ s.size → (t.toList == (s.extract 0 t.size).toList) = false) := fun hle => by
          refine beq_false_of_ne fun h => ?_
          rw [Lib.toList_data, Lib.toList_data] at h
          simp only [ByteArray.data_extract, Array.toList_extract, List.extract_eq_take_drop] at h
          have := (HUV.out (s.data.toList.drop t.size)).2
          refine this ?_
          conv => rhs; rw [h]
          simp
        clear HUU HD1 HD2
        by_cases hlt : s.size < t.size
        · have l1 : ¬ (t.size : Int) ≤ (s.size : Int) := by omega
          have l2 : (s.size : Int) ≤ (t.size : Int) := by omega
          have l3 := HTS.out (by omega)
          go_enter Tryd.func9, Tryd.ntmps9
          go_upto_region 1 with (fail)
          rw [← HW1.out]
          go_wp2_with (first
            | (go_at_call 25; refine (HWK.out _ (HMB.out _ (Below.refl _ _)).2.2).mono ?_; rintro e' w2 ⟨rfl, hb2⟩; have HB2 := Lib.hid hb2; clear hb2; obtain ⟨x0, x1, x2, x3, x4, x5, x6, x7, x8, x9, x10⟩ := mcells_at2 (HMB.out _ HB2.out).1; simp only at x0 x1 x2 x3 x4 x5 x6 x7)
            | (clear tok1; go_at_call 26; refine (HE1.out _ (HMB.out _ HB2.out).2.2).mono ?_; rintro e' w3 ⟨rfl, hb3⟩; have HB3 := Lib.hid (below_then HB2.out hb3); clear hb3; obtain ⟨y0, y1, y2, y3, y4, y5, y6, y7, y8, y9, y10⟩ := mcells_at2 (HMB.out _ HB3.out).2.1; simp only at y0 y1 y2 y3 y4 y5 y6 y7)
            | (clear tok2; go_at_call 26; refine (HE2.out _ (HMB.out _ HB3.out).2.2).mono ?_; rintro e' w4 ⟨rfl, hb4⟩; have HB4 := Lib.hid (below_then HB3.out hb4); clear hb4; obtain ⟨z0, z1, z2, z3, z4, z5, z6, z7, z8, z9, z10⟩ := mcells_at2 (HMB.out _ HB4.out).1; obtain ⟨q0, q1, q2, q3, q4, q5, q6, q7, q8, q9, q10⟩ := mcells_at2 (HMB.out _ HB4.out).2.1; simp only at z0 z1 z2 z3 z4 z5 z6 z7 q0 q1 q2 q3 q4 q5 q6 q7)
            | (go_at_call 22; refine (HS.out _ (HMB.out _ HB4.out).2.2).mono ?_; rintro e' w5 ⟨rfl, hb5⟩; have HB5 := Lib.hid (below_then HB4.out hb5); clear hb5))
          go_ret
          exact ⟨rfl, (HMB.out _ HB5.out).2.2⟩
        · by_cases hgt : t.size < s.size
          · have l1 : (t.size : Int) ≤ (s.size : Int) := by omega
            have l2 : ¬ (s.size : Int) ≤ (t.size : Int) := by omega
            have l3 := HST.out (by omega)
            go_enter Tryd.func9, Tryd.ntmps9
            go_upto_region 1 with (fail)
            rw [← HW1.out]
            go_wp2_with (first
              | (go_at_call 25; refine (HWK.out _ (HMB.out _ (Below.refl _ _)).2.2).mono ?_; rintro e' w2 ⟨rfl, hb2⟩; have HB2 := Lib.hid hb2; clear hb2; obtain ⟨x0, x1, x2, x3, x4, x5, x6, x7, x8, x9, x10⟩ := mcells_at2 (HMB.out _ HB2.out).1; simp only at x0 x1 x2 x3 x4 x5 x6 x7)
              | (clear tok1; go_at_call 26; refine (HE1.out _ (HMB.out _ HB2.out).2.2).mono ?_; rintro e' w3 ⟨rfl, hb3⟩; have HB3 := Lib.hid (below_then HB2.out hb3); clear hb3; obtain ⟨y0, y1, y2, y3, y4, y5, y6, y7, y8, y9, y10⟩ := mcells_at2 (HMB.out _ HB3.out).2.1; simp only at y0 y1 y2 y3 y4 y5 y6 y7)
              | (clear tok2; go_at_call 26; refine (HE2.out _ (HMB.out _ HB3.out).2.2).mono ?_; rintro e' w4 ⟨rfl, hb4⟩; have HB4 := Lib.hid (below_then HB3.out hb4); clear hb4; obtain ⟨z0, z1, z2, z3, z4, z5, z6, z7, z8, z9, z10⟩ := mcells_at2 (HMB.out _ HB4.out).1; obtain ⟨q0, q1, q2, q3, q4, q5, q6, q7, q8, q9, q10⟩ := mcells_at2 (HMB.out _ HB4.out).2.1; simp only at z0 z1 z2 z3 z4 z5 z6 z7 q0 q1 q2 q3 q4 q5 q6 q7)
              | (go_at_call 22; refine (HS.out _ (HMB.out _ HB4.out).2.2).mono ?_; rintro e' w5 ⟨rfl, hb5⟩; have HB5 := Lib.hid (below_then HB4.out hb5); clear hb5))
            go_ret
            exact ⟨rfl, (HMB.out _ HB5.out).2.2⟩
          · have l1 : (t.size : Int) ≤ (s.size : Int) := by omega
            have l2 : (s.size : Int) ≤ (t.size : Int) := by omega
            go_enter Tryd.func9, Tryd.ntmps9
            go_upto_region 1 with (fail)
            rw [← HW1.out]
            go_wp2_with (first
              | (go_at_call 25; refine (HWK.out _ (HMB.out _ (Below.refl _ _)).2.2).mono ?_; rintro e' w2 ⟨rfl, hb2⟩; have HB2 := Lib.hid hb2; clear hb2; obtain ⟨x0, x1, x2, x3, x4, x5, x6, x7, x8, x9, x10⟩ := mcells_at2 (HMB.out _ HB2.out).1; simp only at x0 x1 x2 x3 x4 x5 x6 x7)
              | (clear tok1; go_at_call 26; refine (HE1.out _ (HMB.out _ HB2.out).2.2).mono ?_; rintro e' w3 ⟨rfl, hb3⟩; have HB3 := Lib.hid (below_then HB2.out hb3); clear hb3; obtain ⟨y0, y1, y2, y3, y4, y5, y6, y7, y8, y9, y10⟩ := mcells_at2 (HMB.out _ HB3.out).2.1; simp only at y0 y1 y2 y3 y4 y5 y6 y7)
              | (clear tok2; go_at_call 26; refine (HE2.out _ (HMB.out _ HB3.out).2.2).mono ?_; rintro e' w4 ⟨rfl, hb4⟩; have HB4 := Lib.hid (below_then HB3.out hb4); clear hb4; obtain ⟨z0, z1, z2, z3, z4, z5, z6, z7, z8, z9, z10⟩ := mcells_at2 (HMB.out _ HB4.out).1; obtain ⟨q0, q1, q2, q3, q4, q5, q6, q7, q8, q9, q10⟩ := mcells_at2 (HMB.out _ HB4.out).2.1; simp only at z0 z1 z2 z3 z4 z5 z6 z7 q0 q1 q2 q3 q4 q5 q6 q7)
              | (go_at_call 22; refine (HS.out _ (HMB.out _ HB4.out).2.2).mono ?_; rintro e' w5 ⟨rfl, hb5⟩; have HB5 := Lib.hid (below_then HB4.out hb5); clear hb5))
            go_ret
            exact ⟨rfl, (HMB.out _ HB5.out).2.2⟩
      · obtain rfl := HD1.out rfl
        clear HUU HD1 HD2
        go_enter Tryd.func9, Tryd.ntmps9
        go_upto_region 1 with (fail)
        rw [← HW1.out]
        go_wp2_with (first
          | (go_at_call 25; refine (HWK.out _ (HMB.out _ (Below.refl _ _)).2.2).mono ?_; rintro e' w2 ⟨rfl, hb2⟩; have HB2 := Lib.hid hb2; clear hb2; obtain ⟨x0, x1, x2, x3, x4, x5, x6, x7, x8, x9, x10⟩ := mcells_at2 (HMB.out _ HB2.out).1; simp only at x0 x1 x2 x3 x4 x5 x6 x7)
          | (clear tok1; go_at_call 26; refine (HE1.out _ (HMB.out _ HB2.out).2.2).mono ?_; rintro e' w3 ⟨rfl, hb3⟩; have HB3 := Lib.hid (below_then HB2.out hb3); clear hb3; obtain ⟨y0, y1, y2, y3, y4, y5, y6, y7, y8, y9, y10⟩ := mcells_at2 (HMB.out _ HB3.out).2.1; simp only at y0 y1 y2 y3 y4 y5 y6 y7)
          | (clear tok2; go_at_call 26; refine (HE2.out _ (HMB.out _ HB3.out).2.2).mono ?_; rintro e' w4 ⟨rfl, hb4⟩; have HB4 := Lib.hid (below_then HB3.out hb4); clear hb4; obtain ⟨z0, z1, z2, z3, z4, z5, z6, z7, z8, z9, z10⟩ := mcells_at2 (HMB.out _ HB4.out).1; obtain ⟨q0, q1, q2, q3, q4, q5, q6, q7, q8, q9, q10⟩ := mcells_at2 (HMB.out _ HB4.out).2.1; simp only at z0 z1 z2 z3 z4 z5 z6 z7 q0 q1 q2 q3 q4 q5 q6 q7)
          | (go_at_call 22; refine (HS.out _ (HMB.out _ HB4.out).2.2).mono ?_; rintro e' w5 ⟨rfl, hb5⟩; have HB5 := Lib.hid (below_then HB4.out hb5); clear hb5))
        go_ret
        exact ⟨rfl, (HMB.out _ HB5.out).2.2⟩
    · have hfz : (((f : Nat) : Int) != 0) = true := by simp; omega
      have HFZ := Lib.hid hf
      clear hf
      go_enter Tryd.func9, Tryd.ntmps9
      go_upto_region 1 with (fail)
      rw [← HW1.out]
      go_wp2_with (first
        | (go_at_call 25; refine (HWK.out _ (HMB.out _ (Below.refl _ _)).2.2).mono ?_; rintro e' w2 ⟨rfl, hb2⟩; have HB2 := Lib.hid hb2; clear hb2; obtain ⟨x0, x1, x2, x3, x4, x5, x6, x7, x8, x9, x10⟩ := mcells_at2 (HMB.out _ HB2.out).1; simp only at x0 x1 x2 x3 x4 x5 x6 x7)
        | (clear tok1; go_at_call 26; refine (HE1.out _ (HMB.out _ HB2.out).2.2).mono ?_; rintro e' w3 ⟨rfl, hb3⟩; have HB3 := Lib.hid (below_then HB2.out hb3); clear hb3; obtain ⟨y0, y1, y2, y3, y4, y5, y6, y7, y8, y9, y10⟩ := mcells_at2 (HMB.out _ HB3.out).2.1; simp only at y0 y1 y2 y3 y4 y5 y6 y7)
        | (clear tok2; go_at_call 26; refine (HE2.out _ (HMB.out _ HB3.out).2.2).mono ?_; rintro e' w4 ⟨rfl, hb4⟩; have HB4 := Lib.hid (below_then HB3.out hb4); clear hb4))
      go_ret
      exact ⟨rfl, (HMB.out _ HB4.out).2.2⟩
  · have hez : (((e : Nat) : Int) != 0) = true := by simp; omega
    have HEZ := Lib.hid he
    clear he
    go_enter Tryd.func9, Tryd.ntmps9
    go_upto_region 1 with (fail)
    rw [← HW1.out]
    go_wp2_with (first
      | (go_at_call 25; refine (HWK.out _ (HMB.out _ (Below.refl _ _)).2.2).mono ?_; rintro e' w2 ⟨rfl, hb2⟩; have HB2 := Lib.hid hb2; clear hb2; obtain ⟨x0, x1, x2, x3, x4, x5, x6, x7, x8, x9, x10⟩ := mcells_at2 (HMB.out _ HB2.out).1; simp only at x0 x1 x2 x3 x4 x5 x6 x7)
      | (clear tok1; go_at_call 26; refine (HE1.out _ (HMB.out _ HB2.out).2.2).mono ?_; rintro e' w3 ⟨rfl, hb3⟩; have HB3 := Lib.hid (below_then HB2.out hb3); clear hb3; obtain ⟨y0, y1, y2, y3, y4, y5, y6, y7, y8, y9, y10⟩ := mcells_at2 (HMB.out _ HB3.out).2.1; simp only at y0 y1 y2 y3 y4 y5 y6 y7)
      | (clear tok2; go_at_call 26; refine (HE2.out _ (HMB.out _ HB3.out).2.2).mono ?_; rintro e' w4 ⟨rfl, hb4⟩; have HB4 := Lib.hid (below_then HB3.out hb4); clear hb4))
    go_ret
    exact ⟨rfl, (HMB.out _ HB4.out).2.2⟩

end Go.Proofs.YtakdfjkkeilffaaDoor
