/- There and back: the walk. -/
import Derived.Test.YtakdfjkkeilffaaDoorQk
set_option linter.unusedVariables false
set_option linter.unusedSimpArgs false
namespace Go.Proofs.YtakdfjkkeilffaaDoor
open Go.RowKit

theorem encM_bad {m : Msg} {s : ByteArray} {e : Nat} (h : encM m = (s, e)) (he : e ≠ 0) : s = ⟨#[]⟩ := by
  unfold encM at h
  split at h
  · exact (Prod.mk.inj h).1.symm
  · split at h
    · unfold encR at h
      split at h
      · exact (Prod.mk.inj h).1.symm
      · split at h
        · exact (Prod.mk.inj h).1.symm
        · exact absurd (Prod.mk.inj h).2.symm he
    · exact (Prod.mk.inj h).1.symm

/-- what reading some bytes, and writing what was read, gives -/
structure Back (w : World) (b : ByteArray) : Prop where
  dec : ∀ W, Below w.heap.size w W → Calls Tryd.prog 20 #[.string b] W (DecMPost W (decM b))
  enc : ∀ m, decM b = .ok m → ∀ (W : World) (base : Nat) (va vb vc : Value), Below w.heap.size w W → MsgOwn base W va vb vc m → Calls Tryd.prog 26 #[.agg (mcells m va vb vc)] W fun e' w' => e' = .returned (.tuple #[.string b, .int .i64 0]) ∧ Below W.heap.size W w'
theorem back_of {w : World} (hmo : MostAt w) (h0 : 1 < w.heap.size) (b : ByteArray) : Back w b :=
  ⟨fun W hb => decm_any b W (hmo.later h0 hb) (by have := hb.size; omega), fun m hm W base va vb vc hb ho => by
    obtain ⟨f1, f2, f3⟩ := decM_facts hm
    have := encm_any m va vb vc W (ho.msgIn f1 f2 f3) (hmo.later h0 hb) (by have := hb.size; omega)
    rwa [(msg_again hm).1] at this⟩
theorem MsgOwn.forms {base : Nat} {W : World} {a b c : Value} {m : Msg} (h : MsgOwn base W a b c m) : ∃ A1 L1 C1 A2 L2 C2 A3 L3 C3, a = .slice A1 L1 C1 ∧ b = .slice A2 L2 C2 ∧ c = .slice A3 L3 C3 := by
  obtain ⟨A1, C1, e1⟩ := (Nums.of_row h.ws).form
  obtain ⟨A3, C3, e3⟩ := (Nums.of_row h.ds).form
  obtain ⟨vs, hv⟩ := h.ms
  obtain ⟨A2, L2, C2, e2⟩ : ∃ A l c, b = .slice A l c := by
    rcases hv.row.2 with ⟨rfl, _⟩ | ⟨g', cap', cur, rfl, _⟩ <;> exact ⟨_, _, _, rfl⟩
  exact ⟨_, _, _, _, _, _, _, _, _, e1, e2, e3⟩

set_option maxRecDepth 100000 in
set_option maxHeartbeats 3200000 in
theorem back_any (m : Msg) (va vb vc : Value) (b : ByteArray) (w : World) (h : MsgIn w va vb vc m) (hmo : MostAt w) (h0 : 1 < w.heap.size) :
    Calls Tryd.prog 8 #[.agg (mcells m va vb vc), .string b] w fun e w' => e = .returned (.bool true) ∧ Below w.heap.size w w' := by
  obtain ⟨A1, L1, C1, A2, L2, C2, A3, L3, C3, rfl, rfl, rfl⟩ := h.forms
  obtain ⟨W1, hW1⟩ : ∃ W1, W1 = w.alloc (.cells (mcells m (.slice A1 L1 C1) (.slice A2 L2 C2) (.slice A3 L3 C3)) 46) := ⟨_, rfl⟩
  have hb1 : Below w.heap.size w W1 := by rw [hW1]; exact below_al _ _
  have k1 : W1.heap[w.heap.size]? = some (.cells (mcells m (.slice A1 L1 C1) (.slice A2 L2 C2) (.slice A3 L3 C3)) 46 (0, 0)) := by rw [hW1]; exact heap_alloc_new _ _
  have hs1 := hb1.size
  obtain ⟨s, e, hse⟩ : ∃ s e, encM m = (s, e) := ⟨_, _, rfl⟩
  have HWK : Hid (∀ W, Below w.heap.size w W → Calls Tryd.prog 25 #[] W fun e w' => e = .returned (.bool true) ∧ Below W.heap.size W w') := fun W hb => works25_any W (hmo.later h0 hb) (by have := hb.size; omega)
  have HE1 : Hid (∀ W, Below w.heap.size w W → Calls Tryd.prog 26 #[.agg (mcells m (.slice A1 L1 C1) (.slice A2 L2 C2) (.slice A3 L3 C3))] W fun e' w' => e' = .returned (.tuple #[.string s, .int .i64 (e : Nat)]) ∧ Below W.heap.size W w') := fun W hb => by
    have := encm_any m _ _ _ W (h.later hb) (hmo.later h0 hb) (by have := hb.size; omega)
    rwa [hse] at this
  have HBK := Lib.hid (back_of hmo h0 b)
  have HMB : Hid (∀ W, Below W1.heap.size W1 W → W.heap[w.heap.size]? = some (.cells (mcells m (.slice A1 L1 C1) (.slice A2 L2 C2) (.slice A3 L3 C3)) 46 (0, 0)) ∧ Below w.heap.size w W) := fun W hb => ⟨keepb hb k1, hb1.trans (hb.mono hs1)⟩
  have HIN : Hid (∀ W, Below w.heap.size w W → MsgIn W (.slice A1 L1 C1) (.slice A2 L2 C2) (.slice A3 L3 C3) m) := fun W hb => h.later hb
  have HFT := Lib.hid h.fits
  have HSD : Hid (e = 0 → (∀ W, Below w.heap.size w W → Calls Tryd.prog 20 #[.string s] W (DecMPost W (.ok m))) ∧ (∀ W, Calls Tryd.prog 27 #[.string s] W (DecPost W (.ok (msgIt m)))) ∧ mayM m = true ∧ longM m = false) := fun he => by
    subst he
    obtain ⟨r1, r2⟩ := msg_round h.fits hse
    refine ⟨fun W hb => ?_, fun W => ?_, (decM_facts r2).1, (decM_facts r2).2.1⟩
    · have := decm_any s W (hmo.later h0 hb) (by have := hb.size; omega)
      rwa [r2] at this
    · have := decode_any s W
      rwa [r1] at this
  have HSB : Hid (e ≠ 0 → s = ⟨#[]⟩) := fun he => encM_bad hse he
  have HW1 := Lib.hid hW1
  have HSM : Hid (∀ (W : World) (a' b' c' : Value), MsgIn W a' b' c' m → Below w.heap.size w W → Calls Tryd.prog 22 #[.agg (mcells m a' b' c'), .agg (mcells m (.slice A1 L1 C1) (.slice A2 L2 C2) (.slice A3 L3 C3))] W fun e w' => e = .returned (.bool true) ∧ Below W.heap.size W w') := fun W a' b' c' h1 hb => by
    have := same22_any m m _ _ _ _ _ _ W h1 (h.later hb)
    rwa [decide_eq_true rfl] at this
  clear h hmo hb1 k1 hse hW1 hs1
  obtain ⟨kk, p0, p1, p2, p3, p4, p5, p6, ll1, ll2, ll3⟩ := m
  unfold mcells at HW1 HE1 HSM ⊢
  simp only at HW1 HE1 HSM ⊢
  obtain ⟨rb, hrb⟩ : ∃ rb, rb = decM b := ⟨_, rfl⟩
  have HRB := Lib.hid hrb
  clear hrb
  by_cases he : e = 0
  · subst he
    obtain ⟨HSD1, HSD2, HSD3, HSD4⟩ := HSD.out rfl
    have HS1 := Lib.hid HSD1
    have HS2 := Lib.hid HSD2
    have HS3 := Lib.hid HSD3
    have HS4 := Lib.hid HSD4
    clear HSD HSB HSD1 HSD2 HSD3 HSD4
    go_enter Tryd.func8, Tryd.ntmps8
    go_upto_region 1 with (fail)
    rw [← HW1.out]
    go_upto_region 5 with (first
      | (go_at_call 25; refine (HWK.out _ (HMB.out _ (Below.refl _ _)).2).mono ?_; rintro e' w2 ⟨rfl, hb2⟩; have HB2 := Lib.hid hb2; clear hb2; obtain ⟨x0, x1, x2, x3, x4, x5, x6, x7, x8, x9, x10⟩ := mcells_at2 (HMB.out _ HB2.out).1; simp only at x0 x1 x2 x3 x4 x5 x6 x7)
      | (go_at_call 26; refine (HE1.out _ (HMB.out _ HB2.out).2).mono ?_; rintro e' w3 ⟨rfl, hb3⟩; have HB3 := Lib.hid (below_then HB2.out hb3); clear hb3))
    go_upto_region 6 with (go_at_call 20; refine (HS1.out _ (HMB.out _ HB3.out).2).mono ?_; rintro e' w4 ⟨hb4, a4, b4, c4, rfl, ho4⟩; have HB4 := Lib.hid (below_then HB3.out hb4); have HI4 := Lib.hid (ho4.msgIn HS3.out HS4.out HFT.out); obtain ⟨A7, L7, C7, A8, L8, C8, A9, L9, C9, rfl, rfl, rfl⟩ := ho4.forms; clear hb4 ho4; unfold mcells)
    obtain ⟨W5, hW5⟩ : ∃ W5, W5 = (w4.alloc (.cells (mcells ⟨kk, p0, p1, p2, p3, p4, p5, p6, ll1, ll2, ll3⟩ (.slice A7 L7 C7) (.slice A8 L8 C8) (.slice A9 L9 C9)) 46)).alloc (.cells #[.int .i64 0, .int .i64 0] 31) := ⟨_, rfl⟩
    have hb5 : Below w4.heap.size w4 W5 := by rw [hW5]; exact al2' _ _ _
    have hx5 : W5.heap[w4.heap.size]? = some (.cells (mcells ⟨kk, p0, p1, p2, p3, p4, p5, p6, ll1, ll2, ll3⟩ (.slice A7 L7 C7) (.slice A8 L8 C8) (.slice A9 L9 C9)) 46 (0, 0)) := by rw [hW5]; exact (two_al _ _ _ _ _).1
    have hf5 : W5.heap[w4.heap.size + 1]? = some (.cells #[.int .i64 0, .int .i64 0] 31 (0, 0)) := by rw [hW5]; exact (two_al _ _ _ _ _).2
    have HX5 := Lib.hid hx5
    have HF5 := Lib.hid hf5
    have HB5 := Lib.hid (below_then HB4.out hb5)
    have HI5 := Lib.hid (HI4.out.later hb5)
    unfold mcells at hW5
    simp only at hW5
    rw [← hW5]
    clear hW5 hb5 hx5 hf5
    go_upto_region 7 with (go_at_call 27; refine (HS2.out _).mono ?_; rintro e' w6 ⟨hb6, v0, v1, v2, v3, rfl, hx6⟩; obtain ⟨xk, xn, xt, xA, xm, xc, rfl, rfl, rfl, rfl⟩ := hx6.shape; have HB6 := Lib.hid hb6; clear hb6 hx6)
    obtain ⟨W7, hW7⟩ : ∃ W7, W7 = (w6.alloc (.cells #[.int .i64 xk, .int .u64 xn, .string xt, .slice xA xm xc] 57)).alloc (.cells #[.int .i64 0, .int .i64 0] 31) := ⟨_, rfl⟩
    have hb7 : Below w6.heap.size w6 W7 := by rw [hW7]; exact al2' _ _ _
    have hb57 := below_then HB6.out hb7
    have hf7 : W7.heap[w6.heap.size + 1]? = some (.cells #[.int .i64 0, .int .i64 0] 31 (0, 0)) := by rw [hW7]; exact (two_al _ _ _ _ _).2
    have HB7 := Lib.hid (below_then HB5.out hb57)
    have hx7 := keepb hb57 HX5.out
    have hg7 := keepb hb57 HF5.out
    have HI7 := Lib.hid (HI5.out.later hb57)
    obtain ⟨f0, f1, _⟩ := fault_at hf7
    obtain ⟨g0, g1, _⟩ := fault_at hg7
    obtain ⟨y0, y1, y2, y3, y4, y5, y6, y7, y8, y9, y10⟩ := mcells_at2 hx7
    obtain ⟨z0, z1, z2, z3, z4, z5, z6, z7, z8, z9, z10⟩ := mcells_at2 (HMB.out _ HB7.out).1
    simp only at y0 y1 y2 y3 y4 y5 y6 y7 z0 z1 z2 z3 z4 z5 z6 z7
    have HSM7 := Lib.hid (HSM.out W7 _ _ _ HI7.out (HMB.out _ HB7.out).2)
    rw [← hW7]
    clear hW7 hb7 hb57 hf7 hx7 hg7
    go_upto_region 11 with (go_at_call 22; refine HSM7.out.mono ?_; rintro e' w8 ⟨rfl, hb8⟩; have HB8 := Lib.hid (below_then HB7.out hb8); clear hb8)
    cases rb with
    | error ac =>
      obtain ⟨a9, c9⟩ := ac
      go_upto_region 12 with (go_at_call 20; refine (HBK.out.dec _ (HMB.out _ HB8.out).2).mono ?_; rw [← HRB.out]; rintro e' w9 ⟨hb9, rfl, hc9⟩; have HB9 := Lib.hid (below_then HB8.out hb9); have HC9 := Lib.hid hc9; have ht9 : (((c9 : Nat) : Int) == 0) = false := (by simp; omega); clear hb9 hc9; unfold zeroM)
      go_wp2_with fail
      go_ret
      exact ⟨rfl, (HMB.out _ HB9.out).2.trans ((al2' _ _ _).mono (HMB.out _ HB9.out).2.size)⟩
    | ok m9 =>
      have hem := HBK.out.enc m9 HRB.out.symm
      have HEM := Lib.hid hem
      clear hem
      go_upto_region 12 with (go_at_call 20; refine (HBK.out.dec _ (HMB.out _ HB8.out).2).mono ?_; rw [← HRB.out]; rintro e' w9 ⟨hb9, a9, b9, c9, rfl, ho9⟩; have HB9 := Lib.hid (below_then HB8.out hb9); obtain ⟨A4, L4, C4, A5, L5, C5, A6, L6, C6, rfl, rfl, rfl⟩ := ho9.forms; have HO9 := Lib.hid ho9; clear hb9 ho9; unfold mcells)
      have HE9 := Lib.hid (HEM.out ((w9.alloc (.cells (mcells m9 (.slice A4 L4 C4) (.slice A5 L5 C5) (.slice A6 L6 C6)) 46)).alloc (.cells #[.int .i64 0, .int .i64 0] 31)) _ _ _ _ ((HMB.out _ HB9.out).2.trans ((al2' _ _ _).mono (HMB.out _ HB9.out).2.size)) (HO9.out.keep (fun g _ hg => (al2' _ _ _).block g hg)))
      have HB11 : Hid (∀ o1 o2, Below w.heap.size w ((w9.alloc o1).alloc o2)) := fun o1 o2 => (HMB.out _ HB9.out).2.trans ((al2' _ _ _).mono (HMB.out _ HB9.out).2.size)
      unfold mcells at HE9
      obtain ⟨q, q0, q1, q2, q3, q4, q5, q6, qq1, qq2, qq3⟩ := m9
      simp only at HE9
      go_wp2_with (go_at_call 26; refine HE9.out.mono ?_; rintro e' w10 ⟨rfl, hb10⟩; have HB10 := Lib.hid hb10; clear hb10)
      go_ret
      exact ⟨rfl, (HB11.out _ _).trans (HB10.out.mono (HB11.out _ _).size)⟩
  · skip
    have hez : (((e : Nat) : Int) == 0) = false := by simp; omega
    obtain rfl := HSB.out he
    have HEZ := Lib.hid he
    clear he HSD HSB
    go_enter Tryd.func8, Tryd.ntmps8
    go_upto_region 1 with (fail)
    rw [← HW1.out]
    go_upto_region 11 with (first
      | (go_at_call 25; refine (HWK.out _ (HMB.out _ (Below.refl _ _)).2).mono ?_; rintro e' w2 ⟨rfl, hb2⟩; have HB2 := Lib.hid hb2; clear hb2; obtain ⟨x0, x1, x2, x3, x4, x5, x6, x7, x8, x9, x10⟩ := mcells_at2 (HMB.out _ HB2.out).1; simp only at x0 x1 x2 x3 x4 x5 x6 x7)
      | (go_at_call 26; refine (HE1.out _ (HMB.out _ HB2.out).2).mono ?_; rintro e' w3 ⟨rfl, hb3⟩; have HB3 := Lib.hid (below_then HB2.out hb3); clear hb3))
    cases rb with
    | error ac =>
      obtain ⟨a9, c9⟩ := ac
      go_upto_region 12 with (go_at_call 20; refine (HBK.out.dec _ (HMB.out _ HB3.out).2).mono ?_; rw [← HRB.out]; rintro e' w9 ⟨hb9, rfl, hc9⟩; have HB9 := Lib.hid (below_then HB3.out hb9); have HC9 := Lib.hid hc9; have ht9 : (((c9 : Nat) : Int) == 0) = false := (by simp; omega); clear hb9 hc9; unfold zeroM)
      go_wp2_with fail
      go_ret
      exact ⟨rfl, (HMB.out _ HB9.out).2.trans ((al2' _ _ _).mono (HMB.out _ HB9.out).2.size)⟩
    | ok m9 =>
      have hem := HBK.out.enc m9 HRB.out.symm
      have HEM := Lib.hid hem
      clear hem
      go_upto_region 12 with (go_at_call 20; refine (HBK.out.dec _ (HMB.out _ HB3.out).2).mono ?_; rw [← HRB.out]; rintro e' w9 ⟨hb9, a9, b9, c9, rfl, ho9⟩; have HB9 := Lib.hid (below_then HB3.out hb9); obtain ⟨A4, L4, C4, A5, L5, C5, A6, L6, C6, rfl, rfl, rfl⟩ := ho9.forms; have HO9 := Lib.hid ho9; clear hb9 ho9; unfold mcells)
      have HE9 := Lib.hid (HEM.out ((w9.alloc (.cells (mcells m9 (.slice A4 L4 C4) (.slice A5 L5 C5) (.slice A6 L6 C6)) 46)).alloc (.cells #[.int .i64 0, .int .i64 0] 31)) _ _ _ _ ((HMB.out _ HB9.out).2.trans ((al2' _ _ _).mono (HMB.out _ HB9.out).2.size)) (HO9.out.keep (fun g _ hg => (al2' _ _ _).block g hg)))
      have HB11 : Hid (∀ o1 o2, Below w.heap.size w ((w9.alloc o1).alloc o2)) := fun o1 o2 => (HMB.out _ HB9.out).2.trans ((al2' _ _ _).mono (HMB.out _ HB9.out).2.size)
      unfold mcells at HE9
      obtain ⟨q, q0, q1, q2, q3, q4, q5, q6, qq1, qq2, qq3⟩ := m9
      simp only at HE9
      go_wp2_with (go_at_call 26; refine HE9.out.mono ?_; rintro e' w10 ⟨rfl, hb10⟩; have HB10 := Lib.hid hb10; clear hb10)
      go_ret
      exact ⟨rfl, (HB11.out _ _).trans (HB10.out.mono (HB11.out _ _).size)⟩

end Go.Proofs.YtakdfjkkeilffaaDoor
