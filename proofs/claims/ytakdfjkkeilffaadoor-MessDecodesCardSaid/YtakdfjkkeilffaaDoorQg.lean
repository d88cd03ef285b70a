/- A message is read: kinds, fields. -/
import Derived.Test.YtakdfjkkeilffaaDoorQf
import Derived.Test.YtakdfjkkeilffaaDoorMi
set_option linter.unusedVariables false
set_option linter.unusedSimpArgs false
namespace Go.Proofs.YtakdfjkkeilffaaDoor
open Go.RowKit

theorem Holds.head {w : World} {k : Int} {n : Nat} {s : ByteArray} {A : Option Addr} {m c : Nat} {hk : Int} {hn : Nat} {ht : ByteArray} {hl r : List It} (h : Holds w (.int .i64 k) (.int .u64 n) (.string s) (.slice A m c) (.mk k n s (.mk hk hn ht hl :: r))) :
    ∃ g o, A = some ⟨g, o, none⟩ ∧ ∃ hA hc, hn < 18446744073709551616 ∧ ICells w g o hk hn ht hA hl.length hc := by
  obtain ⟨g, o, rfl, k', n', s', A', c', l', e, h1, c0, c1, c2, c3, _⟩ := h.part 0 (by simp)
  simp only [List.getElem_cons_zero] at e
  injection e with e1 e2 e3 e4
  subst e1 e2 e3 e4
  exact ⟨g, o, rfl, A', c', h1, by simpa using c0, by simpa using c1, by simpa using c2, by simpa using c3⟩

/-- the kind is read -/
theorem head_any {w w1 W : World} {k : Int} {n : Nat} {s : ByteArray} {A : Option Addr} {m c : Nat} (h : DMid w w1 W k n s A m c) (hm : W.heap[w1.heap.size + 1 + 1 + 1]? = some (.cells zeroM 46 (0, 0))) (hk : Int) (hn : Nat) (ht : ByteArray) (hA : Option Addr) (hl : List It) (hc : Nat) (hnn : hn < 18446744073709551616) :
    Calls Tryd.prog 34 #[.agg #[.int .i64 hk, .int .u64 hn, .string ht, .slice hA hl.length hc], .int .u64 (4 : Nat), .pointer (some ⟨w1.heap.size + 1 + 1 + 1, 0, none⟩)] W fun e w2 => e = .returned (.bool (numOk 4 (.mk hk hn ht hl))) ∧ DMid w w1 w2 k n s A m c ∧ Below w1.heap.size W w2 ∧ (numOk 4 (.mk hk hn ht hl) = true → w2.heap[w1.heap.size + 1 + 1 + 1]? = some (.cells (mcells (zeroMsg hn) (.slice none 0 0) (.slice none 0 0) (.slice none 0 0)) 46 (0, 0))) := by
  refine (whole_any hk hn ht hA hl.length hc hl 4 (w1.heap.size + 1 + 1 + 1) 0 (.int .i64 0) W hnn (by decide) (zeroM_at hm).1.1 ((zeroM_at hm).2 0)).mono ?_
  rintro e w2 ⟨rfl, hw⟩
  have hlt := lt_of_block hm
  by_cases hok : numOk 4 (.mk hk hn ht hl) = true
  · rw [if_pos hok] at hw
    have hg1 : W.grownBy (W.setCell ⟨w1.heap.size + 1 + 1 + 1, 0, none⟩ (.int .i64 ((It.mk hk hn ht hl).n : Int))) (some (w1.heap.size + 1 + 1 + 1)) := grown_set (World.grownBy.refl _ _) _
    have hms : (W.setCell ⟨w1.heap.size + 1 + 1 + 1, 0, none⟩ (.int .i64 ((It.mk hk hn ht hl).n : Int))).heap[w1.heap.size + 1 + 1 + 1]? = some (.cells (mcells (zeroMsg hn) (.slice none 0 0) (.slice none 0 0) (.slice none 0 0)) 46 (0, 0)) := by
      rw [heap_setCell_same _ _ _ _ _ _ hm]; rfl
    subst hw
    refine ⟨rfl, (h.keep hg1).keep (below_grown (below_al _ _)), ?_, fun _ => ?_⟩
    · exact ((Below.refl w1.heap.size W).setCell (by simp; omega) _).alloc (by simp [World.setCell]; omega) _
    · rw [Below.heap_alloc _ _ _ (lt_of_block hms)]; exact hms
  · rw [if_neg hok] at hw
    subst hw
    exact ⟨rfl, h.keep (below_grown (below_al _ _)), (below_al _ _).mono (by omega), fun h => absurd h hok⟩

set_option maxRecDepth 100000 in
set_option maxHeartbeats 1600000 in
theorem decm_head (b : ByteArray) (n : Nat) (s : ByteArray) (hk : Int) (hn : Nat) (ht : ByteArray) (hl r : List It) (w : World) (h : decR b = .ok (.mk 3 n s (.mk hk hn ht hl :: r))) (hbad : numOk 4 (.mk hk hn ht hl) = false ∨ numOk 4 (.mk hk hn ht hl) = true ∧ (isKind hn = false ∨ isKind hn = true ∧ r.length ≠ (flds hn).length)) : Calls Tryd.prog 20 #[.string b] w (DecMPost w (.error (0, 200))) := by
  have HD := Lib.hid (dec_ok_at b 3 n s _ (decW w) h)
  obtain ⟨m, hm⟩ : ∃ m, m = (It.mk hk hn ht hl :: r).length := ⟨_, rfl⟩
  rw [← hm] at HD
  have hmr : m = r.length + 1 := by rw [hm]; simp
  have hm0 : ¬ ((m : Nat) : Int) < 1 := by omega
  have hmp : (0 : Int) < ((m : Nat) : Int) := by omega
  have HF := Lib.hid (fun w1 hb => DMid.first (w := w) (w1 := w1) hb)
  have HH := Lib.hid (fun (W w1 : World) (A : Option Addr) (c : Nat) (h : DMid w w1 W 3 n s A m c) hm (hA : Option Addr) (hc : Nat) hnn => head_any h hm hk hn ht hA hl hc hnn)
  obtain ⟨t, htt⟩ : ∃ t, t = numOk 4 (.mk hk hn ht hl) := ⟨_, rfl⟩
  rw [← htt] at HH hbad
  have HMR := Lib.hid hmr
  clear h hm htt hmr
  unfold decW zeroM at HD
  rcases hbad with rfl | ⟨rfl, hbad⟩
  · go_enter Tryd.func20, Tryd.ntmps20
    go_upto_region 6 with (go_at_call 27; refine HD.out.mono ?_; rintro e w1 ⟨A, c, rfl, hb1, hx⟩; obtain ⟨g, o, rfl, hA, hc, hnn, hic⟩ := hx.head; have HM := Lib.hid (HF.out _ hb1 3 n s (some ⟨g, o, none⟩) m c); have HIC := Lib.hid hic; clear hb1 hx hic)
    obtain ⟨W6, hW6⟩ : ∃ W6, W6 = midW w1 3 n s (some ⟨g, o, none⟩) m c := ⟨_, rfl⟩
    rw [← hW6] at HM
    unfold midW zeroM at hW6
    rw [← hW6]
    clear hW6
    obtain ⟨x0, x1, x2, x3⟩ := item_at HM.out.1.xb
    have hlo := HM.out.1.lo
    have k1 : w.heap.size ≠ w1.heap.size := by omega
    have k2 : w.heap.size ≠ w1.heap.size + 1 + 1 := by omega
    have k3 : w.heap.size + 1 ≠ w1.heap.size := by omega
    have k4 : w.heap.size + 1 ≠ w1.heap.size + 1 + 1 := by omega
    obtain ⟨a0, a1, a2, a3⟩ := HIC.out.later HM.out.2.2.2
    go_wp2_with (go_at_call 34; refine (HH.out _ _ _ _ HM.out.1 HM.out.2.1 hA hc hnn).mono ?_; rintro e w2 ⟨rfl, hd2, _, _⟩; have HD2 := Lib.hid hd2; clear hd2; obtain ⟨x0_2, x1_2, x2_2, x3_2⟩ := item_at HD2.out.xb; obtain ⟨n0_2, n1_2, _⟩ := fault_at HD2.out.nb; obtain ⟨⟨y0_2, y1_2, y2_2, y3_2, y4_2, y5_2, y6_2, y7_2, y8_2, y9_2, y10_2⟩, u0_2⟩ := zeroM_at HD2.out.z0; obtain ⟨y11_2, y12_2, u1_2⟩ := fault_at HD2.out.z1)
    go_region
    all_goals
      go_wp2_with fail
      exact HD2.out.none rfl rfl rfl
  · skip
    rcases hbad with hik | ⟨hik, hlen⟩
    · have HK : Hid (∀ W : World, Calls Tryd.prog 35 #[.int .i64 hn] W fun e w' => ∃ VA VL VC, e = .returned (.tuple #[.slice VA VL VC, .bool false]) ∧ Below W.heap.size W w') := fun W => (kind_any hn W).mono fun e w' ⟨v, h1, h2, h3⟩ => by
        obtain ⟨VA, VC, rfl⟩ := h2.form
        rw [hik] at h1
        exact ⟨VA, _, VC, h1, h3⟩
      clear hik
      go_enter Tryd.func20, Tryd.ntmps20
      go_upto_region 6 with (go_at_call 27; refine HD.out.mono ?_; rintro e w1 ⟨A, c, rfl, hb1, hx⟩; obtain ⟨g, o, rfl, hA, hc, hnn, hic⟩ := hx.head; have HM := Lib.hid (HF.out _ hb1 3 n s (some ⟨g, o, none⟩) m c); have HIC := Lib.hid hic; clear hb1 hx hic)
      obtain ⟨W6, hW6⟩ : ∃ W6, W6 = midW w1 3 n s (some ⟨g, o, none⟩) m c := ⟨_, rfl⟩
      rw [← hW6] at HM
      unfold midW zeroM at hW6
      rw [← hW6]
      clear hW6
      obtain ⟨x0, x1, x2, x3⟩ := item_at HM.out.1.xb
      have hlo := HM.out.1.lo
      have k1 : w.heap.size ≠ w1.heap.size := by omega
      have k2 : w.heap.size ≠ w1.heap.size + 1 + 1 := by omega
      have k3 : w.heap.size + 1 ≠ w1.heap.size := by omega
      have k4 : w.heap.size + 1 ≠ w1.heap.size + 1 + 1 := by omega
      obtain ⟨a0, a1, a2, a3⟩ := HIC.out.later HM.out.2.2.2
      go_wp2_with (first
        | (go_at_call 34; refine (HH.out _ _ _ _ HM.out.1 HM.out.2.1 hA hc hnn).mono ?_; rintro e w2 ⟨rfl, hd2, hb2, hm2⟩; have HD2 := Lib.hid hd2; have HM2 := Lib.hid (hm2 (by trivial)); clear hd2 hb2 hm2; obtain ⟨z0, _⟩ := mcells_at2 HM2.out; obtain ⟨x0_2, x1_2, x2_2, x3_2⟩ := item_at HD2.out.xb)
        | (go_at_call 35; refine (HK.out _).mono ?_; rintro e w3 ⟨VA, VL, VC, rfl, hb3⟩; have HD3 := Lib.hid (HD2.out.keep (below_grown hb3)); clear hb3; obtain ⟨x0_3, x1_3, x2_3, x3_3⟩ := item_at HD3.out.xb; obtain ⟨n0_3, n1_3, _⟩ := fault_at HD3.out.nb; obtain ⟨⟨y0_3, y1_3, y2_3, y3_3, y4_3, y5_3, y6_3, y7_3, y8_3, y9_3, y10_3⟩, u0_3⟩ := zeroM_at HD3.out.z0; obtain ⟨y11_3, y12_3, u1_3⟩ := fault_at HD3.out.z1))
      go_region
      all_goals
        go_wp2_with fail
        exact HD3.out.none rfl rfl rfl
    · have HK := Lib.hid (fun W : World => kindl_any hn W hik)
      obtain ⟨fn, hfn⟩ : ∃ fn, fn = (flds (hn : Int)).length := ⟨_, rfl⟩
      have hf6 := (flds_ok hn).1
      rw [← hfn] at HK hlen hf6
      have hne : (((m : Nat) : Int) != 1 + ((fn : Nat) : Int)) = true := by
        have := HMR.out
        simp; omega
      clear hik hfn hlen
      go_enter Tryd.func20, Tryd.ntmps20
      go_upto_region 6 with (go_at_call 27; refine HD.out.mono ?_; rintro e w1 ⟨A, c, rfl, hb1, hx⟩; obtain ⟨g, o, rfl, hA, hc, hnn, hic⟩ := hx.head; have HM := Lib.hid (HF.out _ hb1 3 n s (some ⟨g, o, none⟩) m c); have HIC := Lib.hid hic; clear hb1 hx hic)
      obtain ⟨W6, hW6⟩ : ∃ W6, W6 = midW w1 3 n s (some ⟨g, o, none⟩) m c := ⟨_, rfl⟩
      rw [← hW6] at HM
      unfold midW zeroM at hW6
      rw [← hW6]
      clear hW6
      obtain ⟨x0, x1, x2, x3⟩ := item_at HM.out.1.xb
      have hlo := HM.out.1.lo
      have k1 : w.heap.size ≠ w1.heap.size := by omega
      have k2 : w.heap.size ≠ w1.heap.size + 1 + 1 := by omega
      have k3 : w.heap.size + 1 ≠ w1.heap.size := by omega
      have k4 : w.heap.size + 1 ≠ w1.heap.size + 1 + 1 := by omega
      obtain ⟨a0, a1, a2, a3⟩ := HIC.out.later HM.out.2.2.2
      go_wp2_with (first
        | (go_at_call 34; refine (HH.out _ _ _ _ HM.out.1 HM.out.2.1 hA hc hnn).mono ?_; rintro e w2 ⟨rfl, hd2, hb2, hm2⟩; have HD2 := Lib.hid hd2; have HM2 := Lib.hid (hm2 (by trivial)); clear hd2 hb2 hm2; obtain ⟨z0, _⟩ := mcells_at2 HM2.out; obtain ⟨x0_2, x1_2, x2_2, x3_2⟩ := item_at HD2.out.xb)
        | (go_at_call 35; refine (HK.out _).mono ?_; rintro e w3 ⟨rfl, hw3⟩; have HD3 : Hid (DMid w w1 w3 3 n s (some ⟨g, o, none⟩) m c) := (by rw [hw3]; exact HD2.out.keep (below_grown (below_al _ _))); clear hw3; obtain ⟨x0_3, x1_3, x2_3, x3_3⟩ := item_at HD3.out.xb; obtain ⟨n0_3, n1_3, _⟩ := fault_at HD3.out.nb; obtain ⟨⟨y0_3, y1_3, y2_3, y3_3, y4_3, y5_3, y6_3, y7_3, y8_3, y9_3, y10_3⟩, u0_3⟩ := zeroM_at HD3.out.z0; obtain ⟨y11_3, y12_3, u1_3⟩ := fault_at HD3.out.z1))
      go_region
      all_goals
        go_wp2_with fail
        exact HD3.out.none rfl rfl rfl

end Go.Proofs.YtakdfjkkeilffaaDoor
