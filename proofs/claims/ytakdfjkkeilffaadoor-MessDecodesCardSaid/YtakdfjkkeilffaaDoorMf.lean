/- Messages: too long ones. -/
import Derived.Test.YtakdfjkkeilffaaDoorMd
set_option linter.unusedVariables false
set_option linter.unusedSimpArgs false
namespace Go.Proofs.YtakdfjkkeilffaaDoor
open Go.RowKit

def longMat (y : Mat) : Bool := decide (16384 < y.d.length)
def longM (m : Msg) : Bool := decide (16384 < m.ws.length) || decide (16384 < m.ms.length) || decide (16384 < m.ds.length) || m.ms.any longMat

set_option maxHeartbeats 1600000 in
theorem close_any (a b c : Int) (v : Value) (l : List Int) (w : World) (h : Nums w .u64 v l) : Calls Tryd.prog 63 #[.agg #[.int .i64 a, .int .i64 b, .int .i64 c, v]] w fun e w' => e = .returned (.bool (decide (16384 < l.length))) ∧ Below w.heap.size w w' := by
  obtain ⟨hl, A, cc, rfl, _⟩ := h
  by_cases hb : 16384 < l.length
  · have hbi : (16384 : Int) < (l.length : Int) := by omega
    go_enter Tryd.func63, Tryd.ntmps63
    go_wp2_with fail
    go_ret
    exact ⟨by first | rfl | (rw [decide_eq_true hb]; rfl), below_al _ _⟩
  · have hbi : ¬ (16384 : Int) < (l.length : Int) := by omega
    go_enter Tryd.func63, Tryd.ntmps63
    go_wp2_with fail
    go_ret
    exact ⟨by first | rfl | (rw [decide_eq_false hb]; rfl), below_al _ _⟩

set_option maxRecDepth 100000 in
set_option maxHeartbeats 1600000 in
theorem indexf_any (v : Value) (l : List Mat) (w : World) (h : Mats w v l) :
    Calls Tryd.prog 71 #[v, .func (.func 63) #[] #[]] w fun e w' => ∃ r : Int, e = .returned (.int .i64 r) ∧ (0 ≤ r ↔ l.any longMat = true) ∧ Below w.heap.size w w' := by
  obtain ⟨hl, hwf, A, c, rfl, F, hA, hF⟩ := h
  obtain ⟨n, hn⟩ : ∃ n, n = l.length := ⟨_, rfl⟩
  have HA : Hid (0 < n → ∃ g o, A = some ⟨g, o, none⟩ ∧ ∀ i (h : i < l.length), w.cell? ⟨g, o + i * 4, none⟩ = some (.int .i64 l[i].lv) ∧ w.cell? ⟨g, o + i * 4 + 1, none⟩ = some (.int .i64 l[i].ce) ∧ w.cell? ⟨g, o + i * 4 + 2, none⟩ = some (.int .i64 l[i].ep) ∧ w.cell? ⟨g, o + i * 4 + 3, none⟩ = some (F i)) := fun h => hA (by omega)
  rw [← hn] at hl ⊢
  have HF := Lib.hid hF
  have HN := Lib.hid hn
  clear hA hF hn hwf
  go_enter Tryd.func71, Tryd.ntmps71
  go_wp2_with fail
  go_loopw [8] (fun i wr => ∃ k : Nat, k ≤ n ∧ i = .int .i64 k ∧ Hid ((l.take k).any longMat = false) ∧ Hid (Below w.heap.size w wr)) (fun i _ => n - (intOf i).toNat)
  case atStart => exact ⟨0, by omega, rfl, by show _ = _; simp, Below.refl _ _⟩
  case round =>
    obtain ⟨k, hk, rfl, HT, HB⟩ := hrel
    obtain ⟨wo, rfl⟩ : ∃ wo : World, wo = wr := ⟨_, rfl⟩
    have hso := HB.out.size
    by_cases hlt : k < n
    · have hkl : k < l.length := by have := HN.out; omega
      obtain ⟨g, o, rfl, hc⟩ := HA.out (by omega)
      obtain ⟨y, hy⟩ : ∃ y, y = l[k] := ⟨_, rfl⟩
      obtain ⟨d0, d1, d2, d3⟩ := hc k hkl
      have hf := HF.out k hkl
      rw [← hy] at d0 d1 d2 hf
      replace d0 := (HB.out.cell (World.block_lt_of_cell? w _ d0)).trans d0
      replace d1 := (HB.out.cell (World.block_lt_of_cell? w _ d1)).trans d1
      replace d2 := (HB.out.cell (World.block_lt_of_cell? w _ d2)).trans d2
      replace d3 := (HB.out.cell (World.block_lt_of_cell? w _ d3)).trans d3
      have HC := Lib.hid (close_any y.lv y.ce y.ep (F k) _ wo (hf.later HB.out))
      obtain ⟨r, hr⟩ : ∃ r, r = longMat y := ⟨_, rfl⟩
      have er : decide (16384 < (toI y.d).length) = r := by rw [hr]; unfold longMat toI; rw [List.length_map]
      rw [er] at HC
      have HTK : Hid ((l.take (k + 1)).any longMat = r) := by
        show _ = _
        rw [List.take_succ_eq_append_getElem hkl, List.any_append, HT.out, ← hy, hr]; simp
      have HALL : Hid (r = true → l.any longMat = true) := by
        intro h
        rw [List.any_eq_true]
        exact ⟨y, by rw [hy]; exact List.getElem_mem hkl, by rw [← hr]; exact h⟩
      clear hc hf hy hr er
      cases r
      · go_wp2_with (go_at_call 63; refine HC.out.mono ?_; rintro e w1 ⟨rfl, hb1⟩; have HB1 := Lib.hid (HB.out.trans (hb1.mono hso)); clear hb1)
        go_roundw
        case rel => exact ⟨k + 1, by omega, by go_num, HTK.out, HB1.out⟩
        case measure => simp [intOf]; omega
      · go_wp2_with (go_at_call 63; refine HC.out.mono ?_; rintro e w1 ⟨rfl, hb1⟩; have HB1 := Lib.hid (HB.out.trans (hb1.mono hso)); clear hb1)
        go_ret
        exact ⟨k, rfl, ⟨fun _ => HALL.out trivial, fun _ => by omega⟩, HB1.out⟩
    · obtain rfl : k = n := by omega
      go_wp2_with fail
      go_ret
      have h := HT.out
      rw [List.take_of_length_le (by have := HN.out; omega)] at h
      exact ⟨-1, rfl, ⟨fun h => by omega, fun h2 => by rw [h] at h2; cases h2⟩, HB.out⟩

set_option maxHeartbeats 1600000 in
theorem containsf_any (v : Value) (l : List Mat) (w : World) (h : Mats w v l) :
    Calls Tryd.prog 62 #[v, .func (.func 63) #[] #[]] w fun e w' => e = .returned (.bool (l.any longMat)) ∧ Below w.heap.size w w' := by
  have HI := Lib.hid (indexf_any v l w h)
  obtain ⟨t, ht⟩ : ∃ t, t = l.any longMat := ⟨_, rfl⟩
  rw [← ht] at HI
  rw [← ht]
  clear ht h
  cases t
  · go_enter Tryd.func62, Tryd.ntmps62
    go_wp2_with (go_at_call 71; refine HI.out.mono ?_; rintro e w1 ⟨r, rfl, hr, hb1⟩; have hr0 : ¬ 0 ≤ r := (fun h => by have := hr.1 h; cases this); have HB1 := Lib.hid hb1; clear hb1 hr)
    go_ret
    exact ⟨by first | rfl | exact ret_bool (decide_eq_false (by omega)), HB1.out⟩
  · go_enter Tryd.func62, Tryd.ntmps62
    go_wp2_with (go_at_call 71; refine HI.out.mono ?_; rintro e w1 ⟨r, rfl, hr, hb1⟩; have hr0 : 0 ≤ r := hr.2 rfl; have HB1 := Lib.hid hb1; clear hb1 hr)
    go_ret
    exact ⟨by first | rfl | exact ret_bool (decide_eq_true hr0), HB1.out⟩

set_option maxRecDepth 100000 in
set_option maxHeartbeats 1600000 in
theorem long_any (m : Msg) (a b c : Value) (w : World) (h : MsgIn w a b c m) : Calls Tryd.prog 42 #[.agg (mcells m a b c)] w fun e w' => e = .returned (.bool (longM m)) ∧ Below w.heap.size w w' := by
  obtain ⟨A1, L1, C1, ha, hL1⟩ : ∃ A l c, a = .slice A l c ∧ l = m.ws.length := by obtain ⟨_, A, c, e, _⟩ := h.ws; exact ⟨A, _, c, e, by simp [toI]⟩
  obtain ⟨A2, L2, C2, hb, hL2⟩ : ∃ A l c, b = .slice A l c ∧ l = m.ms.length := by obtain ⟨_, _, A, c, e, _⟩ := h.ms; exact ⟨A, _, c, e, rfl⟩
  obtain ⟨A3, L3, C3, hc, hL3⟩ : ∃ A l d, c = .slice A l d ∧ l = m.ds.length := by obtain ⟨_, A, c, e, _⟩ := h.ds; exact ⟨A, _, c, e, by simp [toI]⟩
  subst ha hb hc
  have HCF := Lib.hid (containsf_any _ m.ms (w.alloc (.cells (mcells m (.slice A1 L1 C1) (.slice A2 L2 C2) (.slice A3 L3 C3)) 46)) (h.ms.later (below_al _ _)))
  have HR : Hid (longM m = (decide (16384 < L1) || decide (16384 < L2) || decide (16384 < L3) || m.ms.any longMat)) := by show longM m = _; rw [hL1, hL2, hL3]; rfl
  have l1 : L1 ≤ 9223372036854775807 := by rw [hL1]; have := h.ws.1; simpa [toI] using this
  have l2 : L2 ≤ 9223372036854775807 := by rw [hL2]; exact h.ms.1
  have l3 : L3 ≤ 9223372036854775807 := by rw [hL3]; have := h.ds.1; simpa [toI] using this
  obtain ⟨t, ht⟩ : ∃ t, t = m.ms.any longMat := ⟨_, rfl⟩
  rw [← ht] at HCF HR
  rw [HR.out]
  clear h hL1 hL2 hL3 ht HR
  unfold mcells at HCF ⊢
  by_cases b1 : 16384 < L1
  · have i1 : (16384 : Int) < (L1 : Int) := by omega
    have e1 : decide (16384 < L1) = true := decide_eq_true b1
    rw [e1]
    go_enter Tryd.func42, Tryd.ntmps42
    go_wp2_with fail
    go_ret
    exact ⟨rfl, below_al _ _⟩
  · have i1 : ¬ (16384 : Int) < (L1 : Int) := by omega
    have e1 : decide (16384 < L1) = false := decide_eq_false b1
    rw [e1]
    by_cases b2 : 16384 < L2
    · have i2 : (16384 : Int) < (L2 : Int) := by omega
      have e2 : decide (16384 < L2) = true := decide_eq_true b2
      rw [e2]
      go_enter Tryd.func42, Tryd.ntmps42
      go_wp2_with fail
      go_ret
      exact ⟨rfl, below_al _ _⟩
    · have i2 : ¬ (16384 : Int) < (L2 : Int) := by omega
      have e2 : decide (16384 < L2) = false := decide_eq_false b2
      rw [e2]
      by_cases b3 : 16384 < L3
      · have i3 : (16384 : Int) < (L3 : Int) := by omega
        have e3 : decide (16384 < L3) = true := decide_eq_true b3
        rw [e3]
        go_enter Tryd.func42, Tryd.ntmps42
        go_wp2_with fail
        go_ret
        exact ⟨rfl, below_al _ _⟩
      · have i3 : ¬ (16384 : Int) < (L3 : Int) := by omega
        have e3 : decide (16384 < L3) = false := decide_eq_false b3
        rw [e3]
        go_enter Tryd.func42, Tryd.ntmps42
        go_wp2_with (go_at_call 62; refine HCF.out.mono ?_; rintro e w1 ⟨rfl, hb1⟩; have HB1 := Lib.hid ((below_al _ _).trans (hb1.mono (by simp))); clear hb1)
        go_ret
        exact ⟨by cases t <;> rfl, HB1.out⟩

end Go.Proofs.YtakdfjkkeilffaaDoor
