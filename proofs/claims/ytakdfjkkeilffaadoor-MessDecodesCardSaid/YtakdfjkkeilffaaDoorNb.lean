/- Lists of numbers are compared; matrices; messages. -/
import Derived.Test.YtakdfjkkeilffaaDoorMd
set_option linter.unusedVariables false
set_option linter.unusedSimpArgs false
namespace Go.Proofs.YtakdfjkkeilffaaDoor
open Go.RowKit

set_option maxRecDepth 100000 in
set_option maxHeartbeats 1600000 in
theorem same39_any (v1 v2 : Value) (l1 l2 : List Int) (w : World) (h1 : Nums w .u32 v1 l1) (h2 : Nums w .u32 v2 l2) : Calls Tryd.prog 39 #[v1, v2] w fun e w' => e = .returned (.bool (decide (l1 = l2))) ∧ Below w.heap.size w w' := by
  obtain ⟨hl1, A1, c1, rfl, hA1⟩ := h1
  obtain ⟨hl2, A2, c2, rfl, hA2⟩ := h2
  by_cases hlen : l1.length = l2.length
  · obtain ⟨n, hn⟩ : ∃ n, n = l1.length := ⟨_, rfl⟩
    have hn2 : l2.length = n := by omega
    have HA1 := Lib.hid hA1
    have HA2 := Lib.hid hA2
    clear hA1 hA2
    rw [hn2] at hl2
    rw [← hn] at hl1
    rw [hn2, ← hn]
    have HN := Lib.hid hn
    have HN2 := Lib.hid hn2
    clear hn hn2 hlen
    go_enter Tryd.func39, Tryd.ntmps39
    go_wp2
    go_loopw [5] (fun i wr => ∃ k : Nat, k ≤ n ∧ i = .int .i64 k ∧ Hid (l1.take k = l2.take k) ∧ Hid (Below w.heap.size w wr)) (fun i _ => n - (intOf i).toNat)
    case atStart => exact ⟨0, by omega, rfl, by show _ = _; simp, Below.refl _ _⟩
    case round =>
      obtain ⟨k, hk, rfl, HT, HB⟩ := hrel
      obtain ⟨wo, rfl⟩ : ∃ wo : World, wo = wr := ⟨_, rfl⟩
      by_cases hlt : k < n
      · have hk1 : k < l1.length := by have := HN.out; omega
        have hk2 : k < l2.length := by have := HN2.out; omega
        obtain ⟨g1, o1, rfl, hc1⟩ := HA1.out (by omega)
        obtain ⟨g2, o2, rfl, hc2⟩ := HA2.out (by omega)
        have d1 := hc1 k hk1
        have d2 := hc2 k hk2
        replace d1 := (HB.out.cell (World.block_lt_of_cell? w _ d1)).trans d1
        replace d2 := (HB.out.cell (World.block_lt_of_cell? w _ d2)).trans d2
        obtain ⟨x1, hx1⟩ : ∃ x1, x1 = l1[k] := ⟨_, rfl⟩
        obtain ⟨x2, hx2⟩ : ∃ x2, x2 = l2[k] := ⟨_, rfl⟩
        rw [← hx1] at d1
        rw [← hx2] at d2
        by_cases hx : x1 = x2
        · have HT2 : Hid (l1.take (k + 1) = l2.take (k + 1)) := by
            show _ = _
            rw [List.take_succ_eq_append_getElem hk1, List.take_succ_eq_append_getElem hk2, HT.out, ← hx1, ← hx2, hx]
          have hb1 : (x1 != x2) = false := by rw [hx]; simp
          clear hc1 hc2 hx hx1 hx2 hk1 hk2
          go_wp2_with fail
          go_quiet (fail)
          go_wp2_with fail
          go_roundw
          case rel => exact ⟨k + 1, by omega, by go_num, HT2.out, below_drewN HB.out _⟩
          case measure => simp [intOf]; omega
        · have HNE : Hid (decide (l1 = l2) = false) := by
            show _ = _
            refine decide_eq_false fun h => hx ?_
            rw [hx1, hx2]
            simp only [h]
          have hb1 : (x1 != x2) = true := by simp [hx]
          clear hc1 hc2 hx hx1 hx2 hk1 hk2
          go_wp2_with fail
          go_quiet (fail)
          go_wp2_with fail
          go_ret
          exact ⟨by rw [HNE.out]; rfl, below_drewN HB.out _⟩
      · obtain rfl : k = n := by omega
        go_wp2_with fail
        go_ret
        refine ⟨?_, HB.out⟩
        have h := HT.out
        rw [List.take_of_length_le (by have := HN.out; omega), List.take_of_length_le (by have := HN2.out; omega)] at h
        rw [decide_eq_true h]; rfl
  · have HNE : Hid (decide (l1 = l2) = false) := by
      show _ = _
      refine decide_eq_false fun h => hlen (by rw [h])
    have hb1 : (((l1.length : Nat) : Int) == ((l2.length : Nat) : Int)) = false := by simp; omega
    have hb2 : (((l1.length : Nat) : Int) != ((l2.length : Nat) : Int)) = true := by simp; omega
    clear hA1 hA2 hlen
    go_enter Tryd.func39, Tryd.ntmps39
    go_wp2_with fail
    go_ret
    exact ⟨by rw [HNE.out]; rfl, Below.refl _ _⟩

set_option maxRecDepth 100000 in
set_option maxHeartbeats 1600000 in
theorem same41_any (v1 v2 : Value) (l1 l2 : List Int) (w : World) (h1 : Nums w .u64 v1 l1) (h2 : Nums w .u64 v2 l2) : Calls Tryd.prog 41 #[v1, v2] w fun e w' => e = .returned (.bool (decide (l1 = l2))) ∧ Below w.heap.size w w' := by
  obtain ⟨hl1, A1, c1, rfl, hA1⟩ := h1
  obtain ⟨hl2, A2, c2, rfl, hA2⟩ := h2
  by_cases hlen : l1.length = l2.length
  · obtain ⟨n, hn⟩ : ∃ n, n = l1.length := ⟨_, rfl⟩
    have hn2 : l2.length = n := by omega
    have HA1 := Lib.hid hA1
    have HA2 := Lib.hid hA2
    clear hA1 hA2
    rw [hn2] at hl2
    rw [← hn] at hl1
    rw [hn2, ← hn]
    have HN := Lib.hid hn
    have HN2 := Lib.hid hn2
    clear hn hn2 hlen
    go_enter Tryd.func41, Tryd.ntmps41
    go_wp2
    go_loopw [5] (fun i wr => ∃ k : Nat, k ≤ n ∧ i = .int .i64 k ∧ Hid (l1.take k = l2.take k) ∧ Hid (Below w.heap.size w wr)) (fun i _ => n - (intOf i).toNat)
    case atStart => exact ⟨0, by omega, rfl, by show _ = _; simp, Below.refl _ _⟩
    case round =>
      obtain ⟨k, hk, rfl, HT, HB⟩ := hrel
      obtain ⟨wo, rfl⟩ : ∃ wo : World, wo = wr := ⟨_, rfl⟩
      by_cases hlt : k < n
      · have hk1 : k < l1.length := by have := HN.out; omega
        have hk2 : k < l2.length := by have := HN2.out; omega
        obtain ⟨g1, o1, rfl, hc1⟩ := HA1.out (by omega)
        obtain ⟨g2, o2, rfl, hc2⟩ := HA2.out (by omega)
        have d1 := hc1 k hk1
        have d2 := hc2 k hk2
        replace d1 := (HB.out.cell (World.block_lt_of_cell? w _ d1)).trans d1
        replace d2 := (HB.out.cell (World.block_lt_of_cell? w _ d2)).trans d2
        obtain ⟨x1, hx1⟩ : ∃ x1, x1 = l1[k] := ⟨_, rfl⟩
        obtain ⟨x2, hx2⟩ : ∃ x2, x2 = l2[k] := ⟨_, rfl⟩
        rw [← hx1] at d1
        rw [← hx2] at d2
        by_cases hx : x1 = x2
        · have HT2 : Hid (l1.take (k + 1) = l2.take (k + 1)) := by
            show _ = _
            rw [List.take_succ_eq_append_getElem hk1, List.take_succ_eq_append_getElem hk2, HT.out, ← hx1, ← hx2, hx]
          have hb1 : (x1 != x2) = false := by rw [hx]; simp
          clear hc1 hc2 hx hx1 hx2 hk1 hk2
          go_wp2_with fail
          go_quiet (fail)
          go_wp2_with fail
          go_roundw
          case rel => exact ⟨k + 1, by omega, by go_num, HT2.out, below_drewN HB.out _⟩
          case measure => simp [intOf]; omega
        · have HNE : Hid (decide (l1 = l2) = false) := by
            show _ = _
            refine decide_eq_false fun h => hx ?_
            rw [hx1, hx2]
            simp only [h]
          have hb1 : (x1 != x2) = true := by simp [hx]
          clear hc1 hc2 hx hx1 hx2 hk1 hk2
          go_wp2_with fail
          go_quiet (fail)
          go_wp2_with fail
          go_ret
          exact ⟨by rw [HNE.out]; rfl, below_drewN HB.out _⟩
      · obtain rfl : k = n := by omega
        go_wp2_with fail
        go_ret
        refine ⟨?_, HB.out⟩
        have h := HT.out
        rw [List.take_of_length_le (by have := HN.out; omega), List.take_of_length_le (by have := HN2.out; omega)] at h
        rw [decide_eq_true h]; rfl
  · have HNE : Hid (decide (l1 = l2) = false) := by
      show _ = _
      refine decide_eq_false fun h => hlen (by rw [h])
    have hb1 : (((l1.length : Nat) : Int) == ((l2.length : Nat) : Int)) = false := by simp; omega
    have hb2 : (((l1.length : Nat) : Int) != ((l2.length : Nat) : Int)) = true := by simp; omega
    clear hA1 hA2 hlen
    go_enter Tryd.func41, Tryd.ntmps41
    go_wp2_with fail
    go_ret
    exact ⟨by rw [HNE.out]; rfl, Below.refl _ _⟩

end Go.Proofs.YtakdfjkkeilffaaDoor
