/- Encode. -/
import Derived.Test.YtakdfjkkeilffaaDoorE
import Derived.Laws.BytesArg
set_option linter.unusedVariables false
set_option linter.unusedSimpArgs false
namespace Go.Proofs.YtakdfjkkeilffaaDoor
open Go.RowKit

/-- a text of these bytes -/
def ofN (l : List Nat) : ByteArray := ⟨(l.map UInt8.ofNat).toArray⟩
theorem ofN_nums (l : List Nat) : strOfNums (l.map fun n => ((n : Nat) : Int)) = ofN l := by
  unfold strOfNums ofN
  rw [List.map_map]
  congr 1

/-- what Encode tells -/
def encR (x : It) : ByteArray × Nat := if look 8 x ≠ 0 then (⟨#[]⟩, look 8 x) else if 262144 < (enc 8 x).length then (⟨#[]⟩, 2) else (ofN (enc 8 x), 0)

theorem row_text {w : World} {base : Nat} {v : Value} {ys : List Nat} (h : w.ownsRow base 5 1 v ys.length (bcells ys)) (hpos : 0 < ys.length) :
    (convert 23 9 v).run Tryd.prog w = .ok (.string (ofN ys)) w := by
  rcases h.2 with ⟨_, h0⟩ | ⟨g, cap, cur, rfl, _⟩
  · omega
  · rw [← ofN_nums]
    refine run_convert_bytes_arg w 23 5 t23 (by kernel_rfl) g 0 ys.length cap _ (by simp) (fun i hi => ?_) 9 t9
    have := h.cellAt i (by omega)
    rw [Nat.zero_add, this]
    simp [bcells, hi]

theorem enc_pos (f : Nat) (x : It) : 0 < (enc (f + 1) x).length := by
  cases x
  simp only [enc]
  split
  · simp
  · split <;> simp

set_option maxRecDepth 100000 in
set_option maxHeartbeats 1600000 in
theorem encode_any (v0 v1 v2 v3 : Value) (x : It) (w : World) (hx : Holds w v0 v1 v2 v3 x) (hsh : short 8 x) :
    Calls Tryd.prog 28 #[.agg #[v0, v1, v2, v3]] w fun e w' => e = .returned (.tuple #[.string (encR x).1, .int .i64 ((encR x).2 : Nat)]) ∧ Below w.heap.size w w' := by
  obtain ⟨k, n, s, A, m, c, rfl, rfl, rfl, rfl⟩ := hx.shape
  obtain ⟨W1, hW1⟩ : ∃ W1, W1 = w.alloc (.cells #[.int .i64 k, .int .u64 n, .string s, .slice A m c] 57) := ⟨_, rfl⟩
  have hb1 : Below w.heap.size w W1 := by rw [hW1]; exact below_al _ _
  have hN : W1.heap[w.heap.size]? = some (.cells #[.int .i64 k, .int .u64 n, .string s, .slice A m c] 57 (0, 0)) := by rw [hW1]; exact heap_alloc_new _ _
  have HL := Lib.hid (looked_any 8 1 _ _ _ _ x W1 (by omega) (by omega) (hx.later hb1))
  have HW1 := Lib.hid hW1
  have HX := Lib.hid hx
  have HSH := Lib.hid hsh
  have HB1 := Lib.hid hb1
  have HN := Lib.hid hN
  clear hW1 hx hsh hb1 hN
  by_cases hz : look 8 x = 0
  · have hz2 : (((look 8 x : Nat) : Int) != 0) = false := by rw [hz]; rfl
    have HZ := Lib.hid hz
    clear hz
    go_enter Tryd.func28, Tryd.ntmps28
    go_wp2_with (first
      | (go_at_call 47; rw [← HW1.out]; refine HL.out.mono ?_; rintro e w2 ⟨rfl, hb2⟩; have hN2 := (hb2.block _ (lt_of_block HN.out)).trans HN.out; have d0 := cell_of_row w2 w.heap.size 0 _ _ _ hN2; have d1 := cell_of_row w2 w.heap.size 1 _ _ _ hN2; have d2 := cell_of_row w2 w.heap.size 2 _ _ _ hN2; have d3 := cell_of_row w2 w.heap.size 3 _ _ _ hN2; have hlt2 := lt_of_block hN2; simp only [List.getElem?_toArray, List.getElem?_cons_zero, List.getElem?_cons_succ] at d0 d1 d2 d3; have HB2 := Lib.hid hb2; clear hb2 hN2)
      | (go_at_call 48; refine (item_any 8 _ _ _ _ x w2 (w2.alloc (.cells #[.slice none 0 0] 91)) (w2.heap.size + 1) w2.heap.size (.slice none 0 0) [] HZ.out HSH.out (HX.out.later (below_then HB1.out HB2.out)) (below_al _ _) (Nat.le_refl _) (Nat.lt_succ_self _) (by simp) (heap_alloc_new _ _) (World.ownsRow_nil _ _ _ _) (by simp)).mono ?_; rintro e w3 ⟨rfl, v3, ys, hw3, hr3, hk3, hwp⟩; have HW3 := Lib.hid hw3; have HR3 := Lib.hid hr3; have HK3 := Lib.hid hk3; have HWP := Lib.hid hwp; have HFULL := Lib.hid (full_any w2.heap.size v3 ys.length (w2.heap.size + 1) (bcells ys) w3 hw3 hr3); have d4 := wcell hw3; clear hw3 hr3 hk3 hwp))
    have HBE : Hid (Below w.heap.size w w3) := by
      refine below_then HB1.out (below_then HB2.out ?_)
      exact Keep.to_below (below_al _ _) HK3.out (Nat.le_refl _) (Nat.lt_succ_self _) (by simp)
    by_cases hbig : 262144 < ys.length
    · have HE : Hid (encR x = (⟨#[]⟩, 2)) := by
        show encR x = _
        unfold encR
        rw [if_neg (by have := HZ.out; omega), if_pos]
        rcases HWP.out.1 with e | ⟨_, e⟩
        · simp at e; rw [← e]; exact hbig
        · simpa using e
      go_wp2_with (go_at_call 49; refine HFULL.out.mono ?_; rintro e w4 ⟨rfl, rfl⟩)
      go_ret2
      rw [HE.out]
      exact ⟨rfl, HBE.out⟩
    · have hys : ys = enc 8 x := by
        rcases HWP.out.1 with e | ⟨e, _⟩
        · simpa using e
        · omega
      have HE : Hid (encR x = (ofN ys, 0)) := by
        show encR x = _
        unfold encR
        rw [if_neg (by have := HZ.out; omega), if_neg (by rw [← hys]; exact hbig), hys]
      have hcv := row_text HR3.out (by rw [hys]; exact enc_pos _ _)
      clear hys
      go_wp2_with (go_at_call 49; refine HFULL.out.mono ?_; rintro e w4 ⟨rfl, rfl⟩)
      go_ret2
      rw [HE.out]
      exact ⟨rfl, HBE.out⟩
  · have hz2 : (((look 8 x : Nat) : Int) != 0) = true := by simp; omega
    have HE : Hid (encR x = (⟨#[]⟩, look 8 x)) := by show encR x = _; unfold encR; rw [if_pos hz]
    have HZ := Lib.hid hz
    clear hz
    go_enter Tryd.func28, Tryd.ntmps28
    go_wp2_with (go_at_call 47; rw [← HW1.out]; refine HL.out.mono ?_; rintro e w2 ⟨rfl, hb2⟩; have HB2 := Lib.hid hb2; clear hb2)
    go_ret2
    rw [HE.out]
    exact ⟨rfl, below_then HB1.out HB2.out⟩

end Go.Proofs.YtakdfjkkeilffaaDoor
