/- A message is read: the walk. -/
import Derived.Test.YtakdfjkkeilffaaDoorQe
set_option linter.unusedVariables false
set_option linter.unusedSimpArgs false
namespace Go.Proofs.YtakdfjkkeilffaaDoor
open Go.RowKit

set_option maxRecDepth 100000 in
set_option maxHeartbeats 1600000 in
theorem decm_err (b : ByteArray) (a c : Nat) (w : World) (h : decR b = .error (a, c)) : Calls Tryd.prog 20 #[.string b] w (DecMPost w (.error (a, c))) := by
  obtain ⟨f1, f2, f3, f4⟩ := decW_facts w
  have HD : Hid (Calls Tryd.prog 27 #[.string b] (decW w) fun e w1 => e = .returned (.tuple #[.agg #[.int .i64 0, .int .u64 0, .string ⟨#[]⟩, .slice none 0 0], .agg #[.int .i64 (a : Nat), .int .i64 (c : Nat)]]) ∧ Below (decW w).heap.size (decW w) w1 ∧ c ≠ 0) := by
    have := decode_any b (decW w)
    rw [h] at this
    exact this.mono fun e w1 ⟨h1, h2, h3⟩ => ⟨h2, h1, h3⟩
  have F1 := Lib.hid f1
  have F2 := Lib.hid f2
  have F3 := Lib.hid f3
  have F4 := Lib.hid f4
  clear h f1 f2 f3 f4
  unfold decW zeroM at HD
  go_enter Tryd.func20, Tryd.ntmps20
  go_wp2_with (go_at_call 27; refine HD.out.mono ?_; rintro e w1 ⟨rfl, hb1, hc⟩; have HB1 : Hid (Below (decW w).heap.size (decW w) w1) := hb1; have HC := Lib.hid hc; have ht : (((c : Nat) : Int) == 0) = false := by { simp; omega }; clear hb1 hc)
  have hs1 := HB1.out.size
  rw [F2.out] at hs1
  obtain ⟨W4, hW4⟩ : ∃ W4, W4 = (w1.alloc (.cells #[.int .i64 0, .int .u64 0, .string ⟨#[]⟩, .slice none 0 0] 57)).alloc (.cells #[.int .i64 a, .int .i64 c] 31) := ⟨_, rfl⟩
  rw [← hW4]
  have hb4 : Below w1.heap.size w1 W4 := by rw [hW4]; exact al2' _ _ _
  have hz0 : W4.heap[w.heap.size]? = some (.cells zeroM 46 (0, 0)) := by
    rw [hb4.block _ (by omega), HB1.out.block _ (by rw [F2.out]; omega)]; exact F3.out
  have hz1 : W4.heap[w.heap.size + 1]? = some (.cells #[.int .i64 0, .int .i64 0] 31 (0, 0)) := by
    rw [hb4.block _ (by omega), HB1.out.block _ (by rw [F2.out]; omega)]; exact F4.out
  obtain ⟨⟨y0, y1, y2, y3, y4, y5, y6, y7, y8, y9, y10⟩, u0⟩ := zeroM_at hz0
  obtain ⟨y11, y12, u1⟩ := fault_at hz1
  have z6 : W4.cell? ⟨w1.heap.size + 1, 0, none⟩ = some (.int .i64 a) := by
    rw [hW4]; simp
  have z7 : W4.cell? ⟨w1.heap.size + 1, 1, none⟩ = some (.int .i64 c) := by
    rw [hW4]; simp
  have HB4 : Hid (Below w.heap.size w W4) := F1.out.trans ((below_then HB1.out hb4).mono (by rw [F2.out]; omega))
  have hs4 := hb4.size
  have k1 : w.heap.size ≠ w1.heap.size := by omega
  have k2 : w.heap.size ≠ w1.heap.size + 1 := by omega
  have k3 : w.heap.size + 1 ≠ w1.heap.size := by omega
  have k4 : w.heap.size + 1 ≠ w1.heap.size + 1 := by omega
  have HZ0 := Lib.hid hz0
  have HZ1 := Lib.hid hz1
  clear hz0 hz1 hW4
  go_region
  all_goals
    go_wp2_with fail
    exact fin_err rfl rfl HZ0.out HZ1.out HB4.out HC.out rfl



theorem dec_ok_at (b : ByteArray) (k : Int) (n : Nat) (s : ByteArray) (l : List It) (w : World) (h : decR b = .ok (.mk k n s l)) :
    Calls Tryd.prog 27 #[.string b] w fun e w1 => ∃ A c, e = .returned (.tuple #[.agg #[.int .i64 k, .int .u64 n, .string s, .slice A l.length c], .agg #[.int .i64 0, .int .i64 0]]) ∧ Below w.heap.size w w1 ∧ Holds w1 (.int .i64 k) (.int .u64 n) (.string s) (.slice A l.length c) (.mk k n s l) := by
  have := decode_any b w
  rw [h] at this
  refine this.mono ?_
  rintro e w1 ⟨h1, v0, v1, v2, v3, rfl, h3⟩
  have h4 := h3.holds
  cases h4 with
  | mk _ _ _ A c _ F hn hs hm hA hl => exact ⟨A, c, rfl, h1, .mk _ _ _ A c _ F hn hs hm hA hl⟩

/-- ahead of the first test: the world, its blocks -/
structure DMid (w w1 W : World) (k : Int) (n : Nat) (s : ByteArray) (A : Option Addr) (m c : Nat) : Prop where
  below : Below w.heap.size w W
  z0 : W.heap[w.heap.size]? = some (.cells zeroM 46 (0, 0))
  z1 : W.heap[w.heap.size + 1]? = some (.cells #[.int .i64 0, .int .i64 0] 31 (0, 0))
  xb : W.heap[w1.heap.size]? = some (.cells #[.int .i64 k, .int .u64 n, .string s, .slice A m c] 57 (0, 0))
  nb : W.heap[w1.heap.size + 1 + 1]? = some (.cells #[.int .i64 0, .int .i64 200] 31 (0, 0))
  lo : w.heap.size + 2 ≤ w1.heap.size
def midW (w1 : World) (k : Int) (n : Nat) (s : ByteArray) (A : Option Addr) (m c : Nat) : World :=
  (((w1.alloc (.cells #[.int .i64 k, .int .u64 n, .string s, .slice A m c] 57)).alloc (.cells #[.int .i64 0, .int .i64 0] 31)).alloc (.cells #[.int .i64 0, .int .i64 200] 31)).alloc (.cells zeroM 46)
theorem DMid.first {w w1 : World} (hb : Below (decW w).heap.size (decW w) w1) (k : Int) (n : Nat) (s : ByteArray) (A : Option Addr) (m c : Nat) :
    DMid w w1 (midW w1 k n s A m c) k n s A m c ∧ (midW w1 k n s A m c).heap[w1.heap.size + 1 + 1 + 1]? = some (.cells zeroM 46 (0, 0)) ∧ (midW w1 k n s A m c).heap.size = w1.heap.size + 4 ∧ Below w1.heap.size w1 (midW w1 k n s A m c) := by
  obtain ⟨f1, f2, f3, f4⟩ := decW_facts w
  have hs := hb.size
  rw [f2] at hs
  have e1 : (w1.alloc (.cells #[.int .i64 k, .int .u64 n, .string s, .slice A m c] 57)).heap.size = w1.heap.size + 1 := by simp
  have e2 : ((w1.alloc (.cells #[.int .i64 k, .int .u64 n, .string s, .slice A m c] 57)).alloc (.cells #[.int .i64 0, .int .i64 0] 31)).heap.size = w1.heap.size + 1 + 1 := by simp
  have e3 : (((w1.alloc (.cells #[.int .i64 k, .int .u64 n, .string s, .slice A m c] 57)).alloc (.cells #[.int .i64 0, .int .i64 0] 31)).alloc (.cells #[.int .i64 0, .int .i64 200] 31)).heap.size = w1.heap.size + 1 + 1 + 1 := by simp
  have hb4 : Below w1.heap.size w1 (midW w1 k n s A m c) := (((below_al _ _).alloc (by simp) _).alloc (by simp; omega) _).alloc (by simp; omega) _
  refine ⟨⟨f1.trans ((below_then hb hb4).mono (by omega)), ?_, ?_, ?_, ?_, hs⟩, ?_, by unfold midW; simp, hb4⟩
  · rw [hb4.block _ (by omega), hb.block _ (by omega)]; exact f3
  · rw [hb4.block _ (by omega), hb.block _ (by omega)]; exact f4
  · unfold midW
    rw [Below.heap_alloc _ _ _ (by omega), Below.heap_alloc _ _ _ (by omega), Below.heap_alloc _ _ _ (by omega)]; exact heap_alloc_new _ _
  · unfold midW
    rw [Below.heap_alloc _ _ _ (by omega), ← e2]; exact heap_alloc_new _ _
  · unfold midW
    rw [← e3]; exact heap_alloc_new _ _
/-- all but the message's block stay -/
theorem DMid.keep {w w1 W W2 : World} {k : Int} {n : Nat} {s : ByteArray} {A : Option Addr} {m c : Nat} (h : DMid w w1 W k n s A m c) (hg : W.grownBy W2 (some (w1.heap.size + 1 + 1 + 1))) : DMid w w1 W2 k n s A m c := by
  have h1 := h.lo
  have hk : ∀ g cs t, W.heap[g]? = some (.cells cs t (0, 0)) → g ≠ w1.heap.size + 1 + 1 + 1 → W2.heap[g]? = some (.cells cs t (0, 0)) := fun g cs t hg1 hne => (hg.block g (lt_of_block hg1) (by simpa using hne)).trans hg1
  refine ⟨⟨hg.os.trans h.below.os, hg.tape.trans h.below.tape, hg.output.trans h.below.output, Nat.le_trans h.below.size hg.size, fun g hg1 => ?_⟩, hk _ _ _ h.z0 (by omega), hk _ _ _ h.z1 (by omega), hk _ _ _ h.xb (by omega), hk _ _ _ h.nb (by omega), h1⟩
  rw [hg.block g (by have := h.below.size; omega) (by simp; omega)]; exact h.below.block g hg1
/-- it is none -/
theorem DMid.none {w w1 W W6 : World} {k : Int} {n : Nat} {s : ByteArray} {A : Option Addr} {m c : Nat} {tmps : Array Value} (h : DMid w w1 W k n s A m c) (h2 : tmps.getD 2 undef = .pointer (some ⟨w.heap.size, 0, none⟩)) (h3 : tmps.getD 3 undef = .pointer (some ⟨w.heap.size + 1, 0, none⟩))
    (h6 : W6 = (put13 W w.heap.size (.int .i64 0) (.int .i64 0) (.int .i64 0) (.int .i64 0) (.int .i64 0) (.int .i64 0) (.int .i64 0) (.int .i64 0) (.slice none 0 0) (.slice none 0 0) (.slice none 0 0) (.int .i64 0) (.int .i64 200)).drew) :
    bodyPost Tryd.prog Tryd.f20 (DecMPost w (.error (0, 200))) .ret ⟨tmps, []⟩ W6 :=
  fin_err (a := 0) (c := 200) h2 h3 h.z0 h.z1 h.below (by decide) h6

set_option maxRecDepth 100000 in
set_option maxHeartbeats 1600000 in
theorem decm_bad (b : ByteArray) (k : Int) (n : Nat) (s : ByteArray) (l : List It) (w : World) (h : decR b = .ok (.mk k n s l)) (hbad : k ≠ 3 ∨ k = 3 ∧ l.length = 0) : Calls Tryd.prog 20 #[.string b] w (DecMPost w (.error (0, 200))) := by
  have HD := Lib.hid (dec_ok_at b k n s l (decW w) h)
  obtain ⟨m, hm⟩ : ∃ m, m = l.length := ⟨_, rfl⟩
  rw [← hm] at HD hbad
  have HF := Lib.hid (fun w1 hb => DMid.first (w := w) (w1 := w1) hb)
  clear h hm
  unfold decW zeroM at HD
  rcases hbad with hk | ⟨rfl, rfl⟩
  · have hb1 : (k != 3) = true := by simp [hk]
    clear hk
    go_enter Tryd.func20, Tryd.ntmps20
    go_upto_region 6 with (go_at_call 27; refine HD.out.mono ?_; rintro e w1 ⟨A, c, rfl, hb1, hx⟩; have HM := Lib.hid (HF.out _ hb1 k n s A m c); clear hb1 hx)
    obtain ⟨W6, hW6⟩ : ∃ W6, W6 = midW w1 k n s A m c := ⟨_, rfl⟩
    rw [← hW6] at HM
    unfold midW zeroM at hW6
    rw [← hW6]
    clear hW6
    obtain ⟨x0, x1, x2, x3⟩ := item_at HM.out.1.xb
    obtain ⟨n0, n1, _⟩ := fault_at HM.out.1.nb
    obtain ⟨⟨y0, y1, y2, y3, y4, y5, y6, y7, y8, y9, y10⟩, u0⟩ := zeroM_at HM.out.1.z0
    obtain ⟨y11, y12, u1⟩ := fault_at HM.out.1.z1
    have hlo := HM.out.1.lo
    have k1 : w.heap.size ≠ w1.heap.size := by omega
    have k2 : w.heap.size ≠ w1.heap.size + 1 + 1 := by omega
    have k3 : w.heap.size + 1 ≠ w1.heap.size := by omega
    have k4 : w.heap.size + 1 ≠ w1.heap.size + 1 + 1 := by omega
    go_wp2_with fail
    go_region
    all_goals
      go_wp2_with fail
      exact HM.out.1.none rfl rfl rfl
  · go_enter Tryd.func20, Tryd.ntmps20
    go_upto_region 6 with (go_at_call 27; refine HD.out.mono ?_; rintro e w1 ⟨A, c, rfl, hb1, hx⟩; have HM := Lib.hid (HF.out _ hb1 3 n s A 0 c); clear hb1 hx)
    obtain ⟨W6, hW6⟩ : ∃ W6, W6 = midW w1 3 n s A 0 c := ⟨_, rfl⟩
    rw [← hW6] at HM
    unfold midW zeroM at hW6
    rw [← hW6]
    clear hW6
    obtain ⟨x0, x1, x2, x3⟩ := item_at HM.out.1.xb
    obtain ⟨n0, n1, _⟩ := fault_at HM.out.1.nb
    obtain ⟨⟨y0, y1, y2, y3, y4, y5, y6, y7, y8, y9, y10⟩, u0⟩ := zeroM_at HM.out.1.z0
    obtain ⟨y11, y12, u1⟩ := fault_at HM.out.1.z1
    have hlo := HM.out.1.lo
    have k1 : w.heap.size ≠ w1.heap.size := by omega
    have k2 : w.heap.size ≠ w1.heap.size + 1 + 1 := by omega
    have k3 : w.heap.size + 1 ≠ w1.heap.size := by omega
    have k4 : w.heap.size + 1 ≠ w1.heap.size + 1 + 1 := by omega
    go_wp2_with fail
    go_region
    all_goals
      go_wp2_with fail
      exact HM.out.1.none rfl rfl rfl

end Go.Proofs.YtakdfjkkeilffaaDoor
