/- Decode. -/
import Derived.Test.YtakdfjkkeilffaaDoorM
set_option linter.unusedVariables false
set_option linter.unusedSimpArgs false
namespace Go.Proofs.YtakdfjkkeilffaaDoor
open Go.RowKit

/-- what Decode tells -/
def decR (b : ByteArray) : Except (Nat × Nat) It :=
  if 262144 < b.size then .error (0, 2)
  else match ps 8 b 0 with
    | .error e => .error e
    | .ok (x, q) => if q < b.size then .error (q, 24) else .ok x

def DecPost (w : World) (r : Except (Nat × Nat) It) (e : Ending) (w' : World) : Prop :=
  Below w.heap.size w w' ∧ match r with
  | .error (a, c) => e = .returned (.tuple #[zeroItem, .agg #[.int .i64 (a : Nat), .int .i64 (c : Nat)]]) ∧ c ≠ 0
  | .ok x => ∃ v0 v1 v2 v3, e = .returned (.tuple #[.agg #[v0, v1, v2, v3], .agg #[.int .i64 0, .int .i64 0]]) ∧ HoldsP (fun g => w.heap.size ≤ g ∧ g < w'.heap.size) w' v0 v1 v2 v3 x

theorem psMany_code (rd : Nat → Except (Nat × Nat) (It × Nat)) (h : ∀ p a c, rd p = .error (a, c) → c ≠ 0) : ∀ m p a c, psMany rd m p = .error (a, c) → c ≠ 0 := by
  intro m
  induction m with
  | zero => intro p a c e; simp [psMany] at e
  | succ m ih =>
    intro p a c e
    simp only [psMany] at e
    cases hr : rd p with
    | error ac =>
      rw [hr] at e
      simp at e
      exact h p a c (by rw [hr, e])
    | ok xq =>
      obtain ⟨x, q⟩ := xq
      rw [hr] at e
      simp only at e
      cases hm : psMany rd m q with
      | error ac =>
        rw [hm] at e
        simp at e
        exact ih q a c (by rw [hm, e])
      | ok lq => rw [hm] at e; simp at e
theorem ps_code (f : Nat) : ∀ b p a c, ps f b p = .error (a, c) → c ≠ 0 := by
  induction f with
  | zero => intro b p a c h; simp [ps] at h; omega
  | succ f ih =>
    intro b p a c h
    simp only [ps] at h
    split at h
    · simp at h; omega
    · split at h
      · simp at h; omega
      · split at h
        · rename_i hc
          simp at h
          rw [← h.2]; exact hc
        · split at h
          · simp at h
          · split at h
            · split at h
              · simp at h; omega
              · simp at h
            · split at h
              · simp at h; omega
              · split at h
                · rename_i hm
                  simp at h
                  exact psMany_code (ps f b) (fun p a c => ih b p a c) _ _ a c (by rw [hm, h])
                · simp at h

set_option maxRecDepth 100000 in
set_option maxHeartbeats 1600000 in
theorem decode_long (b : ByteArray) (w : World) (hb : 262144 < b.size) : Calls Tryd.prog 27 #[.string b] w (DecPost w (.error (0, 2))) := by
  have hbl : (262144 : Int) < (b.size : Int) := by omega
  go_enter Tryd.func27, Tryd.ntmps27
  go_wp2_with fail
  exact bodyPost_ret (v := .tuple #[zeroItem, .agg #[.int .i64 (0 : Nat), .int .i64 (2 : Nat)]]) (by simp [results, Tryd.results27, go_sem, zeroItem]) rfl ⟨(below_al _ _).alloc (by simp) _, rfl, by decide⟩

set_option maxRecDepth 100000 in
set_option maxHeartbeats 1600000 in
theorem decode_read (b : ByteArray) (x : It) (q : Nat) (w : World) (hb : b.size ≤ 262144)
    (hrd : ∀ (rb : Nat) (w : World), w.heap[rb]? = some (.cells (readCells b (0 : Nat)) 86 (0, 0)) → Calls Tryd.prog 46 #[.pointer (some ⟨rb, 0, none⟩), .int .i64 1] w (RdPost rb b w (.ok (x, q)))) :
    Calls Tryd.prog 27 #[.string b] w (DecPost w (if q < b.size then .error (q, 24) else .ok x)) := by
  have HRD := Lib.hid (hrd (w.heap.size + 1 + 1) _ (rd_world (b := b) w Z57 Z31))
  clear hrd
  have hbl : ¬ 262144 < (b.size : Int) := by omega
  by_cases hq : q < b.size
  · rw [if_pos hq]
    have hqi : (q : Int) < (b.size : Int) := by omega
    go_enter Tryd.func27, Tryd.ntmps27
    go_upto_region 5 with (go_at_call 46; refine HRD.out.mono ?_; rintro e w1 ⟨hg, v0, v1, v2, v3, rfl, hx, hw1, hqb⟩; obtain ⟨xk, xn, xt, xA, xm, xc, rfl, rfl, rfl, rfl⟩ := hx.shape; have HX := Lib.hid hx; have HG := Lib.hid hg; have HW1 := Lib.hid hw1; have hs1 : w.heap.size + 3 ≤ w1.heap.size := (by have := hg.size; simpa [Z57, Z31] using this); have HB1 := Lib.hid (((((Below.refl w.heap.size w).alloc (Nat.le_refl _) Z57).alloc (by simp) Z31).alloc (by simp; omega) (.cells (readCells b 0) 86)).grown hg (by simp; omega) (by simp; omega)); have hz0 := (hg.block w.heap.size (by simp [Z57, Z31]; omega) (by simp; omega)).trans (rd_outs w).1; have hz1 := (hg.block (w.heap.size + 1) (by simp [Z57, Z31]) (by simp)).trans (rd_outs w).2; have HZ0 := Lib.hid hz0; have HZ1 := Lib.hid hz1; clear hg hw1 hx hz0 hz1)
    obtain ⟨W4, hW4⟩ : ∃ W4, W4 = (w1.alloc (.cells #[.int .i64 xk, .int .u64 xn, .string xt, .slice xA xm xc] 57)).alloc (.cells #[.int .i64 0, .int .i64 0] 31) := ⟨_, rfl⟩
    rw [← hW4]
    have old : ∀ k, k < w1.heap.size → W4.heap[k]? = w1.heap[k]? := fun k hk => by
      rw [hW4, Below.heap_alloc _ _ _ (by simp; omega), Below.heap_alloc _ _ _ hk]
    have hz0 := (old w.heap.size (by omega)).trans HZ0.out
    have hz1 := (old (w.heap.size + 1) (by omega)).trans HZ1.out
    have hz2 := (old (w.heap.size + 1 + 1) (by omega)).trans HW1.out
    have hz3 : W4.heap[w1.heap.size]? = some (.cells #[.int .i64 xk, .int .u64 xn, .string xt, .slice xA xm xc] 57 (0, 0)) := by
      rw [hW4, Below.heap_alloc _ _ _ (by simp)]; exact heap_alloc_new _ _
    have hz4 : W4.heap[w1.heap.size + 1]? = some (.cells #[.int .i64 0, .int .i64 0] 31 (0, 0)) := by
      have e : (w1.alloc (.cells #[.int .i64 xk, .int .u64 xn, .string xt, .slice xA xm xc] 57)).heap.size = w1.heap.size + 1 := by simp
      rw [hW4, ← e]; exact heap_alloc_new _ _
    have HX4 : Hid (HoldsP (fun g => w.heap.size + 3 ≤ g ∧ g < w1.heap.size) W4 (.int .i64 xk) (.int .u64 xn) (.string xt) (.slice xA xm xc) x) :=
      HX.out.keep (fun g hg => by simp [Z57, Z31] at hg; omega) (fun g hg => old g hg.2)
    have HB4 : Hid (Below w.heap.size w W4) := by
      show Below _ _ _
      rw [hW4]
      exact (HB1.out.alloc (by omega) _).alloc (by simp; omega) _
    have hs4 : w1.heap.size + 2 ≤ W4.heap.size := by rw [hW4]; simp
    have y0 := cell_of_row W4 w.heap.size 0 _ _ _ hz0
    have y1 := cell_of_row W4 w.heap.size 1 _ _ _ hz0
    have y2 := cell_of_row W4 w.heap.size 2 _ _ _ hz0
    have y3 := cell_of_row W4 w.heap.size 3 _ _ _ hz0
    have y4 := cell_of_row W4 (w.heap.size + 1) 0 _ _ _ hz1
    have y5 := cell_of_row W4 (w.heap.size + 1) 1 _ _ _ hz1
    have y6 := cell_of_row W4 (w.heap.size + 1 + 1) 1 _ _ _ hz2
    have x0 := cell_of_row W4 w1.heap.size 0 _ _ _ hz3
    have x1 := cell_of_row W4 w1.heap.size 1 _ _ _ hz3
    have x2 := cell_of_row W4 w1.heap.size 2 _ _ _ hz3
    have x3 := cell_of_row W4 w1.heap.size 3 _ _ _ hz3
    have t0 := cell_of_row W4 (w1.heap.size + 1) 0 _ _ _ hz4
    have t1 := cell_of_row W4 (w1.heap.size + 1) 1 _ _ _ hz4
    have u0 : ∀ j, W4.frozen? ⟨w.heap.size, j, none⟩ = false := fun j => by simp only [World.frozen?, hz0]; rfl
    have u1 : ∀ j, W4.frozen? ⟨w.heap.size + 1, j, none⟩ = false := fun j => by simp only [World.frozen?, hz1]; rfl
    unfold readCells at y6
    simp only [List.getElem?_toArray, List.getElem?_cons_zero, List.getElem?_cons_succ] at y0 y1 y2 y3 y4 y5 y6 x0 x1 x2 x3 t0 t1
    have k1 : w.heap.size ≠ w1.heap.size := by omega
    have k2 : w.heap.size + 1 ≠ w1.heap.size := by omega
    clear hz0 hz1 hz2 hz3 hz4 hW4 old
    go_wp2_with fail
    go_region
    all_goals
      go_wp2_with fail
      refine bodyPost_ret (v := .tuple #[zeroItem, .agg #[.int .i64 (q : Nat), .int .i64 (24 : Nat)]]) (by simp [results, Tryd.results27, go_sem, zeroItem, y0, y1, y2, y3, y4, y5]) rfl ⟨?_, rfl, by decide⟩
      repeat (first | refine Below.setCell ?_ (by simp; try omega) _ | refine Below.drew ?_)
      exact HB4.out
  · rw [if_neg hq]
    have hqi : ¬ (q : Int) < (b.size : Int) := by omega
    go_enter Tryd.func27, Tryd.ntmps27
    go_upto_region 5 with (go_at_call 46; refine HRD.out.mono ?_; rintro e w1 ⟨hg, v0, v1, v2, v3, rfl, hx, hw1, hqb⟩; obtain ⟨xk, xn, xt, xA, xm, xc, rfl, rfl, rfl, rfl⟩ := hx.shape; have HX := Lib.hid hx; have HG := Lib.hid hg; have HW1 := Lib.hid hw1; have hs1 : w.heap.size + 3 ≤ w1.heap.size := (by have := hg.size; simpa [Z57, Z31] using this); have HB1 := Lib.hid (((((Below.refl w.heap.size w).alloc (Nat.le_refl _) Z57).alloc (by simp) Z31).alloc (by simp; omega) (.cells (readCells b 0) 86)).grown hg (by simp; omega) (by simp; omega)); have hz0 := (hg.block w.heap.size (by simp [Z57, Z31]; omega) (by simp; omega)).trans (rd_outs w).1; have hz1 := (hg.block (w.heap.size + 1) (by simp [Z57, Z31]) (by simp)).trans (rd_outs w).2; have HZ0 := Lib.hid hz0; have HZ1 := Lib.hid hz1; clear hg hw1 hx hz0 hz1)
    obtain ⟨W4, hW4⟩ : ∃ W4, W4 = (w1.alloc (.cells #[.int .i64 xk, .int .u64 xn, .string xt, .slice xA xm xc] 57)).alloc (.cells #[.int .i64 0, .int .i64 0] 31) := ⟨_, rfl⟩
    rw [← hW4]
    have old : ∀ k, k < w1.heap.size → W4.heap[k]? = w1.heap[k]? := fun k hk => by
      rw [hW4, Below.heap_alloc _ _ _ (by simp; omega), Below.heap_alloc _ _ _ hk]
    have hz0 := (old w.heap.size (by omega)).trans HZ0.out
    have hz1 := (old (w.heap.size + 1) (by omega)).trans HZ1.out
    have hz2 := (old (w.heap.size + 1 + 1) (by omega)).trans HW1.out
    have hz3 : W4.heap[w1.heap.size]? = some (.cells #[.int .i64 xk, .int .u64 xn, .string xt, .slice xA xm xc] 57 (0, 0)) := by
      rw [hW4, Below.heap_alloc _ _ _ (by simp)]; exact heap_alloc_new _ _
    have hz4 : W4.heap[w1.heap.size + 1]? = some (.cells #[.int .i64 0, .int .i64 0] 31 (0, 0)) := by
      have e : (w1.alloc (.cells #[.int .i64 xk, .int .u64 xn, .string xt, .slice xA xm xc] 57)).heap.size = w1.heap.size + 1 := by simp
      rw [hW4, ← e]; exact heap_alloc_new _ _
    have HX4 : Hid (HoldsP (fun g => w.heap.size + 3 ≤ g ∧ g < w1.heap.size) W4 (.int .i64 xk) (.int .u64 xn) (.string xt) (.slice xA xm xc) x) :=
      HX.out.keep (fun g hg => by simp [Z57, Z31] at hg; omega) (fun g hg => old g hg.2)
    have HB4 : Hid (Below w.heap.size w W4) := by
      show Below _ _ _
      rw [hW4]
      exact (HB1.out.alloc (by omega) _).alloc (by simp; omega) _
    have hs4 : w1.heap.size + 2 ≤ W4.heap.size := by rw [hW4]; simp
    have y0 := cell_of_row W4 w.heap.size 0 _ _ _ hz0
    have y1 := cell_of_row W4 w.heap.size 1 _ _ _ hz0
    have y2 := cell_of_row W4 w.heap.size 2 _ _ _ hz0
    have y3 := cell_of_row W4 w.heap.size 3 _ _ _ hz0
    have y4 := cell_of_row W4 (w.heap.size + 1) 0 _ _ _ hz1
    have y5 := cell_of_row W4 (w.heap.size + 1) 1 _ _ _ hz1
    have y6 := cell_of_row W4 (w.heap.size + 1 + 1) 1 _ _ _ hz2
    have x0 := cell_of_row W4 w1.heap.size 0 _ _ _ hz3
    have x1 := cell_of_row W4 w1.heap.size 1 _ _ _ hz3
    have x2 := cell_of_row W4 w1.heap.size 2 _ _ _ hz3
    have x3 := cell_of_row W4 w1.heap.size 3 _ _ _ hz3
    have t0 := cell_of_row W4 (w1.heap.size + 1) 0 _ _ _ hz4
    have t1 := cell_of_row W4 (w1.heap.size + 1) 1 _ _ _ hz4
    have u0 : ∀ j, W4.frozen? ⟨w.heap.size, j, none⟩ = false := fun j => by simp only [World.frozen?, hz0]; rfl
    have u1 : ∀ j, W4.frozen? ⟨w.heap.size + 1, j, none⟩ = false := fun j => by simp only [World.frozen?, hz1]; rfl
    unfold readCells at y6
    simp only [List.getElem?_toArray, List.getElem?_cons_zero, List.getElem?_cons_succ] at y0 y1 y2 y3 y4 y5 y6 x0 x1 x2 x3 t0 t1
    have k1 : w.heap.size ≠ w1.heap.size := by omega
    have k2 : w.heap.size + 1 ≠ w1.heap.size := by omega
    clear hz0 hz1 hz2 hz3 hz4 hW4 old
    go_wp2_with fail
    refine bodyPost_ret (v := .tuple #[.agg #[.int .i64 xk, .int .u64 xn, .string xt, .slice xA xm xc], .agg #[.int .i64 0, .int .i64 0]]) (by simp [results, Tryd.results27, go_sem, y0, y1, y2, y3, y4, y5]) rfl ⟨?_, _, _, _, _, rfl, ?_⟩
    · repeat (refine Below.setCell ?_ (by simp; try omega) _)
      exact HB4.out
    · have hof := off6 (Off.refl (outB w.heap.size) W4) (.int .i64 xk) (.int .u64 xn) (.string xt) (.slice xA xm xc) (.int .i64 0) (.int .i64 0)
      have hsz := hof.size
      exact HX4.out.keep (fun g hg => ⟨by omega, by omega⟩) (fun g hg => hof.block g (by unfold outB; omega) (by omega))

theorem decode_any (b : ByteArray) (w : World) : Calls Tryd.prog 27 #[.string b] w (DecPost w (decR b)) := by
  by_cases hb : 262144 < b.size
  · have e : decR b = .error (0, 2) := by unfold decR; rw [if_pos hb]
    rw [e]
    exact decode_long b w hb
  · have hrd : ∀ (rb : Nat) (w : World), w.heap[rb]? = some (.cells (readCells b (0 : Nat)) 86 (0, 0)) → Calls Tryd.prog 46 #[.pointer (some ⟨rb, 0, none⟩), .int .i64 1] w (RdPost rb b w (ps 8 b 0)) := fun rb w h => read_any 8 1 rb b 0 w (by omega) (by omega) (by omega) (by omega) h
    have e0 : decR b = match ps 8 b 0 with | .error e => .error e | .ok (x, q) => if q < b.size then .error (q, 24) else .ok x := by unfold decR; rw [if_neg hb]
    rw [e0]
    cases hp : ps 8 b 0 with
    | error ac =>
      obtain ⟨a, c⟩ := ac
      rw [hp] at hrd
      have hc : c ≠ 0 := ps_code 8 b 0 a c hp
      refine (decode_err b a c w (by omega) hrd).mono fun e w' ⟨h1, h2⟩ => ⟨h2, h1, hc⟩
    | ok xq =>
      obtain ⟨x, q⟩ := xq
      rw [hp] at hrd
      exact decode_read b x q w (by omega) hrd

end Go.Proofs.YtakdfjkkeilffaaDoor
