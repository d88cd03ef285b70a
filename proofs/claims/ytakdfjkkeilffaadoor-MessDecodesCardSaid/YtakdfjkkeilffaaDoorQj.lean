/- The chapter's example: the walk. -/
import Derived.Test.YtakdfjkkeilffaaDoorQi
set_option linter.unusedVariables false
set_option linter.unusedSimpArgs false
namespace Go.Proofs.YtakdfjkkeilffaaDoor
open Go.RowKit

def infC : Array Value := #[.int .u64 0, .int .u64 18446744073709551615]
/-- the example in memory -/
def exW (w : World) : World := (w.alloc (.cells infC 51)).alloc (.cells (mcells M0 (.slice none 0 0) (.slice none 0 0) (.slice (some ⟨w.heap.size, 0, none⟩) 2 2)) 46)
theorem exW_facts (w : World) : Below w.heap.size w (exW w) ∧ (exW w).heap.size = w.heap.size + 2 ∧ (exW w).heap[w.heap.size + 1]? = some (.cells (mcells M0 (.slice none 0 0) (.slice none 0 0) (.slice (some ⟨w.heap.size, 0, none⟩) 2 2)) 46 (0, 0)) ∧ MsgIn (exW w) (.slice none 0 0) (.slice none 0 0) (.slice (some ⟨w.heap.size, 0, none⟩) 2 2) M0 := by
  have e : (w.alloc (.cells infC 51)).heap.size = w.heap.size + 1 := by simp
  have hb : (exW w).heap[w.heap.size]? = some (.cells infC 51 (0, 0)) := by unfold exW; rw [Below.heap_alloc _ _ _ (by simp)]; exact heap_alloc_new _ _
  refine ⟨al2' _ _ _, by unfold exW; simp, by unfold exW; rw [← e]; exact heap_alloc_new _ _, ?_⟩
  refine ⟨⟨by simp [M0, toI], none, 0, rfl, fun h => by simp [M0, toI] at h⟩, ⟨by simp [M0], by simp [M0], none, 0, rfl, fun _ => .slice none 0 0, fun h => by simp [M0] at h, fun i h => by simp [M0] at h⟩, ?_, M0_fits.wl, M0_fits.dl, by simp [inI, M0], by simp [inI, M0]⟩
  exact Nums.lit (l := toI M0.ds) (t := 51) (by simp [M0, toI]) (by rw [hb]; rfl)

/-- blocks that lie -/
theorem keepb {w w' : World} (hb : Below w.heap.size w w') {g t : Nat} {cs : Array Value} (h : w.heap[g]? = some (.cells cs t (0, 0))) : w'.heap[g]? = some (.cells cs t (0, 0)) := (hb.block g (lt_of_block h)).trans h
theorem two_al (w : World) (c1 c2 : Array Value) (t1 t2 : Nat) : ((w.alloc (.cells c1 t1)).alloc (.cells c2 t2)).heap[w.heap.size]? = some (.cells c1 t1 (0, 0)) ∧ ((w.alloc (.cells c1 t1)).alloc (.cells c2 t2)).heap[w.heap.size + 1]? = some (.cells c2 t2 (0, 0)) := by
  have e : (w.alloc (.cells c1 t1)).heap.size = w.heap.size + 1 := by simp
  refine ⟨?_, ?_⟩
  · rw [Below.heap_alloc _ _ _ (by simp)]; exact heap_alloc_new _ _
  · rw [← e]; exact heap_alloc_new _ _

set_option maxRecDepth 100000 in
set_option maxHeartbeats 1600000 in
theorem works25_any (w : World) (hmo : MostAt w) (h0 : 1 < w.heap.size) : Calls Tryd.prog 25 #[] w fun e w' => e = .returned (.bool true) ∧ Below w.heap.size w w' := by
  obtain ⟨S, hS, hS25⟩ := M0_enc
  obtain ⟨f1, f2, f3, f4⟩ := exW_facts w
  have hm1 := hmo.later h0 f1
  have HE := Lib.hid (encm_any M0 _ _ _ (exW w) f4 hm1 (by omega))
  rw [hS] at HE
  have hdS := (msg_round M0_fits hS).2
  have HD1 : Hid (∀ W, Below w.heap.size w W → Calls Tryd.prog 20 #[.string S] W (DecMPost W (.ok M0))) := fun W hb => by
    have := decm_any S W (hmo.later h0 hb) (by have := hb.size; omega)
    rwa [hdS] at this
  have HD2 : Hid (∀ W, Below w.heap.size w W → Calls Tryd.prog 20 #[.string ⟨#[1, 5]⟩] W (DecMPost W (.error (0, 200)))) := fun W hb => by
    have := decm_any ⟨#[1, 5]⟩ W (hmo.later h0 hb) (by have := hb.size; omega)
    rwa [dec15] at this
  have HSZ : (((S.size : Nat) : Int) == 25) = true := by rw [hS25]; rfl
  have hfa := decM_facts hdS
  have HFA := Lib.hid hfa
  have F1 := Lib.hid f1
  have F2 := Lib.hid f2
  have F3 := Lib.hid f3
  have F4 := Lib.hid f4
  clear hmo hm1 f1 f2 f3 f4 hS hS25 hdS hfa
  obtain ⟨W1, hW1⟩ : ∃ W1, W1 = exW w := ⟨_, rfl⟩
  have hN := F2.out
  rw [← hW1] at HE F1 F2 F3 F4 hN
  unfold exW infC M0 mcells at hW1
  obtain ⟨x0, x1, x2, x3, x4, x5, x6, x7, x8, x9, x10⟩ := mcells_at2 F3.out
  unfold M0 at x0 x1 x2 x3 x4 x5 x6 x7
  unfold M0 mcells at HE
  simp only at hW1 HE x0 x1 x2 x3 x4 x5 x6 x7
  have HW1 := Lib.hid hW1
  clear hW1
  go_enter Tryd.func25, Tryd.ntmps25
  go_upto_region 2 with (fail)
  rw [← HW1.out]
  go_upto_region 3 with (go_at_call 26; refine HE.out.mono ?_; rintro e w2 ⟨rfl, hb2⟩; have HB2 := Lib.hid (F1.out.trans (hb2.mono (by omega))); have HM2 := Lib.hid (keepb hb2 F3.out); have HI2 := Lib.hid (F4.out.later hb2); clear hb2)
  go_upto_region 4 with (go_at_call 20; refine (HD1.out _ HB2.out).mono ?_; rintro e w3 ⟨hb3, va, vb, vc, rfl, ho3⟩; have HB3 := Lib.hid hb3; have HI3 := Lib.hid (ho3.msgIn HFA.out.1 HFA.out.2.1 HFA.out.2.2); clear hb3 ho3; obtain ⟨A1, C1, rfl⟩ := HI3.out.ws.form; obtain ⟨A2, C2, rfl⟩ := HI3.out.ms.form; obtain ⟨A3, C3, rfl⟩ := HI3.out.ds.form; unfold M0 mcells toI)
  obtain ⟨W4, hW4⟩ : ∃ W4, W4 = (w3.alloc (.cells #[.int .i64 2, .int .i64 1, .int .i64 2, .int .i64 3, .int .i64 0, .int .i64 0, .int .i64 0, .int .i64 0, .slice A1 0 C1, .slice A2 0 C2, .slice A3 2 C3] 46)).alloc (.cells #[.int .i64 0, .int .i64 0] 31) := ⟨_, rfl⟩
  rw [← hW4]
  have hb4 : Below w3.heap.size w3 W4 := by rw [hW4]; exact al2' _ _ _
  have HM4 : Hid (W4.heap[w3.heap.size]? = some (.cells (mcells M0 (.slice A1 0 C1) (.slice A2 0 C2) (.slice A3 2 C3)) 46 (0, 0))) := by rw [hW4]; exact (two_al _ _ _ _ _).1
  have HF4 : Hid (W4.heap[w3.heap.size + 1]? = some (.cells #[.int .i64 0, .int .i64 0] 31 (0, 0))) := by rw [hW4]; exact (two_al _ _ _ _ _).2
  have HB4 : Hid (Below w.heap.size w W4) := HB2.out.trans ((below_then HB3.out hb4).mono HB2.out.size)
  have HX4 := Lib.hid (keepb hb4 (keepb HB3.out HM2.out))
  have HI4 := Lib.hid (HI3.out.later hb4)
  have HJ4 := Lib.hid ((HI2.out.later HB3.out).later hb4)
  clear hW4 hb4 x0 x1 x2 x3 x4 x5 x6 x7 x8 x9 x10
  go_upto_region 5 with (go_at_call 20; refine (HD2.out _ HB4.out).mono ?_; rintro e w5 ⟨hb5, rfl, _⟩; have HB5 := Lib.hid hb5; clear hb5; unfold zeroM)
  obtain ⟨W6, hW6⟩ : ∃ W6, W6 = (w5.alloc (.cells #[.int .i64 0, .int .i64 0, .int .i64 0, .int .i64 0, .int .i64 0, .int .i64 0, .int .i64 0, .int .i64 0, .slice none 0 0, .slice none 0 0, .slice none 0 0] 46)).alloc (.cells #[.int .i64 0, .int .i64 200] 31) := ⟨_, rfl⟩
  rw [← hW6]
  have hb6 : Below w5.heap.size w5 W6 := by rw [hW6]; exact al2' _ _ _
  have hf6 : W6.heap[w5.heap.size + 1]? = some (.cells #[.int .i64 0, .int .i64 200] 31 (0, 0)) := by rw [hW6]; exact (two_al _ _ _ _ _).2
  have HF6 := Lib.hid hf6
  have hB46 := below_then HB5.out hb6
  have HB6 : Hid (Below w.heap.size w W6) := HB4.out.trans (hB46.mono HB4.out.size)
  have hm6 := keepb hB46 HM4.out
  have hx6 := keepb hB46 HX4.out
  have hg6 := keepb hB46 HF4.out
  have HS6 := Lib.hid (same22_any M0 M0 _ _ _ _ _ _ W6 (HI4.out.later hB46) (HJ4.out.later hB46))
  obtain ⟨x0, x1, x2, x3, x4, x5, x6, x7, x8, x9, x10⟩ := mcells_at2 hm6
  obtain ⟨y0, y1, y2, y3, y4, y5, y6, y7, y8, y9, y10⟩ := mcells_at2 hx6
  obtain ⟨z0, z1, _⟩ := fault_at hg6
  have hdd : decide (M0 = M0) = true := by decide
  rw [hdd] at HS6
  unfold M0 at x0 x1 x2 x3 x4 x5 x6 x7 y0 y1 y2 y3 y4 y5 y6 y7
  unfold M0 mcells toI at HS6
  simp only [List.map_nil, List.map_cons, List.length_nil, List.length_cons] at HS6 x0 x1 x2 x3 x4 x5 x6 x7 y0 y1 y2 y3 y4 y5 y6 y7
  clear hW6 hb6 hf6 hB46 hm6 hx6 hg6 hdd
  go_wp2_with (go_at_call 22; refine HS6.out.mono ?_; rintro e w7 ⟨rfl, hb7⟩; have HB7 := Lib.hid hb7; obtain ⟨u0, u1, _⟩ := fault_at (keepb hb7 HF6.out); clear hb7)
  go_ret
  exact ⟨rfl, HB6.out.trans (HB7.out.mono HB6.out.size)⟩

end Go.Proofs.YtakdfjkkeilffaaDoor
