/- The chapter's example, and among. -/
import Derived.Test.YthfghlenabionaaH
set_option linter.unusedVariables false
set_option linter.unusedSimpArgs false
namespace Go.Proofs.Ythfghlenabionaa
open Go.RowKit

def wNd : Nat → List Int := fun i => if i = 2 then [0, 1] else []
theorem w_valid : Valid 3 wNd 2 3 10 := by
  refine ⟨by decide, fun i hi => ?_, fun i hi x hx => ?_, by decide, by decide, by decide, by decide, by decide⟩
  · unfold wNd; split <;> simp
  · unfold wNd at hx
    split at hx
    · simp at hx; omega
    · simp at hx

def wS1 : Nat → JobS := stK st0 (ndsOf wNd) 2 3 10 0 3
def wS2 : Nat → JobS := doneAt wS1 0
def wS3 : Nat → JobS := doneAt wS2 1
def wS4 : Nat → JobS := stK wS3 (ndsOf wNd) 2 3 10 1 3
def wS5 : Nat → JobS := stK wS4 (ndsOf wNd) 2 3 10 5 3
theorem w_o1 : outK st0 (ndsOf wNd) 2 3 10 0 3 = [(0, 0, 3), (1, 1, 3)] := by decide
theorem w_o4 : outK wS3 (ndsOf wNd) 2 3 10 1 3 = [(2, 0, 4)] := by decide
theorem w_o5 : outK wS4 (ndsOf wNd) 2 3 10 5 3 = [(2, 1, 11)] := by decide
theorem w_d1 : (wS1 0).done = false := by decide
theorem w_d2 : (wS2 1).done = false := by decide
theorem w_l5 : (leftK wS5 3).length = 1 := by decide

theorem w_t (st : Nat → JobS) (h : ∀ i, i < 3 → (st i).tries ≤ 100) : ∀ i, i < 3 → (st i).tries ≤ 1000000000000 := fun i hi => by have := h i hi; omega
theorem w_b (now : Int) (h0 : 0 ≤ now) (h : now ≤ 100) : Bds 3 (ndsOf wNd) 2 3 10 now := by
  refine ⟨by decide, by decide, by decide, by decide, by decide, by decide, by omega, by omega, fun i hi k hk => ?_⟩
  obtain ⟨x, hx, rfl⟩ := List.mem_map.1 hk
  have := w_valid.needs i hi x hx
  omega

def wNv (b : Nat) : Nat → Value := fun i => if i = 2 then .slice (some ⟨b, 0, none⟩) 2 2 else .slice none 0 0

theorem w_jobs (w : World) : JobsIn ((w.alloc (.cells #[.int .i64 0, .int .i64 1] 3)).alloc (.cells #[.int .i64 0, .int .i64 0, .slice none 0 0, .int .i64 0, .int .i64 0, .slice none 0 0, .int .i64 0, .int .i64 0, .slice (some ⟨w.heap.size, 0, none⟩) 2 2] 38))
    (.slice (some ⟨w.heap.size + 1, 0, none⟩) 3 3) 3 (fun _ => 0) (fun _ => 0) (wNv w.heap.size) wNd := by
  have h1 := heap_alloc_new (w.alloc (.cells #[.int .i64 0, .int .i64 1] 3)) (.cells #[.int .i64 0, .int .i64 0, .slice none 0 0, .int .i64 0, .int .i64 0, .slice none 0 0, .int .i64 0, .int .i64 0, .slice (some ⟨w.heap.size, 0, none⟩) 2 2] 38)
  rw [show (w.alloc (.cells #[.int .i64 0, .int .i64 1] 3)).heap.size = w.heap.size + 1 from by simp] at h1
  have h2 := (Below.heap_alloc (w.alloc (.cells #[.int .i64 0, .int .i64 1] 3)) (.cells #[.int .i64 0, .int .i64 0, .slice none 0 0, .int .i64 0, .int .i64 0, .slice none 0 0, .int .i64 0, .int .i64 0, .slice (some ⟨w.heap.size, 0, none⟩) 2 2] 38) w.heap.size (by simp)).trans (heap_alloc_new w (.cells #[.int .i64 0, .int .i64 1] 3))
  generalize ((w.alloc (.cells #[.int .i64 0, .int .i64 1] 3)).alloc (.cells #[.int .i64 0, .int .i64 0, .slice none 0 0, .int .i64 0, .int .i64 0, .slice none 0 0, .int .i64 0, .int .i64 0, .slice (some ⟨w.heap.size, 0, none⟩) 2 2] 38)) = W at h1 h2 ⊢
  refine ⟨⟨_, _, rfl, by decide, fun _ => ⟨_, _, rfl, fun i hi => ?_⟩⟩, fun i hi => ?_⟩
  · have : i = 0 ∨ i = 1 ∨ i = 2 := by omega
    rcases this with rfl | rfl | rfl <;> simp [World.cell?, h1, wNv]
  · have : i = 0 ∨ i = 1 ∨ i = 2 := by omega
    rcases this with rfl | rfl | rfl
    · exact ⟨none, 0, by simp [wNv, wNd], by simp [wNd], fun h => by simp [wNd] at h⟩
    · exact ⟨none, 0, by simp [wNv, wNd], by simp [wNd], fun h => by simp [wNd] at h⟩
    · refine ⟨some ⟨w.heap.size, 0, none⟩, 2, by simp [wNv, wNd], by simp [wNd], fun _ => ⟨_, _, rfl, fun j hj => ?_⟩⟩
      have : j = 0 ∨ j = 1 := by simp [wNd] at hj; omega
      rcases this with rfl | rfl <;> simp [World.cell?, h2, wNd]

/-- the form of a row of leases -/
theorem row3_at {w : World} {B e : Nat} {v : Value} {n : Nat} {xs : List Value} (h : w.ownsRow B e 3 v n xs) (hn : 0 < n) :
    ∃ g c, v = .slice (some ⟨g, 0, none⟩) n c ∧ n ≤ 9223372036854775807 ∧ ∀ k x, xs[k]? = some x → w.cell? ⟨g, k, none⟩ = some x := by
  rcases h.2 with ⟨_, h0⟩ | ⟨g, c, cur, hv, _, _, h1, h2, _⟩
  · omega
  · refine ⟨g, c, hv, by simp only [maxLen] at h2; omega, fun k x hk => ?_⟩
    have := h.cells (g := g) (by rw [hv]; rfl) k x hk
    rwa [show (⟨g, 0, none⟩ : Addr).add k = ⟨g, k, none⟩ from by unfold Addr.add; split <;> simp_all] at this

set_option maxHeartbeats 1600000 in
theorem works_any (w : World) : Calls Try.prog 6 #[] w fun e w' => e = .returned (.bool true) ∧ Below w.heap.size w w' := by
  have hw0 : Below w.heap.size w ((w.alloc (.cells #[.int .i64 0, .int .i64 1] 3)).alloc (.cells #[.int .i64 0, .int .i64 0, .slice none 0 0, .int .i64 0, .int .i64 0, .slice none 0 0, .int .i64 0, .int .i64 0, .slice (some ⟨w.heap.size, 0, none⟩) 2 2] 38)) :=
    ((Below.refl _ _).alloc (Nat.le_refl _) _).alloc (by simp) _
  have hjobs := w_jobs w
  generalize hWW : ((w.alloc (.cells #[.int .i64 0, .int .i64 1] 3)).alloc (.cells #[.int .i64 0, .int .i64 0, .slice none 0 0, .int .i64 0, .int .i64 0, .slice none 0 0, .int .i64 0, .int .i64 0, .slice (some ⟨w.heap.size, 0, none⟩) 2 2] 38)) = W0 at hw0 hjobs
  have HWW := Lib.hid hWW
  have HW0 := Lib.hid hw0
  have hnew := new_any _ 3 _ _ _ wNd 2 3 10 W0 hjobs
  have HNEW := Lib.hid hnew
  clear hWW hw0 hjobs hnew
  go_enter Try.func6, Try.ntmps6
  go_wp2_with fail
  rw [HWW.out]
  refine HNEW.out.mono ?_
  rintro e w1 (⟨er, _, _, hV, _⟩ | ⟨sb, ps, rfl, hV, hrep, hb1⟩)
  · exact absurd w_valid hV
  have HR1 := Lib.hid hrep
  have HB1 := Lib.hid hb1
  clear hV hrep hb1
  go_wp2_with fail
  have hn := next_any HR1.out 0 (w_b 0 (by decide) (by decide)) (by decide) (by decide) (fun i hi => by simp [st0])
  refine hn.mono ?_
  rintro e w2 ⟨v1, rfl, hR2, hA, hF2⟩
  have HR2 : Hid (Rep w2 W0.heap.size sb 3 ps (ndsOf wNd) 2 3 10 0 wS1) := hR2
  rw [w_o1] at hA
  have HA := Lib.hid hA
  have HF2 := Lib.hid hF2
  clear hn hR2 hA hF2
  go_wp2_with fail
  have hn := done_in HR2.out (w_b 0 (by decide) (by decide)) 0 (by decide)
  rw [w_d1] at hn
  refine hn.mono ?_
  rintro e w3 ⟨rfl, hR3, hF3⟩
  have HR3 : Hid (Rep w3 W0.heap.size sb 3 ps (ndsOf wNd) 2 3 10 0 wS2) := hR3
  have HF3 := Lib.hid hF3
  clear hn hR3 hF3
  go_wp2_with fail
  have hn := done_in HR3.out (w_b 0 (by decide) (by decide)) 1 (by decide)
  rw [w_d2] at hn
  refine hn.mono ?_
  rintro e w4 ⟨rfl, hR4, hF4⟩
  have HR4 : Hid (Rep w4 W0.heap.size sb 3 ps (ndsOf wNd) 2 3 10 0 wS3) := hR4
  have HF4 := Lib.hid hF4
  clear hn hR4 hF4
  go_wp2_with fail
  have hn := next_any HR4.out 1 (w_b 1 (by decide) (by decide)) (by decide) (by decide) (w_t _ (by decide))
  refine hn.mono ?_
  rintro e w5 ⟨v2, rfl, hR5, hA5, hF5⟩
  have HR5 : Hid (Rep w5 W0.heap.size sb 3 ps (ndsOf wNd) 2 3 10 1 wS4) := hR5
  rw [w_o4] at hA5
  have HA5 := Lib.hid hA5
  have HF5 := Lib.hid hF5
  clear hn hR5 hA5 hF5
  go_wp2_with fail
  have hn := next_any HR5.out 5 (w_b 5 (by decide) (by decide)) (by decide) (by decide) (w_t _ (by decide))
  refine hn.mono ?_
  rintro e w6 ⟨v3, rfl, hR6, hA6, hF6⟩
  have HR6 : Hid (Rep w6 W0.heap.size sb 3 ps (ndsOf wNd) 2 3 10 5 wS5) := hR6
  rw [w_o5] at hA6
  have HF6 := Lib.hid hF6
  have hA5 := HF6.out.row HA5.out (by decide) (by decide)
  have hA2 := ((HF3.out.trans HF4.out).trans (HF5.out.trans HF6.out)).row HA.out (by decide) (by decide)
  obtain ⟨g1, c1, rfl, _, k1⟩ := row3_at hA2 (by decide)
  obtain ⟨g2, c2, rfl, _, k2⟩ := row3_at hA5 (by decide)
  obtain ⟨g3, c3, rfl, _, k3⟩ := row3_at hA6 (by decide)
  have a0 := k1 3 (.int .i64 1) rfl
  have a1 := k1 4 (.int .i64 1) rfl
  have a2 := k1 5 (.int .i64 3) rfl
  have b0 := k2 0 (.int .i64 2) rfl
  have b1 := k2 1 (.int .i64 0) rfl
  have b2 := k2 2 (.int .i64 4) rfl
  have d0 := k3 0 (.int .i64 2) rfl
  have d1 := k3 1 (.int .i64 1) rfl
  have d2 := k3 2 (.int .i64 11) rfl
  have HFIN : Hid (Below w.heap.size w w6) := by
    have := (HF2.out.trans HF3.out).trans (HF4.out.trans (HF5.out.trans HF6.out))
    have h2 := HW0.out.size
    have h3 := HB1.out.trans (this.below)
    exact HW0.out.trans (h3.mono h2)
  have hleft := left_any HR6.out (w_b 5 (by decide) (by decide))
  rw [w_l5] at hleft
  have HL := Lib.hid hleft
  clear hn hR6 hA6 hA5 hA2 k1 k2 k3 hleft
  go_wp2_with fail
  refine HL.out.mono ?_
  rintro e w7 ⟨rfl, hb7⟩
  have HF7 := Lib.hid (HFIN.out.trans (hb7.mono HFIN.out.size))
  clear hb7
  go_wp2_with fail
  go_ret
  exact ⟨rfl, HF7.out⟩

theorem among_any (x n : Int) (w : World) (h1 : 1 ≤ n) (h2 : n ≤ 1000000) (hx1 : -9223372036854775808 ≤ x) (hx2 : x ≤ 9223372036854775807) :
    Calls Try.prog 12 #[.int .i64 x, .int .i64 n] w fun e w' => (∃ r : Int, 0 ≤ r ∧ r < n ∧ e = .returned (.int .i64 r)) ∧ w = w' := by
  have hm1 : x.tmod n < n := Int.tmod_lt_of_pos x (by omega)
  have hm2 : -n < x.tmod n := by have := Int.tmod_lt_of_pos (-x) (show 0 < n by omega); rw [Int.neg_tmod] at this; omega
  generalize hq : x.tmod n = q at hm1 hm2
  have HQ := Lib.hid hq
  have hr : (q + n).tmod n = (q + n) % n := Int.tmod_eq_emod_of_nonneg (by omega)
  have hr0 := Int.emod_nonneg q (show n ≠ 0 by omega)
  have hr1 := Int.emod_lt_of_pos q (show 0 < n by omega)
  have e1 : IntKind.i64.wrap q = q := by rw [IntKind.wrap_i64]; omega
  have e2 : IntKind.i64.wrap (q + n) = q + n := by rw [IntKind.wrap_i64]; omega
  go_enter Try.func12, Try.ntmps12
  go_wp2
  go_ret
  exact ⟨⟨_, hr0, hr1, rfl⟩, rfl⟩

end Go.Proofs.Ythfghlenabionaa
