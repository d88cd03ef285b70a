/- The methods of a schedule. -/
import Derived.Test.YthfghlenabionaaD
import Derived.Test.YthfghlenabionaaE
set_option linter.unusedVariables false
set_option linter.unusedSimpArgs false
namespace Go.Proofs.Ythfghlenabionaa
open Go.RowKit
variable {w w' : World} {B sb n : Nat} {ps : Nat → Nat} {nds : Nat → List Nat} {wk ls ms now : Int} {st : Nat → JobS}

theorem below_drewN' (w : World) (m : Nat) : Below w.heap.size w (w.drewN m) := by
  induction m with
  | zero => exact Below.refl _ _
  | succ m ih => rw [← World.drew_drewN]; exact ih.drew

/-- The clock is set. -/
theorem Rep.clock (h : Rep w B sb n ps nds wk ls ms now st) (now' : Int) : Rep (w.setCell ⟨sb, 4, none⟩ (.int .i64 now')) B sb n ps nds wk ls ms now' st ∧ Fr B w (w.setCell ⟨sb, 4, none⟩ (.int .i64 now')) := by
  obtain ⟨jv, h1, h2⟩ := h.sched
  have hk : ∀ (k : Nat) c (e : Nat) fz, e ≠ 51 → w.heap[k]? = some (.cells c e fz) → (w.setCell ⟨sb, 4, none⟩ (.int .i64 now')).heap[k]? = w.heap[k]? := fun k c e fz hne hh => by
    refine Below.heap_setCell _ _ _ _ fun e2 => ?_
    simp only at e2
    rw [e2, h1] at hh
    simp at hh
    exact hne hh.2.1.symm
  have h5 := heap_setCell_same w sb 4 _ _ (.int .i64 now') h1
  refine ⟨⟨h.sbB, ⟨jv, by rw [h5]; simp [schedCells], row_keep h2 fun k c fz => hk k c _ fz (by decide)⟩, fun i hi => ?_⟩, ⟨(Below.refl _ _).setCell h.sbB _, fun k c e fz hh _ h51 => hk k c e fz h51 hh⟩⟩
  obtain ⟨hB, v, h3, h4⟩ := h.job i hi
  exact ⟨hB, v, by rw [hk _ _ _ _ (by decide) h3]; exact h3, row_keep h4 fun k c fz => hk k c _ fz (by decide)⟩

def NextPost (w : World) (B sb n : Nat) (ps : Nat → Nat) (nds : Nat → List Nat) (wk ls ms now : Int) (st : Nat → JobS) (e : Ending) (w' : World) : Prop :=
  ∃ v, e = .returned (.tuple #[v, .int .i64 0]) ∧ Rep w' B sb n ps nds wk ls ms now (stK st nds wk ls ms now n) ∧
    w'.ownsRow w.heap.size 35 3 v (outK st nds wk ls ms now n).length (cells3 (outK st nds wk ls ms now n)) ∧ Fr B w w'

theorem row_mono {b b' e s m : Nat} {v : Value} {xs : List Value} (h : w.ownsRow b e s v m xs) (hb : b' ≤ b) : w.ownsRow b' e s v m xs := by
  refine ⟨h.1, ?_⟩
  rcases h.2 with h2 | ⟨g, cap, cur, hv, hg, r⟩
  · exact .inl h2
  · exact .inr ⟨g, cap, cur, hv, by omega, r⟩

set_option maxHeartbeats 800000 in
theorem next_any (h : Rep w B sb n ps nds wk ls ms now st) (now' : Int) (hB : Bds n nds wk ls ms now') (h0 : 0 ≤ now) (h1 : now ≤ now') (hT : ∀ i, i < n → (st i).tries ≤ 1000000000000) :
    Calls Try.prog 8 #[.pointer (some ⟨sb, 0, none⟩), .int .i64 now'] w (NextPost w B sb n ps nds wk ls ms now' st) := by
  have h2 := hB.t2
  obtain ⟨wa, hwa⟩ : ∃ wa : World, wa = w.alloc (.cells #[.int .i64 now'] 3) := ⟨_, rfl⟩
  have hb0 : Below w.heap.size w wa := by rw [hwa]; exact (Below.refl _ _).alloc (Nat.le_refl _) _
  have hra : Rep wa B sb n ps nds wk ls ms now st := h.below hb0
  have hnb : wa.heap[w.heap.size]? = some (.cells #[.int .i64 now'] 3 (0, 0)) := by rw [hwa]; exact heap_alloc_new _ _
  have hn : wa.cell? ⟨w.heap.size, 0, none⟩ = some (.int .i64 now') := by simp [World.cell?, hnb]
  obtain ⟨jv, h3, h4⟩ := hra.sched
  obtain ⟨c0, c1, c2, c3, c4⟩ := sched_cells h3
  have hf := block_free h3
  have hg : decide (now' < now) = false := by simp; omega
  have hg2 : decide (1073741824 < now') = false := by simp; omega
  have HW := Lib.hid hwa
  have HR := Lib.hid hra
  have HNB := Lib.hid hnb
  have HV := Lib.hid h4
  have HB0 := Lib.hid hb0
  have HS := Lib.hid h.size
  have HT := Lib.hid hT
  clear h3 h4 hwa hra hnb h hb0 hT c1 c2 c3
  go_enter Try.func8, Try.ntmps8
  go_wp2_with fail
  rw [← HW.out]
  go_quiet (fail)
  go_wp2_with fail
  have hd := below_drewN' wa nq
  have hrd := (HR.out.below hd).clock now'
  have hfr := ((Fr.of_below HB0.out HS.out).trans (Fr.of_below hd HR.out.size)).trans hrd.2
  have hcall := filterNext hrd.1 hB w.heap.size (hrd.2.cell (hd.block _ (lt_of_block HNB.out) |>.trans HNB.out) (by decide) (by decide)) HT.out jv
    (hrd.2.row (row_keep HV.out (fun k c fz hh => hd.block k (lt_of_block hh))) (by decide) (by decide))
  have HC := Lib.hid hcall
  have HFR := Lib.hid hfr
  clear hd hrd hfr hcall
  refine HC.out.mono ?_
  rintro e w1 ⟨v, rfl, hF⟩
  have HF := Lib.hid hF
  clear hF
  go_wp2_with fail
  go_ret2
  exact ⟨v, rfl, HF.out.rep, row_mono HF.out.out HFR.out.size, HFR.out.trans HF.out.fr⟩

theorem left_any (h : Rep w B sb n ps nds wk ls ms now st) (hB : Bds n nds wk ls ms now) :
    Calls Try.prog 10 #[.pointer (some ⟨sb, 0, none⟩)] w fun e w' => e = .returned (.int .i64 ((leftK st n).length : Nat)) ∧ Below w.heap.size w w' := by
  obtain ⟨jv, h3, h4⟩ := h.sched
  obtain ⟨c0, c1, c2, c3, c4⟩ := sched_cells h3
  have hc := filterLeft h hB jv h4
  have HC := Lib.hid hc
  have hl := leftK_len st n
  have hm := hB.many
  clear h3 h4 c1 c2 c3 c4 h hc
  go_enter Try.func10, Try.ntmps10
  go_wp2_with fail
  refine HC.out.mono ?_
  rintro e w1 ⟨v, rfl, hown, hb⟩
  have HBB := Lib.hid hb
  obtain ⟨A, c, rfl⟩ : ∃ A c, v = .slice A (leftK st n).length c := by
    rcases hown.2 with ⟨rfl, h0⟩ | ⟨g, c, cur, rfl, _⟩
    · exact ⟨_, _, by rw [h0]⟩
    · exact ⟨_, _, rfl⟩
  obtain ⟨m, hm'⟩ : ∃ m, m = (leftK st n).length := ⟨_, rfl⟩
  rw [← hm'] at hl ⊢
  have HM := Lib.hid hm'
  clear hown hb hm'
  go_wp2_with fail
  go_ret
  exact ⟨ret_int (by rw [HM.out]), HBB.out⟩

theorem running_any (h : Rep w B sb n ps nds wk ls ms now st) (hB : Bds n nds wk ls ms now) (now' : Int) :
    Calls Try.prog 11 #[.pointer (some ⟨sb, 0, none⟩), .int .i64 now'] w (RowPost w 35 3 (cells3 (runK st now' n)) (runK st now' n).length) := by
  obtain ⟨wa, hwa⟩ : ∃ wa : World, wa = w.alloc (.cells #[.int .i64 now'] 3) := ⟨_, rfl⟩
  have hb0 : Below w.heap.size w wa := by rw [hwa]; exact (Below.refl _ _).alloc (Nat.le_refl _) _
  have hra : Rep wa B sb n ps nds wk ls ms now st := h.below hb0
  have hnb : wa.heap[w.heap.size]? = some (.cells #[.int .i64 now'] 3 (0, 0)) := by rw [hwa]; exact heap_alloc_new _ _
  obtain ⟨jv, h3, h4⟩ := h.sched
  obtain ⟨c0, c1, c2, c3, c4⟩ := sched_cells h3
  have hc := filterRunning hra hB now' w.heap.size hnb jv (row_keep h4 fun k c fz hh => hb0.block k (lt_of_block hh))
  have HC := Lib.hid hc
  have HW := Lib.hid hwa
  have HB0 := Lib.hid hb0
  have c0' : (w.alloc (.cells #[.int .i64 now'] 3)).cell? ⟨sb, 0, none⟩ = some jv := by rw [← hwa]; exact (hb0.cell (lt_of_block h3)).trans c0
  clear h3 h4 c0 c1 c2 c3 c4 h hc hra hnb hwa hb0
  go_enter Try.func11, Try.ntmps11
  go_wp2_with fail
  rw [← HW.out]
  refine HC.out.mono ?_
  rintro e w1 ⟨v, rfl, hown, hb⟩
  have HBB := Lib.hid hb
  have HO := Lib.hid hown
  clear hown hb
  go_wp2_with fail
  go_ret
  exact ⟨v, rfl, row_mono HO.out HB0.out.size, HB0.out.trans (HBB.out.mono HB0.out.size)⟩

def doneAt (st : Nat → JobS) (i : Nat) : Nat → JobS := fun j => if j = i then { st i with done := true } else st j

set_option maxHeartbeats 800000 in
theorem done_in (h : Rep w B sb n ps nds wk ls ms now st) (hB : Bds n nds wk ls ms now) (i : Nat) (hi : i < n) :
    Calls Try.prog 9 #[.pointer (some ⟨sb, 0, none⟩), .int .i64 (i : Int)] w fun e w' => e = .returned (.tuple #[.bool (!(st i).done), .int .i64 0]) ∧ Rep w' B sb n ps nds wk ls ms now (doneAt st i) ∧ Fr B w w' := by
  obtain ⟨jv, h3, h4⟩ := h.sched
  obtain ⟨c0, c1, c2, c3, c4⟩ := sched_cells h3
  obtain ⟨A, c, rfl, hM⟩ := jv_form h4 hB.many
  obtain ⟨g, c', hg, _, hc⟩ := row_at h4 (by simp; omega)
  simp only [Value.slice.injEq] at hg
  obtain ⟨rfl, -, rfl⟩ := hg
  have hcell := hc i (ptr (ps i)) (by simp [hi])
  obtain ⟨hBp, v, hj, _⟩ := h.job i hi
  obtain ⟨_, _, _, j3, _, _, _⟩ := job_cells hj
  have fj := block_free hj
  have hm := hB.many
  have HR := Lib.hid h
  have HJ := Lib.hid hj
  have hi' : ((i : Int) < (n : Int)) := by omega
  unfold ptr at hcell
  clear h3 h4 c1 c2 c3 c4 h hc hj
  have hfin : ∀ d, (st i).done = d → Rep (w.setCell ⟨ps i, 3, none⟩ (.bool true)) B sb n ps nds wk ls ms now (doneAt st i) ∧ Fr B w (w.setCell ⟨ps i, 3, none⟩ (.bool true)) := by
    intro d _
    refine ⟨HR.out.upd hi (fun k _ hk => Below.heap_setCell _ _ _ _ hk) _ (fun v' hv' => ?_), ⟨(Below.refl _ _).setCell hBp _, fun k c e fz hh h54 _ => Below.heap_setCell _ _ _ _ fun e2 => ?_⟩⟩
    · exact heap_setCell_same w (ps i) 3 _ _ (.bool true) hv'
    · simp only at e2
      rw [e2, HJ.out] at hh
      simp at hh
      exact h54 hh.2.1.symm
  have HFIN := Lib.hid (hfin _ rfl)
  clear hfin
  go_enter Try.func9, Try.ntmps9
  go_wp2_with fail
  go_ret2
  exact ⟨rfl, HFIN.out.1, HFIN.out.2⟩

set_option maxHeartbeats 800000 in
theorem done_out (h : Rep w B sb n ps nds wk ls ms now st) (hB : Bds n nds wk ls ms now) (x : Int) (hx : x < 0 ∨ (n : Int) ≤ x) :
    Calls Try.prog 9 #[.pointer (some ⟨sb, 0, none⟩), .int .i64 x] w fun e w' => e = .returned (.tuple #[.bool false, .int .i64 5]) ∧ w = w' := by
  obtain ⟨jv, h3, h4⟩ := h.sched
  obtain ⟨c0, c1, c2, c3, c4⟩ := sched_cells h3
  obtain ⟨A, c, rfl, hM⟩ := jv_form h4 hB.many
  have hm := hB.many
  clear h3 h4 c1 c2 c3 c4 h
  by_cases h0 : x < 0
  · clear hx
    go_enter Try.func9, Try.ntmps9
    go_wp2_with fail
    go_ret2
    exact ⟨rfl, rfl⟩
  · have hx' : (n : Int) ≤ x := by omega
    have hx0 : 0 ≤ x := by omega
    clear hx h0
    go_enter Try.func9, Try.ntmps9
    go_wp2_with fail
    go_ret2
    exact ⟨rfl, rfl⟩

end Go.Proofs.Ythfghlenabionaa
