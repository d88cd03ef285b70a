/- SchedTurns: one job that stays undone. -/
import Derived.Test.YthfghlenabionaaI
set_option linter.unusedVariables false
set_option linter.unusedSimpArgs false
namespace Go.Proofs.Ythfghlenabionaa
open Go.RowKit

/-! The plain law -/
theorem longL_min (ms : Int) (k : Nat) : ∀ x : Int, 1 ≤ x → min (longL ms k x) ms = min (x * 2 ^ k) ms := by
  induction k with
  | zero => intro x _; simp [longL]
  | succ k ih =>
    intro x hx
    have hp : (1 : Int) ≤ 2 ^ k := Int.le_of_lt_add_one (by have : (0 : Int) < 2 ^ k := Int.pow_pos (by decide); omega)
    have e : x * 2 ^ (k + 1) = (2 * x) * 2 ^ k := by rw [Int.pow_succ, Int.mul_comm (2 ^ k) 2, ← Int.mul_assoc, Int.mul_comm x 2]
    simp only [longL]
    split
    · rw [ih (2 * x) (by omega), e]
    · have h1 : x * 1 ≤ x * 2 ^ (k + 1) := Int.mul_le_mul_of_nonneg_left (by rw [Int.pow_succ]; omega) (by omega)
      omega
theorem longV_eq (ls ms : Int) (k : Nat) (h : 1 ≤ ls) : longV ls ms k = min (ls * 2 ^ k) ms := longL_min ms k ls h
theorem longV_succ (ls ms : Int) (k : Nat) (h : 1 ≤ ls) (h2 : ls ≤ ms) : longV ls ms (k + 1) = min (2 * longV ls ms k) ms := by
  rw [longV_eq _ _ _ h, longV_eq _ _ _ h]
  have hp : (0 : Int) < 2 ^ k := Int.pow_pos (by decide)
  have e : ls * 2 ^ (k + 1) = 2 * (ls * 2 ^ k) := by rw [Int.pow_succ, ← Int.mul_assoc, Int.mul_comm]
  have h1 : 0 < ls * 2 ^ k := Int.mul_pos (by omega) hp
  omega
theorem longV_zero (ls ms : Int) (h2 : ls ≤ ms) : longV ls ms 0 = ls := by simp [longV, longL]; omega

/-- the schedule of one job, behind k leases -/
structure One (st : Nat → JobS) (k : Nat) (now : Int) : Prop where
  tries : (st 0).tries = k
  done : (st 0).done = false
  u : k = 0 ∨ (st 0).u < now

def ndE : Nat → List Nat := fun _ => []
variable {st : Nat → JobS} {k : Nat} {wk ls ms now : Int}

theorem One.open (h : One st k now) : openJ st ndE now 0 = true := by
  unfold openJ openB runsB waitB ndE
  rw [h.done, h.tries]
  rcases h.u with rfl | h2
  · simp
  · have : ¬ now ≤ (st 0).u := by omega
    simp [this]
theorem One.out (h : One st k now) : outK st ndE wk ls ms now 1 = [(0, (k : Int) % wk, now + longV ls ms k)] := by
  rw [outK_succ, h.open]
  simp [outK, leaseOf, leaseW, leaseU, h.tries]
theorem One.next (h : One st k now) : stK st ndE wk ls ms now 1 0 = ⟨k + 1, false, 0, (k : Int) % wk, now + longV ls ms k⟩ := by
  simp [stK, h.open, dealt, leaseW, leaseU, h.tries, h.done]
/-- what runs is not dealt out -/
theorem run_not (t : Int) (hd : (st 0).done = false) (ht : 0 < (st 0).tries) (hu : t ≤ (st 0).u) : openJ st ndE t 0 = false := by
  unfold openJ openB runsB waitB ndE
  rw [hd]
  simp [ht, hu]
theorem out_none (t : Int) (h : openJ st ndE t 0 = false) : outK st ndE wk ls ms t 1 = [] := by
  rw [outK_succ, h]; simp [outK]
theorem stK_none (t : Int) (h : openJ st ndE t 0 = false) : stK st ndE wk ls ms t 1 0 = st 0 := by simp [stK, h]
theorem run_one (t : Int) (hd : (st 0).done = false) (ht : 0 < (st 0).tries) (hu : t ≤ (st 0).u) : runK st t 1 = [held st 0] := by
  rw [runK_succ]
  have : runJ st t 0 = true := by unfold runJ runsB; rw [hd]; simp [ht, hu]
  rw [this]; simp [runK]
theorem run_none (t : Int) (hu : (st 0).u < t) : runK st t 1 = [] := by
  rw [runK_succ]
  have : runJ st t 0 = false := by unfold runJ runsB; simp; omega
  rw [this]; simp [runK]

theorem one_bds (h1 : 1 ≤ wk) (h2 : wk ≤ 64) (h3 : 1 ≤ ls) (h4 : ls ≤ ms) (h5 : ms ≤ 1073741824) (h6 : 0 ≤ now) (h7 : now ≤ 1073741824) : Bds 1 ndE wk ls ms now :=
  ⟨by decide, h1, h2, h3, h4, h5, h6, h7, fun i hi k hk => by simp [ndE] at hk⟩

/-! The walk of a round, in four calls -/
variable {w : World} {B sb : Nat} {ps : Nat → Nat}

/-- Next deals the job out. -/
theorem turn_next {clock : Int} (h : Rep w B sb 1 ps ndE wk ls ms clock st) (ho : One st k now) (hc0 : 0 ≤ clock) (hc : clock ≤ now) (hB : Bds 1 ndE wk ls ms now) (hk : k ≤ 1000) :
    Calls Try.prog 8 #[.pointer (some ⟨sb, 0, none⟩), .int .i64 now] w fun e w' => ∃ (v : Value) (st' : Nat → JobS), e = .returned (.tuple #[v, .int .i64 0]) ∧ st' 0 = ⟨k + 1, false, 0, (k : Int) % wk, now + longV ls ms k⟩ ∧
      Rep w' B sb 1 ps ndE wk ls ms now st' ∧ w'.ownsRow w.heap.size 35 3 v 1 [.int .i64 0, .int .i64 ((k : Int) % wk), .int .i64 (now + longV ls ms k)] ∧ Fr B w w' := by
  refine (next_any h now hB hc0 hc (fun i hi => by obtain rfl : i = 0 := (by omega); rw [ho.tries]; omega)).mono ?_
  rintro e w' ⟨v, rfl, hr, hown, hf⟩
  rw [ho.out] at hown
  exact ⟨v, _, rfl, ho.next, hr, hown, hf⟩

/-- Next deals nothing out while the lease runs. -/
theorem turn_again {clock t : Int} (h : Rep w B sb 1 ps ndE wk ls ms clock st) (hst : st 0 = ⟨k + 1, false, 0, (k : Int) % wk, t⟩) (hc0 : 0 ≤ clock) (hc : clock ≤ t) (hB : Bds 1 ndE wk ls ms t) (hk : k ≤ 1000) :
    Calls Try.prog 8 #[.pointer (some ⟨sb, 0, none⟩), .int .i64 t] w fun e w' => ∃ (A : Option Addr) (c : Nat) (st' : Nat → JobS), e = .returned (.tuple #[.slice A 0 c, .int .i64 0]) ∧ st' 0 = ⟨k + 1, false, 0, (k : Int) % wk, t⟩ ∧
      Rep w' B sb 1 ps ndE wk ls ms t st' ∧ Fr B w w' := by
  have ho : openJ st ndE t 0 = false := run_not t (by rw [hst]) (by rw [hst]; simp) (by rw [hst]; simp)
  refine (next_any h t hB hc0 hc (fun i hi => by obtain rfl : i = 0 := (by omega); rw [hst]; simp; omega)).mono ?_
  rintro e w' ⟨v, rfl, hr, hown, hf⟩
  rw [out_none t ho] at hown
  obtain ⟨A, c, rfl⟩ : ∃ A c, v = .slice A 0 c := by
    rcases hown.2 with ⟨rfl, _⟩ | ⟨g, c, cur, rfl, _⟩ <;> exact ⟨_, _, rfl⟩
  exact ⟨A, c, _, rfl, by rw [stK_none t ho, hst], hr, hf⟩

theorem turn_run {clock t : Int} (h : Rep w B sb 1 ps ndE wk ls ms clock st) (hst : st 0 = ⟨k + 1, false, 0, (k : Int) % wk, t⟩) (hB : Bds 1 ndE wk ls ms clock) :
    Calls Try.prog 11 #[.pointer (some ⟨sb, 0, none⟩), .int .i64 t] w fun e w' => ∃ (v : Value), e = .returned v ∧ w'.ownsRow w.heap.size 35 3 v 1 [.int .i64 0, .int .i64 ((k : Int) % wk), .int .i64 t] ∧ Below w.heap.size w w' := by
  refine (running_any h hB t).mono ?_
  rintro e w' ⟨v, rfl, hown, hb⟩
  rw [run_one t (by rw [hst]) (by rw [hst]; simp) (by rw [hst]; simp)] at hown
  simp only [held, hst] at hown
  exact ⟨v, rfl, hown, hb⟩

theorem turn_none {clock t t' : Int} (h : Rep w B sb 1 ps ndE wk ls ms clock st) (hst : st 0 = ⟨k + 1, false, 0, (k : Int) % wk, t⟩) (hB : Bds 1 ndE wk ls ms clock) (ht : t < t') :
    Calls Try.prog 11 #[.pointer (some ⟨sb, 0, none⟩), .int .i64 t'] w fun e w' => ∃ (A : Option Addr) (c : Nat), e = .returned (.slice A 0 c) ∧ Below w.heap.size w w' := by
  refine (running_any h hB t').mono ?_
  rintro e w' ⟨v, rfl, hown, hb⟩
  rw [run_none t' (by rw [hst]; exact ht)] at hown
  obtain ⟨A, c, rfl⟩ : ∃ A c, v = .slice A 0 c := by
    rcases hown.2 with ⟨rfl, _⟩ | ⟨g, c, cur, rfl, _⟩ <;> exact ⟨_, _, rfl⟩
  exact ⟨A, c, rfl, hb⟩

theorem t_jobs (w : World) : JobsIn (w.alloc (.cells #[.int .i64 0, .int .i64 0, .slice none 0 0] 38)) (.slice (some ⟨w.heap.size, 0, none⟩) 1 1) 1 (fun _ => 0) (fun _ => 0) (fun _ => .slice none 0 0) (fun _ => []) := by
  have h1 := heap_alloc_new w (.cells #[.int .i64 0, .int .i64 0, .slice none 0 0] 38)
  generalize w.alloc (.cells #[.int .i64 0, .int .i64 0, .slice none 0 0] 38) = W at h1 ⊢
  refine ⟨⟨_, _, rfl, by decide, fun _ => ⟨_, _, rfl, fun i hi => ?_⟩⟩, fun i hi => ?_⟩
  · obtain rfl : i = 0 := by omega
    simp [World.cell?, h1]
  · exact ⟨none, 0, by simp, by simp, fun h => by simp at h⟩

/-- behind k rounds -/
def TurnR (w0 : World) (sb : Nat) (ps : Nat → Nat) (wk ls ms : Int) (k : Nat) (now last : Int) (w : World) : Prop :=
  ∃ (st : Nat → JobS) (clock : Int), Rep w w0.heap.size sb 1 ps ndE wk ls ms clock st ∧ One st k now ∧ 0 ≤ clock ∧ clock ≤ now ∧ now ≤ k * 7000 ∧ (k = 0 ∧ last = 0 ∨ 0 < k ∧ last = longV ls ms (k - 1)) ∧ Below w0.heap.size w0 w

set_option maxRecDepth 100000 in
set_option maxHeartbeats 3200000 in
theorem turns_any (x y z : Int) (w : World) (hx1 : -9223372036854775808 ≤ x) (hx2 : x ≤ 9223372036854775807) (hy1 : -9223372036854775808 ≤ y) (hy2 : y ≤ 9223372036854775807) (hz1 : -9223372036854775808 ≤ z) (hz2 : z ≤ 9223372036854775807) :
    Calls Try.prog 4 #[.int .i64 x, .int .i64 y, .int .i64 z] w fun e w' => e = .returned (.bool true) ∧ Below w.heap.size w w' := by
  go_enter Try.func4, Try.ntmps4
  go_wp2_with fail
  refine (works_any w).mono ?_
  rintro e w1 ⟨rfl, hb1⟩
  have HB1 := Lib.hid hb1
  clear hb1
  go_wp2_with fail
  refine (among_any x 64 _ (by decide) (by decide) hx1 hx2).mono ?_
  rintro e w2 ⟨⟨a, ha0, ha1, rfl⟩, rfl⟩
  go_wp2_with fail
  refine (among_any y 1000 _ (by decide) (by decide) hy1 hy2).mono ?_
  rintro e w2 ⟨⟨b, hb0, hb1, rfl⟩, rfl⟩
  go_wp2_with fail
  refine (among_any z 5000 _ (by decide) (by decide) hz1 hz2).mono ?_
  rintro e w2 ⟨⟨c, hc0, hc1, rfl⟩, rfl⟩
  go_wp2_with fail
  generalize hwk : 1 + a = wk
  generalize hls : 1 + b = ls
  generalize hms : ls + c = ms
  have k1 : 1 ≤ wk := by omega
  have k2 : wk ≤ 64 := by omega
  have k3 : 1 ≤ ls := by omega
  have k4 : ls ≤ ms := by omega
  have k5 : ms ≤ 6000 := by omega
  clear hwk hls hms ha0 ha1 hb0 hb1 hc0 hc1 hx1 hx2 hy1 hy2 hz1 hz2
  have hjobs := t_jobs w1
  generalize hW1 : w1.alloc (.cells #[.int .i64 0, .int .i64 0, .slice none 0 0] 38) = W1 at hjobs ⊢
  have HW1 : Hid (Below w.heap.size w W1) := by show Below w.heap.size w W1; rw [← hW1]; exact HB1.out.alloc HB1.out.size _
  have hnew := new_any _ 1 _ _ _ (fun _ => []) wk ls ms _ hjobs
  refine hnew.mono ?_
  rintro e w2 (⟨er, _, _, hV, _⟩ | ⟨sb, ps, rfl, hV, hrep, hb2⟩)
  · exact absurd ⟨by decide, fun i hi => by simp, fun i hi x hx => by simp at hx, k1, k2, k3, k4, by omega⟩ hV
  have HREP : Hid (Rep w2 W1.heap.size sb 1 ps ndE wk ls ms 0 st0) := hrep
  have HB2 := Lib.hid hb2
  clear hnew hV hrep hb2 hW1 hjobs HB1
  go_wp2_with fail
  go_loopw [9, 10, 11] (fun n l i wr => ∃ (k : Nat) (now last : Int), (k : Int) ≤ 2 * wk ∧ n = .int .i64 now ∧ l = .int .i64 last ∧ i = .int .i64 k ∧ TurnR W1 sb ps wk ls ms k now last wr) (fun _ _ i _ => (2 * wk).toNat - (intOf i).toNat)
  case atStart => exact ⟨0, 0, 0, by omega, rfl, rfl, rfl, st0, 0, HREP.out, ⟨rfl, rfl, .inl rfl⟩, by decide, by decide, by decide, .inl ⟨rfl, rfl⟩, HB2.out⟩
  case round =>
    obtain ⟨k, now, last, hk, rfl, rfl, rfl, st, clock, hrep, hone, hc0, hc1, hnow, hlast, hbel⟩ := hrel
    by_cases hlt : (k : Int) < 2 * wk
    · have hL := longV_bd ls ms k k3 k4
      obtain ⟨L, hLd⟩ : ∃ L, L = longV ls ms k := ⟨_, rfl⟩
      obtain ⟨U, hU⟩ : ∃ U, U = now + L := ⟨_, rfl⟩
      rw [← hLd] at hL
      have hB1 := one_bds (now := now) k1 k2 k3 k4 (by omega) (by omega) (by omega)
      have hB2 := one_bds (now := U) k1 k2 k3 k4 (by omega) (by omega) (by omega)
      have hcall := turn_next hrep hone hc0 hc1 hB1 (by omega)
      rw [← hLd, ← hU] at hcall
      have HC := Lib.hid hcall
      have HLD := Lib.hid hLd
      have HUD := Lib.hid hU
      have HBEL := Lib.hid hbel
      have HBD2 := Lib.hid hB2
      have u1 : now + 1 ≤ U := by omega
      have u2 : U ≤ now + ms := by omega
      have hcase : ((k : Int) ≤ 0 ∧ U ≤ now + ls ∧ now + ls ≤ U ∧ last ≤ U - now) ∨ (0 < (k : Int) ∧ 2 * last ≤ ms ∧ U ≤ now + 2 * last ∧ now + 2 * last ≤ U ∧ last ≤ U - now) ∨ (0 < (k : Int) ∧ ms < 2 * last ∧ U ≤ now + ms ∧ now + ms ≤ U ∧ last ≤ U - now) := by
        rcases hlast with ⟨rfl, rfl⟩ | ⟨hk0, hl⟩
        · have := longV_zero ls ms k4
          left; omega
        · have h1 := longV_succ ls ms (k - 1) k3 k4
          have h2 := longV_bd ls ms (k - 1) k3 k4
          rw [show k - 1 + 1 = k from by omega, ← hl] at h1
          rw [← hl] at h2
          right; omega
      have hl0 : 0 ≤ last ∧ last ≤ 6000 := by
        rcases hlast with ⟨_, rfl⟩ | ⟨hk0, hl⟩
        · omega
        · have h2 := longV_bd ls ms (k - 1) k3 k4
          rw [← hl] at h2
          omega
      obtain ⟨hl0, hl1⟩ := hl0
      have hkm : ((k : Int)).tmod wk = (k : Int) % wk := Int.tmod_eq_emod_of_nonneg (by omega)
      have hwk0 : ¬ wk = 0 := by omega
      have hnow0 : 0 ≤ now := by omega
      obtain ⟨q, hq⟩ : ∃ q, q = (k : Int) % wk := ⟨_, rfl⟩
      rw [← hq] at hkm
      have HQ := Lib.hid hq
      clear hcall hLd hU hbel hB1 hB2 hrep hone hq hlast hc0 hc1
      go_wp2_with fail
      refine HC.out.mono ?_
      rintro e w3 ⟨v, st', rfl, hst, hrep, hown, hfr⟩
      have HREP3 := Lib.hid hrep
      have HFR3 := Lib.hid hfr
      have HST := Lib.hid hst
      have HOWN := Lib.hid hown
      obtain ⟨g, c, rfl, _, hcell⟩ := row3_at hown (by decide)
      rw [← HQ.out] at hcell
      have d0 := hcell 0 _ rfl
      have d1 := hcell 1 _ rfl
      have d2 := hcell 2 _ rfl
      clear hrep hfr hst hown hcell
      go_wp2_with fail
      go_quiet (fail)
      have hd := below_drewN' w3 nq
      have hrep3 := HREP3.out.below hd
      have HAG := Lib.hid (turn_again hrep3 HST.out hnow0 (by omega) HBD2.out (by omega))
      have HF3 := Lib.hid (HFR3.out.trans (Fr.of_below hd HREP3.out.size))
      clear hd hrep3
      have hcase2 : ((k : Int) ≤ 0 ∧ U ≤ now + ls ∧ now + ls ≤ U ∧ last ≤ U - now ∧ (U - now != ls) = false) ∨ (0 < (k : Int) ∧ 2 * last ≤ ms ∧ U ≤ now + 2 * last ∧ last ≤ U - now ∧ (U - now != 2 * last) = false) ∨ (0 < (k : Int) ∧ ms < 2 * last ∧ U ≤ now + ms ∧ last ≤ U - now ∧ (U - now != ms) = false) := by
        rcases hcase with ⟨x1, x2, x3, x4⟩ | ⟨x1, x2, x3, x4, x5⟩ | ⟨x1, x2, x3, x4, x5⟩
        · left; exact ⟨x1, x2, x3, x4, by rw [bne_eq_false_iff_eq]; omega⟩
        · right; left; exact ⟨x1, x2, x3, x5, by rw [bne_eq_false_iff_eq]; omega⟩
        · right; right; exact ⟨x1, x2, x3, x5, by rw [bne_eq_false_iff_eq]; omega⟩
      clear hcase
      rcases hcase2 with ⟨x1, x2, x3, x4, x5⟩ | ⟨x1, x2, x3, x4, x5⟩ | ⟨x1, x2, x3, x4, x5⟩
      all_goals
        go_wp2_with fail
        refine HAG.out.mono ?_
        rintro e w4 ⟨A2, c2, st2, rfl, hst2, hrep4, hfr4⟩
        have HST2 := Lib.hid hst2
        have HREP4 := Lib.hid hrep4
        have HFR4 := Lib.hid (HF3.out.trans hfr4)
        have HOWN4 := Lib.hid (hfr4.row (row_keep HOWN.out (fun k c fz hh => (below_drewN' w3 nq).block k (lt_of_block hh))) (by decide) (by decide))
        have HRUN := Lib.hid (turn_run hrep4 hst2 HBD2.out)
        clear d0 d1 d2 hst2 hrep4 hfr4
        have hcell := (row3_at HOWN4.out (by decide))
        obtain ⟨g', c', hgc, _, hcell⟩ := hcell
        simp only [Value.slice.injEq, Option.some.injEq, Addr.mk.injEq, and_true, true_and] at hgc
        obtain ⟨rfl, rfl⟩ := hgc
        rw [← HQ.out] at hcell
        have d0 := hcell 0 _ rfl
        have d1 := hcell 1 _ rfl
        have d2 := hcell 2 _ rfl
        clear hcell
        go_wp2_with fail
        refine HRUN.out.mono ?_
        rintro e w5 ⟨v5, rfl, hown5, hb5⟩
        have HREP5 := Lib.hid (HREP4.out.below hb5)
        have HFR5 := Lib.hid (HFR4.out.trans (Fr.of_below hb5 HREP4.out.size))
        have e0 := (hb5.cell (lt_cell d0)).trans d0
        have e1 := (hb5.cell (lt_cell d1)).trans d1
        have e2 := (hb5.cell (lt_cell d2)).trans d2
        obtain ⟨g5, c5, rfl, _, hcell5⟩ := row3_at hown5 (by decide)
        rw [← HQ.out] at hcell5
        have f0 := hcell5 0 _ rfl
        have f1 := hcell5 1 _ rfl
        have f2 := hcell5 2 _ rfl
        clear d0 d1 d2 hown5 hb5 hcell5
        go_wp2_with fail
        obtain ⟨wd, hwd⟩ : ∃ wd : World, wd = w5.drew := ⟨_, rfl⟩
        have hbd : Below w5.heap.size w5 wd := by rw [hwd]; exact (Below.refl _ _).drew
        have HREPD := Lib.hid (HREP5.out.below hbd)
        have HFRD := Lib.hid (HFR5.out.trans (Fr.of_below hbd HREP5.out.size))
        have HNONE := Lib.hid (turn_none (t' := U + 1) HREPD.out HST2.out HBD2.out (by omega))
        have e0' := (hbd.cell (lt_cell e0)).trans e0
        have e1' := (hbd.cell (lt_cell e1)).trans e1
        have e2' := (hbd.cell (lt_cell e2)).trans e2
        have f0' := (hbd.cell (lt_cell f0)).trans f0
        have f1' := (hbd.cell (lt_cell f1)).trans f1
        have f2' := (hbd.cell (lt_cell f2)).trans f2
        have HWD := Lib.hid hwd
        have eU : IntKind.i64.wrap (U + 1) = U + 1 := by rw [IntKind.wrap_i64]; omega
        clear hwd hbd e0 e1 e2 f0 f1 f2
        refine still_tail 28 (by kernel_rfl) (by kernel_rfl) wd HWD.out ?_
        simp only [List.take_succ_cons, List.take_zero, List.drop_succ_cons, List.drop_zero]
        repeat still_step
        refine wpStill_nil ?_
        go_wp2_with fail
        refine HNONE.out.mono ?_
        rintro e w6 ⟨A6, c6, rfl, hb6⟩
        have HFR6 := Lib.hid (HFRD.out.trans (Fr.of_below hb6 HREPD.out.size))
        have HREP6 := Lib.hid (HREPD.out.below hb6)
        have g2 := (hb6.cell (lt_cell e2')).trans e2'
        clear e0' e1' e2' f0' f1' f2' hb6
        go_wp2
        go_roundw
        case rel =>
          refine ⟨k + 1, U + 1, U - now, by omega, by go_num, by go_num, by go_num, st2, U, HREP6.out, ⟨by rw [HST2.out], by rw [HST2.out], .inr (by rw [HST2.out]; simp only; omega)⟩, by omega, by omega, ?_, .inr ⟨by omega, ?_⟩, HBEL.out.trans HFR6.out.below⟩
          · rw [Int.natCast_add]; omega
          · rw [show k + 1 - 1 = k from rfl, ← HLD.out, HUD.out]; omega
        case measure => simp [intOf]; omega
    · have HBEL := Lib.hid hbel
      clear hrep hone hlast hbel
      go_wp2
      go_ret
      exact ⟨rfl, HW1.out.trans (HBEL.out.mono HW1.out.size)⟩

end Go.Proofs.Ythfghlenabionaa
