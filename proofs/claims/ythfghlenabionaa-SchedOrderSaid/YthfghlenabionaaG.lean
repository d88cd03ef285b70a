/- New: the needs of one job. -/
import Derived.Test.YthfghlenabionaaC
import Derived.Deep.RegionLaw
import Derived.Deep.RegionHeld3
import Derived.Deep.AppendLies
set_option linter.unusedVariables false
set_option linter.unusedSimpArgs false
namespace Go.Proofs.Ythfghlenabionaa
open Go.RowKit
variable {w w' : World} {B sb n : Nat} {ps : Nat → Nat} {nds : Nat → List Nat} {wk ls ms now : Int} {st : Nat → JobS}

theorem Try.info52 : (Try.prog.info? 52).map (fun i => (i.zero, i.size, i.bytes)) = some (some (.pointer none), 1, 8) := by kernel_rfl
theorem Try.info38 : (Try.prog.info? 38).map (fun i => (i.zero, i.size, i.bytes)) = some (some (.agg #[.int .i64 0, .int .i64 0, .slice none 0 0]), 3, 40) := by kernel_rfl

/-- a list of whole numbers in memory -/
def IntsIn (w : World) (v : Value) (l : List Int) : Prop :=
  ∃ A c, v = .slice A l.length c ∧ l.length ≤ 9223372036854775807 ∧ (0 < l.length → ∃ g o, A = some ⟨g, o, none⟩ ∧ ∀ j, j < l.length → w.cell? ⟨g, o + j, none⟩ = some (.int .i64 (l.getD j 0)))

/-- jobs in memory: the needs are kept as numbers -/
structure JobsIn (w : World) (v : Value) (n : Nat) (lv cv : Nat → Int) (nv : Nat → Value) (nd : Nat → List Int) : Prop where
  form : ∃ A c, v = .slice A n c ∧ n ≤ 9223372036854775807 ∧ (0 < n → ∃ g o, A = some ⟨g, o, none⟩ ∧ ∀ i, i < n → w.cell? ⟨g, o + i * 3, none⟩ = some (.int .i64 (lv i)) ∧ w.cell? ⟨g, o + i * 3 + 1, none⟩ = some (.int .i64 (cv i)) ∧ w.cell? ⟨g, o + i * 3 + 2, none⟩ = some (nv i))
  needs : ∀ i, i < n → IntsIn w (nv i) (nd i)

theorem lt_cell {a : Addr} {v : Value} (h : w.cell? a = some v) : a.block < w.heap.size := World.block_lt_of_cell? w a h

theorem IntsIn.below {v : Value} {l : List Int} (h : IntsIn w v l) (hb : Below w.heap.size w w') : IntsIn w' v l := by
  obtain ⟨A, c, rfl, hm, hc⟩ := h
  refine ⟨A, c, rfl, hm, fun h0 => ?_⟩
  obtain ⟨g, o, rfl, hd⟩ := hc h0
  exact ⟨g, o, rfl, fun j hj => (hb.cell (lt_cell (hd j hj))).trans (hd j hj)⟩

theorem JobsIn.below {v : Value} {lv cv : Nat → Int} {nv : Nat → Value} {nd : Nat → List Int} (h : JobsIn w v n lv cv nv nd) (hb : Below w.heap.size w w') : JobsIn w' v n lv cv nv nd := by
  refine ⟨?_, fun i hi => (h.needs i hi).below hb⟩
  obtain ⟨A, c, rfl, hm, hc⟩ := h.form
  refine ⟨A, c, rfl, hm, fun h0 => ?_⟩
  obtain ⟨g, o, rfl, hd⟩ := hc h0
  refine ⟨g, o, rfl, fun i hi => ?_⟩
  obtain ⟨h1, h2, h3⟩ := hd i hi
  exact ⟨(hb.cell (lt_cell h1)).trans h1, (hb.cell (lt_cell h2)).trans h2, (hb.cell (lt_cell h3)).trans h3⟩

/-- New's own predicate -/
theorem new1_any (x y : Int) (A : Option Addr) (m c : Nat) (hm : m ≤ 9223372036854775807) (w : World) :
    Calls Try.prog 14 #[.agg #[.int .i64 x, .int .i64 y, .slice A m c]] w fun e w' => e = .returned (.bool (decide (16384 < m))) ∧ Below w.heap.size w w' := by
  go_enter Try.func14, Try.ntmps14
  go_wp2
  go_ret
  refine ⟨ret_bool ?_, (Below.refl _ _).alloc (Nat.le_refl _) _⟩
  simp; omega

def IdxPost2 (n : Nat) (nd : Nat → List Int) (w : World) (e : Ending) (w' : World) : Prop :=
  ∃ r : Int, e = .returned (.int .i64 r) ∧ (0 ≤ r ↔ ∃ i, i < n ∧ 16384 < (nd i).length) ∧ Below w.heap.size w w'

set_option maxHeartbeats 800000 in
theorem index2_any {v : Value} {lv cv : Nat → Int} {nv : Nat → Value} {nd : Nat → List Int} (h : JobsIn w v n lv cv nv nd) :
    Calls Try.prog 25 #[v, .func (.func 14) #[] #[]] w (IdxPost2 n nd w) := by
  obtain ⟨A, c, rfl, hm, hc⟩ := h.form
  have HJ := Lib.hid h
  have HC := Lib.hid hc
  clear h hc
  go_enter Try.func25, Try.ntmps25
  go_wp2
  go_loopw [8] (fun i wr => ∃ k : Nat, k ≤ n ∧ i = .int .i64 k ∧ Hid (∀ j, j < k → ¬ 16384 < (nd j).length) ∧ Below w.heap.size w wr) (fun i _ => n - (intOf i).toNat)
  case atStart => exact ⟨0, by omega, rfl, fun j hj => by omega, Below.refl _ _⟩
  case round =>
    obtain ⟨k, hk, rfl, HK, hb⟩ := hrel
    by_cases hlt : k < n
    · obtain ⟨g, o, rfl, hc⟩ := HC.out (by omega)
      obtain ⟨h1, h2, h3⟩ := hc k hlt
      have h1' := (hb.cell (lt_cell h1)).trans h1
      have h2' := (hb.cell (lt_cell h2)).trans h2
      have h3' := (hb.cell (lt_cell h3)).trans h3
      obtain ⟨A', c', hv, hm', _⟩ := HJ.out.needs k hlt
      rw [hv] at h3'
      have HB := Lib.hid hb
      obtain ⟨m, hml⟩ : ∃ m, m = (nd k).length := ⟨_, rfl⟩
      rw [← hml] at h3' hm'
      have HML := Lib.hid hml
      have hcon := fun W => new1_any (lv k) (cv k) A' m c' hm' W
      have HCON := Lib.hid hcon
      clear hc h1 h2 h3 hcon hb hml hv
      by_cases hbig : 16384 < m
      · have hd : decide (16384 < m) = true := by simpa using hbig
        go_wp2_with (go_at_call 14; refine (HCON.out _).mono ?_; rw [hd]; rintro e w1 ⟨rfl, hb1⟩; have HB1 := Lib.hid (HB.out.trans (hb1.mono HB.out.size)); clear hb1)
        go_ret
        exact ⟨_, rfl, ⟨fun _ => ⟨k, hlt, by rw [← HML.out]; exact hbig⟩, fun _ => by simp⟩, HB1.out⟩
      · have hd : decide (16384 < m) = false := by simpa using hbig
        go_wp2_with (go_at_call 14; refine (HCON.out _).mono ?_; rw [hd]; rintro e w1 ⟨rfl, hb1⟩; have HB1 := Lib.hid (HB.out.trans (hb1.mono HB.out.size)); clear hb1)
        go_roundw
        case rel =>
          refine ⟨k + 1, by omega, by go_num, fun j hj => ?_, HB1.out⟩
          by_cases hjk : j = k
          · subst hjk; rw [← HML.out]; exact hbig
          · exact HK.out j (by omega)
        case measure => simp [intOf]; omega
    · obtain rfl : k = n := by omega
      have HB := Lib.hid hb
      clear hb
      go_wp2
      go_ret
      exact ⟨_, rfl, ⟨fun h => by omega, fun ⟨i, hi, hx⟩ => absurd hx (HK.out i hi)⟩, HB.out⟩

theorem contains2_any {v : Value} {lv cv : Nat → Int} {nv : Nat → Value} {nd : Nat → List Int} (h : JobsIn w v n lv cv nv nd) :
    Calls Try.prog 13 #[v, .func (.func 14) #[] #[]] w fun e w' => ∃ b, e = .returned (.bool b) ∧ (b = true ↔ ∃ i, i < n ∧ 16384 < (nd i).length) ∧ Below w.heap.size w w' := by
  have hc := index2_any h
  have HC := Lib.hid hc
  clear hc h
  go_enter Try.func13, Try.ntmps13
  go_wp2_with (go_at_call 25; refine HC.out.mono ?_; rintro e w' ⟨r, rfl, hr, hb⟩; have HR := Lib.hid hr; have HB := Lib.hid hb; clear hr hb)
  go_ret
  exact ⟨_, rfl, by rw [← HR.out]; simp, HB.out⟩

end Go.Proofs.Ythfghlenabionaa
