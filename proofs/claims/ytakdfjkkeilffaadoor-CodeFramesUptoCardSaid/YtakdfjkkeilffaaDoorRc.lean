/- The document's answer on frames: Frames. -/
import Derived.Test.YtakdfjkkeilffaaDoorRb
set_option linter.unusedVariables false
set_option linter.unusedSimpArgs false
namespace Go.Proofs.YtakdfjkkeilffaaDoor
open Go.RowKit

theorem unN_code (b : ByteArray) (p : Nat) (h : (unN b p).2.2.2 = 0) : (unN b p).2.2 = (0, 0) := by
  unfold unN at h ⊢
  simp only at h ⊢
  split at h
  · simp at h
  · rename_i h1
    rw [if_neg h1]
    split at h
    · simp at h
    · rename_i h2
      rw [if_neg h2]
      split at h
      · simp at h
      · rename_i h3
        rw [if_neg h3]
        split at h
        · simp at h
        · rename_i h4
          rw [if_neg h4]

set_option maxRecDepth 100000 in
set_option maxHeartbeats 1600000 in
theorem rframes_any (b : ByteArray) (w : World) (hb : b.size ≤ 1099511627776) : Calls Tryd.prog 18 #[.string b] w (FrPost w (framesR b)) := by
  obtain ⟨i0, hi, hz0, hz1, hz2⟩ := info_parts i9
  go_enter Tryd.func18, Tryd.ntmps18
  go_wp2
  go_loopw [4, 5] (fun v e wr => ∃ p : Nat, ∃ xs : List ByteArray, p ≤ b.size ∧ xs.length * 8 ≤ p ∧ e = .int .i64 p ∧ Hid (framesR b = (xs ++ (frs (b.size - p + 1) b p).1, (frs (b.size - p + 1) b p).2)) ∧ wr.ownsRow w.heap.size 9 1 v xs.length (tcells xs) ∧ Hid (Below w.heap.size w wr)) (fun _ e _ => b.size - (intOf e).toNat)
  case atStart => exact ⟨0, [], by omega, by simp, rfl, by show framesR b = _; unfold framesR; simp, World.ownsRow_nil _ _ _ _, Below.refl _ _⟩
  case round =>
    obtain ⟨p, xs, hp, hxs, rfl, HF, hrow, HB⟩ := hrel
    obtain ⟨wo, rfl⟩ : ∃ wo : World, wo = wr := ⟨_, rfl⟩
    have hso := HB.out.size
    have HROW := Lib.hid hrow
    clear hrow
    have HU := Lib.hid (runframe_in b p wo (by omega) hp)
    by_cases hz : (unN b p).2.2 = (0, 0)
    · obtain ⟨q, hq1, hq2, hq3, hq4⟩ := unN_step b p hp hz
      obtain ⟨y, hy⟩ : ∃ y, y = (unN b p).1 := ⟨_, rfl⟩
      have hu : unN b p = (y, (q : Int), 0, 0) := by rw [hy, ← hq1, show ((0 : Int), (0 : Int)) = (unN b p).2.2 from hz.symm]
      have HF2 : Hid (framesR b = ((xs ++ [y]) ++ (frs (b.size - q + 1) b q).1, (frs (b.size - q + 1) b q).2)) := by
        show framesR b = _
        have e : frs (b.size - p + 1) b p = (y :: (frs (b.size - q + 1) b q).1, (frs (b.size - q + 1) b q).2) := by
          show (if (unN b p).2.2 = (0, 0) then _ else _) = _
          rw [if_pos hz, ← hy, hq1, Int.toNat_natCast, frs_more b (b.size - p) (b.size - q + 1) q hq3 (by omega) (by omega)]
        rw [HF.out, e]
        simp
      have HU2 : Hid (Calls Tryd.prog 16 #[.string b, .int .i64 p] wo fun e w' => e = .returned (.tuple #[.string y, .int .i64 q, .agg #[.int .i64 0, .int .i64 0]]) ∧ Below wo.heap.size wo w') := by
        have := HU.out
        unfold UnPost at this
        rw [hu] at this
        exact this
      clear hu hy hq1 hz HU HF
      go_wp2_with (first
        | (go_at_call 16; refine HU2.out.mono ?_; rintro e w1 ⟨rfl, hb1⟩; have HB1 := Lib.hid (HB.out.trans (hb1.mono hso)); have hs1 := HB1.out.size; have HR1 := Lib.hid (row_below HROW.out hb1); clear hb1)
        | (at_builtin; refine wpList_append_lies _ rfl _ _ 36 rfl w.heap.size 9 i0 (.string ⟨#[]⟩) 1 16 t36 hi hz0 hz1 hz2 rfl (by decide) _ xs.length (tcells xs) rfl ((HR1.out.alloc _).alloc _) ⟨w1.heap.size + 1, 0, none⟩ 1 1 [.string y] rfl rfl (newt2 _ _ _ _) ?c2 ?c6 ?c3 ?c4 ?c5 (w1.heap.size + 2) (by simp) ?_))
      case c2 => intro u hu; simp at hu; subst hu; rfl
      case c3 => unfold maxLen; omega
      case c4 => omega
      case c5 => simp; omega
      case c6 => omega
      intro g cap w2 hown hgrow hat hlt
      have HB2 : Hid (Below w.heap.size w w2) := ((HB1.out.alloc hs1 _).alloc (by simp; omega) _).grown hgrow (by simp; omega) (own_ge HR1.out)
      have HOWN : Hid (w2.ownsRow w.heap.size 9 1 (.slice (some ⟨g, 0, none⟩) (xs.length + 1) cap) (xs ++ [y]).length (tcells (xs ++ [y]))) := by
        show World.ownsRow _ _ _ _ _ _ _
        have e : (xs ++ [y]).length = xs.length + 1 := by simp
        rw [e]
        simpa [tcells] using hown
      clear hown hgrow hat hlt
      go_wp2
      go_roundw
      case rel => exact ⟨q, xs ++ [y], hq3, by simp; omega, rfl, HF2.out, HOWN.out, HB2.out⟩
      case measure => simp [intOf]; omega
    · obtain ⟨u1, u2, u3, u4, hu⟩ : ∃ u1 u2 u3 u4, unN b p = (u1, u2, u3, u4) := ⟨_, _, _, _, rfl⟩
      have hb4 : (u4 == 0) = false := by
        refine beq_false_of_ne fun h => hz (unN_code b p ?_)
        rw [hu]; exact h
      have hF : framesR b = (xs, p) := by
        have e : frs (b.size - p + 1) b p = ([], p) := by
          show (if (unN b p).2.2 = (0, 0) then _ else _) = _
          rw [if_neg hz]
        rw [HF.out, e]; simp
      have HF2 := Lib.hid hF
      have HU2 : Hid (Calls Tryd.prog 16 #[.string b, .int .i64 p] wo fun e w' => e = .returned (.tuple #[.string u1, .int .i64 u2, .agg #[.int .i64 u3, .int .i64 u4]]) ∧ Below wo.heap.size wo w') := by
        have := HU.out
        unfold UnPost at this
        rw [hu] at this
        exact this
      clear hu hz HU HF hF
      go_wp2_with (go_at_call 16; refine HU2.out.mono ?_; rintro e w1 ⟨rfl, hb1⟩; have HB1 := Lib.hid (HB.out.trans (hb1.mono hso)); have hs1 := HB1.out.size; have HR1 := Lib.hid (row_below HROW.out hb1); clear hb1)
      go_ret2
      exact ⟨_, by rw [HF2.out]; rfl, by rw [HF2.out]; exact HR1.out.alloc _, HB1.out.alloc hs1 _⟩

end Go.Proofs.YtakdfjkkeilffaaDoor
