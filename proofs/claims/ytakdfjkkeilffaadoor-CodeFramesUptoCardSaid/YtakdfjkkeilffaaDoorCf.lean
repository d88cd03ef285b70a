/- CodeFrames: frames, as the document has them. -/
import Derived.Test.YtakdfjkkeilffaaDoorRc
set_option linter.unusedVariables false
set_option linter.unusedSimpArgs false
namespace Go.Proofs.YtakdfjkkeilffaaDoor
open Go.RowKit

theorem frs_small (b : ByteArray) : ∀ (f p : Nat), p ≤ b.size → ∀ y ∈ (frs f b p).1, y.size ≤ 262144 := by
  intro f
  induction f with
  | zero => intro p _ y hy; simp [frs] at hy
  | succ f ih =>
    intro p hp y hy
    by_cases h : (unN b p).2.2 = (0, 0)
    · obtain ⟨q, hq, h1, h2, h3⟩ := unN_step b p hp h
      have e : frs (f + 1) b p = ((unN b p).1 :: (frs f b q).1, (frs f b q).2) := by
        show (if (unN b p).2.2 = (0, 0) then _ else _) = _
        rw [if_pos h, hq, Int.toNat_natCast]
      rw [e] at hy
      rcases List.mem_cons.1 hy with rfl | hy
      · exact h3
      · exact ih q h2 y hy
    · have e : frs (f + 1) b p = ([], p) := by
        show (if (unN b p).2.2 = (0, 0) then _ else _) = _
        rw [if_neg h]
      rw [e] at hy
      simp at hy

set_option maxRecDepth 100000 in
set_option maxHeartbeats 1600000 in
theorem cframes_any (b : ByteArray) (at_ : Int) (w : World) (hb : b.size ≤ 1099511627776) (hq : Quarters w) (h0 : 0 < w.heap.size) :
    Calls Tryd.prog 5 #[.string b, .int .i64 at_] w fun e w' => e = .returned (.bool true) ∧ Below w.heap.size w w' := by
  have HQ := Lib.hid hq
  clear hq
  obtain ⟨s, es, hs⟩ : ∃ s es, frR b = (s, es) := ⟨_, _, rfl⟩
  obtain ⟨x, ex, a1, c1, hu⟩ : ∃ x ex a1 c1, unR b at_ = (x, ex, a1, c1) := ⟨_, _, _, _, rfl⟩
  obtain ⟨l, q, hf⟩ : ∃ l q, framesR b = (l, q) := ⟨_, _, rfl⟩
  obtain ⟨c, hc⟩ : ∃ c, c = crcN b.data.toList := ⟨_, rfl⟩
  have H12 : Hid (∀ w, Quarters w → 0 < w.heap.size → Calls Tryd.prog 12 #[.string b] w fun e w' => e = .returned (.tuple #[.string s, .int .i64 (es : Nat)]) ∧ Below w.heap.size w w') := by
    intro w h1 h2
    have := frame_any b w h1 h2
    rwa [hs] at this
  have H14 : Hid (∀ w, Calls Tryd.prog 14 #[.string b] w fun e w' => e = .returned (.tuple #[.string s, .int .i64 (es : Nat)]) ∧ Below w.heap.size w w') := by
    intro w
    have := rframe_any b w
    rwa [hs] at this
  have H11 : Hid (∀ w, Quarters w → Calls Tryd.prog 11 #[.string b] w fun e w' => e = .returned (.int .u32 (c : Nat)) ∧ w = w') := by
    intro w h1
    rw [hc]
    exact crc_any b w (by omega) h1
  have H15 : Hid (∀ w, Calls Tryd.prog 15 #[.string b] w fun e w' => e = .returned (.int .u32 (c : Nat)) ∧ w = w') := by
    intro w
    rw [hc]
    exact rcrc_any b w (by omega)
  have H13 : Hid (∀ w, Quarters w → 0 < w.heap.size → Calls Tryd.prog 13 #[.string b, .int .i64 at_] w fun e w' => e = .returned (.tuple #[.string x, .int .i64 ex, .agg #[.int .i64 a1, .int .i64 c1]]) ∧ Below w.heap.size w w') := by
    intro w h1 h2
    have := unframe_any b at_ w (by omega) h1 h2
    unfold UnPost at this
    rwa [hu] at this
  have H16 : Hid (∀ w, Calls Tryd.prog 16 #[.string b, .int .i64 at_] w fun e w' => e = .returned (.tuple #[.string x, .int .i64 ex, .agg #[.int .i64 a1, .int .i64 c1]]) ∧ Below w.heap.size w w') := by
    intro w
    have := runframe_any b at_ w (by omega)
    unfold UnPost at this
    rwa [hu] at this
  have hsm : ∀ y ∈ l, y.size ≤ 9223372036854775807 := by
    intro y hy
    have := frs_small b (b.size + 1) 0 (by omega) y (by have e : frs (b.size + 1) b 0 = framesR b := rfl; rw [e, hf]; exact hy)
    omega
  have H17 : Hid (∀ w, Quarters w → 0 < w.heap.size → Calls Tryd.prog 17 #[.string b] w fun e w' => ∃ v, e = .returned (.tuple #[v, .int .i64 (q : Nat)]) ∧ Texts w' v l ∧ Below w.heap.size w w') := by
    intro w h1 h2
    have h := frames_any b w hb h1 h2
    rw [hf] at h
    exact h.mono fun e w' ⟨v, h3, h4, h5⟩ => ⟨v, h3, Texts.of_row h4 hsm, h5⟩
  have H18 : Hid (∀ w, Calls Tryd.prog 18 #[.string b] w fun e w' => ∃ v, e = .returned (.tuple #[v, .int .i64 (q : Nat)]) ∧ Texts w' v l ∧ Below w.heap.size w w') := by
    intro w
    have h := rframes_any b w hb
    rw [hf] at h
    exact h.mono fun e w' ⟨v, h3, h4, h5⟩ => ⟨v, h3, Texts.of_row h4 hsm, h5⟩
  have H19 : Hid (∀ v1 v2 w, Texts w v1 l → Texts w v2 l → Calls Tryd.prog 19 #[v1, v2] w fun e w' => e = .returned (.bool true) ∧ Below w.heap.size w w') := by
    intro v1 v2 w h1 h2
    have := same_any v1 v2 l l w h1 h2
    rwa [decide_eq_true (show l = l from rfl)] at this
  have hss : (s.toList == s.toList) = true := beq_self_eq_true _
  have hxx : (x.toList == x.toList) = true := beq_self_eq_true _
  clear hs hu hf hc hsm hb
  go_enter Tryd.func5, Tryd.ntmps5
  go_wp2_with (first
    | (go_at_call 12; refine (H12.out w HQ.out h0).mono ?_; rintro e w1 ⟨rfl, hb1⟩; have HB1 := Lib.hid hb1; have hs1 := hb1.size; clear hb1)
    | (go_at_call 14; refine (H14.out w1).mono ?_; rintro e w2 ⟨rfl, hb2⟩; have HB2 := Lib.hid (HB1.out.trans (hb2.mono hs1)); have hs2 := HB2.out.size; clear hb2)
    | (go_at_call 11; refine (H11.out w2 (HQ.out.later h0 HB2.out)).mono ?_; rintro e w3 ⟨rfl, rfl⟩)
    | (go_at_call 15; refine (H15.out w2).mono ?_; rintro e w3 ⟨rfl, rfl⟩)
    | (go_at_call 13; refine (H13.out w2 (HQ.out.later h0 HB2.out) (by omega)).mono ?_; rintro e w4 ⟨rfl, hb4⟩; have HB4 := Lib.hid (HB2.out.trans (hb4.mono hs2)); have hs4 := HB4.out.size; clear hb4)
    | (go_at_call 16; refine (H16.out _).mono ?_; rintro e w5 ⟨rfl, hb5⟩; have HB5 := Lib.hid ((HB4.out.alloc hs4 _).trans (hb5.mono (by simp; omega))); have hs5 := HB5.out.size; have HF5 := Lib.hid ((hb5.block w4.heap.size (by simp)).trans (heap_alloc_new w4 (.cells #[.int .i64 a1, .int .i64 c1] 31))); have hs45 : w4.heap.size < w5.heap.size := (by have := hb5.size; simp at this; omega); clear hb5)
    | (go_at_call 17; refine (H17.out _ (HQ.out.later h0 (HB5.out.alloc hs5 _)) (by simp)).mono ?_; rintro e w6 ⟨v6, rfl, ht6, hb6⟩; have HB6 := Lib.hid ((HB5.out.alloc hs5 _).trans (hb6.mono (by simp; omega))); have hs6 := HB6.out.size; have HT6 := Lib.hid ht6; have HF6 := Lib.hid ((hb6.block w5.heap.size (by simp)).trans (heap_alloc_new w5 (.cells #[.int .i64 a1, .int .i64 c1] 31))); have HF56 := Lib.hid ((hb6.block w4.heap.size (by simp; omega)).trans ((Below.heap_alloc w5 (.cells #[.int .i64 a1, .int .i64 c1] 31) _ hs45).trans HF5.out)); clear hb6 ht6)
    | (go_at_call 18; refine (H18.out w6).mono ?_; rintro e w7 ⟨v7, rfl, ht7, hb7⟩; have HB7 := Lib.hid (HB6.out.trans (hb7.mono hs6)); have hs7 := HB7.out.size; have HT7 := Lib.hid ht7; have HT67 := Lib.hid (HT6.out.later hb7); have hf1 := (hb7.block _ (lt_of_block HF6.out)).trans HF6.out; have hf2 := (hb7.block _ (lt_of_block HF56.out)).trans HF56.out; have k0 := cell_of_row w7 w4.heap.size 0 _ _ _ hf2; have k1 := cell_of_row w7 w4.heap.size 1 _ _ _ hf2; have k2 := cell_of_row w7 w5.heap.size 0 _ _ _ hf1; have k3 := cell_of_row w7 w5.heap.size 1 _ _ _ hf1; simp only [List.getElem?_toArray, List.getElem?_cons_zero, List.getElem?_cons_succ] at k0 k1 k2 k3; clear hf1 hf2 hb7 ht7)
    | (go_at_call 19; refine (H19.out v6 v7 w7 HT67.out HT7.out).mono ?_; rintro e w8 ⟨rfl, hb8⟩; have HB8 := Lib.hid (HB7.out.trans (hb8.mono hs7)); have hs8 := HB8.out.size; clear hb8)
    | (go_at_call 10; refine (works_any w8 (HQ.out.later h0 HB8.out) (by omega)).mono ?_; rintro e w9 ⟨rfl, hb9⟩; have HB9 := Lib.hid (HB8.out.trans (hb9.mono hs8)); clear hb9))
  go_ret
  exact ⟨rfl, HB9.out⟩

end Go.Proofs.YtakdfjkkeilffaaDoor
