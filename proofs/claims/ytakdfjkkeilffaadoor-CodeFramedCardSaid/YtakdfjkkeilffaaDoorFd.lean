/- CodeFramed: a frame is found again. -/
import Derived.Test.YtakdfjkkeilffaaDoorZ
set_option linter.unusedVariables false
set_option linter.unusedSimpArgs false
namespace Go.Proofs.YtakdfjkkeilffaaDoor
open Go.RowKit

/-- frames, one behind the other, as bytes -/
def catL (l : List ByteArray) : List UInt8 := (l.map fun b => (frB b).data.toList).flatten

theorem frs_all (x : ByteArray) (T : List UInt8) (hT : T.length < 8) : ∀ (l : List ByteArray) (P : List UInt8) (p f : Nat), (∀ b ∈ l, b.size ≤ 262144) → x.data.toList = P ++ (catL l ++ T) → P.length = p → x.size - p < f →
    frs f x p = (l, p + (catL l).length) := by
  intro l
  induction l with
  | nil =>
    intro P p f _ hx hp hf
    cases f with
    | zero => omega
    | succ f =>
      have hxs : x.size = p + T.length := by rw [size_list, hx]; simp [catL, hp]
      have : (unN x p).2.2 ≠ (0, 0) := by
        unfold unN
        have hr : (x.extract p x.size).size < 8 := by simp; omega
        simp only
        rw [if_pos hr]
        simp
      simp only [frs]
      rw [if_neg this]
      simp [catL]
  | cons b r ih =>
    intro P p f hb hx hp hf
    cases f with
    | zero => omega
    | succ f =>
      have hc : catL (b :: r) = (frB b).data.toList ++ catL r := by simp [catL]
      rw [hc, List.append_assoc] at hx
      have hbs := hb b (by simp)
      have hu := unN_back x b p P (catL r ++ T) hx hp hbs
      have hxs : x.size = p + ((8 + b.size) + ((catL r).length + T.length)) := by
        rw [size_list, hx]
        have := frB_size b
        rw [size_list] at this
        simp only [List.length_append, hp, this]
      have e : frs (f + 1) x p = (b :: (frs f x (p + 8 + b.size)).1, (frs f x (p + 8 + b.size)).2) := by
        show (if (unN x p).2.2 = (0, 0) then _ else _) = _
        rw [hu, if_pos rfl, Int.toNat_natCast]
      rw [e, ih (P ++ (frB b).data.toList) (p + 8 + b.size) f (fun y hy => hb y (by simp [hy])) (by rw [hx]; simp) (by have := frB_size b; rw [size_list] at this; simp [hp, this]; omega) (by omega), hc]
      have := frB_size b
      rw [size_list] at this
      simp [this]; omega

theorem frames_all (x : ByteArray) (l : List ByteArray) (T : List UInt8) (hT : T.length < 8) (hl : ∀ b ∈ l, b.size ≤ 262144) (hx : x.data.toList = catL l ++ T) : framesR x = (l, (catL l).length) := by
  unfold framesR
  rw [frs_all x T hT l [] 0 (x.size + 1) hl (by rw [hx]; rfl) rfl (by omega)]
  simp

set_option maxRecDepth 100000 in
set_option maxHeartbeats 1600000 in
theorem framed_any (v : Value) (l : List ByteArray) (ha hb : ByteArray) (w : World) (hl : Texts w v l) (hha : ha.size ≤ 140737488355328) (hhb : hb.size ≤ 140737488355328) (hq : Quarters w) (h0 : 0 < w.heap.size) :
    Calls Tryd.prog 6 #[v, .string ha, .string hb] w fun e w' => e = .returned (.bool true) ∧ Below w.heap.size w w' := by
  obtain ⟨hll, hls, A, c, rfl, hA⟩ := hl
  have HTX : Hid (Texts w (.slice A l.length c) l) := ⟨hll, hls, A, c, rfl, hA⟩
  have HQ := Lib.hid hq
  have HWK := Lib.hid (works_any w hq h0)
  have HLS := Lib.hid hls
  clear hq hls
  obtain ⟨n, hn⟩ : ∃ n, n = l.length := ⟨_, rfl⟩
  rw [← hn]
  rw [← hn] at HTX hll
  have HA : Hid (0 < n → ∃ g o, A = some ⟨g, o, none⟩ ∧ ∀ i (h : i < l.length), w.cell? ⟨g, o + i, none⟩ = some (.string l[i])) := fun h => hA (by omega)
  clear hA
  have HN := Lib.hid hn
  clear hn
  by_cases h50 : 50 < n
  · have h50i : (50 : Int) < (n : Int) := by omega
    go_enter Tryd.func6, Tryd.ntmps6
    go_wp2_with (go_at_call 10; refine HWK.out.mono ?_; rintro e w1 ⟨rfl, hb1⟩; have HB1 := Lib.hid hb1; have hs1 := hb1.size; clear hb1)
    go_ret
    exact ⟨rfl, HB1.out⟩
  · have h50i : ¬ (50 : Int) < (n : Int) := by omega
    have hws : wrap64 ((ha.size : Int) + hb.size) = (ha.size : Int) + hb.size := by unfold wrap64; omega
    by_cases hbig : 262144 < ha.size + hb.size
    · have hbi : (262144 : Int) < (ha.size : Int) + hb.size := by omega
      go_enter Tryd.func6, Tryd.ntmps6
      go_wp2_with (go_at_call 10; refine HWK.out.mono ?_; rintro e w1 ⟨rfl, hb1⟩; have HB1 := Lib.hid hb1; have hs1 := hb1.size; clear hb1)
      go_ret
      exact ⟨rfl, HB1.out⟩
    · have hbi : ¬ (262144 : Int) < (ha.size : Int) + hb.size := by omega
      go_enter Tryd.func6, Tryd.ntmps6
      go_wp2_with (go_at_call 10; refine HWK.out.mono ?_; rintro e w1 ⟨rfl, hb1⟩; have HB1 := Lib.hid hb1; have hs1 := hb1.size; clear hb1)
      go_loopw [7, 34] (fun a i wr => ∃ k : Nat, ∃ x : ByteArray, k ≤ n ∧ i = .int .i64 k ∧ a = .string x ∧ x.size ≤ 600000 ∧ Hid (x.data.toList = catL (l.take k)) ∧ Hid (∀ b ∈ l.take k, b.size ≤ 262144) ∧ Hid (Below w.heap.size w wr)) (fun _ i _ => n - (intOf i).toNat)
      case atStart => exact ⟨0, ⟨#[]⟩, by omega, rfl, rfl, by decide, by show _ = _; simp [catL], by intro b hb; simp at hb, HB1.out⟩
      case round =>
        obtain ⟨k, x, hk, rfl, rfl, hxs, HX, HS, HB⟩ := hrel
        obtain ⟨wo, rfl⟩ : ∃ wo : World, wo = wr := ⟨_, rfl⟩
        have hso := HB.out.size
        by_cases hlt : k < n
        · have hkl : k < l.length := by have := HN.out; omega
          obtain ⟨g, o, rfl, hc⟩ := HA.out (by omega)
          obtain ⟨y, hy⟩ : ∃ y, y = l[k] := ⟨_, rfl⟩
          have d0 := hc k hkl
          rw [← hy] at d0
          replace d0 := (HB.out.cell (World.block_lt_of_cell? w _ d0)).trans d0
          clear hc
          have HY := Lib.hid hy
          clear hy
          have HF := Lib.hid (frame_any y wo (HQ.out.later h0 HB.out) (by omega))
          by_cases hyb : 262144 < y.size
          · have hyi : (262144 : Int) < (y.size : Int) := by omega
            have HF2 : Hid (Calls Tryd.prog 12 #[.string y] wo fun e w' => e = .returned (.tuple #[.string ⟨#[]⟩, .int .i64 2]) ∧ Below wo.heap.size wo w') := by
              have h := HF.out
              rw [show frR y = (⟨#[]⟩, 2) from by unfold frR; rw [if_pos hyb]] at h
              exact h
            clear HF
            go_wp2_with (go_at_call 12; refine HF2.out.mono ?_; rintro e w2 ⟨rfl, hb2⟩; have HB2 := Lib.hid (HB.out.trans (hb2.mono hso)); clear hb2)
            go_ret
            exact ⟨rfl, HB2.out⟩
          · have hyi : ¬ (262144 : Int) < (y.size : Int) := by omega
            obtain ⟨s, hs⟩ : ∃ s, s = frB y := ⟨_, rfl⟩
            have HF2 : Hid (Calls Tryd.prog 12 #[.string y] wo fun e w' => e = .returned (.tuple #[.string s, .int .i64 0]) ∧ Below wo.heap.size wo w') := by
              have h := HF.out
              rw [show frR y = (s, 0) from by unfold frR; rw [if_neg hyb, hs]] at h
              exact h
            have hss : s.size = 8 + y.size := by rw [hs, frB_size]
            have HS1 := Lib.hid hs
            clear HF hs
            by_cases hxb : 262144 < x.size
            · have hxi : (262144 : Int) < (x.size : Int) := by omega
              go_wp2_with (go_at_call 12; refine HF2.out.mono ?_; rintro e w2 ⟨rfl, hb2⟩; have HB2 := Lib.hid (HB.out.trans (hb2.mono hso)); clear hb2)
              go_ret
              exact ⟨rfl, HB2.out⟩
            · have hxi : ¬ (262144 : Int) < (x.size : Int) := by omega
              have hzs : (ha ++ s ++ hb).size ≤ 140737488355328 := by simp; omega
              have hun : unR (ha ++ s ++ hb) (ha.size : Int) = (y, (ha.size : Int) + (s.size : Int), 0, 0) := by
                have e : unR (ha ++ s ++ hb) (ha.size : Int) = unN (ha ++ s ++ hb) ha.size := by unfold unR; rw [if_neg (by simp; omega), Int.toNat_natCast]
                rw [e, unN_back (ha ++ s ++ hb) y ha.size ha.data.toList hb.data.toList (by rw [← HS1.out]; simp) (by simp) (by omega), hss]
                congr 2
                omega
              have HU : Hid (∀ w, Quarters w → 0 < w.heap.size → Calls Tryd.prog 13 #[.string (ha ++ s ++ hb), .int .i64 (ha.size : Int)] w fun e w' => e = .returned (.tuple #[.string y, .int .i64 ((ha.size : Int) + (s.size : Int)), .agg #[.int .i64 0, .int .i64 0]]) ∧ Below w.heap.size w w') := by
                intro w h1 h2
                have := unframe_any (ha ++ s ++ hb) (ha.size : Int) w hzs h1 h2
                unfold UnPost at this
                rw [hun] at this
                exact this
              have HSS := Lib.hid hss
              have hs0 : s.size ≤ 300000 := by omega
              have hap : ha.size ≤ 262144 := by omega
              have hbp : hb.size ≤ 262144 := by omega
              clear hws
              have hyy : (y.toList == y.toList) = true := beq_self_eq_true _
              clear hun hss hzs
              go_wp2_with (first
                | (go_at_call 12; refine HF2.out.mono ?_; rintro e w2 ⟨rfl, hb2⟩; have HB2 := Lib.hid (HB.out.trans (hb2.mono hso)); have hs2 := HB2.out.size; clear hb2)
                | (go_at_call 13; refine (HU.out w2 (HQ.out.later h0 HB2.out) (by omega)).mono ?_; rintro e w3 ⟨rfl, hb3⟩; have HB3 := Lib.hid (HB2.out.trans (hb3.mono hs2)); have hs3 := HB3.out.size; clear hb3))
              go_roundw
              case rel =>
                refine ⟨k + 1, x ++ s, by omega, by go_num, rfl, by simp; omega, ?_, ?_, HB3.out.alloc hs3 _⟩
                · show _ = _
                  rw [List.take_succ_eq_append_getElem hkl, ← HY.out]
                  have h := HX.out
                  simp only [ByteArray.data_append, Array.toList_append, h, HS1.out]
                  simp [catL]
                · intro b hb
                  rw [List.take_succ_eq_append_getElem hkl, List.mem_append] at hb
                  rcases hb with hb | hb
                  · exact HS.out b hb
                  · simp at hb; rw [hb, ← HY.out]; omega
              case measure => simp [intOf]; omega
        · obtain rfl : k = n := by omega
          have htk : l.take k = l := List.take_of_length_le (by have := HN.out; omega)
          have hxl := HX.out
          have hsl := HS.out
          rw [htk] at hxl hsl
          obtain ⟨z, hz⟩ : ∃ z : ByteArray, z = x ++ ByteArray.mk #[255, 255, 255, 255] := ⟨_, rfl⟩
          have hzs : z.size = x.size + 4 := by rw [hz]; simp; rfl
          have hxn : (catL l).length = x.size := by rw [size_list, hxl]
          have HF1 : Hid (∀ w, Quarters w → 0 < w.heap.size → Calls Tryd.prog 17 #[.string x] w (FrPost w (l, x.size))) := by
            intro w h1 h2
            have := frames_any x w (by omega) h1 h2
            rwa [frames_all x l [] (by simp) hsl (by rw [hxl]; simp), hxn] at this
          have HF2 : Hid (∀ w, Quarters w → 0 < w.heap.size → Calls Tryd.prog 17 #[.string z] w (FrPost w (l, x.size))) := by
            intro w h1 h2
            have := frames_any z w (by omega) h1 h2
            rwa [frames_all z l [255, 255, 255, 255] (by simp) hsl (by rw [hz]; simp [hxl]), hxn] at this
          have HSL : Hid (∀ s ∈ l, s.size ≤ 9223372036854775807) := fun s hs => by have := hsl s hs; omega
          have hsz4 : (ByteArray.mk #[255, 255, 255, 255]).size = 4 := rfl
          clear hxl hsl htk hzs hxn
          go_upto_region 18 with (go_at_call 17; refine (HF1.out wo (HQ.out.later h0 HB.out) (by omega)).mono ?_; rintro e w2 ⟨v1, rfl, hr1, hb2⟩; have HR1 := Lib.hid (Texts.of_row hr1 HSL.out); have HB2 := Lib.hid (HB.out.trans (hb2.mono hso)); have hs2 := HB2.out.size; clear hr1 hb2)
          have HSM : Hid (∀ v w2, Texts w2 v l → Below w.heap.size w w2 → Calls Tryd.prog 19 #[v, .slice A k c] w2 fun e w' => e = .returned (.bool true) ∧ Below w2.heap.size w2 w') := by
            intro v w2 h1 h2
            have := same_any v (.slice A k c) l l w2 h1 (HTX.out.later h2)
            rwa [decide_eq_true (show l = l from rfl)] at this
          clear hws
          go_wp2_with (first
            | (go_at_call 17; rw [← hz]; refine (HF2.out w2 (HQ.out.later h0 HB2.out) (by omega)).mono ?_; rintro e w3 ⟨v3, rfl, hr3, hb3⟩; have HR3 := Lib.hid (Texts.of_row hr3 HSL.out); have HR13 := Lib.hid (HR1.out.later hb3); have HB3 := Lib.hid (HB2.out.trans (hb3.mono hs2)); have hs3 := HB3.out.size; clear hr3 hb3)
            | (go_at_call 19; refine (HSM.out v3 w4 (HR3.out.later HB34.out) (HB3.out.trans (HB34.out.mono hs3))).mono ?_; rintro e w5 ⟨rfl, hb5⟩; have HB5 := Lib.hid ((HB3.out.trans (HB34.out.mono hs3)).trans (hb5.mono (Nat.le_trans hs3 HB34.out.size))); clear hb5)
            | (go_at_call 19; refine (HSM.out v1 w3 HR13.out HB3.out).mono ?_; rintro e w4 ⟨rfl, hb4⟩; have HB34 := Lib.hid hb4; clear hb4))
          go_ret
          exact ⟨rfl, HB5.out⟩

end Go.Proofs.YtakdfjkkeilffaaDoor
