/- The examples. -/
import Derived.Test.YtakdfjkkeilffaaDoorW
import Derived.StillTailTactics
set_option linter.unusedVariables false
set_option linter.unusedSimpArgs false
namespace Go.Proofs.YtakdfjkkeilffaaDoor
open Go.RowKit


def itEx : It := .mk 3 0 ⟨#[]⟩ [.mk 1 300 ⟨#[]⟩ [], .mk 2 0 ⟨#[97, 98]⟩ []]
theorem gb_small (n : Nat) (h : n < 128) : gb n = [n] := by unfold gb; simp [h]
theorem gb_300 : gb 300 = [172, 2] := by unfold gb; simp [gb_small]
theorem enc_ex : encR itEx = (⟨#[3, 2, 1, 172, 2, 2, 2, 97, 98]⟩, 0) := by
  have hl : look 8 itEx = 0 := by decide
  have he : enc 8 itEx = [3, 2, 1, 172, 2, 2, 2, 97, 98] := by
    have hs : (⟨#[97, 98]⟩ : ByteArray).size = 2 := rfl
    simp [itEx, enc, gb_300, gb_small, nbytes, hs]
  unfold encR
  rw [if_neg (by omega), if_neg (by rw [he]; decide), he]
  rfl
theorem crc_ex : crcN [49, 50, 51, 52, 53, 54, 55, 56, 57] = 3421780262 := by decide
theorem short_ex : short 8 itEx := by
  simp [itEx, short]; decide
theorem holds_ex {w : World} {g c T : Nat} (h : w.heap[g]? = some (.cells #[.int .i64 1, .int .u64 300, .string ⟨#[]⟩, .slice none 0 0, .int .i64 2, .int .u64 0, .string ⟨#[97, 98]⟩, .slice none 0 0] T (0, 0))) :
    Holds w (.int .i64 3) (.int .u64 0) (.string ⟨#[]⟩) (.slice (some ⟨g, 0, none⟩) 2 c) itEx := by
  refine .mk 3 0 ⟨#[]⟩ (some ⟨g, 0, none⟩) c [.mk 1 300 ⟨#[]⟩ [], .mk 2 0 ⟨#[97, 98]⟩ []] (fun i => if i = 0 then (.int .i64 1, .int .u64 300, .string ⟨#[]⟩, .slice none 0 0) else (.int .i64 2, .int .u64 0, .string ⟨#[97, 98]⟩, .slice none 0 0)) (by omega) (by decide) (by simp) (fun _ => ⟨g, 0, rfl, fun i hi => ?_⟩) (fun i hi => ?_)
  · simp only [List.length_cons, List.length_nil] at hi
    have : i = 0 ∨ i = 1 := by omega
    rcases this with rfl | rfl <;> refine ⟨?_, ?_, ?_, ?_⟩ <;> (rw [cell_of_row _ _ _ _ _ _ h]; rfl)
  · simp only [List.length_cons, List.length_nil] at hi
    have : i = 0 ∨ i = 1 := by omega
    rcases this with rfl | rfl
    · exact .mk 1 300 ⟨#[]⟩ none 0 [] (fun _ => (.int .i64 0, .int .i64 0, .int .i64 0, .int .i64 0)) (by omega) (by decide) (by simp) (by simp) (by simp)
    · exact .mk 2 0 ⟨#[97, 98]⟩ none 0 [] (fun _ => (.int .i64 0, .int .i64 0, .int .i64 0, .int .i64 0)) (by omega) (by decide) (by simp) (by simp) (by simp)

theorem decode_ex (w : World) : Calls Tryd.prog 27 #[.string ⟨#[1, 128, 0]⟩] w fun e w' => e = .returned (.tuple #[zeroItem, .agg #[.int .i64 1, .int .i64 22]]) ∧ Below w.heap.size w w' :=
  decode_err ⟨#[1, 128, 0]⟩ 1 22 w (by decide) fun rb w h => read_bad 1 rb ⟨#[1, 128, 0]⟩ 0 1 22 0 0 w _ (by omega) (by decide) (by decide) h rfl (by omega) (by decide) (by decide) rfl

theorem Quarters.later {w w' : World} (h : Quarters w) (h0 : 0 < w.heap.size) (hb : Below w.heap.size w w') : Quarters w' := fun i hi => (hb.cell (p := ⟨0, i, none⟩) h0).trans (h i hi)

set_option maxRecDepth 100000 in
set_option maxHeartbeats 1600000 in
theorem works_any (w : World) (hq : Quarters w) (h0 : 0 < w.heap.size) : Calls Tryd.prog 10 #[] w fun e w' => e = .returned (.bool true) ∧ Below w.heap.size w w' := by
  have HQ := Lib.hid hq
  clear hq
  have HX := Lib.hid (encode_any _ _ _ _ itEx _ (holds_ex (c := 2) (heap_alloc_new w (.cells #[.int .i64 1, .int .u64 300, .string ⟨#[]⟩, .slice none 0 0, .int .i64 2, .int .u64 0, .string ⟨#[97, 98]⟩, .slice none 0 0] 57))) short_ex)
  have e1 : (ByteArray.mk #[3, 2, 1, 172, 2, 2, 2, 97, 98] == ByteArray.mk #[3, 2, 1, 172, 2, 2, 2, 97, 98]) = true := by decide
  go_enter Tryd.func10, Tryd.ntmps10
  go_wp2_with (first
    | (go_at_call 28; refine HX.out.mono ?_; rintro e w1 ⟨rfl, hb⟩; rw [enc_ex]; have HB1 := Lib.hid (below_then (below_al _ _) hb); have hq1 : Quarters w1 := (HQ.out.later h0 HB1.out); have hs1 := HB1.out.size; clear hb)
    | (go_at_call 27; refine (decode_ex _).mono ?_; rintro e w2 ⟨rfl, hb⟩; unfold zeroItem; have HB2 := Lib.hid (below_then HB1.out hb); have hs2 := HB2.out.size; clear hb)
    | (go_at_call 11; refine (crc_any _ _ (by decide) (HQ.out.later h0 (((HB2.out.alloc hs2 _).alloc (by simp; omega) _)))).mono ?_; rintro e w3 ⟨rfl, rfl⟩; rw [show (ByteArray.mk #[49, 50, 51, 52, 53, 54, 55, 56, 57]).data.toList = [49, 50, 51, 52, 53, 54, 55, 56, 57] from rfl, crc_ex]))
  go_ret
  exact ⟨rfl, (HB2.out.alloc hs2 _).alloc (by simp; omega) _⟩

end Go.Proofs.YtakdfjkkeilffaaDoor
