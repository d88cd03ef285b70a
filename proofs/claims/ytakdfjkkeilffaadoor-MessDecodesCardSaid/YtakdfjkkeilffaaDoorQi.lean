/- The chapter's example. -/
import Derived.Test.YtakdfjkkeilffaaDoorQh
import Derived.Test.YtakdfjkkeilffaaDoorMj
set_option linter.unusedVariables false
set_option linter.unusedSimpArgs false
namespace Go.Proofs.YtakdfjkkeilffaaDoor
open Go.RowKit

theorem decM_facts {b : ByteArray} {m : Msg} (h : decM b = .ok m) : mayM m = true ∧ longM m = false ∧ Fits m := by
  unfold decM at h
  split at h
  · cases h
  · rename_i x hx
    split at h
    · cases h
    · rename_i m' hm
      simp only [Except.ok.injEq] at h
      subst h
      obtain ⟨h1, h2, h3⟩ := dec_back hx
      obtain ⟨_, h4, h5, h6⟩ := msg_back h1 hm
      exact ⟨h4, h5, h6⟩
theorem num_in {m : Msg} (h : mayM m = true) (i : Nat) (hi : i < 7) : inI (m.num i) := by
  unfold mayM at h
  simp only [Bool.and_eq_true, List.all_eq_true, List.mem_range] at h
  have := h.1.1.2 i hi
  unfold okF mostN at this
  simp at this
  unfold inI
  split at this <;> omega
theorem MsgOwn.msgIn {base : Nat} {W : World} {a b c : Value} {m : Msg} (h : MsgOwn base W a b c m) (hm : mayM m = true) (hl : longM m = false) (hf : Fits m) : MsgIn W a b c m := by
  obtain ⟨l1, l2, l3, l4, l5, l6, l7, l8⟩ := may_facts hl hm
  obtain ⟨vs, hv⟩ := h.ms
  have hmm := hm
  unfold mayM at hmm
  simp only [Bool.and_eq_true, List.all_eq_true] at hmm
  exact ⟨Nums.of_row h.ws, hv.mats l2 (fun y hy => ⟨hmm.1.2 y hy, hf.ml y hy⟩), Nums.of_row h.ds, hf.wl, hf.dl, by unfold inI; omega,
    num_in hm 0 (by decide), num_in hm 1 (by decide), num_in hm 2 (by decide), num_in hm 3 (by decide), num_in hm 4 (by decide), num_in hm 5 (by decide), num_in hm 6 (by decide)⟩

def M0 : Msg := ⟨2, 1, 2, 3, 0, 0, 0, 0, [], [], [0, 18446744073709551615]⟩
theorem M0_fits : Fits M0 := ⟨by simp [M0], by simp [M0], by simp [M0]⟩
theorem gb_inf : (gb 18446744073709551615).length = 10 := by
  iterate 9 rw [gb_ge _ (by decide)]
  rw [gb_lt _ (by decide)]
  rfl
theorem M0_enc : ∃ s : ByteArray, encM M0 = (s, 0) ∧ s.size = 25 := by
  have e : msgIt M0 = itList [itNum 2, itNum 1, itNum 2, itNum 3, itList [itNum 0, itNum 18446744073709551615]] := rfl
  have hl : look 8 (msgIt M0) = 0 := by rw [e]; rfl
  have hlen : (enc 8 (msgIt M0)).length = 25 := by
    rw [e]
    have g0 : gb 0 = [0] := gb_lt 0 (by decide)
    have g1 : gb 1 = [1] := gb_lt 1 (by decide)
    have g2 : gb 2 = [2] := gb_lt 2 (by decide)
    have g3 : gb 3 = [3] := gb_lt 3 (by decide)
    have g5 : gb 5 = [5] := gb_lt 5 (by decide)
    simp [enc, itList, itNum, g0, g1, g2, g3, g5, gb_inf]
  refine ⟨ofN (enc 8 (msgIt M0)), ?_, ?_⟩
  · unfold encM
    rw [if_neg (by decide), if_pos (by decide)]
    unfold encR
    rw [if_neg (by rw [hl]; decide), if_neg (by rw [hlen]; decide)]
  · show ((enc 8 (msgIt M0)).map UInt8.ofNat).toArray.size = _
    simp [hlen]
theorem dec15 : decM ⟨#[1, 5]⟩ = .error (0, 200) := by
  have h : encR (itNum 5) = (⟨#[1, 5]⟩, 0) := by
    have e : enc 8 (itNum 5) = [1, 5] := by simp [enc, itNum, gb_lt]
    unfold encR
    rw [e, if_neg (by decide), if_neg (by decide)]
    rfl
  have := dec_there (short_num 8 5) (small_num 8 5 (by decide)) h
  unfold decM
  rw [this]
  rfl

end Go.Proofs.YtakdfjkkeilffaaDoor
