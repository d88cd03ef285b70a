/- CodeTorn: a torn frame is found. -/
import Derived.Test.YtakdfjkkeilffaaDoorV
import Derived.Lib.ConvBytes
set_option linter.unusedVariables false
set_option linter.unusedSimpArgs false
namespace Go.Proofs.YtakdfjkkeilffaaDoor
open Go.RowKit

theorem torn_at (x L : Int) (hL : 8 ≤ L) (hL2 : L ≤ 300000) : ∃ j : Nat, wrap64 (4 + wrap64 ((IntKind.u64.wrap x).tmod (L - 4))) = (j : Int) ∧ 4 ≤ j ∧ (j : Int) < L := by
  obtain ⟨a, ha⟩ : ∃ a, a = IntKind.u64.wrap x := ⟨_, rfl⟩
  have ha0 : 0 ≤ a := by rw [ha, IntKind.wrap_u64]; omega
  obtain ⟨m, hm⟩ : ∃ m, m = a.tmod (L - 4) := ⟨_, rfl⟩
  rw [← ha, ← hm]
  rw [Int.tmod_eq_emod_of_nonneg ha0] at hm
  have h1 : 0 ≤ m := by rw [hm]; exact Int.emod_nonneg _ (by omega)
  have h2 : m < L - 4 := by rw [hm]; exact Int.emod_lt_of_pos _ (by omega)
  clear hm ha ha0
  have e1 : wrap64 m = m := by unfold wrap64; omega
  rw [e1]
  refine ⟨(4 + m).toNat, ?_, by omega, by omega⟩
  have e2 : wrap64 (4 + m) = 4 + m := by unfold wrap64; omega
  rw [e2]; omega
theorem cell_of_row' {w : World} {g i : Nat} {cs : Array Value} {t : TypeId} {fz : Nat × Nat} (h : w.heap[g]? = some (.cells cs t fz)) : w.cell? ⟨g, i, none⟩ = cs[i]? := by
  simp [World.cell?, h]
theorem setCell_same_fz (w : World) (g i : Nat) (cs : Array Value) (t : TypeId) (fz : Nat × Nat) (v : Value) (hg : w.heap[g]? = some (.cells cs t fz)) :
    (w.setCell ⟨g, i, none⟩ v).heap[g]? = some (.cells (cs.setIfInBounds i v) t fz) := by
  rw [setCell_eq_setRow w g i cs t fz v hg]
  exact setRow_heap w g cs _ t _ hg
theorem bytes_len (w : World) (e : TypeId) (s : ByteArray) : s.size ≤ (Lib.bytesCells w e s).size := by
  unfold Lib.bytesCells; simp
theorem hcb (s : ByteArray) (w : World) : (convert 9 23 (.string s)).run Tryd.prog w = .ok (.slice (some ⟨w.heap.size, 0, none⟩) s.size (grownCap w s.size 0 5)) (Lib.bytesWorld w 5 s) :=
  Lib.run_convert_string_bytes w 9 23 5 s t9 t23 (by kernel_rfl)

set_option maxRecDepth 100000 in
set_option maxHeartbeats 1600000 in
theorem torn_any (b : ByteArray) (at_ by_ : Int) (w : World) (hat : -9223372036854775808 ≤ at_ ∧ at_ ≤ 9223372036854775807) (hby : 0 ≤ by_ ∧ by_ ≤ 255) (hb : b.size ≤ 140737488355328) (hq : Quarters w) (h0 : 0 < w.heap.size) :
    Calls Tryd.prog 4 #[.string b, .int .i64 at_, .int .u8 by_] w fun e w' => e = .returned (.bool true) ∧ Below w.heap.size w w' := by
  have HQ := Lib.hid hq
  have HWK := Lib.hid (works_any w hq h0)
  clear hq
  by_cases hbig : 262144 < b.size
  · have hf : frR b = (⟨#[]⟩, 2) := by unfold frR; rw [if_pos hbig]
    have HF : Hid (∀ w, Quarters w → 0 < w.heap.size → Calls Tryd.prog 12 #[.string b] w fun e w' => e = .returned (.tuple #[.string ⟨#[]⟩, .int .i64 2]) ∧ Below w.heap.size w w') := by
      intro w h1 h2
      have := frame_any b w h1 h2
      rw [hf] at this
      exact this
    clear hf
    have e1 : (ByteArray.mk #[] == ByteArray.mk #[]) = true := by decide
    go_enter Tryd.func4, Tryd.ntmps4
    go_wp2_with (first
      | (go_at_call 10; refine HWK.out.mono ?_; rintro e w1 ⟨rfl, hb1⟩; have HB1 := Lib.hid hb1; have hs1 := hb1.size; clear hb1)
      | (go_at_call 12; refine (HF.out w1 (HQ.out.later h0 HB1.out) (by omega)).mono ?_; rintro e w2 ⟨rfl, hb2⟩; have HB2 := Lib.hid (HB1.out.trans (hb2.mono hs1)); clear hb2))
    go_ret
    exact ⟨rfl, HB2.out⟩
  · obtain ⟨s, hs⟩ : ∃ s, s = frB b := ⟨_, rfl⟩
    have hf : frR b = (s, 0) := by unfold frR; rw [if_neg hbig, hs]
    have HF : Hid (∀ w, Quarters w → 0 < w.heap.size → Calls Tryd.prog 12 #[.string b] w fun e w' => e = .returned (.tuple #[.string s, .int .i64 0]) ∧ Below w.heap.size w w') := by
      intro w h1 h2
      have := frame_any b w h1 h2
      rw [hf] at this
      exact this
    clear hf
    have hss : s.size = 8 + b.size := by rw [hs, frB_size]
    obtain ⟨y, hy⟩ : ∃ y, y = s.extract 0 (s.size - 1) := ⟨_, rfl⟩
    obtain ⟨u1, u2, u3, hu⟩ : ∃ u1 u2 u3, unR y 0 = (u1, u2, u3, 23) := by
      have h := unN_early b (by omega)
      rw [← hs, ← hy] at h
      have e : unR y 0 = unN y 0 := by unfold unR; rw [if_neg (by omega)]; rfl
      refine ⟨(unN y 0).1, (unN y 0).2.1, (unN y 0).2.2.1, ?_⟩
      rw [e, ← h]
    have hys : y.size ≤ 300000 := by rw [hy]; simp; omega
    have HU : Hid (∀ w, Quarters w → 0 < w.heap.size → Calls Tryd.prog 13 #[.string y, .int .i64 0] w fun e w' => e = .returned (.tuple #[.string u1, .int .i64 u2, .agg #[.int .i64 u3, .int .i64 23]]) ∧ Below w.heap.size w w') := by
      intro w h1 h2
      have := unframe_any y 0 w (by omega) h1 h2
      unfold UnPost at this
      rw [hu] at this
      exact this
    clear hu
    have HS := Lib.hid hs
    clear hs
    have hsb : s.size ≤ 300000 := by omega
    have hs8 : 8 ≤ s.size := by omega
    have hw1 : wrap64 ((s.size : Int) - 1) = (s.size : Int) - 1 := by unfold wrap64; omega
    have hw4 : wrap64 ((s.size : Int) - 4) = (s.size : Int) - 4 := by unfold wrap64; omega
    have htn : ((s.size : Int) - 1).toNat = s.size - 1 := by omega
    have hyx : s.extract 0 (s.size - 1) = y := hy.symm
    have HSS := Lib.hid hss
    clear hy hss
    go_enter Tryd.func4, Tryd.ntmps4
    go_upto_region 11 with (first
      | (go_at_call 10; refine HWK.out.mono ?_; rintro e w1 ⟨rfl, hb1⟩; have HB1 := Lib.hid hb1; have hs1 := hb1.size; clear hb1)
      | (go_at_call 12; refine (HF.out w1 (HQ.out.later h0 HB1.out) (by omega)).mono ?_; rintro e w2 ⟨rfl, hb2⟩; have HB2 := Lib.hid (HB1.out.trans (hb2.mono hs1)); have hs2 := HB2.out.size; clear hb2)
      | (go_at_call 13; refine (HU.out w2 (HQ.out.later h0 HB2.out) (by omega)).mono ?_; rintro e w3 ⟨rfl, hb3⟩; have HB3 := Lib.hid (HB2.out.trans (hb3.mono hs2)); have hs3 := HB3.out.size; clear hb3))
    · obtain ⟨v, hv⟩ : ∃ v : Nat, v = 1 := ⟨_, rfl⟩
      have hv1 : 0 < v := by omega
      have hv2 : v < 256 := by omega
      rw [show (Value.int .u8 1) = Value.int .u8 (v : Nat) from by rw [hv]; rfl]
      clear hv
      obtain ⟨j, hj, hj4, hjl⟩ := torn_at at_ s.size (by omega) (by omega)
      have HAT := Lib.hid hat
      have HBY := Lib.hid hby
      have hnz : ¬ ((s.size : Int) - 4 = 0) := by omega
      have hwu : IntKind.u64.wrap ((s.size : Int) - 4) = (s.size : Int) - 4 := by rw [IntKind.wrap_u64]; omega
      have HJ := Lib.hid hj
      clear hat hby hj
      go_upto_region 12 with (fail)
      rw [HJ.out]
      clear HJ hnz hwu
      generalize (IntKind.u64.wrap at_).tmod (↑s.size - 4) = tt
      generalize wrap64 tt = tt2
      have hcv := hcb s
      go_upto_region 13 with (fail)
      clear hcv
      obtain ⟨cap, hcap⟩ : ∃ cap, cap = grownCap (w3.alloc (.cells #[.int .i64 u3, .int .i64 23] 31)) s.size 0 5 := ⟨_, rfl⟩
      obtain ⟨W5, hW5⟩ : ∃ W5, W5 = Lib.bytesWorld (w3.alloc (.cells #[.int .i64 u3, .int .i64 23] 31)) 5 s := ⟨_, rfl⟩
      have hws : (w3.alloc (.cells #[.int .i64 u3, .int .i64 23] 31)).heap.size = w3.heap.size + 1 := by simp
      have hfb : W5.heap[w3.heap.size]? = some (.cells #[.int .i64 u3, .int .i64 23] 31 (0, 0)) := by
        rw [hW5, Lib.bytesWorld_at_old _ _ _ _ (by rw [hws]; omega)]; exact heap_alloc_new _ _
      obtain ⟨cur, hcur⟩ : ∃ cur, cur = Lib.bytesCells (w3.alloc (.cells #[.int .i64 u3, .int .i64 23] 31)) 5 s := ⟨_, rfl⟩
      have hxb : W5.heap[w3.heap.size + 1]? = some (.cells cur 5 (cur.size, cur.size + 1)) := by
        have := Lib.bytesWorld_at_new (w3.alloc (.cells #[.int .i64 u3, .int .i64 23] 31)) 5 s
        rw [hws] at this
        rw [hW5, hcur]; exact this
      have hcl : s.size ≤ cur.size := by rw [hcur]; exact bytes_len _ _ _
      have hci : ∀ i, i < s.size → W5.cell? ⟨w3.heap.size + 1, i, none⟩ = some (.int .u8 ((s.data.toList.getD i 0).toNat : Nat)) := fun i hi => by
        have := Lib.bytesWorld_cell (w3.alloc (.cells #[.int .i64 u3, .int .i64 23] 31)) 5 s i hi
        rw [hws] at this
        rw [hW5]; exact this
      have HB5 : Hid (Below w.heap.size w W5) := by
        show Below _ _ _
        rw [hW5]
        exact (HB3.out.alloc hs3 _).trans ⟨rfl, rfl, rfl, by rw [Lib.bytesWorld_size]; omega, fun k hk => Lib.bytesWorld_at_old _ _ _ _ (by rw [hws]; omega)⟩
      rw [← hW5, ← hcap]
      obtain ⟨xb, hxbb⟩ : ∃ xb, xb = w3.heap.size + 1 := ⟨_, rfl⟩
      obtain ⟨fb, hfbb⟩ : ∃ fb, fb = w3.heap.size := ⟨_, rfl⟩
      rw [← hxbb] at hxb hci
      rw [← hfbb] at hfb
      rw [← hxbb, ← hfbb]
      have hfx : fb ≠ xb := by omega
      have hgefb : w.heap.size ≤ fb := by omega
      have hgexb : w.heap.size ≤ xb := by omega
      clear hW5 hcap hcur hws hxbb hfbb
      obtain ⟨sj, hsj⟩ : ∃ sj, sj = (s.data.toList.getD j 0).toNat := ⟨_, rfl⟩
      have hsjl : sj < 256 := by rw [hsj]; exact UInt8.toNat_lt _
      have d0 := hci j (by omega)
      rw [← hsj] at d0
      have d1 : W5.frozen? ⟨xb, j, none⟩ = false := by simp only [World.frozen?, hxb]; simp; omega
      obtain ⟨ev, hev⟩ : ∃ ev, ev = sj ^^^ v := ⟨_, rfl⟩
      have hevl : ev < 256 := by rw [hev]; exact Nat.xor_lt_two_pow (n := 8) hsjl hv2
      have e1 : bits .xor .u8 (sj : Int) (v : Int) = (ev : Int) := by rw [u8_xor_nat _ _ hsjl hv2, hev]
      have hjn : j < s.size := by omega
      have HEV := Lib.hid hev
      have HSJ := Lib.hid hsj
      have HCI := Lib.hid hci
      have HFB := Lib.hid hfb
      have HXB := Lib.hid hxb
      clear hev hsj hci hfb hxb
      go_upto_region 14 with (fail)
      obtain ⟨W6, hW6⟩ : ∃ W6, W6 = W5.setCell ⟨xb, j, none⟩ (.int .u8 ev) := ⟨_, rfl⟩
      rw [← hW6]
      have HB6 : Hid (Below w.heap.size w W6) := by show Below _ _ _; rw [hW6]; exact HB5.out.setCell hgexb _
      have hfb6 : Hid (W6.heap[fb]? = some (.cells #[.int .i64 u3, .int .i64 23] 31 (0, 0))) := by
        show _ = _
        rw [hW6, Below.heap_setCell _ _ _ _ hfx]; exact HFB.out
      obtain ⟨x, hx⟩ : ∃ x : ByteArray, x = strOfNums ((s.data.toList.set j (UInt8.ofNat ev)).map fun c => ((c.toNat : Nat) : Int)) := ⟨_, rfl⟩
      have hcx : (convert 23 9 (.slice (some ⟨xb, 0, none⟩) s.size cap)).run Tryd.prog W6 = .ok (.string x) W6 := by
        rw [hx]
        refine run_convert_bytes_arg W6 23 5 t23 (by kernel_rfl) xb 0 s.size cap _ (by simp) (fun i hi => ?_) 9 t9
        rw [Nat.zero_add, hW6]
        have hxb6 := setCell_same_fz W5 xb j cur 5 (cur.size, cur.size + 1) (.int .u8 ev) HXB.out
        have hil : i < s.data.toList.length := by simpa using hi
        by_cases e : i = j
        · subst e
          rw [cell_of_row' hxb6, Array.getElem?_setIfInBounds, if_pos rfl, if_pos (by omega)]
          simp [List.getD_eq_getElem?_getD, hi]; omega
        · rw [cell_of_row' hxb6, Array.getElem?_setIfInBounds, if_neg (by omega), ← cell_of_row' HXB.out, HCI.out i hi]
          simp only [List.getD_eq_getElem?_getD, List.getElem?_map, List.getElem?_set, if_neg (Ne.symm e), List.getElem?_eq_getElem hil]
          rfl
      have hxd : x.data.toList = s.data.toList.set j (UInt8.ofNat ev) := by
        rw [hx, strOfNums_data, List.map_map]
        have h : (s.data.toList.set j (UInt8.ofNat ev)).map ((fun n : Int => UInt8.ofNat n.toNat) ∘ fun c : UInt8 => ((c.toNat : Nat) : Int)) = (s.data.toList.set j (UInt8.ofNat ev)).map id := List.map_congr_left fun a _ => by simp
        rw [h, List.map_id]
      have hxs : x.size = s.size := by rw [size_list, hxd, List.length_set, ← size_list]
      have hun : unR x 0 = (⟨#[]⟩, 0, 0, 25) := by
        have e : unR x 0 = unN x 0 := by unfold unR; rw [if_neg (by omega)]; rfl
        rw [e]
        have hs := HS.out
        refine unN_torn x b j (UInt8.ofNat ev) (by omega) hj4 (by rw [← hs]; omega) (by rw [← hs]; exact hxd) ?_
        rw [← hs]
        intro h
        have h2 := congrArg UInt8.toNat h
        rw [← HSJ.out, HEV.out] at h2
        have h3 : (UInt8.ofNat (sj ^^^ v)).toNat = sj ^^^ v := by
          rw [← HEV.out, UInt8.toNat_ofNat', Nat.mod_eq_of_lt hevl]
        rw [h3] at h2
        have h4 : sj ^^^ sj = sj ^^^ (sj ^^^ v) := by rw [← h2]
        rw [Nat.xor_self, ← Nat.xor_assoc, Nat.xor_self, Nat.zero_xor] at h4
        omega
      have HU2 : Hid (Calls Tryd.prog 13 #[.string x, .int .i64 0] W6 fun e w' => e = .returned (.tuple #[.string ⟨#[]⟩, .int .i64 0, .agg #[.int .i64 0, .int .i64 25]]) ∧ Below W6.heap.size W6 w') := by
        have := unframe_any x 0 W6 (by omega) (HQ.out.later h0 HB6.out) (by have := HB6.out.size; omega)
        unfold UnPost at this
        rw [hun] at this
        exact this
      clear hxd hun hx hW6 d0 d1
      go_wp2_with (go_at_call 13; refine HU2.out.mono ?_; rintro e w7 ⟨rfl, hb7⟩; have HB7 := Lib.hid (HB6.out.trans (hb7.mono HB6.out.size)); have hf7 := (hb7.block fb (lt_of_block hfb6.out)).trans hfb6.out; have k0 := cell_of_row w7 fb 0 _ _ _ hf7; have k1 := cell_of_row w7 fb 1 _ _ _ hf7; have kf : ∀ i, w7.frozen? ⟨fb, i, none⟩ = false := (fun i => by { simp only [World.frozen?, hf7]; rfl }); simp only [List.getElem?_toArray, List.getElem?_cons_zero, List.getElem?_cons_succ] at k0 k1; clear hb7 hf7)
      go_ret
      exact ⟨rfl, (HB7.out.setCell hgefb _).setCell hgefb _⟩
    · obtain ⟨v, hv⟩ : ∃ v : Nat, by_ = v := ⟨by_.toNat, by omega⟩
      subst hv
      rename_i hnz0
      have hv1 : 0 < v := by
        have h := ne_of_beq_false hnz0
        omega
      have hv2 : v < 256 := by omega
      obtain ⟨j, hj, hj4, hjl⟩ := torn_at at_ s.size (by omega) (by omega)
      have HAT := Lib.hid hat
      have HBY := Lib.hid hby
      have hnz : ¬ ((s.size : Int) - 4 = 0) := by omega
      have hwu : IntKind.u64.wrap ((s.size : Int) - 4) = (s.size : Int) - 4 := by rw [IntKind.wrap_u64]; omega
      have HJ := Lib.hid hj
      clear hat hby hj
      go_upto_region 12 with (fail)
      rw [HJ.out]
      clear HJ hnz hwu
      generalize (IntKind.u64.wrap at_).tmod (↑s.size - 4) = tt
      generalize wrap64 tt = tt2
      have hcv := hcb s
      go_upto_region 13 with (fail)
      clear hcv
      obtain ⟨cap, hcap⟩ : ∃ cap, cap = grownCap (w3.alloc (.cells #[.int .i64 u3, .int .i64 23] 31)) s.size 0 5 := ⟨_, rfl⟩
      obtain ⟨W5, hW5⟩ : ∃ W5, W5 = Lib.bytesWorld (w3.alloc (.cells #[.int .i64 u3, .int .i64 23] 31)) 5 s := ⟨_, rfl⟩
      have hws : (w3.alloc (.cells #[.int .i64 u3, .int .i64 23] 31)).heap.size = w3.heap.size + 1 := by simp
      have hfb : W5.heap[w3.heap.size]? = some (.cells #[.int .i64 u3, .int .i64 23] 31 (0, 0)) := by
        rw [hW5, Lib.bytesWorld_at_old _ _ _ _ (by rw [hws]; omega)]; exact heap_alloc_new _ _
      obtain ⟨cur, hcur⟩ : ∃ cur, cur = Lib.bytesCells (w3.alloc (.cells #[.int .i64 u3, .int .i64 23] 31)) 5 s := ⟨_, rfl⟩
      have hxb : W5.heap[w3.heap.size + 1]? = some (.cells cur 5 (cur.size, cur.size + 1)) := by
        have := Lib.bytesWorld_at_new (w3.alloc (.cells #[.int .i64 u3, .int .i64 23] 31)) 5 s
        rw [hws] at this
        rw [hW5, hcur]; exact this
      have hcl : s.size ≤ cur.size := by rw [hcur]; exact bytes_len _ _ _
      have hci : ∀ i, i < s.size → W5.cell? ⟨w3.heap.size + 1, i, none⟩ = some (.int .u8 ((s.data.toList.getD i 0).toNat : Nat)) := fun i hi => by
        have := Lib.bytesWorld_cell (w3.alloc (.cells #[.int .i64 u3, .int .i64 23] 31)) 5 s i hi
        rw [hws] at this
        rw [hW5]; exact this
      have HB5 : Hid (Below w.heap.size w W5) := by
        show Below _ _ _
        rw [hW5]
        exact (HB3.out.alloc hs3 _).trans ⟨rfl, rfl, rfl, by rw [Lib.bytesWorld_size]; omega, fun k hk => Lib.bytesWorld_at_old _ _ _ _ (by rw [hws]; omega)⟩
      rw [← hW5, ← hcap]
      obtain ⟨xb, hxbb⟩ : ∃ xb, xb = w3.heap.size + 1 := ⟨_, rfl⟩
      obtain ⟨fb, hfbb⟩ : ∃ fb, fb = w3.heap.size := ⟨_, rfl⟩
      rw [← hxbb] at hxb hci
      rw [← hfbb] at hfb
      rw [← hxbb, ← hfbb]
      have hfx : fb ≠ xb := by omega
      have hgefb : w.heap.size ≤ fb := by omega
      have hgexb : w.heap.size ≤ xb := by omega
      clear hW5 hcap hcur hws hxbb hfbb
      obtain ⟨sj, hsj⟩ : ∃ sj, sj = (s.data.toList.getD j 0).toNat := ⟨_, rfl⟩
      have hsjl : sj < 256 := by rw [hsj]; exact UInt8.toNat_lt _
      have d0 := hci j (by omega)
      rw [← hsj] at d0
      have d1 : W5.frozen? ⟨xb, j, none⟩ = false := by simp only [World.frozen?, hxb]; simp; omega
      obtain ⟨ev, hev⟩ : ∃ ev, ev = sj ^^^ v := ⟨_, rfl⟩
      have hevl : ev < 256 := by rw [hev]; exact Nat.xor_lt_two_pow (n := 8) hsjl hv2
      have e1 : bits .xor .u8 (sj : Int) (v : Int) = (ev : Int) := by rw [u8_xor_nat _ _ hsjl hv2, hev]
      have hjn : j < s.size := by omega
      have HEV := Lib.hid hev
      have HSJ := Lib.hid hsj
      have HCI := Lib.hid hci
      have HFB := Lib.hid hfb
      have HXB := Lib.hid hxb
      clear hev hsj hci hfb hxb
      go_upto_region 14 with (fail)
      obtain ⟨W6, hW6⟩ : ∃ W6, W6 = W5.setCell ⟨xb, j, none⟩ (.int .u8 ev) := ⟨_, rfl⟩
      rw [← hW6]
      have HB6 : Hid (Below w.heap.size w W6) := by show Below _ _ _; rw [hW6]; exact HB5.out.setCell hgexb _
      have hfb6 : Hid (W6.heap[fb]? = some (.cells #[.int .i64 u3, .int .i64 23] 31 (0, 0))) := by
        show _ = _
        rw [hW6, Below.heap_setCell _ _ _ _ hfx]; exact HFB.out
      obtain ⟨x, hx⟩ : ∃ x : ByteArray, x = strOfNums ((s.data.toList.set j (UInt8.ofNat ev)).map fun c => ((c.toNat : Nat) : Int)) := ⟨_, rfl⟩
      have hcx : (convert 23 9 (.slice (some ⟨xb, 0, none⟩) s.size cap)).run Tryd.prog W6 = .ok (.string x) W6 := by
        rw [hx]
        refine run_convert_bytes_arg W6 23 5 t23 (by kernel_rfl) xb 0 s.size cap _ (by simp) (fun i hi => ?_) 9 t9
        rw [Nat.zero_add, hW6]
        have hxb6 := setCell_same_fz W5 xb j cur 5 (cur.size, cur.size + 1) (.int .u8 ev) HXB.out
        have hil : i < s.data.toList.length := by simpa using hi
        by_cases e : i = j
        · subst e
          rw [cell_of_row' hxb6, Array.getElem?_setIfInBounds, if_pos rfl, if_pos (by omega)]
          simp [List.getD_eq_getElem?_getD, hi]; omega
        · rw [cell_of_row' hxb6, Array.getElem?_setIfInBounds, if_neg (by omega), ← cell_of_row' HXB.out, HCI.out i hi]
          simp only [List.getD_eq_getElem?_getD, List.getElem?_map, List.getElem?_set, if_neg (Ne.symm e), List.getElem?_eq_getElem hil]
          rfl
      have hxd : x.data.toList = s.data.toList.set j (UInt8.ofNat ev) := by
        rw [hx, strOfNums_data, List.map_map]
        have h : (s.data.toList.set j (UInt8.ofNat ev)).map ((fun n : Int => UInt8.ofNat n.toNat) ∘ fun c : UInt8 => ((c.toNat : Nat) : Int)) = (s.data.toList.set j (UInt8.ofNat ev)).map id := List.map_congr_left fun a _ => by simp
        rw [h, List.map_id]
      have hxs : x.size = s.size := by rw [size_list, hxd, List.length_set, ← size_list]
      have hun : unR x 0 = (⟨#[]⟩, 0, 0, 25) := by
        have e : unR x 0 = unN x 0 := by unfold unR; rw [if_neg (by omega)]; rfl
        rw [e]
        have hs := HS.out
        refine unN_torn x b j (UInt8.ofNat ev) (by omega) hj4 (by rw [← hs]; omega) (by rw [← hs]; exact hxd) ?_
        rw [← hs]
        intro h
        have h2 := congrArg UInt8.toNat h
        rw [← HSJ.out, HEV.out] at h2
        have h3 : (UInt8.ofNat (sj ^^^ v)).toNat = sj ^^^ v := by
          rw [← HEV.out, UInt8.toNat_ofNat', Nat.mod_eq_of_lt hevl]
        rw [h3] at h2
        have h4 : sj ^^^ sj = sj ^^^ (sj ^^^ v) := by rw [← h2]
        rw [Nat.xor_self, ← Nat.xor_assoc, Nat.xor_self, Nat.zero_xor] at h4
        omega
      have HU2 : Hid (Calls Tryd.prog 13 #[.string x, .int .i64 0] W6 fun e w' => e = .returned (.tuple #[.string ⟨#[]⟩, .int .i64 0, .agg #[.int .i64 0, .int .i64 25]]) ∧ Below W6.heap.size W6 w') := by
        have := unframe_any x 0 W6 (by omega) (HQ.out.later h0 HB6.out) (by have := HB6.out.size; omega)
        unfold UnPost at this
        rw [hun] at this
        exact this
      clear hxd hun hx hW6 d0 d1
      go_wp2_with (go_at_call 13; refine HU2.out.mono ?_; rintro e w7 ⟨rfl, hb7⟩; have HB7 := Lib.hid (HB6.out.trans (hb7.mono HB6.out.size)); have hf7 := (hb7.block fb (lt_of_block hfb6.out)).trans hfb6.out; have k0 := cell_of_row w7 fb 0 _ _ _ hf7; have k1 := cell_of_row w7 fb 1 _ _ _ hf7; have kf : ∀ i, w7.frozen? ⟨fb, i, none⟩ = false := (fun i => by { simp only [World.frozen?, hf7]; rfl }); simp only [List.getElem?_toArray, List.getElem?_cons_zero, List.getElem?_cons_succ] at k0 k1; clear hb7 hf7)
      go_ret
      exact ⟨rfl, (HB7.out.setCell hgefb _).setCell hgefb _⟩

end Go.Proofs.YtakdfjkkeilffaaDoor
