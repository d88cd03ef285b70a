/- The document's answer on frames: Frame, Unframe, Frames. -/
import Derived.Test.YtakdfjkkeilffaaDoorRa
set_option linter.unusedVariables false
set_option linter.unusedSimpArgs false
namespace Go.Proofs.YtakdfjkkeilffaaDoor
open Go.RowKit

theorem bcells_one (l : List Nat) : ∀ u ∈ bcells l, u.oneCell' = true := by
  intro u hu
  simp [bcells] at hu
  obtain ⟨c, _, rfl⟩ := hu
  rfl

set_option maxRecDepth 100000 in
set_option maxHeartbeats 1600000 in
theorem rframe_any (b : ByteArray) (w : World) :
    Calls Tryd.prog 14 #[.string b] w fun e w' => e = .returned (.tuple #[.string (frR b).1, .int .i64 ((frR b).2 : Nat)]) ∧ Below w.heap.size w w' := by
  by_cases hbig : 262144 < b.size
  · have hbig2 : (262144 : Int) < (b.size : Int) := by omega
    have HE : Hid (frR b = (⟨#[]⟩, 2)) := by show frR b = _; unfold frR; rw [if_pos hbig]
    go_enter Tryd.func14, Tryd.ntmps14
    go_wp2_with fail
    go_ret2
    rw [HE.out]
    exact ⟨rfl, Below.refl _ _⟩
  · have HE : Hid (frR b = (ofN (le4 b.size ++ le4 (crcN b.data.toList) ++ nbytes b), 0)) := by show frR b = _; unfold frR; rw [if_neg hbig]; rfl
    have hbig2 : ¬ (262144 : Int) < (b.size : Int) := by omega
    obtain ⟨c, hc⟩ : ∃ c, c = crcN b.data.toList := ⟨_, rfl⟩
    have hcl : c < 4294967296 := by rw [hc]; exact crcN_lt _
    rw [← hc] at HE
    have HCRC : Hid (∀ w, Calls Tryd.prog 15 #[.string b] w fun e w' => e = .returned (.int .u32 (c : Nat)) ∧ w = w') := by
      intro w
      rw [hc]
      exact rcrc_any b w (by omega)
    clear hc
    have e1 : (b.size : Int) % 4294967296 = (b.size : Int) := by omega
    obtain ⟨i0, hi, hz0, hz1, hz2⟩ := info_parts i5
    have HN := Lib.hid (rfour_any b.size w (by omega))
    obtain ⟨w1, hw1⟩ : ∃ w1, w1 = w.alloc (.cells (bcells (le4 b.size)).toArray 5) := ⟨_, rfl⟩
    have hs1 : w1.heap.size = w.heap.size + 1 := by rw [hw1]; simp
    have HN2 := Lib.hid (rfour_any c w1 hcl)
    obtain ⟨w2, hw2⟩ : ∃ w2, w2 = w1.alloc (.cells (bcells (le4 c)).toArray 5) := ⟨_, rfl⟩
    rw [← hw1] at HN
    rw [← hw2, hs1] at HN2
    have hs2 : w2.heap.size = w.heap.size + 2 := by rw [hw2]; simp [hs1]
    have hb1 : w1.heap[w.heap.size]? = some (.cells (bcells (le4 b.size)).toArray 5 (0, 0)) := by rw [hw1]; exact heap_alloc_new _ _
    have HB2 : Hid (Below w.heap.size w w2) := by show Below _ _ _; rw [hw2, hw1]; exact (below_al _ _).alloc (by simp) _
    have HO2 : Hid (w2.ownsRow w.heap.size 5 1 (.slice (some ⟨w.heap.size, 0, none⟩) 4 4) 4 (bcells (le4 b.size))) := by
      refine ⟨by simp [bcells, le4], .inr ⟨w.heap.size, 4, (bcells (le4 b.size)).toArray, rfl, Nat.le_refl _, ?_, Nat.le_refl _, by unfold maxLen; omega, by simp [bcells, le4], by simp [bcells, le4]⟩⟩
      rw [hw2, Below.heap_alloc _ _ _ (by omega)]; exact hb1
    have HNEWS : Hid (∀ (j : Nat) (u : Value), (bcells (le4 c))[j]? = some u → w2.cell? ((⟨w.heap.size + 1, 0, none⟩ : Addr).add j) = some u) := by
      intro j u hj
      have := World.news_of_block (cs := (bcells (le4 c)).toArray) (heap_alloc_new w1 (.cells (bcells (le4 c)).toArray 5)) j u (by simpa using hj)
      rw [hs1] at this
      rw [hw2]; exact this
    clear hw1 hw2 hb1
    go_enter Tryd.func14, Tryd.ntmps14
    go_wp2_with (first
      | (go_at_call 15; refine (HCRC.out w1).mono ?_; rintro e w3 ⟨rfl, rfl⟩)
      | (go_at_call_of 31 (Value.int .u32 (b.size : Int)); refine HN.out.mono ?_; rintro e w3 ⟨rfl, h3⟩; have h3 := h3.symm; subst h3)
      | (go_at_call_of 31 (Value.int .u32 (c : Int)); refine HN2.out.mono ?_; rintro e w3 ⟨rfl, h3⟩; have h3 := h3.symm; subst h3)
      | (at_builtin; refine Lib.wpList_append_own_string _ rfl _ _ 23 9 rfl w.heap.size 5 i0 t23 t9 hi hz0 hz1 hz2 _ 8 (bcells (le4 b.size) ++ bcells (le4 c)) rfl HO4.out b rfl (by unfold maxLen; omega) (by omega) (by omega) ?_; intro v4 w5 hown hgrow _; have HO5 := Lib.hid hown; have HB5 := Lib.hid (HB4.out.grown hgrow (by omega) (own_ge HO4.out)); clear hown hgrow; have hy : (bcells (le4 b.size) ++ bcells (le4 c)) ++ Lib.strCells b = bcells (le4 b.size ++ le4 c ++ nbytes b) := (by rw [text_cells]; simp [bcells]); have hcv := row_text1 (hy ▸ HO5.out) (by simp [le4, nbytes_length]; omega) (by simp [le4]); clear hy)
      | (at_builtin; refine wpList_append_lies _ rfl _ _ 23 rfl w.heap.size 5 i0 (.int .u8 0) 1 1 t23 hi hz0 hz1 hz2 rfl (by decide) _ 4 (bcells (le4 b.size)) rfl HO2.out ⟨w.heap.size + 1, 0, none⟩ 4 4 (bcells (le4 c)) rfl (by simp [bcells, le4]) HNEWS.out (bcells_one _) (by omega) (by unfold maxLen; omega) (by omega) (by omega) (w.heap.size + 2) hs2 ?_; intro g cap w4 hown hgrow hat hlt; have HO4 := Lib.hid hown; have HB4 := Lib.hid (HB2.out.grown hgrow (by omega) (own_ge HO2.out)); have hs4 := HB4.out.size; clear hown hgrow hat hlt))
    go_ret2
    rw [HE.out]
    exact ⟨rfl, HB5.out⟩

theorem un4_ext (b : ByteArray) (i j : Nat) (h : i + 4 ≤ j) : un4 (b.extract i j) = un4l (b.data.toList.drop i) := by
  have g : ∀ k, k < 4 → ((b.data.toList.take j).drop i).getD k 0 = (b.data.toList.drop i).getD k 0 := by
    intro k hk
    simp only [List.getD_eq_getElem?_getD, List.getElem?_drop, List.getElem?_take]
    rw [if_pos (by omega)]
  rw [un4_l, ext_list]
  unfold un4l
  rw [g 0 (by omega), g 1 (by omega), g 2 (by omega), g 3 (by omega)]
theorem ext_ext (b : ByteArray) (p i j : Nat) (h : p + j ≤ b.size) : (b.extract p b.size).extract i j = b.extract (p + i) (p + j) := by
  refine ba_ext ?_
  rw [ext_list, ext_list, ext_list, size_list, List.take_length]
  simp only [List.drop_take, List.drop_drop]
  congr 1
  omega

/-- Unframe, as the document has it -/
theorem unN_doc (b : ByteArray) (p : Nat) (hp : p ≤ b.size) : unN b p = if b.size - p < 8 then (⟨#[]⟩, 0, (p : Int), 23)
    else if 262144 < un4 (b.extract p (p + 4)) then (⟨#[]⟩, 0, (p : Int), 2)
    else if b.size - p - 8 < un4 (b.extract p (p + 4)) then (⟨#[]⟩, 0, (p : Int), 23)
    else if crcN (b.extract (p + 8) (p + 8 + un4 (b.extract p (p + 4)))).data.toList ≠ un4 (b.extract (p + 4) (p + 8)) then (⟨#[]⟩, 0, (p : Int), 25)
    else (b.extract (p + 8) (p + 8 + un4 (b.extract p (p + 4))), ((p + 8 + un4 (b.extract p (p + 4)) : Nat) : Int), 0, 0) := by
  have hrs : (b.extract p b.size).size = b.size - p := by simp
  unfold unN
  simp only [hrs]
  by_cases h8 : b.size - p < 8
  · rw [if_pos h8, if_pos h8]
  · have e1 : un4 (b.extract p (p + 4)) = un4 (b.extract p b.size) := by rw [un4_ext _ _ _ (by omega), un4_ext _ _ _ (by omega)]
    rw [if_neg h8, if_neg h8, e1]
    by_cases hb : 262144 < un4 (b.extract p b.size)
    · rw [if_pos hb, if_pos hb]
    · rw [if_neg hb, if_neg hb]
      by_cases hs : b.size - p - 8 < un4 (b.extract p b.size)
      · rw [if_pos hs, if_pos hs]
      · rw [if_neg hs, if_neg hs, ext_ext b p 8 (8 + un4 (b.extract p b.size)) (by omega), ext_ext b p 4 (b.size - p) (by omega), show p + (8 + un4 (b.extract p b.size)) = p + 8 + un4 (b.extract p b.size) from by omega]
        rw [un4_ext b (p + 4) (p + (b.size - p)) (by omega), un4_ext b (p + 4) (p + 8) (by omega)]

set_option maxRecDepth 100000 in
set_option maxHeartbeats 1600000 in
theorem runframe_out (b : ByteArray) (at_ : Int) (w : World) (h : at_ < 0 ∨ (b.size : Int) < at_) : Calls Tryd.prog 16 #[.string b, .int .i64 at_] w (UnPost w (unR b at_)) := by
  have HE : Hid (unR b at_ = (⟨#[]⟩, 0, 0, 1)) := by show unR b at_ = _; unfold unR; rw [if_pos h]
  have hs : at_ < 0 ∨ (¬ at_ < 0 ∧ (b.size : Int) < at_) := by omega
  clear h
  have HFA := Lib.hid (fault_any 0 1 (w.alloc (.cells #[.int .i64 0, .int .i64 0] 31)))
  rcases hs with h1 | ⟨h1, h2⟩
  all_goals
    go_enter Tryd.func16, Tryd.ntmps16
    go_wp2_with (go_at_call 32; refine HFA.out.mono ?_; rintro e w2 ⟨rfl, hb2⟩; have hf2 := (hb2.block w.heap.size (by simp)).trans (heap_alloc_new w (.cells #[.int .i64 0, .int .i64 0] 31)); have k0 := cell_of_row w2 w.heap.size 0 _ _ _ hf2; have k1 := cell_of_row w2 w.heap.size 1 _ _ _ hf2; have kf : ∀ j, w2.frozen? ⟨w.heap.size, j, none⟩ = false := (fun j => by { simp only [World.frozen?, hf2]; rfl }); simp only [List.getElem?_toArray, List.getElem?_cons_zero, List.getElem?_cons_succ] at k0 k1; have HB2 := Lib.hid (below_then (below_al _ _) hb2); clear hf2 hb2)
    refine bodyPost_ret (v := .tuple #[.string ⟨#[]⟩, .int .i64 0, .agg #[.int .i64 0, .int .i64 1]]) (by simp [results, Tryd.results16, go_sem, k0, k1]) rfl ⟨?_, ?_⟩
    · rw [HE.out]
    · repeat (refine Below.setCell ?_ (by exact Nat.le_refl _) _)
      exact HB2.out

set_option maxRecDepth 100000 in
set_option maxHeartbeats 1600000 in
theorem runframe_in (b : ByteArray) (p : Nat) (w : World) (hb : b.size ≤ 140737488355328) (hp : p ≤ b.size) : Calls Tryd.prog 16 #[.string b, .int .i64 p] w (UnPost w (unN b p)) := by
  have hp1 : ¬ (p : Int) < 0 := by omega
  have hp2 : ¬ (b.size : Int) < (p : Int) := by omega
  have HUN := Lib.hid (unN_doc b p hp)
  have HFA : Hid (∀ (a c : Int) (W : World), W.heap[w.heap.size]? = some (.cells #[.int .i64 0, .int .i64 0] 31 (0, 0)) → Below w.heap.size w W → Calls Tryd.prog 32 #[.int .i64 a, .int .i64 c] W fun e W2 => e = .returned (.agg #[.int .i64 a, .int .i64 c]) ∧ W2.heap[w.heap.size]? = some (.cells #[.int .i64 0, .int .i64 0] 31 (0, 0)) ∧ Below w.heap.size w W2) :=
    fun a c W h1 h2 => (fault_any a c W).mono fun e W2 ⟨h3, h4⟩ => ⟨h3, (h4.block _ (lt_of_block h1)).trans h1, h2.trans (h4.mono h2.size)⟩
  have HF0 := Lib.hid (heap_alloc_new w (.cells #[.int .i64 0, .int .i64 0] 31))
  have HB0 := Lib.hid (below_al w (.cells #[.int .i64 0, .int .i64 0] 31))
  have hws : wrap64 ((b.size : Int) - p) = (b.size : Int) - p := by unfold wrap64; omega
  by_cases h8 : b.size - p < 8
  · have h8i : (b.size : Int) - p < 8 := by omega
    go_enter Tryd.func16, Tryd.ntmps16
    go_wp2_with (go_at_call 32; refine (HFA.out p 23 _ HF0.out HB0.out).mono ?_; rintro e W3 ⟨rfl, hf3, hb3⟩; have k0 := cell_of_row W3 w.heap.size 0 _ _ _ hf3; have k1 := cell_of_row W3 w.heap.size 1 _ _ _ hf3; have kf : ∀ j, W3.frozen? ⟨w.heap.size, j, none⟩ = false := (fun j => by { simp only [World.frozen?, hf3]; rfl }); simp only [List.getElem?_toArray, List.getElem?_cons_zero, List.getElem?_cons_succ] at k0 k1; have HB3 := Lib.hid hb3; clear hf3 hb3)
    refine bodyPost_ret (v := .tuple #[.string ⟨#[]⟩, .int .i64 0, .agg #[.int .i64 p, .int .i64 23]]) (by simp [results, Tryd.results16, go_sem, k0, k1]) rfl ⟨?_, ?_⟩
    · rw [HUN.out, if_pos h8]
    · repeat (refine Below.setCell ?_ (by exact Nat.le_refl _) _)
      exact HB3.out
  · have h8i : ¬ (b.size : Int) - p < 8 := by omega
    have hw4 : wrap64 ((p : Int) + 4) = (p : Int) + 4 := by unfold wrap64; omega
    obtain ⟨y, hy⟩ : ∃ y, y = b.extract p (p + 4) := ⟨_, rfl⟩
    have hys : y.size = 4 := by rw [hy]; simp; omega
    obtain ⟨n, hn⟩ : ∃ n, n = un4 y := ⟨_, rfl⟩
    have hnl : n < 4294967296 := by rw [hn]; exact un4_lt y
    have HN : Hid (∀ w, Calls Tryd.prog 33 #[.string y] w fun e w' => e = .returned (.int .u32 (n : Nat)) ∧ ∃ m, w' = w.drewN m) := by
      intro w
      rw [hn]
      exact getfour_any y w (by omega)
    rw [← hy, ← hn] at HUN
    have hx4 : b.extract p (p + 4) = y := hy.symm
    have hp4 : p + 4 ≤ b.size := by omega
    have hp4i : (p : Int) + 4 ≤ (b.size : Int) := by omega
    clear hn hy hys
    have hw : wrap64 (n : Int) = (n : Int) := by unfold wrap64; omega
    by_cases hbig : 262144 < n
    · have hbi : (262144 : Int) < (n : Int) := by omega
      go_enter Tryd.func16, Tryd.ntmps16
      go_wp2_with (first | (go_at_call 33; rw [hx4]; refine (HN.out _).mono ?_; rintro e w2 ⟨rfl, m, hm⟩; obtain ⟨W2, hW2⟩ : ∃ W2, W2 = w2 := ⟨_, rfl⟩; rw [← hW2]; rw [← hW2] at hm; have HF2 : Hid (W2.heap[w.heap.size]? = some (.cells #[.int .i64 0, .int .i64 0] 31 (0, 0))) := (by show _ = _; rw [hm]; exact heap_alloc_new _ _); have HB2 : Hid (Below w.heap.size w W2) := (by show Below _ _ _; rw [hm]; exact below_drewN (below_al _ _) _); clear hm hW2) | (go_at_call 32; refine (HFA.out p 2 W2 HF2.out HB2.out).mono ?_; rintro e W3 ⟨rfl, hf3, hb3⟩; have k0 := cell_of_row W3 w.heap.size 0 _ _ _ hf3; have k1 := cell_of_row W3 w.heap.size 1 _ _ _ hf3; have kf : ∀ j, W3.frozen? ⟨w.heap.size, j, none⟩ = false := (fun j => by { simp only [World.frozen?, hf3]; rfl }); simp only [List.getElem?_toArray, List.getElem?_cons_zero, List.getElem?_cons_succ] at k0 k1; have HB3 := Lib.hid hb3; clear hf3 hb3))
      refine bodyPost_ret (v := .tuple #[.string ⟨#[]⟩, .int .i64 0, .agg #[.int .i64 p, .int .i64 2]]) (by simp [results, Tryd.results16, go_sem, k0, k1]) rfl ⟨?_, ?_⟩
      · rw [HUN.out, if_neg h8, if_pos hbig]
      · repeat (refine Below.setCell ?_ (by exact Nat.le_refl _) _)
        exact HB3.out
    · have hbi : ¬ (262144 : Int) < (n : Int) := by omega
      have hw8 : wrap64 ((b.size : Int) - p - 8) = (b.size : Int) - p - 8 := by unfold wrap64; omega
      by_cases hsh : b.size - p - 8 < n
      · have hsi : (b.size : Int) - p - 8 < n := by omega
        go_enter Tryd.func16, Tryd.ntmps16
        go_wp2_with (first | (go_at_call 33; rw [hx4]; refine (HN.out _).mono ?_; rintro e w2 ⟨rfl, m, hm⟩; obtain ⟨W2, hW2⟩ : ∃ W2, W2 = w2 := ⟨_, rfl⟩; rw [← hW2]; rw [← hW2] at hm; have HF2 : Hid (W2.heap[w.heap.size]? = some (.cells #[.int .i64 0, .int .i64 0] 31 (0, 0))) := (by show _ = _; rw [hm]; exact heap_alloc_new _ _); have HB2 : Hid (Below w.heap.size w W2) := (by show Below _ _ _; rw [hm]; exact below_drewN (below_al _ _) _); clear hm hW2) | (go_at_call 32; refine (HFA.out p 23 W2 HF2.out HB2.out).mono ?_; rintro e W3 ⟨rfl, hf3, hb3⟩; have k0 := cell_of_row W3 w.heap.size 0 _ _ _ hf3; have k1 := cell_of_row W3 w.heap.size 1 _ _ _ hf3; have kf : ∀ j, W3.frozen? ⟨w.heap.size, j, none⟩ = false := (fun j => by { simp only [World.frozen?, hf3]; rfl }); simp only [List.getElem?_toArray, List.getElem?_cons_zero, List.getElem?_cons_succ] at k0 k1; have HB3 := Lib.hid hb3; clear hf3 hb3))
        refine bodyPost_ret (v := .tuple #[.string ⟨#[]⟩, .int .i64 0, .agg #[.int .i64 p, .int .i64 23]]) (by simp [results, Tryd.results16, go_sem, k0, k1]) rfl ⟨?_, ?_⟩
        · rw [HUN.out, if_neg h8, if_neg hbig, if_pos hsh]
        · repeat (refine Below.setCell ?_ (by exact Nat.le_refl _) _)
          exact HB3.out
      · have hsi : ¬ (b.size : Int) - p - 8 < n := by omega
        have hn8 : p + 8 + n ≤ b.size := by omega
        have hn8i : (p : Int) + 8 + (n : Int) ≤ (b.size : Int) := by omega
        have hp8 : p + 8 ≤ b.size := by omega
        have hp8i : (p : Int) + 8 ≤ (b.size : Int) := by omega
        obtain ⟨x, hx⟩ : ∃ x, x = b.extract (p + 8) (p + 8 + n) := ⟨_, rfl⟩
        obtain ⟨z, hz⟩ : ∃ z, z = b.extract (p + 4) (p + 8) := ⟨_, rfl⟩
        have hxs : x.size ≤ b.size := by rw [hx]; simp; omega
        have hzs : z.size = 4 := by rw [hz]; simp; omega
        obtain ⟨c, hc⟩ : ∃ c, c = crcN x.data.toList := ⟨_, rfl⟩
        obtain ⟨d, hd⟩ : ∃ d, d = un4 z := ⟨_, rfl⟩
        have HC : Hid (∀ w, Calls Tryd.prog 15 #[.string x] w fun e w' => e = .returned (.int .u32 (c : Nat)) ∧ w' = w) := by
          intro w
          rw [hc]
          exact (rcrc_any x w (by omega)).mono fun _ _ h => ⟨h.1, h.2.symm⟩
        have HD : Hid (∀ w, Calls Tryd.prog 33 #[.string z] w fun e w' => e = .returned (.int .u32 (d : Nat)) ∧ ∃ m, w' = w.drewN m) := by
          intro w
          rw [hd]
          exact getfour_any z w (by omega)
        have HE : Hid (unN b p = if c ≠ d then (⟨#[]⟩, 0, (p : Int), 25) else (x, ((p + 8 + n : Nat) : Int), 0, 0)) := by
          show unN b p = _
          rw [HUN.out, if_neg h8, if_neg hbig, if_neg hsh, hc, hd, hx, hz]
        have hx8 : b.extract (p + 8) (p + 8 + n) = x := hx.symm
        have hz4 : b.extract (p + 4) (p + 8) = z := hz.symm
        clear hc hd hx hz hxs hzs
        have hpl : p ≤ 140737488355328 := by omega
        have hnb : n ≤ 262144 := by omega
        clear hws hw4 hw8 hw
        go_enter Tryd.func16, Tryd.ntmps16
        go_wp2_with (go_at_call 33; rw [hx4]; refine (HN.out _).mono ?_; rintro e w2 ⟨rfl, m, hm⟩; obtain ⟨W2, hW2⟩ : ∃ W2, W2 = w2 := ⟨_, rfl⟩; rw [← hW2]; rw [← hW2] at hm; have HF2 : Hid (W2.heap[w.heap.size]? = some (.cells #[.int .i64 0, .int .i64 0] 31 (0, 0))) := (by show _ = _; rw [hm]; exact heap_alloc_new _ _); have HB2 : Hid (Below w.heap.size w W2) := (by show Below _ _ _; rw [hm]; exact below_drewN (below_al _ _) _); clear hm hW2)
        rw [hx8]
        go_quiet (first
          | (go_at_call 15; exact Calls.quiet_of_same (HC.out _))
          | (go_at_call 33; first | exact Calls.quiet_of (HD.out _) | (rw [hz4]; exact Calls.quiet_of (HD.out _))))
        obtain ⟨W4, hW4⟩ : ∃ W4, W4 = W2.drewN nq := ⟨_, rfl⟩
        rw [← hW4]
        have HF4 : Hid (W4.heap[w.heap.size]? = some (.cells #[.int .i64 0, .int .i64 0] 31 (0, 0))) := by show _ = _; rw [hW4]; exact HF2.out
        have HB4 : Hid (Below w.heap.size w W4) := by show Below _ _ _; rw [hW4]; exact below_drewN HB2.out _
        clear hW4
        by_cases hcd : c = d
        · have hcdb : (((c : Nat) : Int) != ((d : Nat) : Int)) = false := by rw [hcd]; simp
          have HCD := Lib.hid hcd
          have k0 := cell_of_row W4 w.heap.size 0 _ _ _ HF4.out
          have k1 := cell_of_row W4 w.heap.size 1 _ _ _ HF4.out
          have kf : ∀ j, W4.frozen? ⟨w.heap.size, j, none⟩ = false := fun j => by simp only [World.frozen?, HF4.out]; rfl
          simp only [List.getElem?_toArray, List.getElem?_cons_zero, List.getElem?_cons_succ] at k0 k1
          clear hcd
          go_wp2_with fail
          refine bodyPost_ret (v := .tuple #[.string x, .int .i64 ((p : Int) + 8 + n), .agg #[.int .i64 0, .int .i64 0]]) (by simp [results, Tryd.results16, go_sem, k0, k1]) rfl ⟨?_, ?_⟩
          · rw [HE.out, if_neg (by simp [HCD.out])]
            simp
          · repeat (refine Below.setCell ?_ (by exact Nat.le_refl _) _)
            exact HB4.out
        · have hcdb : (((c : Nat) : Int) != ((d : Nat) : Int)) = true := by simp; omega
          have HCD := Lib.hid hcd
          clear hcd
          go_wp2_with (go_at_call 32; refine (HFA.out p 25 W4 HF4.out HB4.out).mono ?_; rintro e W3 ⟨rfl, hf3, hb3⟩; have k0 := cell_of_row W3 w.heap.size 0 _ _ _ hf3; have k1 := cell_of_row W3 w.heap.size 1 _ _ _ hf3; have kf : ∀ j, W3.frozen? ⟨w.heap.size, j, none⟩ = false := (fun j => by { simp only [World.frozen?, hf3]; rfl }); simp only [List.getElem?_toArray, List.getElem?_cons_zero, List.getElem?_cons_succ] at k0 k1; have HB3 := Lib.hid hb3; clear hf3 hb3)
          refine bodyPost_ret (v := .tuple #[.string ⟨#[]⟩, .int .i64 0, .agg #[.int .i64 p, .int .i64 25]]) (by simp [results, Tryd.results16, go_sem, k0, k1]) rfl ⟨?_, ?_⟩
          · rw [HE.out, if_pos (by exact HCD.out)]
          · repeat (refine Below.setCell ?_ (by exact Nat.le_refl _) _)
            exact HB3.out

theorem runframe_any (b : ByteArray) (at_ : Int) (w : World) (hb : b.size ≤ 140737488355328) : Calls Tryd.prog 16 #[.string b, .int .i64 at_] w (UnPost w (unR b at_)) := by
  by_cases h : at_ < 0 ∨ (b.size : Int) < at_
  · exact runframe_out b at_ w h
  · obtain ⟨p, hp⟩ : ∃ p : Nat, at_ = p := ⟨at_.toNat, by omega⟩
    subst hp
    have e : unR b (p : Int) = unN b p := by unfold unR; rw [if_neg h, Int.toNat_natCast]
    rw [e]
    exact runframe_in b p w hb (by omega)

end Go.Proofs.YtakdfjkkeilffaaDoor
