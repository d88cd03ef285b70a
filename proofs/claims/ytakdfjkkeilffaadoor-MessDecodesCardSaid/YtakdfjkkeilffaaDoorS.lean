/- CodeSums: the sum of bytes is linear. -/
import Derived.Test.YtakdfjkkeilffaaDoorX
import Derived.Test.YtakdfjkkeilffaaDoorL
set_option linter.unusedVariables false
set_option linter.unusedSimpArgs false
namespace Go.Proofs.YtakdfjkkeilffaaDoor
open Go.RowKit

/-- bytes in a block -/
theorem info5 : ∃ i, Tryd.prog.info? 5 = some i ∧ i.zero = some (.int .u8 0) ∧ i.size = 1 ∧ i.bytes = 1 := info_parts i5
theorem mk_bytes (n : Nat) (hn : n ≤ 281474976710656) (w : World) : (Instr.makeSlice 23 (.int .i64 (n : Int)) (.int .i64 (n : Int))).run Tryd.prog w = .ok (.slice (some ⟨w.heap.size, 0, none⟩) n n) (w.alloc (.cells (Array.replicate n (Value.int .u8 0)) 5)) := by
  obtain ⟨i, hi, hz, hs, hb⟩ := info5
  have h := run_make (P := Tryd.prog) w 23 5 i (.int .u8 0) t23 hi hz .i64 .i64 n n (by omega) (Int.le_refl _) (by rw [hb]; omega) (by omega)
  have e : madeCells (Value.int .u8 0).cells n = Array.replicate n (Value.int .u8 0) := by rw [show (Value.int .u8 0).cells = #[.int .u8 0] from rfl, ← Array.toList_inj, toList_madeCells_one]; simp
  rw [hs, Int.toNat_natCast, Nat.mul_one, e] at h
  exact h

theorem two (w : World) (x0 x1 : Array Value) (t0 t1 : Nat) :
    ((w.alloc (.cells x0 t0)).alloc (.cells x1 t1)).heap[w.heap.size]? = some (.cells x0 t0 (0, 0)) ∧ ((w.alloc (.cells x0 t0)).alloc (.cells x1 t1)).heap[w.heap.size + 1]? = some (.cells x1 t1 (0, 0)) := by
  have e1 : (w.alloc (.cells x0 t0)).heap.size = w.heap.size + 1 := by simp
  refine ⟨?_, ?_⟩
  · rw [Below.heap_alloc _ _ _ (by rw [e1]; omega)]; exact heap_alloc_new _ _
  · rw [← e1]; exact heap_alloc_new _ _
def xorAt (a b : ByteArray) (i : Nat) : Nat := (a.data.toList.getD i 0).toNat ^^^ (b.data.toList.getD i 0).toNat
/-- the row of differences, as far as it has come -/
def XRow (w : World) (g n k : Nat) (a b : ByteArray) : Prop := ∃ cur, w.heap[g]? = some (.cells cur 5 (0, 0)) ∧ cur.size = n ∧ ∀ i, i < n → cur[i]? = some (.int .u8 ((if i < k then xorAt a b i else 0 : Nat) : Int))
def ZRow (w : World) (g n : Nat) : Prop := w.heap[g]? = some (.cells (Array.replicate n (Value.int .u8 0)) 5 (0, 0))
theorem getD_at {a : ByteArray} {k : Nat} (h : k < a.size) : a.data.toList.getD k 0 = a[k] := by
  rw [List.getD_eq_getElem?_getD, List.getElem?_eq_getElem (by simpa using h)]; rfl
theorem xorAt_lt (a b : ByteArray) (i : Nat) : xorAt a b i < 256 := Nat.xor_lt_two_pow (n := 8) (UInt8.toNat_lt _) (UInt8.toNat_lt _)
theorem XRow.cell {w : World} {g n k : Nat} {a b : ByteArray} (h : XRow w g n k a b) {i : Nat} (hi : i < n) : w.cell? ⟨g, i, none⟩ = some (.int .u8 ((if i < k then xorAt a b i else 0 : Nat) : Int)) := by
  obtain ⟨cur, h1, h2, h3⟩ := h
  rw [cell_of_row _ _ _ _ _ _ h1]; exact h3 i hi
theorem XRow.free {w : World} {g n k : Nat} {a b : ByteArray} (h : XRow w g n k a b) (i : Nat) : w.frozen? ⟨g, i, none⟩ = false := by
  obtain ⟨cur, h1, h2, h3⟩ := h
  simp only [World.frozen?, h1]; rfl
theorem ZRow.away {w : World} {g n xb k : Nat} {v : Value} (h : ZRow w g n) (hne : xb ≠ g) : ZRow (w.setCell ⟨xb, k, none⟩ v).drew g n := by
  show (w.setCell ⟨xb, k, none⟩ v).heap[g]? = _
  rw [Below.heap_setCell _ _ _ _ (fun e => hne e.symm)]; exact h
/-- the text of differences; the text of zeros -/
def xsum (a b : ByteArray) (n : Nat) : ByteArray := strOfNums ((List.range n).map fun i => ((xorAt a b i : Nat) : Int))
def zsum (n : Nat) : ByteArray := strOfNums (List.replicate n 0)
theorem XRow.conv {w : World} {g n : Nat} {a b : ByteArray} (h : XRow w g n n a b) (m : Nat) : (convert 23 9 (.slice (some ⟨g, 0, none⟩) n n)).run Tryd.prog (w.drewN m) = .ok (.string (xsum a b n)) (w.drewN m) :=
  run_convert_bytes_arg (w.drewN m) 23 5 t23 (by kernel_rfl) g 0 n n _ (by simp) (fun i hi => by
    have hc : (w.drewN m).cell? ⟨g, i, none⟩ = w.cell? ⟨g, i, none⟩ := rfl
    rw [Nat.zero_add, hc, h.cell hi, if_pos hi]
    simp [List.getD_eq_getElem?_getD, hi]) 9 t9
theorem ZRow.conv {w : World} {g n : Nat} (h : ZRow w g n) (m : Nat) : (convert 23 9 (.slice (some ⟨g, 0, none⟩) n n)).run Tryd.prog (w.drewN m) = .ok (.string (zsum n)) (w.drewN m) :=
  run_convert_bytes_arg (w.drewN m) 23 5 t23 (by kernel_rfl) g 0 n n _ (by simp) (fun i hi => by
    have hc : (w.drewN m).cell? ⟨g, i, none⟩ = w.cell? ⟨g, i, none⟩ := rfl
    rw [Nat.zero_add, hc, cell_of_row _ _ _ _ _ _ h]
    simp [List.getD_eq_getElem?_getD, hi]) 9 t9
theorem crc_same (b : ByteArray) (w : World) (hb : b.size ≤ 140737488355328) (hq : Quarters w) : Calls Tryd.prog 11 #[.string b] w fun e w' => e = .returned (.int .u32 (crcN b.data.toList : Nat)) ∧ w' = w := (crc_any b w hb hq).mono fun _ _ h => ⟨h.1, h.2.symm⟩
theorem xsum_size (a b : ByteArray) (n : Nat) : (xsum a b n).size = n := by unfold xsum; rw [strOfNums_size]; simp
theorem zsum_size (n : Nat) : (zsum n).size = n := by unfold zsum; rw [strOfNums_size]; simp
theorem sums_law (a b : ByteArray) (n : Nat) (ha : a.size = n) (hb : b.size = n) : crcN (xsum a b n).data.toList = (crcN a.data.toList ^^^ crcN b.data.toList) ^^^ crcN (zsum n).data.toList := by
  have hal : a.data.toList.length = n := by simpa using ha
  have hbl : b.data.toList.length = n := by simpa using hb
  refine crcN_xor _ _ _ _ (by rw [hbl, hal]) ?_ ?_
  · unfold zsum; rw [strOfNums_data, hal, List.map_replicate]; rfl
  · unfold xsum; rw [strOfNums_data]
    refine List.ext_getElem (by simp [hal, hbl]) fun i h1 h2 => ?_
    simp only [List.getElem_map, List.getElem_range, List.getElem_zip, Int.toNat_natCast]
    have hi : i < n := by simpa using h1
    have hx := xorAt_lt a b i
    rw [show (UInt8.ofNat (xorAt a b i)).toNat = xorAt a b i from by simp; omega]
    unfold xorAt
    rw [List.getD_eq_getElem?_getD, List.getD_eq_getElem?_getD, List.getElem?_eq_getElem (by omega), List.getElem?_eq_getElem (by omega)]
    rfl
theorem XRow.store {w : World} {g n k : Nat} {a b : ByteArray} (h : XRow w g n k a b) (hk : k < n) : XRow (w.setCell ⟨g, k, none⟩ (.int .u8 (xorAt a b k))) g n (k + 1) a b := by
  obtain ⟨cur, h1, h2, h3⟩ := h
  refine ⟨cur.setIfInBounds k (.int .u8 (xorAt a b k)), by rw [heap_setCell_same _ g k _ _ _ h1], by simp [h2], fun i hi => ?_⟩
  rw [Array.getElem?_setIfInBounds]
  by_cases e : k = i
  · subst e; rw [if_pos rfl, if_pos (by omega), if_pos (by omega)]
  · rw [if_neg e, h3 i hi]
    by_cases hik : i < k
    · rw [if_pos hik, if_pos (by omega)]
    · rw [if_neg hik, if_neg (by omega)]

set_option maxRecDepth 100000 in
set_option maxHeartbeats 1600000 in
theorem sums_a (a b : ByteArray) (w : World) (ha : a.size ≤ 140737488355328) (hb : b.size ≤ 140737488355328) (hq : Quarters w) (h0 : 0 < w.heap.size) (hle : a.size ≤ b.size) :
    Calls Tryd.prog 3 #[.string a, .string b] w fun e w' => e = .returned (.bool true) ∧ Below w.heap.size w w' := by
  have HQ := Lib.hid hq
  have HWK := Lib.hid (works_any w hq h0)
  clear hq
  obtain ⟨n, hn⟩ : ∃ n, n = a.size := ⟨_, rfl⟩
  have hna : n ≤ a.size := by omega
  have hnb : n ≤ b.size := by omega
  go_enter Tryd.func3, Tryd.ntmps3
  go_wp2_with (go_at_call 10; refine HWK.out.mono ?_; rintro e w1 ⟨rfl, hb1⟩; have HB1 := Lib.hid hb1; have hs1 := hb1.size; clear hb1)
  rw [← hn]
  clear hn hle
  have hmk := mk_bytes n (by omega)
  go_quiet (fail)
  go_wp2_with fail
  have hxa : (a.extract 0 n).size = n := by simp; omega
  have hxb : (b.extract 0 n).size = n := by simp; omega
  obtain ⟨a1, ha1⟩ : ∃ a1, a1 = a.extract 0 n := ⟨_, rfl⟩
  obtain ⟨b1, hb1⟩ : ∃ b1, b1 = b.extract 0 n := ⟨_, rfl⟩
  rw [← ha1] at hxa
  rw [← hb1] at hxb
  rw [← ha1, ← hb1]
  clear ha1 hb1
  go_region
  · clear hmk
    obtain ⟨W2, hW2⟩ : ∃ W2, W2 = ((w1.drewN (nq + 1)).alloc (.cells (Array.replicate n (.int .u8 0)) 5)).alloc (.cells (Array.replicate n (.int .u8 0)) 5) := ⟨_, rfl⟩
    have htw := two w1 (Array.replicate n (.int .u8 0)) (Array.replicate n (.int .u8 0)) 5 5
    obtain ⟨xb, hxbb⟩ : ∃ xb, xb = w1.heap.size := ⟨_, rfl⟩
    obtain ⟨zb, hzbb⟩ : ∃ zb, zb = w1.heap.size + 1 := ⟨_, rfl⟩
    have hX : Hid (XRow W2 xb n 0 a1 b1) := by
      refine ⟨Array.replicate n (.int .u8 0), ?_, by simp, fun i hi => by simp [hi]⟩
      rw [hW2, hxbb]; exact htw.1
    have hZ : Hid (ZRow W2 zb n) := by
      show _ = _
      rw [hW2, hzbb]; exact htw.2
    have hB : Hid (Below w.heap.size w W2) := by
      show Below _ _ _
      rw [hW2]
      exact ((below_drewN HB1.out _).alloc hs1 _).alloc (by simp; omega) _
    have hxz : xb ≠ zb := by omega
    have hxge : w.heap.size ≤ xb := by omega
    rw [← hW2, ← hzbb, ← hxbb]
    clear hW2 hxbb hzbb htw
    go_wp2_with fail
    go_loopw [27] (fun i wr => ∃ k : Nat, k ≤ n ∧ i = .int .i64 k ∧ Hid (XRow wr xb n k a1 b1) ∧ Hid (ZRow wr zb n) ∧ Hid (Below w.heap.size w wr)) (fun i _ => n - (intOf i).toNat)
    case atStart => exact ⟨0, by omega, rfl, hX, hZ, hB⟩
    case round =>
      obtain ⟨k, hk, rfl, hXR, hZR, hBR⟩ := hrel
      obtain ⟨wo, rfl⟩ : ∃ wo : World, wo = wr := ⟨_, rfl⟩
      by_cases hlt : k < n
      · have hka : k < a1.size := by omega
        have hkb : k < b1.size := by omega
        have d0 := hXR.out.cell hlt
        rw [if_neg (by omega)] at d0
        have ex : bits .xor .u8 (a1[k].toNat : Int) (b1[k].toNat : Int) = ((xorAt a1 b1 k : Nat) : Int) := by rw [u8_xor_nat _ _ (UInt8.toNat_lt _) (UInt8.toNat_lt _)]; unfold xorAt; rw [getD_at hka, getD_at hkb]
        have d1 := hXR.out.free k
        go_wp2_with fail
        go_region
        all_goals
          go_wp2_with fail
          go_roundw
          case rel =>
            refine ⟨k + 1, by omega, by go_num, ?_, hZR.out.away hxz, (hBR.out.setCell hxge _).drew⟩
            have h := hXR.out.store hlt
            exact h
          case measure => simp [intOf]; omega
      · obtain rfl : k = n := by omega
        have hcx : ∀ m, (convert 23 9 (.slice (some ⟨xb, 0, none⟩) k k)).run Tryd.prog (wo.drewN m) = .ok (.string (xsum a1 b1 k)) (wo.drewN m) := fun m => hXR.out.conv m
        have hcz : ∀ m, (convert 23 9 (.slice (some ⟨zb, 0, none⟩) k k)).run Tryd.prog (wo.drewN m) = .ok (.string (zsum k)) (wo.drewN m) := fun m => hZR.out.conv m
        have hQ : ∀ m, Quarters (wo.drewN m) := fun m => HQ.out.later h0 (below_drewN hBR.out m)
        obtain ⟨cx, hcxx⟩ : ∃ cx, cx = crcN (xsum a1 b1 k).data.toList := ⟨_, rfl⟩
        obtain ⟨cz, hczz⟩ : ∃ cz, cz = crcN (zsum k).data.toList := ⟨_, rfl⟩
        obtain ⟨ca, hcaa⟩ : ∃ ca, ca = crcN a1.data.toList := ⟨_, rfl⟩
        obtain ⟨cb, hcbb⟩ : ∃ cb, cb = crcN b1.data.toList := ⟨_, rfl⟩
        have HX := fun m => crc_same (xsum a1 b1 k) (wo.drewN m) (by rw [xsum_size]; omega) (hQ m)
        have HZ := fun m => crc_same (zsum k) (wo.drewN m) (by rw [zsum_size]; omega) (hQ m)
        have HA := fun m => crc_same a1 (wo.drewN m) (by omega) (hQ m)
        have HB := fun m => crc_same b1 (wo.drewN m) (by omega) (hQ m)
        have law := sums_law a1 b1 k hxa hxb
        rw [← hcxx, ← hcaa, ← hcbb, ← hczz] at law
        rw [← hcxx] at HX
        rw [← hczz] at HZ
        rw [← hcaa] at HA
        rw [← hcbb] at HB
        have HX := Lib.hid HX
        have HZ := Lib.hid HZ
        have HA := Lib.hid HA
        have HB := Lib.hid HB
        have hca : ca < 4294967296 := by rw [hcaa]; exact crcN_lt _
        have hcb : cb < 4294967296 := by rw [hcbb]; exact crcN_lt _
        have hcz : cz < 4294967296 := by rw [hczz]; exact crcN_lt _
        clear hcxx hczz hcaa hcbb hQ
        obtain ⟨cab, hcab⟩ : ∃ cab, cab = ca ^^^ cb := ⟨_, rfl⟩
        have hcabl : cab < 4294967296 := by rw [hcab]; exact Nat.xor_lt_two_pow (n := 32) hca hcb
        have e1 : bits .xor .u32 (ca : Int) (cb : Int) = (cab : Int) := by rw [u32_xor_nat _ _ hca hcb, hcab]
        have e2 : bits .xor .u32 (cab : Int) (cz : Int) = (cx : Int) := by rw [u32_xor_nat _ _ hcabl hcz, hcab, law]
        clear law hcab hca hcb
        go_wp2_with fail
        go_quiet (first
          | (go_at_call_of 11 (Value.string (xsum a1 b1 k)); exact Calls.quiet_of_same (HX.out _))
          | (go_at_call_of 11 (Value.string (zsum k)); exact Calls.quiet_of_same (HZ.out _))
          | (go_at_call_of 11 (Value.string a1); exact Calls.quiet_of_same (HA.out _))
          | (go_at_call_of 11 (Value.string b1); exact Calls.quiet_of_same (HB.out _)))
        go_wp2_with fail
        go_ret
        exact ⟨rfl, below_drewN hBR.out _⟩
  · clear hmk
    obtain ⟨W2, hW2⟩ : ∃ W2, W2 = ((w1.drewN (nq + 1)).alloc (.cells (Array.replicate n (.int .u8 0)) 5)).alloc (.cells (Array.replicate n (.int .u8 0)) 5) := ⟨_, rfl⟩
    have htw := two w1 (Array.replicate n (.int .u8 0)) (Array.replicate n (.int .u8 0)) 5 5
    obtain ⟨xb, hxbb⟩ : ∃ xb, xb = w1.heap.size + 1 := ⟨_, rfl⟩
    obtain ⟨zb, hzbb⟩ : ∃ zb, zb = w1.heap.size := ⟨_, rfl⟩
    have hX : Hid (XRow W2 xb n 0 a1 b1) := by
      refine ⟨Array.replicate n (.int .u8 0), ?_, by simp, fun i hi => by simp [hi]⟩
      rw [hW2, hxbb]; exact htw.2
    have hZ : Hid (ZRow W2 zb n) := by
      show _ = _
      rw [hW2, hzbb]; exact htw.1
    have hB : Hid (Below w.heap.size w W2) := by
      show Below _ _ _
      rw [hW2]
      exact ((below_drewN HB1.out _).alloc hs1 _).alloc (by simp; omega) _
    have hxz : xb ≠ zb := by omega
    have hxge : w.heap.size ≤ xb := by omega
    rw [← hW2, ← hxbb, ← hzbb]
    clear hW2 hxbb hzbb htw
    go_wp2_with fail
    go_loopw [27] (fun i wr => ∃ k : Nat, k ≤ n ∧ i = .int .i64 k ∧ Hid (XRow wr xb n k a1 b1) ∧ Hid (ZRow wr zb n) ∧ Hid (Below w.heap.size w wr)) (fun i _ => n - (intOf i).toNat)
    case atStart => exact ⟨0, by omega, rfl, hX, hZ, hB⟩
    case round =>
      obtain ⟨k, hk, rfl, hXR, hZR, hBR⟩ := hrel
      obtain ⟨wo, rfl⟩ : ∃ wo : World, wo = wr := ⟨_, rfl⟩
      by_cases hlt : k < n
      · have hka : k < a1.size := by omega
        have hkb : k < b1.size := by omega
        have d0 := hXR.out.cell hlt
        rw [if_neg (by omega)] at d0
        have ex : bits .xor .u8 (a1[k].toNat : Int) (b1[k].toNat : Int) = ((xorAt a1 b1 k : Nat) : Int) := by rw [u8_xor_nat _ _ (UInt8.toNat_lt _) (UInt8.toNat_lt _)]; unfold xorAt; rw [getD_at hka, getD_at hkb]
        have d1 := hXR.out.free k
        go_wp2_with fail
        go_region
        all_goals
          go_wp2_with fail
          go_roundw
          case rel =>
            refine ⟨k + 1, by omega, by go_num, ?_, hZR.out.away hxz, (hBR.out.setCell hxge _).drew⟩
            have h := hXR.out.store hlt
            exact h
          case measure => simp [intOf]; omega
      · obtain rfl : k = n := by omega
        have hcx : ∀ m, (convert 23 9 (.slice (some ⟨xb, 0, none⟩) k k)).run Tryd.prog (wo.drewN m) = .ok (.string (xsum a1 b1 k)) (wo.drewN m) := fun m => hXR.out.conv m
        have hcz : ∀ m, (convert 23 9 (.slice (some ⟨zb, 0, none⟩) k k)).run Tryd.prog (wo.drewN m) = .ok (.string (zsum k)) (wo.drewN m) := fun m => hZR.out.conv m
        have hQ : ∀ m, Quarters (wo.drewN m) := fun m => HQ.out.later h0 (below_drewN hBR.out m)
        obtain ⟨cx, hcxx⟩ : ∃ cx, cx = crcN (xsum a1 b1 k).data.toList := ⟨_, rfl⟩
        obtain ⟨cz, hczz⟩ : ∃ cz, cz = crcN (zsum k).data.toList := ⟨_, rfl⟩
        obtain ⟨ca, hcaa⟩ : ∃ ca, ca = crcN a1.data.toList := ⟨_, rfl⟩
        obtain ⟨cb, hcbb⟩ : ∃ cb, cb = crcN b1.data.toList := ⟨_, rfl⟩
        have HX := fun m => crc_same (xsum a1 b1 k) (wo.drewN m) (by rw [xsum_size]; omega) (hQ m)
        have HZ := fun m => crc_same (zsum k) (wo.drewN m) (by rw [zsum_size]; omega) (hQ m)
        have HA := fun m => crc_same a1 (wo.drewN m) (by omega) (hQ m)
        have HB := fun m => crc_same b1 (wo.drewN m) (by omega) (hQ m)
        have law := sums_law a1 b1 k hxa hxb
        rw [← hcxx, ← hcaa, ← hcbb, ← hczz] at law
        rw [← hcxx] at HX
        rw [← hczz] at HZ
        rw [← hcaa] at HA
        rw [← hcbb] at HB
        have HX := Lib.hid HX
        have HZ := Lib.hid HZ
        have HA := Lib.hid HA
        have HB := Lib.hid HB
        have hca : ca < 4294967296 := by rw [hcaa]; exact crcN_lt _
        have hcb : cb < 4294967296 := by rw [hcbb]; exact crcN_lt _
        have hcz : cz < 4294967296 := by rw [hczz]; exact crcN_lt _
        clear hcxx hczz hcaa hcbb hQ
        obtain ⟨cab, hcab⟩ : ∃ cab, cab = ca ^^^ cb := ⟨_, rfl⟩
        have hcabl : cab < 4294967296 := by rw [hcab]; exact Nat.xor_lt_two_pow (n := 32) hca hcb
        have e1 : bits .xor .u32 (ca : Int) (cb : Int) = (cab : Int) := by rw [u32_xor_nat _ _ hca hcb, hcab]
        have e2 : bits .xor .u32 (cab : Int) (cz : Int) = (cx : Int) := by rw [u32_xor_nat _ _ hcabl hcz, hcab, law]
        clear law hcab hca hcb
        go_wp2_with fail
        go_quiet (first
          | (go_at_call_of 11 (Value.string (xsum a1 b1 k)); exact Calls.quiet_of_same (HX.out _))
          | (go_at_call_of 11 (Value.string (zsum k)); exact Calls.quiet_of_same (HZ.out _))
          | (go_at_call_of 11 (Value.string a1); exact Calls.quiet_of_same (HA.out _))
          | (go_at_call_of 11 (Value.string b1); exact Calls.quiet_of_same (HB.out _)))
        go_wp2_with fail
        go_ret
        exact ⟨rfl, below_drewN hBR.out _⟩

set_option maxRecDepth 100000 in
set_option maxHeartbeats 1600000 in
theorem sums_b (a b : ByteArray) (w : World) (ha : a.size ≤ 140737488355328) (hb : b.size ≤ 140737488355328) (hq : Quarters w) (h0 : 0 < w.heap.size) (hle : b.size < a.size) :
    Calls Tryd.prog 3 #[.string a, .string b] w fun e w' => e = .returned (.bool true) ∧ Below w.heap.size w w' := by
  have HQ := Lib.hid hq
  have HWK := Lib.hid (works_any w hq h0)
  clear hq
  obtain ⟨n, hn⟩ : ∃ n, n = b.size := ⟨_, rfl⟩
  have hna : n ≤ a.size := by omega
  have hnb : n ≤ b.size := by omega
  go_enter Tryd.func3, Tryd.ntmps3
  go_wp2_with (go_at_call 10; refine HWK.out.mono ?_; rintro e w1 ⟨rfl, hb1⟩; have HB1 := Lib.hid hb1; have hs1 := hb1.size; clear hb1)
  rw [← hn]
  clear hn hle
  have hmk := mk_bytes n (by omega)
  go_quiet (fail)
  go_wp2_with fail
  have hxa : (a.extract 0 n).size = n := by simp; omega
  have hxb : (b.extract 0 n).size = n := by simp; omega
  obtain ⟨a1, ha1⟩ : ∃ a1, a1 = a.extract 0 n := ⟨_, rfl⟩
  obtain ⟨b1, hb1⟩ : ∃ b1, b1 = b.extract 0 n := ⟨_, rfl⟩
  rw [← ha1] at hxa
  rw [← hb1] at hxb
  rw [← ha1, ← hb1]
  clear ha1 hb1
  go_region
  · clear hmk
    obtain ⟨W2, hW2⟩ : ∃ W2, W2 = ((w1.drewN (nq + 1)).alloc (.cells (Array.replicate n (.int .u8 0)) 5)).alloc (.cells (Array.replicate n (.int .u8 0)) 5) := ⟨_, rfl⟩
    have htw := two w1 (Array.replicate n (.int .u8 0)) (Array.replicate n (.int .u8 0)) 5 5
    obtain ⟨xb, hxbb⟩ : ∃ xb, xb = w1.heap.size := ⟨_, rfl⟩
    obtain ⟨zb, hzbb⟩ : ∃ zb, zb = w1.heap.size + 1 := ⟨_, rfl⟩
    have hX : Hid (XRow W2 xb n 0 a1 b1) := by
      refine ⟨Array.replicate n (.int .u8 0), ?_, by simp, fun i hi => by simp [hi]⟩
      rw [hW2, hxbb]; exact htw.1
    have hZ : Hid (ZRow W2 zb n) := by
      show _ = _
      rw [hW2, hzbb]; exact htw.2
    have hB : Hid (Below w.heap.size w W2) := by
      show Below _ _ _
      rw [hW2]
      exact ((below_drewN HB1.out _).alloc hs1 _).alloc (by simp; omega) _
    have hxz : xb ≠ zb := by omega
    have hxge : w.heap.size ≤ xb := by omega
    rw [← hW2, ← hzbb, ← hxbb]
    clear hW2 hxbb hzbb htw
    go_wp2_with fail
    go_loopw [27] (fun i wr => ∃ k : Nat, k ≤ n ∧ i = .int .i64 k ∧ Hid (XRow wr xb n k a1 b1) ∧ Hid (ZRow wr zb n) ∧ Hid (Below w.heap.size w wr)) (fun i _ => n - (intOf i).toNat)
    case atStart => exact ⟨0, by omega, rfl, hX, hZ, hB⟩
    case round =>
      obtain ⟨k, hk, rfl, hXR, hZR, hBR⟩ := hrel
      obtain ⟨wo, rfl⟩ : ∃ wo : World, wo = wr := ⟨_, rfl⟩
      by_cases hlt : k < n
      · have hka : k < a1.size := by omega
        have hkb : k < b1.size := by omega
        have d0 := hXR.out.cell hlt
        rw [if_neg (by omega)] at d0
        have ex : bits .xor .u8 (a1[k].toNat : Int) (b1[k].toNat : Int) = ((xorAt a1 b1 k : Nat) : Int) := by rw [u8_xor_nat _ _ (UInt8.toNat_lt _) (UInt8.toNat_lt _)]; unfold xorAt; rw [getD_at hka, getD_at hkb]
        have d1 := hXR.out.free k
        go_wp2_with fail
        go_region
        all_goals
          go_wp2_with fail
          go_roundw
          case rel =>
            refine ⟨k + 1, by omega, by go_num, ?_, hZR.out.away hxz, (hBR.out.setCell hxge _).drew⟩
            have h := hXR.out.store hlt
            exact h
          case measure => simp [intOf]; omega
      · obtain rfl : k = n := by omega
        have hcx : ∀ m, (convert 23 9 (.slice (some ⟨xb, 0, none⟩) k k)).run Tryd.prog (wo.drewN m) = .ok (.string (xsum a1 b1 k)) (wo.drewN m) := fun m => hXR.out.conv m
        have hcz : ∀ m, (convert 23 9 (.slice (some ⟨zb, 0, none⟩) k k)).run Tryd.prog (wo.drewN m) = .ok (.string (zsum k)) (wo.drewN m) := fun m => hZR.out.conv m
        have hQ : ∀ m, Quarters (wo.drewN m) := fun m => HQ.out.later h0 (below_drewN hBR.out m)
        obtain ⟨cx, hcxx⟩ : ∃ cx, cx = crcN (xsum a1 b1 k).data.toList := ⟨_, rfl⟩
        obtain ⟨cz, hczz⟩ : ∃ cz, cz = crcN (zsum k).data.toList := ⟨_, rfl⟩
        obtain ⟨ca, hcaa⟩ : ∃ ca, ca = crcN a1.data.toList := ⟨_, rfl⟩
        obtain ⟨cb, hcbb⟩ : ∃ cb, cb = crcN b1.data.toList := ⟨_, rfl⟩
        have HX := fun m => crc_same (xsum a1 b1 k) (wo.drewN m) (by rw [xsum_size]; omega) (hQ m)
        have HZ := fun m => crc_same (zsum k) (wo.drewN m) (by rw [zsum_size]; omega) (hQ m)
        have HA := fun m => crc_same a1 (wo.drewN m) (by omega) (hQ m)
        have HB := fun m => crc_same b1 (wo.drewN m) (by omega) (hQ m)
        have law := sums_law a1 b1 k hxa hxb
        rw [← hcxx, ← hcaa, ← hcbb, ← hczz] at law
        rw [← hcxx] at HX
        rw [← hczz] at HZ
        rw [← hcaa] at HA
        rw [← hcbb] at HB
        have HX := Lib.hid HX
        have HZ := Lib.hid HZ
        have HA := Lib.hid HA
        have HB := Lib.hid HB
        have hca : ca < 4294967296 := by rw [hcaa]; exact crcN_lt _
        have hcb : cb < 4294967296 := by rw [hcbb]; exact crcN_lt _
        have hcz : cz < 4294967296 := by rw [hczz]; exact crcN_lt _
        clear hcxx hczz hcaa hcbb hQ
        obtain ⟨cab, hcab⟩ : ∃ cab, cab = ca ^^^ cb := ⟨_, rfl⟩
        have hcabl : cab < 4294967296 := by rw [hcab]; exact Nat.xor_lt_two_pow (n := 32) hca hcb
        have e1 : bits .xor .u32 (ca : Int) (cb : Int) = (cab : Int) := by rw [u32_xor_nat _ _ hca hcb, hcab]
        have e2 : bits .xor .u32 (cab : Int) (cz : Int) = (cx : Int) := by rw [u32_xor_nat _ _ hcabl hcz, hcab, law]
        clear law hcab hca hcb
        go_wp2_with fail
        go_quiet (first
          | (go_at_call_of 11 (Value.string (xsum a1 b1 k)); exact Calls.quiet_of_same (HX.out _))
          | (go_at_call_of 11 (Value.string (zsum k)); exact Calls.quiet_of_same (HZ.out _))
          | (go_at_call_of 11 (Value.string a1); exact Calls.quiet_of_same (HA.out _))
          | (go_at_call_of 11 (Value.string b1); exact Calls.quiet_of_same (HB.out _)))
        go_wp2_with fail
        go_ret
        exact ⟨rfl, below_drewN hBR.out _⟩
  · clear hmk
    obtain ⟨W2, hW2⟩ : ∃ W2, W2 = ((w1.drewN (nq + 1)).alloc (.cells (Array.replicate n (.int .u8 0)) 5)).alloc (.cells (Array.replicate n (.int .u8 0)) 5) := ⟨_, rfl⟩
    have htw := two w1 (Array.replicate n (.int .u8 0)) (Array.replicate n (.int .u8 0)) 5 5
    obtain ⟨xb, hxbb⟩ : ∃ xb, xb = w1.heap.size + 1 := ⟨_, rfl⟩
    obtain ⟨zb, hzbb⟩ : ∃ zb, zb = w1.heap.size := ⟨_, rfl⟩
    have hX : Hid (XRow W2 xb n 0 a1 b1) := by
      refine ⟨Array.replicate n (.int .u8 0), ?_, by simp, fun i hi => by simp [hi]⟩
      rw [hW2, hxbb]; exact htw.2
    have hZ : Hid (ZRow W2 zb n) := by
      show _ = _
      rw [hW2, hzbb]; exact htw.1
    have hB : Hid (Below w.heap.size w W2) := by
      show Below _ _ _
      rw [hW2]
      exact ((below_drewN HB1.out _).alloc hs1 _).alloc (by simp; omega) _
    have hxz : xb ≠ zb := by omega
    have hxge : w.heap.size ≤ xb := by omega
    rw [← hW2, ← hxbb, ← hzbb]
    clear hW2 hxbb hzbb htw
    go_wp2_with fail
    go_loopw [27] (fun i wr => ∃ k : Nat, k ≤ n ∧ i = .int .i64 k ∧ Hid (XRow wr xb n k a1 b1) ∧ Hid (ZRow wr zb n) ∧ Hid (Below w.heap.size w wr)) (fun i _ => n - (intOf i).toNat)
    case atStart => exact ⟨0, by omega, rfl, hX, hZ, hB⟩
    case round =>
      obtain ⟨k, hk, rfl, hXR, hZR, hBR⟩ := hrel
      obtain ⟨wo, rfl⟩ : ∃ wo : World, wo = wr := ⟨_, rfl⟩
      by_cases hlt : k < n
      · have hka : k < a1.size := by omega
        have hkb : k < b1.size := by omega
        have d0 := hXR.out.cell hlt
        rw [if_neg (by omega)] at d0
        have ex : bits .xor .u8 (a1[k].toNat : Int) (b1[k].toNat : Int) = ((xorAt a1 b1 k : Nat) : Int) := by rw [u8_xor_nat _ _ (UInt8.toNat_lt _) (UInt8.toNat_lt _)]; unfold xorAt; rw [getD_at hka, getD_at hkb]
        have d1 := hXR.out.free k
        go_wp2_with fail
        go_region
        all_goals
          go_wp2_with fail
          go_roundw
          case rel =>
            refine ⟨k + 1, by omega, by go_num, ?_, hZR.out.away hxz, (hBR.out.setCell hxge _).drew⟩
            have h := hXR.out.store hlt
            exact h
          case measure => simp [intOf]; omega
      · obtain rfl : k = n := by omega
        have hcx : ∀ m, (convert 23 9 (.slice (some ⟨xb, 0, none⟩) k k)).run Tryd.prog (wo.drewN m) = .ok (.string (xsum a1 b1 k)) (wo.drewN m) := fun m => hXR.out.conv m
        have hcz : ∀ m, (convert 23 9 (.slice (some ⟨zb, 0, none⟩) k k)).run Tryd.prog (wo.drewN m) = .ok (.string (zsum k)) (wo.drewN m) := fun m => hZR.out.conv m
        have hQ : ∀ m, Quarters (wo.drewN m) := fun m => HQ.out.later h0 (below_drewN hBR.out m)
        obtain ⟨cx, hcxx⟩ : ∃ cx, cx = crcN (xsum a1 b1 k).data.toList := ⟨_, rfl⟩
        obtain ⟨cz, hczz⟩ : ∃ cz, cz = crcN (zsum k).data.toList := ⟨_, rfl⟩
        obtain ⟨ca, hcaa⟩ : ∃ ca, ca = crcN a1.data.toList := ⟨_, rfl⟩
        obtain ⟨cb, hcbb⟩ : ∃ cb, cb = crcN b1.data.toList := ⟨_, rfl⟩
        have HX := fun m => crc_same (xsum a1 b1 k) (wo.drewN m) (by rw [xsum_size]; omega) (hQ m)
        have HZ := fun m => crc_same (zsum k) (wo.drewN m) (by rw [zsum_size]; omega) (hQ m)
        have HA := fun m => crc_same a1 (wo.drewN m) (by omega) (hQ m)
        have HB := fun m => crc_same b1 (wo.drewN m) (by omega) (hQ m)
        have law := sums_law a1 b1 k hxa hxb
        rw [← hcxx, ← hcaa, ← hcbb, ← hczz] at law
        rw [← hcxx] at HX
        rw [← hczz] at HZ
        rw [← hcaa] at HA
        rw [← hcbb] at HB
        have HX := Lib.hid HX
        have HZ := Lib.hid HZ
        have HA := Lib.hid HA
        have HB := Lib.hid HB
        have hca : ca < 4294967296 := by rw [hcaa]; exact crcN_lt _
        have hcb : cb < 4294967296 := by rw [hcbb]; exact crcN_lt _
        have hcz : cz < 4294967296 := by rw [hczz]; exact crcN_lt _
        clear hcxx hczz hcaa hcbb hQ
        obtain ⟨cab, hcab⟩ : ∃ cab, cab = ca ^^^ cb := ⟨_, rfl⟩
        have hcabl : cab < 4294967296 := by rw [hcab]; exact Nat.xor_lt_two_pow (n := 32) hca hcb
        have e1 : bits .xor .u32 (ca : Int) (cb : Int) = (cab : Int) := by rw [u32_xor_nat _ _ hca hcb, hcab]
        have e2 : bits .xor .u32 (cab : Int) (cz : Int) = (cx : Int) := by rw [u32_xor_nat _ _ hcabl hcz, hcab, law]
        clear law hcab hca hcb
        go_wp2_with fail
        go_quiet (first
          | (go_at_call_of 11 (Value.string (xsum a1 b1 k)); exact Calls.quiet_of_same (HX.out _))
          | (go_at_call_of 11 (Value.string (zsum k)); exact Calls.quiet_of_same (HZ.out _))
          | (go_at_call_of 11 (Value.string a1); exact Calls.quiet_of_same (HA.out _))
          | (go_at_call_of 11 (Value.string b1); exact Calls.quiet_of_same (HB.out _)))
        go_wp2_with fail
        go_ret
        exact ⟨rfl, below_drewN hBR.out _⟩

theorem sums_any (a b : ByteArray) (w : World) (ha : a.size ≤ 140737488355328) (hb : b.size ≤ 140737488355328) (hq : Quarters w) (h0 : 0 < w.heap.size) :
    Calls Tryd.prog 3 #[.string a, .string b] w fun e w' => e = .returned (.bool true) ∧ Below w.heap.size w w' := by
  rcases Nat.lt_or_ge b.size a.size with h | h
  · exact sums_b a b w ha hb hq h0 h
  · exact sums_a a b w ha hb hq h0 h

end Go.Proofs.YtakdfjkkeilffaaDoor
