/- Frames: bytes with a length and a sum ahead of them. -/
import Derived.Test.YtakdfjkkeilffaaDoorX
import Derived.Lib.AppendStr
import Derived.Test.YtakdfjkkeilffaaDoorS
set_option linter.unusedVariables false
set_option linter.unusedSimpArgs false
namespace Go.Proofs.YtakdfjkkeilffaaDoor
open Go.RowKit

/-- a number as four bytes -/
def le4 (x : Nat) : List Nat := [x % 256, x / 256 % 256, x / 65536 % 256, x / 16777216]
/-- the number of four bytes -/
def un4 (b : ByteArray) : Nat := (b.data.toList.getD 0 0).toNat + 256 * (b.data.toList.getD 1 0).toNat + 65536 * (b.data.toList.getD 2 0).toNat + 16777216 * (b.data.toList.getD 3 0).toNat
theorem un4_lt (b : ByteArray) : un4 b < 4294967296 := by
  unfold un4
  have h0 := (b.data.toList.getD 0 0).toNat_lt
  have h1 := (b.data.toList.getD 1 0).toNat_lt
  have h2 := (b.data.toList.getD 2 0).toNat_lt
  have h3 := (b.data.toList.getD 3 0).toNat_lt
  omega

theorem or_add (a b k : Nat) (h : a < 2 ^ k) : a ||| (b * 2 ^ k) = a + b * 2 ^ k := by
  rw [Nat.or_comm, Nat.mul_comm, ← Nat.two_pow_add_eq_or_of_lt h]; omega

theorem news4 (w : World) (x0 x1 x2 x3 : Value) (ty : TypeId) : ∀ (j : Nat) (u : Value), [x0, x1, x2, x3][j]? = some u → (w.alloc (.cells #[x0, x1, x2, x3] ty)).cell? ((⟨w.heap.size, 0, none⟩ : Addr).add j) = some u := fun j u hj =>
  World.news_of_block (cs := #[x0, x1, x2, x3]) (heap_alloc_new w _) j u hj

set_option maxRecDepth 100000 in
set_option maxHeartbeats 1600000 in
theorem four_any (base : Nat) (v : Value) (n : Nat) (xs : List Nat) (x : Nat) (w : World) (hx : x < 4294967296) (hn : n ≤ 1000000) (hb : base ≤ w.heap.size) (hv : w.ownsRow base 5 1 v n (bcells xs)) :
    Calls Tryd.prog 29 #[v, .int .u32 x] w fun e w' => ∃ g cap : Nat, e = .returned (.slice (some ⟨g, 0, none⟩) (n + 4) cap) ∧
      w'.ownsRow base 5 1 (.slice (some ⟨g, 0, none⟩) (n + 4) cap) (n + 4) (bcells (xs ++ le4 x)) ∧ w.grownBy w' v.ownBlock ∧ (v.ownBlock = some g ∨ w.heap.size ≤ g) := by
  obtain ⟨i0, hi, hz0, hz1, hz2⟩ := info_parts i5
  have HV := Lib.hid hv
  clear hv
  obtain ⟨y0, h0⟩ : ∃ y0, y0 = x % 256 := ⟨_, rfl⟩
  obtain ⟨y1, h1⟩ : ∃ y1, y1 = x / 256 % 256 := ⟨_, rfl⟩
  obtain ⟨y2, h2⟩ : ∃ y2, y2 = x / 65536 % 256 := ⟨_, rfl⟩
  obtain ⟨y3, h3⟩ : ∃ y3, y3 = x / 16777216 := ⟨_, rfl⟩
  have e0 : (x : Int) % 256 = (y0 : Int) := by omega
  have e1 : (x : Int) / 256 % 256 = (y1 : Int) := by omega
  have e2 : (x : Int) / 65536 % 256 = (y2 : Int) := by omega
  have e3 : (x : Int) / 16777216 = (y3 : Int) := by omega
  have hl : le4 x = [y0, y1, y2, y3] := by rw [h0, h1, h2, h3]; rfl
  rw [hl]
  clear hl h0 h1 h2 h3
  have hnews := news4 w (.int .u8 y0) (.int .u8 y1) (.int .u8 y2) (.int .u8 y3) 5
  have HNEWS := Lib.hid hnews
  clear hnews
  go_enter Tryd.func29, Tryd.ntmps29
  go_wp2_with (at_builtin; refine wpList_append_lies _ rfl _ _ 23 rfl base 5 i0 (.int .u8 0) 1 1 t23 hi hz0 hz1 hz2 rfl (by decide) _ _ _ rfl (HV.out.alloc _) ⟨w.heap.size, 0, none⟩ 4 4 [.int .u8 y0, .int .u8 y1, .int .u8 y2, .int .u8 y3] rfl rfl HNEWS.out ?c2 ?c6 ?c3 ?c4 ?c5 (w.heap.size + 1) (by simp) ?_)
  case c2 => intro u hu; simp at hu; rcases hu with rfl | rfl | rfl | rfl <;> rfl
  case c3 => unfold maxLen; omega
  case c4 => omega
  case c5 => simp; omega
  case c6 => omega
  intro g cap w2 hown hgrow hat hlt
  have HOWN := Lib.hid hown
  have HGR := Lib.hid (grown_alloc hgrow)
  have HAT := Lib.hid hat
  clear hown hgrow hat
  go_wp2
  go_ret
  refine ⟨g, cap, rfl, ?_, HGR.out, ?_⟩
  · have h1 := HOWN.out
    simpa [bcells] using h1
  · rcases HAT.out with h | h
    · exact .inl h
    · exact .inr (by omega)

theorem le4_un4 (x : Nat) (r : List UInt8) (b : ByteArray) (hb : b.data.toList = (le4 x).map UInt8.ofNat ++ r) (hx : x < 4294967296) : un4 b = x := by
  unfold un4
  rw [hb]
  simp [le4]
  omega

set_option maxRecDepth 100000 in
set_option maxHeartbeats 1600000 in
theorem unfour_any (b : ByteArray) (w : World) (h4 : 4 ≤ b.size) :
    Calls Tryd.prog 30 #[.string b] w fun e w' => e = .returned (.int .u32 (un4 b : Nat)) ∧ ∃ n, w' = w.drewN n := by
  obtain ⟨c0, hc0⟩ : ∃ c0, c0 = (b[0]'(by omega)).toNat := ⟨_, rfl⟩
  obtain ⟨c1, hc1⟩ : ∃ c1, c1 = (b[1]'(by omega)).toNat := ⟨_, rfl⟩
  obtain ⟨c2, hc2⟩ : ∃ c2, c2 = (b[2]'(by omega)).toNat := ⟨_, rfl⟩
  obtain ⟨c3, hc3⟩ : ∃ c3, c3 = (b[3]'(by omega)).toNat := ⟨_, rfl⟩
  have l0 : c0 < 256 := by rw [hc0]; exact UInt8.toNat_lt _
  have l1 : c1 < 256 := by rw [hc1]; exact UInt8.toNat_lt _
  have l2 : c2 < 256 := by rw [hc2]; exact UInt8.toNat_lt _
  have l3 : c3 < 256 := by rw [hc3]; exact UInt8.toNat_lt _
  have hun : un4 b = c0 + 256 * c1 + 65536 * c2 + 16777216 * c3 := by
    have g : ∀ i (h : i < b.size), b.data.toList.getD i 0 = b[i] := fun i h => by rw [List.getD_eq_getElem?_getD, List.getElem?_eq_getElem (by simpa using h)]; rfl
    unfold un4
    rw [g 0 (by omega), g 1 (by omega), g 2 (by omega), g 3 (by omega), ← hc0, ← hc1, ← hc2, ← hc3]
  have HUN := Lib.hid hun
  clear hun
  have hs : 3 < b.size := by omega
  have hs0 : 0 < b.size := by omega
  have hs1 : 1 < b.size := by omega
  have hs2 : 2 < b.size := by omega
  have hi1 : (1 : Int) < (b.size : Int) := by omega
  have hi2 : (2 : Int) < (b.size : Int) := by omega
  have hi3 : (3 : Int) < (b.size : Int) := by omega
  go_enter Tryd.func30, Tryd.ntmps30
  go_wp2_with fail
  go_quiet (fail)
  go_wp2_with fail
  go_ret
  refine ⟨ret_int ?_, _, rfl⟩
  rw [HUN.out, ← hc0, ← hc1, ← hc2, ← hc3]
  have k1 : bits .or .u32 (c0 : Int) ((c1 : Int) * 256) = ((c0 + c1 * 256 : Nat) : Int) := by
    have := u32_or_nat c0 (c1 * 256) (by omega) (by omega)
    rw [show ((c1 : Int) * 256) = ((c1 * 256 : Nat) : Int) from by omega, this, show (256 : Nat) = 2 ^ 8 from rfl, or_add _ _ _ (by omega)]
  have k2 : bits .or .u32 ((c0 + c1 * 256 : Nat) : Int) ((c2 : Int) * 65536) = ((c0 + c1 * 256 + c2 * 65536 : Nat) : Int) := by
    have := u32_or_nat (c0 + c1 * 256) (c2 * 65536) (by omega) (by omega)
    rw [show ((c2 : Int) * 65536) = ((c2 * 65536 : Nat) : Int) from by omega, this, show (65536 : Nat) = 2 ^ 16 from rfl, or_add _ _ _ (by omega)]
  have k3 : bits .or .u32 ((c0 + c1 * 256 + c2 * 65536 : Nat) : Int) ((c3 : Int) * 16777216) = ((c0 + c1 * 256 + c2 * 65536 + c3 * 16777216 : Nat) : Int) := by
    have := u32_or_nat (c0 + c1 * 256 + c2 * 65536) (c3 * 16777216) (by omega) (by omega)
    rw [show ((c3 : Int) * 16777216) = ((c3 * 16777216 : Nat) : Int) from by omega, this, show (16777216 : Nat) = 2 ^ 24 from rfl, or_add _ _ _ (by omega)]
  rw [k1, k2, k3]
  omega

/-- what Frame tells -/
def frB (b : ByteArray) : ByteArray := ofN (le4 b.size ++ le4 (crcN b.data.toList) ++ nbytes b)
def frR (b : ByteArray) : ByteArray × Nat := if 262144 < b.size then (⟨#[]⟩, 2) else (frB b, 0)
theorem row_text1 {w : World} {base n : Nat} {v : Value} {ys : List Nat} (h : w.ownsRow base 5 1 v n (bcells ys)) (hn : n = ys.length) (hpos : 0 < ys.length) :
    (convert 23 9 v).run Tryd.prog w = .ok (.string (ofN ys)) w := by
  subst hn; exact row_text h hpos

set_option maxRecDepth 100000 in
set_option maxHeartbeats 1600000 in
theorem frame_any (b : ByteArray) (w : World) (hq : Quarters w) (h0 : 0 < w.heap.size) :
    Calls Tryd.prog 12 #[.string b] w fun e w' => e = .returned (.tuple #[.string (frR b).1, .int .i64 ((frR b).2 : Nat)]) ∧ Below w.heap.size w w' := by
  have HQ := Lib.hid hq
  clear hq
  by_cases hbig : 262144 < b.size
  · have hbig2 : (262144 : Int) < (b.size : Int) := by omega
    have HE : Hid (frR b = (⟨#[]⟩, 2)) := by show frR b = _; unfold frR; rw [if_pos hbig]
    go_enter Tryd.func12, Tryd.ntmps12
    go_wp2_with fail
    go_ret2
    rw [HE.out]
    exact ⟨rfl, Below.refl _ _⟩
  · have HE : Hid (frR b = (ofN (le4 b.size ++ le4 (crcN b.data.toList) ++ nbytes b), 0)) := by show frR b = _; unfold frR; rw [if_neg hbig]; rfl
    have hbig2 : ¬ (262144 : Int) < (b.size : Int) := by omega
    obtain ⟨c, hc⟩ : ∃ c, c = crcN b.data.toList := ⟨_, rfl⟩
    have hcl : c < 4294967296 := by rw [hc]; exact crcN_lt _
    rw [← hc] at HE
    have HCRC : Hid (∀ w, Quarters w → Calls Tryd.prog 11 #[.string b] w fun e w' => e = .returned (.int .u32 (c : Nat)) ∧ w = w') := by
      intro w hq
      rw [hc]
      exact crc_any b w (by omega) hq
    clear hc
    have e1 : (b.size : Int) % 4294967296 = (b.size : Int) := by omega
    obtain ⟨i0, hi, hz0, hz1, hz2⟩ := info_parts i5
    go_enter Tryd.func12, Tryd.ntmps12
    go_wp2_with (first
      | (go_at_call 29; refine (four_any w.heap.size _ 4 (le4 b.size) c w1 hcl (by omega) hs1 HO1.out).mono ?_; rintro e w3 ⟨g2, cap2, rfl, hown2, hgr2, hat2⟩; have hb2 : Below w.heap.size w w3 := HB1.out.trans ⟨hgr2.os, hgr2.tape, hgr2.output, hgr2.size, fun k hk => hgr2.block k (by omega) (by simp [Value.ownBlock]; omega)⟩; have HB2 := Lib.hid hb2; have hs2 := hb2.size; have HO2 := Lib.hid hown2; have hg2 : w.heap.size ≤ g2 := (by rcases hat2 with h | h; (simp [Value.ownBlock] at h; omega); omega); clear hb2 hown2 hgr2 hat2)
      | (go_at_call 11; refine (HCRC.out w1 (HQ.out.later h0 HB1.out)).mono ?_; rintro e w2 ⟨rfl, rfl⟩)
      | (go_at_call 29; refine (four_any w.heap.size (.slice none 0 0) 0 [] b.size w (by omega) (by omega) (Nat.le_refl _) (World.ownsRow_nil _ _ _ _)).mono ?_; rintro e w1 ⟨g1, cap1, rfl, hown1, hgr1, hat1⟩; have hb1 : Below w.heap.size w w1 := ⟨hgr1.os, hgr1.tape, hgr1.output, hgr1.size, fun k hk => hgr1.block k hk (by simp [Value.ownBlock])⟩; have HB1 := Lib.hid hb1; have hs1 := hb1.size; have HO1 := Lib.hid hown1; have hg1 : w.heap.size ≤ g1 := (by rcases hat1 with h | h; (simp [Value.ownBlock] at h); exact h); clear hb1 hown1 hgr1 hat1)
      | (at_builtin; refine Lib.wpList_append_own_string _ rfl _ _ 23 9 rfl w.heap.size 5 i0 t23 t9 hi hz0 hz1 hz2 _ 8 (bcells (le4 b.size ++ le4 c)) rfl HO2.out b rfl ?c3 ?c4 ?c5 ?_))
    case c3 => unfold maxLen; omega
    case c4 => omega
    case c5 => omega
    intro v4 w4 hown hgrow _
    have hy : bcells (le4 b.size ++ le4 c) ++ Lib.strCells b = bcells (le4 b.size ++ le4 c ++ nbytes b) := by rw [text_cells]; simp [bcells]
    rw [hy] at hown
    have hcv := row_text1 hown (by simp [le4, nbytes_length]; omega) (by simp [le4])
    have HB4 : Hid (Below w.heap.size w w4) := HB2.out.trans ⟨hgrow.os, hgrow.tape, hgrow.output, hgrow.size, fun k hk => hgrow.block k (by omega) (by simp [Value.ownBlock]; omega)⟩
    clear hown hgrow hy
    go_wp2
    go_ret2
    rw [HE.out]
    exact ⟨rfl, HB4.out⟩

end Go.Proofs.YtakdfjkkeilffaaDoor
