/- The document's answer on frames: sums, four bytes, faults. -/
import Derived.Test.YtakdfjkkeilffaaDoorZ
set_option linter.unusedVariables false
set_option linter.unusedSimpArgs false
namespace Go.Proofs.YtakdfjkkeilffaaDoor
open Go.RowKit

/-- one bit of the sum -/
def bstep (s : Nat) : Nat := if s % 2 = 1 then s / 2 ^^^ 3988292384 else s / 2
def bsteps : Nat → Nat → Nat
  | 0, s => s
  | k + 1, s => bsteps k (bstep s)
theorem bstep_lt (s : Nat) (h : s < 4294967296) : bstep s < 4294967296 := by
  unfold bstep
  split
  · exact Nat.xor_lt_two_pow (n := 32) (by omega) (by omega)
  · omega
theorem bsteps_snoc (k : Nat) : ∀ s, bsteps (k + 1) s = bstep (bsteps k s) := by
  induction k with
  | zero => intro s; rfl
  | succ k ih => intro s; show bsteps (k + 1) (bstep s) = _; rw [ih]; rfl
theorem div2_xor (x y : Nat) : (x ^^^ y) / 2 = x / 2 ^^^ y / 2 := by
  have := Nat.shiftRight_xor_distrib (a := x) (b := y) (i := 1)
  simpa [Nat.shiftRight_eq_div_pow] using this
theorem mod2_xor (x y : Nat) : (x ^^^ y) % 2 = x % 2 ^^^ y % 2 := by
  have := Nat.xor_mod_two_pow (a := x) (b := y) (n := 1)
  simpa using this
theorem bstep_xor (x y : Nat) : bstep (x ^^^ y) = bstep x ^^^ bstep y := by
  unfold bstep
  rw [mod2_xor, div2_xor]
  have hx : x % 2 = 0 ∨ x % 2 = 1 := by omega
  have hy : y % 2 = 0 ∨ y % 2 = 1 := by omega
  rcases hx with hx | hx <;> rcases hy with hy | hy <;> simp [hx, hy]
  · rw [Nat.xor_assoc]
  · rw [Nat.xor_assoc, Nat.xor_assoc, Nat.xor_comm (y / 2)]
  · rw [xor_swap, Nat.xor_self, Nat.xor_zero]
theorem bsteps_xor (k : Nat) : ∀ x y, bsteps k (x ^^^ y) = bsteps k x ^^^ bsteps k y := by
  induction k with
  | zero => intro x y; rfl
  | succ k ih => intro x y; show bsteps k (bstep _) = _; rw [bstep_xor, ih]; rfl
theorem bsteps_low : ∀ l, l < 16 → bsteps 4 l = qt.getD l 0 := by decide
theorem bsteps_high (h : Nat) : bsteps 4 (16 * h) = h := by
  have e : ∀ m, bstep (2 * m) = m := fun m => by unfold bstep; rw [if_neg (by omega)]; omega
  show bstep (bstep (bstep (bstep (16 * h)))) = h
  rw [show 16 * h = 2 * (2 * (2 * (2 * h))) from by omega, e, e, e, e]
theorem split16 (s : Nat) : s = (16 * (s / 16)) ^^^ (s % 16) := by
  have h := Nat.two_pow_add_eq_or_of_lt (i := 4) (b := s % 16) (by omega) (s / 16)
  have h2 : (2 ^ 4 * (s / 16)) ^^^ (s % 16) = 2 ^ 4 * (s / 16) + s % 16 := by
    rw [h]
    apply Nat.eq_of_testBit_eq
    intro i
    simp only [Nat.testBit_xor, Nat.testBit_or]
    by_cases hi : i < 4
    · have : (2 ^ 4 * (s / 16)).testBit i = false := by
        rw [Nat.testBit_two_pow_mul]; simp; omega
      simp [this]
    · have h3 : 2 ^ 4 ≤ 2 ^ i := Nat.pow_le_pow_right (by omega) (by omega)
      have h4 : s % 16 < 2 ^ 4 := Nat.mod_lt s (by omega)
      have : (s % 16).testBit i = false := Nat.testBit_lt_two_pow (Nat.lt_of_lt_of_le h4 h3)
      simp [this]
  have h5 : 16 * (s / 16) + s % 16 = s := Nat.div_add_mod s 16
  exact h5.symm.trans h2.symm
theorem bsteps_four (s : Nat) : bsteps 4 s = qstep s := by
  have h := bsteps_xor 4 (16 * (s / 16)) (s % 16)
  rw [← split16, bsteps_high, bsteps_low _ (Nat.mod_lt _ (by omega))] at h
  exact h
theorem bsteps_eight (s c : Nat) : bsteps 8 (s ^^^ c) = cstep s c := by
  show bsteps 4 (bsteps 4 (s ^^^ c)) = _
  rw [bsteps_four, bsteps_four]; rfl

set_option maxHeartbeats 1600000 in
theorem rcrc_any (b : ByteArray) (w : World) (hb : b.size ≤ 140737488355328) :
    Calls Tryd.prog 15 #[.string b] w fun e w' => e = .returned (.int .u32 (crcN b.data.toList : Nat)) ∧ w = w' := by
  go_enter Tryd.func15, Tryd.ntmps15
  go_wp2
  go_loop [3, 4] (fun s i => ∃ k x : Nat, k ≤ b.size ∧ x < 4294967296 ∧ i = .int .i64 k ∧ s = .int .u32 (x : Int) ∧ Hid (x = crcF 4294967295 (b.data.toList.take k))) (fun _ i => b.size - (intOf i).toNat)
  case atStart => exact ⟨0, 4294967295, by omega, by omega, rfl, rfl, rfl⟩
  case round =>
    obtain ⟨k, x, hk, hx, rfl, rfl, HX⟩ := hrel
    by_cases hlt : k < b.size
    · obtain ⟨c, hc⟩ : ∃ c, c = b[k] := ⟨_, rfl⟩
      have hcl := c.toNat_lt
      obtain ⟨y0, hy0⟩ : ∃ y0, y0 = x ^^^ c.toNat := ⟨_, rfl⟩
      have hy0l : y0 < 4294967296 := by rw [hy0]; exact Nat.xor_lt_two_pow (n := 32) hx (by omega)
      have e0 : ((b[k].toNat : Nat) : Int) % 4294967296 = (c.toNat : Int) := by rw [← hc]; omega
      have e1 : bits .xor .u32 (x : Int) (c.toNat : Int) = (y0 : Int) := by rw [u32_xor_nat _ _ hx (by omega), hy0]
      have HFIN : Hid (bsteps 8 y0 = crcF 4294967295 (b.data.toList.take (k + 1))) := by
        show bsteps 8 y0 = crcF 4294967295 (b.data.toList.take (k + 1))
        rw [take_snoc b k hlt, crcF_snoc, ← HX.out, ← hc, hy0, bsteps_eight]
      clear hc hy0
      go_wp2
      go_loop [3, 5] (fun s i => ∃ t y : Nat, t ≤ 8 ∧ y < 4294967296 ∧ i = .int .i64 t ∧ s = .int .u32 (y : Int) ∧ Hid (y = bsteps t y0)) (fun _ i => 8 - (intOf i).toNat)
      case atStart => exact ⟨0, y0, by omega, hy0l, rfl, rfl, rfl⟩
      case round =>
        obtain ⟨t, y, ht, hy, rfl, rfl, HY⟩ := hrel
        by_cases htl : t < 8
        · obtain ⟨z, hz⟩ : ∃ z, z = bstep y := ⟨_, rfl⟩
          have hzl : z < 4294967296 := by rw [hz]; exact bstep_lt y hy
          have HZ : Hid (z = bsteps (t + 1) y0) := by show z = _; rw [bsteps_snoc, ← HY.out, hz]
          by_cases hodd : y % 2 = 1
          · have ho : (y : Int) % 2 = 1 := by omega
            have e2 : bits .xor .u32 ((y : Int) / 2) 3988292384 = (z : Int) := by
              have := u32_xor_nat (y / 2) 3988292384 (by omega) (by omega)
              rw [show ((y / 2 : Nat) : Int) = (y : Int) / 2 from by omega] at this
              rw [hz]; unfold bstep; rw [if_pos hodd]; exact this
            clear hz
            go_wp2
            go_round
            case rel => exact ⟨t + 1, z, by omega, hzl, by go_num, rfl, HZ.out⟩
            case measure => simp [intOf]; omega
          · have ho : (y : Int) % 2 = 0 := by omega
            have e2 : (y : Int) / 2 = (z : Int) := by rw [hz]; unfold bstep; rw [if_neg hodd]; omega
            clear hz
            go_wp2
            go_round
            case rel => exact ⟨t + 1, z, by omega, hzl, by go_num, rfl, HZ.out⟩
            case measure => simp [intOf]; omega
        · obtain rfl : t = 8 := by omega
          go_wp2
          go_round
          case rel => exact ⟨k + 1, y, by omega, hy, by go_num, rfl, by show y = _; rw [HY.out]; exact HFIN.out⟩
          case measure => simp [intOf]; omega
    · obtain rfl : k = b.size := by omega
      have e1 : bits .xor .u32 (x : Int) 4294967295 = ((4294967295 ^^^ x : Nat) : Int) := by
        have := u32_xor_nat x 4294967295 hx (by omega)
        rw [Nat.xor_comm]; exact this
      go_wp2
      go_ret
      refine ⟨ret_int ?_, rfl⟩
      unfold crcN
      rw [← List.take_of_length_le (l := b.data.toList) (i := b.size) (by simp), ← HX.out]

theorem le4_lt (x : Nat) (hx : x < 4294967296) : ∀ c ∈ le4 x, c < 256 := by
  intro c hc
  simp [le4] at hc
  omega
set_option maxRecDepth 100000 in
set_option maxHeartbeats 1600000 in
theorem rfour_any (x : Nat) (w : World) (hx : x < 4294967296) :
    Calls Tryd.prog 31 #[.int .u32 x] w fun e w' => e = .returned (.slice (some ⟨w.heap.size, 0, none⟩) 4 4) ∧ w' = w.alloc (.cells (bcells (le4 x)).toArray 5) := by
  obtain ⟨y0, h0⟩ : ∃ y0, y0 = x % 256 := ⟨_, rfl⟩
  obtain ⟨y1, h1⟩ : ∃ y1, y1 = x / 256 % 256 := ⟨_, rfl⟩
  obtain ⟨y2, h2⟩ : ∃ y2, y2 = x / 65536 % 256 := ⟨_, rfl⟩
  obtain ⟨y3, h3⟩ : ∃ y3, y3 = x / 16777216 := ⟨_, rfl⟩
  have e0 : (x : Int) % 256 = (y0 : Int) := by omega
  have e1 : (x : Int) / 256 % 256 = (y1 : Int) := by omega
  have e2 : (x : Int) / 65536 % 256 = (y2 : Int) := by omega
  have e3 : (x : Int) / 16777216 = (y3 : Int) := by omega
  have l0 : y0 < 256 := by omega
  have l1 : y1 < 256 := by omega
  have l2 : y2 < 256 := by omega
  have l3 : y3 < 256 := by omega
  have hl : (bcells (le4 x)).toArray = #[.int .u8 (y0 : Int), .int .u8 (y1 : Int), .int .u8 (y2 : Int), .int .u8 (y3 : Int)] := by rw [h0, h1, h2, h3]; rfl
  rw [hl]
  clear hl h0 h1 h2 h3
  go_enter Tryd.func31, Tryd.ntmps31
  go_wp2
  go_ret
  exact ⟨rfl, rfl⟩

set_option maxRecDepth 100000 in
set_option maxHeartbeats 1600000 in
theorem getfour_any (b : ByteArray) (w : World) (h4 : 4 ≤ b.size) :
    Calls Tryd.prog 33 #[.string b] w fun e w' => e = .returned (.int .u32 (un4 b : Nat)) ∧ ∃ n, w' = w.drewN n := by
  obtain ⟨c0, hc0⟩ : ∃ c0, c0 = (b[0]'(by omega)).toNat := ⟨_, rfl⟩
  obtain ⟨c1, hc1⟩ : ∃ c1, c1 = (b[1]'(by omega)).toNat := ⟨_, rfl⟩
  obtain ⟨c2, hc2⟩ : ∃ c2, c2 = (b[2]'(by omega)).toNat := ⟨_, rfl⟩
  obtain ⟨c3, hc3⟩ : ∃ c3, c3 = (b[3]'(by omega)).toNat := ⟨_, rfl⟩
  have l0 : c0 < 256 := by rw [hc0]; exact UInt8.toNat_lt _
  have l1 : c1 < 256 := by rw [hc1]; exact UInt8.toNat_lt _
  have l2 : c2 < 256 := by rw [hc2]; exact UInt8.toNat_lt _
  have l3 : c3 < 256 := by rw [hc3]; exact UInt8.toNat_lt _
  have hun : un4 b = c0 + 256 * c1 + 65536 * c2 + 16777216 * c3 := by
    have g : ∀ i (h : i < b.size), b.data.toList.getD i 0 = b[i] := fun i h => by rw [List.getD_eq_getElem?_getD, List.getElem?_eq_getElem (by simpa using h)]; rfl
    unfold un4
    rw [g 0 (by omega), g 1 (by omega), g 2 (by omega), g 3 (by omega), ← hc0, ← hc1, ← hc2, ← hc3]
  have HUN := Lib.hid hun
  clear hun
  have hs0 : 0 < b.size := by omega
  have hs1 : 1 < b.size := by omega
  have hs2 : 2 < b.size := by omega
  have hs : 3 < b.size := by omega
  have hi1 : (1 : Int) < (b.size : Int) := by omega
  have hi2 : (2 : Int) < (b.size : Int) := by omega
  have hi3 : (3 : Int) < (b.size : Int) := by omega
  go_enter Tryd.func33, Tryd.ntmps33
  go_wp2_with fail
  go_quiet (fail)
  go_wp2_with fail
  go_ret
  refine ⟨ret_int ?_, _, rfl⟩
  rw [HUN.out, ← hc0, ← hc1, ← hc2, ← hc3]
  omega

set_option maxHeartbeats 1600000 in
theorem fault_any (a c : Int) (w : World) : Calls Tryd.prog 32 #[.int .i64 a, .int .i64 c] w fun e w' => e = .returned (.agg #[.int .i64 a, .int .i64 c]) ∧ Below w.heap.size w w' := by
  go_enter Tryd.func32, Tryd.ntmps32
  go_wp2
  exact bodyPost_ret (v := .agg #[.int .i64 a, .int .i64 c]) (by simp [results, Tryd.results32, go_sem]) rfl ⟨rfl, below_al _ _⟩

end Go.Proofs.YtakdfjkkeilffaaDoor
