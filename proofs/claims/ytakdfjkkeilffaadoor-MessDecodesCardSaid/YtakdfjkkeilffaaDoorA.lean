/- Crc: the sum of bytes. -/
import Derived.Test.YtakdfjkkeilffaaDoorRows
import Derived.WalkKit
import Derived.Lib.Hide
import Derived.WalkLawsBesides
import Derived.WalkSpells
import Derived.OneCell
import Derived.Deep.LoopGhost
import Derived.Deep.QuietTactic
import Derived.BigQuiet
import Derived.StillTailTactics
set_option linter.unusedVariables false
set_option linter.unusedSimpArgs false
namespace Go.Proofs.YtakdfjkkeilffaaDoor
open Go.RowKit

theorem ret_int {k : IntKind} {a b : Int} (h : a = b) : Ending.returned (.int k a) = .returned (.int k b) := by rw [h]
theorem ret_bool {a b : Bool} (h : a = b) : Ending.returned (.bool a) = .returned (.bool b) := by rw [h]

def qt : List Nat := [0, 498536548, 997073096, 651767980, 1994146192, 1802195444, 1303535960, 1342533948, 3988292384, 4027552580, 3604390888, 3412177804, 2607071920, 2262029012, 2685067896, 3183342108]
/-- the table lies where it lies -/
def Quarters (w : World) : Prop := ∀ i, i < 16 → w.cell? ⟨0, i, none⟩ = some (.int .u32 ((qt.getD i 0 : Nat) : Int))

def qstep (s : Nat) : Nat := s / 16 ^^^ qt.getD (s % 16) 0
def cstep (s c : Nat) : Nat := qstep (qstep (s ^^^ c))
def crcF (s : Nat) (l : List UInt8) : Nat := l.foldl (fun a c => cstep a c.toNat) s
def crcN (l : List UInt8) : Nat := 4294967295 ^^^ crcF 4294967295 l

theorem qt_lt : ∀ i, qt.getD i 0 < 2 ^ 32 := by
  intro i
  by_cases h : i < 16
  · have : ∀ i, i < 16 → qt.getD i 0 < 2 ^ 32 := by decide
    exact this i h
  · rw [List.getD_eq_getElem?_getD, List.getElem?_eq_none (by simp [qt]; omega)]; decide
theorem qstep_lt (s : Nat) (h : s < 4294967296) : qstep s < 4294967296 := Nat.xor_lt_two_pow (n := 32) (by omega) (qt_lt _)
theorem cstep_lt (s c : Nat) (h : s < 4294967296) (hc : c < 256) : cstep s c < 4294967296 := qstep_lt _ (qstep_lt _ (Nat.xor_lt_two_pow (n := 32) h (by omega)))
theorem crcF_lt (l : List UInt8) : ∀ s, s < 4294967296 → crcF s l < 4294967296 := by
  induction l with
  | nil => intro s h; exact h
  | cons c r ih => intro s h; exact ih _ (cstep_lt s _ h c.toNat_lt)
theorem crcF_snoc (s : Nat) (l : List UInt8) (c : UInt8) : crcF s (l ++ [c]) = cstep (crcF s l) c.toNat := by simp [crcF]

theorem take_snoc (s : ByteArray) (k : Nat) (h : k < s.size) : s.data.toList.take (k + 1) = s.data.toList.take k ++ [s[k]] := by
  rw [List.take_add_one, List.getElem?_eq_getElem (by simpa using h)]; rfl

set_option maxHeartbeats 800000 in
theorem crc_any (b : ByteArray) (w : World) (hb : b.size ≤ 140737488355328) (hq : Quarters w) :
    Calls Tryd.prog 11 #[.string b] w fun e w' => e = .returned (.int .u32 (crcN b.data.toList : Nat)) ∧ w = w' := by
  have HQ := Lib.hid hq
  clear hq
  go_enter Tryd.func11, Tryd.ntmps11
  go_wp2
  go_loop [3, 7] (fun s i => ∃ k x : Nat, k ≤ b.size ∧ x < 4294967296 ∧ i = .int .i64 k ∧ s = .int .u32 (x : Int) ∧ Hid (x = crcF 4294967295 (b.data.toList.take k))) (fun _ i => b.size - (intOf i).toNat)
  case atStart => exact ⟨0, 4294967295, by omega, by omega, rfl, rfl, rfl⟩
  case round =>
    obtain ⟨k, x, hk, hx, rfl, rfl, HX⟩ := hrel
    by_cases hlt : k < b.size
    · obtain ⟨c, hc⟩ : ∃ c, c = b[k] := ⟨_, rfl⟩
      have hcl := c.toNat_lt
      obtain ⟨y0, hy0⟩ : ∃ y0, y0 = x ^^^ c.toNat := ⟨_, rfl⟩
      have hy0l : y0 < 4294967296 := by rw [hy0]; exact Nat.xor_lt_two_pow (n := 32) hx (by omega)
      obtain ⟨y1, hy1⟩ : ∃ y1, y1 = qstep y0 := ⟨_, rfl⟩
      have hy1l : y1 < 4294967296 := by rw [hy1]; exact qstep_lt _ hy0l
      obtain ⟨y2, hy2⟩ : ∃ y2, y2 = qstep y1 := ⟨_, rfl⟩
      have hy2l : y2 < 4294967296 := by rw [hy2]; exact qstep_lt _ hy1l
      obtain ⟨q0, hq0⟩ : ∃ q0, q0 = qt.getD (y0 % 16) 0 := ⟨_, rfl⟩
      obtain ⟨q1, hq1⟩ : ∃ q1, q1 = qt.getD (y1 % 16) 0 := ⟨_, rfl⟩
      have hq0l : q0 < 4294967296 := by rw [hq0]; exact qt_lt _
      have hq1l : q1 < 4294967296 := by rw [hq1]; exact qt_lt _
      obtain ⟨i0, hi0⟩ : ∃ i0, i0 = y0 % 16 := ⟨_, rfl⟩
      obtain ⟨i1, hi1⟩ : ∃ i1, i1 = y1 % 16 := ⟨_, rfl⟩
      have hi0l : i0 < 16 := by omega
      have hi1l : i1 < 16 := by omega
      have c0 := HQ.out i0 hi0l
      have c1 := HQ.out i1 hi1l
      rw [hi0, ← hq0, ← hi0] at c0
      rw [hi1, ← hq1, ← hi1] at c1
      have e0 : ((b[k].toNat : Nat) : Int) % 4294967296 = (c.toNat : Int) := by rw [← hc]; omega
      have e1 : bits .xor .u32 (x : Int) (c.toNat : Int) = (y0 : Int) := by rw [u32_xor_nat _ _ hx (by omega), hy0]
      have e2 : bits .and .u32 (y0 : Int) 15 = (i0 : Int) := by
        have := u32_and_nat y0 15 hy0l (by omega)
        rw [show (((15 : Nat)) : Int) = 15 from rfl] at this
        rw [this, hi0, show (15 : Nat) = 2 ^ 4 - 1 from rfl, Nat.and_two_pow_sub_one_eq_mod]
      have e3 : bits .xor .u32 ((y0 : Int) / 16) (q0 : Int) = (y1 : Int) := by
        have := u32_xor_nat (y0 / 16) q0 (by omega) hq0l
        rw [show ((y0 / 16 : Nat) : Int) = (y0 : Int) / 16 from by omega] at this
        rw [this, hy1]; unfold qstep; rw [hq0]
      have e4 : bits .and .u32 (y1 : Int) 15 = (i1 : Int) := by
        have := u32_and_nat y1 15 hy1l (by omega)
        rw [show (((15 : Nat)) : Int) = 15 from rfl] at this
        rw [this, hi1, show (15 : Nat) = 2 ^ 4 - 1 from rfl, Nat.and_two_pow_sub_one_eq_mod]
      have e5 : bits .xor .u32 ((y1 : Int) / 16) (q1 : Int) = (y2 : Int) := by
        have := u32_xor_nat (y1 / 16) q1 (by omega) hq1l
        rw [show ((y1 / 16 : Nat) : Int) = (y1 : Int) / 16 from by omega] at this
        rw [this, hy2]; unfold qstep; rw [hq1]
      have HFIN : Hid (y2 = crcF 4294967295 (b.data.toList.take (k + 1))) := by
        show y2 = crcF 4294967295 (b.data.toList.take (k + 1))
        rw [take_snoc b k hlt, crcF_snoc, ← HX.out, ← hc, hy2, hy1, hy0]; rfl
      clear hc hy0 hy1 hy2 hq0 hq1 hi0 hi1
      go_wp2
      go_round
      case rel => exact ⟨k + 1, y2, by omega, hy2l, by go_num, rfl, HFIN.out⟩
      case measure => simp [intOf]; omega
    · obtain rfl : k = b.size := by omega
      have e1 : bits .xor .u32 IntKind.u32.max (x : Int) = ((4294967295 ^^^ x : Nat) : Int) := u32_xor_nat 4294967295 x (by omega) hx
      go_wp2
      go_ret
      refine ⟨ret_int ?_, rfl⟩
      unfold crcN
      rw [← List.take_of_length_le (l := b.data.toList) (i := b.size) (by simp), ← HX.out]

theorem crcN_lt (l : List UInt8) : crcN l < 4294967296 := Nat.xor_lt_two_pow (n := 32) (by omega) (crcF_lt l _ (by omega))

end Go.Proofs.YtakdfjkkeilffaaDoor
