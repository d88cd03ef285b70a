/- The sum is linear. -/
import Derived.Test.YtakdfjkkeilffaaDoorA
set_option linter.unusedVariables false
namespace Go.Proofs.YtakdfjkkeilffaaDoor
open Go.RowKit

theorem xor_swap (a b c d : Nat) : (a ^^^ b) ^^^ (c ^^^ d) = (a ^^^ c) ^^^ (b ^^^ d) := by
  rw [Nat.xor_assoc, Nat.xor_assoc, ← Nat.xor_assoc b c d, Nat.xor_comm b c, Nat.xor_assoc c b d]
theorem qt_xor : ∀ i, i < 16 → ∀ j, j < 16 → qt.getD (i ^^^ j) 0 = qt.getD i 0 ^^^ qt.getD j 0 := by decide
theorem div16_xor (x y : Nat) : (x ^^^ y) / 16 = x / 16 ^^^ y / 16 := by
  have := Nat.shiftRight_xor_distrib (a := x) (b := y) (i := 4)
  simpa [Nat.shiftRight_eq_div_pow] using this
theorem mod16_xor (x y : Nat) : (x ^^^ y) % 16 = x % 16 ^^^ y % 16 := by
  have := Nat.xor_mod_two_pow (a := x) (b := y) (n := 4)
  simpa using this
theorem qstep_xor (x y : Nat) : qstep (x ^^^ y) = qstep x ^^^ qstep y := by
  unfold qstep
  rw [div16_xor, mod16_xor, qt_xor _ (Nat.mod_lt _ (by omega)) _ (Nat.mod_lt _ (by omega)), xor_swap]
theorem cstep_xor (s t c d : Nat) : cstep (s ^^^ t) (c ^^^ d) = cstep s c ^^^ cstep t d := by
  unfold cstep
  rw [xor_swap, qstep_xor, qstep_xor]
/-- the sum behind a beginning, over numbers -/
def crcM (s : Nat) (l : List Nat) : Nat := l.foldl cstep s
theorem crcM_map (s : Nat) (l : List UInt8) : crcM s (l.map UInt8.toNat) = crcF s l := by
  simp [crcM, crcF, List.foldl_map]
theorem crcM_xor (l : List (Nat × Nat)) : ∀ s t, crcM (s ^^^ t) (l.map fun p => p.1 ^^^ p.2) = crcM s (l.map Prod.fst) ^^^ crcM t (l.map Prod.snd) := by
  induction l with
  | nil => intro s t; rfl
  | cons p r ih =>
    intro s t
    simp only [crcM, List.map_cons, List.foldl_cons] at ih ⊢
    rw [cstep_xor]; exact ih _ _
theorem xor3 (m a b c : Nat) : m ^^^ (a ^^^ b ^^^ c) = (m ^^^ a) ^^^ (m ^^^ b) ^^^ (m ^^^ c) := by
  have : (m ^^^ a) ^^^ (m ^^^ b) = a ^^^ b := by rw [xor_swap, Nat.xor_self, Nat.zero_xor]
  rw [this, ← Nat.xor_assoc, Nat.xor_comm m (a ^^^ b), Nat.xor_assoc]
/-- The sum of differences. -/
theorem crcN_xor (a b z x : List UInt8) (hb : b.length = a.length) (hz : z = List.replicate a.length 0) (hx : x.map UInt8.toNat = (a.zip b).map fun p => p.1.toNat ^^^ p.2.toNat) :
    crcN x = (crcN a ^^^ crcN b) ^^^ crcN z := by
  unfold crcN
  rw [← xor3]
  congr 1
  rw [← crcM_map, ← crcM_map, ← crcM_map, ← crcM_map, hx]
  have h1 := crcM_xor ((a.zip b).map fun p => (p.1.toNat ^^^ p.2.toNat, 0)) (4294967295 ^^^ 4294967295) 4294967295
  have h2 := crcM_xor ((a.zip b).map fun p => (p.1.toNat, p.2.toNat)) 4294967295 4294967295
  simp only [List.map_map, Function.comp_def, Nat.xor_zero, Nat.xor_self, Nat.zero_xor] at h1 h2
  rw [h1, h2]
  have e1 : (a.zip b).map (fun p => p.1.toNat) = a.map UInt8.toNat := by
    have h := congrArg (List.map UInt8.toNat) (List.map_fst_zip (l₁ := a) (l₂ := b) (by omega)); rw [List.map_map] at h; exact h
  have e2 : (a.zip b).map (fun p => p.2.toNat) = b.map UInt8.toNat := by
    have h := congrArg (List.map UInt8.toNat) (List.map_snd_zip (l₁ := a) (l₂ := b) (by omega)); rw [List.map_map] at h; exact h
  have e3 : (a.zip b).map (fun _ => 0) = z.map UInt8.toNat := by
    rw [hz]; simp [List.map_const', hb]
  rw [e1, e2, e3]

end Go.Proofs.YtakdfjkkeilffaaDoor
