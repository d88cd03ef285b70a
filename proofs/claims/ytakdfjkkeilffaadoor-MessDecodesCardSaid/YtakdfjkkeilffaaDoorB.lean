/- A number is read. -/
import Derived.Test.YtakdfjkkeilffaaDoorA
set_option linter.unusedVariables false
set_option linter.unusedSimpArgs false
namespace Go.Proofs.YtakdfjkkeilffaaDoor
open Go.RowKit

def readCells (b : ByteArray) (at_ : Int) : Array Value := #[.string b, .int .i64 at_]

/-- what is read: a code, a number, how many bytes -/
def pn (i acc : Nat) : List UInt8 → Nat × Nat × Nat
  | [] => (23, 0, 0)
  | c :: r => if i = 9 ∧ 1 < c.toNat then (22, 0, 0) else if c.toNat < 128 then (if c.toNat = 0 ∧ 0 < i then (22, 0, 0) else (0, acc + c.toNat * 128 ^ i, i + 1)) else pn (i + 1) (acc + c.toNat % 128 * 128 ^ i) r

/-- the number of the first groups -/
def vsum (l : List UInt8) : Nat → Nat
  | 0 => 0
  | k + 1 => vsum l k + (l.getD k 0).toNat % 128 * 128 ^ k

theorem vsum_lt (l : List UInt8) (k : Nat) : vsum l k < 128 ^ k := by
  induction k with
  | zero => simp [vsum]
  | succ k ih =>
    have h1 : (l.getD k 0).toNat % 128 * 128 ^ k ≤ 127 * 128 ^ k := Nat.mul_le_mul_right _ (by omega)
    have h2 : 128 ^ (k + 1) = 128 * 128 ^ k := by rw [Nat.pow_succ, Nat.mul_comm]
    simp only [vsum]
    omega

def rest (b : ByteArray) (p : Nat) : List UInt8 := b.data.toList.drop p
theorem rest_at (b : ByteArray) (p k : Nat) (h : p + k < b.size) : (rest b p)[k]? = some b[p + k] := by
  simp [rest, h]; rfl
theorem rest_getD (b : ByteArray) (p k : Nat) (h : p + k < b.size) : (rest b p).getD k 0 = b[p + k] := by
  rw [List.getD_eq_getElem?_getD, rest_at b p k h]; rfl
theorem rest_cons (b : ByteArray) (p k : Nat) (h : p + k < b.size) : (rest b p).drop k = b[p + k] :: (rest b p).drop (k + 1) := by
  rw [List.drop_eq_getElem_cons (by simp [rest]; omega)]
  congr 1
  have := rest_at b p k h
  rw [List.getElem?_eq_getElem (by simp [rest]; omega)] at this
  exact Option.some.inj this
theorem rest_nil (b : ByteArray) (p k : Nat) (h : b.size ≤ p + k) : (rest b p).drop k = [] := by
  rw [List.drop_eq_nil_iff]; simp [rest]; omega

theorem vsum_mono (l : List UInt8) (j k : Nat) (h : j ≤ k) : vsum l j ≤ vsum l k := by
  induction h with
  | refl => exact Nat.le_refl _
  | step _ ih => exact Nat.le_trans ih (by simp only [vsum]; omega)

theorem pow128 (j : Nat) : 2 ^ (7 * j) = 128 ^ j := by rw [Nat.pow_mul]
/-- one group more -/
theorem group_or (v c j : Nat) (hc : c < 256) (hv : v < 128 ^ j) (hs : v + c % 128 * 128 ^ j < 18446744073709551616) :
    bits .or .u64 (v : Int) (IntKind.u64.wrap (IntKind.u64.wrap (bits .and .u8 (c : Int) 127) * 2 ^ (7 * j))) = ((v + c % 128 * 128 ^ j : Nat) : Int) := by
  have h1 : bits .and .u8 (c : Int) 127 = ((c % 128 : Nat) : Int) := by
    have := u8_and_nat c 127 hc (by omega)
    rw [show (((127 : Nat)) : Int) = 127 from rfl] at this
    rw [this, show (127 : Nat) = 2 ^ 7 - 1 from rfl, Nat.and_two_pow_sub_one_eq_mod]
  have h2 : IntKind.u64.wrap (((c % 128 : Nat)) : Int) = ((c % 128 : Nat) : Int) := by rw [IntKind.wrap_u64]; omega
  have h3 : (((c % 128 : Nat)) : Int) * 2 ^ (7 * j) = ((c % 128 * 128 ^ j : Nat) : Int) := by
    rw [Int.natCast_mul, ← pow128]; simp
  have h4 : IntKind.u64.wrap ((c % 128 * 128 ^ j : Nat) : Int) = ((c % 128 * 128 ^ j : Nat) : Int) := by rw [IntKind.wrap_u64]; omega
  rw [h1, h2, h3, h4, u64_or_nat _ _ (by omega) (by omega)]
  congr 1
  rw [Nat.or_comm, Nat.mul_comm, ← pow128, ← Nat.two_pow_add_eq_or_of_lt (by rw [pow128]; exact hv)]
  omega

def NumPost (rb : Nat) (b : ByteArray) (p : Nat) (w : World) (e : Ending) (w' : World) : Prop :=
  w.grownBy w' (some rb) ∧
  ((pn 0 0 (rest b p)).1 = 0 → e = .returned (.tuple #[.int .u64 ((pn 0 0 (rest b p)).2.1 : Nat), .agg #[.int .i64 0, .int .i64 0]]) ∧ w'.heap[rb]? = some (.cells (readCells b (p + (pn 0 0 (rest b p)).2.2 : Nat)) 86 (0, 0))) ∧
  ((pn 0 0 (rest b p)).1 ≠ 0 → e = .returned (.tuple #[.int .u64 0, .agg #[.int .i64 p, .int .i64 ((pn 0 0 (rest b p)).1 : Nat)]]) ∧ w'.heap[rb]? = some (.cells (readCells b p) 86 (0, 0)))

theorem num_err {rb : Nat} {b : ByteArray} {p code : Nat} {w : World} {o : Obj} (h : w.heap[rb]? = some (.cells (readCells b p) 86 (0, 0))) (hr : pn 0 0 (rest b p) = (code, 0, 0)) (hc : code ≠ 0) :
    NumPost rb b p w (.returned (.tuple #[.int .u64 0, .agg #[.int .i64 p, .int .i64 code]])) (w.alloc o) := by
  refine ⟨World.grownBy_alloc _ _ _, fun h0 => ?_, fun _ => ⟨?_, (Below.heap_alloc _ _ _ (lt_of_block h)).trans h⟩⟩
  · rw [hr] at h0; exact absurd h0 hc
  · rw [hr]

theorem num_ok {rb : Nat} {b : ByteArray} {p n k : Nat} {w : World} {o : Obj} {u v : Value} (h : w.heap[rb]? = some (.cells (readCells b p) 86 (0, 0))) (hr : pn 0 0 (rest b p) = (0, n, k + 1)) :
    NumPost rb b p w (.returned (.tuple #[.int .u64 n, .agg #[.int .i64 0, .int .i64 0]])) ((((w.alloc o).setCell ⟨rb, 1, none⟩ (.int .i64 ((p : Int) + k + 1))).setCell ⟨w.heap.size, 0, none⟩ u).setCell ⟨w.heap.size, 1, none⟩ v) := by
  have h1 := (Below.heap_alloc w o rb (lt_of_block h)).trans h
  have hlt := lt_of_block h
  refine ⟨⟨rfl, rfl, rfl, by simp [World.setCell], fun i hi hne => ?_⟩, fun _ => ⟨by rw [hr], ?_⟩, fun h0 => by rw [hr] at h0; exact absurd rfl h0⟩
  · have hi2 : i ≠ w.heap.size := by omega
    rw [Below.heap_setCell _ _ _ _ hi2, Below.heap_setCell _ _ _ _ hi2, Below.heap_setCell _ _ _ _ (fun e => hne (by rw [e]))]
    exact Below.heap_alloc _ _ _ hi
  · have hi2 : rb ≠ w.heap.size := by omega
    rw [hr, Below.heap_setCell _ _ _ _ hi2, Below.heap_setCell _ _ _ _ hi2, heap_setCell_same _ rb 1 _ _ _ h1]
    simp [readCells]; omega

theorem pn_last (c : UInt8) (r : List UInt8) (k acc : Nat) (h1 : ¬ (k = 9 ∧ 1 < c.toNat)) (h2 : c.toNat < 128) (h3 : ¬ (c.toNat = 0 ∧ 0 < k)) : pn k acc (c :: r) = (0, acc + c.toNat % 128 * 128 ^ k, k + 1) := by
  simp only [pn, if_neg h1, if_pos h2, if_neg h3]
  rw [Nat.mod_eq_of_lt h2]

set_option maxRecDepth 100000 in
set_option maxHeartbeats 800000 in
theorem number_any (rb : Nat) (b : ByteArray) (p : Nat) (w : World) (hb : b.size ≤ 262144) (hp : p ≤ b.size) (h : w.heap[rb]? = some (.cells (readCells b p) 86 (0, 0))) :
    Calls Tryd.prog 68 #[.pointer (some ⟨rb, 0, none⟩)] w (NumPost rb b p w) := by
  have HH := Lib.hid h
  have ha := (Below.heap_alloc w (.cells #[.int .i64 0, .int .i64 0] 31) rb (lt_of_block h)).trans h
  have c0 : (w.alloc (.cells #[.int .i64 0, .int .i64 0] 31)).cell? ⟨rb, 0, none⟩ = some (.string b) := by simp only [World.cell?, ha]; simp [readCells]
  have c1 : (w.alloc (.cells #[.int .i64 0, .int .i64 0] 31)).cell? ⟨rb, 1, none⟩ = some (.int .i64 p) := by simp only [World.cell?, ha]; simp [readCells]
  have f1 : (w.alloc (.cells #[.int .i64 0, .int .i64 0] 31)).frozen? ⟨rb, 1, none⟩ = false := by simp only [World.frozen?, ha]; rfl
  have hne : rb ≠ w.heap.size := by have := lt_of_block h; omega
  have hne' : w.heap.size ≠ rb := fun e => hne e.symm
  clear h ha
  go_enter Tryd.func68, Tryd.ntmps68
  go_wp2_with fail
  go_step3
  go_wp2_with fail
  go_step3
  go_wp2_with fail
  go_loopw [5] (fun e wr => ∃ k : Nat, k ≤ 9 ∧ p + k ≤ b.size ∧ e = .int .i64 ((p : Int) + k) ∧ Hid (pn 0 0 (rest b p) = pn k (vsum (rest b p) k) ((rest b p).drop k)) ∧ wr = w.alloc (.cells #[.int .i64 0, .int .i64 0] 31)) (fun e _ => b.size - (intOf e).toNat)
  case atStart => exact ⟨0, by omega, by omega, by simp, rfl, rfl⟩
  case round =>
    obtain ⟨k, hk, hpk, rfl, HPN, rfl⟩ := hrel
    by_cases hlt : p + k < b.size
    · obtain ⟨c, hc⟩ : ∃ c, c = b[p + k] := ⟨_, rfl⟩
      have hcl := c.toNat_lt
      have HC := Lib.hid hc
      have HCONS := Lib.hid (rest_cons b p k hlt)
      by_cases hbig : k = 9 ∧ 1 < c.toNat
      · obtain ⟨rfl, hb1⟩ := hbig
        have HR : Hid (pn 0 0 (rest b p) = (22, 0, 0)) := by
          show pn 0 0 (rest b p) = (22, 0, 0)
          rw [HPN.out, HCONS.out, ← HC.out]; simp [pn, hb1]
        have q1 : (1 : Int) < (b[p + 9].toNat : Int) := by rw [← hc]; omega
        clear hc
        go_wp2_with fail
        rw [Exit.noGoto_ret]
        exact bodyPost_ret (v := .tuple #[.int .u64 0, .agg #[.int .i64 p, .int .i64 22]]) (by simp [results, Tryd.results68, go_sem]) rfl (num_err HH.out HR.out (by decide))
      · have hbig' : ¬ (9 ≤ k ∧ 1 < c.toNat) := by omega
        by_cases hc128 : c.toNat < 128
        · have hq1 : (b[p + k].toNat : Int) < 128 := by rw [← hc]; omega
          by_cases hz : c.toNat = 0 ∧ 0 < k
          · obtain ⟨hz0, hzk⟩ := hz
            have HR : Hid (pn 0 0 (rest b p) = (22, 0, 0)) := by
              show pn 0 0 (rest b p) = (22, 0, 0)
              rw [HPN.out, HCONS.out, ← HC.out]; simp [pn, hz0, hzk]
            have q3 : ((b[p + k].toNat : Int) == 0) = true := by rw [← hc, beq_iff_eq]; omega
            have q4 : (b[p + k].toNat : Int) ≤ 0 := by rw [← hc]; omega
            clear hc hbig
            by_cases hk9 : k = 9
            · subst hk9
              go_wp2_with fail
              rw [Exit.noGoto_ret]
              exact bodyPost_ret (v := .tuple #[.int .u64 0, .agg #[.int .i64 p, .int .i64 22]]) (by simp [results, Tryd.results68, go_sem]) rfl (num_err HH.out HR.out (by decide))
            · go_wp2_with fail
              rw [Exit.noGoto_ret]
              exact bodyPost_ret (v := .tuple #[.int .u64 0, .agg #[.int .i64 p, .int .i64 22]]) (by simp [results, Tryd.results68, go_sem]) rfl (num_err HH.out HR.out (by decide))
          · have HR : Hid (pn 0 0 (rest b p) = (0, vsum (rest b p) (k + 1), k + 1)) := by
              show pn 0 0 (rest b p) = (0, vsum (rest b p) (k + 1), k + 1)
              rw [HPN.out, HCONS.out, ← HC.out, pn_last c _ k _ hbig hc128 hz]
              simp only [vsum]
              rw [rest_getD b p k hlt, ← HC.out]
            have hsum : vsum (rest b p) (k + 1) < 18446744073709551616 := by
              by_cases hk9 : k = 9
              · subst hk9
                have h1 := vsum_lt (rest b p) 9
                have h2 : (128 : Nat) ^ 9 = 9223372036854775808 := by decide
                simp only [vsum]
                simp only [vsum] at h1
                rw [rest_getD b p 9 hlt, ← HC.out, h2]
                rw [h2] at h1
                have h3 : c.toNat % 128 * 9223372036854775808 ≤ 1 * 9223372036854775808 := Nat.mul_le_mul_right _ (by omega)
                omega
              · have h1 := vsum_lt (rest b p) (k + 1)
                have h2 : (128 : Nat) ^ (k + 1) ≤ 128 ^ 9 := Nat.pow_le_pow_right (by decide) (by omega)
                have h3 : (128 : Nat) ^ 9 = 9223372036854775808 := by decide
                omega
            have HSUM := Lib.hid hsum
            have hcase : (c.toNat = 0 ∧ k = 0) ∨ (0 < c.toNat ∧ k = 9) ∨ (0 < c.toNat ∧ k < 9) := by omega
            have hcase2 : (((b[p + k].toNat : Int) == 0) = true ∧ (k : Int) ≤ 0) ∨ (((b[p + k].toNat : Int) == 0) = false ∧ 9 ≤ (k : Int) ∧ (b[p + k].toNat : Int) ≤ 1) ∨ (((b[p + k].toNat : Int) == 0) = false ∧ (k : Int) < 9) := by
              rw [← hc]
              rcases hcase with ⟨h1, h2⟩ | ⟨h1, h2⟩ | ⟨h1, h2⟩
              · left; exact ⟨by rw [beq_iff_eq]; omega, by omega⟩
              · right; left; exact ⟨by rw [beq_eq_false_iff_ne]; omega, by omega, by omega⟩
              · right; right; exact ⟨by rw [beq_eq_false_iff_ne]; omega, by omega⟩
            clear hc hbig hbig' hc128 hz hsum hcase
            rcases hcase2 with ⟨q3, q4⟩ | ⟨q3, q4, q5⟩ | ⟨q3, q4⟩
            all_goals
              go_wp2_with fail
              go_loop [6, 7] (fun nn ii => ∃ j : Nat, j ≤ k + 1 ∧ ii = .int .i64 ((p : Int) + j) ∧ nn = .int .u64 ((vsum (rest b p) j : Nat) : Int)) (fun _ ii => b.size - (intOf ii).toNat)
              case atStart => exact ⟨0, by omega, by simp, by simp [vsum]⟩
              case round =>
                obtain ⟨j, hj, rfl, rfl⟩ := hrel
                obtain ⟨v, hv⟩ : ∃ v, v = vsum (rest b p) j := ⟨_, rfl⟩
                rw [← hv]
                have HV := Lib.hid hv
                clear hv
                by_cases hjk : j ≤ k
                · go_wp2_with fail
                  refine ⟨⟨j + 1, by omega, by go_num, ?_⟩, by simp [intOf]; omega⟩
                  have e : vsum (rest b p) (j + 1) = v + b[p + j].toNat % 128 * 128 ^ j := by
                    simp only [vsum]; rw [rest_getD b p j (by omega), HV.out]
                  have hm := vsum_mono (rest b p) (j + 1) (k + 1) (by omega)
                  have hs := HSUM.out
                  rw [e] at hm ⊢
                  rw [group_or v b[p + j].toNat j (b[p + j].toNat_lt) (by rw [HV.out]; exact vsum_lt _ _) (by omega)]
                · obtain rfl : j = k + 1 := by omega
                  have HRV : Hid (pn 0 0 (rest b p) = (0, v, k + 1)) := by show pn 0 0 (rest b p) = (0, v, k + 1); rw [HR.out, HV.out]
                  go_wp2_with fail
                  exact bodyPost_ret (v := .tuple #[.int .u64 v, .agg #[.int .i64 0, .int .i64 0]]) (by simp [results, Tryd.results68, go_sem, hne, hne']) rfl (num_ok HH.out HRV.out)
        · have hk9 : k ≤ 8 := by omega
          have HR : Hid (pn 0 0 (rest b p) = pn (k + 1) (vsum (rest b p) (k + 1)) ((rest b p).drop (k + 1))) := by
            show pn 0 0 (rest b p) = pn (k + 1) (vsum (rest b p) (k + 1)) ((rest b p).drop (k + 1))
            rw [HPN.out, HCONS.out, ← HC.out]
            simp only [pn, if_neg hbig, if_neg hc128, vsum]
            rw [rest_getD b p k hlt, ← HC.out]
          have q1 : ¬ (b[p + k].toNat : Int) < 128 := by rw [← hc]; omega
          have q2 : ¬ ((p : Int) + k - p = 9) := by omega
          clear hc hbig hc128
          go_wp2_with fail
          go_roundw
          case rel => exact ⟨k + 1, by omega, by omega, by go_num, HR.out, trivial⟩
          case measure => simp [intOf]; omega
    · have hpe : b.size ≤ p + k := by omega
      have HR : Hid (pn 0 0 (rest b p) = (23, 0, 0)) := by
        show pn 0 0 (rest b p) = (23, 0, 0)
        rw [HPN.out, rest_nil b p k (by omega)]; rfl
      go_wp2_with fail
      rw [Exit.noGoto_ret]
      exact bodyPost_ret (v := .tuple #[.int .u64 0, .agg #[.int .i64 p, .int .i64 23]]) (by simp [results, Tryd.results68, go_sem]) rfl (num_err HH.out HR.out (by decide))

end Go.Proofs.YtakdfjkkeilffaaDoor
