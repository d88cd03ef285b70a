/- An item is read, whatever the bytes. -/
import Derived.Test.YtakdfjkkeilffaaDoorJ
import Derived.Test.YtakdfjkkeilffaaDoorW
set_option linter.unusedVariables false
set_option linter.unusedSimpArgs false
namespace Go.Proofs.YtakdfjkkeilffaaDoor
open Go.RowKit

set_option maxRecDepth 100000 in
set_option maxHeartbeats 1600000 in
theorem read_deep (d : Int) (rb : Nat) (b : ByteArray) (p : Nat) (w : World) (h9 : 8 < d) (h : w.heap[rb]? = some (.cells (readCells b p) 86 (0, 0))) :
    Calls Tryd.prog 46 #[.pointer (some ⟨rb, 0, none⟩), .int .i64 d] w (RdPost rb b w (.error (p, 21))) := by
  have hlt := lt_of_block h
  have r1 : ∀ o1 o2, ((w.alloc o1).alloc o2).cell? ⟨rb, 1, none⟩ = some (.int .i64 p) := (reads h).2.2.2.1
  have H := Lib.hid h
  clear h
  go_enter Tryd.func46, Tryd.ntmps46
  go_wp2_with fail
  exact bodyPost_ret (v := .tuple #[zeroItem, .agg #[.int .i64 (p : Nat), .int .i64 (21 : Nat)]]) (by simp [results, Tryd.results46, go_sem, zeroItem]) rfl
    (rd_err rfl (grew (((Below.refl _ _).alloc (Nat.le_refl _) _).alloc (by simp) _)) (((Below.heap_alloc _ _ _ (by simp; omega)).trans (Below.heap_alloc _ _ _ hlt)).trans H.out) (by decide))

set_option maxRecDepth 100000 in
set_option maxHeartbeats 1600000 in
theorem read_end (d : Int) (rb : Nat) (b : ByteArray) (p : Nat) (w : World) (hd8 : d ≤ 8) (hb : b.size ≤ 262144) (hp : p ≤ b.size) (hend : b.size ≤ p) (h : w.heap[rb]? = some (.cells (readCells b p) 86 (0, 0))) :
    Calls Tryd.prog 46 #[.pointer (some ⟨rb, 0, none⟩), .int .i64 d] w (RdPost rb b w (.error (p, 23))) := by
  have hlt := lt_of_block h
  obtain ⟨al2, al3, r0, r1, r3, f3⟩ := reads h
  have H := Lib.hid h
  have AL2 := Lib.hid al2
  clear h al2 al3 r3 f3
  go_enter Tryd.func46, Tryd.ntmps46
  go_wp2_with fail
  exact bodyPost_ret (v := .tuple #[zeroItem, .agg #[.int .i64 (p : Nat), .int .i64 (23 : Nat)]]) (by simp [results, Tryd.results46, go_sem, zeroItem]) rfl
    (rd_err rfl (grew (((Below.refl _ _).alloc (Nat.le_refl _) _).alloc (by simp) _)) (AL2.out _ _) (by decide))

set_option maxRecDepth 100000 in
set_option maxHeartbeats 1600000 in
theorem read_kind (d : Int) (rb : Nat) (b : ByteArray) (p k : Nat) (w : World) (hd8 : d ≤ 8) (hb : b.size ≤ 262144) (hlp : p < b.size) (hk : k = b[p].toNat) (hkk : k < 1 ∨ 3 < k) (h : w.heap[rb]? = some (.cells (readCells b p) 86 (0, 0))) :
    Calls Tryd.prog 46 #[.pointer (some ⟨rb, 0, none⟩), .int .i64 d] w (RdPost rb b w (.error (p, 20))) := by
  have hlt := lt_of_block h
  obtain ⟨al2, al3, r0, r1, r3, f3⟩ := reads h
  have hkl : k < 256 := by rw [hk]; exact b[p].toNat_lt
  have e0 : wrap64 ((b[p].toNat : Nat) : Int) = (k : Int) := by rw [← hk]; unfold wrap64; omega
  have hkk2 : (k : Int) < 1 ∨ ¬ (k : Int) < 1 ∧ 3 < (k : Int) := by omega
  have AL3 := Lib.hid al3
  clear h al2 al3 f3 hk hkk
  rcases hkk2 with h1 | ⟨h1, h2⟩
  all_goals
    go_enter Tryd.func46, Tryd.ntmps46
    go_wp2_with fail
    exact bodyPost_ret (v := .tuple #[zeroItem, .agg #[.int .i64 (p : Nat), .int .i64 (20 : Nat)]]) (by simp [results, Tryd.results46, go_sem, zeroItem]) rfl
      (rd_err rfl (grew ((((Below.refl _ _).alloc (Nat.le_refl _) _).alloc (by simp) _).alloc (by simp; omega) _)) (AL3.out _ _ _) (by decide))

theorem read_any (f : Nat) : ∀ (d : Int) (rb : Nat) (b : ByteArray) (p : Nat) (w : World), d + f = 9 → 1 ≤ d → b.size ≤ 262144 → p ≤ b.size → w.heap[rb]? = some (.cells (readCells b p) 86 (0, 0)) →
    Calls Tryd.prog 46 #[.pointer (some ⟨rb, 0, none⟩), .int .i64 d] w (RdPost rb b w (ps f b p)) := by
  induction f with
  | zero => intro d rb b p w hd hd1 hb hp h; exact read_deep d rb b p w (by omega) h
  | succ f ih =>
    intro d rb b p w hd hd1 hb hp h
    have hd8 : d ≤ 8 := by omega
    by_cases hend : b.size ≤ p
    · have e : ps (f + 1) b p = .error (p, 23) := by simp only [ps]; rw [if_pos hend]
      rw [e]
      exact read_end d rb b p w hd8 hb hp hend h
    · have hlp : p < b.size := by omega
      have hgd : (b.data.toList.getD p 0).toNat = b[p].toNat := by
        rw [List.getD_eq_getElem?_getD, List.getElem?_eq_getElem (by simpa using hlp)]; rfl
      by_cases hkk : b[p].toNat < 1 ∨ 3 < b[p].toNat
      · have e : ps (f + 1) b p = .error (p, 20) := by simp only [ps]; rw [if_neg hend, hgd, if_pos hkk]
        rw [e]
        exact read_kind d rb b p _ w hd8 hb hlp rfl hkk h
      · obtain ⟨c, n, m, hpn⟩ : ∃ c n m, pn 0 0 (rest b (p + 1)) = (c, n, m) := ⟨_, _, _, rfl⟩
        have e0 : ps (f + 1) b p = if c ≠ 0 then .error (p + 1, c)
            else if b[p].toNat = 1 then .ok (.mk 1 n ⟨#[]⟩ [], p + 1 + m)
            else if b[p].toNat = 2 then
              if b.size - (p + 1 + m) < n then .error (p + 1 + m, 23) else .ok (.mk 2 0 (b.extract (p + 1 + m) (p + 1 + m + n)) [], p + 1 + m + n)
            else if 16384 < n then .error (p + 1, 2)
            else match psMany (ps f b) n (p + 1 + m) with | .error e => .error e | .ok (l, q) => .ok (.mk 3 0 ⟨#[]⟩ l, q) := by
          simp only [ps]
          rw [if_neg hend, hgd, if_neg hkk, hpn]; rfl
        by_cases hc : c = 0
        · subst hc
          rw [if_neg (by simp)] at e0
          have hk : b[p].toNat = 1 ∨ b[p].toNat = 2 ∨ b[p].toNat = 3 := by omega
          rcases hk with hk | hk | hk
          · rw [if_pos hk] at e0
            exact read_one d rb b p 1 n m w _ hd8 hb hlp h hk.symm rfl hpn e0
          · rw [if_neg (by omega), if_pos hk] at e0
            by_cases hfar : b.size - (p + 1 + m) < n
            · rw [if_pos hfar] at e0
              exact read_two_far d rb b p 2 n m w _ hd8 hb hlp h hk.symm rfl hpn hfar e0
            · rw [if_neg hfar] at e0
              exact read_two_ok d rb b p 2 n m w _ hd8 hb hlp h hk.symm rfl hpn hfar e0
          · rw [if_neg (by omega), if_neg (by omega)] at e0
            by_cases hfar : 16384 < n
            · rw [if_pos hfar] at e0
              exact read_three_far d rb b p 3 n m w _ hd8 hb hlp h hk.symm rfl hpn hfar e0
            · rw [if_neg hfar] at e0
              exact read_three_ok d rb b p 3 n m w _ hd8 hb hlp h hk.symm rfl hpn hd1 hfar (ps f b) (fun q w' hq hw => ih (d + 1) rb b q w' (by omega) (by omega) hb hq hw) e0
        · rw [if_pos hc] at e0
          exact read_bad d rb b p _ c n m w _ hd8 hb hlp h rfl (by omega) hpn hc e0

end Go.Proofs.YtakdfjkkeilffaaDoor
