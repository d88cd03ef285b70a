/- Numbers as bytes. -/
import Derived.Test.YtakdfjkkeilffaaDoorA
import Derived.Deep.AppendLies
import Derived.Deep.RegionLaw
import Derived.Laws.OwnMore
import Derived.Lib.AppendStr
import Derived.OwnWalk
import Derived.KernelRfl
set_option linter.unusedVariables false
set_option linter.unusedSimpArgs false
namespace Go.Proofs.YtakdfjkkeilffaaDoor
open Go.RowKit

/-- a number's bytes -/
def gb (x : Nat) : List Nat := if h : x < 128 then [x] else (x % 128 + 128) :: gb (x / 128)
  termination_by x
  decreasing_by omega

theorem gb_lt (x : Nat) (h : x < 128) : gb x = [x] := by rw [gb]; simp [h]
theorem gb_ge (x : Nat) (h : ¬ x < 128) : gb x = (x % 128 + 128) :: gb (x / 128) := by rw [gb]; simp [h]
theorem gb_len (j : Nat) : ∀ x, x < 128 ^ j → 0 < j → (gb x).length ≤ j := by
  induction j with
  | zero => intro x _ h; omega
  | succ j ih =>
    intro x h _
    by_cases hx : x < 128
    · rw [gb_lt x hx]; simp
    · rw [gb_ge x hx]
      rw [Nat.pow_succ] at h
      have h2 : x / 128 < 128 ^ j := by omega
      have hj : 0 < j := by
        rcases Nat.eq_zero_or_pos j with rfl | h
        · simp at h2; omega
        · exact h
      simpa using ih _ h2 hj
theorem gb_len10 (x : Nat) (h : x < 18446744073709551616) : (gb x).length ≤ 10 := gb_len 10 x (by omega) (by omega)
theorem gb_pos (x : Nat) : 0 < (gb x).length := by
  by_cases hx : x < 128
  · rw [gb_lt x hx]; simp
  · rw [gb_ge x hx]; simp

def bcells (l : List Nat) : List Value := l.map fun c => .int .u8 ((c : Nat) : Int)

theorem i5 : (Tryd.prog.info? 5).map (fun i => (i.zero, i.size, i.bytes)) = some (some (.int .u8 0), 1, 1) := by kernel_rfl
theorem t23 : Tryd.prog.underlying 23 = some (.slice 5) := by kernel_rfl

set_option maxRecDepth 10000 in
theorem or_all : ∀ y, y < 256 → y ||| 128 = y % 128 + 128 := by decide
theorem u8_or_top (x : Nat) : bits .or .u8 ((x : Int) % 256) 128 = ((x % 128 + 128 : Nat) : Int) := by
  have h := u8_or_nat (x % 256) 128 (by omega) (by omega)
  rw [or_all _ (by omega)] at h
  rw [show (x % 256 % 128 : Nat) = x % 128 from by omega] at h
  rw [← h]; rfl

/-- what the row has become: its block is the elder's, or a new one -/
def Moved (w : World) (v v' : Value) : Prop := v'.ownBlock = v.ownBlock ∨ ∃ g, v'.ownBlock = some g ∧ w.heap.size ≤ g

theorem Moved.refl (w : World) (v : Value) : Moved w v v := .inl rfl
theorem grown_then {w w1 w2 : World} {v v1 : Value} (h : w.grownBy w1 v.ownBlock) (hm : Moved w v v1) (h2 : w1.grownBy w2 v1.ownBlock) : w.grownBy w2 v.ownBlock := by
  refine ⟨h2.os.trans h.os, h2.tape.trans h.tape, h2.output.trans h.output, Nat.le_trans h.size h2.size, fun k hk hne => ?_⟩
  rw [h2.block k (Nat.lt_of_lt_of_le hk h.size) ?_, h.block k hk hne]
  rcases hm with e | ⟨g, e, hg⟩
  · rw [e]; exact hne
  · rw [e]; intro e2; simp at e2; omega
theorem grown_alloc {w w1 : World} {v : Value} {o : Obj} (h : (w.alloc o).grownBy w1 v.ownBlock) : w.grownBy w1 v.ownBlock := by
  refine ⟨h.os, h.tape, h.output, ?_, fun k hk hne => ?_⟩
  · have := h.size; simp at this; omega
  · rw [h.block k (by simp; omega) hne, Below.heap_alloc _ _ _ hk]

theorem newb (w : World) (x : Value) (ty : TypeId) (j : Nat) (u : Value) (hj : [x][j]? = some u) : (w.alloc (.cells #[x] ty)).cell? ((⟨w.heap.size, 0, none⟩ : Addr).add j) = some u :=
  World.news_of_block (cs := #[x]) (heap_alloc_new w _) j u hj

theorem moved_to {w wr : World} {v v1 : Value} {g : Nat} (h : Moved w v v1) (hs : w.heap.size ≤ wr.heap.size) (hat : v1.ownBlock = some g ∨ g = wr.heap.size + 1) : v.ownBlock = some g ∨ w.heap.size ≤ g := by
  rcases hat with e | e
  · rcases h with h | ⟨g', h, hg⟩
    · left; rw [← h]; exact e
    · right; rw [h] at e; simp at e; omega
  · right; omega

set_option maxRecDepth 100000 in
set_option maxHeartbeats 1600000 in
theorem groups_any (base : Nat) (v : Value) (n : Nat) (xs : List Nat) (x : Nat) (w : World) (hx : x < 18446744073709551616) (hn : n ≤ 1000000) (hb : base ≤ w.heap.size) (hv : w.ownsRow base 5 1 v n (bcells xs)) :
    Calls Tryd.prog 69 #[v, .int .u64 x] w fun e w' => ∃ g cap : Nat, e = .returned (.slice (some ⟨g, 0, none⟩) (n + (gb x).length) cap) ∧
      w'.ownsRow base 5 1 (.slice (some ⟨g, 0, none⟩) (n + (gb x).length) cap) (n + (gb x).length) (bcells (xs ++ gb x)) ∧ w.grownBy w' v.ownBlock ∧ (v.ownBlock = some g ∨ w.heap.size ≤ g) := by
  obtain ⟨i0, hi, hz0, hz1, hz2⟩ := info_parts i5
  have HV := Lib.hid hv
  clear hv
  go_enter Tryd.func69, Tryd.ntmps69
  go_wp2
  go_loopw [0, 1] (fun s i wr => ∃ y m : Nat, ∃ ys : List Nat, i = .int .u64 y ∧ y < 18446744073709551616 ∧ m + (gb y).length = n + (gb x).length ∧ Hid (ys ++ gb y = xs ++ gb x) ∧ wr.ownsRow base 5 1 s m (bcells ys) ∧ Hid (w.grownBy wr v.ownBlock) ∧ Hid (Moved w v s)) (fun _ i _ => (intOf i).toNat)
  case atStart => exact ⟨x, n, xs, rfl, hx, rfl, rfl, HV.out, ⟨rfl, rfl, rfl, Nat.le_refl _, fun _ _ _ => rfl⟩, .inl rfl⟩
  case round =>
    obtain ⟨y, m, ys, rfl, hy, hm, HYS, hrow, HG, HM⟩ := hrel
    have hpos := gb_pos y
    have hsz := HG.out.size
    have hl10 := gb_len10 x hx
    obtain ⟨lx, hlx⟩ : ∃ lx, lx = (gb x).length := ⟨_, rfl⟩
    obtain ⟨ly, hly⟩ : ∃ ly, ly = (gb y).length := ⟨_, rfl⟩
    rw [← hlx, ← hly] at hm
    rw [← hlx] at hl10
    rw [← hly] at hpos

    have HLX := Lib.hid hlx
    have HLY := Lib.hid hly
    clear hlx hly
    by_cases h128 : y < 128
    · go_wp2_with (at_builtin; refine wpList_append_lies _ rfl _ _ 23 rfl base 5 i0 (.int .u8 0) 1 1 t23 hi hz0 hz1 hz2 rfl (by decide) _ _ _ rfl (hrow.alloc _) ⟨wr.heap.size, 0, none⟩ 1 1 [.int .u8 y] rfl rfl ?c1 ?c2 ?c6 ?c3 ?c4 ?c5 (wr.heap.size + 1) (by simp) ?_)
      case c1 => exact fun j u hj => newb _ _ _ j u hj
      case c2 => intro u hu; simp at hu; subst hu; rfl
      case c3 => unfold maxLen; omega
      case c4 => omega
      case c5 => simp; omega
      case c6 => omega
      intro g cap w2 hown hgrow hat hlt
      have HOWN := Lib.hid hown
      have HGR := Lib.hid (grown_then HG.out HM.out (grown_alloc hgrow))
      have HAT := Lib.hid (moved_to HM.out hsz hat)
      clear hown hgrow hat hlt
      go_wp2
      go_ret
      have hl : ly = 1 := by rw [HLY.out, gb_lt y h128]; rfl
      have e : n + (gb x).length = m + 1 := by have := HLX.out; omega
      rw [e]
      refine ⟨g, cap, rfl, ?_, HGR.out, HAT.out⟩
      have h1 := HOWN.out
      rw [← HYS.out, gb_lt y h128]
      simpa [bcells] using h1
    · have e1 := u8_or_top y
      go_wp2_with (at_builtin; refine wpList_append_lies _ rfl _ _ 23 rfl base 5 i0 (.int .u8 0) 1 1 t23 hi hz0 hz1 hz2 rfl (by decide) _ _ _ rfl (hrow.alloc _) ⟨wr.heap.size, 0, none⟩ 1 1 [.int .u8 ((y % 128 + 128 : Nat) : Int)] rfl rfl ?c1 ?c2 ?c6 ?c3 ?c4 ?c5 (wr.heap.size + 1) (by simp) ?_)
      case c1 => exact fun j u hj => newb _ _ _ j u hj
      case c2 => intro u hu; simp at hu; subst hu; rfl
      case c3 => unfold maxLen; omega
      case c4 => omega
      case c5 => simp; omega
      case c6 => omega
      intro g cap w2 hown hgrow hat hlt
      have HOWN := Lib.hid hown
      have HGR := Lib.hid (grown_then HG.out HM.out (grown_alloc hgrow))
      have HAT := Lib.hid (moved_to HM.out hsz hat)
      clear hown hgrow hat hlt e1
      go_wp2
      go_roundw
      case rel =>
        refine ⟨y / 128, m + 1, ys ++ [y % 128 + 128], by go_num, by omega, ?_, ?_, ?_, HGR.out, ?_⟩
        · have h2 : (gb y).length = (gb (y / 128)).length + 1 := by rw [gb_ge y h128]; rfl
          have := HLY.out; have := HLX.out; omega
        · show (ys ++ [y % 128 + 128]) ++ gb (y / 128) = xs ++ gb x
          rw [← HYS.out, gb_ge y h128]; simp
        · have h1 := HOWN.out
          simpa [bcells] using h1
        · show Moved w v _
          rcases HAT.out with h | h
          · left; rw [h]; rfl
          · right; exact ⟨g, rfl, h⟩
      case measure => simp [intOf]; omega

end Go.Proofs.YtakdfjkkeilffaaDoor
