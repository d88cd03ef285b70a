/- A field is read into a message. -/
import Derived.Test.YtakdfjkkeilffaaDoorQb
set_option linter.unusedVariables false
set_option linter.unusedSimpArgs false
namespace Go.Proofs.YtakdfjkkeilffaaDoor
open Go.RowKit

/-- a message's lists, in memory of the call's own -/
structure MsgOwn (base : Nat) (W : World) (a b c : Value) (M : Msg) : Prop where
  ws : W.ownsRow base 24 1 a (toI M.ws).length ((toI M.ws).map (Value.int .u32))
  ms : ∃ vs, MRow base W b M.ms vs
  ds : W.ownsRow base 51 1 c (toI M.ds).length ((toI M.ds).map (Value.int .u64))
theorem MsgOwn.zero (base : Nat) (W : World) (k : Int) : MsgOwn base W (.slice none 0 0) (.slice none 0 0) (.slice none 0 0) (zeroMsg k) :=
  ⟨World.ownsRow_nil _ _ _ _, ⟨[], MRow.nil _ _⟩, World.ownsRow_nil _ _ _ _⟩
theorem MRow.kept {base : Nat} {W W' : World} {V : Value} {ms : List Mat} {vs : List Value} {row : Option Nat} (h : MRow base W V ms vs) (hg : W.grownBy W' row) (hne : ∀ g, row = some g → ∃ cs t, W.heap[g]? = some (.cells cs t (0, 0)) ∧ t ≠ 80 ∧ t ≠ 51) : MRow base W' V ms vs := by
  have key : ∀ {e s n : Nat} {v : Value} {xs : List Value}, W.ownsRow base e s v n xs → (e = 80 ∨ e = 51) → W'.ownsRow base e s v n xs := by
    intro e s n v xs hr he
    refine hr.kept hg ?_
    rcases hr.2 with ⟨rfl, _⟩ | ⟨g, cap, cur, rfl, _, h3, _⟩
    · exact .inl rfl
    · right
      intro e2
      obtain ⟨cs, t, h4, h5, h6⟩ := hne g (by rw [← e2]; rfl)
      rw [h3] at h4
      simp at h4
      rcases he with rfl | rfl
      · exact h5 h4.2.symm
      · exact h6 h4.2.symm
  exact ⟨key h.row (.inl rfl), fun i hi => ⟨(h.parts i hi).1, (h.parts i hi).2.1, (h.parts i hi).2.2.1, key (h.parts i hi).2.2.2 (.inr rfl)⟩⟩
theorem own_kept {base e s n : Nat} {W W' : World} {v : Value} {xs : List Value} {row : Option Nat} (hr : W.ownsRow base e s v n xs) (hg : W.grownBy W' row) (hne : ∀ g, row = some g → ∃ cs t, W.heap[g]? = some (.cells cs t (0, 0)) ∧ t ≠ e) : W'.ownsRow base e s v n xs := by
  refine hr.kept hg ?_
  rcases hr.2 with ⟨rfl, _⟩ | ⟨g, cap, cur, rfl, _, h3, _⟩
  · exact .inl rfl
  · right
    intro e2
    obtain ⟨cs, t, h4, h5⟩ := hne g (by rw [← e2]; rfl)
    rw [h3] at h4
    simp at h4
    exact h5 h4.2.symm
theorem MsgOwn.kept {base mb : Nat} {W W' : World} {a b c : Value} {M : Msg} {cs : Array Value} (h : MsgOwn base W a b c M) (hg : W.grownBy W' (some mb)) (hm : W.heap[mb]? = some (.cells cs 46 (0, 0))) : MsgOwn base W' a b c M :=
  ⟨own_kept h.ws hg (fun g e => by cases e; exact ⟨_, _, hm, by decide⟩), h.ms.imp fun vs hv => hv.kept hg (fun g e => by cases e; exact ⟨_, _, hm, by decide, by decide⟩), own_kept h.ds hg (fun g e => by cases e; exact ⟨_, _, hm, by decide⟩)⟩

/-- what reading a field does -/
def ReadPost (base mb f : Nat) (a b c : Value) (M : Msg) (X : It) (w : World) (e : Ending) (w' : World) : Prop :=
  w.grownBy w' (some mb) ∧ match setF M f X with
  | none => e = .returned (.bool false)
  | some M' => e = .returned (.bool true) ∧ ∃ a' b' c', w'.heap[mb]? = some (.cells (mcells M' a' b' c') 46 (0, 0)) ∧ MsgOwn base w' a' b' c' M'

theorem below_grown {w w' : World} {row : Option Nat} (h : Below w.heap.size w w') : w.grownBy w' row :=
  ⟨h.os, h.tape, h.output, h.size, fun k hk _ => h.block k hk⟩
theorem grown_set {w w' : World} {mb j : Nat} (h : w.grownBy w' (some mb)) (v : Value) : w.grownBy (w'.setCell ⟨mb, j, none⟩ v) (some mb) :=
  ⟨h.os, h.tape, h.output, by simpa [World.setCell] using h.size, fun k hk hne => by rw [Below.heap_setCell _ _ _ _ (by simpa using hne)]; exact h.block k hk hne⟩

set_option maxRecDepth 100000 in
set_option maxHeartbeats 1600000 in
theorem read7_any (base mb : Nat) (a b c : Value) (M : Msg) (k : Int) (n : Nat) (s : ByteArray) (A : Option Addr) (m d : Nat) (l : List It) (w : World) (hm : m = l.length) (hx : Holds w (.int .i64 k) (.int .u64 n) (.string s) (.slice A m d) (.mk k n s l)) (hl : l.length ≤ 16384)
    (hmb : w.heap[mb]? = some (.cells (mcells M a b c) 46 (0, 0))) (ho : MsgOwn base w a b c M) (hbase : base ≤ w.heap.size) :
    Calls Tryd.prog 36 #[.agg #[.int .i64 k, .int .u64 n, .string s, .slice A m d], .int .i64 7, .pointer (some ⟨mb, 0, none⟩)] w (ReadPost base mb 7 a b c M (.mk k n s l) w) := by
  have HN := Lib.hid (numbers50_any k n s A d l 4294967295 m (w.alloc (.cells #[.int .i64 k, .int .u64 n, .string s, .slice A m d] 57)) hm (hx.later (below_al _ _)) (by decide) hl)
  have hset : setF M 7 (.mk k n s l) = match numsR 4294967295 (.mk k n s l) with | none => none | some l => some { M with ws := l } := by unfold setF; rw [if_pos rfl]; rfl
  have HSET := Lib.hid hset
  have HMB := Lib.hid hmb
  have HO := Lib.hid ho
  have HBA := Lib.hid hbase
  obtain ⟨r, hr⟩ : ∃ r, r = numsR 4294967295 (.mk k n s l) := ⟨_, rfl⟩
  rw [← hr] at HN HSET
  clear hx hset hr hm hmb ho hbase
  have hlt := lt_of_block HMB.out
  have HA : Hid (∀ w1, Below (w.alloc (.cells #[.int .i64 k, .int .u64 n, .string s, .slice A m d] 57)).heap.size (w.alloc (.cells #[.int .i64 k, .int .u64 n, .string s, .slice A m d] 57)) w1 → Below w.heap.size w w1) := fun w1 h => below_then (below_al _ _) h
  cases r with
  | none =>
    go_enter Tryd.func36, Tryd.ntmps36
    go_wp2_with (go_at_call 50; refine HN.out.mono ?_; rintro e w1 ⟨hb1, rfl⟩; have HB1 := Lib.hid (HA.out _ hb1); have hm1 := (HB1.out.block mb hlt).trans HMB.out; have HM1 := Lib.hid hm1; have u8 := (cell_of_row w1 mb 8 _ _ _ hm1); have v8 : w1.frozen? ⟨mb, 8, none⟩ = false := (by simp only [World.frozen?, hm1]; rfl); unfold mcells at u8; simp only [List.getElem?_toArray, List.getElem?_cons_zero, List.getElem?_cons_succ] at u8; clear hb1 hm1)
    go_ret
    refine ⟨grown_set (below_grown HB1.out) _, ?_⟩
    rw [HSET.out]; rfl
  | some ws' =>
    go_enter Tryd.func36, Tryd.ntmps36
    go_wp2_with (go_at_call 50; refine HN.out.mono ?_; rintro e w1 ⟨hb1, D, rfl, hD⟩; obtain ⟨DA, DL, DC, rfl⟩ : ∃ DA DL DC, D = .slice DA DL DC := (by rcases hD.2 with ⟨rfl, _⟩ | ⟨g', cap', cur, rfl, _⟩ <;> exact ⟨_, _, _, rfl⟩); have HD := Lib.hid hD; have HB1 := Lib.hid (HA.out _ hb1); have hm1 := (HB1.out.block mb hlt).trans HMB.out; have HM1 := Lib.hid hm1; have u8 := (cell_of_row w1 mb 8 _ _ _ hm1); have v8 : w1.frozen? ⟨mb, 8, none⟩ = false := (by simp only [World.frozen?, hm1]; rfl); unfold mcells at u8; simp only [List.getElem?_toArray, List.getElem?_cons_zero, List.getElem?_cons_succ] at u8; clear hb1 hm1 hD)
    go_ret
    have hg1 : w.grownBy w1 (some mb) := below_grown HB1.out
    have hg2 : w1.grownBy (w1.setCell ⟨mb, 8, none⟩ (.slice DA DL DC)) (some mb) := grown_set (World.grownBy.refl _ _) _
    have ho := (HO.out.kept hg1 HMB.out).kept hg2 HM1.out
    refine ⟨grown_set hg1 _, ?_⟩
    rw [HSET.out]
    refine ⟨rfl, .slice DA DL DC, b, c, ?_, ?_, ho.ms, ho.ds⟩
    · rw [heap_setCell_same _ _ _ _ _ _ HM1.out]; rfl
    · refine ownsRow_mono (own_kept HD.out hg2 fun g e => by cases e; exact ⟨_, _, HM1.out, by decide⟩) ?_
      have := HBA.out
      simp; omega

set_option maxRecDepth 100000 in
set_option maxHeartbeats 1600000 in
theorem read9_any (base mb : Nat) (a b c : Value) (M : Msg) (k : Int) (n : Nat) (s : ByteArray) (A : Option Addr) (m d : Nat) (l : List It) (w : World) (hm : m = l.length) (hx : Holds w (.int .i64 k) (.int .u64 n) (.string s) (.slice A m d) (.mk k n s l)) (hl : l.length ≤ 16384)
    (hmb : w.heap[mb]? = some (.cells (mcells M a b c) 46 (0, 0))) (ho : MsgOwn base w a b c M) (hbase : base ≤ w.heap.size) :
    Calls Tryd.prog 36 #[.agg #[.int .i64 k, .int .u64 n, .string s, .slice A m d], .int .i64 9, .pointer (some ⟨mb, 0, none⟩)] w (ReadPost base mb 9 a b c M (.mk k n s l) w) := by
  have HN := Lib.hid (numbers51_any k n s A d l 18446744073709551615 m (w.alloc (.cells #[.int .i64 k, .int .u64 n, .string s, .slice A m d] 57)) hm (hx.later (below_al _ _)) (by decide) hl)
  have hset : setF M 9 (.mk k n s l) = match numsR 18446744073709551615 (.mk k n s l) with | none => none | some l => some { M with ds := l } := by unfold setF; rw [if_neg (by decide), if_pos rfl]; rfl
  have HSET := Lib.hid hset
  have HMB := Lib.hid hmb
  have HO := Lib.hid ho
  have HBA := Lib.hid hbase
  obtain ⟨r, hr⟩ : ∃ r, r = numsR 18446744073709551615 (.mk k n s l) := ⟨_, rfl⟩
  rw [← hr] at HN HSET
  clear hx hset hr hm hmb ho hbase
  have hlt := lt_of_block HMB.out
  have HA : Hid (∀ w1, Below (w.alloc (.cells #[.int .i64 k, .int .u64 n, .string s, .slice A m d] 57)).heap.size (w.alloc (.cells #[.int .i64 k, .int .u64 n, .string s, .slice A m d] 57)) w1 → Below w.heap.size w w1) := fun w1 h => below_then (below_al _ _) h
  cases r with
  | none =>
    go_enter Tryd.func36, Tryd.ntmps36
    go_wp2_with (go_at_call 51; refine HN.out.mono ?_; rintro e w1 ⟨hb1, rfl⟩; have HB1 := Lib.hid (HA.out _ hb1); have hm1 := (HB1.out.block mb hlt).trans HMB.out; have HM1 := Lib.hid hm1; have u8 := (cell_of_row w1 mb 10 _ _ _ hm1); have v8 : w1.frozen? ⟨mb, 10, none⟩ = false := (by simp only [World.frozen?, hm1]; rfl); unfold mcells at u8; simp only [List.getElem?_toArray, List.getElem?_cons_zero, List.getElem?_cons_succ] at u8; clear hb1 hm1)
    go_ret
    refine ⟨grown_set (below_grown HB1.out) _, ?_⟩
    rw [HSET.out]; rfl
  | some ws' =>
    go_enter Tryd.func36, Tryd.ntmps36
    go_wp2_with (go_at_call 51; refine HN.out.mono ?_; rintro e w1 ⟨hb1, D, rfl, hD⟩; obtain ⟨DA, DL, DC, rfl⟩ : ∃ DA DL DC, D = .slice DA DL DC := (by rcases hD.2 with ⟨rfl, _⟩ | ⟨g', cap', cur, rfl, _⟩ <;> exact ⟨_, _, _, rfl⟩); have HD := Lib.hid hD; have HB1 := Lib.hid (HA.out _ hb1); have hm1 := (HB1.out.block mb hlt).trans HMB.out; have HM1 := Lib.hid hm1; have u8 := (cell_of_row w1 mb 10 _ _ _ hm1); have v8 : w1.frozen? ⟨mb, 10, none⟩ = false := (by simp only [World.frozen?, hm1]; rfl); unfold mcells at u8; simp only [List.getElem?_toArray, List.getElem?_cons_zero, List.getElem?_cons_succ] at u8; clear hb1 hm1 hD)
    go_ret
    have hg1 : w.grownBy w1 (some mb) := below_grown HB1.out
    have hg2 : w1.grownBy (w1.setCell ⟨mb, 10, none⟩ (.slice DA DL DC)) (some mb) := grown_set (World.grownBy.refl _ _) _
    have ho := (HO.out.kept hg1 HMB.out).kept hg2 HM1.out
    refine ⟨grown_set hg1 _, ?_⟩
    rw [HSET.out]
    refine ⟨rfl, a, b, .slice DA DL DC, ?_, ho.ws, ho.ms, ?_⟩
    · rw [heap_setCell_same _ _ _ _ _ _ HM1.out]; rfl
    · refine ownsRow_mono (own_kept HD.out hg2 fun g e => by cases e; exact ⟨_, _, HM1.out, by decide⟩) ?_
      have := HBA.out
      simp; omega

set_option maxRecDepth 100000 in
set_option maxHeartbeats 1600000 in
theorem read8_any (base mb : Nat) (a b c : Value) (M : Msg) (k : Int) (n : Nat) (s : ByteArray) (A : Option Addr) (m d : Nat) (l : List It) (w : World) (hm : m = l.length) (hx : Holds w (.int .i64 k) (.int .u64 n) (.string s) (.slice A m d) (.mk k n s l)) (hl : look 7 (.mk k n s l) = 0)
    (hmb : w.heap[mb]? = some (.cells (mcells M a b c) 46 (0, 0))) (ho : MsgOwn base w a b c M) (hbase : base ≤ w.heap.size) :
    Calls Tryd.prog 36 #[.agg #[.int .i64 k, .int .u64 n, .string s, .slice A m d], .int .i64 8, .pointer (some ⟨mb, 0, none⟩)] w (ReadPost base mb 8 a b c M (.mk k n s l) w) := by
  have HN := Lib.hid (mats_any k n s A d l m (w.alloc (.cells #[.int .i64 k, .int .u64 n, .string s, .slice A m d] 57)) hm (hx.later (below_al _ _)) hl)
  have hset : setF M 8 (.mk k n s l) = match matsR (.mk k n s l) with | none => none | some l => some { M with ms := l } := by unfold setF; rw [if_neg (by decide), if_neg (by decide), if_pos rfl]; rfl
  have HSET := Lib.hid hset
  have HMB := Lib.hid hmb
  have HO := Lib.hid ho
  have HBA := Lib.hid hbase
  obtain ⟨r, hr⟩ : ∃ r, r = matsR (.mk k n s l) := ⟨_, rfl⟩
  rw [← hr] at HN HSET
  clear hx hset hr hm hmb ho hbase
  have hlt := lt_of_block HMB.out
  have HA : Hid (∀ w1, Below (w.alloc (.cells #[.int .i64 k, .int .u64 n, .string s, .slice A m d] 57)).heap.size (w.alloc (.cells #[.int .i64 k, .int .u64 n, .string s, .slice A m d] 57)) w1 → Below w.heap.size w w1) := fun w1 h => below_then (below_al _ _) h
  cases r with
  | none =>
    go_enter Tryd.func36, Tryd.ntmps36
    go_wp2_with (go_at_call 52; refine HN.out.mono ?_; rintro e w1 ⟨hb1, rfl⟩; have HB1 := Lib.hid (HA.out _ hb1); have hm1 := (HB1.out.block mb hlt).trans HMB.out; have HM1 := Lib.hid hm1; have u8 := (cell_of_row w1 mb 9 _ _ _ hm1); have v8 : w1.frozen? ⟨mb, 9, none⟩ = false := (by simp only [World.frozen?, hm1]; rfl); unfold mcells at u8; simp only [List.getElem?_toArray, List.getElem?_cons_zero, List.getElem?_cons_succ] at u8; clear hb1 hm1)
    go_ret
    refine ⟨grown_set (below_grown HB1.out) _, ?_⟩
    rw [HSET.out]; rfl
  | some ws' =>
    go_enter Tryd.func36, Tryd.ntmps36
    go_wp2_with (go_at_call 52; refine HN.out.mono ?_; rintro e w1 ⟨hb1, D, vs, rfl, hD⟩; obtain ⟨DA, DL, DC, rfl⟩ : ∃ DA DL DC, D = .slice DA DL DC := (by rcases hD.row.2 with ⟨rfl, _⟩ | ⟨g', cap', cur, rfl, _⟩ <;> exact ⟨_, _, _, rfl⟩); have HD := Lib.hid hD; have HB1 := Lib.hid (HA.out _ hb1); have hm1 := (HB1.out.block mb hlt).trans HMB.out; have HM1 := Lib.hid hm1; have u8 := (cell_of_row w1 mb 9 _ _ _ hm1); have v8 : w1.frozen? ⟨mb, 9, none⟩ = false := (by simp only [World.frozen?, hm1]; rfl); unfold mcells at u8; simp only [List.getElem?_toArray, List.getElem?_cons_zero, List.getElem?_cons_succ] at u8; clear hb1 hm1 hD)
    go_ret
    have hg1 : w.grownBy w1 (some mb) := below_grown HB1.out
    have hg2 : w1.grownBy (w1.setCell ⟨mb, 9, none⟩ (.slice DA DL DC)) (some mb) := grown_set (World.grownBy.refl _ _) _
    have ho := (HO.out.kept hg1 HMB.out).kept hg2 HM1.out
    refine ⟨grown_set hg1 _, ?_⟩
    rw [HSET.out]
    refine ⟨rfl, a, .slice DA DL DC, c, ?_, ho.ws, ⟨vs, ?_⟩, ho.ds⟩
    · rw [heap_setCell_same _ _ _ _ _ _ HM1.out]; rfl
    · refine MRow.mono (HD.out.kept hg2 fun g e => by cases e; exact ⟨_, _, HM1.out, by decide, by decide⟩) ?_
      have := HBA.out
      simp; omega

end Go.Proofs.YtakdfjkkeilffaaDoor
