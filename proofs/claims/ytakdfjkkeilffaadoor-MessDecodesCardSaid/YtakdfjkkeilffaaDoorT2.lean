/- Decode of the document: Tf, Tg, Th. -/
import Derived.Test.YtakdfjkkeilffaaDoorT1
import Derived.Deep.RegionHeld3
set_option linter.unusedVariables false
set_option linter.unusedSimpArgs false
namespace Go.Proofs.YtakdfjkkeilffaaDoor
open Go.RowKit

set_option maxRecDepth 100000 in
set_option maxHeartbeats 1600000 in
theorem isnum55_any (k : Int) (n : Nat) (s : ByteArray) (A : Option Addr) (m c : Nat) (l : List It) (g : Nat) (w : World) :
    Calls Tryd.prog 55 #[.agg #[.int .i64 k, .int .u64 n, .string s, .slice A m c], .int .u64 g] w fun e w' => e = .returned (.bool (numOk g (.mk k n s l))) ∧ Below w.heap.size w w' := by
  obtain ⟨t, ht⟩ : ∃ t, t = numOk g (.mk k n s l) := ⟨_, rfl⟩
  have HT : Hid (t = decide (k = 1 ∧ n ≤ g)) := by show _ = _; rw [ht]; rfl
  rw [← ht]
  clear ht
  by_cases hk : k = 1
  · subst hk
    by_cases hn : n ≤ g
    · have h1 : (n : Int) ≤ (g : Int) := by omega
      have HR : Hid (t = true) := by show _ = _; rw [HT.out]; exact decide_eq_true ⟨rfl, hn⟩
      go_enter Tryd.func55, Tryd.ntmps55
      go_wp2_with fail
      go_ret
      rw [HR.out]
      exact ⟨rfl, below_al _ _⟩
    · have h1 : ¬ (n : Int) ≤ (g : Int) := by omega
      have HR : Hid (t = false) := by show _ = _; rw [HT.out]; exact decide_eq_false fun h => hn h.2
      go_enter Tryd.func55, Tryd.ntmps55
      go_wp2_with fail
      go_ret
      rw [HR.out]
      exact ⟨rfl, below_al _ _⟩
  · have h1 : (k == 1) = false := by simp [hk]
    have HR : Hid (t = false) := by show _ = _; rw [HT.out]; exact decide_eq_false fun h => hk h.1
    go_enter Tryd.func55, Tryd.ntmps55
    go_wp2_with fail
    go_ret
    rw [HR.out]
    exact ⟨rfl, below_al _ _⟩

/-- items in memory, one behind the other -/
def Items (w : World) (A : Option Addr) (l : List It) : Prop :=
  0 < l.length → ∃ g o, A = some ⟨g, o, none⟩ ∧ ∀ i (h : i < l.length), ∃ (k' : Int) (n' : Nat) (s' : ByteArray) (A' : Option Addr) (c' : Nat) (l' : List It), l[i] = .mk k' n' s' l' ∧ n' < 18446744073709551616 ∧ ICells w g (o + i * 4) k' n' s' A' l'.length c'
theorem Items.later {w w' : World} {A : Option Addr} {l : List It} (h : Items w A l) (hb : Below w.heap.size w w') : Items w' A l := fun h0 => by
  obtain ⟨g, o, e, hc⟩ := h h0
  refine ⟨g, o, e, fun i hi => ?_⟩
  obtain ⟨k', n', s', A', c', l', h1, h2, h3⟩ := hc i hi
  exact ⟨k', n', s', A', c', l', h1, h2, h3.later hb⟩
theorem Holds.members {w : World} {k : Int} {n : Nat} {s : ByteArray} {A : Option Addr} {m c : Nat} {l : List It} (h : Holds w (.int .i64 k) (.int .u64 n) (.string s) (.slice A m c) (.mk k n s l)) : Items w A l := fun h0 => by
  obtain ⟨g, o, rfl, _⟩ := h.part 0 h0
  refine ⟨g, o, rfl, fun i hi => ?_⟩
  obtain ⟨k', n', s', A', c', l', h1, h2, h3, _⟩ := h.at i hi
  exact ⟨k', n', s', A', c', l', h1, h2, h3⟩
theorem Items.sub {w : World} {g o : Nat} {l : List It} (h : Items w (some ⟨g, o, none⟩) l) (a m : Nat) (hm : a + m ≤ l.length) : Items w (some ⟨g, o + a * 4, none⟩) ((l.drop a).take m) := fun h0 => by
  have hl : ((l.drop a).take m).length = m := by simp; omega
  rw [hl] at h0
  obtain ⟨g', o', e, hc⟩ := h (by omega)
  obtain ⟨rfl, rfl⟩ : g = g' ∧ o = o' := by simpa using e
  refine ⟨g, o + a * 4, rfl, fun i hi => ?_⟩
  rw [hl] at hi
  obtain ⟨k', n', s', A', c', l', h1, h2, h3⟩ := hc (a + i) (by omega)
  refine ⟨k', n', s', A', c', l', ?_, h2, by rw [show o + a * 4 + i * 4 = o + (a + i) * 4 from by omega]; exact h3⟩
  rw [List.getElem_take, List.getElem_drop]; exact h1

set_option maxRecDepth 100000 in
set_option maxHeartbeats 1600000 in
theorem fits56_any (A : Option Addr) (m c : Nat) (l : List It) (w : World) (hm : m = l.length) (hm2 : m ≤ 16384) (h : Items w A l) :
    Calls Tryd.prog 56 #[.slice A m c] w fun e w' => e = .returned (.bool (l.all (numOk 1073741824))) ∧ Below w.heap.size w w' := by
  have HM := Lib.hid hm
  have HI : Hid (Items w A l) := h
  obtain ⟨t, ht⟩ : ∃ t, t = l.all (numOk 1073741824) := ⟨_, rfl⟩
  have HT := Lib.hid ht
  rw [← ht]
  clear h hm ht
  go_enter Tryd.func56, Tryd.ntmps56
  go_wp2_with fail
  go_loopw [3] (fun i wr => ∃ q : Nat, q ≤ m ∧ i = .int .i64 q ∧ Hid ((l.take q).all (numOk 1073741824) = true) ∧ Hid (Below w.heap.size w wr)) (fun i _ => m - (intOf i).toNat)
  case atStart => exact ⟨0, by omega, rfl, by show _ = _; simp, Below.refl _ _⟩
  case round =>
    obtain ⟨q, hq, rfl, HOK, HB⟩ := hrel
    obtain ⟨wo, rfl⟩ : ∃ wo : World, wo = wr := ⟨_, rfl⟩
    by_cases hlt : q < m
    · have hql : q < l.length := by have := HM.out; omega
      obtain ⟨g, o, rfl, hc⟩ := (HI.out.later HB.out) (by omega)
      obtain ⟨yk, yn, ys, yA, yc, yl, hy, hyn, ⟨d0, d1, d2, d3⟩⟩ := hc q hql
      have HCA := Lib.hid (isnum55_any yk yn ys yA yl.length yc yl 1073741824 wo)
      obtain ⟨r, hr⟩ : ∃ r, r = numOk 1073741824 (.mk yk yn ys yl) := ⟨_, rfl⟩
      rw [← hr] at HCA
      have HTK : Hid (l.take (q + 1) = l.take q ++ [.mk yk yn ys yl]) := by show _ = _; rw [List.take_succ_eq_append_getElem hql, ← hy]
      have HBAD : Hid (r = false → t = false) := fun hf => by
        rw [HT.out, List.all_eq_false]
        exact ⟨l[q], List.getElem_mem hql, by rw [hy, ← hr, hf]; decide⟩
      have HRR := Lib.hid hr
      clear hc hy hr
      cases r
      · have HF := Lib.hid (HBAD.out rfl)
        go_wp2_with (go_at_call 55; refine HCA.out.mono ?_; rintro e w2 ⟨rfl, hb2⟩; have HB2 := Lib.hid (HB.out.trans (hb2.mono HB.out.size)); clear hb2)
        go_ret
        rw [HF.out]
        exact ⟨rfl, HB2.out⟩
      · have HOK2 : Hid ((l.take (q + 1)).all (numOk 1073741824) = true) := by show _ = _; rw [HTK.out, List.all_append, HOK.out]; simp [← HRR.out]
        go_wp2_with (go_at_call 55; refine HCA.out.mono ?_; rintro e w2 ⟨rfl, hb2⟩; have HB2 := Lib.hid (HB.out.trans (hb2.mono HB.out.size)); clear hb2)
        go_roundw
        case rel => exact ⟨q + 1, by omega, by go_num, HOK2, HB2⟩
        case measure => simp [intOf]; omega
    · obtain rfl : q = m := by omega
      have HF : Hid (t = true) := by show _ = _; rw [HT.out, ← HOK.out, List.take_of_length_le (by have := HM.out; omega)]
      go_wp2_with fail
      go_ret
      rw [HF.out]
      exact ⟨rfl, HB.out⟩

set_option maxRecDepth 100000 in
set_option maxHeartbeats 1600000 in
theorem nums57_any (k : Int) (n : Nat) (s : ByteArray) (A : Option Addr) (m c : Nat) (l : List It) (g : Nat) (w : World) (hm : m = l.length) (hm2 : m ≤ 16384) (h : Items w A l) :
    Calls Tryd.prog 57 #[.agg #[.int .i64 k, .int .u64 n, .string s, .slice A m c], .int .u64 g] w fun e w' => e = .returned (.bool (decide (k = 3 ∧ l.all (numOk g) = true))) ∧ Below w.heap.size w w' := by
  have HM := Lib.hid hm
  have HI : Hid (Items w A l) := h
  obtain ⟨t, ht⟩ : ∃ t, t = decide (k = 3 ∧ l.all (numOk g) = true) := ⟨_, rfl⟩
  have HT := Lib.hid ht
  rw [← ht]
  clear h hm ht
  by_cases hk : k = 3
  · subst hk
    have HT2 : Hid (t = l.all (numOk g)) := by show _ = _; rw [HT.out]; generalize l.all (numOk g) = z; cases z <;> rfl
    have hbx : (w.alloc (.cells #[.int .i64 3, .int .u64 n, .string s, .slice A m c] 57)).heap[w.heap.size]? = some (.cells #[.int .i64 3, .int .u64 n, .string s, .slice A m c] 57 (0, 0)) := heap_alloc_new _ _
    have HBX := Lib.hid hbx
    clear hbx
    go_enter Tryd.func57, Tryd.ntmps57
    go_wp2_with fail
    go_loopw [5] (fun i wr => ∃ q : Nat, q ≤ m ∧ i = .int .i64 q ∧ Hid ((l.take q).all (numOk g) = true) ∧ Hid (Below w.heap.size w wr) ∧ Hid (wr.heap[w.heap.size]? = some (.cells #[.int .i64 3, .int .u64 n, .string s, .slice A m c] 57 (0, 0)))) (fun i _ => m - (intOf i).toNat)
    case atStart => exact ⟨0, by omega, rfl, by show _ = _; simp, below_al _ _, HBX.out⟩
    case round =>
      obtain ⟨q, hq, rfl, HOK, HB, HX⟩ := hrel
      obtain ⟨wo, rfl⟩ : ∃ wo : World, wo = wr := ⟨_, rfl⟩
      obtain ⟨x0, x1, x2, x3⟩ := item_at HX.out
      by_cases hlt : q < m
      · have hql : q < l.length := by have := HM.out; omega
        obtain ⟨gb, o, rfl, hc⟩ := (HI.out.later HB.out) (by omega)
        obtain ⟨yk, yn, ys, yA, yc, yl, hy, hyn, ⟨d0, d1, d2, d3⟩⟩ := hc q hql
        have HCA := Lib.hid (isnum55_any yk yn ys yA yl.length yc yl g wo)
        obtain ⟨r, hr⟩ : ∃ r, r = numOk g (.mk yk yn ys yl) := ⟨_, rfl⟩
        rw [← hr] at HCA
        have HTK : Hid (l.take (q + 1) = l.take q ++ [.mk yk yn ys yl]) := by show _ = _; rw [List.take_succ_eq_append_getElem hql, ← hy]
        have HBAD : Hid (r = false → t = false) := fun hf => by
          rw [HT2.out, List.all_eq_false]
          exact ⟨l[q], List.getElem_mem hql, by rw [hy, ← hr, hf]; decide⟩
        have HRR := Lib.hid hr
        clear hc hy hr
        cases r
        · have HF := Lib.hid (HBAD.out rfl)
          go_wp2_with (go_at_call 55; refine HCA.out.mono ?_; rintro e w2 ⟨rfl, hb2⟩; have HB2 := Lib.hid (HB.out.trans (hb2.mono HB.out.size)); clear hb2)
          go_ret
          rw [HF.out]
          exact ⟨rfl, HB2.out⟩
        · have HOK2 : Hid ((l.take (q + 1)).all (numOk g) = true) := by show _ = _; rw [HTK.out, List.all_append, HOK.out]; simp [← HRR.out]
          go_wp2_with (go_at_call 55; refine HCA.out.mono ?_; rintro e w2 ⟨rfl, hb2⟩; have HX2 : Hid (w2.heap[w.heap.size]? = some (.cells #[.int .i64 3, .int .u64 n, .string s, .slice (some ⟨gb, o, none⟩) m c] 57 (0, 0))) := (keepb hb2 HX.out); have HB2 := Lib.hid (HB.out.trans (hb2.mono HB.out.size)); clear hb2)
          go_roundw
          case rel => exact ⟨q + 1, by omega, by go_num, HOK2, HB2, HX2⟩
          case measure => simp [intOf]; omega
      · obtain rfl : q = m := by omega
        have HF : Hid (t = true) := by show _ = _; rw [HT2.out, ← HOK.out, List.take_of_length_le (by have := HM.out; omega)]
        go_wp2_with fail
        go_ret
        rw [HF.out]
        exact ⟨rfl, HB.out⟩
  · have hb : (k != 3) = true := by simp [hk]
    have HF : Hid (t = false) := by show _ = _; rw [HT.out]; exact decide_eq_false fun h => hk h.1
    go_enter Tryd.func57, Tryd.ntmps57
    go_wp2_with fail
    go_ret
    rw [HF.out]
    exact ⟨rfl, below_al _ _⟩

set_option maxRecDepth 100000 in
set_option maxHeartbeats 1600000 in
theorem dists60_any (k : Int) (n : Nat) (s : ByteArray) (A : Option Addr) (m c : Nat) (l : List It) (w : World) (hm : m = l.length) (hm2 : m ≤ 16384) (h : Items w A l) :
    Calls Tryd.prog 60 #[.agg #[.int .i64 k, .int .u64 n, .string s, .slice A m c]] w fun e w' => Below w.heap.size w w' ∧ ∃ v, e = .returned v ∧ w'.ownsRow w.heap.size 51 1 v (toI (l.map It.n)).length ((toI (l.map It.n)).map (Value.int .u64)) := by
  have HM := Lib.hid hm
  have HI : Hid (Items w A l) := h
  have hbx : (w.alloc (.cells #[.int .i64 k, .int .u64 n, .string s, .slice A m c] 57)).heap[w.heap.size]? = some (.cells #[.int .i64 k, .int .u64 n, .string s, .slice A m c] 57 (0, 0)) := heap_alloc_new _ _
  have HBX := Lib.hid hbx
  obtain ⟨i0, hi, hz0, hz1, hz2⟩ := info_parts i51
  obtain ⟨base, hbase⟩ : ∃ base, base = w.heap.size + 1 := ⟨_, rfl⟩
  have hr0 : (w.alloc (.cells #[.int .i64 k, .int .u64 n, .string s, .slice A m c] 57)).ownsRow base 51 1 (.slice none 0 0) 0 [] := World.ownsRow_nil _ _ _ _
  have HR0 := Lib.hid hr0
  have HBA := Lib.hid hbase
  clear h hm hbx hr0 hbase
  go_enter Tryd.func60, Tryd.ntmps60
  go_wp2_with fail
  go_loopw [3, 4] (fun v i wr => ∃ q : Nat, q ≤ m ∧ i = .int .i64 q ∧ Hid (wr.ownsRow base 51 1 v q ((l.take q).map fun y => .int .u64 (y.n : Int))) ∧ Hid (Below w.heap.size w wr) ∧ Hid (base ≤ wr.heap.size) ∧ Hid (wr.heap[w.heap.size]? = some (.cells #[.int .i64 k, .int .u64 n, .string s, .slice A m c] 57 (0, 0)))) (fun _ i _ => m - (intOf i).toNat)
  case atStart => exact ⟨0, by omega, rfl, HR0.out, below_al _ _, by have := HBA.out; show _ ≤ _; simp; omega, HBX.out⟩
  case round =>
    obtain ⟨q, hq, rfl, HRW, HB, HBS, HX⟩ := hrel
    obtain ⟨wo, rfl⟩ : ∃ wo : World, wo = wr := ⟨_, rfl⟩
    have hso := HB.out.size
    obtain ⟨x0, x1, x2, x3⟩ := item_at HX.out
    by_cases hlt : q < m
    · have hql : q < l.length := by have := HM.out; omega
      obtain ⟨gb, o, rfl, hc⟩ := (HI.out.later HB.out) (by omega)
      obtain ⟨yk, yn, ys, yA, yc, yl, hy, hyn, ⟨d0, d1, d2, d3⟩⟩ := hc q hql
      have HTK : Hid (l.take (q + 1) = l.take q ++ [.mk yk yn ys yl]) := by show _ = _; rw [List.take_succ_eq_append_getElem hql, ← hy]

      have HNEWS := Lib.hid (news1 wo (.int .u64 yn) 51)
      clear hc hy
      go_wp2_with (at_builtin; refine wpList_append_lies _ rfl _ _ 44 rfl base 51 i0 (.int .u64 0) 1 8 t44 hi hz0 hz1 hz2 rfl (by decide) _ _ _ rfl (HRW.out.alloc _) ⟨wo.heap.size, 0, none⟩ 1 1 [.int .u64 yn] rfl rfl HNEWS.out (by intro u hu; simp at hu; subst hu; rfl) (by omega) (by unfold maxLen; omega) (by omega) (by have := HBS.out; simp; omega) (wo.heap.size + 1) (by simp) ?_)
      intro g2 cap w2 hown hgrow hat hlt2
      have HOWN := Lib.hid hown
      have HX2 : Hid (w2.heap[w.heap.size]? = some (.cells #[.int .i64 k, .int .u64 n, .string s, .slice (some ⟨gb, o, none⟩) m c] 57 (0, 0))) := (hgrow.block _ (by have := lt_of_block HX.out; simp; omega) (fun e => by have := HRW.out.lt _ e.symm; have := HBA.out; omega)).trans ((Below.heap_alloc _ _ _ (lt_of_block HX.out)).trans HX.out)
      have HB2 : Hid (Below w.heap.size w w2) := (HB.out.alloc hso _).grown hgrow (by simp; omega) (fun k hk => by have := HRW.out.lt _ hk; have := HBA.out; omega)
      have HBS2 : Hid (base ≤ w2.heap.size) := by have := hgrow.size; have := HBS.out; show _ ≤ _; simp at *; omega
      clear hown hgrow hat hlt2
      go_wp2_with fail
      go_roundw
      case rel =>
        refine ⟨q + 1, by omega, by go_num, ?_, HB2, HBS2, HX2⟩
        have h1 := HOWN.out
        show World.ownsRow _ _ _ _ _ _ _
        rw [HTK.out, List.map_append]
        rw [← List.map_take] at h1
        exact h1
      case measure => simp [intOf]; omega
    · obtain rfl : q = m := by omega
      have htk : l.take q = l := List.take_of_length_le (by have := HM.out; omega)
      rw [htk] at HRW
      go_wp2_with fail
      go_ret
      refine ⟨HB.out, _, rfl, ?_⟩
      refine ownsRow_mono (base := base) ?_ (by have := HBA.out; omega)
      have e : (toI (l.map It.n)).length = q := by simp [toI]; exact HM.out.symm
      have e2 : (toI (l.map It.n)).map (Value.int .u64) = l.map fun y => .int .u64 (y.n : Int) := by simp [toI]
      rw [e, e2]; exact HRW.out

set_option maxRecDepth 100000 in
set_option maxHeartbeats 1600000 in
theorem weights59_any (k : Int) (n : Nat) (s : ByteArray) (A : Option Addr) (m c : Nat) (l : List It) (w : World) (hm : m = l.length) (hm2 : m ≤ 16384) (h : Items w A l) (hle : ∀ y ∈ l, y.n ≤ 4294967295) :
    Calls Tryd.prog 59 #[.agg #[.int .i64 k, .int .u64 n, .string s, .slice A m c]] w fun e w' => Below w.heap.size w w' ∧ ∃ v, e = .returned v ∧ w'.ownsRow w.heap.size 24 1 v (toI (l.map It.n)).length ((toI (l.map It.n)).map (Value.int .u32)) := by
  have HM := Lib.hid hm
  have HI : Hid (Items w A l) := h
  have hbx : (w.alloc (.cells #[.int .i64 k, .int .u64 n, .string s, .slice A m c] 57)).heap[w.heap.size]? = some (.cells #[.int .i64 k, .int .u64 n, .string s, .slice A m c] 57 (0, 0)) := heap_alloc_new _ _
  have HBX := Lib.hid hbx
  obtain ⟨i0, hi, hz0, hz1, hz2⟩ := info_parts i24
  obtain ⟨base, hbase⟩ : ∃ base, base = w.heap.size + 1 := ⟨_, rfl⟩
  have hr0 : (w.alloc (.cells #[.int .i64 k, .int .u64 n, .string s, .slice A m c] 57)).ownsRow base 24 1 (.slice none 0 0) 0 [] := World.ownsRow_nil _ _ _ _
  have HR0 := Lib.hid hr0
  have HBA := Lib.hid hbase
  clear h hm hbx hr0 hbase
  go_enter Tryd.func59, Tryd.ntmps59
  go_wp2_with fail
  go_loopw [3, 4] (fun v i wr => ∃ q : Nat, q ≤ m ∧ i = .int .i64 q ∧ Hid (wr.ownsRow base 24 1 v q ((l.take q).map fun y => .int .u32 (y.n : Int))) ∧ Hid (Below w.heap.size w wr) ∧ Hid (base ≤ wr.heap.size) ∧ Hid (wr.heap[w.heap.size]? = some (.cells #[.int .i64 k, .int .u64 n, .string s, .slice A m c] 57 (0, 0)))) (fun _ i _ => m - (intOf i).toNat)
  case atStart => exact ⟨0, by omega, rfl, HR0.out, below_al _ _, by have := HBA.out; show _ ≤ _; simp; omega, HBX.out⟩
  case round =>
    obtain ⟨q, hq, rfl, HRW, HB, HBS, HX⟩ := hrel
    obtain ⟨wo, rfl⟩ : ∃ wo : World, wo = wr := ⟨_, rfl⟩
    have hso := HB.out.size
    obtain ⟨x0, x1, x2, x3⟩ := item_at HX.out
    by_cases hlt : q < m
    · have hql : q < l.length := by have := HM.out; omega
      obtain ⟨gb, o, rfl, hc⟩ := (HI.out.later HB.out) (by omega)
      obtain ⟨yk, yn, ys, yA, yc, yl, hy, hyn, ⟨d0, d1, d2, d3⟩⟩ := hc q hql
      have HTK : Hid (l.take (q + 1) = l.take q ++ [.mk yk yn ys yl]) := by show _ = _; rw [List.take_succ_eq_append_getElem hql, ← hy]
      have hw : IntKind.u32.wrap (yn : Int) = (yn : Int) := by
        have h1 := hle l[q] (List.getElem_mem hql)
        rw [hy] at h1
        rw [IntKind.wrap_u32]
        have h1 : yn ≤ 4294967295 := h1
        omega
      have HNEWS := Lib.hid (news1 wo (.int .u32 yn) 24)
      clear hc hy
      go_wp2_with (at_builtin; refine wpList_append_lies _ rfl _ _ 42 rfl base 24 i0 (.int .u32 0) 1 4 t42 hi hz0 hz1 hz2 rfl (by decide) _ _ _ rfl (HRW.out.alloc _) ⟨wo.heap.size, 0, none⟩ 1 1 [.int .u32 yn] rfl rfl HNEWS.out (by intro u hu; simp at hu; subst hu; rfl) (by omega) (by unfold maxLen; omega) (by omega) (by have := HBS.out; simp; omega) (wo.heap.size + 1) (by simp) ?_)
      intro g2 cap w2 hown hgrow hat hlt2
      have HOWN := Lib.hid hown
      have HX2 : Hid (w2.heap[w.heap.size]? = some (.cells #[.int .i64 k, .int .u64 n, .string s, .slice (some ⟨gb, o, none⟩) m c] 57 (0, 0))) := (hgrow.block _ (by have := lt_of_block HX.out; simp; omega) (fun e => by have := HRW.out.lt _ e.symm; have := HBA.out; omega)).trans ((Below.heap_alloc _ _ _ (lt_of_block HX.out)).trans HX.out)
      have HB2 : Hid (Below w.heap.size w w2) := (HB.out.alloc hso _).grown hgrow (by simp; omega) (fun k hk => by have := HRW.out.lt _ hk; have := HBA.out; omega)
      have HBS2 : Hid (base ≤ w2.heap.size) := by have := hgrow.size; have := HBS.out; show _ ≤ _; simp at *; omega
      clear hown hgrow hat hlt2
      go_wp2_with fail
      go_roundw
      case rel =>
        refine ⟨q + 1, by omega, by go_num, ?_, HB2, HBS2, HX2⟩
        have h1 := HOWN.out
        show World.ownsRow _ _ _ _ _ _ _
        rw [HTK.out, List.map_append]
        rw [← List.map_take] at h1
        exact h1
      case measure => simp [intOf]; omega
    · obtain rfl : q = m := by omega
      have htk : l.take q = l := List.take_of_length_le (by have := HM.out; omega)
      rw [htk] at HRW
      go_wp2_with fail
      go_ret
      refine ⟨HB.out, _, rfl, ?_⟩
      refine ownsRow_mono (base := base) ?_ (by have := HBA.out; omega)
      have e : (toI (l.map It.n)).length = q := by simp [toI]; exact HM.out.symm
      have e2 : (toI (l.map It.n)).map (Value.int .u32) = l.map fun y => .int .u32 (y.n : Int) := by simp [toI]
      rw [e, e2]; exact HRW.out

end Go.Proofs.YtakdfjkkeilffaaDoor

namespace Go.Proofs.YtakdfjkkeilffaaDoor
open Go.RowKit

theorem call60 : Callable Tryd.prog 60 := ⟨_, Tryd.func60, by kernel_rfl, by kernel_rfl⟩
theorem CapsP.at {S : Nat → Prop} {w : World} {f g o m c n : Nat} {k : Int} {s : ByteArray} {l : List It} (h : CapsP S w (f + 1) (.slice (some ⟨g, o, none⟩) m c) (.mk k n s l)) (i : Nat) (hi : i < l.length) {u : Value} (hu : w.cell? ⟨g, o + i * 4 + 3, none⟩ = some u) : CapsP S w f u l[i] := by
  obtain ⟨A', c', e, hc, hm⟩ := h
  obtain ⟨g', o', u', e1, h1, h2, h3⟩ := hm i hi
  injection e with e2 e3 e4
  subst e2
  obtain ⟨rfl, rfl⟩ : g = g' ∧ o = o' := by simpa using e1
  rw [hu] at h2
  cases h2
  exact h3
theorem CapsP.cap {S : Nat → Prop} {w : World} {f m c : Nat} {A : Option Addr} {x : It} (h : CapsP S w (f + 1) (.slice A m c) x) : x.l.length ≤ c := by
  obtain ⟨A', c', e, hc, _⟩ := h
  injection e with e2 e3 e4
  rw [e4]; exact hc

set_option maxRecDepth 100000 in
set_option maxHeartbeats 3200000 in
theorem mats58_any (k : Int) (n : Nat) (s : ByteArray) (A : Option Addr) (c : Nat) (l : List It) (m : Nat) (w : World) (hm : m = l.length) (hx : Holds w (.int .i64 k) (.int .u64 n) (.string s) (.slice A m c) (.mk k n s l)) (hl : look 7 (.mk k n s l) = 0) {S : Nat → Prop} (hcp : CapsP S w 2 (.slice A m c) (.mk k n s l)) :
    Calls Tryd.prog 58 #[.agg #[.int .i64 k, .int .u64 n, .string s, .slice A m c]] w (MatsPost (matsR (.mk k n s l)) w) := by
  obtain ⟨hl1, hl2⟩ := look_part hl
  simp only [It.l] at hl1 hl2
  have HM := Lib.hid hm
  rw [← hm] at hl1
  have HX := Lib.hid hx
  have HCP := Lib.hid hcp
  clear hcp
  have HL2 := Lib.hid hl2
  clear hx hm hl hl2
  by_cases hk : k = 3
  · subst hk
    obtain ⟨i0, hi, hz0, hz1, hz2⟩ := info_parts i80
    obtain ⟨base, hbase⟩ : ∃ base, base = w.heap.size + 1 := ⟨_, rfl⟩
    have HR0 := Lib.hid (MRow.nil base (w.alloc (.cells #[.int .i64 3, .int .u64 n, .string s, .slice A m c] 57)))
    have HBA := Lib.hid hbase
    have hbx : (w.alloc (.cells #[.int .i64 3, .int .u64 n, .string s, .slice A m c] 57)).heap[w.heap.size]? = some (.cells #[.int .i64 3, .int .u64 n, .string s, .slice A m c] 57 (0, 0)) := heap_alloc_new _ _
    have HBX := Lib.hid hbx
    clear hbase hbx
    go_enter Tryd.func58, Tryd.ntmps58
    go_wp2_with fail
    go_loopw [4, 5] (fun v i wr => ∃ q : Nat, ∃ ms vs, q ≤ m ∧ i = .int .i64 q ∧ Hid (matsL (l.take q) = some ms) ∧ Hid (ms.length = q) ∧ Hid (MRow base wr v ms vs) ∧ Hid (Below w.heap.size w wr) ∧ Hid (base ≤ wr.heap.size) ∧ Hid (wr.heap[w.heap.size]? = some (.cells #[.int .i64 3, .int .u64 n, .string s, .slice A m c] 57 (0, 0)))) (fun _ i _ => m - (intOf i).toNat)
    case atStart => exact ⟨0, [], [], by omega, rfl, by show _ = _; simp [matsL], rfl, HR0.out, below_al _ _, by have := HBA.out; show _ ≤ _; simp; omega, HBX.out⟩
    case round =>
      obtain ⟨q, ms, vs, hq, rfl, HOK, HLN, HRW, HB, HBS, HXB⟩ := hrel
      obtain ⟨wo, rfl⟩ : ∃ wo : World, wo = wr := ⟨_, rfl⟩
      have hso := HB.out.size
      obtain ⟨x0, x1, x2, x3⟩ := item_at HXB.out
      by_cases hlt : q < m
      · have hql : q < l.length := by have := HM.out; omega
        obtain ⟨gb, o, rfl, yk, yn, ys, yA, yc, yl, hy, hyn, d0, d1, d2, d3, hyh⟩ := HX.out.part q hql
        have hyc : yl.length ≤ yc := by
          have h1 := (HCP.out.at q hql d3).cap
          rw [hy] at h1
          exact h1
        have hne : wo.heap.size ≠ gb := by have := World.block_lt_of_cell? w _ d0; simp at this; omega
        replace d0 := (HB.out.cell (World.block_lt_of_cell? w _ d0)).trans d0
        replace d1 := (HB.out.cell (World.block_lt_of_cell? w _ d1)).trans d1
        replace d2 := (HB.out.cell (World.block_lt_of_cell? w _ d2)).trans d2
        replace d3 := (HB.out.cell (World.block_lt_of_cell? w _ d3)).trans d3
        have hyl : look 6 (.mk yk yn ys yl) = 0 := by rw [← hy]; exact HL2.out _ (List.getElem_mem hql)
        have HT : Hid (l.take (q + 1) = l.take q ++ [.mk yk yn ys yl]) := by show _ = _; rw [List.take_succ_eq_append_getElem hql, ← hy]
        have HBAD : Hid (matR (.mk yk yn ys yl) = none → matsR (.mk 3 n s l) = none) := by
          intro h
          unfold matsR
          rw [if_pos (show (It.mk 3 n s l).kind = 3 from rfl)]
          show matsL l = none
          have e := List.take_append_drop q l
          rw [List.drop_eq_getElem_cons hql, hy] at e
          rw [← e]
          exact matsL_bad h
        have HYW := Lib.hid hyh
        have HYH := Lib.hid (hyh.later (HB.out.mono (Nat.le_refl _) |> fun h => h))
        have HYL := Lib.hid hyl
        clear hyh hyl hy
        by_cases hk3 : yk = 3
        · subst hk3
          by_cases h4 : yl.length = 4
          · obtain ⟨a, b, c', d, rfl⟩ := four_list h4
            clear h4
            have hyc2 : (3 : Int) ≤ (yc : Int) := by simp at hyc; omega
            clear hyc
            obtain ⟨ga, oa, rfl, ak, an, at_, aA, ac, al, ha, han, a0, a1, a2, a3, hah⟩ := HYH.out.part 0 (by simp)
            obtain ⟨ga', oa', eA, bk, bn, bt, bA, bc, bl', hb', hbn, b0, b1, b2, b3, hbh⟩ := HYH.out.part 1 (by simp)
            obtain ⟨rfl, rfl⟩ : ga = ga' ∧ oa = oa' := by simpa using eA
            clear eA
            obtain ⟨ga', oa', eA, ck, cn, ct, cA, cc, cl, hc', hcn, c0, c1, c2, c3, hch⟩ := HYH.out.part 2 (by simp)
            obtain ⟨rfl, rfl⟩ : ga = ga' ∧ oa = oa' := by simpa using eA
            clear eA
            obtain ⟨ga', oa', eA, dk, dn, dt, dA, dc, dl, hd', hdn, e0, e1, e2, e3, hdh⟩ := HYH.out.part 3 (by simp)
            obtain ⟨rfl, rfl⟩ : ga = ga' ∧ oa = oa' := by simpa using eA
            clear eA
            obtain rfl : a = .mk ak an at_ al := ha
            obtain rfl : b = .mk bk bn bt bl' := hb'
            obtain rfl : c' = .mk ck cn ct cl := hc'
            obtain rfl : d = .mk dk dn dt dl := hd'
            have hga : ga < w.heap.size := by
              obtain ⟨g9, o9, e9, _, _, _, _, _, _, _, _, z9, _⟩ := HYW.out.part 0 (by simp)
              obtain ⟨rfl, rfl⟩ : ga = g9 ∧ oa = o9 := by simpa using e9
              exact World.block_lt_of_cell? w _ z9
            clear HYW
            have IA : Hid (ICells wo ga oa ak an at_ aA al.length ac) := ⟨by simpa using a0, by simpa using a1, by simpa using a2, by simpa using a3⟩
            have IB : Hid (ICells wo ga (oa + 4) bk bn bt bA bl'.length bc) := ⟨by simpa using b0, by simpa using b1, by simpa using b2, by simpa using b3⟩
            have IC : Hid (ICells wo ga (oa + 8) ck cn ct cA cl.length cc) := ⟨by simpa using c0, by simpa using c1, by simpa using c2, by simpa using c3⟩
            have ID : Hid (ICells wo ga (oa + 12) dk dn dt dA dl.length dc) := ⟨by simpa using e0, by simpa using e1, by simpa using e2, by simpa using e3⟩
            have HDH := Lib.hid hdh
            have HDL : Hid (dl.length ≤ 16384) := by
              have h1 := (look_part HYL.out).2 (.mk dk dn dt dl) (by simp [It.l])
              exact (look_part h1).1
            have HIT := Lib.hid (HYH.out.members)
            clear a0 a1 a2 a3 b0 b1 b2 b3 c0 c1 c2 c3 e0 e1 e2 e3 hah hbh hch hdh HYH HYL
            have HI3 : Hid (Items wo (some ⟨ga, oa, none⟩) [.mk ak an at_ al, .mk bk bn bt bl', .mk ck cn ct cl]) := HIT.out.sub 0 3 (by simp)
            have HID : Hid (Items wo dA dl) := HDH.out.members
            have HC1 : Hid (∀ (W : World), Below wo.heap.size wo W → Calls Tryd.prog 56 #[.slice (some ⟨ga, oa, none⟩) 3 yc] W fun e w' => e = .returned (.bool ([It.mk ak an at_ al, .mk bk bn bt bl', .mk ck cn ct cl].all (numOk 1073741824))) ∧ Below W.heap.size W w') := fun W hb => fits56_any _ 3 yc _ W rfl (by decide) (HI3.out.later hb)
            have HC2 : Hid (∀ (W : World), Below wo.heap.size wo W → Calls Tryd.prog 57 #[.agg #[.int .i64 dk, .int .u64 dn, .string dt, .slice dA dl.length dc], .int .u64 (18446744073709551615 : Nat)] W fun e w' => e = .returned (.bool (decide (dk = 3 ∧ dl.all (numOk 18446744073709551615) = true))) ∧ Below W.heap.size W w') := fun W hb => nums57_any dk dn dt dA dl.length dc dl 18446744073709551615 W rfl HDL.out (HID.out.later hb)
            have HC3 : Hid (∀ (W : World), Below wo.heap.size wo W → Calls Tryd.prog 60 #[.agg #[.int .i64 dk, .int .u64 dn, .string dt, .slice dA dl.length dc]] W fun e w' => Below W.heap.size W w' ∧ ∃ v, e = .returned v ∧ w'.ownsRow W.heap.size 51 1 v (toI (dl.map It.n)).length ((toI (dl.map It.n)).map (Value.int .u64))) := fun W hb => dists60_any dk dn dt dA dl.length dc dl W rfl HDL.out (HID.out.later hb)
            have HMR : Hid (matR (.mk 3 yn ys [.mk ak an at_ al, .mk bk bn bt bl', .mk ck cn ct cl, .mk dk dn dt dl]) = _) := matR_four
            obtain ⟨t1, ht1⟩ : ∃ t1, t1 = [It.mk ak an at_ al, .mk bk bn bt bl', .mk ck cn ct cl].all (numOk 1073741824) := ⟨_, rfl⟩
            obtain ⟨t2, ht2⟩ : ∃ t2, t2 = decide (dk = 3 ∧ dl.all (numOk 18446744073709551615) = true) := ⟨_, rfl⟩
            rw [← ht1] at HC1
            rw [← ht2] at HC2
            obtain ⟨ds, hds⟩ : ∃ ds, ds = dl.map It.n := ⟨_, rfl⟩
            rw [← hds] at HC3
            have HM1 : Hid (t1 = false ∨ t2 = false → matR (.mk 3 yn ys [.mk ak an at_ al, .mk bk bn bt bl', .mk ck cn ct cl, .mk dk dn dt dl]) = none) := fun hf => by
              rw [HMR.out]
              rcases hf with hf | hf
              · rw [hf] at ht1
                rw [if_neg]
                intro ⟨e1, e2, e3⟩
                simp [e1, e2, e3] at ht1
              · rw [hf] at ht2
                have hn : numsR 18446744073709551615 (.mk dk dn dt dl) = none := by unfold numsR; rw [if_neg (show ¬ ((It.mk dk dn dt dl).kind = 3 ∧ (It.mk dk dn dt dl).l.all (numOk 18446744073709551615) = true) from fun h => of_decide_eq_false ht2.symm h)]
                rw [hn]; split <;> rfl
            have HM2 : Hid (t1 = true → t2 = true → matR (.mk 3 yn ys [.mk ak an at_ al, .mk bk bn bt bl', .mk ck cn ct cl, .mk dk dn dt dl]) = some ⟨an, bn, cn, ds⟩ ∧ an ≤ 1073741824 ∧ bn ≤ 1073741824 ∧ cn ≤ 1073741824) := fun h1 h2 => by
              rw [h1] at ht1
              rw [h2] at ht2
              have h3 := of_decide_eq_true ht2.symm
              simp only [List.all_cons, List.all_nil, Bool.and_true] at ht1
              have h4 := ht1.symm
              simp only [Bool.and_eq_true] at h4
              obtain ⟨h5, h6, h7⟩ := h4
              have hn : numsR 18446744073709551615 (.mk dk dn dt dl) = some ds := by unfold numsR; rw [if_pos (show (It.mk dk dn dt dl).kind = 3 ∧ (It.mk dk dn dt dl).l.all (numOk 18446744073709551615) = true from h3), hds]; rfl
              refine ⟨by rw [HMR.out, if_pos ⟨h5, h6, h7⟩, hn]; rfl, (of_decide_eq_true h5).2, (of_decide_eq_true h6).2, (of_decide_eq_true h7).2⟩
            clear ht1 ht2 hds HMR HIT HI3 HID
            go_upto_region 8 with (fail)
            obtain ⟨W0, hW0⟩ : ∃ W0, W0 = wo.alloc (.cells #[.int .i64 3, .int .u64 yn, .string ys, .slice (some ⟨ga, oa, none⟩) 4 yc] 57) := ⟨_, rfl⟩
            have HB0 : Hid (Below wo.heap.size wo W0) := by show Below _ _ _; rw [hW0]; exact below_al _ _
            have HY0 : Hid (W0.heap[wo.heap.size]? = some (.cells #[.int .i64 3, .int .u64 yn, .string ys, .slice (some ⟨ga, oa, none⟩) 4 yc] 57 (0, 0))) := by rw [hW0]; exact heap_alloc_new _ _
            rw [← hW0]
            clear hW0
            obtain ⟨y0, y1, y2, y3⟩ := item_at HY0.out
            cases t1
            · have HR := Lib.hid (HBAD.out (HM1.out (.inl rfl)))
              go_wp2_with (go_at_call 56; refine (HC1.out _ HB0.out).mono ?_; rintro e w1 ⟨rfl, hb1⟩; have HB1 := Lib.hid (HB0.out.trans (hb1.mono HB0.out.size)); have HY1 := Lib.hid (keepb hb1 HY0.out); clear hb1; obtain ⟨y01, y11, y21, y31⟩ := item_at HY1.out)
              go_ret2
              refine ⟨HB.out.trans (HB1.out.mono hso), ?_⟩
              rw [HR.out]; rfl
            · cases t2
              · have HR := Lib.hid (HBAD.out (HM1.out (.inr rfl)))
                go_wp2_with (first
                  | (go_at_call 56; refine (HC1.out _ HB0.out).mono ?_; rintro e w1 ⟨rfl, hb1⟩; have HB1 := Lib.hid (HB0.out.trans (hb1.mono HB0.out.size)); have HY1 := Lib.hid (keepb hb1 HY0.out); clear hb1; obtain ⟨y01, y11, y21, y31⟩ := item_at HY1.out; obtain ⟨d0, d1, d2, d3⟩ := ID.out.later HB1.out)
                  | (go_at_call 57; refine (HC2.out _ HB1.out).mono ?_; rintro e w2 ⟨rfl, hb2⟩; have HB2 := Lib.hid (HB1.out.trans (hb2.mono HB1.out.size)); have HY2 := Lib.hid (keepb hb2 HY1.out); clear hb2))
                go_ret2
                refine ⟨HB.out.trans (HB2.out.mono hso), ?_⟩
                rw [HR.out]; rfl
              · obtain ⟨hmr, hla, hlb, hlc⟩ := HM2.out rfl rfl
                have HMR := Lib.hid hmr
                have wa : IntKind.i64.wrap (an : Int) = (an : Int) := by rw [IntKind.wrap_i64]; omega
                have wb : IntKind.i64.wrap (bn : Int) = (bn : Int) := by rw [IntKind.wrap_i64]; omega
                have wc : IntKind.i64.wrap (cn : Int) = (cn : Int) := by rw [IntKind.wrap_i64]; omega
                clear hmr HM1 HM2
                go_upto_region 10 with (first
                  | (go_at_call 56; refine (HC1.out _ HB0.out).mono ?_; rintro e w1 ⟨rfl, hb1⟩; have HB1 := Lib.hid (HB0.out.trans (hb1.mono HB0.out.size)); have HY1 := Lib.hid (keepb hb1 HY0.out); clear hb1; obtain ⟨y01, y11, y21, y31⟩ := item_at HY1.out; obtain ⟨d0, d1, d2, d3⟩ := ID.out.later HB1.out)
                  | (go_at_call 57; refine (HC2.out _ HB1.out).mono ?_; rintro e w2 ⟨rfl, hb2⟩; have HB2 := Lib.hid (HB1.out.trans (hb2.mono HB1.out.size)); have HY2 := Lib.hid (keepb hb2 HY1.out); clear hb2))
                have HROW2 : Hid (MRow base w2 u4 ms vs) := HRW.out.later HB2.out
                obtain ⟨y02, y12, y22, y32⟩ := item_at HY2.out
                obtain ⟨a0, a1, a2, a3⟩ := IA.out.later HB2.out
                obtain ⟨b0, b1, b2, b3⟩ := IB.out.later HB2.out
                obtain ⟨c0, c1, c2, c3⟩ := IC.out.later HB2.out
                obtain ⟨e0, e1, e2, e3⟩ := ID.out.later HB2.out
                clear y0 y1 y2 y3 y01 y11 y21 y31 d0 d1 d2 d3 x0 x1 x2 x3
                have HC60 : Hid (Calls Tryd.prog 60 #[.agg #[.int .i64 dk, .int .u64 dn, .string dt, .slice dA dl.length dc]] w2.drew fun e w' => Below w2.heap.size w2 w' ∧ ∃ v, e = .returned v ∧ w'.ownsRow w2.heap.size 51 1 v (toI ds).length ((toI ds).map (Value.int .u64))) := by
                  refine (HC3.out w2.drew ⟨HB2.out.os, HB2.out.tape, HB2.out.output, HB2.out.size, HB2.out.block⟩).mono ?_
                  rintro e w' ⟨hb, v, he, hr⟩
                  exact ⟨⟨hb.os, hb.tape, hb.output, hb.size, hb.block⟩, v, he, hr⟩
                have HSS : Hid (∀ w' : World, w'.heap[ga]? = wo.heap[ga]? → w'.heap[wo.heap.size]? = some (.cells #[.int .i64 3, .int .u64 yn, .string ys, .slice (some ⟨ga, oa, none⟩) 4 yc] 57 (0, 0)) → w'.cell? ⟨wo.heap.size, 3, none⟩ = some (.slice (some ⟨ga, oa, none⟩) 4 yc) ∧ w'.cell? ⟨ga, oa + 1, none⟩ = some (.int .u64 (an : Int)) ∧ w'.cell? ⟨ga, oa + 4 + 1, none⟩ = some (.int .u64 (bn : Int)) ∧ w'.cell? ⟨ga, oa + 8 + 1, none⟩ = some (.int .u64 (cn : Int)) ∧ w'.cell? ⟨ga, oa + 12, none⟩ = some (.int .i64 dk) ∧ w'.cell? ⟨ga, oa + 12 + 1, none⟩ = some (.int .u64 (dn : Int)) ∧ w'.cell? ⟨ga, oa + 12 + 2, none⟩ = some (.string dt) ∧ w'.cell? ⟨ga, oa + 12 + 3, none⟩ = some (.slice dA dl.length dc)) := fun w' hb hy => by
                  obtain ⟨_, p1, _, _⟩ := IA.out
                  obtain ⟨_, p2, _, _⟩ := IB.out
                  obtain ⟨_, p3, _, _⟩ := IC.out
                  obtain ⟨p4, p5, p6, p7⟩ := ID.out
                  have hcc : ∀ j, w'.cell? ⟨ga, j, none⟩ = wo.cell? ⟨ga, j, none⟩ := fun j => World.cell?_of_block hb
                  exact ⟨(item_at hy).2.2.2, (hcc _).trans p1, (hcc _).trans p2, (hcc _).trans p3, (hcc _).trans p4, (hcc _).trans p5, (hcc _).trans p6, (hcc _).trans p7⟩
                have hgao : ga < wo.heap.size := by omega
                have hS0 := HSS.out w2.drew (HB2.out.block ga hgao) HY2.out
                have hso2 := HB2.out.size
                clear y02 y12 y22 y32 a0 a1 a2 a3 b0 b1 b2 b3 c0 c1 c2 c3 e0 e1 e2 e3
                go_region_held3 (fun w' => w'.cell? ⟨wo.heap.size, 3, none⟩ = some (.slice (some ⟨ga, oa, none⟩) 4 yc) ∧ w'.cell? ⟨ga, oa + 1, none⟩ = some (.int .u64 (an : Int)) ∧ w'.cell? ⟨ga, oa + 4 + 1, none⟩ = some (.int .u64 (bn : Int)) ∧ w'.cell? ⟨ga, oa + 8 + 1, none⟩ = some (.int .u64 (cn : Int)) ∧ w'.cell? ⟨ga, oa + 12, none⟩ = some (.int .i64 dk) ∧ w'.cell? ⟨ga, oa + 12 + 1, none⟩ = some (.int .u64 (dn : Int)) ∧ w'.cell? ⟨ga, oa + 12 + 2, none⟩ = some (.string dt) ∧ w'.cell? ⟨ga, oa + 12 + 3, none⟩ = some (.slice dA dl.length dc)) (first | exact hS0 | exact hS3 | exact hS3a _ | exact hS6) (first
                  | (refine step_call rfl 60 call60 #[.tmp 68] #[57] rfl #[.agg #[.int .i64 dk, .int .u64 dn, .string dt, .slice dA dl.length dc]] (by simp [Act.eval, Act.put]) ?_; refine HC60.out.mono ?_; rintro e w3 ⟨hb3, D, rfl, hD⟩; obtain ⟨DA, DL, DC, rfl⟩ : ∃ DA DL DC, D = .slice DA DL DC := (by rcases hD.2 with ⟨rfl, _⟩ | ⟨g', cap', cur, rfl, _⟩ <;> exact ⟨_, _, _, rfl⟩); have HD := Lib.hid hD; have HB3 := Lib.hid hb3; have hS3 := HSS.out w3 ((hb3.block ga (by omega)).trans (HB2.out.block ga hgao)) (keepb hb3 HY2.out); have hS3a := (fun o => HSS.out (w3.alloc o) (((below_al w3 o).block ga (by have := hb3.size; omega)).trans ((hb3.block ga (by omega)).trans (HB2.out.block ga hgao))) (keepb (below_al w3 o) (keepb hb3 HY2.out))); clear hb3 hD; refine ⟨_, rfl, ?_⟩)
                  | (refine step_append_lies _ rfl (.tmp 46) (.tmp 71) 43 rfl base 80 i0 (.agg #[.int .i64 0, .int .i64 0, .int .i64 0, .slice none 0 0]) 4 48 t43 hi hz0 hz1 hz2 rfl (by decide) u4 q vs (by simp [Act.eval, Act.put]) ((by have h1 := (HROW2.out.later HB3.out).row; rw [HLN.out] at h1; exact h1.alloc _)) ⟨w3.heap.size, 0, none⟩ 1 1 [.int .i64 an, .int .i64 bn, .int .i64 cn, .slice DA DL DC] (by simp [Act.eval, Act.put]) rfl (newsm w3 _ _ _ _ 80) (by intro u hu; simp at hu; rcases hu with rfl | rfl | rfl | rfl <;> rfl) (by omega) (by unfold maxLen; omega) (by omega) (by have h1 := HBS.out; have h2 := HB2.out.size; have h3 := HB3.out.size; simp; omega) (w3.heap.size + 1) (by simp) ?_; intro g2 cap w6 hown hgrow hat hlt2; have HNX : Hid (MRow base w6 (.slice (some ⟨g2, 0, none⟩) (q + 1) cap) (ms ++ [(⟨(an : Int), (bn : Int), (cn : Int), ds⟩ : Mat)]) (vs ++ [.int .i64 an, .int .i64 bn, .int .i64 cn, .slice DA DL DC])) := (MRow.next (m := ⟨an, bn, cn, ds⟩) ((HROW2.out.later HB3.out).later (below_al _ _)) ((ownsRow_mono HD.out (by have h1 := HBS.out; have h2 := HB2.out.size; omega)).alloc _) (by rw [HLN.out]; exact hown) hgrow); have HB6 : Hid (Below w.heap.size w w6) := (((HB.out.trans (HB2.out.mono hso)).trans (HB3.out.mono (by have h2 := HB2.out.size; omega))).alloc (by have h2 := HB2.out.size; have h3 := HB3.out.size; omega) _).grown hgrow (by have h2 := HB2.out.size; have h3 := HB3.out.size; simp; omega) (fun k hk => by have h1 := HRW.out.row.lt _ hk; have h2 := HBA.out; omega); have HBS6 : Hid (base ≤ w6.heap.size) := (by have h1 := hgrow.size; have h2 := HB2.out.size; have h3 := HB3.out.size; have h4 := HBS.out; show base ≤ _; simp at *; omega); have HXB6 : Hid (w6.heap[w.heap.size]? = some (.cells #[.int .i64 3, .int .u64 n, .string s, .slice (some ⟨gb, o, none⟩) m c] 57 (0, 0))) := ((hgrow.block _ (by have h1 := lt_of_block HXB.out; have h2 := HB2.out.size; have h3 := HB3.out.size; simp; omega) (fun e => by have h1 := HRW.out.row.lt _ e.symm; have h2 := HBA.out; omega)).trans ((Below.heap_alloc _ _ _ (by have h1 := lt_of_block HXB.out; have h2 := HB2.out.size; have h3 := HB3.out.size; omega)).trans (keepb HB3.out (keepb HB2.out HXB.out)))); have hgb : ∀ z, z < w3.heap.size → (∀ kk, u4.ownBlock = some kk → z ≠ kk) → w6.heap[z]? = w3.heap[z]? := (fun z hz hk => (hgrow.block z (by simp; omega) (fun e => hk z e.symm rfl)).trans (Below.heap_alloc _ _ _ hz)); have hS6 := HSS.out w6 ((hgb ga (by have h3 := HB3.out.size; omega) (fun kk hk => by have h1 := HRW.out.row.lt _ hk; have h2 := HBA.out; omega)).trans ((HB3.out.block ga (by omega)).trans (HB2.out.block ga hgao))) ((hgb wo.heap.size (by have h3 := HB3.out.size; have h4 := lt_of_block HY2.out; omega) (fun kk hk => by have h1 := HRW.out.row.lt _ hk; omega)).trans (keepb HB3.out HY2.out)); clear hgb; clear hown hgrow hat hlt2))
                all_goals
                  clear hS0 hS3 hS3a hS6
                  go_wp2_with fail
                  go_roundw
                  case rel =>
                    refine ⟨q + 1, ms ++ [(⟨(an : Int), (bn : Int), (cn : Int), ds⟩ : Mat)], vs ++ [.int .i64 (an : Int), .int .i64 (bn : Int), .int .i64 (cn : Int), .slice DA DL DC], by omega, by go_num, ?_, ?_, HNX, HB6, HBS6, HXB6⟩
                    · show _ = _
                      rw [HT.out]
                      exact matsL_snoc HOK.out HMR.out
                    · show _ = _
                      rw [List.length_append, HLN.out]; rfl
                  case measure => simp [intOf]; omega
          · have HR := Lib.hid (HBAD.out (matR_len h4))
            have h4i : ((((yl.length : Nat) : Int)) != 4) = true := by simp; omega
            clear h4
            go_wp2_with fail
            go_ret2
            refine ⟨HB.out.trans ((below_al _ _).mono hso), ?_⟩
            rw [HR.out]; rfl
        · have HR := Lib.hid (HBAD.out (matR_kind hk3))
          have hb : (yk != 3) = true := by simp [hk3]
          go_wp2_with fail
          go_ret2
          refine ⟨HB.out.trans ((below_al _ _).mono hso), ?_⟩
          rw [HR.out]; rfl
      · obtain rfl : q = m := by omega
        have htk : l.take q = l := List.take_of_length_le (by have := HM.out; omega)
        rw [htk] at HOK
        have HR : Hid (matsR (.mk 3 n s l) = some ms) := by show _ = _; unfold matsR; rw [if_pos (show (It.mk 3 n s l).kind = 3 from rfl)]; exact HOK.out
        go_wp2_with fail
        go_ret2
        refine ⟨HB.out, ?_⟩
        rw [HR.out]
        exact ⟨_, vs, rfl, HRW.out.mono (by have := HBA.out; omega)⟩
  · have hb : (k != 3) = true := by simp [hk]
    have HO : Hid (matsR (.mk k n s l) = none) := by show _ = _; unfold matsR; rw [if_neg (show ¬ (It.mk k n s l).kind = 3 from hk)]
    go_enter Tryd.func58, Tryd.ntmps58
    go_wp2_with fail
    go_ret2
    refine ⟨below_al _ _, ?_⟩
    rw [HO.out]; rfl

end Go.Proofs.YtakdfjkkeilffaaDoor

namespace Go.Proofs.YtakdfjkkeilffaaDoor
open Go.RowKit

/-- the message is stored -/
def put11 (W : World) (N : Nat) (v0 v1 v2 v3 v4 v5 v6 v7 v8 v9 v10 : Value) : World := (((((((((((W.setCell ⟨N, 0, none⟩ v0).setCell ⟨N, 1, none⟩ v1).setCell ⟨N, 2, none⟩ v2).setCell ⟨N, 3, none⟩ v3).setCell ⟨N, 4, none⟩ v4).setCell ⟨N, 5, none⟩ v5).setCell ⟨N, 6, none⟩ v6).setCell ⟨N, 7, none⟩ v7).setCell ⟨N, 8, none⟩ v8).setCell ⟨N, 9, none⟩ v9).setCell ⟨N, 10, none⟩ v10)
theorem put11_off (W : World) (N : Nat) (v0 v1 v2 v3 v4 v5 v6 v7 v8 v9 v10 : Value) : Off (fun g => g = N) W (put11 W N v0 v1 v2 v3 v4 v5 v6 v7 v8 v9 v10) := by
  unfold put11
  exact (((((((((((Off.refl (fun g => g = N) W).set (a := ⟨N, 0, none⟩) rfl v0).set (a := ⟨N, 1, none⟩) rfl v1).set (a := ⟨N, 2, none⟩) rfl v2).set (a := ⟨N, 3, none⟩) rfl v3).set (a := ⟨N, 4, none⟩) rfl v4).set (a := ⟨N, 5, none⟩) rfl v5).set (a := ⟨N, 6, none⟩) rfl v6).set (a := ⟨N, 7, none⟩) rfl v7).set (a := ⟨N, 8, none⟩) rfl v8).set (a := ⟨N, 9, none⟩) rfl v9).set (a := ⟨N, 10, none⟩) rfl v10
set_option maxHeartbeats 1600000 in
theorem put11_at {W : World} {N : Nat} (h : W.heap[N]? = some (.cells zeroM 46 (0, 0))) (v0 v1 v2 v3 v4 v5 v6 v7 v8 v9 v10 : Value) : (put11 W N v0 v1 v2 v3 v4 v5 v6 v7 v8 v9 v10).heap[N]? = some (.cells #[v0, v1, v2, v3, v4, v5, v6, v7, v8, v9, v10] 46 (0, 0)) := by
  unfold put11
  have a0 : (W.setCell ⟨N, 0, none⟩ v0).heap[N]? = some (.cells #[v0, .int .i64 0, .int .i64 0, .int .i64 0, .int .i64 0, .int .i64 0, .int .i64 0, .int .i64 0, .slice none 0 0, .slice none 0 0, .slice none 0 0] 46 (0, 0)) := heap_setCell_same _ _ _ _ _ _ h
  have a1 : ((W.setCell ⟨N, 0, none⟩ v0).setCell ⟨N, 1, none⟩ v1).heap[N]? = some (.cells #[v0, v1, .int .i64 0, .int .i64 0, .int .i64 0, .int .i64 0, .int .i64 0, .int .i64 0, .slice none 0 0, .slice none 0 0, .slice none 0 0] 46 (0, 0)) := heap_setCell_same _ _ _ _ _ _ a0
  have a2 : (((W.setCell ⟨N, 0, none⟩ v0).setCell ⟨N, 1, none⟩ v1).setCell ⟨N, 2, none⟩ v2).heap[N]? = some (.cells #[v0, v1, v2, .int .i64 0, .int .i64 0, .int .i64 0, .int .i64 0, .int .i64 0, .slice none 0 0, .slice none 0 0, .slice none 0 0] 46 (0, 0)) := heap_setCell_same _ _ _ _ _ _ a1
  have a3 : ((((W.setCell ⟨N, 0, none⟩ v0).setCell ⟨N, 1, none⟩ v1).setCell ⟨N, 2, none⟩ v2).setCell ⟨N, 3, none⟩ v3).heap[N]? = some (.cells #[v0, v1, v2, v3, .int .i64 0, .int .i64 0, .int .i64 0, .int .i64 0, .slice none 0 0, .slice none 0 0, .slice none 0 0] 46 (0, 0)) := heap_setCell_same _ _ _ _ _ _ a2
  have a4 : (((((W.setCell ⟨N, 0, none⟩ v0).setCell ⟨N, 1, none⟩ v1).setCell ⟨N, 2, none⟩ v2).setCell ⟨N, 3, none⟩ v3).setCell ⟨N, 4, none⟩ v4).heap[N]? = some (.cells #[v0, v1, v2, v3, v4, .int .i64 0, .int .i64 0, .int .i64 0, .slice none 0 0, .slice none 0 0, .slice none 0 0] 46 (0, 0)) := heap_setCell_same _ _ _ _ _ _ a3
  have a5 : ((((((W.setCell ⟨N, 0, none⟩ v0).setCell ⟨N, 1, none⟩ v1).setCell ⟨N, 2, none⟩ v2).setCell ⟨N, 3, none⟩ v3).setCell ⟨N, 4, none⟩ v4).setCell ⟨N, 5, none⟩ v5).heap[N]? = some (.cells #[v0, v1, v2, v3, v4, v5, .int .i64 0, .int .i64 0, .slice none 0 0, .slice none 0 0, .slice none 0 0] 46 (0, 0)) := heap_setCell_same _ _ _ _ _ _ a4
  have a6 : (((((((W.setCell ⟨N, 0, none⟩ v0).setCell ⟨N, 1, none⟩ v1).setCell ⟨N, 2, none⟩ v2).setCell ⟨N, 3, none⟩ v3).setCell ⟨N, 4, none⟩ v4).setCell ⟨N, 5, none⟩ v5).setCell ⟨N, 6, none⟩ v6).heap[N]? = some (.cells #[v0, v1, v2, v3, v4, v5, v6, .int .i64 0, .slice none 0 0, .slice none 0 0, .slice none 0 0] 46 (0, 0)) := heap_setCell_same _ _ _ _ _ _ a5
  have a7 : ((((((((W.setCell ⟨N, 0, none⟩ v0).setCell ⟨N, 1, none⟩ v1).setCell ⟨N, 2, none⟩ v2).setCell ⟨N, 3, none⟩ v3).setCell ⟨N, 4, none⟩ v4).setCell ⟨N, 5, none⟩ v5).setCell ⟨N, 6, none⟩ v6).setCell ⟨N, 7, none⟩ v7).heap[N]? = some (.cells #[v0, v1, v2, v3, v4, v5, v6, v7, .slice none 0 0, .slice none 0 0, .slice none 0 0] 46 (0, 0)) := heap_setCell_same _ _ _ _ _ _ a6
  have a8 : (((((((((W.setCell ⟨N, 0, none⟩ v0).setCell ⟨N, 1, none⟩ v1).setCell ⟨N, 2, none⟩ v2).setCell ⟨N, 3, none⟩ v3).setCell ⟨N, 4, none⟩ v4).setCell ⟨N, 5, none⟩ v5).setCell ⟨N, 6, none⟩ v6).setCell ⟨N, 7, none⟩ v7).setCell ⟨N, 8, none⟩ v8).heap[N]? = some (.cells #[v0, v1, v2, v3, v4, v5, v6, v7, v8, .slice none 0 0, .slice none 0 0] 46 (0, 0)) := heap_setCell_same _ _ _ _ _ _ a7
  have a9 : ((((((((((W.setCell ⟨N, 0, none⟩ v0).setCell ⟨N, 1, none⟩ v1).setCell ⟨N, 2, none⟩ v2).setCell ⟨N, 3, none⟩ v3).setCell ⟨N, 4, none⟩ v4).setCell ⟨N, 5, none⟩ v5).setCell ⟨N, 6, none⟩ v6).setCell ⟨N, 7, none⟩ v7).setCell ⟨N, 8, none⟩ v8).setCell ⟨N, 9, none⟩ v9).heap[N]? = some (.cells #[v0, v1, v2, v3, v4, v5, v6, v7, v8, v9, .slice none 0 0] 46 (0, 0)) := heap_setCell_same _ _ _ _ _ _ a8
  have a10 : (((((((((((W.setCell ⟨N, 0, none⟩ v0).setCell ⟨N, 1, none⟩ v1).setCell ⟨N, 2, none⟩ v2).setCell ⟨N, 3, none⟩ v3).setCell ⟨N, 4, none⟩ v4).setCell ⟨N, 5, none⟩ v5).setCell ⟨N, 6, none⟩ v6).setCell ⟨N, 7, none⟩ v7).setCell ⟨N, 8, none⟩ v8).setCell ⟨N, 9, none⟩ v9).setCell ⟨N, 10, none⟩ v10).heap[N]? = some (.cells #[v0, v1, v2, v3, v4, v5, v6, v7, v8, v9, v10] 46 (0, 0)) := heap_setCell_same _ _ _ _ _ _ a9
  exact a10
theorem res38 {tmps : Array Value} {W : World} {N : Nat} {v0 v1 v2 v3 v4 v5 v6 v7 v8 v9 v10 z : Value} (h2 : tmps.getD 2 undef = .pointer (some ⟨N, 0, none⟩)) (h3 : tmps.getD 3 undef = z)
    (h : W.heap[N]? = some (.cells #[v0, v1, v2, v3, v4, v5, v6, v7, v8, v9, v10] 46 (0, 0))) : (results Tryd.f38 tmps).run Tryd.prog W = .ok (.tuple #[.agg #[v0, v1, v2, v3, v4, v5, v6, v7, v8, v9, v10], z]) W := by
  rw [Array.getD_eq_getD_getElem?] at h2 h3
  have x0 := cell_of_row W N 0 _ _ _ h
  have x1 := cell_of_row W N 1 _ _ _ h
  have x2 := cell_of_row W N 2 _ _ _ h
  have x3 := cell_of_row W N 3 _ _ _ h
  have x4 := cell_of_row W N 4 _ _ _ h
  have x5 := cell_of_row W N 5 _ _ _ h
  have x6 := cell_of_row W N 6 _ _ _ h
  have x7 := cell_of_row W N 7 _ _ _ h
  have x8 := cell_of_row W N 8 _ _ _ h
  have x9 := cell_of_row W N 9 _ _ _ h
  have x10 := cell_of_row W N 10 _ _ _ h
  simp only [List.getElem?_toArray, List.getElem?_cons_zero, List.getElem?_cons_succ] at x0 x1 x2 x3 x4 x5 x6 x7 x8 x9 x10
  simp [results, Tryd.results38, go_sem, h2, h3, x0, x1, x2, x3, x4, x5, x6, x7, x8, x9, x10]
/-- what reading an item as a message gives -/
def Msg38 (w : World) (r : Option Msg) (e : Ending) (w' : World) : Prop :=
  Below w.heap.size w w' ∧ match r with
  | none => e = .returned (.tuple #[.agg zeroM, .bool false])
  | some m => ∃ a b c, e = .returned (.tuple #[.agg (mcells m a b c), .bool true]) ∧ MsgOwn w.heap.size w' a b c m
structure W38 (w W : World) (k : Int) (n : Nat) (s : ByteArray) (A : Option Addr) (m c : Nat) : Prop where
  below : Below w.heap.size w W
  xb : W.heap[w.heap.size]? = some (.cells #[.int .i64 k, .int .u64 n, .string s, .slice A m c] 57 (0, 0))
  z1 : W.heap[w.heap.size + 1]? = some (.cells zeroM 46 (0, 0))
  z2 : W.heap[w.heap.size + 1 + 1]? = some (.cells zeroM 46 (0, 0))
section
variable {w W W2 : World} {k : Int} {n m c : Nat} {s : ByteArray} {A : Option Addr}
theorem W38.later (h : W38 w W k n s A m c) (hb : Below W.heap.size W W2) : W38 w W2 k n s A m c :=
  ⟨h.below.trans (hb.mono h.below.size), keepb hb h.xb, keepb hb h.z1, keepb hb h.z2⟩
theorem W38.bad {tmps : Array Value} {W6 : World} (h : W38 w W k n s A m c) (h2 : tmps.getD 2 undef = .pointer (some ⟨w.heap.size + 1, 0, none⟩)) (h3 : tmps.getD 3 undef = .bool false)
    (h6 : W6 = put11 W (w.heap.size + 1) (.int .i64 0) (.int .i64 0) (.int .i64 0) (.int .i64 0) (.int .i64 0) (.int .i64 0) (.int .i64 0) (.int .i64 0) (.slice none 0 0) (.slice none 0 0) (.slice none 0 0)) : bodyPost Tryd.prog Tryd.f38 (Msg38 w none) .ret ⟨tmps, []⟩ W6 := by
  have hp := put11_at h.z1 (.int .i64 0) (.int .i64 0) (.int .i64 0) (.int .i64 0) (.int .i64 0) (.int .i64 0) (.int .i64 0) (.int .i64 0) (.slice none 0 0) (.slice none 0 0) (.slice none 0 0)
  have ho := put11_off W (w.heap.size + 1) (.int .i64 0) (.int .i64 0) (.int .i64 0) (.int .i64 0) (.int .i64 0) (.int .i64 0) (.int .i64 0) (.int .i64 0) (.slice none 0 0) (.slice none 0 0) (.slice none 0 0)
  subst h6
  generalize put11 W _ _ _ _ _ _ _ _ _ _ _ _ = W5 at hp ho
  have hb := h.below
  have hs := hb.size
  refine bodyPost_ret (res38 h2 h3 (W := W5) hp) rfl ⟨⟨ho.os.trans hb.os, ho.tape.trans hb.tape, ho.output.trans hb.output, Nat.le_trans hs ho.size, fun j hj => ?_⟩, rfl⟩
  exact (ho.block j (by omega) (by omega)).trans (hb.block j hj)
theorem W38.good {tmps : Array Value} {W6 : World} {M : Msg} {a b c' : Value} {base : Nat} (h : W38 w W k n s A m c) (hm : MsgOwn base W a b c' M) (hbase : w.heap.size + 2 ≤ base) (h2 : tmps.getD 2 undef = .pointer (some ⟨w.heap.size + 1, 0, none⟩)) (h3 : tmps.getD 3 undef = .bool true)
    (h6 : W6 = put11 W (w.heap.size + 1) (.int .i64 M.kind) (.int .i64 M.n0) (.int .i64 M.n1) (.int .i64 M.n2) (.int .i64 M.n3) (.int .i64 M.n4) (.int .i64 M.n5) (.int .i64 M.n6) a b c') : bodyPost Tryd.prog Tryd.f38 (Msg38 w (some M)) .ret ⟨tmps, []⟩ W6 := by
  have hp := put11_at h.z1 (.int .i64 M.kind) (.int .i64 M.n0) (.int .i64 M.n1) (.int .i64 M.n2) (.int .i64 M.n3) (.int .i64 M.n4) (.int .i64 M.n5) (.int .i64 M.n6) a b c'
  have ho := put11_off W (w.heap.size + 1) (.int .i64 M.kind) (.int .i64 M.n0) (.int .i64 M.n1) (.int .i64 M.n2) (.int .i64 M.n3) (.int .i64 M.n4) (.int .i64 M.n5) (.int .i64 M.n6) a b c'
  subst h6
  generalize put11 W _ _ _ _ _ _ _ _ _ _ _ _ = W5 at hp ho
  have hb := h.below
  have hs := hb.size
  refine bodyPost_ret (res38 h2 h3 (W := W5) hp) rfl ⟨⟨ho.os.trans hb.os, ho.tape.trans hb.tape, ho.output.trans hb.output, Nat.le_trans hs ho.size, fun j hj => ?_⟩, a, b, c', rfl, ?_⟩
  · exact (ho.block j (by omega) (by omega)).trans (hb.block j hj)
  · exact (hm.keep fun g hg hlt => ho.block g (by omega) hlt).mono (by omega)
end
def w38 (w : World) (k : Int) (n : Nat) (s : ByteArray) (A : Option Addr) (m c : Nat) : World := ((w.alloc (.cells #[.int .i64 k, .int .u64 n, .string s, .slice A m c] 57)).alloc (.cells zeroM 46)).alloc (.cells zeroM 46)
theorem W38.first (w : World) (k : Int) (n : Nat) (s : ByteArray) (A : Option Addr) (m c : Nat) : W38 w (w38 w k n s A m c) k n s A m c := by
  obtain ⟨h0, h1, h2⟩ := three w #[.int .i64 k, .int .u64 n, .string s, .slice A m c] zeroM zeroM 57 46 46
  exact ⟨(al2' _ _ _).alloc (by simp; omega) _, h0, h1, h2⟩
theorem numsR_of {g n : Nat} {k : Int} {s : ByteArray} {l : List It} : numsR g (.mk k n s l) = if k = 3 ∧ l.all (numOk g) = true then Option.some (l.map It.n) else Option.none := rfl

end Go.Proofs.YtakdfjkkeilffaaDoor

