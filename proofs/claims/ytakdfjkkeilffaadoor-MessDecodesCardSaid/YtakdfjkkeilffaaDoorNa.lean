/- A number, a list of numbers out of an item. -/
import Derived.Test.YtakdfjkkeilffaaDoorMd
set_option linter.unusedVariables false
set_option linter.unusedSimpArgs false
namespace Go.Proofs.YtakdfjkkeilffaaDoor
open Go.RowKit

def numOk (g : Nat) (y : It) : Bool := decide (y.kind = 1 ∧ y.n ≤ g)
def numsR (g : Nat) (x : It) : Option (List Nat) := if x.kind = 3 ∧ x.l.all (numOk g) = true then some (x.l.map It.n) else none

/-- a number is read into a place -/
def WholePost (g : Nat) (x : It) (mb j : Nat) (bx : Obj) (w : World) (e : Ending) (w' : World) : Prop :=
  e = .returned (.bool (numOk g x)) ∧ w' = if numOk g x then (w.setCell ⟨mb, j, none⟩ (.int .i64 (x.n : Int))).alloc bx else w.alloc bx

set_option maxRecDepth 100000 in
set_option maxHeartbeats 1600000 in
theorem whole_any (k : Int) (n : Nat) (s : ByteArray) (A : Option Addr) (l c : Nat) (li : List It) (g mb j : Nat) (u : Value) (w : World) (hn : n < 18446744073709551616) (hg : g < 9223372036854775808) (hc : w.cell? ⟨mb, j, none⟩ = some u) (hf : w.frozen? ⟨mb, j, none⟩ = false) :
    Calls Tryd.prog 34 #[.agg #[.int .i64 k, .int .u64 n, .string s, .slice A l c], .int .u64 g, .pointer (some ⟨mb, j, none⟩)] w (WholePost g (.mk k n s li) mb j (.cells #[.int .i64 k, .int .u64 n, .string s, .slice A l c] 57) w) := by
  have hlt := World.block_lt_of_cell? w _ hc
  have hc1 : (w.alloc (.cells #[.int .i64 k, .int .u64 n, .string s, .slice A l c] 57)).cell? ⟨mb, j, none⟩ = some u := (World.cell?_of_block (Below.heap_alloc w _ _ hlt)).trans hc
  have hf1 : (w.alloc (.cells #[.int .i64 k, .int .u64 n, .string s, .slice A l c] 57)).frozen? ⟨mb, j, none⟩ = false := (World.frozen?_of_block (Below.heap_alloc w _ _ hlt)).trans hf
  have hne : w.heap.size ≠ mb := by simp at hlt; omega
  by_cases hk : k = 1
  · subst hk
    by_cases hng : n ≤ g
    · have hb : ¬ (g : Int) < (n : Int) := by omega
      have hw : IntKind.i64.wrap (n : Int) = (n : Int) := by rw [IntKind.wrap_i64]; omega
      have HO : Hid (numOk g (.mk 1 n s li) = true) := by show _ = _; unfold numOk; exact decide_eq_true ⟨rfl, hng⟩
      clear hc hf
      go_enter Tryd.func34, Tryd.ntmps34
      go_wp2_with fail
      go_ret
      refine ⟨by rw [HO.out]; rfl, ?_⟩
      rw [if_pos HO.out]; rfl
    · have hb : (g : Int) < (n : Int) := by omega
      have HO : Hid (numOk g (.mk 1 n s li) = false) := by show _ = _; unfold numOk; exact decide_eq_false fun h => hng h.2
      clear hc hf
      go_enter Tryd.func34, Tryd.ntmps34
      go_wp2_with fail
      go_ret
      refine ⟨by rw [HO.out]; rfl, ?_⟩
      rw [if_neg (by rw [HO.out]; decide)]
  · have hb : (k != 1) = true := by simp [hk]
    have HO : Hid (numOk g (.mk k n s li) = false) := by show _ = _; unfold numOk; exact decide_eq_false fun h => hk h.1
    clear hc hf
    go_enter Tryd.func34, Tryd.ntmps34
    go_wp2_with fail
    go_ret
    refine ⟨by rw [HO.out]; rfl, ?_⟩
    rw [if_neg (by rw [HO.out]; decide)]

/-- what a list of numbers reads as -/
def NumsPost (K : IntKind) (t : TypeId) (r : Option (List Nat)) (w : World) (e : Ending) (w' : World) : Prop :=
  Below w.heap.size w w' ∧ match r with
  | none => e = .returned (.tuple #[.slice none 0 0, .bool false])
  | some l => ∃ v, e = .returned (.tuple #[v, .bool true]) ∧ w'.ownsRow w.heap.size t 1 v (toI l).length ((toI l).map (Value.int K))
/-- an item's members, one by one -/
theorem Holds.place {w : World} {k : Int} {n : Nat} {s : ByteArray} {A : Option Addr} {m c : Nat} {l : List It} (h : Holds w (.int .i64 k) (.int .u64 n) (.string s) (.slice A m c) (.mk k n s l)) (hm : m = l.length) :
    0 < m → ∃ g o, A = some ⟨g, o, none⟩ ∧ ∀ i (h : i < l.length), ∃ v2 v3, w.cell? ⟨g, o + i * 4, none⟩ = some (.int .i64 l[i].kind) ∧ w.cell? ⟨g, o + i * 4 + 1, none⟩ = some (.int .u64 (l[i].n : Int)) ∧ w.cell? ⟨g, o + i * 4 + 2, none⟩ = some v2 ∧ w.cell? ⟨g, o + i * 4 + 3, none⟩ = some v3 ∧ (∃ s A m c, v2 = .string s ∧ v3 = .slice A m c) ∧ l[i].n < 18446744073709551616 := by
  intro h0
  cases h with
  | mk _ _ _ _ _ _ F hn hs hm2 hA hl =>
    obtain ⟨g, o, e, hc⟩ := hA (by omega)
    refine ⟨g, o, e, fun i hi => ?_⟩
    have hli := hl i hi
    obtain ⟨c0, c1, c2, c3⟩ := hc i hi
    generalize F i = f at hli c0 c1 c2 c3
    generalize l[i] = y at hli
    obtain ⟨f0, f1, f2, f3⟩ := f
    cases hli with
    | mk k' n' s' A' c' l' F' hn' hs' hm' hA' hl' => exact ⟨_, _, c0, c1, c2, c3, ⟨_, _, _, _, rfl, rfl⟩, hn'⟩

theorem news1 (w : World) (x0 : Value) (ty : TypeId) : ∀ (j : Nat) (u : Value), [x0][j]? = some u → (w.alloc (.cells #[x0] ty)).cell? ((⟨w.heap.size, 0, none⟩ : Addr).add j) = some u := fun j u hj =>
  World.news_of_block (cs := #[x0]) (heap_alloc_new w _) j u hj
theorem ownsRow_mono {w : World} {base b2 : Nat} {t : TypeId} {z : Nat} {v : Value} {n : Nat} {xs : List Value} (h : w.ownsRow base t z v n xs) (hb : b2 ≤ base) : w.ownsRow b2 t z v n xs := by
  rcases h.2 with ⟨e, h0⟩ | ⟨g, cap, cur, e, h2, h3⟩
  · exact ⟨h.1, .inl ⟨e, h0⟩⟩
  · exact ⟨h.1, .inr ⟨g, cap, cur, e, by omega, h3⟩⟩
theorem Nums.of_row {w : World} {base : Nat} {t : TypeId} {K : IntKind} {v : Value} {l : List Int} (h : w.ownsRow base t 1 v l.length (l.map (Value.int K))) : Nums w K v l := by
  rcases h.2 with ⟨rfl, h0⟩ | ⟨g, cap, cur, rfl, h2, h3, h4, h5, _⟩
  · exact ⟨by omega, none, 0, by rw [h0], fun h => by omega⟩
  · refine ⟨by unfold maxLen at h5; omega, some ⟨g, 0, none⟩, cap, rfl, fun _ => ⟨g, 0, rfl, fun i hi => ?_⟩⟩
    have := h.cellAt i (by omega)
    rw [Nat.zero_add, this]
    simp [hi]
theorem i24 : (Tryd.prog.info? 24).map (fun i => (i.zero, i.size, i.bytes)) = some (some (.int .u32 0), 1, 4) := by kernel_rfl

set_option maxRecDepth 100000 in
set_option maxHeartbeats 1600000 in
theorem numbers50_any (k : Int) (n : Nat) (s : ByteArray) (A : Option Addr) (c : Nat) (l : List It) (g m : Nat) (w : World) (hm : m = l.length) (hx : Holds w (.int .i64 k) (.int .u64 n) (.string s) (.slice A m c) (.mk k n s l)) (hg : g ≤ 4294967295) (hl : l.length ≤ 16384) :
    Calls Tryd.prog 50 #[.agg #[.int .i64 k, .int .u64 n, .string s, .slice A m c], .int .u64 g] w (NumsPost .u32 24 (numsR g (.mk k n s l)) w) := by
  have HM := Lib.hid hm
  rw [← hm] at hl
  have hA := hx.place hm
  have HA : Hid (0 < m → ∃ g o, A = some ⟨g, o, none⟩ ∧ ∀ i (h : i < l.length), ∃ v2 v3, w.cell? ⟨g, o + i * 4, none⟩ = some (.int .i64 l[i].kind) ∧ w.cell? ⟨g, o + i * 4 + 1, none⟩ = some (.int .u64 (l[i].n : Int)) ∧ w.cell? ⟨g, o + i * 4 + 2, none⟩ = some v2 ∧ w.cell? ⟨g, o + i * 4 + 3, none⟩ = some v3 ∧ (∃ s A m c, v2 = .string s ∧ v3 = .slice A m c) ∧ l[i].n < 18446744073709551616) := hA
  clear hA hx hm
  by_cases hk : k = 3
  · subst hk
    obtain ⟨i0, hi, hz0, hz1, hz2⟩ := info_parts i24
    obtain ⟨base, hbase⟩ : ∃ base, base = w.heap.size + 1 := ⟨_, rfl⟩
    have hr0 : (w.alloc (.cells #[.int .i64 3, .int .u64 n, .string s, .slice A m c] 57)).ownsRow base 24 1 (.slice none 0 0) 0 [] := World.ownsRow_nil _ _ _ _
    have HR0 := Lib.hid hr0
    have HBA := Lib.hid hbase
    clear hr0 hbase
    go_enter Tryd.func50, Tryd.ntmps50
    go_wp2_with fail
    go_loopw [6, 15] (fun v i wr => ∃ q : Nat, q ≤ m ∧ i = .int .i64 q ∧ Hid ((l.take q).all (numOk g) = true) ∧ Hid (wr.ownsRow base 24 1 v q ((l.take q).map fun y => .int .u32 (y.n : Int))) ∧ Hid (Below w.heap.size w wr) ∧ Hid (base ≤ wr.heap.size)) (fun _ i _ => m - (intOf i).toNat)
    case atStart => exact ⟨0, by omega, rfl, by show _ = _; simp, HR0.out, below_al _ _, by have := HBA.out; show _ ≤ _; simp; omega⟩
    case round =>
      obtain ⟨q, hq, rfl, HOK, HRW, HB, HBS⟩ := hrel
      obtain ⟨wo, rfl⟩ : ∃ wo : World, wo = wr := ⟨_, rfl⟩
      have hso := HB.out.size
      by_cases hlt : q < m
      · have hql : q < l.length := by have := HM.out; omega
        obtain ⟨gb, o, rfl, hc⟩ := HA.out (by omega)
        obtain ⟨v2, v3, d0, d1, d2, d3, ⟨ys, yA, ym, yc, rfl, rfl⟩, hyn⟩ := hc q hql
        have hne : wo.heap.size ≠ gb := by have := World.block_lt_of_cell? w _ d0; simp at this; omega
        replace d0 := (HB.out.cell (World.block_lt_of_cell? w _ d0)).trans d0
        replace d1 := (HB.out.cell (World.block_lt_of_cell? w _ d1)).trans d1
        replace d2 := (HB.out.cell (World.block_lt_of_cell? w _ d2)).trans d2
        replace d3 := (HB.out.cell (World.block_lt_of_cell? w _ d3)).trans d3
        obtain ⟨y, hy⟩ : ∃ y, y = l[q] := ⟨_, rfl⟩
        rw [← hy] at d0 d1 hyn
        obtain ⟨yk, hyk⟩ : ∃ yk, yk = y.kind := ⟨_, rfl⟩
        obtain ⟨yn, hynn⟩ : ∃ yn, yn = y.n := ⟨_, rfl⟩
        rw [← hyk] at d0
        rw [← hynn] at d1 hyn
        have HT : Hid (l.take (q + 1) = l.take q ++ [y]) := by show _ = _; rw [List.take_succ_eq_append_getElem hql, ← hy]
        have HBAD : Hid (numOk g y = false → numsR g (.mk 3 n s l) = none) := by
          intro h
          unfold numsR
          rw [if_neg]
          intro ⟨_, ha⟩
          rw [It.l, List.all_eq_true] at ha
          rw [ha y (by rw [hy]; exact List.getElem_mem hql)] at h
          cases h
        have HOY : Hid (numOk g y = decide (yk = 1 ∧ yn ≤ g)) := by show _ = _; unfold numOk; rw [hyk, hynn]
        have HYN := Lib.hid hynn
        clear hc hy hyk hynn
        by_cases hk1 : yk = 1
        · subst hk1
          by_cases hng : yn ≤ g
          · have hb : ¬ (g : Int) < (yn : Int) := by omega
            have hw : IntKind.u32.wrap (yn : Int) = (yn : Int) := by rw [IntKind.wrap_u32]; omega
            have HN1 := news1 (wo.alloc (.cells #[.int .i64 1, .int .u64 yn, .string ys, .slice yA ym yc] 57)) (.int .u32 yn) 24
            rw [show (wo.alloc (.cells #[.int .i64 1, .int .u64 yn, .string ys, .slice yA ym yc] 57)).heap.size = wo.heap.size + 1 from by simp] at HN1
            have HNEWS := Lib.hid HN1
            clear HN1
            go_wp2_with (at_builtin; refine wpList_append_lies _ rfl _ _ 42 rfl base 24 i0 (.int .u32 0) 1 4 t42 hi hz0 hz1 hz2 rfl (by decide) _ _ _ rfl ((HRW.out.alloc _).alloc _) ⟨wo.heap.size + 1, 0, none⟩ 1 1 [.int .u32 yn] rfl rfl HNEWS.out (by intro u hu; simp at hu; subst hu; rfl) (by omega) (by unfold maxLen; omega) (by omega) (by have := HBS.out; simp; omega) (wo.heap.size + 1 + 1) (by simp) ?_)
            intro g2 cap w2 hown hgrow hat hlt2
            have HOWN := Lib.hid hown
            have HB2 : Hid (Below w.heap.size w w2) := (((HB.out.alloc hso _).alloc (by simp; omega) _).grown hgrow (by simp; omega) (fun k hk => by have := HRW.out.lt _ hk; have := HBA.out; omega))
            have HBS2 : Hid (base ≤ w2.heap.size) := by have := hgrow.size; have := HBS.out; show _ ≤ _; simp at *; omega
            clear hown hgrow hat hlt2
            go_wp2_with fail
            go_roundw
            case rel =>
              refine ⟨q + 1, by omega, by go_num, ?_, ?_, HB2.out, HBS2.out⟩
              · show _ = _
                rw [HT.out, List.all_append, HOK.out]
                simp [HOY.out, hng]
              · have h1 := HOWN.out
                show World.ownsRow _ _ _ _ _ _ _
                rw [HT.out, List.map_append]
                simpa [HYN.out] using h1
            case measure => simp [intOf]; omega
          · have hb : (g : Int) < (yn : Int) := by omega
            have HR := Lib.hid (HBAD.out (by rw [HOY.out]; exact decide_eq_false fun h => hng h.2))
            go_wp2_with fail
            go_ret2
            refine ⟨HB.out.alloc hso _, ?_⟩
            rw [HR.out]; rfl
        · have hb : (yk != 1) = true := by simp [hk1]
          have HR := Lib.hid (HBAD.out (by rw [HOY.out]; exact decide_eq_false fun h => hk1 h.1))
          go_wp2_with fail
          go_ret2
          refine ⟨HB.out.alloc hso _, ?_⟩
          rw [HR.out]; rfl
      · obtain rfl : q = m := by omega
        have htk : l.take q = l := List.take_of_length_le (by have := HM.out; omega)
        rw [htk] at HOK HRW
        have HR : Hid (numsR g (.mk 3 n s l) = some (l.map It.n)) := by show _ = _; unfold numsR; rw [if_pos ⟨rfl, HOK.out⟩]; rfl
        go_wp2_with fail
        go_ret2
        refine ⟨HB.out, ?_⟩
        rw [HR.out]
        refine ⟨_, rfl, ?_⟩
        show World.ownsRow _ _ _ _ _ _ _
        have h1 := HRW.out
        refine ownsRow_mono (base := base) ?_ (by have := HBA.out; omega)
        have e : (toI (l.map It.n)).length = q := by simp [toI]; exact HM.out.symm
        have e2 : (toI (l.map It.n)).map (Value.int .u32) = l.map fun y => .int .u32 (y.n : Int) := by simp [toI]
        rw [e, e2]; exact h1
  · have hb : (k != 3) = true := by simp [hk]
    have HO : Hid (numsR g (.mk k n s l) = none) := by show _ = _; unfold numsR; rw [if_neg fun h => hk h.1]
    go_enter Tryd.func50, Tryd.ntmps50
    go_wp2_with fail
    go_ret2
    refine ⟨below_al _ _, ?_⟩
    rw [HO.out]; rfl
theorem i51 : (Tryd.prog.info? 51).map (fun i => (i.zero, i.size, i.bytes)) = some (some (.int .u64 0), 1, 8) := by kernel_rfl

set_option maxRecDepth 100000 in
set_option maxHeartbeats 1600000 in
theorem numbers51_any (k : Int) (n : Nat) (s : ByteArray) (A : Option Addr) (c : Nat) (l : List It) (g m : Nat) (w : World) (hm : m = l.length) (hx : Holds w (.int .i64 k) (.int .u64 n) (.string s) (.slice A m c) (.mk k n s l)) (hg : g ≤ 18446744073709551615) (hl : l.length ≤ 16384) :
    Calls Tryd.prog 51 #[.agg #[.int .i64 k, .int .u64 n, .string s, .slice A m c], .int .u64 g] w (NumsPost .u64 51 (numsR g (.mk k n s l)) w) := by
  have HM := Lib.hid hm
  rw [← hm] at hl
  have hA := hx.place hm
  have HA : Hid (0 < m → ∃ g o, A = some ⟨g, o, none⟩ ∧ ∀ i (h : i < l.length), ∃ v2 v3, w.cell? ⟨g, o + i * 4, none⟩ = some (.int .i64 l[i].kind) ∧ w.cell? ⟨g, o + i * 4 + 1, none⟩ = some (.int .u64 (l[i].n : Int)) ∧ w.cell? ⟨g, o + i * 4 + 2, none⟩ = some v2 ∧ w.cell? ⟨g, o + i * 4 + 3, none⟩ = some v3 ∧ (∃ s A m c, v2 = .string s ∧ v3 = .slice A m c) ∧ l[i].n < 18446744073709551616) := hA
  clear hA hx hm
  by_cases hk : k = 3
  · subst hk
    obtain ⟨i0, hi, hz0, hz1, hz2⟩ := info_parts i51
    obtain ⟨base, hbase⟩ : ∃ base, base = w.heap.size + 1 := ⟨_, rfl⟩
    have hr0 : (w.alloc (.cells #[.int .i64 3, .int .u64 n, .string s, .slice A m c] 57)).ownsRow base 51 1 (.slice none 0 0) 0 [] := World.ownsRow_nil _ _ _ _
    have HR0 := Lib.hid hr0
    have HBA := Lib.hid hbase
    clear hr0 hbase
    go_enter Tryd.func51, Tryd.ntmps51
    go_wp2_with fail
    go_loopw [6, 15] (fun v i wr => ∃ q : Nat, q ≤ m ∧ i = .int .i64 q ∧ Hid ((l.take q).all (numOk g) = true) ∧ Hid (wr.ownsRow base 51 1 v q ((l.take q).map fun y => .int .u64 (y.n : Int))) ∧ Hid (Below w.heap.size w wr) ∧ Hid (base ≤ wr.heap.size)) (fun _ i _ => m - (intOf i).toNat)
    case atStart => exact ⟨0, by omega, rfl, by show _ = _; simp, HR0.out, below_al _ _, by have := HBA.out; show _ ≤ _; simp; omega⟩
    case round =>
      obtain ⟨q, hq, rfl, HOK, HRW, HB, HBS⟩ := hrel
      obtain ⟨wo, rfl⟩ : ∃ wo : World, wo = wr := ⟨_, rfl⟩
      have hso := HB.out.size
      by_cases hlt : q < m
      · have hql : q < l.length := by have := HM.out; omega
        obtain ⟨gb, o, rfl, hc⟩ := HA.out (by omega)
        obtain ⟨v2, v3, d0, d1, d2, d3, ⟨ys, yA, ym, yc, rfl, rfl⟩, hyn⟩ := hc q hql
        have hne : wo.heap.size ≠ gb := by have := World.block_lt_of_cell? w _ d0; simp at this; omega
        replace d0 := (HB.out.cell (World.block_lt_of_cell? w _ d0)).trans d0
        replace d1 := (HB.out.cell (World.block_lt_of_cell? w _ d1)).trans d1
        replace d2 := (HB.out.cell (World.block_lt_of_cell? w _ d2)).trans d2
        replace d3 := (HB.out.cell (World.block_lt_of_cell? w _ d3)).trans d3
        obtain ⟨y, hy⟩ : ∃ y, y = l[q] := ⟨_, rfl⟩
        rw [← hy] at d0 d1 hyn
        obtain ⟨yk, hyk⟩ : ∃ yk, yk = y.kind := ⟨_, rfl⟩
        obtain ⟨yn, hynn⟩ : ∃ yn, yn = y.n := ⟨_, rfl⟩
        rw [← hyk] at d0
        rw [← hynn] at d1 hyn
        have HT : Hid (l.take (q + 1) = l.take q ++ [y]) := by show _ = _; rw [List.take_succ_eq_append_getElem hql, ← hy]
        have HBAD : Hid (numOk g y = false → numsR g (.mk 3 n s l) = none) := by
          intro h
          unfold numsR
          rw [if_neg]
          intro ⟨_, ha⟩
          rw [It.l, List.all_eq_true] at ha
          rw [ha y (by rw [hy]; exact List.getElem_mem hql)] at h
          cases h
        have HOY : Hid (numOk g y = decide (yk = 1 ∧ yn ≤ g)) := by show _ = _; unfold numOk; rw [hyk, hynn]
        have HYN := Lib.hid hynn
        clear hc hy hyk hynn
        by_cases hk1 : yk = 1
        · subst hk1
          by_cases hng : yn ≤ g
          · have hb : ¬ (g : Int) < (yn : Int) := by omega
            have hw : IntKind.u64.wrap (yn : Int) = (yn : Int) := by rw [IntKind.wrap_u64]; omega
            have HN1 := news1 (wo.alloc (.cells #[.int .i64 1, .int .u64 yn, .string ys, .slice yA ym yc] 57)) (.int .u64 yn) 51
            rw [show (wo.alloc (.cells #[.int .i64 1, .int .u64 yn, .string ys, .slice yA ym yc] 57)).heap.size = wo.heap.size + 1 from by simp] at HN1
            have HNEWS := Lib.hid HN1
            clear HN1
            go_wp2_with (at_builtin; refine wpList_append_lies _ rfl _ _ 44 rfl base 51 i0 (.int .u64 0) 1 8 t44 hi hz0 hz1 hz2 rfl (by decide) _ _ _ rfl ((HRW.out.alloc _).alloc _) ⟨wo.heap.size + 1, 0, none⟩ 1 1 [.int .u64 yn] rfl rfl HNEWS.out (by intro u hu; simp at hu; subst hu; rfl) (by omega) (by unfold maxLen; omega) (by omega) (by have := HBS.out; simp; omega) (wo.heap.size + 1 + 1) (by simp) ?_)
            intro g2 cap w2 hown hgrow hat hlt2
            have HOWN := Lib.hid hown
            have HB2 : Hid (Below w.heap.size w w2) := (((HB.out.alloc hso _).alloc (by simp; omega) _).grown hgrow (by simp; omega) (fun k hk => by have := HRW.out.lt _ hk; have := HBA.out; omega))
            have HBS2 : Hid (base ≤ w2.heap.size) := by have := hgrow.size; have := HBS.out; show _ ≤ _; simp at *; omega
            clear hown hgrow hat hlt2
            go_wp2_with fail
            go_roundw
            case rel =>
              refine ⟨q + 1, by omega, by go_num, ?_, ?_, HB2.out, HBS2.out⟩
              · show _ = _
                rw [HT.out, List.all_append, HOK.out]
                simp [HOY.out, hng]
              · have h1 := HOWN.out
                show World.ownsRow _ _ _ _ _ _ _
                rw [HT.out, List.map_append]
                simpa [HYN.out] using h1
            case measure => simp [intOf]; omega
          · have hb : (g : Int) < (yn : Int) := by omega
            have HR := Lib.hid (HBAD.out (by rw [HOY.out]; exact decide_eq_false fun h => hng h.2))
            go_wp2_with fail
            go_ret2
            refine ⟨HB.out.alloc hso _, ?_⟩
            rw [HR.out]; rfl
        · have hb : (yk != 1) = true := by simp [hk1]
          have HR := Lib.hid (HBAD.out (by rw [HOY.out]; exact decide_eq_false fun h => hk1 h.1))
          go_wp2_with fail
          go_ret2
          refine ⟨HB.out.alloc hso _, ?_⟩
          rw [HR.out]; rfl
      · obtain rfl : q = m := by omega
        have htk : l.take q = l := List.take_of_length_le (by have := HM.out; omega)
        rw [htk] at HOK HRW
        have HR : Hid (numsR g (.mk 3 n s l) = some (l.map It.n)) := by show _ = _; unfold numsR; rw [if_pos ⟨rfl, HOK.out⟩]; rfl
        go_wp2_with fail
        go_ret2
        refine ⟨HB.out, ?_⟩
        rw [HR.out]
        refine ⟨_, rfl, ?_⟩
        show World.ownsRow _ _ _ _ _ _ _
        have h1 := HRW.out
        refine ownsRow_mono (base := base) ?_ (by have := HBA.out; omega)
        have e : (toI (l.map It.n)).length = q := by simp [toI]; exact HM.out.symm
        have e2 : (toI (l.map It.n)).map (Value.int .u64) = l.map fun y => .int .u64 (y.n : Int) := by simp [toI]
        rw [e, e2]; exact h1
  · have hb : (k != 3) = true := by simp [hk]
    have HO : Hid (numsR g (.mk k n s l) = none) := by show _ = _; unfold numsR; rw [if_neg fun h => hk h.1]
    go_enter Tryd.func51, Tryd.ntmps51
    go_wp2_with fail
    go_ret2
    refine ⟨below_al _ _, ?_⟩
    rw [HO.out]; rfl

end Go.Proofs.YtakdfjkkeilffaaDoor
