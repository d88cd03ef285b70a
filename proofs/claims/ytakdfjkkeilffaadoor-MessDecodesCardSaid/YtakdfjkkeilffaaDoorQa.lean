/- Matrices out of an item: what lies in memory. -/
import Derived.Test.YtakdfjkkeilffaaDoorPb
import Derived.Test.YtakdfjkkeilffaaDoorNc
set_option linter.unusedVariables false
set_option linter.unusedSimpArgs false
namespace Go.Proofs.YtakdfjkkeilffaaDoor
open Go.RowKit

theorem ownsRow_keep {w w' : World} {base : Nat} {e : TypeId} {size : Nat} {v : Value} {n : Nat} {xs : List Value} (h : w.ownsRow base e size v n xs) (hk : ∀ g, base ≤ g → g < w.heap.size → w'.heap[g]? = w.heap[g]?) : w'.ownsRow base e size v n xs := by
  rcases h.2 with ⟨e1, h0⟩ | ⟨g, cap, cur, e1, h2, h3, h4⟩
  · exact ⟨h.1, .inl ⟨e1, h0⟩⟩
  · exact ⟨h.1, .inr ⟨g, cap, cur, e1, h2, by rw [hk g h2 (lt_of_block h3)]; exact h3, h4⟩⟩
theorem rows_ne {W : World} {b b' e e' s s' n n' : Nat} {v v' : Value} {xs xs' : List Value} (h : W.ownsRow b e s v n xs) (h' : W.ownsRow b' e' s' v' n' xs') (hne : e ≠ e') : v.ownBlock = none ∨ v.ownBlock ≠ v'.ownBlock := by
  rcases h.2 with ⟨rfl, _⟩ | ⟨g, cap, cur, rfl, _, h3, _⟩
  · exact .inl rfl
  · right
    rcases h'.2 with ⟨rfl, _⟩ | ⟨g', cap', cur', rfl, _, h3', _⟩
    · simp [Value.ownBlock]
    · simp only [Value.ownBlock]
      intro e2
      obtain rfl := Option.some.inj e2
      rw [h3] at h3'
      simp at h3'
      exact hne h3'.2

/-- matrices in the making -/
structure MRow (base : Nat) (W : World) (V : Value) (ms : List Mat) (vs : List Value) : Prop where
  row : W.ownsRow base 80 4 V ms.length vs
  parts : ∀ i (h : i < ms.length), at4 vs (i * 4) = .int .i64 ms[i].lv ∧ at4 vs (i * 4 + 1) = .int .i64 ms[i].ce ∧ at4 vs (i * 4 + 2) = .int .i64 ms[i].ep ∧ W.ownsRow base 51 1 (at4 vs (i * 4 + 3)) (toI ms[i].d).length ((toI ms[i].d).map (Value.int .u64))
theorem MRow.nil (base : Nat) (W : World) : MRow base W (.slice none 0 0) [] [] := ⟨World.ownsRow_nil _ _ _ _, fun i h => by simp at h⟩
theorem MRow.keep {base : Nat} {W W' : World} {V : Value} {ms : List Mat} {vs : List Value} (h : MRow base W V ms vs) (hk : ∀ g, base ≤ g → g < W.heap.size → W'.heap[g]? = W.heap[g]?) : MRow base W' V ms vs :=
  ⟨ownsRow_keep h.row hk, fun i hi => ⟨(h.parts i hi).1, (h.parts i hi).2.1, (h.parts i hi).2.2.1, ownsRow_keep (h.parts i hi).2.2.2 hk⟩⟩
theorem MRow.later {base : Nat} {W W' : World} {V : Value} {ms : List Mat} {vs : List Value} (h : MRow base W V ms vs) (hb : Below W.heap.size W W') : MRow base W' V ms vs :=
  h.keep fun g _ hg => hb.block g hg
theorem MRow.mono {b2 base : Nat} {W : World} {V : Value} {ms : List Mat} {vs : List Value} (h : MRow base W V ms vs) (hb : b2 ≤ base) : MRow b2 W V ms vs :=
  ⟨ownsRow_mono h.row hb, fun i hi => ⟨(h.parts i hi).1, (h.parts i hi).2.1, (h.parts i hi).2.2.1, ownsRow_mono (h.parts i hi).2.2.2 hb⟩⟩
theorem MRow.next {base : Nat} {W w2 : World} {V V' D : Value} {ms : List Mat} {vs : List Value} {m : Mat} (h : MRow base W V ms vs)
    (hD : W.ownsRow base 51 1 D (toI m.d).length ((toI m.d).map (Value.int .u64)))
    (hown : w2.ownsRow base 80 4 V' (ms.length + 1) (vs ++ [.int .i64 m.lv, .int .i64 m.ce, .int .i64 m.ep, D])) (hgr : W.grownBy w2 V.ownBlock) :
    MRow base w2 V' (ms ++ [m]) (vs ++ [.int .i64 m.lv, .int .i64 m.ce, .int .i64 m.ep, D]) := by
  have hvl : vs.length = ms.length * 4 := h.row.1
  refine ⟨by simpa using hown, fun i hi => ?_⟩
  have hi2 : i < ms.length + 1 := by simpa using hi
  by_cases hil : i < ms.length
  · rw [List.getElem_append_left hil, at4_left _ _ _ (by omega), at4_left _ _ _ (by omega), at4_left _ _ _ (by omega), at4_left _ _ _ (by omega)]
    obtain ⟨p0, p1, p2, p3⟩ := h.parts i hil
    exact ⟨p0, p1, p2, p3.kept hgr (rows_ne p3 h.row (by decide))⟩
  · obtain rfl : i = ms.length := by omega
    have hxx : (ms ++ [m])[ms.length] = m := by simp
    rw [hxx, ← hvl]
    rw [show at4 (vs ++ [Value.int .i64 m.lv, .int .i64 m.ce, .int .i64 m.ep, D]) vs.length = at4 (vs ++ [Value.int .i64 m.lv, .int .i64 m.ce, .int .i64 m.ep, D]) (vs.length + 0) from rfl, at4_right, at4_right, at4_right, at4_right]
    exact ⟨rfl, rfl, rfl, hD.kept hgr (rows_ne hD h.row (by decide))⟩
theorem MRow.mats {base : Nat} {W : World} {V : Value} {ms : List Mat} {vs : List Value} (h : MRow base W V ms vs) (hn : ms.length ≤ 16384) (hm : ∀ m ∈ ms, okMat m = true ∧ ∀ n ∈ m.d, n < 18446744073709551616) : Mats W V ms := by
  have hvl : vs.length = ms.length * 4 := h.row.1
  refine ⟨by omega, fun y hy => ⟨?_, (hm y hy).2⟩, ?_⟩
  · have := (hm y hy).1
    unfold okMat tick at this
    simp at this
    unfold inI
    omega
  · rcases h.row.2 with ⟨rfl, h0⟩ | ⟨g, cap, cur, rfl, h2, h3, h4, h5, _⟩
    · exact ⟨none, 0, by rw [h0], fun i => at4 vs (i * 4 + 3), fun h => by omega, fun i hi => Nums.of_row (h.parts i hi).2.2.2⟩
    · refine ⟨some ⟨g, 0, none⟩, cap, rfl, fun i => at4 vs (i * 4 + 3), fun _ => ⟨g, 0, rfl, fun i hi => ?_⟩, fun i hi => Nums.of_row (h.parts i hi).2.2.2⟩
      have hc : ∀ j, j < ms.length * 4 → W.cell? ⟨g, 0 + j, none⟩ = some (at4 vs j) := by
        intro j hj
        rw [Nat.zero_add, h.row.cellAt j hj]
        unfold at4
        rw [List.getD_eq_getElem?_getD, List.getElem?_eq_getElem (by omega)]
        rfl
      obtain ⟨p0, p1, p2, p3⟩ := h.parts i hi
      rw [← p0, ← p1, ← p2]
      exact ⟨hc _ (by omega), by rw [Nat.add_assoc]; exact hc _ (by omega), by rw [Nat.add_assoc]; exact hc _ (by omega), by rw [Nat.add_assoc]; exact hc _ (by omega)⟩

/-- an item's member -/
theorem Holds.part {w : World} {k : Int} {n : Nat} {s : ByteArray} {A : Option Addr} {m c : Nat} {l : List It} (h : Holds w (.int .i64 k) (.int .u64 n) (.string s) (.slice A m c) (.mk k n s l)) (i : Nat) (hi : i < l.length) :
    ∃ g o, A = some ⟨g, o, none⟩ ∧ ∃ (k' : Int) (n' : Nat) (s' : ByteArray) (A' : Option Addr) (c' : Nat) (l' : List It), l[i] = .mk k' n' s' l' ∧ n' < 18446744073709551616 ∧
      w.cell? ⟨g, o + i * 4, none⟩ = some (.int .i64 k') ∧ w.cell? ⟨g, o + i * 4 + 1, none⟩ = some (.int .u64 (n' : Int)) ∧ w.cell? ⟨g, o + i * 4 + 2, none⟩ = some (.string s') ∧ w.cell? ⟨g, o + i * 4 + 3, none⟩ = some (.slice A' l'.length c') ∧
      Holds w (.int .i64 k') (.int .u64 n') (.string s') (.slice A' l'.length c') (.mk k' n' s' l') := by
  cases h with
  | mk _ _ _ _ _ _ F hn hs hm2 hA hl =>
    obtain ⟨g, o, e, hc⟩ := hA (by omega)
    have hli := hl i hi
    obtain ⟨c0, c1, c2, c3⟩ := hc i hi
    generalize F i = f at hli c0 c1 c2 c3
    generalize l[i] = y at hli
    obtain ⟨f0, f1, f2, f3⟩ := f
    cases hli with
    | mk k' n' s' A' c' l' F' hn' hs' hm' hA' hl' => exact ⟨g, o, e, k', n', s', A', c', l', rfl, hn', c0, c1, c2, c3, .mk k' n' s' A' c' l' F' hn' hs' hm' hA' hl'⟩
theorem look_part {f : Nat} {x : It} (h : look (f + 1) x = 0) : x.l.length ≤ 16384 ∧ ∀ y ∈ x.l, look f y = 0 := by
  obtain ⟨k, n, s, l⟩ := x
  obtain ⟨h1, _, h3⟩ := look_zero h
  exact ⟨h1, h3⟩

/-- in a round: the item's own copy, the matrix -/
structure MMid (wo W : World) (yv mv : Array Value) : Prop where
  below : Below wo.heap.size wo W
  yb : W.heap[wo.heap.size]? = some (.cells yv 57 (0, 0))
  mb : W.heap[wo.heap.size + 1]? = some (.cells mv 80 (0, 0))
theorem MMid.first (wo : World) (yv mv : Array Value) : MMid wo ((wo.alloc (.cells yv 57)).alloc (.cells mv 80)) yv mv := by
  have e : (wo.alloc (.cells yv 57)).heap.size = wo.heap.size + 1 := by simp
  refine ⟨al2' _ _ _, ?_, ?_⟩
  · rw [Below.heap_alloc _ _ _ (by simp)]; exact heap_alloc_new _ _
  · rw [← e]; exact heap_alloc_new _ _
theorem MMid.far {wo W W2 : World} {yv mv : Array Value} (h : MMid wo W yv mv) (hb : Below W.heap.size W W2) : MMid wo W2 yv mv := by
  have h1 := lt_of_block h.mb
  exact ⟨h.below.trans (hb.mono h.below.size), (hb.block _ (by omega)).trans h.yb, (hb.block _ h1).trans h.mb⟩
theorem MMid.whole {wo W w1 : World} {yv mv : Array Value} {e : Ending} {g j : Nat} {x : It} {bx : Obj} (h : MMid wo W yv mv) (hp : WholePost g x (wo.heap.size + 1) j bx W e w1) :
    (numOk g x = false → MMid wo w1 yv mv) ∧ (numOk g x = true → ∀ mv', (W.setCell ⟨wo.heap.size + 1, j, none⟩ (.int .i64 (x.n : Int))).heap[wo.heap.size + 1]? = some (.cells mv' 80 (0, 0)) → MMid wo w1 yv mv') := by
  have h1 := lt_of_block h.mb
  refine ⟨fun hf => ?_, fun ht mv' hmv => ?_⟩
  · rw [hp.2, hf, if_neg (by decide)]
    exact h.far (below_al _ _)
  · rw [hp.2, ht, if_pos rfl]
    have hset : MMid wo (W.setCell ⟨wo.heap.size + 1, j, none⟩ (.int .i64 (x.n : Int))) yv mv' :=
      ⟨h.below.setCell (by simp) _, by rw [Below.heap_setCell _ _ _ _ (by simp)]; exact h.yb, hmv⟩
    exact hset.far (below_al _ _)
theorem MMid.cells {wo W : World} {yv mv : Array Value} (h : MMid wo W yv mv) (j : Nat) : W.cell? ⟨wo.heap.size, j, none⟩ = yv[j]? ∧ W.cell? ⟨wo.heap.size + 1, j, none⟩ = mv[j]? ∧ W.frozen? ⟨wo.heap.size + 1, j, none⟩ = false := by
  refine ⟨cell_of_row _ _ _ _ _ _ h.yb, cell_of_row _ _ _ _ _ _ h.mb, ?_⟩
  simp only [World.frozen?, h.mb]; rfl

/-- what matrices read as -/
def MatsPost (r : Option (List Mat)) (w : World) (e : Ending) (w' : World) : Prop :=
  Below w.heap.size w w' ∧ match r with
  | none => e = .returned (.tuple #[.slice none 0 0, .bool false])
  | some ms => ∃ v vs, e = .returned (.tuple #[v, .bool true]) ∧ MRow w.heap.size w' v ms vs

theorem matsL_snoc {a : List It} {y : It} {ms : List Mat} {m : Mat} (h : matsL a = some ms) (hy : matR y = some m) : matsL (a ++ [y]) = some (ms ++ [m]) := by
  induction a generalizing ms with
  | nil => simp [matsL] at h; subst h; simp [matsL, hy]
  | cons z r ih =>
    simp only [matsL] at h
    split at h
    · cases h
    · rename_i m1 h1
      split at h
      · cases h
      · rename_i l1 h2
        simp only [Option.some.injEq] at h
        subst h
        simp only [List.cons_append, matsL, h1, ih h2]
theorem matsL_bad {a r : List It} {y : It} (hy : matR y = none) : matsL (a ++ y :: r) = none := by
  induction a with
  | nil => simp [matsL, hy]
  | cons z q ih =>
    simp only [List.cons_append, matsL, ih]
    cases matR z <;> rfl
theorem matR_four {yn : Nat} {ys : ByteArray} {a b c d : It} : matR (.mk 3 yn ys [a, b, c, d]) = if numOk 1073741824 a = true ∧ numOk 1073741824 b = true ∧ numOk 1073741824 c = true then (match numsR 18446744073709551615 d with | some ds => some ⟨a.n, b.n, c.n, ds⟩ | none => none) else none := by
  simp only [matR, true_and]
  rfl
theorem matR_kind {yk : Int} {yn : Nat} {ys : ByteArray} {l : List It} (h : yk ≠ 3) : matR (.mk yk yn ys l) = none := by
  unfold matR
  split
  · rename_i he
    rw [if_neg]
    intro hc
    injection he with h1
    exact h (h1.trans hc.1)
  · rfl
theorem matR_len {yk : Int} {yn : Nat} {ys : ByteArray} {l : List It} (h : l.length ≠ 4) : matR (.mk yk yn ys l) = none := by
  unfold matR
  split
  · rename_i he
    injection he with h1 h2 h3 h4
    rw [h4] at h
    simp at h
  · rfl
theorem t43 : Tryd.prog.underlying 43 = some (.slice 80) := by kernel_rfl
theorem i80 : (Tryd.prog.info? 80).map (fun i => (i.zero, i.size, i.bytes)) = some (some (.agg #[.int .i64 0, .int .i64 0, .int .i64 0, .slice none 0 0]), 4, 48) := by kernel_rfl

end Go.Proofs.YtakdfjkkeilffaaDoor
