/- Plain facts on leases and schedules. -/
import Derived.Test.YthfghlenabionaaI
import Derived.Laws.AppendOwnNone
set_option linter.unusedVariables false
set_option linter.unusedSimpArgs false
namespace Go.Proofs.Ythfghlenabionaa
open Go.RowKit
variable {w w' : World} {B sb n : Nat} {ps : Nat → Nat} {nds : Nat → List Nat} {wk ls ms now : Int} {st : Nat → JobS}

theorem cells3_at (l : List (Int × Int × Int)) : ∀ (t : Nat) (x : Int × Int × Int), l[t]? = some x → (cells3 l)[t * 3]? = some (.int .i64 x.1) ∧ (cells3 l)[t * 3 + 1]? = some (.int .i64 x.2.1) ∧ (cells3 l)[t * 3 + 2]? = some (.int .i64 x.2.2) := by
  induction l with
  | nil => intro t x h; simp at h
  | cons y r ih =>
    intro t x h
    cases t with
    | zero => simp at h; subst h; simp [cells3]
    | succ t =>
      have := ih t x (by simpa using h)
      have e : cells3 (y :: r) = [.int .i64 y.1, .int .i64 y.2.1, .int .i64 y.2.2] ++ cells3 r := by simp [cells3]
      rw [e]
      have h1 : (t + 1) * 3 = t * 3 + 3 := by omega
      rw [h1]
      simp only [List.cons_append, List.nil_append, List.getElem?_cons_succ, show t * 3 + 3 + 1 = t * 3 + 1 + 3 from by omega, show t * 3 + 3 + 2 = t * 3 + 2 + 3 from by omega]
      exact this

theorem out_mem {x : Int × Int × Int} {k : Nat} (h : x ∈ outK st nds wk ls ms now k) : ∃ j, j < k ∧ openJ st nds now j = true ∧ x = leaseOf st wk ls ms now j := by
  obtain ⟨j, hj, rfl⟩ := List.mem_map.1 h
  obtain ⟨h1, h2⟩ := List.mem_filter.1 hj
  exact ⟨j, List.mem_range.1 h1, h2, rfl⟩
theorem run_mem {x : Int × Int × Int} {k : Nat} {t : Int} (h : x ∈ runK st t k) : ∃ j, j < k ∧ runJ st t j = true ∧ x = held st j := by
  obtain ⟨j, hj, rfl⟩ := List.mem_map.1 h
  obtain ⟨h1, h2⟩ := List.mem_filter.1 hj
  exact ⟨j, List.mem_range.1 h1, h2, rfl⟩

theorem open_done {j : Nat} (h : openJ st nds now j = true) : (st j).done = false ∧ ∀ k ∈ nds j, (st k).done = true := by
  unfold openJ openB waitB at h
  simp only [Bool.and_eq_true, Bool.not_eq_true'] at h
  refine ⟨h.1, fun k hk => ?_⟩
  have := h.2.2
  rw [List.any_eq_false] at this
  simpa using this k hk
theorem run_done {j : Nat} {t : Int} (h : runJ st t j = true) : (st j).done = false ∧ 0 < (st j).tries ∧ t ≤ (st j).u := by
  unfold runJ runsB at h
  simp at h
  omega

/-- each job that was dealt out bears its own number -/
def OwnN (st : Nat → JobS) (n : Nat) : Prop := ∀ j, j < n → 0 < (st j).tries → (st j).a = j
theorem own_st0 (n : Nat) : OwnN st0 n := fun j _ h => by simp [st0] at h
theorem own_stK (h : OwnN st n) (k : Nat) : OwnN (stK st nds wk ls ms now k) n := by
  intro j hj ht
  unfold stK at ht ⊢
  split
  · rfl
  · rename_i hn
    rw [if_neg hn] at ht
    exact h j hj ht
theorem own_doneAt (h : OwnN st n) (i : Nat) : OwnN (doneAt st i) n := by
  intro j hj ht
  unfold doneAt at ht ⊢
  split
  · rename_i e; subst e; rw [if_pos rfl] at ht; exact h j hj ht
  · rename_i e; rw [if_neg e] at ht; exact h j hj ht

theorem tries_stK (k : Nat) (i : Nat) : (stK st nds wk ls ms now k i).tries ≤ (st i).tries + 1 := by
  unfold stK; split <;> simp [dealt]
theorem tries_doneAt (i j : Nat) : (doneAt st i j).tries = (st j).tries := by
  unfold doneAt; split
  · rename_i e; subst e; rfl
  · rfl
theorem done_doneAt (i j : Nat) : (doneAt st i j).done = if j = i then true else (st j).done := by
  unfold doneAt; split <;> rfl

/-- How many are left behind one more that is done. -/
theorem left_doneAt (i k : Nat) : (leftK (doneAt st i) k).length + (if i < k ∧ (st i).done = false then 1 else 0) = (leftK st k).length := by
  induction k with
  | zero => simp [leftK]
  | succ k ih =>
    rw [leftK_succ, leftK_succ, List.length_append, List.length_append, done_doneAt]
    by_cases hki : k = i
    · subst hki
      have h1 : ¬ (k < k ∧ (st k).done = false) := by omega
      rw [if_neg h1] at ih
      cases hd : (st k).done <;> simp <;> omega
    · rw [if_neg hki]
      have e : (i < k + 1 ∧ (st i).done = false) ↔ (i < k ∧ (st i).done = false) := by constructor <;> (rintro ⟨h1, h2⟩; exact ⟨by omega, h2⟩)
      simp only [e]
      omega
theorem left_stK (k m : Nat) : leftK (stK st nds wk ls ms now k) m = leftK st m := by
  unfold leftK; simp [stK_done]
theorem left_st0 (k : Nat) : (leftK st0 k).length = k := by
  induction k with
  | zero => rfl
  | succ k ih => rw [leftK_succ, List.length_append, ih]; simp [st0]

theorem leaseU_ge {j : JobS} (h1 : 1 ≤ ls) (h2 : ls ≤ ms) : now + 1 ≤ leaseU ls ms now j ∧ leaseU ls ms now j ≤ now + ms := by
  have := longV_bd ls ms j.tries h1 h2
  unfold leaseU; omega
theorem leaseW_bd {i : Nat} {j : JobS} (h1 : 1 ≤ wk) : 0 ≤ leaseW wk i j ∧ leaseW wk i j < wk := by
  unfold leaseW
  exact ⟨Int.emod_nonneg _ (by omega), Int.emod_lt_of_pos _ (by omega)⟩

/-- the row of what is done -/
def bools (st : Nat → JobS) (n : Nat) : List Value := (List.range n).map fun j => .bool (st j).done
theorem bools_at (j : Nat) (h : j < n) : (bools st n)[j]? = some (.bool (st j).done) := by simp [bools, h]
theorem bools_set (i : Nat) (h : i < n) : (bools st n).set i (.bool true) = bools (doneAt st i) n := by
  apply List.ext_getElem?
  intro j
  by_cases hj : j < n
  · rw [bools_at j hj, done_doneAt, List.getElem?_set]
    by_cases hji : i = j
    · subst hji; simp [bools, hj]
    · have : ¬ j = i := fun e => hji e.symm
      rw [if_neg hji, if_neg this, bools_at j hj]
  · rw [List.getElem?_eq_none (by simp [bools]; omega), List.getElem?_eq_none (by simp [bools]; omega)]
theorem bools_stK (k : Nat) : bools (stK st nds wk ls ms now k) n = bools st n := by simp [bools, stK_done]

theorem valid_bds {nd : Nat → List Int} (h : Valid n nd wk ls ms) (h0 : 0 ≤ now) (h1 : now ≤ 1073741824) : Bds n (ndsOf nd) wk ls ms now := by
  refine ⟨h.many, h.w1, h.w2, h.l1, h.l2, h.l3, h0, h1, fun i hi k hk => ?_⟩
  obtain ⟨x, hx, rfl⟩ := List.mem_map.1 hk
  have := h.needs i hi x hx
  omega

theorem Try.info4 : (Try.prog.info? 4).map (fun i => (i.zero, i.size, i.bytes)) = some (some (.bool false), 1, 1) := by kernel_rfl

/-- a row of one cell an element, of whatever length -/
theorem row1_at {b e m : Nat} {v : Value} {xs : List Value} (h : w.ownsRow b e 1 v m xs) : ∃ A c, v = .slice A m c ∧ m ≤ 9223372036854775807 ∧ ∀ k x, xs[k]? = some x → ∃ g, A = some ⟨g, 0, none⟩ ∧ w.cell? ⟨g, k, none⟩ = some x := by
  rcases Nat.eq_zero_or_pos m with h0 | h0
  · subst h0
    have hl := h.1
    rcases h.2 with ⟨rfl, _⟩ | ⟨g, c, cur, rfl, _⟩ <;> refine ⟨_, _, rfl, by omega, fun k x hk => ?_⟩ <;> simp at hl <;> subst hl <;> simp at hk
  · obtain ⟨g, c, rfl, hm, hc⟩ := row_at h h0
    exact ⟨_, _, rfl, hm, fun k x hk => ⟨g, rfl, hc k x hk⟩⟩
theorem row3_any {b e m : Nat} {v : Value} {xs : List Value} (h : w.ownsRow b e 3 v m xs) : ∃ A c, v = .slice A m c ∧ m ≤ 9223372036854775807 := by
  rcases Nat.eq_zero_or_pos m with h0 | h0
  · subst h0
    rcases h.2 with ⟨rfl, _⟩ | ⟨g, c, cur, rfl, _⟩ <;> exact ⟨_, _, rfl, by omega⟩
  · obtain ⟨g, c, rfl, hm, _⟩ := row3_at h h0
    exact ⟨_, _, rfl, hm⟩

theorem Rep.grown0 {b e s m : Nat} {v : Value} {xs : List Value} (h : Rep w B sb n ps nds wk ls ms now st) (hv : w.ownsRow b e s v m xs) (he : e ≠ 51 ∧ e ≠ 52 ∧ e ≠ 54) (hg : w.grownBy w' v.ownBlock) :
    Rep w' B sb n ps nds wk ls ms now st := by
  refine h.keep fun k c e' fz hh he' => ?_
  refine hg.block k (lt_of_block hh) fun e2 => ?_
  rcases hv.2 with ⟨rfl, _⟩ | ⟨g, cap, cur, rfl, _, hgg, _⟩
  · simp [Value.ownBlock] at e2
  · simp [Value.ownBlock] at e2
    subst e2
    rw [hgg] at hh
    simp at hh
    obtain ⟨_, rfl, _⟩ := hh
    rcases he' with h1 | h1 | h1
    · exact he.1 h1
    · exact he.2.1 h1
    · exact he.2.2 h1
theorem Fr.grown0 {B b e s m : Nat} {w w1 w2 : World} {v : Value} {xs : List Value} (h : Fr B w w1) (hB : B ≤ w.heap.size) (hv : w1.ownsRow b e s v m xs) (hb : w.heap.size ≤ b) (hg : w1.grownBy w2 v.ownBlock) : Fr B w w2 := by
  have hsz := h.size
  have hk : ∀ k, k < w.heap.size → w2.heap[k]? = w1.heap[k]? := fun k hk => hg.block k (by omega) fun e2 => by
    have := (hv.lt k e2.symm).1
    omega
  refine ⟨⟨hg.os.trans h.below.os, hg.tape.trans h.below.tape, hg.output.trans h.below.output, ?_, fun k hkB => by rw [hk k (by omega)]; exact h.below.block k hkB⟩, fun k c e fz hh h1 h2 => by rw [hk k (lt_of_block hh)]; exact h.keep k c e fz hh h1 h2⟩
  have := hg.size
  omega

/-- append of a row to a row -/
theorem wpList_append_rows {P : Program} (w : World) {ops : Array Oper} {rest : List Oper} {o : Oper} {a : Act} {Q : Exit → Act → World → Prop} (hgd : o.guard = none) (s x : Operand) (t : TypeId)
    (ho : o.op = .call { callee := .builtin .append, args := #[s, x], argTypes := #[t, t] })
    (base base2 : Nat) (e : TypeId) (i : TypeInfo) (z : Value) (size bytes : Nat) (ht : P.underlying t = some (.slice e)) (hi : P.info? e = some i) (hz : i.zero = some z)
    (hsize : i.size = size) (hby : i.bytes = bytes) (hzs : z.cells.size = size) (hsz : 0 < size)
    (v v2 : Value) (n m : Nat) (xs ys : List Value) (hs : a.eval s = v) (hx : a.eval x = v2) (hown : w.ownsRow base e size v n xs) (hown2 : w.ownsRow base2 e size v2 m ys) (h1 : ∀ u ∈ ys, u.oneCell' = true)
    (h63 : n + m ≤ maxLen) (hbytes : (n + m) * bytes ≤ 140737488355328) (hbase : base ≤ w.heap.size)
    (h : ∀ v' w', w'.ownsRow base e size v' (n + m) (xs ++ ys) → w.grownBy w' v.ownBlock → wpList P ops Q rest (a.put o.dst v') w') : wpList P ops Q (o :: rest) a w := by
  rcases hown2.2 with ⟨rfl, rfl⟩ | ⟨g, cap, cur, rfl, _⟩
  · have hy : ys = [] := List.eq_nil_of_length_eq_zero (by simpa using hown2.1)
    subst hy
    exact wpList_append_own_none hgd s x t ho base e i size ht hi v n xs hs hown hx (h v w (by simpa using hown) ⟨rfl, rfl, rfl, Nat.le_refl _, fun _ _ _ => rfl⟩)
  · refine wpList_append_own w hgd s x t ho base e i z size bytes ht hi hz hsize hby hzs hsz v n xs hs hown ⟨g, 0, none⟩ m cap ys hx hown2.1 (hown2.cells rfl) h1 h63 hbytes hbase fun v' w' h2 h3 _ => h v' w' h2 h3

theorem cells3_one (l : List (Int × Int × Int)) : ∀ u ∈ cells3 l, u.oneCell' = true := by
  intro u hu
  obtain ⟨x, _, hx⟩ := List.mem_flatMap.1 hu
  simp at hx
  rcases hx with rfl | rfl | rfl <;> rfl

end Go.Proofs.Ythfghlenabionaa
