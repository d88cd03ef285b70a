/- An item is written. -/
import Derived.Test.YtakdfjkkeilffaaDoorC
import Derived.Test.YtakdfjkkeilffaaDoorD
import Derived.StillTailTactics
import Derived.Deep.RegionLaw
import Derived.Deep.Cut
import Derived.Deep.CutRange
set_option linter.unusedVariables false
set_option linter.unusedSimpArgs false
namespace Go.Proofs.YtakdfjkkeilffaaDoor
open Go.RowKit

def nbytes (s : ByteArray) : List Nat := s.data.toList.map UInt8.toNat

/-- an item's bytes -/
def enc : Nat → It → List Nat
  | 0, _ => []
  | f + 1, .mk k n s l => if k = 1 then 1 :: gb n else if k = 2 then 2 :: (gb s.size ++ nbytes s) else 3 :: (gb l.length ++ (l.map (enc f)).flatten)

/-- no text within is long -/
def short : Nat → It → Prop
  | 0, _ => True
  | f + 1, .mk _ _ s l => s.size ≤ 262144 ∧ ∀ y ∈ l, short f y

/-- what a writer leaves alone -/
structure Keep (base wb : Nat) (w w' : World) : Prop where
  os : w'.os = w.os
  tape : w'.tape = w.tape
  output : w'.output = w.output
  size : w.heap.size ≤ w'.heap.size
  block : ∀ k, k < w.heap.size → k ≠ wb → (k < base ∨ ∃ c fz, w.heap[k]? = some (.cells c 57 fz)) → w'.heap[k]? = w.heap[k]?

theorem Keep.refl (base wb : Nat) (w : World) : Keep base wb w w := ⟨rfl, rfl, rfl, Nat.le_refl _, fun _ _ _ _ => rfl⟩
theorem Keep.trans {base wb : Nat} {a b c : World} (h : Keep base wb a b) (k : Keep base wb b c) : Keep base wb a c := by
  refine ⟨k.os.trans h.os, k.tape.trans h.tape, k.output.trans h.output, Nat.le_trans h.size k.size, fun i hi hne ho => ?_⟩
  have e := h.block i hi hne ho
  rw [k.block i (Nat.lt_of_lt_of_le hi h.size) hne ?_, e]
  rcases ho with ho | ⟨c, fz, ho⟩
  · exact .inl ho
  · exact .inr ⟨c, fz, by rw [e]; exact ho⟩
theorem Keep.below {base wb : Nat} {a w : World} (h : Below a.heap.size a w) (hb : base = a.heap.size) : Keep base wb a w := by
  subst hb
  exact ⟨h.os, h.tape, h.output, h.size, fun i hi _ _ => h.block i hi⟩
theorem Keep.of_below {base wb : Nat} {a w : World} (h : Below a.heap.size a w) : Keep base wb a w :=
  ⟨h.os, h.tape, h.output, h.size, fun i hi _ _ => h.block i hi⟩
theorem Keep.alloc (base wb : Nat) (a : World) (o : Obj) : Keep base wb a (a.alloc o) := .of_below ((Below.refl _ _).alloc (Nat.le_refl _) _)
theorem Keep.set {base wb : Nat} (a : World) (j : Nat) (u : Value) : Keep base wb a (a.setCell ⟨wb, j, none⟩ u) :=
  ⟨rfl, rfl, rfl, by simp [World.setCell], fun i hi hne _ => Below.heap_setCell _ _ _ _ hne⟩
theorem Keep.grown {base wb n : Nat} {a w : World} {v : Value} {xs : List Value} (hv : a.ownsRow base 5 1 v n xs) (h : a.grownBy w v.ownBlock) : Keep base wb a w := by
  refine ⟨h.os, h.tape, h.output, h.size, fun i hi hne ho => h.block i hi fun e => ?_⟩
  rcases ho with ho | ⟨c, fz, ho⟩
  · have := (hv.lt i e.symm).1; omega
  · rcases hv.2 with ⟨rfl, _⟩ | ⟨g, cap, cur, rfl, _, hh, _⟩
    · simp [Value.ownBlock] at e
    · simp [Value.ownBlock] at e
      subst e
      rw [hh] at ho; simp at ho
theorem Keep.to_below {base wb B : Nat} {w0 a w : World} (h : Below B w0 a) (k : Keep base wb a w) (h1 : B ≤ wb) (h2 : wb < base) (h3 : B ≤ a.heap.size) : Below B w0 w :=
  ⟨k.os.trans h.os, k.tape.trans h.tape, k.output.trans h.output, Nat.le_trans h.size k.size, fun i hi => (k.block i (by omega) (by omega) (.inl (by omega))).trans (h.block i hi)⟩

/-- what is written behind some bytes, as long as there is room -/
def WPost (xs e ys : List Nat) : Prop := (ys = xs ++ e ∨ 262144 < ys.length ∧ 262144 < (xs ++ e).length) ∧ ys.length ≤ 524299
theorem WPost.then {xs e ys e2 zs : List Nat} (h : WPost xs e ys) (k : WPost ys e2 zs) : WPost xs (e ++ e2) zs := by
  refine ⟨?_, k.2⟩
  rcases h.1 with rfl | ⟨h1, h2⟩
  · rw [← List.append_assoc]; exact k.1
  · right
    simp only [List.length_append] at *
    rcases k.1 with rfl | ⟨h3, h4⟩
    · simp; omega
    · omega

theorem full_any (wb : Nat) (v : Value) (n base : Nat) (xs : List Value) (w : World) (h : w.heap[wb]? = some (.cells #[v] 91 (0, 0))) (hv : w.ownsRow base 5 1 v n xs) :
    Calls Tryd.prog 49 #[.pointer (some ⟨wb, 0, none⟩)] w fun e w' => e = .returned (.bool (decide (262144 < (n : Int)))) ∧ w = w' := by
  obtain ⟨A, c, rfl⟩ : ∃ A c, v = .slice A n c := by
    rcases hv.2 with ⟨rfl, h0⟩ | ⟨g, cap, cur, rfl, _⟩
    · subst h0; exact ⟨_, _, rfl⟩
    · exact ⟨_, _, rfl⟩
  have c0 : w.cell? ⟨wb, 0, none⟩ = some (.slice A n c) := by simp only [World.cell?, h]; rfl
  clear h hv
  go_enter Tryd.func49, Tryd.ntmps49
  go_wp2
  go_ret
  exact ⟨rfl, rfl⟩

theorem wcell {w : World} {wb : Nat} {v : Value} (h : w.heap[wb]? = some (.cells #[v] 91 (0, 0))) : w.cell? ⟨wb, 0, none⟩ = some v := by simp only [World.cell?, h]; rfl
theorem wfree {w : World} {wb : Nat} {v : Value} (h : w.heap[wb]? = some (.cells #[v] 91 (0, 0))) (j : Nat) : w.frozen? ⟨wb, j, none⟩ = false := by simp only [World.frozen?, h]; rfl

theorem row_ne {w : World} {b e s m k e' : Nat} {v : Value} {xs : List Value} {c : Array Value} {fz : Nat × Nat} (h : w.ownsRow b e s v m xs) (hk : w.heap[k]? = some (.cells c e' fz)) (hne : e ≠ e') : v.ownBlock ≠ some k := by
  rcases h.2 with ⟨rfl, _⟩ | ⟨g, cap, cur, rfl, _, hh, _⟩
  · simp [Value.ownBlock]
  · simp only [Value.ownBlock]
    intro e2
    simp at e2
    subst e2
    rw [hh] at hk
    simp at hk
    exact hne hk.2.1

theorem fe_all (a : List Nat) (h : fe a = 0) : ∀ x ∈ a, x = 0 := by
  induction a with
  | nil => simp
  | cons y r ih =>
    simp only [fe] at h
    split at h
    · rename_i hy; intro x hx; simp at hx; rcases hx with rfl | hx
      · exact hy
      · exact ih h x hx
    · rename_i hy; exact absurd h hy
theorem look_zero {f n : Nat} {k : Int} {s : ByteArray} {l : List It} (h : look (f + 1) (.mk k n s l) = 0) :
    l.length ≤ 16384 ∧ (k = 1 ∧ s.size = 0 ∧ l.length = 0 ∨ k = 2 ∧ n = 0 ∧ l.length = 0 ∨ k = 3 ∧ n = 0 ∧ s.size = 0) ∧ ∀ y ∈ l, look f y = 0 := by
  simp only [look] at h
  split at h
  · simp at h
  · rename_i hb
    split at h
    · simp at h
    · refine ⟨by omega, ?_, fun y hy => fe_all _ h _ (List.mem_map_of_mem hy)⟩
      rw [Bool.not_eq_true] at hb
      unfold badIt at hb
      split at hb
      · rename_i hk; subst hk; simp at hb; left; exact ⟨rfl, by rw [hb.1]; rfl, by rw [hb.2]; rfl⟩
      · split at hb
        · rename_i hk; subst hk; simp at hb; right; left; exact ⟨rfl, hb.1, by rw [hb.2]; rfl⟩
        · split at hb
          · rename_i hk; subst hk; simp at hb; right; right; exact ⟨rfl, hb.1, by rw [hb.2]; rfl⟩
          · simp at hb

def ItPost (base wb : Nat) (w : World) (xs e : List Nat) (w' : World) : Prop :=
  ∃ (v' : Value) (ys : List Nat), w'.heap[wb]? = some (.cells #[v'] 91 (0, 0)) ∧ w'.ownsRow base 5 1 v' ys.length (bcells ys) ∧ Keep base wb w w' ∧ WPost xs e ys

def boxed (k : Int) (n : Nat) (s : ByteArray) (V : Value) : Obj := .cells #[.int .i64 k, .int .u64 n, .string s, V] 57 (0, 0)

/-- while an item is written: the writer's bytes are ys, they lie by v; the item's own copy is block N -/
structure At (base wb N : Nat) (k : Int) (n : Nat) (s : ByteArray) (V : Value) (w wc : World) (v : Value) (ys : List Nat) : Prop where
  wr : wc.heap[wb]? = some (.cells #[v] 91 (0, 0))
  row : wc.ownsRow base 5 1 v ys.length (bcells ys)
  box : wc.heap[N]? = some (boxed k n s V)
  keep : Keep base wb w wc
  base_le : base ≤ wc.heap.size
  ne : N ≠ wb

section
variable {base wb N : Nat} {k : Int} {n : Nat} {s : ByteArray} {V v : Value} {w wc : World} {ys : List Nat}
theorem At.drew (h : At base wb N k n s V w wc v ys) : At base wb N k n s V w wc.drew v ys := ⟨h.wr, h.row, h.box, ⟨h.keep.os, h.keep.tape, h.keep.output, h.keep.size, h.keep.block⟩, h.base_le, h.ne⟩
theorem At.cells (h : At base wb N k n s V w wc v ys) : wc.cell? ⟨wb, 0, none⟩ = some v ∧ wc.frozen? ⟨wb, 0, none⟩ = false ∧ wc.cell? ⟨N, 0, none⟩ = some (.int .i64 k) ∧ wc.cell? ⟨N, 1, none⟩ = some (.int .u64 n) ∧ wc.cell? ⟨N, 2, none⟩ = some (.string s) ∧ wc.cell? ⟨N, 3, none⟩ = some V := by
  have hb := h.box
  unfold boxed at hb
  refine ⟨wcell h.wr, wfree h.wr 0, ?_, ?_, ?_, ?_⟩ <;> · simp only [World.cell?, hb]; rfl
theorem At.ne_row (h : At base wb N k n s V w wc v ys) : v.ownBlock ≠ some wb ∧ v.ownBlock ≠ some N := by
  have hb := h.box
  unfold boxed at hb
  exact ⟨Go.Proofs.YtakdfjkkeilffaaDoor.row_ne h.row h.wr (by decide), Go.Proofs.YtakdfjkkeilffaaDoor.row_ne h.row hb (by decide)⟩
theorem At.far (h : At base wb N k n s V w wc v ys) {w2 : World} {o : Obj} (hg : (wc.alloc o).grownBy w2 v.ownBlock ∨ wc.grownBy w2 v.ownBlock) : wc.grownBy w2 v.ownBlock ∧ w2.heap[wb]? = some (.cells #[v] 91 (0, 0)) ∧ w2.heap[N]? = some (boxed k n s V) ∧
    w2.cell? ⟨wb, 0, none⟩ = some v ∧ w2.frozen? ⟨wb, 0, none⟩ = false ∧ w2.cell? ⟨N, 0, none⟩ = some (.int .i64 k) ∧ w2.cell? ⟨N, 1, none⟩ = some (.int .u64 n) ∧ w2.cell? ⟨N, 2, none⟩ = some (.string s) ∧ w2.cell? ⟨N, 3, none⟩ = some V := by
  have hg2 : wc.grownBy w2 v.ownBlock := hg.elim grown_alloc id
  have h1 := (hg2.block wb (lt_of_block h.wr) (fun e => h.ne_row.1 e.symm)).trans h.wr
  have h2 := (hg2.block N (lt_of_block h.box) (fun e => h.ne_row.2 e.symm)).trans h.box
  have h3 := h2
  unfold boxed at h3
  refine ⟨hg2, h1, h2, wcell h1, wfree h1 0, ?_, ?_, ?_, ?_⟩ <;> · simp only [World.cell?, h3]; rfl
/-- the bytes have grown, and the writer has been told -/
theorem At.told (h : At base wb N k n s V w wc v ys) {w2 : World} {v2 : Value} {zs : List Nat} (hg : wc.grownBy w2 v.ownBlock) (hr : w2.ownsRow base 5 1 v2 zs.length (bcells zs)) : At base wb N k n s V w (w2.setCell ⟨wb, 0, none⟩ v2) v2 zs := by
  obtain ⟨_, h1, h2, _⟩ := h.far (o := .cells #[] 0 (0, 0)) (.inr hg)
  have hne : v2.ownBlock ≠ some wb := Go.Proofs.YtakdfjkkeilffaaDoor.row_ne hr h1 (by decide)
  refine ⟨?_, ownsRow_setCell_other hr hne _, ?_, (h.keep.trans (Keep.grown h.row hg)).trans (Keep.set _ _ _), ?_, h.ne⟩
  · rw [heap_setCell_same w2 wb 0 _ _ _ h1]; rfl
  · rw [Below.heap_setCell _ _ _ _ h.ne]; exact h2
  · have := h.base_le; have := hg.size; simp [World.setCell]; omega
end

theorem At.told' {base wb N : Nat} {k : Int} {n m : Nat} {s : ByteArray} {V v : Value} {w wc : World} {ys : List Nat} (h : At base wb N k n s V w wc v ys) {w2 : World} {v2 : Value} {zs : List Nat} (hz : zs.length = m) (hg : wc.grownBy w2 v.ownBlock) (hr : w2.ownsRow base 5 1 v2 m (bcells zs)) : At base wb N k n s V w (w2.setCell ⟨wb, 0, none⟩ v2) v2 zs :=
  h.told hg (by rw [hz]; exact hr)
theorem At.done {base wb N : Nat} {k : Int} {n : Nat} {s : ByteArray} {V v : Value} {w wc : World} {xs ys e : List Nat} (h : At base wb N k n s V w wc v ys) (hp : WPost xs e ys) : ItPost base wb w xs e wc := ⟨v, ys, h.wr, h.row, h.keep, hp⟩
theorem At.sub {base wb N : Nat} {k : Int} {n : Nat} {s : ByteArray} {V v : Value} {w wc w2 : World} {ys e : List Nat} {o : Obj} (h : At base wb N k n s V w wc v ys) (hp : ItPost base wb (wc.alloc o) ys e w2) : ∃ v2 zs, At base wb N k n s V w w2 v2 zs ∧ WPost ys e zs := by
  obtain ⟨v2, zs, h1, h2, h3, h4⟩ := hp
  have hk := (Keep.alloc base wb wc o).trans h3
  have hb := h.box
  unfold boxed at hb
  refine ⟨v2, zs, ⟨h1, h2, ?_, h.keep.trans hk, ?_, h.ne⟩, h4⟩
  · exact (hk.block N (lt_of_block h.box) h.ne (.inr ⟨_, _, hb⟩)).trans h.box
  · have := h.base_le; have := hk.size; omega

/-- append(b, s..), a text, within a region that draws its order -/
theorem step_append_text {P : Program} {w : World} {ops : Array Oper} {o : Oper} {a : Act} {K : Act → World → Prop} {Q : Exit → Act → World → Prop} {E : Prop} (hgd : o.guard = none) (sl x : Operand) (t u : TypeId)
    (ho : o.op = .call { callee := .builtin .append, args := #[sl, x], argTypes := #[t, u] })
    (base : Nat) (e : TypeId) (i : TypeInfo) (ht : P.underlying t = some (.slice e)) (hu : P.underlying u = some .string) (hi : P.info? e = some i) (hz : i.zero = some (.int .u8 0))
    (hsize : i.size = 1) (hby : i.bytes = 1)
    (v : Value) (n : Nat) (xs : List Value) (hs : a.eval sl = v) (hown : w.ownsRow base e 1 v n xs) (s : ByteArray) (hx : a.eval x = .string s) (hn : 0 < n)
    (h63 : n + s.size ≤ maxLen) (hbytes : n + s.size ≤ 140737488355328) (hbase : base ≤ w.heap.size)
    (h : ∀ g cap w', w'.ownsRow base e 1 (.slice (some ⟨g, 0, none⟩) (n + s.size) cap) (n + s.size) (xs ++ Lib.strCells s) → w.grownBy w' v.ownBlock → K (a.put o.dst (.slice (some ⟨g, 0, none⟩) (n + s.size) cap)) w') :
    if Region.wanted o (yielded ops a.tmps) = true then Oper.wp P o a w K Q else E := by
  have hw : Region.wanted o (yielded ops a.tmps) = true := by simp [Region.wanted, hgd]
  rw [if_pos hw]
  obtain ⟨v', w', hr, h2, h3, h4⟩ := Lib.run_append_own_string (P := P) w base t u o.type e i ht hu hi hz hsize hby v n xs hown s h63 hbytes hbase
  rcases h2.2 with ⟨_, h0⟩ | ⟨g, cap, cur, rfl, _⟩
  · omega
  · unfold Oper.wp execOp
    simp only [ho, resolve, invoke, builtin, Sem.run_bind, Sem.run_pure, Result.andThen_ok, List.map_toArray, List.map_cons, List.map_nil, hs, hx, hr]
    exact h g cap w' h2 h3

theorem text_cells (s : ByteArray) : Lib.strCells s = bcells (nbytes s) := by simp [Lib.strCells, bcells, nbytes]
theorem nbytes_length (s : ByteArray) : (nbytes s).length = s.size := by simp [nbytes]
theorem t9 : Tryd.prog.underlying 9 = some .string := by kernel_rfl

theorem still_tail {P : Program} {id : Nat} {Q : Exit → Act → World → Prop} {a : Act} {w : World} {l : List Oper} (n : Nat) (hm : P.follows .mixedOrders = true) (hB : Region.lexTailB .any l.toArray n = true)
    (wd : World) (hwd : wd = w.drew)
    (h : wpStill P l.toArray wd (fun a' => wpList P l.toArray Q (l.drop n) a' wd) (l.take n) a) : (Code.region id l.toArray true).wp P Q a w := by
  subst hwd
  exact wp_region_still_tail n hm hB h

set_option maxRecDepth 100000 in
set_option maxHeartbeats 3200000 in
theorem item_any (f : Nat) : ∀ (v0 v1 v2 v3 : Value) (x : It) (w0 w : World) (base wb : Nat) (v : Value) (xs : List Nat), look f x = 0 → short f x → Holds w0 v0 v1 v2 v3 x →
    Below w0.heap.size w0 w → w0.heap.size ≤ wb → wb < base → base ≤ w.heap.size → w.heap[wb]? = some (.cells #[v] 91 (0, 0)) → w.ownsRow base 5 1 v xs.length (bcells xs) → xs.length ≤ 524299 →
    Calls Tryd.prog 48 #[.pointer (some ⟨wb, 0, none⟩), .agg #[v0, v1, v2, v3]] w fun e w' => e = .returned (.tuple #[]) ∧ ItPost base wb w xs (enc f x) w' := by
  induction f with
  | zero => intro v0 v1 v2 v3 x w0 w base wb v xs h; simp [look] at h
  | succ f ih =>
    intro v0 v1 v2 v3 x w0 w base wb v xs hlook hshort hx hbel h1 h2 h3 hwb hrow hlen
    have IH := Lib.hid ih
    clear ih
    cases hx with
    | mk k n s A c l F hn hs hm hA hl =>
      have HA := Lib.hid hA
      have HLL := Lib.hid hl
      have HBEL := Lib.hid hbel
      have HSH := Lib.hid hshort
      have HLOOK := Lib.hid hlook
      have hfull := full_any wb v xs.length base (bcells xs) (w.alloc (.cells #[.int .i64 k, .int .u64 n, .string s, .slice A l.length c] 57)) ((Below.heap_alloc _ _ _ (lt_of_block hwb)).trans hwb) (hrow.alloc _)
      have HFULL := Lib.hid hfull
      have HWB := Lib.hid hwb
      have HROW := Lib.hid hrow
      clear hA hl hbel hshort hlook hfull hwb hrow
      obtain ⟨i0, hi, hz0, hz1, hz2⟩ := info_parts i5
      by_cases hbig : 262144 < xs.length
      · go_enter Tryd.func48, Tryd.ntmps48
        go_wp2_with (go_at_call 49; refine HFULL.out.mono ?_; rintro e w1 ⟨rfl, rfl⟩)
        refine bodyPost_ret (results_none rfl _ _ _) rfl ?_
        refine ⟨rfl, v, xs, (Below.heap_alloc _ _ _ (lt_of_block HWB.out)).trans HWB.out, HROW.out.alloc _, Keep.alloc _ _ _ _, ?_, hlen⟩
        right; simp; omega
      · have c0 := wcell (w := w.alloc (.cells #[.int .i64 k, .int .u64 n, .string s, .slice A l.length c] 57)) ((Below.heap_alloc _ _ _ (lt_of_block HWB.out)).trans HWB.out)
        have f0 := wfree (w := w.alloc (.cells #[.int .i64 k, .int .u64 n, .string s, .slice A l.length c] 57)) ((Below.heap_alloc _ _ _ (lt_of_block HWB.out)).trans HWB.out) 0
        have hlt := lt_of_block HWB.out
        have hne : w.heap.size ≠ wb := by omega
        have HNV : Hid (v.ownBlock ≠ some wb) := row_ne HROW.out HWB.out (by decide)
        obtain ⟨hl16, hk, hall⟩ := look_zero HLOOK.out
        have HK := Lib.hid hk
        have hkw : IntKind.u8.wrap k = ((k.toNat : Nat) : Int) := by rcases hk with ⟨rfl, _⟩ | ⟨rfl, _⟩ | ⟨rfl, _⟩ <;> rfl
        have HKW := Lib.hid hkw
        clear hk hkw
        have HAT : Hid (At base wb w.heap.size k n s (.slice A l.length c) w (w.alloc (.cells #[.int .i64 k, .int .u64 n, .string s, .slice A l.length c] 57)) v xs) :=
          (⟨(Below.heap_alloc _ _ _ (lt_of_block HWB.out)).trans HWB.out, HROW.out.alloc _, heap_alloc_new _ _, Keep.alloc _ _ _ _, by simp; omega, hne⟩ : At base wb w.heap.size k n s (.slice A l.length c) w (w.alloc (.cells #[.int .i64 k, .int .u64 n, .string s, .slice A l.length c] 57)) v xs)
        have hnews := World.news_of_block (w := ((w.alloc (.cells #[.int .i64 k, .int .u64 n, .string s, .slice A l.length c] 57)).alloc (.cells #[.int .u8 (IntKind.u8.wrap k)] 5)).drew) (B := w.heap.size + 1) (cs := #[.int .u8 (IntKind.u8.wrap k)]) (t := 5) (fr := (0, 0)) (by
          have := heap_alloc_new (w.alloc (.cells #[.int .i64 k, .int .u64 n, .string s, .slice A l.length c] 57)) (.cells #[.int .u8 (IntKind.u8.wrap k)] 5)
          rw [show (w.alloc (.cells #[.int .i64 k, .int .u64 n, .string s, .slice A l.length c] 57)).heap.size = w.heap.size + 1 from by simp] at this
          exact this)
        have HNEWS := Lib.hid hnews
        have hone : ∀ u ∈ [Value.int .u8 (IntKind.u8.wrap k)], u.oneCell' = true := by intro u hu; simp at hu; subst hu; rfl
        have HONE := Lib.hid hone
        have HO2 := Lib.hid ((HAT.out.row.alloc (.cells #[.int .u8 (IntKind.u8.wrap k)] 5)).drew)
        clear hone hnews
        go_enter Tryd.func48, Tryd.ntmps48
        go_upto_region 2 with (go_at_call 49; refine HFULL.out.mono ?_; rintro e w1 ⟨rfl, rfl⟩)
        go_cut [] from 8 to 19 (fun wx => ∃ g cap, At base wb w.heap.size k n s (.slice A l.length c) w wx (.slice (some ⟨g, 0, none⟩) (xs.length + 1) cap) (xs ++ [k.toNat]))
        case first =>
          go_region_law (first | (refine step_append_lies _ rfl (.tmp 12) (.tmp 16) 23 rfl base 5 i0 (.int .u8 0) 1 1 t23 hi hz0 hz1 hz2 rfl (by omega) v xs.length (bcells xs) (by simp [Act.eval, Act.put]) HO2.out ⟨w.heap.size + 1, 0, none⟩ 1 1 [.int .u8 (IntKind.u8.wrap k)] (by simp [Act.eval, Act.put]) rfl HNEWS.out HONE.out (by omega) (by unfold maxLen; omega) (by omega) (by simp; omega) (w.heap.size + 2) (by simp) ?_; intro g cap w2 hown hgrow hat hlt2; obtain ⟨hg2, _, _, cA, fA, b0, b1, b2, b3⟩ := HAT.out.far (o := .cells #[.int .u8 (IntKind.u8.wrap k)] 5 (0, 0)) (.inl ⟨hgrow.os, hgrow.tape, hgrow.output, hgrow.size, hgrow.block⟩); clear hgrow))
          all_goals
            have HH := Lib.hid (HAT.out.told (zs := xs ++ [k.toNat]) hg2 (by simpa [bcells, HKW.out] using hown))
            clear hown cA fA b0 b1 b2 b3 hat hlt2 hg2
            go_wp2_with fail
            go_meet
            exact ⟨g, cap, HH.out⟩
        case rest =>
          obtain ⟨g, cap, hat⟩ := hcut
          obtain ⟨v1, hv1⟩ : ∃ v1, v1 = Value.slice (some ⟨g, 0, none⟩) (xs.length + 1) cap := ⟨_, rfl⟩
          rw [← hv1] at hat
          clear hv1
          obtain ⟨c0', f0', b0, b1, b2, b3⟩ := hat.cells
          have hsz := lt_of_block hat.box
          have HAT1 := Lib.hid hat
          rcases HK.out with ⟨rfl, hk0⟩ | ⟨rfl, hk0⟩ | ⟨rfl, hk0⟩
          · have HK0 := Lib.hid hk0
            clear hk0 hat HAT
            go_wp2_with fail
            have HAT2 : Hid (At base wb w.heap.size 1 n s (.slice A l.length c) w wc.drew v1 (xs ++ [1])) := HAT1.out.drew
            go_region_with (go_at_call 69; refine (groups_any base v1 (xs.length + 1) (xs ++ [1]) n wc.drew hn (by omega) (HAT2.out.base_le) (by simpa using HAT2.out.row)).mono ?_; rintro e w3 ⟨g3, cap3, rfl, hown3, hgrow3, hat3⟩; obtain ⟨hg3, _, _, c3, f3, _⟩ := HAT2.out.far (o := .cells #[] 0 (0, 0)) (.inr hgrow3))
            all_goals
              have HT := Lib.hid (HAT2.out.told' (zs := xs ++ [1] ++ gb n) (m := xs.length + 1 + (gb n).length) (by simp; omega) hg3 hown3)
              clear hown3 hgrow3 hat3 hg3 c3 f3
              go_wp2_with fail
              refine bodyPost_end (results_none rfl _ _ _) rfl ?_
              refine ⟨rfl, HT.out.done ⟨.inl (by simp [enc]), ?_⟩⟩
              have := gb_len10 n hn
              simp; omega
          · have HK0 := Lib.hid hk0
            have hsmall : s.size ≤ 262144 := HSH.out.1
            clear hk0 hat HAT
            have e1 : IntKind.u64.wrap (s.size : Int) = (s.size : Int) := by rw [IntKind.wrap_u64]; omega
            have HAT2 : Hid (At base wb w.heap.size 2 n s (.slice A l.length c) w wc.drew v1 (xs ++ [2])) := HAT1.out.drew
            have hgl := gb_len10 s.size (by omega)
            go_upto_region 13 with fail
            go_cut [] from 59 to 70 (fun wx => ∃ g cap, At base wb w.heap.size 2 n s (.slice A l.length c) w wx (.slice (some ⟨g, 0, none⟩) (xs.length + 1 + (gb s.size).length) cap) (xs ++ [2] ++ gb s.size))
            case first =>
              go_region_with (go_at_call 69; refine (groups_any base v1 (xs.length + 1) (xs ++ [2]) s.size wc.drew (by omega) (by omega) (HAT2.out.base_le) (by simpa using HAT2.out.row)).mono ?_; rintro e w3 ⟨g3, cap3, rfl, hown3, hgrow3, hat3⟩; obtain ⟨hg3, _, _, c3, f3, _⟩ := HAT2.out.far (o := .cells #[] 0 (0, 0)) (.inr hgrow3))
              all_goals
                have HT := Lib.hid (HAT2.out.told' (zs := xs ++ [2] ++ gb s.size) (m := xs.length + 1 + (gb s.size).length) (by simp; omega) hg3 hown3)
                clear hown3 hgrow3 hat3 hg3 c3 f3
                go_wp2_with fail
                go_meet
                exact ⟨g3, cap3, HT.out⟩
            case rest =>
              obtain ⟨g2, cap2, hat3⟩ := hcut
              obtain ⟨v2, hv2⟩ : ∃ v2, v2 = Value.slice (some ⟨g2, 0, none⟩) (xs.length + 1 + (gb s.size).length) cap2 := ⟨_, rfl⟩
              rw [← hv2] at hat3
              clear hv2 b0 b1 b2 b3 c0' f0'
              obtain ⟨c0', f0', b0, b1, b2, b3⟩ := hat3.cells
              have hsz3 := lt_of_block hat3.box
              have HAT3 := Lib.hid hat3
              have HR3 : Hid (wc.drew.ownsRow base 5 1 v2 (xs.length + 1 + (gb s.size).length) (bcells (xs ++ [2] ++ gb s.size))) := by
                have := hat3.row
                have e9 : (xs ++ [2] ++ gb s.size).length = xs.length + 1 + (gb s.size).length := by simp; omega
                rw [e9] at this
                exact this
              have hb3 := hat3.base_le
              clear hat3
              go_wp2_with fail
              go_region_law (first | (refine step_append_text rfl (.tmp 87) (.tmp 89) 23 9 rfl base 5 i0 t23 t9 hi hz0 hz1 hz2 v2 (xs.length + 1 + (gb s.size).length) (bcells (xs ++ [2] ++ gb s.size)) (by simp [Act.eval, Act.put]) HR3.out s (by simp [Act.eval, Act.put]) (by omega) (by unfold maxLen; omega) (by omega) hb3 ?_; intro g4 cap4 w4 hown4 hgrow4; obtain ⟨hg4, _, _, c4, f4, _⟩ := HAT3.out.far (o := .cells #[] 0 (0, 0)) (.inr ⟨hgrow4.os, hgrow4.tape, hgrow4.output, hgrow4.size, hgrow4.block⟩)))
              all_goals
                have HT := Lib.hid (HAT3.out.told' (zs := xs ++ [2] ++ gb s.size ++ nbytes s) (m := xs.length + 1 + (gb s.size).length + s.size) (by simp [nbytes_length]; omega) hg4 (by rw [text_cells] at hown4; simpa [bcells] using hown4))
                clear hown4 hgrow4 hg4 c4 f4
                go_wp2_with fail
                refine bodyPost_end (results_none rfl _ _ _) rfl ?_
                refine ⟨rfl, HT.out.done ⟨.inl (by simp [enc]), ?_⟩⟩
                simp [nbytes_length]; omega
          · have HK0 := Lib.hid hk0
            have HSHL := Lib.hid HSH.out.2
            clear hk0 hat HAT
            have e1 : IntKind.u64.wrap (l.length : Int) = (l.length : Int) := by rw [IntKind.wrap_u64]; omega
            have HAT2 : Hid (At base wb w.heap.size 3 n s (.slice A l.length c) w wc.drew v1 (xs ++ [3])) := HAT1.out.drew
            have hgl := gb_len10 l.length (by omega)
            go_upto_region 4 with fail
            go_cut [] from 22 to 33 (fun wx => ∃ g cap, At base wb w.heap.size 3 n s (.slice A l.length c) w wx (.slice (some ⟨g, 0, none⟩) (xs.length + 1 + (gb l.length).length) cap) (xs ++ [3] ++ gb l.length))
            case first =>
              go_region_with (go_at_call 69; refine (groups_any base v1 (xs.length + 1) (xs ++ [3]) l.length wc.drew (by omega) (by omega) (HAT2.out.base_le) (by simpa using HAT2.out.row)).mono ?_; rintro e w3 ⟨g3, cap3, rfl, hown3, hgrow3, hat3⟩; obtain ⟨hg3, _, _, c3, f3, _⟩ := HAT2.out.far (o := .cells #[] 0 (0, 0)) (.inr hgrow3))
              all_goals
                have HT := Lib.hid (HAT2.out.told' (zs := xs ++ [3] ++ gb l.length) (m := xs.length + 1 + (gb l.length).length) (by simp; omega) hg3 hown3)
                clear hown3 hgrow3 hat3 hg3 c3 f3
                go_wp2_with fail
                go_meet
                exact ⟨g3, cap3, HT.out⟩
            case rest =>
              obtain ⟨g2, cap2, hat3⟩ := hcut
              obtain ⟨v2, hv2⟩ : ∃ v2, v2 = Value.slice (some ⟨g2, 0, none⟩) (xs.length + 1 + (gb l.length).length) cap2 := ⟨_, rfl⟩
              rw [← hv2] at hat3
              clear hv2 b0 b1 b2 b3 c0' f0'
              obtain ⟨c0', f0', b0, b1, b2, b3⟩ := hat3.cells
              have hsz3 := lt_of_block hat3.box
              have HAT3 := Lib.hid hat3
              clear hat3
              go_wp2_with fail
              go_loopw [37] (fun i wr => ∃ t : Nat, ∃ vr ys, t ≤ l.length ∧ i = .int .i64 t ∧ Hid (At base wb w.heap.size 3 n s (.slice A l.length c) w wr vr ys) ∧ Hid (WPost xs (3 :: (gb l.length ++ ((l.take t).map (enc f)).flatten)) ys)) (fun i _ => l.length - (intOf i).toNat)
              case atStart =>
                refine ⟨0, _, _, by omega, rfl, HAT3.out, .inl (by simp), by simp; omega⟩
              case round =>
                obtain ⟨t, vr, ys, ht, rfl, HATR, HWP⟩ := hrel
                obtain ⟨wo, rfl⟩ : ∃ wo : World, wo = wr := ⟨_, rfl⟩
                by_cases htl : t < l.length
                · obtain ⟨g5, o5, rfl, hcells⟩ := HA.out (by omega)
                  obtain ⟨d0, d1, d2, d3⟩ := hcells t htl
                  have hbr : Below w0.heap.size w0 wo := HATR.out.keep.to_below HBEL.out h1 h2 (by omega)
                  have HBR := Lib.hid hbr
                  replace d0 := (hbr.cell (lt_cell d0)).trans d0
                  replace d1 := (hbr.cell (lt_cell d1)).trans d1
                  replace d2 := (hbr.cell (lt_cell d2)).trans d2
                  replace d3 := (hbr.cell (lt_cell d3)).trans d3
                  have HLT := Lib.hid (HLL.out t htl)
                  obtain ⟨k', n', s', A', m', c', s0, s1, s2, s3⟩ := HLT.out.shape
                  rw [s0] at d0
                  rw [s1] at d1
                  rw [s2] at d2
                  rw [s3] at d3
                  rw [s0, s1, s2, s3] at HLT
                  have HLKT : Hid (look f l[t] = 0) := hall _ (List.getElem_mem htl)
                  have HSHT : Hid (short f l[t]) := HSHL.out _ (List.getElem_mem htl)
                  clear hbr hcells s0 s1 s2 s3 hall
                  have hww := (Below.heap_alloc wo (.cells #[.int .i64 k', .int .u64 n', .string s', .slice A' m' c'] 57) _ (lt_of_block HATR.out.wr)).trans HATR.out.wr
                  have HCALL := Lib.hid (IH.out _ _ _ _ l[t] w0 (wo.alloc (.cells #[.int .i64 k', .int .u64 n', .string s', .slice A' m' c'] 57)) base wb vr ys HLKT.out HSHT.out HLT.out (HBR.out.alloc HBR.out.size _) h1 h2 (by have := HATR.out.base_le; simp; omega) hww (HATR.out.row.alloc _) HWP.out.2)
                  clear hww
                  go_wp2_with (go_at_call 48; refine HCALL.out.mono ?_; rintro e w2 ⟨rfl, hpost⟩; obtain ⟨v5, zs, hat5, hwp5⟩ := HATR.out.sub hpost; have HAT5 := Lib.hid hat5; have HWP5 := Lib.hid hwp5; clear hat5 hwp5 hpost)
                  go_roundw
                  case rel =>
                    refine ⟨t + 1, v5, zs, by omega, by go_num, HAT5.out, ?_⟩
                    show WPost xs (3 :: (gb l.length ++ ((l.take (t + 1)).map (enc f)).flatten)) zs
                    have e : 3 :: (gb l.length ++ ((l.take (t + 1)).map (enc f)).flatten) = 3 :: (gb l.length ++ ((l.take t).map (enc f)).flatten) ++ enc f l[t] := by
                      rw [List.take_add_one, List.getElem?_eq_getElem htl, List.map_append, List.flatten_append]
                      simp [Option.toList]
                    rw [e]
                    exact HWP.out.then HWP5.out
                  case measure => simp [intOf]; omega
                · obtain rfl : t = l.length := by omega
                  go_wp2_with fail
                  refine bodyPost_end (results_none rfl _ _ _) rfl ?_
                  refine ⟨rfl, HATR.out.done ?_⟩
                  have := HWP.out
                  rw [List.take_length] at this
                  simpa [enc] using this

end Go.Proofs.YtakdfjkkeilffaaDoor
