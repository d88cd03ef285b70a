/- A message that came in, opened; the table of greatest numbers, from a row's condition. -/
import Derived.Test.YtakdfjkkeilffaaDoorK
import Derived.Test.YtakdfjkkeilffaaDoorMg
import Derived.OpenShut
import Derived.Deep.Slices
import Derived.Deep.Strs
import Derived.Deep.Fields
import Derived.Lib.SmallJoins
set_option linter.unusedVariables false
set_option linter.unusedSimpArgs false
namespace Go.Proofs.YtakdfjkkeilffaaDoor
open Go.ChangeShapes Go.WideShapes Go.ChangeAt Go.RowKit Go.Deep Go.Joins

theorem m_glob : Tryd.prog.globalNamed "flyover/mess.most" = some 1 := by kernel_rfl
theorem m_type : (Tryd.prog.globals[1]?).map (·.type) = some 99 := by kernel_rfl
theorem m_arr : Tryd.prog.underlying 99 = some (.array 10 34) := by kernel_rfl
theorem m_elem : Tryd.prog.underlying 34 = some (.int .u64) := by kernel_rfl
theorem m_c34 : Tryd.prog.cellsOf 34 = 1 := by kernel_rfl
theorem m_c99 : Tryd.prog.cellsOf 99 = 10 := by kernel_rfl
abbrev mLaid : List (String × DataW Unit) := [("flyover/mess.most", Rows.laid_flyover_mess_most)]
def mtab : List Int := [1073741824, 1073741824, 1073741824, 1073741824, 1073741824, 1073741824, 1, 0, 0, 0]

theorem most_of_laid {W : World} (h : laidMet Tryd.prog mLaid W) : MostAt W := by
  have e : mLaid = [("flyover/mess.most", Lib.tabData .u64 mtab)] := rfl
  rw [e] at h
  have ht := Lib.tabIs_of_head m_glob m_type m_arr m_elem m_c34 m_c99 h
  intro i hi
  have := ht.cell m_glob i (by simp [mtab]; omega)
  rw [this]
  have : i = 0 ∨ i = 1 ∨ i = 2 ∨ i = 3 ∨ i = 4 ∨ i = 5 ∨ i = 6 := by omega
  rcases this with rfl | rfl | rfl | rfl | rfl | rfl | rfl <;> rfl
theorem most_lt {W : World} (h : MostAt W) : 1 < W.heap.size := World.block_lt_of_cell? W _ (h 0 (by omega))

/-- a world in which the table lies -/
noncomputable def mWorld (os : Os) : World :=
  let w0 := World.holding Tryd.prog os ⟨#[], #[], []⟩
  { w0 with heap := w0.heap.modify 1 fun
      | .cells _ t frozen => .cells (mtab.map fun n => Value.int .u64 n).toArray t frozen
      | o => o }
theorem mlaid_met (os : Os) (args : Array Value) : laidMet Tryd.prog mLaid ((mWorld os).forCall (fun _ _ => 0) ⟨#[], args, []⟩).memory :=
  laidMet_of_run (ps := (List.range 10).map fun i => .cell 1 i) 8 (by kernel_rfl) (by kernel_rfl) (by kernel_rfl)

theorem addr_plain {w : World} {a : Addr} {v : Value} (h : w.cell? a = some v) : a = ⟨a.block, a.off, none⟩ := by
  obtain ⟨b, o, s⟩ := a
  cases s with
  | none => rfl
  | some s => simp only [World.cell?] at h; split at h <;> simp at h
theorem add_plain' (b o i : Nat) : (⟨b, o, none⟩ : Addr).add i = ⟨b, o + i, none⟩ := by unfold Addr.add; split <;> simp_all

variable {H : Type} {enc : TypeId × Value → H} {w : World}

theorem cells3' : Tryd.prog.cellsOf 3 = 1 := by kernel_rfl
theorem cells24' : Tryd.prog.cellsOf 24 = 1 := by kernel_rfl
theorem cells51' : Tryd.prog.cellsOf 51 = 1 := by kernel_rfl
theorem cells44' : Tryd.prog.cellsOf 44 = 1 := by kernel_rfl
theorem cells80' : Tryd.prog.cellsOf 80 = 4 := by kernel_rfl
theorem cells46' : Tryd.prog.cellsOf 46 = 11 := by kernel_rfl

theorem u32_in {n : Int} (h : (Lit.int .u32 n).wf = true) : 0 ≤ n ∧ n < ((4294967296 : Nat) : Int) := by
  have := bounds_u32 h
  omega
theorem u64_in {n : Int} (h : (Lit.int .u64 n).wf = true) : 0 ≤ n ∧ n < ((18446744073709551616 : Nat) : Int) := by
  have := bounds_u64 h
  omega
theorem i64_in {n : Int} (h : (Lit.int .i64 n).wf = true) : inI n := bounds_i64 h
theorem toI_back {l : List Int} (h : ∀ n ∈ l, 0 ≤ n) : toI (l.map Int.toNat) = l := by
  unfold toI
  rw [List.map_map]
  conv => rhs; rw [← List.map_id l]
  exact List.map_congr_left fun n hn => by simp [Int.toNat_of_nonneg (h n hn)]

theorem nums_of {t e : TypeId} {k : IntKind} {B fuel : Nat} {cs : List Value} {x : DataW H × List MemPlace} (ht : Tryd.prog.underlying t = some (.slice e)) (he : Tryd.prog.underlying e = some (.int k)) (hc : Tryd.prog.cellsOf e = 1) (hk : ∀ n, (Lit.int k n).wf = true → 0 ≤ n ∧ n < (B : Int))
    (h : DataW.trod enc Tryd.prog w 0 (fun _ => true) true fuel t cs = some x) : ∃ v l, cs = [v] ∧ Nums w k v (toI l) ∧ ∀ n ∈ l, n < B := by
  rcases open_ints ht he hc h with ⟨rfl, _⟩ | ⟨a, len, cap, zs, rfl, _, hl, hm, hz, _, hcell, hwf⟩
  · exact ⟨_, [], rfl, ⟨by simp [toI], none, 0, rfl, fun h => by simp [toI] at h⟩, fun n hn => by simp at hn⟩
  · simp at hz
    have hlen : (zs.take len).length = len := by simp; omega
    have hpos : ∀ n ∈ zs.take len, 0 ≤ n := fun n hn => (hk n (hwf n (List.mem_of_mem_take hn))).1
    have hback := toI_back hpos
    refine ⟨_, (zs.take len).map Int.toNat, rfl, ?_, ?_⟩
    · rw [hback]
      refine ⟨by rw [hlen]; unfold maxLen at hm; omega, some a, cap, by rw [hlen], fun h0 => ?_⟩
      rw [hlen] at h0
      have h00 := hcell 0 (by omega)
      have ha : a.add 0 = a := by simp [Addr.add]
      rw [ha] at h00
      have hp := addr_plain h00
      refine ⟨a.block, a.off, by rw [← hp], fun j hj => ?_⟩
      rw [hlen] at hj
      have hj2 := hcell j (by omega)
      rw [hp, add_plain'] at hj2
      rw [hj2]
      have : j < zs.length := by omega
      simp [List.getD_eq_getElem?_getD, List.getElem?_eq_getElem this]
    · intro n hn
      obtain ⟨z, hz1, rfl⟩ := List.mem_map.1 hn
      have := hk z (hwf z (List.mem_of_mem_take hz1))
      omega

theorem mat_of {fuel : Nat} {cs : List Value} {x : DataW H × List MemPlace} (h : DataW.trod enc Tryd.prog w 0 (fun _ => true) true fuel 80 cs = some x) :
    ∃ (y : Mat) (v : Value), cs = [.int .i64 y.lv, .int .i64 y.ce, .int .i64 y.ep, v] ∧ Nums w .u64 v (toI y.d) ∧ (inI y.lv ∧ inI y.ce ∧ inI y.ep) ∧ ∀ n ∈ y.d, n < 18446744073709551616 := by
  obtain ⟨y0, y1, y2, y3, n, _, hlen, h0, h1, h2, h3⟩ := trod_struct4 Tryd.underlying80 h
  rw [cells80'] at hlen
  simp only [cells3', cells44'] at h0 h1 h2 h3
  match cs, hlen with
  | [c0, c1, c2, c3], _ =>
    simp only [List.drop_zero, List.take_succ_cons, List.take_zero, List.drop_succ_cons] at h0 h1 h2 h3
    obtain ⟨l, e0, _, w0⟩ := DataW.trod_int Tryd.underlying3 h0
    obtain ⟨c, e1, _, w1⟩ := DataW.trod_int Tryd.underlying3 h1
    obtain ⟨ep, e2, _, w2⟩ := DataW.trod_int Tryd.underlying3 h2
    obtain ⟨v, d, e3, hv, hd⟩ := nums_of Tryd.underlying44 Tryd.underlying51 cells51' (fun n => u64_in) h3
    simp only [List.cons.injEq, and_true] at e0 e1 e2 e3
    subst e0 e1 e2 e3
    exact ⟨⟨l, c, ep, d⟩, _, rfl, hv, ⟨i64_in w0, i64_in w1, i64_in w2⟩, hd⟩

theorem mats_of {fuel : Nat} {cs : List Value} {x : DataW H × List MemPlace} (h : DataW.trod enc Tryd.prog w 0 (fun _ => true) true fuel 43 cs = some x) : ∃ v l, cs = [v] ∧ Mats w v l := by
  rcases open_slice Tryd.underlying43 h with ⟨rfl, _⟩ | ⟨a, len, cap, m, n, D, Pl, rfl, _, hl, hm, hmm, _, hel⟩
  · exact ⟨_, [], rfl, by simp, by simp, none, 0, rfl, fun _ => .slice none 0 0, fun h => by simp at h, fun i h => by simp at h⟩
  · simp at hmm
    have hone : ∀ i, i < len → ∃ q : Mat × Value, (w.cell? (a.add (i * 4)) = some (.int .i64 q.1.lv) ∧ w.cell? ((a.add (i * 4)).add 1) = some (.int .i64 q.1.ce) ∧ w.cell? ((a.add (i * 4)).add 2) = some (.int .i64 q.1.ep) ∧ w.cell? ((a.add (i * 4)).add 3) = some q.2) ∧ Nums w .u64 q.2 (toI q.1.d) ∧ (inI q.1.lv ∧ inI q.1.ce ∧ inI q.1.ep) ∧ ∀ n ∈ q.1.d, n < 18446744073709551616 := by
      intro i hi
      obtain ⟨cs', h1, h2⟩ := hel i (by omega)
      rw [cells80'] at h1
      obtain ⟨_, _, h3⟩ := World.cells?_some h1
      obtain ⟨y, v, rfl, hv, hb, hd⟩ := mat_of h2
      have e0 := h3 0 (by omega)
      have e1 := h3 1 (by omega)
      have e2 := h3 2 (by omega)
      have e3 := h3 3 (by omega)
      simp at e1 e2 e3
      rw [show (a.add (i * 4)).add 0 = a.add (i * 4) from by simp [Addr.add]] at e0
      exact ⟨(y, v), ⟨by simpa using e0, e1, e2, e3⟩, hv, hb, hd⟩
    haveI : Inhabited (Mat × Value) := ⟨(⟨0, 0, 0, []⟩, .int .i64 0)⟩
    obtain ⟨f, hf⟩ := choose_lt (α := Mat × Value) hone
    have hll : ((List.range len).map fun i => (f i).1).length = len := by simp
    refine ⟨_, (List.range len).map fun i => (f i).1, rfl, by rw [hll]; unfold maxLen at hm; omega, ?_, some a, cap, by rw [hll], fun i => (f i).2, fun h0 => ?_, fun i hi => ?_⟩
    · intro y hy
      obtain ⟨i, hi, rfl⟩ := List.mem_map.1 hy
      exact (hf i (List.mem_range.1 hi)).2.2
    · rw [hll] at h0
      have h00 := (hf 0 h0).1.1
      rw [Nat.zero_mul, show a.add 0 = a from by simp [Addr.add]] at h00
      have hp := addr_plain h00
      refine ⟨a.block, a.off, by rw [← hp], fun i hi => ?_⟩
      rw [hll] at hi
      have hi2 := (hf i hi).1
      rw [hp] at hi2
      simp only [add_plain'] at hi2
      simp only [List.getElem_map, List.getElem_range]
      exact hi2
    · rw [hll] at hi
      simp only [List.getElem_map, List.getElem_range]
      exact (hf i hi).2.1

theorem list_succ {α : Type} {l : List α} {n : Nat} (h : l.length = n + 1) : ∃ c r, l = c :: r ∧ r.length = n := by
  cases l with
  | nil => simp at h
  | cons c r => exact ⟨c, r, rfl, by simpa using h⟩
theorem array11 {α : Type} {cs : Array α} (h : cs.size = 11) : ∃ c0 c1 c2 c3 c4 c5 c6 c7 c8 c9 c10, cs = #[c0, c1, c2, c3, c4, c5, c6, c7, c8, c9, c10] := by
  obtain ⟨l⟩ := cs
  have h : l.length = 11 := h
  obtain ⟨c0, l0, rfl, h0⟩ := list_succ h
  obtain ⟨c1, l1, rfl, h1⟩ := list_succ h0
  obtain ⟨c2, l2, rfl, h2⟩ := list_succ h1
  obtain ⟨c3, l3, rfl, h3⟩ := list_succ h2
  obtain ⟨c4, l4, rfl, h4⟩ := list_succ h3
  obtain ⟨c5, l5, rfl, h5⟩ := list_succ h4
  obtain ⟨c6, l6, rfl, h6⟩ := list_succ h5
  obtain ⟨c7, l7, rfl, h7⟩ := list_succ h6
  obtain ⟨c8, l8, rfl, h8⟩ := list_succ h7
  obtain ⟨c9, l9, rfl, h9⟩ := list_succ h8
  obtain ⟨c10, l10, rfl, h10⟩ := list_succ h9
  obtain rfl := List.eq_nil_of_length_eq_zero h10
  exact ⟨c0, c1, c2, c3, c4, c5, c6, c7, c8, c9, c10, rfl⟩

set_option maxRecDepth 100000 in
theorem msg_of {r : Reach} {b0 : Nat} {v : Value} {d : DataW H} {p : List MemPlace} (hv : Value.okWide Tryd.prog w r b0 46 v) (h : DataW.Trod enc Tryd.prog w 0 (fun _ => true) true 46 v d p) : ∃ m a b c, v = .agg (mcells m a b c) ∧ MsgIn w a b c m := by
  obtain ⟨cs, rfl, hsz⟩ := okWide_struct Tryd.underlying46 hv
  obtain ⟨c0, c1, c2, c3, c4, c5, c6, c7, c8, c9, c10, rfl⟩ := array11 (hsz.trans cells46')
  obtain ⟨fuel, hf⟩ := h
  obtain ⟨xs, n, _, _, _, hlen, hfl⟩ := DataW.trod_struct Tryd.underlying46 hf
  have hlen : xs.length = 11 := hlen
  have c42 : Tryd.prog.cellsOf 42 = 1 := by kernel_rfl
  have c43 : Tryd.prog.cellsOf 43 = 1 := by kernel_rfl
  have h0 := hfl 0 { name := "Kind", type := 3, offset := 0, embedded := false, tag := "", pkgPath := "", byteOffset := 0 } rfl
  rw [List.getElem?_eq_getElem (by omega)] at h0
  have h1 := hfl 1 { name := "Epoch", type := 3, offset := 1, embedded := false, tag := "", pkgPath := "", byteOffset := 8 } rfl
  rw [List.getElem?_eq_getElem (by omega)] at h1
  have h2 := hfl 2 { name := "Level", type := 3, offset := 2, embedded := false, tag := "", pkgPath := "", byteOffset := 16 } rfl
  rw [List.getElem?_eq_getElem (by omega)] at h2
  have h3 := hfl 3 { name := "Cell", type := 3, offset := 3, embedded := false, tag := "", pkgPath := "", byteOffset := 24 } rfl
  rw [List.getElem?_eq_getElem (by omega)] at h3
  have h4 := hfl 4 { name := "Query", type := 3, offset := 4, embedded := false, tag := "", pkgPath := "", byteOffset := 32 } rfl
  rw [List.getElem?_eq_getElem (by omega)] at h4
  have h5 := hfl 5 { name := "Vertex", type := 3, offset := 5, embedded := false, tag := "", pkgPath := "", byteOffset := 40 } rfl
  rw [List.getElem?_eq_getElem (by omega)] at h5
  have h6 := hfl 6 { name := "Other", type := 3, offset := 6, embedded := false, tag := "", pkgPath := "", byteOffset := 48 } rfl
  rw [List.getElem?_eq_getElem (by omega)] at h6
  have h7 := hfl 7 { name := "Back", type := 3, offset := 7, embedded := false, tag := "", pkgPath := "", byteOffset := 56 } rfl
  rw [List.getElem?_eq_getElem (by omega)] at h7
  have h8 := hfl 8 { name := "Weights", type := 42, offset := 8, embedded := false, tag := "", pkgPath := "", byteOffset := 64 } rfl
  rw [List.getElem?_eq_getElem (by omega)] at h8
  have h9 := hfl 9 { name := "Mats", type := 43, offset := 9, embedded := false, tag := "", pkgPath := "", byteOffset := 88 } rfl
  rw [List.getElem?_eq_getElem (by omega)] at h9
  have h10 := hfl 10 { name := "D", type := 44, offset := 10, embedded := false, tag := "", pkgPath := "", byteOffset := 112 } rfl
  rw [List.getElem?_eq_getElem (by omega)] at h10
  simp only [Value.cells, cells3', cells44', c42, c43, List.drop_zero, List.take_succ_cons, List.take_zero, List.drop_succ_cons] at h0 h1 h2 h3 h4 h5 h6 h7 h8 h9 h10
  obtain ⟨n0, e0, _, w0⟩ := DataW.trod_int Tryd.underlying3 h0
  obtain ⟨n1, e1, _, w1⟩ := DataW.trod_int Tryd.underlying3 h1
  obtain ⟨n2, e2, _, w2⟩ := DataW.trod_int Tryd.underlying3 h2
  obtain ⟨n3, e3, _, w3⟩ := DataW.trod_int Tryd.underlying3 h3
  obtain ⟨n4, e4, _, w4⟩ := DataW.trod_int Tryd.underlying3 h4
  obtain ⟨n5, e5, _, w5⟩ := DataW.trod_int Tryd.underlying3 h5
  obtain ⟨n6, e6, _, w6⟩ := DataW.trod_int Tryd.underlying3 h6
  obtain ⟨n7, e7, _, w7⟩ := DataW.trod_int Tryd.underlying3 h7
  obtain ⟨a, ws, e8, ha, hwl⟩ := nums_of Tryd.underlying42 Tryd.underlying24 cells24' (fun n => u32_in) h8
  obtain ⟨b, ms, e9, hb⟩ := mats_of h9
  obtain ⟨c, ds, e10, hc, hdl⟩ := nums_of Tryd.underlying44 Tryd.underlying51 cells51' (fun n => u64_in) h10
  simp only [List.cons.injEq, and_true] at e0 e1 e2 e3 e4 e5 e6 e7 e8 e9 e10
  subst e0 e1 e2 e3 e4 e5 e6 e7 e8 e9 e10
  exact ⟨⟨n0, n1, n2, n3, n4, n5, n6, n7, ws, ms, ds⟩, _, _, _, rfl, ha, hb, hc, hwl, hdl, i64_in w0, i64_in w1, i64_in w2, i64_in w3, i64_in w4, i64_in w5, i64_in w6, i64_in w7⟩

end Go.Proofs.YtakdfjkkeilffaaDoor
