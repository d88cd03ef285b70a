/- Matrices as an item. -/
import Derived.Test.YtakdfjkkeilffaaDoorMd
import Derived.Deep.RegionHeld3
set_option linter.unusedVariables false
set_option linter.unusedSimpArgs false
namespace Go.Proofs.YtakdfjkkeilffaaDoor
open Go.RowKit

/-- four values are a matrix of this many numbers -/
structure MatC (W : World) (tb : Nat) (y : Mat) (F : Value) : Prop where
  c0 : W.cell? ⟨tb, 0, none⟩ = some (.int .i64 y.lv)
  c1 : W.cell? ⟨tb, 1, none⟩ = some (.int .i64 y.ce)
  c2 : W.cell? ⟨tb, 2, none⟩ = some (.int .i64 y.ep)
  c3 : W.cell? ⟨tb, 3, none⟩ = some F
  lt : tb < W.heap.size
theorem MatC.later {W W' : World} {tb : Nat} {y : Mat} {F : Value} (h : MatC W tb y F) (hb : Below W.heap.size W W') : MatC W' tb y F :=
  ⟨(hb.cell h.lt).trans h.c0, (hb.cell h.lt).trans h.c1, (hb.cell h.lt).trans h.c2, (hb.cell h.lt).trans h.c3, Nat.lt_of_lt_of_le h.lt hb.size⟩
def MS (W : World) (tb a b c : Nat) (F : Value) : Prop := W.cell? ⟨tb, 0, none⟩ = some (.int .i64 (a : Int)) ∧ W.cell? ⟨tb, 1, none⟩ = some (.int .i64 (b : Int)) ∧ W.cell? ⟨tb, 2, none⟩ = some (.int .i64 (c : Int)) ∧ W.cell? ⟨tb, 3, none⟩ = some F
theorem MS.off {W W' : World} {tb a b c : Nat} {F : Value} (h : MS W tb a b c F) (hb : W'.heap[tb]? = W.heap[tb]?) : MS W' tb a b c F :=
  ⟨(World.cell?_of_block hb).trans h.1, (World.cell?_of_block hb).trans h.2.1, (World.cell?_of_block hb).trans h.2.2.1, (World.cell?_of_block hb).trans h.2.2.2⟩
theorem MS.lt {W : World} {tb a b c : Nat} {F : Value} (h : MS W tb a b c F) : tb < W.heap.size := World.block_lt_of_cell? W _ h.1
theorem MS.later {W W' : World} {tb a b c : Nat} {F : Value} (h : MS W tb a b c F) (hb : Below W.heap.size W W') : MS W' tb a b c F := h.off (hb.block tb h.lt)
theorem al2 (W : World) (o1 o2 : Obj) : Below W.heap.size W ((W.alloc o1).alloc o2) := (below_al _ _).alloc (by simp) _
theorem LRow.al {base xb : Nat} {w W : World} {V : Value} {xs : List It} {vs : List Value} (h : LRow base xb w W V xs vs) : (∀ o, (W.alloc o).cell? ⟨xb, 3, none⟩ = some V) ∧ (∀ o1 o2, ((W.alloc o1).alloc o2).cell? ⟨xb, 3, none⟩ = some V) := by
  have hc := h.cells.2.2.2.1
  exact ⟨fun o => ((below_al W o).cell (World.block_lt_of_cell? W _ hc)).trans hc, fun o1 o2 => ((al2 W o1 o2).cell (World.block_lt_of_cell? W _ hc)).trans hc⟩
theorem MatC.all {W : World} {tb : Nat} {y : Mat} {F : Value} (h : MatC W tb y F) : W.cell? ⟨tb, 0, none⟩ = some (.int .i64 y.lv) ∧ W.cell? ⟨tb, 1, none⟩ = some (.int .i64 y.ce) ∧ W.cell? ⟨tb, 2, none⟩ = some (.int .i64 y.ep) ∧ W.cell? ⟨tb, 3, none⟩ = some F := ⟨h.c0, h.c1, h.c2, h.c3⟩

theorem news4b (w : World) (o1 : Obj) (x0 x1 x2 x3 : Value) (ty : TypeId) : ∀ (j : Nat) (u : Value), [x0, x1, x2, x3][j]? = some u → ((w.alloc o1).alloc (.cells #[x0, x1, x2, x3] ty)).cell? ((⟨w.heap.size + 1, 0, none⟩ : Addr).add j) = some u := fun j u hj => by
  have := news4 (w.alloc o1) x0 x1 x2 x3 ty j u hj
  rwa [show (w.alloc o1).heap.size = w.heap.size + 1 from by simp] at this

def mat16 (a b c : Nat) (v0 v1 v2 v3 : Value) : Array Value := #[.int .i64 1, .int .u64 a, .string ⟨#[]⟩, .slice none 0 0, .int .i64 1, .int .u64 b, .string ⟨#[]⟩, .slice none 0 0, .int .i64 1, .int .u64 c, .string ⟨#[]⟩, .slice none 0 0, v0, v1, v2, v3]
theorem mat_item {W : World} {S : Nat → Prop} {g : Nat} {a b c : Nat} {v0 v1 v2 v3 : Value} {x : It} {t : TypeId} (h : W.heap[g]? = some (.cells (mat16 a b c v0 v1 v2 v3) t (0, 0))) (hg : S g) (hx : HoldsP S W v0 v1 v2 v3 x) (ha : a < 18446744073709551616) (hb : b < 18446744073709551616) (hc : c < 18446744073709551616) :
    HoldsP S W (.int .i64 3) (.int .u64 0) (.string ⟨#[]⟩) (.slice (some ⟨g, 0, none⟩) 4 4) (itList [itNum a, itNum b, itNum c, x]) := by
  refine HoldsP.mk 3 0 ⟨#[]⟩ (some ⟨g, 0, none⟩) 4 [itNum a, itNum b, itNum c, x] (fun i => ((mat16 a b c v0 v1 v2 v3).getD (i * 4) (.int .i64 0), (mat16 a b c v0 v1 v2 v3).getD (i * 4 + 1) (.int .i64 0), (mat16 a b c v0 v1 v2 v3).getD (i * 4 + 2) (.int .i64 0), (mat16 a b c v0 v1 v2 v3).getD (i * 4 + 3) (.int .i64 0))) (by omega) (by decide) (by simp) (fun _ => ⟨g, 0, rfl, hg, fun i hi => ?_⟩) (fun i hi => ?_)
  · simp only [List.length_cons, List.length_nil] at hi
    have : i = 0 ∨ i = 1 ∨ i = 2 ∨ i = 3 := by omega
    rcases this with rfl | rfl | rfl | rfl <;> refine ⟨?_, ?_, ?_, ?_⟩ <;> (rw [cell_of_row _ _ _ _ _ _ h]; rfl)
  · simp only [List.length_cons, List.length_nil] at hi
    have : i = 0 ∨ i = 1 ∨ i = 2 ∨ i = 3 := by omega
    rcases this with rfl | rfl | rfl | rfl
    · exact HoldsP.leaf 1 a ⟨#[]⟩ ha (by decide)
    · exact HoldsP.leaf 1 b ⟨#[]⟩ hb (by decide)
    · exact HoldsP.leaf 1 c ⟨#[]⟩ hc (by decide)
    · exact hx

theorem LRow.mat {base xb : Nat} {w w3 w4 w6 : World} {V : Value} {xs : List It} {vs : List Value} (h3 : LRow base xb w w3 V xs vs) (h : LRow base xb w w4 V xs vs) {a b c : Nat} {v0 v1 v2 v3 : Value} {x : It} {g cap : Nat} (hX : HoldsP (fun g => w3.heap.size ≤ g ∧ g < w4.heap.size) w4 v0 v1 v2 v3 x) (hs : w3.heap.size ≤ w4.heap.size)
    (hown : w6.ownsRow base 57 4 (.slice (some ⟨g, 0, none⟩) (xs.length + 1) cap) (xs.length + 1) (vs ++ [.int .i64 3, .int .u64 0, .string ⟨#[]⟩, .slice (some ⟨w4.heap.size, 0, none⟩) 4 4]))
    (hgrow : ((w4.alloc (.cells (mat16 a b c v0 v1 v2 v3) 57)).alloc (.cells #[.int .i64 3, .int .u64 0, .string ⟨#[]⟩, .slice (some ⟨w4.heap.size, 0, none⟩) 4 4] 57)).grownBy w6 V.ownBlock) (hat : V.ownBlock = some g ∨ g = w4.heap.size + 2) (hlt : g < w6.heap.size)
    (ha : a < 9223372036854775808) (hb : b < 9223372036854775808) (hc : c < 9223372036854775808) :
    LRow base xb w (w6.setCell ⟨xb, 3, none⟩ (.slice (some ⟨g, 0, none⟩) (xs.length + 1) cap)) (.slice (some ⟨g, 0, none⟩) (xs.length + 1) cap) (xs ++ [itList [itNum a, itNum b, itNum c, x]]) (vs ++ [.int .i64 3, .int .u64 0, .string ⟨#[]⟩, .slice (some ⟨w4.heap.size, 0, none⟩) 4 4]) ∧
    w6.heap[xb]? = some (.cells #[.int .i64 3, .int .u64 0, .string ⟨#[]⟩, V] 57 (0, 0)) ∧ ∀ k, k < w4.heap.size → V.ownBlock ≠ some k → w6.heap[k]? = w4.heap[k]? := by
  have hl := h.later (al2 w4 (.cells (mat16 a b c v0 v1 v2 v3) 57) (.cells #[.int .i64 3, .int .u64 0, .string ⟨#[]⟩, .slice (some ⟨w4.heap.size, 0, none⟩) 4 4] 57))
  have hsz : ((w4.alloc (.cells (mat16 a b c v0 v1 v2 v3) 57)).alloc (.cells #[.int .i64 3, .int .u64 0, .string ⟨#[]⟩, .slice (some ⟨w4.heap.size, 0, none⟩) 4 4] 57)).heap.size = w4.heap.size + 2 := by simp
  have hbl := al2 w4 (.cells (mat16 a b c v0 v1 v2 v3) 57) (.cells #[.int .i64 3, .int .u64 0, .string ⟨#[]⟩, .slice (some ⟨w4.heap.size, 0, none⟩) 4 4] 57)
  have h3o := h3.own
  have h3h := h3.hi
  refine ⟨?_, hl.mid hgrow, fun k hk hne => ?_⟩
  · refine hl.next ?_ hown hgrow (by rw [hsz]; exact hat) hlt
    refine mat_item (t := 57) (g := w4.heap.size) (v0 := v0) (v1 := v1) (v2 := v2) (v3 := v3) ?_ ⟨by omega, by rw [hsz]; omega, fun e => by have := h3o _ e; omega⟩ ?_ (by omega) (by omega) (by omega)
    · rw [Below.heap_alloc _ _ _ (by simp)]; exact heap_alloc_new _ _
    · exact hX.keep (fun k hk => ⟨by omega, by rw [hsz]; omega, fun e => by have := h3o _ e; omega⟩) (fun k hk => hbl.block k hk.2)
  · rw [hgrow.block k (by rw [hsz]; omega) (fun e => hne e.symm)]; exact hbl.block k hk

set_option maxRecDepth 100000 in
set_option maxHeartbeats 40000000 in
theorem field8_any (m : Msg) (a b c : Value) (w : World) (h : MsgIn w a b c m) (hn : m.ms.length ≤ 16384) (hd : ∀ y ∈ m.ms, y.d.length ≤ 16384) (hp : ∀ y ∈ m.ms, 0 ≤ y.lv ∧ 0 ≤ y.ce ∧ 0 ≤ y.ep) :
    Calls Tryd.prog 45 #[.agg (mcells m a b c), .int .i64 8] w (ItemPost w (itList (m.ms.map itMat))) := by
  obtain ⟨l, hl⟩ : ∃ l, l = m.ms := ⟨_, rfl⟩
  obtain ⟨_, hwf, A1, C1, rfl, F, hA, hF⟩ := h.ms
  obtain ⟨n, hnn⟩ : ∃ n, n = m.ms.length := ⟨_, rfl⟩
  rw [← hnn]
  rw [← hl] at hn hd hp hwf hF hnn ⊢
  have HA : Hid (0 < n → ∃ g o, A1 = some ⟨g, o, none⟩ ∧ ∀ i (h : i < l.length), w.cell? ⟨g, o + i * 4, none⟩ = some (.int .i64 l[i].lv) ∧ w.cell? ⟨g, o + i * 4 + 1, none⟩ = some (.int .i64 l[i].ce) ∧ w.cell? ⟨g, o + i * 4 + 2, none⟩ = some (.int .i64 l[i].ep) ∧ w.cell? ⟨g, o + i * 4 + 3, none⟩ = some (F i)) := by
    subst hl; exact fun h0 => hA (by omega)
  have HF := Lib.hid hF
  have HD := Lib.hid hd
  have HP := Lib.hid hp
  have HW := Lib.hid hwf
  have HN := Lib.hid hnn
  rw [← hnn] at hn
  clear h hA hF hd hp hwf hnn hl
  obtain ⟨j0, hj0, hjz0, hjz1, hjz2⟩ := info_parts i57
  obtain ⟨f1, f2, f3, f4⟩ := mes_facts m a (.slice A1 n C1) c w
  have hfirst : LRow ((mesW m a (.slice A1 n C1) c w).alloc (.cells #[.int .i64 3, .int .u64 0, .string ⟨#[]⟩, .slice none 0 0] 57)).heap.size (w.heap.size + 1 + 1) w ((mesW m a (.slice A1 n C1) c w).alloc (.cells #[.int .i64 3, .int .u64 0, .string ⟨#[]⟩, .slice none 0 0] 57)) (.slice none 0 0) [] [] := by
    refine LRow.first (cs := #[]) (f1.alloc (by omega) _) ?_ (by omega)
    rw [show w.heap.size + 1 + 1 = w.heap.size + 2 from rfl, ← f2]; exact heap_alloc_new _ _
  have hzf : ((mesW m a (.slice A1 n C1) c w).alloc (.cells #[.int .i64 3, .int .u64 0, .string ⟨#[]⟩, .slice none 0 0] 57)).heap[w.heap.size + 1]? = some Z57 := (Below.heap_alloc _ _ _ (by omega)).trans f4
  obtain ⟨base, hbase⟩ : ∃ base, base = ((mesW m a (.slice A1 n C1) c w).alloc (.cells #[.int .i64 3, .int .u64 0, .string ⟨#[]⟩, .slice none 0 0] 57)).heap.size := ⟨_, rfl⟩
  rw [← hbase] at hfirst
  have hb2 : base = w.heap.size + 3 := by rw [hbase]; simp [f2]
  have HFI := Lib.hid hfirst
  have HZF := Lib.hid hzf
  clear hfirst hbase hzf f1 f2 f3 f4
  unfold mesW mcells Z57 at HFI HZF
  unfold mcells
  go_enter Tryd.func45, Tryd.ntmps45
  go_wp2_with fail
  go_loopw [25] (fun i wr => ∃ k : Nat, ∃ V vs, k ≤ n ∧ i = .int .i64 k ∧ Hid (LRow base (w.heap.size + 1 + 1) w wr V ((l.take k).map itMat) vs) ∧ Hid (wr.heap[w.heap.size + 1]? = some Z57)) (fun i _ => n - (intOf i).toNat)
  case atStart => exact ⟨0, _, _, by omega, rfl, HFI.out, HZF.out⟩
  case round =>
    obtain ⟨k, V, vs, hk, rfl, HR, HZ⟩ := hrel
    obtain ⟨wo, rfl⟩ : ∃ wo : World, wo = wr := ⟨_, rfl⟩
    by_cases hlt : k < n
    · have hkl : k < l.length := by have := HN.out; omega
      obtain ⟨g, o, rfl, hc⟩ := HA.out (by omega)
      obtain ⟨y, hy⟩ : ∃ y, y = l[k] := ⟨_, rfl⟩
      obtain ⟨d0, d1, d2, d3⟩ := hc k hkl
      have hf := HF.out k hkl
      have hym : y ∈ l := by rw [hy]; exact List.getElem_mem hkl
      rw [← hy] at d0 d1 d2 hf
      replace d0 := (HR.out.below.cell (World.block_lt_of_cell? w _ d0)).trans d0
      replace d1 := (HR.out.below.cell (World.block_lt_of_cell? w _ d1)).trans d1
      replace d2 := (HR.out.below.cell (World.block_lt_of_cell? w _ d2)).trans d2
      replace d3 := (HR.out.below.cell (World.block_lt_of_cell? w _ d3)).trans d3
      have hyd := HD.out y hym
      have hyp := HP.out y hym
      have hyw := HW.out y hym
      obtain ⟨p0, e0⟩ : ∃ p0 : Nat, y.lv = p0 := ⟨y.lv.toNat, by omega⟩
      obtain ⟨p1, e1⟩ : ∃ p1 : Nat, y.ce = p1 := ⟨y.ce.toNat, by omega⟩
      obtain ⟨p2, e2⟩ : ∃ p2 : Nat, y.ep = p2 := ⟨y.ep.toNat, by omega⟩
      obtain ⟨⟨⟨_, l0⟩, ⟨_, l1⟩, ⟨_, l2⟩⟩, hdl⟩ := hyw
      obtain ⟨Fv, hFv⟩ : ∃ Fv, Fv = F k := ⟨_, rfl⟩
      rw [← hFv] at d3 hf
      obtain ⟨FA, FL, FC, hFs⟩ : ∃ A l c, Fv = .slice A l c := by obtain ⟨A, c, e⟩ := hf.form; exact ⟨A, _, c, e⟩
      subst hFs
      clear hFv
      have hlv0 : p0 < 9223372036854775808 := by omega
      have hlv1 : p1 < 9223372036854775808 := by omega
      have hlv2 : p2 < 9223372036854775808 := by omega
      have hit : itMat y = itList [itNum p0, itNum p1, itNum p2, itList (y.d.map itNum)] := by unfold itMat; rw [e0, e1, e2]; rfl
      obtain ⟨xs, hxs⟩ : ∃ xs, xs = (l.take k).map itMat := ⟨_, rfl⟩
      rw [← hxs] at HR
      have hlen : xs.length ≤ 16384 := by rw [hxs]; simp; omega
      have HXS : Hid (xs ++ [itList [itNum p0, itNum p1, itNum p2, itList (y.d.map itNum)]] = (l.take (k + 1)).map itMat) := by
        show _ = _
        rw [List.take_succ_eq_append_getElem hkl, List.map_append, hxs, ← hy, ← hit]; rfl
      rw [e0] at d0
      rw [e1] at d1
      rw [e2] at d2
      have HF5 : Hid (Nums wo .u64 (.slice FA FL FC) (toI y.d)) := hf.later HR.out.below
      have HDL := Lib.hid hdl
      clear hc hy hxs hit hf hdl hym hyp e0 e1 e2 l0 l1 l2
      obtain ⟨q0, q1, q2, q3, q4⟩ := HR.out.cells
      have hS5' : MS (wo.alloc (.cells #[.int .i64 (p0 : Int), .int .i64 (p1 : Int), .int .i64 (p2 : Int), .slice FA FL FC] 80)) wo.heap.size p0 p1 p2 (.slice FA FL FC) := by
        have hh := heap_alloc_new wo (.cells #[.int .i64 (p0 : Int), .int .i64 (p1 : Int), .int .i64 (p2 : Int), .slice FA FL FC] 80)
        exact ⟨cell_of_row _ _ _ _ _ _ hh, cell_of_row _ _ _ _ _ _ hh, cell_of_row _ _ _ _ _ _ hh, cell_of_row _ _ _ _ _ _ hh⟩
      have HL0' := Lib.hid (HR.out.later (below_al wo (.cells #[.int .i64 (p0 : Int), .int .i64 (p1 : Int), .int .i64 (p2 : Int), .slice FA FL FC] 80)))
      have HF0' := Lib.hid (HF5.out.later (below_al wo (.cells #[.int .i64 (p0 : Int), .int .i64 (p1 : Int), .int .i64 (p2 : Int), .slice FA FL FC] 80)))
      have HZ0' : Hid ((wo.alloc (.cells #[.int .i64 (p0 : Int), .int .i64 (p1 : Int), .int .i64 (p2 : Int), .slice FA FL FC] 80)).heap[w.heap.size + 1]? = some Z57) := (Below.heap_alloc _ _ _ (lt_of_block HZ.out)).trans HZ.out
      obtain ⟨W5, hW5⟩ : ∃ W5, W5 = wo.alloc (.cells #[.int .i64 (p0 : Int), .int .i64 (p1 : Int), .int .i64 (p2 : Int), .slice FA FL FC] 80) := ⟨_, rfl⟩
      have HTB := Lib.hid (show wo.heap.size < W5.heap.size ∧ wo.heap.size ≠ w.heap.size + 1 + 1 ∧ V.ownBlock ≠ some wo.heap.size from ⟨by rw [hW5]; simp, by have h1 := HR.out.lo; have h2 := HR.out.hi; omega, fun e => by have := HR.out.own _ e; omega⟩)
      obtain ⟨tb, htb⟩ : ∃ tb, tb = wo.heap.size := ⟨_, rfl⟩
      rw [← hW5, ← htb] at hS5'
      rw [← hW5] at HL0' HZ0' HF0'
      rw [← htb] at HTB
      go_wp2_with fail
      rw [← hW5, ← htb]
      have hS0 := hS5'
      have HL0 := HL0'
      have HZ0 := HZ0'
      have HF0 := HF0'
      obtain ⟨_, _, _, rx0, rfz0⟩ := HL0.out.cells
      clear hS5' HL0' HZ0' HF0' hW5 htb HR HZ HF5 q0 q1 q2 q3 q4 d0 d1 d2 d3 HFI HZF
      refine wp_region_held_drew (S := (fun w' => w'.cell? ⟨tb, 0, none⟩ = some (.int .i64 (p0 : Int)) ∧ w'.cell? ⟨tb, 1, none⟩ = some (.int .i64 (p1 : Int)) ∧ w'.cell? ⟨tb, 2, none⟩ = some (.int .i64 (p2 : Int)) ∧ w'.cell? ⟨tb, 3, none⟩ = some (.slice FA FL FC))) (by kernel_rfl) hS0 (fun hHeld => ?_)
      have hHeld0 := hHeld
      refine wpAnyH_take (i := 0) (v := ?_) rfl (by kernel_rfl) (by kernel_rfl) (by kernel_rfl) (fun _ _ _ h => h) (Or.inl ⟨by rfl, ?_⟩) hHeld ?_
      rotate_left
      · intro w hSw; (try dsimp only at hSw); go_simp; (try with_reducible rfl)
      try simp only [Act.put, List.setIfInBounds_toArray, List.set_cons_zero, List.set_cons_succ]
      refine wpAnyH_take (i := 2) (v := ?_) rfl (by kernel_rfl) (by kernel_rfl) (by kernel_rfl) (fun _ _ _ h => h) (Or.inl ⟨by rfl, ?_⟩) hHeld ?_
      rotate_left
      · intro w hSw; (try dsimp only at hSw); go_simp; (try with_reducible rfl)
      try simp only [Act.put, List.setIfInBounds_toArray, List.set_cons_zero, List.set_cons_succ]
      refine wpAnyH_take (i := 3) (v := ?_) rfl (by kernel_rfl) (by kernel_rfl) (by kernel_rfl) (fun _ _ _ h => h) (Or.inl ⟨by rfl, ?_⟩) hHeld ?_
      rotate_left
      · intro w hSw; (try dsimp only at hSw); go_simp; (try with_reducible rfl)
      try simp only [Act.put, List.setIfInBounds_toArray, List.set_cons_zero, List.set_cons_succ]
      refine wpAnyH_take (i := 5) (v := ?_) rfl (by kernel_rfl) (by kernel_rfl) (by kernel_rfl) (fun _ _ _ h => h) (Or.inl ⟨by rfl, ?_⟩) hHeld ?_
      rotate_left
      · intro w hSw; (try dsimp only at hSw); go_simp; (try with_reducible rfl)
      try simp only [Act.put, List.setIfInBounds_toArray, List.set_cons_zero, List.set_cons_succ]
      refine wpAnyH_take (i := 6) (v := ?_) rfl (by kernel_rfl) (by kernel_rfl) (by kernel_rfl) (fun _ _ _ h => h) (Or.inl ⟨by rfl, ?_⟩) hHeld ?_
      rotate_left
      · intro w hSw; (try dsimp only at hSw); go_simp; (try with_reducible rfl)
      try simp only [Act.put, List.setIfInBounds_toArray, List.set_cons_zero, List.set_cons_succ]
      refine wpAnyH_take (i := 8) (v := ?_) rfl (by kernel_rfl) (by kernel_rfl) (by kernel_rfl) (fun _ _ _ h => h) (Or.inl ⟨by rfl, ?_⟩) hHeld ?_
      rotate_left
      · intro w hSw; (try dsimp only at hSw); go_simp; (try with_reducible rfl)
      try simp only [Act.put, List.setIfInBounds_toArray, List.set_cons_zero, List.set_cons_succ]
      refine wpAnyH_take (i := 9) (v := ?_) rfl (by kernel_rfl) (by kernel_rfl) (by kernel_rfl) (fun _ _ _ h => h) (Or.inl ⟨by rfl, ?_⟩) hHeld ?_
      rotate_left
      · intro w hSw; (try dsimp only at hSw); go_simp; (try with_reducible rfl)
      try simp only [Act.put, List.setIfInBounds_toArray, List.set_cons_zero, List.set_cons_succ]
      refine wpAnyH_take (i := 11) (v := ?_) rfl (by kernel_rfl) (by kernel_rfl) (by kernel_rfl) (fun _ _ _ h => h) (Or.inl ⟨by rfl, ?_⟩) hHeld ?_
      rotate_left
      · intro w hSw; (try dsimp only at hSw); go_simp; (try with_reducible rfl)
      try simp only [Act.put, List.setIfInBounds_toArray, List.set_cons_zero, List.set_cons_succ]
      refine wpAnyH_take (i := 12) (v := ?_) rfl (by kernel_rfl) (by kernel_rfl) (by kernel_rfl) (fun _ _ _ h => h) (Or.inl ⟨by rfl, ?_⟩) hHeld ?_
      rotate_left
      · intro w hSw; (try dsimp only at hSw); go_simp; (try with_reducible rfl)
      try simp only [Act.put, List.setIfInBounds_toArray, List.set_cons_zero, List.set_cons_succ]
      refine wpAnyH_ready (rs := [1, 4]) (by kernel_rfl) (by simp) ?_
      refine AllReadyH.cons rfl (fun K hK => ?_) (AllReadyH.cons rfl (fun K hK => ?_) AllReadyH.nil)
      · skip
        go_simp
        refine hK.out _ _ hS0 (fun hHeld => ?_)
        clear hK K
        try simp only [Act.put, List.setIfInBounds_toArray, List.set_cons_zero, List.set_cons_succ]
        clear hHeld0
        have hHeld0 := hHeld
        refine wpAnyH_ready (rs := [4]) (by kernel_rfl) (by simp) ?_
        refine AllReadyH.cons rfl (fun K hK => ?_) AllReadyH.nil
        refine step_call rfl 44 call44 #[.tmp 32] #[3] rfl #[.int .i64 (p0 : Int)] (by simp [Act.eval, Act.put]) ?_; refine (item44_any p0 _ hlv0).mono ?_; rintro e w1 ⟨rfl, hb⟩; refine ⟨_, rfl, ?_⟩; have hbw : Below W5.heap.size W5 w1 := ⟨hb.os, hb.tape, hb.output, hb.size, hb.block⟩; have HL1 := Lib.hid (HL0.out.later hbw); have hS1 := hS0.later hbw; have HF1 := Lib.hid (HF0.out.later hbw); have HZ1 : Hid (w1.heap[w.heap.size + 1]? = some Z57) := ((hbw.block _ (lt_of_block HZ0.out)).trans HZ0.out); obtain ⟨_, _, _, rx1, _⟩ := HL1.out.cells; have hs1 := hbw.size; clear hb hbw
        refine hK.out _ _ hS1 (fun hHeld => ?_)
        clear hK K
        try simp only [Act.put, List.setIfInBounds_toArray, List.set_cons_zero, List.set_cons_succ]
        clear hHeld0
        have hHeld0 := hHeld
        refine wpAnyH_ready (rs := [7]) (by kernel_rfl) (by simp) ?_
        refine AllReadyH.cons rfl (fun K hK => ?_) AllReadyH.nil
        refine step_call rfl 44 call44 #[.tmp 35] #[3] rfl #[.int .i64 (p1 : Int)] (by simp [Act.eval, Act.put]) ?_; refine (item44_any p1 _ hlv1).mono ?_; rintro e w2 ⟨rfl, hb⟩; refine ⟨_, rfl, ?_⟩; have hbw : Below w1.heap.size w1 w2 := ⟨hb.os, hb.tape, hb.output, hb.size, hb.block⟩; have HL2 := Lib.hid (HL1.out.later hbw); have hS2 := hS1.later hbw; have HF2 := Lib.hid (HF1.out.later hbw); have HZ2 : Hid (w2.heap[w.heap.size + 1]? = some Z57) := ((hbw.block _ (lt_of_block HZ1.out)).trans HZ1.out); obtain ⟨_, _, _, rx2, _⟩ := HL2.out.cells; have hs2 := hbw.size; clear hb hbw
        refine hK.out _ _ hS2 (fun hHeld => ?_)
        clear hK K
        try simp only [Act.put, List.setIfInBounds_toArray, List.set_cons_zero, List.set_cons_succ]
        clear hHeld0
        have hHeld0 := hHeld
        refine wpAnyH_ready (rs := [10]) (by kernel_rfl) (by simp) ?_
        refine AllReadyH.cons rfl (fun K hK => ?_) AllReadyH.nil
        refine step_call rfl 44 call44 #[.tmp 38] #[3] rfl #[.int .i64 (p2 : Int)] (by simp [Act.eval, Act.put]) ?_; refine (item44_any p2 _ hlv2).mono ?_; rintro e w3 ⟨rfl, hb⟩; refine ⟨_, rfl, ?_⟩; have hbw : Below w2.heap.size w2 w3 := ⟨hb.os, hb.tape, hb.output, hb.size, hb.block⟩; have HL3 := Lib.hid (HL2.out.later hbw); have hS3 := hS2.later hbw; have HF3 := Lib.hid (HF2.out.later hbw); have HZ3 : Hid (w3.heap[w.heap.size + 1]? = some Z57) := ((hbw.block _ (lt_of_block HZ2.out)).trans HZ2.out); obtain ⟨_, _, _, rx3, _⟩ := HL3.out.cells; have hs3 := hbw.size; clear hb hbw
        refine hK.out _ _ hS3 (fun hHeld => ?_)
        clear hK K
        try simp only [Act.put, List.setIfInBounds_toArray, List.set_cons_zero, List.set_cons_succ]
        clear hHeld0
        have hHeld0 := hHeld
        refine wpAnyH_ready (rs := [13]) (by kernel_rfl) (by simp) ?_
        refine AllReadyH.cons rfl (fun K hK => ?_) AllReadyH.nil
        refine step_call rfl 67 call67 #[.tmp 41] #[44] rfl #[.slice FA FL FC] (by simp [Act.eval, Act.put]) ?_; refine (items67_any _ y.d w3 HF3.out hyd HDL.out).mono ?_; rintro e w4 ⟨v0, v1, v2, v3, rfl, hx, hbw⟩; refine ⟨_, rfl, ?_⟩; obtain ⟨xk, xn, xt, xA, xm, xc, rfl, rfl, rfl, rfl⟩ := hx.shape; have HX := Lib.hid hx; have HL4 := Lib.hid (HL3.out.later hbw); have hS4 := hS3.later hbw; have hS4a : ∀ o, MS (w4.alloc o) tb p0 p1 p2 (.slice FA FL FC) := (fun o => hS4.later (below_al _ _)); have hS4b : ∀ o1 o2, MS ((w4.alloc o1).alloc o2) tb p0 p1 p2 (.slice FA FL FC) := (fun o1 o2 => hS4.later (al2 _ _ _)); have HZ4 : Hid (w4.heap[w.heap.size + 1]? = some Z57) := ((hbw.block _ (lt_of_block HZ3.out)).trans HZ3.out); obtain ⟨_, _, _, rx4, _⟩ := HL4.out.cells; have rx4a := HL4.out.al.1; have rx4b := HL4.out.al.2; have hs4 := hbw.size; clear hbw hx
        refine hK.out _ _ hS4 (fun hHeld => ?_)
        clear hK K
        try simp only [Act.put, List.setIfInBounds_toArray, List.set_cons_zero, List.set_cons_succ]
        clear hHeld0
        have hHeld0 := hHeld
        refine wpAnyH_ready (rs := [14]) (by kernel_rfl) (by simp) ?_
        refine AllReadyH.cons rfl (fun K hK => ?_) AllReadyH.nil
        go_simp
        refine hK.out _ _ (hS4a _) (fun hHeld => ?_)
        clear hK K
        try simp only [Act.put, List.setIfInBounds_toArray, List.set_cons_zero, List.set_cons_succ]
        clear hHeld0
        have hHeld0 := hHeld
        refine wpAnyH_take (i := 15) (v := ?_) rfl (by kernel_rfl) (by kernel_rfl) (by kernel_rfl) (fun _ _ _ h => h) (Or.inl ⟨by rfl, ?_⟩) hHeld ?_
        rotate_left
        · intro w hSw; (try dsimp only at hSw); go_simp; (try with_reducible rfl)
        try simp only [Act.put, List.setIfInBounds_toArray, List.set_cons_zero, List.set_cons_succ]
        refine wpAnyH_ready (rs := [16]) (by kernel_rfl) (by simp) ?_
        refine AllReadyH.cons rfl (fun K hK => ?_) AllReadyH.nil
        go_simp
        refine hK.out _ _ (hS4b _ _) (fun hHeld => ?_)
        clear hK K
        try simp only [Act.put, List.setIfInBounds_toArray, List.set_cons_zero, List.set_cons_succ]
        clear hHeld0
        have hHeld0 := hHeld
        refine wpAnyH_ready (rs := [17]) (by kernel_rfl) (by simp) ?_
        refine AllReadyH.cons rfl (fun K hK => ?_) AllReadyH.nil
        refine step_append_lies _ rfl (.tmp 30) (.tmp 45) 55 rfl base 57 j0 zeroItem 4 56 t55 hj0 hjz0 hjz1 hjz2 rfl (by decide) V xs.length vs (by simp [Act.eval, Act.put]) ((HL4.out.row.alloc _).alloc _) ⟨w4.heap.size + 1, 0, none⟩ 1 1 [.int .i64 3, .int .u64 0, .string ⟨#[]⟩, .slice (some ⟨w4.heap.size, 0, none⟩) 4 4] (by simp [Act.eval, Act.put]) rfl (news4b _ _ _ _ _ _ _) (one4 _ _ _ _ _ _) (by omega) (by unfold maxLen; omega) (by omega) (by have h1 := HL4.out.hi; simp; omega) (w4.heap.size + 2) (by simp) ?_; intro g2 cap w6 hown hgrow hat hlt2; obtain ⟨hn6, hmid, hk6⟩ := HL3.out.mat HL4.out HX.out hs4 hown hgrow hat hlt2 hlv0 hlv1 hlv2; have HN6 := Lib.hid hn6; have hS6 : MS w6 tb p0 p1 p2 (.slice FA FL FC) := hS4.off (hk6 tb hS4.lt HTB.out.2.2); have HZ6 : Hid (w6.heap[w.heap.size + 1]? = some Z57) := ((hk6 _ (lt_of_block HZ4.out) (fun e => by have := HL4.out.own _ e; omega)).trans HZ4.out); have hS7 : ∀ v, MS (w6.setCell ⟨w.heap.size + 1 + 1, 3, none⟩ v) tb p0 p1 p2 (.slice FA FL FC) := (fun v => hS6.off (Below.heap_setCell _ _ _ _ HTB.out.2.1)); have z3 := cell_of_row w6 (w.heap.size + 1 + 1) 3 _ _ _ hmid; have zf : w6.frozen? ⟨w.heap.size + 1 + 1, 3, none⟩ = false := (by simp only [World.frozen?, hmid]; rfl); simp only [List.getElem?_toArray, List.getElem?_cons_zero, List.getElem?_cons_succ] at z3; clear hn6 hmid hk6 hown hgrow hat hlt2
        refine hK.out _ _ hS6 (fun hHeld => ?_)
        clear hK K
        try simp only [Act.put, List.setIfInBounds_toArray, List.set_cons_zero, List.set_cons_succ]
        clear hHeld0
        have hHeld0 := hHeld
        refine wpAnyH_take (i := 18) (v := ?_) rfl (by kernel_rfl) (by kernel_rfl) (by kernel_rfl) (fun _ _ _ h => h) (Or.inl ⟨by rfl, ?_⟩) hHeld ?_
        rotate_left
        · intro w hSw; (try dsimp only at hSw); go_simp; (try with_reducible rfl)
        try simp only [Act.put, List.setIfInBounds_toArray, List.set_cons_zero, List.set_cons_succ]
        refine wpAnyH_ready (rs := [19]) (by kernel_rfl) (by simp) ?_
        refine AllReadyH.cons rfl (fun K hK => ?_) AllReadyH.nil
        go_simp
        refine hK.out _ _ (hS7 _) (fun hHeld => ?_)
        clear hK K
        try simp only [Act.put, List.setIfInBounds_toArray, List.set_cons_zero, List.set_cons_succ]
        clear hHeld0
        have hHeld0 := hHeld
        refine wpAnyH_done (by kernel_rfl) ?_ _
        (have hend := hHeld; clear hHeld hHeld0 hend)
        go_wp2_with fail
        go_roundw
        case rel =>
          refine ⟨k + 1, _, _, by omega, by go_num, by rw [← HXS.out]; exact HN6.out, ?_⟩
          show _ = _
          rw [Below.heap_setCell _ _ _ _ (by simp)]; exact HZ6.out
        case measure => simp [intOf]; omega
      · skip
        refine step_call rfl 44 call44 #[.tmp 32] #[3] rfl #[.int .i64 (p0 : Int)] (by simp [Act.eval, Act.put]) ?_; refine (item44_any p0 _ hlv0).mono ?_; rintro e w1 ⟨rfl, hb⟩; refine ⟨_, rfl, ?_⟩; have hbw : Below W5.heap.size W5 w1 := ⟨hb.os, hb.tape, hb.output, hb.size, hb.block⟩; have HL1 := Lib.hid (HL0.out.later hbw); have hS1 := hS0.later hbw; have HF1 := Lib.hid (HF0.out.later hbw); have HZ1 : Hid (w1.heap[w.heap.size + 1]? = some Z57) := ((hbw.block _ (lt_of_block HZ0.out)).trans HZ0.out); obtain ⟨_, _, _, rx1, _⟩ := HL1.out.cells; have hs1 := hbw.size; clear hb hbw
        refine hK.out _ _ hS1 (fun hHeld => ?_)
        clear hK K
        try simp only [Act.put, List.setIfInBounds_toArray, List.set_cons_zero, List.set_cons_succ]
        clear hHeld0
        have hHeld0 := hHeld
        refine wpAnyH_ready (rs := [1, 7]) (by kernel_rfl) (by simp) ?_
        refine AllReadyH.cons rfl (fun K hK => ?_) (AllReadyH.cons rfl (fun K hK => ?_) AllReadyH.nil)
        · skip
          go_simp
          refine hK.out _ _ hS1 (fun hHeld => ?_)
          clear hK K
          try simp only [Act.put, List.setIfInBounds_toArray, List.set_cons_zero, List.set_cons_succ]
          clear hHeld0
          have hHeld0 := hHeld
          refine wpAnyH_ready (rs := [7]) (by kernel_rfl) (by simp) ?_
          refine AllReadyH.cons rfl (fun K hK => ?_) AllReadyH.nil
          refine step_call rfl 44 call44 #[.tmp 35] #[3] rfl #[.int .i64 (p1 : Int)] (by simp [Act.eval, Act.put]) ?_; refine (item44_any p1 _ hlv1).mono ?_; rintro e w2 ⟨rfl, hb⟩; refine ⟨_, rfl, ?_⟩; have hbw : Below w1.heap.size w1 w2 := ⟨hb.os, hb.tape, hb.output, hb.size, hb.block⟩; have HL2 := Lib.hid (HL1.out.later hbw); have hS2 := hS1.later hbw; have HF2 := Lib.hid (HF1.out.later hbw); have HZ2 : Hid (w2.heap[w.heap.size + 1]? = some Z57) := ((hbw.block _ (lt_of_block HZ1.out)).trans HZ1.out); obtain ⟨_, _, _, rx2, _⟩ := HL2.out.cells; have hs2 := hbw.size; clear hb hbw
          refine hK.out _ _ hS2 (fun hHeld => ?_)
          clear hK K
          try simp only [Act.put, List.setIfInBounds_toArray, List.set_cons_zero, List.set_cons_succ]
          clear hHeld0
          have hHeld0 := hHeld
          refine wpAnyH_ready (rs := [10]) (by kernel_rfl) (by simp) ?_
          refine AllReadyH.cons rfl (fun K hK => ?_) AllReadyH.nil
          refine step_call rfl 44 call44 #[.tmp 38] #[3] rfl #[.int .i64 (p2 : Int)] (by simp [Act.eval, Act.put]) ?_; refine (item44_any p2 _ hlv2).mono ?_; rintro e w3 ⟨rfl, hb⟩; refine ⟨_, rfl, ?_⟩; have hbw : Below w2.heap.size w2 w3 := ⟨hb.os, hb.tape, hb.output, hb.size, hb.block⟩; have HL3 := Lib.hid (HL2.out.later hbw); have hS3 := hS2.later hbw; have HF3 := Lib.hid (HF2.out.later hbw); have HZ3 : Hid (w3.heap[w.heap.size + 1]? = some Z57) := ((hbw.block _ (lt_of_block HZ2.out)).trans HZ2.out); obtain ⟨_, _, _, rx3, _⟩ := HL3.out.cells; have hs3 := hbw.size; clear hb hbw
          refine hK.out _ _ hS3 (fun hHeld => ?_)
          clear hK K
          try simp only [Act.put, List.setIfInBounds_toArray, List.set_cons_zero, List.set_cons_succ]
          clear hHeld0
          have hHeld0 := hHeld
          refine wpAnyH_ready (rs := [13]) (by kernel_rfl) (by simp) ?_
          refine AllReadyH.cons rfl (fun K hK => ?_) AllReadyH.nil
          refine step_call rfl 67 call67 #[.tmp 41] #[44] rfl #[.slice FA FL FC] (by simp [Act.eval, Act.put]) ?_; refine (items67_any _ y.d w3 HF3.out hyd HDL.out).mono ?_; rintro e w4 ⟨v0, v1, v2, v3, rfl, hx, hbw⟩; refine ⟨_, rfl, ?_⟩; obtain ⟨xk, xn, xt, xA, xm, xc, rfl, rfl, rfl, rfl⟩ := hx.shape; have HX := Lib.hid hx; have HL4 := Lib.hid (HL3.out.later hbw); have hS4 := hS3.later hbw; have hS4a : ∀ o, MS (w4.alloc o) tb p0 p1 p2 (.slice FA FL FC) := (fun o => hS4.later (below_al _ _)); have hS4b : ∀ o1 o2, MS ((w4.alloc o1).alloc o2) tb p0 p1 p2 (.slice FA FL FC) := (fun o1 o2 => hS4.later (al2 _ _ _)); have HZ4 : Hid (w4.heap[w.heap.size + 1]? = some Z57) := ((hbw.block _ (lt_of_block HZ3.out)).trans HZ3.out); obtain ⟨_, _, _, rx4, _⟩ := HL4.out.cells; have rx4a := HL4.out.al.1; have rx4b := HL4.out.al.2; have hs4 := hbw.size; clear hbw hx
          refine hK.out _ _ hS4 (fun hHeld => ?_)
          clear hK K
          try simp only [Act.put, List.setIfInBounds_toArray, List.set_cons_zero, List.set_cons_succ]
          clear hHeld0
          have hHeld0 := hHeld
          refine wpAnyH_ready (rs := [14]) (by kernel_rfl) (by simp) ?_
          refine AllReadyH.cons rfl (fun K hK => ?_) AllReadyH.nil
          go_simp
          refine hK.out _ _ (hS4a _) (fun hHeld => ?_)
          clear hK K
          try simp only [Act.put, List.setIfInBounds_toArray, List.set_cons_zero, List.set_cons_succ]
          clear hHeld0
          have hHeld0 := hHeld
          refine wpAnyH_take (i := 15) (v := ?_) rfl (by kernel_rfl) (by kernel_rfl) (by kernel_rfl) (fun _ _ _ h => h) (Or.inl ⟨by rfl, ?_⟩) hHeld ?_
          rotate_left
          · intro w hSw; (try dsimp only at hSw); go_simp; (try with_reducible rfl)
          try simp only [Act.put, List.setIfInBounds_toArray, List.set_cons_zero, List.set_cons_succ]
          refine wpAnyH_ready (rs := [16]) (by kernel_rfl) (by simp) ?_
          refine AllReadyH.cons rfl (fun K hK => ?_) AllReadyH.nil
          go_simp
          refine hK.out _ _ (hS4b _ _) (fun hHeld => ?_)
          clear hK K
          try simp only [Act.put, List.setIfInBounds_toArray, List.set_cons_zero, List.set_cons_succ]
          clear hHeld0
          have hHeld0 := hHeld
          refine wpAnyH_ready (rs := [17]) (by kernel_rfl) (by simp) ?_
          refine AllReadyH.cons rfl (fun K hK => ?_) AllReadyH.nil
          refine step_append_lies _ rfl (.tmp 30) (.tmp 45) 55 rfl base 57 j0 zeroItem 4 56 t55 hj0 hjz0 hjz1 hjz2 rfl (by decide) V xs.length vs (by simp [Act.eval, Act.put]) ((HL4.out.row.alloc _).alloc _) ⟨w4.heap.size + 1, 0, none⟩ 1 1 [.int .i64 3, .int .u64 0, .string ⟨#[]⟩, .slice (some ⟨w4.heap.size, 0, none⟩) 4 4] (by simp [Act.eval, Act.put]) rfl (news4b _ _ _ _ _ _ _) (one4 _ _ _ _ _ _) (by omega) (by unfold maxLen; omega) (by omega) (by have h1 := HL4.out.hi; simp; omega) (w4.heap.size + 2) (by simp) ?_; intro g2 cap w6 hown hgrow hat hlt2; obtain ⟨hn6, hmid, hk6⟩ := HL3.out.mat HL4.out HX.out hs4 hown hgrow hat hlt2 hlv0 hlv1 hlv2; have HN6 := Lib.hid hn6; have hS6 : MS w6 tb p0 p1 p2 (.slice FA FL FC) := hS4.off (hk6 tb hS4.lt HTB.out.2.2); have HZ6 : Hid (w6.heap[w.heap.size + 1]? = some Z57) := ((hk6 _ (lt_of_block HZ4.out) (fun e => by have := HL4.out.own _ e; omega)).trans HZ4.out); have hS7 : ∀ v, MS (w6.setCell ⟨w.heap.size + 1 + 1, 3, none⟩ v) tb p0 p1 p2 (.slice FA FL FC) := (fun v => hS6.off (Below.heap_setCell _ _ _ _ HTB.out.2.1)); have z3 := cell_of_row w6 (w.heap.size + 1 + 1) 3 _ _ _ hmid; have zf : w6.frozen? ⟨w.heap.size + 1 + 1, 3, none⟩ = false := (by simp only [World.frozen?, hmid]; rfl); simp only [List.getElem?_toArray, List.getElem?_cons_zero, List.getElem?_cons_succ] at z3; clear hn6 hmid hk6 hown hgrow hat hlt2
          refine hK.out _ _ hS6 (fun hHeld => ?_)
          clear hK K
          try simp only [Act.put, List.setIfInBounds_toArray, List.set_cons_zero, List.set_cons_succ]
          clear hHeld0
          have hHeld0 := hHeld
          refine wpAnyH_take (i := 18) (v := ?_) rfl (by kernel_rfl) (by kernel_rfl) (by kernel_rfl) (fun _ _ _ h => h) (Or.inl ⟨by rfl, ?_⟩) hHeld ?_
          rotate_left
          · intro w hSw; (try dsimp only at hSw); go_simp; (try with_reducible rfl)
          try simp only [Act.put, List.setIfInBounds_toArray, List.set_cons_zero, List.set_cons_succ]
          refine wpAnyH_ready (rs := [19]) (by kernel_rfl) (by simp) ?_
          refine AllReadyH.cons rfl (fun K hK => ?_) AllReadyH.nil
          go_simp
          refine hK.out _ _ (hS7 _) (fun hHeld => ?_)
          clear hK K
          try simp only [Act.put, List.setIfInBounds_toArray, List.set_cons_zero, List.set_cons_succ]
          clear hHeld0
          have hHeld0 := hHeld
          refine wpAnyH_done (by kernel_rfl) ?_ _
          (have hend := hHeld; clear hHeld hHeld0 hend)
          go_wp2_with fail
          go_roundw
          case rel =>
            refine ⟨k + 1, _, _, by omega, by go_num, by rw [← HXS.out]; exact HN6.out, ?_⟩
            show _ = _
            rw [Below.heap_setCell _ _ _ _ (by simp)]; exact HZ6.out
          case measure => simp [intOf]; omega
        · skip
          refine step_call rfl 44 call44 #[.tmp 35] #[3] rfl #[.int .i64 (p1 : Int)] (by simp [Act.eval, Act.put]) ?_; refine (item44_any p1 _ hlv1).mono ?_; rintro e w2 ⟨rfl, hb⟩; refine ⟨_, rfl, ?_⟩; have hbw : Below w1.heap.size w1 w2 := ⟨hb.os, hb.tape, hb.output, hb.size, hb.block⟩; have HL2 := Lib.hid (HL1.out.later hbw); have hS2 := hS1.later hbw; have HF2 := Lib.hid (HF1.out.later hbw); have HZ2 : Hid (w2.heap[w.heap.size + 1]? = some Z57) := ((hbw.block _ (lt_of_block HZ1.out)).trans HZ1.out); obtain ⟨_, _, _, rx2, _⟩ := HL2.out.cells; have hs2 := hbw.size; clear hb hbw
          refine hK.out _ _ hS2 (fun hHeld => ?_)
          clear hK K
          try simp only [Act.put, List.setIfInBounds_toArray, List.set_cons_zero, List.set_cons_succ]
          clear hHeld0
          have hHeld0 := hHeld
          refine wpAnyH_ready (rs := [1, 10]) (by kernel_rfl) (by simp) ?_
          refine AllReadyH.cons rfl (fun K hK => ?_) (AllReadyH.cons rfl (fun K hK => ?_) AllReadyH.nil)
          · skip
            go_simp
            refine hK.out _ _ hS2 (fun hHeld => ?_)
            clear hK K
            try simp only [Act.put, List.setIfInBounds_toArray, List.set_cons_zero, List.set_cons_succ]
            clear hHeld0
            have hHeld0 := hHeld
            refine wpAnyH_ready (rs := [10]) (by kernel_rfl) (by simp) ?_
            refine AllReadyH.cons rfl (fun K hK => ?_) AllReadyH.nil
            refine step_call rfl 44 call44 #[.tmp 38] #[3] rfl #[.int .i64 (p2 : Int)] (by simp [Act.eval, Act.put]) ?_; refine (item44_any p2 _ hlv2).mono ?_; rintro e w3 ⟨rfl, hb⟩; refine ⟨_, rfl, ?_⟩; have hbw : Below w2.heap.size w2 w3 := ⟨hb.os, hb.tape, hb.output, hb.size, hb.block⟩; have HL3 := Lib.hid (HL2.out.later hbw); have hS3 := hS2.later hbw; have HF3 := Lib.hid (HF2.out.later hbw); have HZ3 : Hid (w3.heap[w.heap.size + 1]? = some Z57) := ((hbw.block _ (lt_of_block HZ2.out)).trans HZ2.out); obtain ⟨_, _, _, rx3, _⟩ := HL3.out.cells; have hs3 := hbw.size; clear hb hbw
            refine hK.out _ _ hS3 (fun hHeld => ?_)
            clear hK K
            try simp only [Act.put, List.setIfInBounds_toArray, List.set_cons_zero, List.set_cons_succ]
            clear hHeld0
            have hHeld0 := hHeld
            refine wpAnyH_ready (rs := [13]) (by kernel_rfl) (by simp) ?_
            refine AllReadyH.cons rfl (fun K hK => ?_) AllReadyH.nil
            refine step_call rfl 67 call67 #[.tmp 41] #[44] rfl #[.slice FA FL FC] (by simp [Act.eval, Act.put]) ?_; refine (items67_any _ y.d w3 HF3.out hyd HDL.out).mono ?_; rintro e w4 ⟨v0, v1, v2, v3, rfl, hx, hbw⟩; refine ⟨_, rfl, ?_⟩; obtain ⟨xk, xn, xt, xA, xm, xc, rfl, rfl, rfl, rfl⟩ := hx.shape; have HX := Lib.hid hx; have HL4 := Lib.hid (HL3.out.later hbw); have hS4 := hS3.later hbw; have hS4a : ∀ o, MS (w4.alloc o) tb p0 p1 p2 (.slice FA FL FC) := (fun o => hS4.later (below_al _ _)); have hS4b : ∀ o1 o2, MS ((w4.alloc o1).alloc o2) tb p0 p1 p2 (.slice FA FL FC) := (fun o1 o2 => hS4.later (al2 _ _ _)); have HZ4 : Hid (w4.heap[w.heap.size + 1]? = some Z57) := ((hbw.block _ (lt_of_block HZ3.out)).trans HZ3.out); obtain ⟨_, _, _, rx4, _⟩ := HL4.out.cells; have rx4a := HL4.out.al.1; have rx4b := HL4.out.al.2; have hs4 := hbw.size; clear hbw hx
            refine hK.out _ _ hS4 (fun hHeld => ?_)
            clear hK K
            try simp only [Act.put, List.setIfInBounds_toArray, List.set_cons_zero, List.set_cons_succ]
            clear hHeld0
            have hHeld0 := hHeld
            refine wpAnyH_ready (rs := [14]) (by kernel_rfl) (by simp) ?_
            refine AllReadyH.cons rfl (fun K hK => ?_) AllReadyH.nil
            go_simp
            refine hK.out _ _ (hS4a _) (fun hHeld => ?_)
            clear hK K
            try simp only [Act.put, List.setIfInBounds_toArray, List.set_cons_zero, List.set_cons_succ]
            clear hHeld0
            have hHeld0 := hHeld
            refine wpAnyH_take (i := 15) (v := ?_) rfl (by kernel_rfl) (by kernel_rfl) (by kernel_rfl) (fun _ _ _ h => h) (Or.inl ⟨by rfl, ?_⟩) hHeld ?_
            rotate_left
            · intro w hSw; (try dsimp only at hSw); go_simp; (try with_reducible rfl)
            try simp only [Act.put, List.setIfInBounds_toArray, List.set_cons_zero, List.set_cons_succ]
            refine wpAnyH_ready (rs := [16]) (by kernel_rfl) (by simp) ?_
            refine AllReadyH.cons rfl (fun K hK => ?_) AllReadyH.nil
            go_simp
            refine hK.out _ _ (hS4b _ _) (fun hHeld => ?_)
            clear hK K
            try simp only [Act.put, List.setIfInBounds_toArray, List.set_cons_zero, List.set_cons_succ]
            clear hHeld0
            have hHeld0 := hHeld
            refine wpAnyH_ready (rs := [17]) (by kernel_rfl) (by simp) ?_
            refine AllReadyH.cons rfl (fun K hK => ?_) AllReadyH.nil
            refine step_append_lies _ rfl (.tmp 30) (.tmp 45) 55 rfl base 57 j0 zeroItem 4 56 t55 hj0 hjz0 hjz1 hjz2 rfl (by decide) V xs.length vs (by simp [Act.eval, Act.put]) ((HL4.out.row.alloc _).alloc _) ⟨w4.heap.size + 1, 0, none⟩ 1 1 [.int .i64 3, .int .u64 0, .string ⟨#[]⟩, .slice (some ⟨w4.heap.size, 0, none⟩) 4 4] (by simp [Act.eval, Act.put]) rfl (news4b _ _ _ _ _ _ _) (one4 _ _ _ _ _ _) (by omega) (by unfold maxLen; omega) (by omega) (by have h1 := HL4.out.hi; simp; omega) (w4.heap.size + 2) (by simp) ?_; intro g2 cap w6 hown hgrow hat hlt2; obtain ⟨hn6, hmid, hk6⟩ := HL3.out.mat HL4.out HX.out hs4 hown hgrow hat hlt2 hlv0 hlv1 hlv2; have HN6 := Lib.hid hn6; have hS6 : MS w6 tb p0 p1 p2 (.slice FA FL FC) := hS4.off (hk6 tb hS4.lt HTB.out.2.2); have HZ6 : Hid (w6.heap[w.heap.size + 1]? = some Z57) := ((hk6 _ (lt_of_block HZ4.out) (fun e => by have := HL4.out.own _ e; omega)).trans HZ4.out); have hS7 : ∀ v, MS (w6.setCell ⟨w.heap.size + 1 + 1, 3, none⟩ v) tb p0 p1 p2 (.slice FA FL FC) := (fun v => hS6.off (Below.heap_setCell _ _ _ _ HTB.out.2.1)); have z3 := cell_of_row w6 (w.heap.size + 1 + 1) 3 _ _ _ hmid; have zf : w6.frozen? ⟨w.heap.size + 1 + 1, 3, none⟩ = false := (by simp only [World.frozen?, hmid]; rfl); simp only [List.getElem?_toArray, List.getElem?_cons_zero, List.getElem?_cons_succ] at z3; clear hn6 hmid hk6 hown hgrow hat hlt2
            refine hK.out _ _ hS6 (fun hHeld => ?_)
            clear hK K
            try simp only [Act.put, List.setIfInBounds_toArray, List.set_cons_zero, List.set_cons_succ]
            clear hHeld0
            have hHeld0 := hHeld
            refine wpAnyH_take (i := 18) (v := ?_) rfl (by kernel_rfl) (by kernel_rfl) (by kernel_rfl) (fun _ _ _ h => h) (Or.inl ⟨by rfl, ?_⟩) hHeld ?_
            rotate_left
            · intro w hSw; (try dsimp only at hSw); go_simp; (try with_reducible rfl)
            try simp only [Act.put, List.setIfInBounds_toArray, List.set_cons_zero, List.set_cons_succ]
            refine wpAnyH_ready (rs := [19]) (by kernel_rfl) (by simp) ?_
            refine AllReadyH.cons rfl (fun K hK => ?_) AllReadyH.nil
            go_simp
            refine hK.out _ _ (hS7 _) (fun hHeld => ?_)
            clear hK K
            try simp only [Act.put, List.setIfInBounds_toArray, List.set_cons_zero, List.set_cons_succ]
            clear hHeld0
            have hHeld0 := hHeld
            refine wpAnyH_done (by kernel_rfl) ?_ _
            (have hend := hHeld; clear hHeld hHeld0 hend)
            go_wp2_with fail
            go_roundw
            case rel =>
              refine ⟨k + 1, _, _, by omega, by go_num, by rw [← HXS.out]; exact HN6.out, ?_⟩
              show _ = _
              rw [Below.heap_setCell _ _ _ _ (by simp)]; exact HZ6.out
            case measure => simp [intOf]; omega
          · skip
            refine step_call rfl 44 call44 #[.tmp 38] #[3] rfl #[.int .i64 (p2 : Int)] (by simp [Act.eval, Act.put]) ?_; refine (item44_any p2 _ hlv2).mono ?_; rintro e w3 ⟨rfl, hb⟩; refine ⟨_, rfl, ?_⟩; have hbw : Below w2.heap.size w2 w3 := ⟨hb.os, hb.tape, hb.output, hb.size, hb.block⟩; have HL3 := Lib.hid (HL2.out.later hbw); have hS3 := hS2.later hbw; have HF3 := Lib.hid (HF2.out.later hbw); have HZ3 : Hid (w3.heap[w.heap.size + 1]? = some Z57) := ((hbw.block _ (lt_of_block HZ2.out)).trans HZ2.out); obtain ⟨_, _, _, rx3, _⟩ := HL3.out.cells; have hs3 := hbw.size; clear hb hbw
            refine hK.out _ _ hS3 (fun hHeld => ?_)
            clear hK K
            try simp only [Act.put, List.setIfInBounds_toArray, List.set_cons_zero, List.set_cons_succ]
            clear hHeld0
            have hHeld0 := hHeld
            refine wpAnyH_ready (rs := [1, 13]) (by kernel_rfl) (by simp) ?_
            refine AllReadyH.cons rfl (fun K hK => ?_) (AllReadyH.cons rfl (fun K hK => ?_) AllReadyH.nil)
            · skip
              go_simp
              refine hK.out _ _ hS3 (fun hHeld => ?_)
              clear hK K
              try simp only [Act.put, List.setIfInBounds_toArray, List.set_cons_zero, List.set_cons_succ]
              clear hHeld0
              have hHeld0 := hHeld
              refine wpAnyH_ready (rs := [13]) (by kernel_rfl) (by simp) ?_
              refine AllReadyH.cons rfl (fun K hK => ?_) AllReadyH.nil
              refine step_call rfl 67 call67 #[.tmp 41] #[44] rfl #[.slice FA FL FC] (by simp [Act.eval, Act.put]) ?_; refine (items67_any _ y.d w3 HF3.out hyd HDL.out).mono ?_; rintro e w4 ⟨v0, v1, v2, v3, rfl, hx, hbw⟩; refine ⟨_, rfl, ?_⟩; obtain ⟨xk, xn, xt, xA, xm, xc, rfl, rfl, rfl, rfl⟩ := hx.shape; have HX := Lib.hid hx; have HL4 := Lib.hid (HL3.out.later hbw); have hS4 := hS3.later hbw; have hS4a : ∀ o, MS (w4.alloc o) tb p0 p1 p2 (.slice FA FL FC) := (fun o => hS4.later (below_al _ _)); have hS4b : ∀ o1 o2, MS ((w4.alloc o1).alloc o2) tb p0 p1 p2 (.slice FA FL FC) := (fun o1 o2 => hS4.later (al2 _ _ _)); have HZ4 : Hid (w4.heap[w.heap.size + 1]? = some Z57) := ((hbw.block _ (lt_of_block HZ3.out)).trans HZ3.out); obtain ⟨_, _, _, rx4, _⟩ := HL4.out.cells; have rx4a := HL4.out.al.1; have rx4b := HL4.out.al.2; have hs4 := hbw.size; clear hbw hx
              refine hK.out _ _ hS4 (fun hHeld => ?_)
              clear hK K
              try simp only [Act.put, List.setIfInBounds_toArray, List.set_cons_zero, List.set_cons_succ]
              clear hHeld0
              have hHeld0 := hHeld
              refine wpAnyH_ready (rs := [14]) (by kernel_rfl) (by simp) ?_
              refine AllReadyH.cons rfl (fun K hK => ?_) AllReadyH.nil
              go_simp
              refine hK.out _ _ (hS4a _) (fun hHeld => ?_)
              clear hK K
              try simp only [Act.put, List.setIfInBounds_toArray, List.set_cons_zero, List.set_cons_succ]
              clear hHeld0
              have hHeld0 := hHeld
              refine wpAnyH_take (i := 15) (v := ?_) rfl (by kernel_rfl) (by kernel_rfl) (by kernel_rfl) (fun _ _ _ h => h) (Or.inl ⟨by rfl, ?_⟩) hHeld ?_
              rotate_left
              · intro w hSw; (try dsimp only at hSw); go_simp; (try with_reducible rfl)
              try simp only [Act.put, List.setIfInBounds_toArray, List.set_cons_zero, List.set_cons_succ]
              refine wpAnyH_ready (rs := [16]) (by kernel_rfl) (by simp) ?_
              refine AllReadyH.cons rfl (fun K hK => ?_) AllReadyH.nil
              go_simp
              refine hK.out _ _ (hS4b _ _) (fun hHeld => ?_)
              clear hK K
              try simp only [Act.put, List.setIfInBounds_toArray, List.set_cons_zero, List.set_cons_succ]
              clear hHeld0
              have hHeld0 := hHeld
              refine wpAnyH_ready (rs := [17]) (by kernel_rfl) (by simp) ?_
              refine AllReadyH.cons rfl (fun K hK => ?_) AllReadyH.nil
              refine step_append_lies _ rfl (.tmp 30) (.tmp 45) 55 rfl base 57 j0 zeroItem 4 56 t55 hj0 hjz0 hjz1 hjz2 rfl (by decide) V xs.length vs (by simp [Act.eval, Act.put]) ((HL4.out.row.alloc _).alloc _) ⟨w4.heap.size + 1, 0, none⟩ 1 1 [.int .i64 3, .int .u64 0, .string ⟨#[]⟩, .slice (some ⟨w4.heap.size, 0, none⟩) 4 4] (by simp [Act.eval, Act.put]) rfl (news4b _ _ _ _ _ _ _) (one4 _ _ _ _ _ _) (by omega) (by unfold maxLen; omega) (by omega) (by have h1 := HL4.out.hi; simp; omega) (w4.heap.size + 2) (by simp) ?_; intro g2 cap w6 hown hgrow hat hlt2; obtain ⟨hn6, hmid, hk6⟩ := HL3.out.mat HL4.out HX.out hs4 hown hgrow hat hlt2 hlv0 hlv1 hlv2; have HN6 := Lib.hid hn6; have hS6 : MS w6 tb p0 p1 p2 (.slice FA FL FC) := hS4.off (hk6 tb hS4.lt HTB.out.2.2); have HZ6 : Hid (w6.heap[w.heap.size + 1]? = some Z57) := ((hk6 _ (lt_of_block HZ4.out) (fun e => by have := HL4.out.own _ e; omega)).trans HZ4.out); have hS7 : ∀ v, MS (w6.setCell ⟨w.heap.size + 1 + 1, 3, none⟩ v) tb p0 p1 p2 (.slice FA FL FC) := (fun v => hS6.off (Below.heap_setCell _ _ _ _ HTB.out.2.1)); have z3 := cell_of_row w6 (w.heap.size + 1 + 1) 3 _ _ _ hmid; have zf : w6.frozen? ⟨w.heap.size + 1 + 1, 3, none⟩ = false := (by simp only [World.frozen?, hmid]; rfl); simp only [List.getElem?_toArray, List.getElem?_cons_zero, List.getElem?_cons_succ] at z3; clear hn6 hmid hk6 hown hgrow hat hlt2
              refine hK.out _ _ hS6 (fun hHeld => ?_)
              clear hK K
              try simp only [Act.put, List.setIfInBounds_toArray, List.set_cons_zero, List.set_cons_succ]
              clear hHeld0
              have hHeld0 := hHeld
              refine wpAnyH_take (i := 18) (v := ?_) rfl (by kernel_rfl) (by kernel_rfl) (by kernel_rfl) (fun _ _ _ h => h) (Or.inl ⟨by rfl, ?_⟩) hHeld ?_
              rotate_left
              · intro w hSw; (try dsimp only at hSw); go_simp; (try with_reducible rfl)
              try simp only [Act.put, List.setIfInBounds_toArray, List.set_cons_zero, List.set_cons_succ]
              refine wpAnyH_ready (rs := [19]) (by kernel_rfl) (by simp) ?_
              refine AllReadyH.cons rfl (fun K hK => ?_) AllReadyH.nil
              go_simp
              refine hK.out _ _ (hS7 _) (fun hHeld => ?_)
              clear hK K
              try simp only [Act.put, List.setIfInBounds_toArray, List.set_cons_zero, List.set_cons_succ]
              clear hHeld0
              have hHeld0 := hHeld
              refine wpAnyH_done (by kernel_rfl) ?_ _
              (have hend := hHeld; clear hHeld hHeld0 hend)
              go_wp2_with fail
              go_roundw
              case rel =>
                refine ⟨k + 1, _, _, by omega, by go_num, by rw [← HXS.out]; exact HN6.out, ?_⟩
                show _ = _
                rw [Below.heap_setCell _ _ _ _ (by simp)]; exact HZ6.out
              case measure => simp [intOf]; omega
            · skip
              refine step_call rfl 67 call67 #[.tmp 41] #[44] rfl #[.slice FA FL FC] (by simp [Act.eval, Act.put]) ?_; refine (items67_any _ y.d w3 HF3.out hyd HDL.out).mono ?_; rintro e w4 ⟨v0, v1, v2, v3, rfl, hx, hbw⟩; refine ⟨_, rfl, ?_⟩; obtain ⟨xk, xn, xt, xA, xm, xc, rfl, rfl, rfl, rfl⟩ := hx.shape; have HX := Lib.hid hx; have HL4 := Lib.hid (HL3.out.later hbw); have hS4 := hS3.later hbw; have hS4a : ∀ o, MS (w4.alloc o) tb p0 p1 p2 (.slice FA FL FC) := (fun o => hS4.later (below_al _ _)); have hS4b : ∀ o1 o2, MS ((w4.alloc o1).alloc o2) tb p0 p1 p2 (.slice FA FL FC) := (fun o1 o2 => hS4.later (al2 _ _ _)); have HZ4 : Hid (w4.heap[w.heap.size + 1]? = some Z57) := ((hbw.block _ (lt_of_block HZ3.out)).trans HZ3.out); obtain ⟨_, _, _, rx4, _⟩ := HL4.out.cells; have rx4a := HL4.out.al.1; have rx4b := HL4.out.al.2; have hs4 := hbw.size; clear hbw hx
              refine hK.out _ _ hS4 (fun hHeld => ?_)
              clear hK K
              try simp only [Act.put, List.setIfInBounds_toArray, List.set_cons_zero, List.set_cons_succ]
              clear hHeld0
              have hHeld0 := hHeld
              refine wpAnyH_ready (rs := [1, 14]) (by kernel_rfl) (by simp) ?_
              refine AllReadyH.cons rfl (fun K hK => ?_) (AllReadyH.cons rfl (fun K hK => ?_) AllReadyH.nil)
              · skip
                go_simp
                refine hK.out _ _ hS4 (fun hHeld => ?_)
                clear hK K
                try simp only [Act.put, List.setIfInBounds_toArray, List.set_cons_zero, List.set_cons_succ]
                clear hHeld0
                have hHeld0 := hHeld
                refine wpAnyH_ready (rs := [14]) (by kernel_rfl) (by simp) ?_
                refine AllReadyH.cons rfl (fun K hK => ?_) AllReadyH.nil
                go_simp
                refine hK.out _ _ (hS4a _) (fun hHeld => ?_)
                clear hK K
                try simp only [Act.put, List.setIfInBounds_toArray, List.set_cons_zero, List.set_cons_succ]
                clear hHeld0
                have hHeld0 := hHeld
                refine wpAnyH_take (i := 15) (v := ?_) rfl (by kernel_rfl) (by kernel_rfl) (by kernel_rfl) (fun _ _ _ h => h) (Or.inl ⟨by rfl, ?_⟩) hHeld ?_
                rotate_left
                · intro w hSw; (try dsimp only at hSw); go_simp; (try with_reducible rfl)
                try simp only [Act.put, List.setIfInBounds_toArray, List.set_cons_zero, List.set_cons_succ]
                refine wpAnyH_ready (rs := [16]) (by kernel_rfl) (by simp) ?_
                refine AllReadyH.cons rfl (fun K hK => ?_) AllReadyH.nil
                go_simp
                refine hK.out _ _ (hS4b _ _) (fun hHeld => ?_)
                clear hK K
                try simp only [Act.put, List.setIfInBounds_toArray, List.set_cons_zero, List.set_cons_succ]
                clear hHeld0
                have hHeld0 := hHeld
                refine wpAnyH_ready (rs := [17]) (by kernel_rfl) (by simp) ?_
                refine AllReadyH.cons rfl (fun K hK => ?_) AllReadyH.nil
                refine step_append_lies _ rfl (.tmp 30) (.tmp 45) 55 rfl base 57 j0 zeroItem 4 56 t55 hj0 hjz0 hjz1 hjz2 rfl (by decide) V xs.length vs (by simp [Act.eval, Act.put]) ((HL4.out.row.alloc _).alloc _) ⟨w4.heap.size + 1, 0, none⟩ 1 1 [.int .i64 3, .int .u64 0, .string ⟨#[]⟩, .slice (some ⟨w4.heap.size, 0, none⟩) 4 4] (by simp [Act.eval, Act.put]) rfl (news4b _ _ _ _ _ _ _) (one4 _ _ _ _ _ _) (by omega) (by unfold maxLen; omega) (by omega) (by have h1 := HL4.out.hi; simp; omega) (w4.heap.size + 2) (by simp) ?_; intro g2 cap w6 hown hgrow hat hlt2; obtain ⟨hn6, hmid, hk6⟩ := HL3.out.mat HL4.out HX.out hs4 hown hgrow hat hlt2 hlv0 hlv1 hlv2; have HN6 := Lib.hid hn6; have hS6 : MS w6 tb p0 p1 p2 (.slice FA FL FC) := hS4.off (hk6 tb hS4.lt HTB.out.2.2); have HZ6 : Hid (w6.heap[w.heap.size + 1]? = some Z57) := ((hk6 _ (lt_of_block HZ4.out) (fun e => by have := HL4.out.own _ e; omega)).trans HZ4.out); have hS7 : ∀ v, MS (w6.setCell ⟨w.heap.size + 1 + 1, 3, none⟩ v) tb p0 p1 p2 (.slice FA FL FC) := (fun v => hS6.off (Below.heap_setCell _ _ _ _ HTB.out.2.1)); have z3 := cell_of_row w6 (w.heap.size + 1 + 1) 3 _ _ _ hmid; have zf : w6.frozen? ⟨w.heap.size + 1 + 1, 3, none⟩ = false := (by simp only [World.frozen?, hmid]; rfl); simp only [List.getElem?_toArray, List.getElem?_cons_zero, List.getElem?_cons_succ] at z3; clear hn6 hmid hk6 hown hgrow hat hlt2
                refine hK.out _ _ hS6 (fun hHeld => ?_)
                clear hK K
                try simp only [Act.put, List.setIfInBounds_toArray, List.set_cons_zero, List.set_cons_succ]
                clear hHeld0
                have hHeld0 := hHeld
                refine wpAnyH_take (i := 18) (v := ?_) rfl (by kernel_rfl) (by kernel_rfl) (by kernel_rfl) (fun _ _ _ h => h) (Or.inl ⟨by rfl, ?_⟩) hHeld ?_
                rotate_left
                · intro w hSw; (try dsimp only at hSw); go_simp; (try with_reducible rfl)
                try simp only [Act.put, List.setIfInBounds_toArray, List.set_cons_zero, List.set_cons_succ]
                refine wpAnyH_ready (rs := [19]) (by kernel_rfl) (by simp) ?_
                refine AllReadyH.cons rfl (fun K hK => ?_) AllReadyH.nil
                go_simp
                refine hK.out _ _ (hS7 _) (fun hHeld => ?_)
                clear hK K
                try simp only [Act.put, List.setIfInBounds_toArray, List.set_cons_zero, List.set_cons_succ]
                clear hHeld0
                have hHeld0 := hHeld
                refine wpAnyH_done (by kernel_rfl) ?_ _
                (have hend := hHeld; clear hHeld hHeld0 hend)
                go_wp2_with fail
                go_roundw
                case rel =>
                  refine ⟨k + 1, _, _, by omega, by go_num, by rw [← HXS.out]; exact HN6.out, ?_⟩
                  show _ = _
                  rw [Below.heap_setCell _ _ _ _ (by simp)]; exact HZ6.out
                case measure => simp [intOf]; omega
              · skip
                go_simp
                refine hK.out _ _ (hS4a _) (fun hHeld => ?_)
                clear hK K
                try simp only [Act.put, List.setIfInBounds_toArray, List.set_cons_zero, List.set_cons_succ]
                clear hHeld0
                have hHeld0 := hHeld
                refine wpAnyH_take (i := 15) (v := ?_) rfl (by kernel_rfl) (by kernel_rfl) (by kernel_rfl) (fun _ _ _ h => h) (Or.inl ⟨by rfl, ?_⟩) hHeld ?_
                rotate_left
                · intro w hSw; (try dsimp only at hSw); go_simp; (try with_reducible rfl)
                try simp only [Act.put, List.setIfInBounds_toArray, List.set_cons_zero, List.set_cons_succ]
                refine wpAnyH_ready (rs := [1, 16]) (by kernel_rfl) (by simp) ?_
                refine AllReadyH.cons rfl (fun K hK => ?_) (AllReadyH.cons rfl (fun K hK => ?_) AllReadyH.nil)
                · skip
                  go_simp
                  refine hK.out _ _ (hS4a _) (fun hHeld => ?_)
                  clear hK K
                  try simp only [Act.put, List.setIfInBounds_toArray, List.set_cons_zero, List.set_cons_succ]
                  clear hHeld0
                  have hHeld0 := hHeld
                  refine wpAnyH_ready (rs := [16]) (by kernel_rfl) (by simp) ?_
                  refine AllReadyH.cons rfl (fun K hK => ?_) AllReadyH.nil
                  go_simp
                  refine hK.out _ _ (hS4b _ _) (fun hHeld => ?_)
                  clear hK K
                  try simp only [Act.put, List.setIfInBounds_toArray, List.set_cons_zero, List.set_cons_succ]
                  clear hHeld0
                  have hHeld0 := hHeld
                  refine wpAnyH_ready (rs := [17]) (by kernel_rfl) (by simp) ?_
                  refine AllReadyH.cons rfl (fun K hK => ?_) AllReadyH.nil
                  refine step_append_lies _ rfl (.tmp 30) (.tmp 45) 55 rfl base 57 j0 zeroItem 4 56 t55 hj0 hjz0 hjz1 hjz2 rfl (by decide) V xs.length vs (by simp [Act.eval, Act.put]) ((HL4.out.row.alloc _).alloc _) ⟨w4.heap.size + 1, 0, none⟩ 1 1 [.int .i64 3, .int .u64 0, .string ⟨#[]⟩, .slice (some ⟨w4.heap.size, 0, none⟩) 4 4] (by simp [Act.eval, Act.put]) rfl (news4b _ _ _ _ _ _ _) (one4 _ _ _ _ _ _) (by omega) (by unfold maxLen; omega) (by omega) (by have h1 := HL4.out.hi; simp; omega) (w4.heap.size + 2) (by simp) ?_; intro g2 cap w6 hown hgrow hat hlt2; obtain ⟨hn6, hmid, hk6⟩ := HL3.out.mat HL4.out HX.out hs4 hown hgrow hat hlt2 hlv0 hlv1 hlv2; have HN6 := Lib.hid hn6; have hS6 : MS w6 tb p0 p1 p2 (.slice FA FL FC) := hS4.off (hk6 tb hS4.lt HTB.out.2.2); have HZ6 : Hid (w6.heap[w.heap.size + 1]? = some Z57) := ((hk6 _ (lt_of_block HZ4.out) (fun e => by have := HL4.out.own _ e; omega)).trans HZ4.out); have hS7 : ∀ v, MS (w6.setCell ⟨w.heap.size + 1 + 1, 3, none⟩ v) tb p0 p1 p2 (.slice FA FL FC) := (fun v => hS6.off (Below.heap_setCell _ _ _ _ HTB.out.2.1)); have z3 := cell_of_row w6 (w.heap.size + 1 + 1) 3 _ _ _ hmid; have zf : w6.frozen? ⟨w.heap.size + 1 + 1, 3, none⟩ = false := (by simp only [World.frozen?, hmid]; rfl); simp only [List.getElem?_toArray, List.getElem?_cons_zero, List.getElem?_cons_succ] at z3; clear hn6 hmid hk6 hown hgrow hat hlt2
                  refine hK.out _ _ hS6 (fun hHeld => ?_)
                  clear hK K
                  try simp only [Act.put, List.setIfInBounds_toArray, List.set_cons_zero, List.set_cons_succ]
                  clear hHeld0
                  have hHeld0 := hHeld
                  refine wpAnyH_take (i := 18) (v := ?_) rfl (by kernel_rfl) (by kernel_rfl) (by kernel_rfl) (fun _ _ _ h => h) (Or.inl ⟨by rfl, ?_⟩) hHeld ?_
                  rotate_left
                  · intro w hSw; (try dsimp only at hSw); go_simp; (try with_reducible rfl)
                  try simp only [Act.put, List.setIfInBounds_toArray, List.set_cons_zero, List.set_cons_succ]
                  refine wpAnyH_ready (rs := [19]) (by kernel_rfl) (by simp) ?_
                  refine AllReadyH.cons rfl (fun K hK => ?_) AllReadyH.nil
                  go_simp
                  refine hK.out _ _ (hS7 _) (fun hHeld => ?_)
                  clear hK K
                  try simp only [Act.put, List.setIfInBounds_toArray, List.set_cons_zero, List.set_cons_succ]
                  clear hHeld0
                  have hHeld0 := hHeld
                  refine wpAnyH_done (by kernel_rfl) ?_ _
                  (have hend := hHeld; clear hHeld hHeld0 hend)
                  go_wp2_with fail
                  go_roundw
                  case rel =>
                    refine ⟨k + 1, _, _, by omega, by go_num, by rw [← HXS.out]; exact HN6.out, ?_⟩
                    show _ = _
                    rw [Below.heap_setCell _ _ _ _ (by simp)]; exact HZ6.out
                  case measure => simp [intOf]; omega
                · skip
                  go_simp
                  refine hK.out _ _ (hS4b _ _) (fun hHeld => ?_)
                  clear hK K
                  try simp only [Act.put, List.setIfInBounds_toArray, List.set_cons_zero, List.set_cons_succ]
                  clear hHeld0
                  have hHeld0 := hHeld
                  refine wpAnyH_ready (rs := [1]) (by kernel_rfl) (by simp) ?_
                  refine AllReadyH.cons rfl (fun K hK => ?_) AllReadyH.nil
                  go_simp
                  refine hK.out _ _ (hS4b _ _) (fun hHeld => ?_)
                  clear hK K
                  try simp only [Act.put, List.setIfInBounds_toArray, List.set_cons_zero, List.set_cons_succ]
                  clear hHeld0
                  have hHeld0 := hHeld
                  refine wpAnyH_ready (rs := [17]) (by kernel_rfl) (by simp) ?_
                  refine AllReadyH.cons rfl (fun K hK => ?_) AllReadyH.nil
                  refine step_append_lies _ rfl (.tmp 30) (.tmp 45) 55 rfl base 57 j0 zeroItem 4 56 t55 hj0 hjz0 hjz1 hjz2 rfl (by decide) V xs.length vs (by simp [Act.eval, Act.put]) ((HL4.out.row.alloc _).alloc _) ⟨w4.heap.size + 1, 0, none⟩ 1 1 [.int .i64 3, .int .u64 0, .string ⟨#[]⟩, .slice (some ⟨w4.heap.size, 0, none⟩) 4 4] (by simp [Act.eval, Act.put]) rfl (news4b _ _ _ _ _ _ _) (one4 _ _ _ _ _ _) (by omega) (by unfold maxLen; omega) (by omega) (by have h1 := HL4.out.hi; simp; omega) (w4.heap.size + 2) (by simp) ?_; intro g2 cap w6 hown hgrow hat hlt2; obtain ⟨hn6, hmid, hk6⟩ := HL3.out.mat HL4.out HX.out hs4 hown hgrow hat hlt2 hlv0 hlv1 hlv2; have HN6 := Lib.hid hn6; have hS6 : MS w6 tb p0 p1 p2 (.slice FA FL FC) := hS4.off (hk6 tb hS4.lt HTB.out.2.2); have HZ6 : Hid (w6.heap[w.heap.size + 1]? = some Z57) := ((hk6 _ (lt_of_block HZ4.out) (fun e => by have := HL4.out.own _ e; omega)).trans HZ4.out); have hS7 : ∀ v, MS (w6.setCell ⟨w.heap.size + 1 + 1, 3, none⟩ v) tb p0 p1 p2 (.slice FA FL FC) := (fun v => hS6.off (Below.heap_setCell _ _ _ _ HTB.out.2.1)); have z3 := cell_of_row w6 (w.heap.size + 1 + 1) 3 _ _ _ hmid; have zf : w6.frozen? ⟨w.heap.size + 1 + 1, 3, none⟩ = false := (by simp only [World.frozen?, hmid]; rfl); simp only [List.getElem?_toArray, List.getElem?_cons_zero, List.getElem?_cons_succ] at z3; clear hn6 hmid hk6 hown hgrow hat hlt2
                  refine hK.out _ _ hS6 (fun hHeld => ?_)
                  clear hK K
                  try simp only [Act.put, List.setIfInBounds_toArray, List.set_cons_zero, List.set_cons_succ]
                  clear hHeld0
                  have hHeld0 := hHeld
                  refine wpAnyH_take (i := 18) (v := ?_) rfl (by kernel_rfl) (by kernel_rfl) (by kernel_rfl) (fun _ _ _ h => h) (Or.inl ⟨by rfl, ?_⟩) hHeld ?_
                  rotate_left
                  · intro w hSw; (try dsimp only at hSw); go_simp; (try with_reducible rfl)
                  try simp only [Act.put, List.setIfInBounds_toArray, List.set_cons_zero, List.set_cons_succ]
                  refine wpAnyH_ready (rs := [19]) (by kernel_rfl) (by simp) ?_
                  refine AllReadyH.cons rfl (fun K hK => ?_) AllReadyH.nil
                  go_simp
                  refine hK.out _ _ (hS7 _) (fun hHeld => ?_)
                  clear hK K
                  try simp only [Act.put, List.setIfInBounds_toArray, List.set_cons_zero, List.set_cons_succ]
                  clear hHeld0
                  have hHeld0 := hHeld
                  refine wpAnyH_done (by kernel_rfl) ?_ _
                  (have hend := hHeld; clear hHeld hHeld0 hend)
                  go_wp2_with fail
                  go_roundw
                  case rel =>
                    refine ⟨k + 1, _, _, by omega, by go_num, by rw [← HXS.out]; exact HN6.out, ?_⟩
                    show _ = _
                    rw [Below.heap_setCell _ _ _ _ (by simp)]; exact HZ6.out
                  case measure => simp [intOf]; omega
    · obtain rfl : k = n := by omega
      have htk : l.take k = l := List.take_of_length_le (by have := HN.out; omega)
      rw [htk] at HR
      obtain ⟨VA, VL, VC, rfl⟩ := HR.out.form
      obtain ⟨q0, q1, q2, q3, q4⟩ := HR.out.cells
      have hz := HZ.out
      unfold Z57 at hz
      have c0 := cell_of_row wo (w.heap.size + 1) 0 _ _ _ hz
      have c1 := cell_of_row wo (w.heap.size + 1) 1 _ _ _ hz
      have c2 := cell_of_row wo (w.heap.size + 1) 2 _ _ _ hz
      have c3 := cell_of_row wo (w.heap.size + 1) 3 _ _ _ hz
      have f0 : ∀ j, wo.frozen? ⟨w.heap.size + 1, j, none⟩ = false := fun j => by simp only [World.frozen?, hz]; rfl
      simp only [List.getElem?_toArray, List.getElem?_cons_zero, List.getElem?_cons_succ] at c0 c1 c2 c3
      have HIT := Lib.hid (HR.out.item (by simp; have := HN.out; omega))
      clear hz htk HFI HZF
      go_wp2_with fail
      refine bodyPost_ret (v := .agg #[.int .i64 3, .int .u64 0, .string ⟨#[]⟩, .slice VA VL VC]) (by simp [results, Tryd.results45, go_sem, c0, c1, c2, c3]) rfl ⟨_, _, _, _, rfl, ?_, ?_⟩
      · exact four_at HIT.out (fun g hg => ⟨hg.2, by have := hg.1; omega⟩) (fun g hg => by have := hg.1; omega)
      · repeat (refine Below.setCell ?_ (by simp) _)
        exact HR.out.below

/-- every field -/
theorem field_any (m : Msg) (a b c : Value) (w : World) (f : Nat) (h : MsgIn w a b c m) (hf : f < 10) (hw : m.ws.length ≤ 16384) (hm : m.ms.length ≤ 16384) (hds : m.ds.length ≤ 16384) (hd : ∀ y ∈ m.ms, y.d.length ≤ 16384)
    (hp : ∀ y ∈ m.ms, 0 ≤ y.lv ∧ 0 ≤ y.ce ∧ 0 ≤ y.ep) (hn : ∀ i, i < 7 → 0 ≤ m.num i) :
    Calls Tryd.prog 45 #[.agg (mcells m a b c), .int .i64 f] w (ItemPost w (fieldIt m f)) := by
  by_cases h7 : f = 7
  · subst h7; exact field7_any m a b c w h hw
  · by_cases h9 : f = 9
    · subst h9; exact field9_any m a b c w h hds
    · by_cases h8 : f = 8
      · subst h8; exact field8_any m a b c w h hm hd hp
      · have h6 : f < 7 := by omega
        have e : fieldIt m f = itNum (m.num f).toNat := by unfold fieldIt; rw [if_neg h7, if_neg h9, if_neg h8]
        rw [e]
        have h0 := hn f h6
        have hb : m.num f ≤ 9223372036854775807 := by
          obtain ⟨i0, i1, i2, i3, i4, i5, i6⟩ := h.ni
          have : f = 0 ∨ f = 1 ∨ f = 2 ∨ f = 3 ∨ f = 4 ∨ f = 5 ∨ f = 6 := by omega
          rcases this with rfl | rfl | rfl | rfl | rfl | rfl | rfl
          · exact i0.2
          · exact i1.2
          · exact i2.2
          · exact i3.2
          · exact i4.2
          · exact i5.2
          · exact i6.2
        exact fieldn_any m a b c w f (m.num f).toNat h h6 (by omega) (by omega)

end Go.Proofs.YtakdfjkkeilffaaDoor
