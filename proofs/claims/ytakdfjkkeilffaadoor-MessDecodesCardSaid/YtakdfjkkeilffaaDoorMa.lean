/- Messages: numbers in memory, kinds, small functions. -/
import Derived.Test.YtakdfjkkeilffaaDoorO
set_option linter.unusedVariables false
set_option linter.unusedSimpArgs false
namespace Go.Proofs.YtakdfjkkeilffaaDoor
open Go.RowKit

/-- numbers in memory -/
def Nums (w : World) (k : IntKind) (v : Value) (l : List Int) : Prop :=
  l.length ≤ 9223372036854775807 ∧ ∃ A c, v = .slice A l.length c ∧ (0 < l.length → ∃ g o, A = some ⟨g, o, none⟩ ∧ ∀ i (h : i < l.length), w.cell? ⟨g, o + i, none⟩ = some (.int k l[i]))
theorem Nums.later {w w' : World} {k : IntKind} {v : Value} {l : List Int} (h : Nums w k v l) (hb : Below w.heap.size w w') : Nums w' k v l := by
  obtain ⟨h1, A, c, h3, h4⟩ := h
  refine ⟨h1, A, c, h3, fun h0 => ?_⟩
  obtain ⟨g, o, e, hc⟩ := h4 h0
  exact ⟨g, o, e, fun i hi => (hb.cell (World.block_lt_of_cell? w _ (hc i hi))).trans (hc i hi)⟩
theorem Nums.keep {w w' : World} {k : IntKind} {v : Value} {l : List Int} (h : Nums w k v l) (hb : ∀ a u, w.cell? a = some u → w'.cell? a = some u) : Nums w' k v l := by
  obtain ⟨h1, A, c, h3, h4⟩ := h
  refine ⟨h1, A, c, h3, fun h0 => ?_⟩
  obtain ⟨g, o, e, hc⟩ := h4 h0
  exact ⟨g, o, e, fun i hi => hb _ _ (hc i hi)⟩
theorem Nums.lit {w : World} {k : IntKind} (l : List Int) {t : TypeId} (hl : l.length ≤ 9223372036854775807) {g : Nat} (h : w.heap[g]? = some (.cells (l.map (Value.int k)).toArray t (0, 0))) : Nums w k (.slice (some ⟨g, 0, none⟩) l.length l.length) l := by
  refine ⟨hl, _, _, rfl, fun _ => ⟨g, 0, rfl, fun i hi => ?_⟩⟩
  rw [Nat.zero_add, cell_of_row _ _ _ _ _ _ h]
  simp [hi]

/-- the fields of a kind -/
def flds (k : Int) : List Int := if k = 1 then [0, 1, 2, 7, 8] else if k = 2 then [0, 1, 2, 9] else if k = 3 then [3, 0, 4, 5, 6, 7] else if k = 4 then [3, 0, 6, 9] else []
def isKind (k : Int) : Bool := decide (1 ≤ k ∧ k ≤ 4)

set_option maxHeartbeats 1600000 in
theorem kind_any (k : Int) (w : World) : Calls Tryd.prog 35 #[.int .i64 k] w fun e w' => ∃ v, e = .returned (.tuple #[v, .bool (isKind k)]) ∧ Nums w' .i64 v (flds k) ∧ Below w.heap.size w w' := by
  by_cases h1 : k = 1
  · subst h1
    go_enter Tryd.func35, Tryd.ntmps35
    go_wp2_with fail
    go_ret2
    exact ⟨_, rfl, Nums.lit (t := 3) [0, 1, 2, 7, 8] (by decide) (heap_alloc_new _ _), below_al _ _⟩
  · by_cases h2 : k = 2
    · subst h2
      go_enter Tryd.func35, Tryd.ntmps35
      go_wp2_with fail
      go_ret2
      exact ⟨_, rfl, Nums.lit (t := 3) [0, 1, 2, 9] (by decide) (heap_alloc_new _ _), below_al _ _⟩
    · by_cases h3 : k = 3
      · subst h3
        go_enter Tryd.func35, Tryd.ntmps35
        go_wp2_with fail
        go_ret2
        exact ⟨_, rfl, Nums.lit (t := 3) [3, 0, 4, 5, 6, 7] (by decide) (heap_alloc_new _ _), below_al _ _⟩
      · by_cases h4 : k = 4
        · subst h4
          go_enter Tryd.func35, Tryd.ntmps35
          go_wp2_with fail
          go_ret2
          exact ⟨_, rfl, Nums.lit (t := 3) [3, 0, 6, 9] (by decide) (heap_alloc_new _ _), below_al _ _⟩
        · have b1 : (k == 1) = false := beq_false_of_ne h1
          have b2 : (k == 2) = false := beq_false_of_ne h2
          have b3 : (k == 3) = false := beq_false_of_ne h3
          have b4 : (k == 4) = false := beq_false_of_ne h4
          have hf : flds k = [] := by unfold flds; simp [h1, h2, h3, h4]
          have hk : isKind k = false := by unfold isKind; exact decide_eq_false (by omega)
          have HF := Lib.hid hf
          have HK := Lib.hid hk
          clear hf hk h1 h2 h3 h4
          go_enter Tryd.func35, Tryd.ntmps35
          go_wp2_with fail
          go_ret2
          refine ⟨_, by rw [HK.out]; rfl, by rw [HF.out]; exact ⟨by simp, none, 0, rfl, fun h => by simp at h⟩, Below.refl _ _⟩

/-- the place of a number; the length, where it is not there -/
def idx (l : List Int) (x : Int) : Nat := l.findIdx (· == x)

set_option maxHeartbeats 1600000 in
theorem index_any (v : Value) (l : List Int) (x : Int) (w : World) (h : Nums w .i64 v l) :
    Calls Tryd.prog 72 #[v, .int .i64 x] w fun e w' => e = .returned (.int .i64 (if x ∈ l then (idx l x : Int) else -1)) ∧ w = w' := by
  obtain ⟨hl, A, c, rfl, hA⟩ := h
  obtain ⟨n, hn⟩ : ∃ n, n = l.length := ⟨_, rfl⟩
  rw [← hn] at hl ⊢
  have HA : Hid (0 < n → ∃ g o, A = some ⟨g, o, none⟩ ∧ ∀ i (h : i < l.length), w.cell? ⟨g, o + i, none⟩ = some (.int .i64 l[i])) := fun h => hA (by omega)
  have HN := Lib.hid hn
  clear hA hn
  obtain ⟨ri, hri⟩ : ∃ ri, ri = (if x ∈ l then (idx l x : Int) else -1) := ⟨_, rfl⟩
  rw [← hri]
  have HRI := Lib.hid hri
  clear hri
  go_enter Tryd.func72, Tryd.ntmps72
  go_wp2_with fail
  go_loop [8] (fun i => ∃ k : Nat, k ≤ n ∧ i = .int .i64 k ∧ Hid (x ∉ l.take k)) (fun i => n - (intOf i).toNat)
  case atStart => exact ⟨0, by omega, rfl, by show x ∉ _; simp⟩
  case round =>
    obtain ⟨k, hk, rfl, HT⟩ := hrel
    by_cases hlt : k < n
    · have hk1 : k < l.length := by have := HN.out; omega
      obtain ⟨g, o, rfl, hc⟩ := HA.out (by omega)
      obtain ⟨y, hy⟩ : ∃ y, y = l[k] := ⟨_, rfl⟩
      have d := hc k hk1
      rw [← hy] at d
      clear hc
      by_cases hxy : x = y
      · have b1 : (x == y) = true := by simp [hxy]
        have HR : Hid (ri = (k : Int)) := by
          show _ = _
          rw [HRI.out]
          have hm : x ∈ l := by rw [hxy, hy]; exact List.getElem_mem hk1
          rw [if_pos hm]
          have e : idx l x = k := by
            unfold idx
            refine (List.findIdx_eq hk1).2 ⟨by rw [← hy, hxy]; exact beq_self_eq_true _, fun j hj => ?_⟩
            refine beq_false_of_ne fun e => HT.out ?_
            rw [List.mem_take_iff_getElem]
            exact ⟨j, by omega, e⟩
          rw [e]
        clear hxy hy
        go_wp2_with fail
        go_ret
        exact ⟨by rw [HR.out]; rfl, rfl⟩
      · have b1 : (x == y) = false := beq_false_of_ne hxy
        have HT2 : Hid (x ∉ l.take (k + 1)) := by
          show x ∉ _
          rw [List.take_succ_eq_append_getElem hk1, List.mem_append, ← hy]
          rintro (h | h)
          · exact HT.out h
          · simp at h; exact hxy h
        clear hxy hy
        go_wp2_with fail
        go_round
        case rel => exact ⟨k + 1, by omega, by go_num, HT2.out⟩
        case measure => simp [intOf]; omega
    · obtain rfl : k = n := by omega
      go_wp2_with fail
      go_ret
      have h := HT.out
      rw [List.take_of_length_le (by have := HN.out; omega)] at h
      exact ⟨by rw [HRI.out, if_neg h]; rfl, rfl⟩

set_option maxHeartbeats 1600000 in
theorem contains_any (v : Value) (l : List Int) (x : Int) (w : World) (h : Nums w .i64 v l) :
    Calls Tryd.prog 64 #[v, .int .i64 x] w fun e w' => e = .returned (.bool (decide (x ∈ l))) ∧ w = w' := by
  have HI := Lib.hid (index_any v l x w h)
  obtain ⟨r, hr⟩ : ∃ r, r = (if x ∈ l then (idx l x : Int) else -1) := ⟨_, rfl⟩
  rw [← hr] at HI
  have HD : Hid (decide (x ∈ l) = decide (0 ≤ r)) := by
    show _ = _
    by_cases hm : x ∈ l
    · rw [hr, if_pos hm]; simp [hm]
    · rw [hr, if_neg hm]; simp [hm]
  clear hr h
  rw [HD.out]
  clear HD
  go_enter Tryd.func64, Tryd.ntmps64
  go_wp2_with (go_at_call 72; refine HI.out.mono ?_; rintro e w1 ⟨rfl, rfl⟩)
  go_ret
  exact ⟨rfl, rfl⟩

set_option maxHeartbeats 1600000 in
theorem ticks_any (n : Int) (w : World) : Calls Tryd.prog 65 #[.int .i64 n] w fun e w' => e = .returned (.bool (decide (0 ≤ n ∧ n ≤ 1073741824))) ∧ w = w' := by
  by_cases h0 : 0 ≤ n
  · by_cases h1 : n ≤ 1073741824
    · go_enter Tryd.func65, Tryd.ntmps65
      go_wp2_with fail
      go_ret
      exact ⟨by simp [h0, h1], rfl⟩
    · go_enter Tryd.func65, Tryd.ntmps65
      go_wp2_with fail
      go_ret
      exact ⟨by simp [h1], rfl⟩
  · go_enter Tryd.func65, Tryd.ntmps65
    go_wp2_with fail
    go_ret
    exact ⟨by rw [decide_eq_false (show ¬ 0 ≤ n from by omega)]; rfl, rfl⟩

set_option maxHeartbeats 1600000 in
theorem item44_any (n : Nat) (w : World) (hn : n < 9223372036854775808) : Calls Tryd.prog 44 #[.int .i64 n] w fun e w' => e = .returned (.agg #[.int .i64 1, .int .u64 n, .string ⟨#[]⟩, .slice none 0 0]) ∧ Below w.heap.size w w' := by
  have hw : IntKind.u64.wrap (n : Int) = (n : Int) := by rw [IntKind.wrap_u64]; omega
  go_enter Tryd.func44, Tryd.ntmps44
  go_wp2_with fail
  exact bodyPost_ret (v := .agg #[.int .i64 1, .int .u64 n, .string ⟨#[]⟩, .slice none 0 0]) (by simp [results, Tryd.results44, go_sem]) rfl ⟨rfl, below_al _ _⟩

set_option maxHeartbeats 1600000 in
theorem item73_any (n : Nat) (w : World) (hn : n < 4294967296) : Calls Tryd.prog 73 #[.int .u32 n] w fun e w' => e = .returned (.agg #[.int .i64 1, .int .u64 n, .string ⟨#[]⟩, .slice none 0 0]) ∧ Below w.heap.size w w' := by
  have hw : IntKind.u64.wrap (n : Int) = (n : Int) := by rw [IntKind.wrap_u64]; omega
  go_enter Tryd.func73, Tryd.ntmps73
  go_wp2_with fail
  exact bodyPost_ret (v := .agg #[.int .i64 1, .int .u64 n, .string ⟨#[]⟩, .slice none 0 0]) (by simp [results, Tryd.results73, go_sem]) rfl ⟨rfl, below_al _ _⟩

set_option maxHeartbeats 1600000 in
theorem item74_any (n : Nat) (w : World) (hn : n < 18446744073709551616) : Calls Tryd.prog 74 #[.int .u64 n] w fun e w' => e = .returned (.agg #[.int .i64 1, .int .u64 n, .string ⟨#[]⟩, .slice none 0 0]) ∧ Below w.heap.size w w' := by
  have hw : IntKind.u64.wrap (n : Int) = (n : Int) := by rw [IntKind.wrap_u64]; omega
  go_enter Tryd.func74, Tryd.ntmps74
  go_wp2_with fail
  exact bodyPost_ret (v := .agg #[.int .i64 1, .int .u64 n, .string ⟨#[]⟩, .slice none 0 0]) (by simp [results, Tryd.results74, go_sem]) rfl ⟨rfl, below_al _ _⟩

end Go.Proofs.YtakdfjkkeilffaaDoor
