/- Frames one behind the other; texts compared. -/
import Derived.Test.YtakdfjkkeilffaaDoorV
import Derived.Deep.AppendLies
import Derived.Deep.RegionLaw
import Derived.Lib.Strings
set_option linter.unusedVariables false
set_option linter.unusedSimpArgs false
namespace Go.Proofs.YtakdfjkkeilffaaDoor
open Go.RowKit

/-- the frames from a place on, at most so many -/
def frs : Nat → ByteArray → Nat → List ByteArray × Nat
  | 0, _, p => ([], p)
  | f + 1, b, p =>
    if (unN b p).2.2 = (0, 0) then ((unN b p).1 :: (frs f b (unN b p).2.1.toNat).1, (frs f b (unN b p).2.1.toNat).2) else ([], p)

theorem unN_step (b : ByteArray) (p : Nat) (hp : p ≤ b.size) (h : (unN b p).2.2 = (0, 0)) : ∃ q : Nat, (unN b p).2.1 = q ∧ p + 8 ≤ q ∧ q ≤ b.size ∧ (unN b p).1.size ≤ 262144 := by
  obtain ⟨r, hr⟩ : ∃ r, r = b.extract p b.size := ⟨_, rfl⟩
  have hrs : r.size = b.size - p := by rw [hr]; simp
  unfold unN at h ⊢
  simp only [← hr] at h ⊢
  split at h
  · simp at h
  · rename_i h1
    rw [if_neg h1]
    split at h
    · simp at h
    · rename_i h2
      rw [if_neg h2]
      split at h
      · simp at h
      · rename_i h3
        rw [if_neg h3]
        split at h
        · simp at h
        · rename_i h4
          rw [if_neg h4]
          refine ⟨p + 8 + un4 r, rfl, by omega, by omega, ?_⟩
          simp; omega

/-- enough is enough -/
theorem frs_more (b : ByteArray) : ∀ (f g p : Nat), p ≤ b.size → b.size - p < f → b.size - p < g → frs f b p = frs g b p := by
  intro f
  induction f with
  | zero => intro g p _ h; omega
  | succ f ih =>
    intro g p hp hf hg
    cases g with
    | zero => omega
    | succ g =>
      simp only [frs]
      by_cases h : (unN b p).2.2 = (0, 0)
      · obtain ⟨q, hq, h1, h2, _⟩ := unN_step b p hp h
        rw [if_pos h, if_pos h, hq, Int.toNat_natCast, ih g q h2 (by omega) (by omega)]
      · rw [if_neg h, if_neg h]

/-- what Frames tells -/
def framesR (b : ByteArray) : List ByteArray × Nat := frs (b.size + 1) b 0

def tcells (l : List ByteArray) : List Value := l.map Value.string
theorem t36 : Tryd.prog.underlying 36 = some (.slice 9) := by kernel_rfl
theorem i9 : (Tryd.prog.info? 9).map (fun i => (i.zero, i.size, i.bytes)) = some (some (.string ⟨#[]⟩), 1, 16) := by kernel_rfl

def FrPost (w : World) (r : List ByteArray × Nat) (e : Ending) (w' : World) : Prop :=
  ∃ v, e = .returned (.tuple #[v, .int .i64 (r.2 : Nat)]) ∧ w'.ownsRow w.heap.size 9 1 v r.1.length (tcells r.1) ∧ Below w.heap.size w w'

theorem row_below {w w' : World} {base : Nat} {e : TypeId} {size n : Nat} {v : Value} {xs : List Value} (h : w.ownsRow base e size v n xs) (hb : Below w.heap.size w w') : w'.ownsRow base e size v n xs := by
  refine ⟨h.1, ?_⟩
  rcases h.2 with hn | ⟨g, cap, cur, h1, h2, h3, h4⟩
  · exact .inl hn
  · exact .inr ⟨g, cap, cur, h1, h2, (hb.block g (lt_of_block h3)).trans h3, h4⟩
theorem own_ge {w : World} {base : Nat} {e : TypeId} {size n : Nat} {v : Value} {xs : List Value} (h : w.ownsRow base e size v n xs) : ∀ k, v.ownBlock = some k → base ≤ k := by
  intro k hk
  rcases h.2 with ⟨rfl, _⟩ | ⟨g, cap, cur, rfl, h2, _⟩
  · simp [Value.ownBlock] at hk
  · simp [Value.ownBlock] at hk; omega
theorem newt (w : World) (x : Value) (ty : TypeId) : ∀ (j : Nat) (u : Value), [x][j]? = some u → (w.alloc (.cells #[x] ty)).cell? ((⟨w.heap.size, 0, none⟩ : Addr).add j) = some u := fun j u hj =>
  World.news_of_block (cs := #[x]) (heap_alloc_new w _) j u hj
theorem newt2 (w : World) (o : Obj) (x : Value) (ty : TypeId) : ∀ (j : Nat) (u : Value), [x][j]? = some u → ((w.alloc o).alloc (.cells #[x] ty)).cell? ((⟨w.heap.size + 1, 0, none⟩ : Addr).add j) = some u := fun j u hj => by
  have := newt (w.alloc o) x ty j u hj
  rwa [show (w.alloc o).heap.size = w.heap.size + 1 from by simp] at this
set_option maxRecDepth 100000 in
set_option maxHeartbeats 1600000 in
theorem frames_any (b : ByteArray) (w : World) (hb : b.size ≤ 1099511627776) (hq : Quarters w) (h0 : 0 < w.heap.size) : Calls Tryd.prog 17 #[.string b] w (FrPost w (framesR b)) := by
  have HQ := Lib.hid hq
  clear hq
  obtain ⟨i0, hi, hz0, hz1, hz2⟩ := info_parts i9
  go_enter Tryd.func17, Tryd.ntmps17
  go_wp2
  go_loopw [2, 3] (fun v e wr => ∃ p : Nat, ∃ xs : List ByteArray, p ≤ b.size ∧ xs.length * 8 ≤ p ∧ e = .int .i64 p ∧ Hid (framesR b = (xs ++ (frs (b.size - p + 1) b p).1, (frs (b.size - p + 1) b p).2)) ∧ wr.ownsRow w.heap.size 9 1 v xs.length (tcells xs) ∧ Hid (Below w.heap.size w wr)) (fun _ e _ => b.size - (intOf e).toNat)
  case atStart => exact ⟨0, [], by omega, by simp, rfl, by show framesR b = _; unfold framesR; simp, World.ownsRow_nil _ _ _ _, Below.refl _ _⟩
  case round =>
    obtain ⟨p, xs, hp, hxs, rfl, HF, hrow, HB⟩ := hrel
    obtain ⟨wo, rfl⟩ : ∃ wo : World, wo = wr := ⟨_, rfl⟩
    have hso := HB.out.size
    have HROW := Lib.hid hrow
    clear hrow
    have HU := Lib.hid (unframe_in b p wo (by omega) hp (HQ.out.later h0 HB.out) (by omega))
    by_cases hz : (unN b p).2.2 = (0, 0)
    · obtain ⟨q, hq1, hq2, hq3, hq4⟩ := unN_step b p hp hz
      obtain ⟨y, hy⟩ : ∃ y, y = (unN b p).1 := ⟨_, rfl⟩
      have hu : unN b p = (y, (q : Int), 0, 0) := by rw [hy, ← hq1, show ((0 : Int), (0 : Int)) = (unN b p).2.2 from hz.symm]
      have HF2 : Hid (framesR b = ((xs ++ [y]) ++ (frs (b.size - q + 1) b q).1, (frs (b.size - q + 1) b q).2)) := by
        show framesR b = _
        have e : frs (b.size - p + 1) b p = (y :: (frs (b.size - q + 1) b q).1, (frs (b.size - q + 1) b q).2) := by
          show (if (unN b p).2.2 = (0, 0) then _ else _) = _
          rw [if_pos hz, ← hy, hq1, Int.toNat_natCast, frs_more b (b.size - p) (b.size - q + 1) q hq3 (by omega) (by omega)]
        rw [HF.out, e]
        simp
      have HU2 : Hid (Calls Tryd.prog 13 #[.string b, .int .i64 p] wo fun e w' => e = .returned (.tuple #[.string y, .int .i64 q, .agg #[.int .i64 0, .int .i64 0]]) ∧ Below wo.heap.size wo w') := by
        have := HU.out
        unfold UnPost at this
        rw [hu] at this
        exact this
      clear hu hy hq1 hz HU HF
      go_wp2_with (first
        | (go_at_call 13; refine HU2.out.mono ?_; rintro e w1 ⟨rfl, hb1⟩; have HB1 := Lib.hid (HB.out.trans (hb1.mono hso)); have hs1 := HB1.out.size; have HR1 := Lib.hid (row_below HROW.out hb1); clear hb1)
        | (at_builtin; refine wpList_append_lies _ rfl _ _ 36 rfl w.heap.size 9 i0 (.string ⟨#[]⟩) 1 16 t36 hi hz0 hz1 hz2 rfl (by decide) _ xs.length (tcells xs) rfl ((HR1.out.alloc _).alloc _) ⟨w1.heap.size + 1, 0, none⟩ 1 1 [.string y] rfl rfl (newt2 _ _ _ _) ?c2 ?c6 ?c3 ?c4 ?c5 (w1.heap.size + 2) (by simp) ?_))
      case c2 => intro u hu; simp at hu; subst hu; rfl
      case c3 => unfold maxLen; omega
      case c4 => omega
      case c5 => simp; omega
      case c6 => omega
      intro g cap w2 hown hgrow hat hlt
      have HB2 : Hid (Below w.heap.size w w2) := ((HB1.out.alloc hs1 _).alloc (by simp; omega) _).grown hgrow (by simp; omega) (own_ge HR1.out)
      have HOWN : Hid (w2.ownsRow w.heap.size 9 1 (.slice (some ⟨g, 0, none⟩) (xs.length + 1) cap) (xs ++ [y]).length (tcells (xs ++ [y]))) := by
        show World.ownsRow _ _ _ _ _ _ _
        have e : (xs ++ [y]).length = xs.length + 1 := by simp
        rw [e]
        simpa [tcells] using hown
      clear hown hgrow hat hlt
      go_wp2
      go_roundw
      case rel => exact ⟨q, xs ++ [y], hq3, by simp; omega, rfl, HF2.out, HOWN.out, HB2.out⟩
      case measure => simp [intOf]; omega
    · obtain ⟨u1, u2, u3, u4, hu⟩ : ∃ u1 u2 u3 u4, unN b p = (u1, u2, u3, u4) := ⟨_, _, _, _, rfl⟩
      have hnz : ¬ (u3 = 0 ∧ u4 = 0) := by
        rintro ⟨rfl, rfl⟩
        exact hz (by rw [hu])
      have hF : framesR b = (xs, p) := by
        have e : frs (b.size - p + 1) b p = ([], p) := by
          show (if (unN b p).2.2 = (0, 0) then _ else _) = _
          rw [if_neg hz]
        rw [HF.out, e]; simp
      have HF2 := Lib.hid hF
      have HU2 : Hid (Calls Tryd.prog 13 #[.string b, .int .i64 p] wo fun e w' => e = .returned (.tuple #[.string u1, .int .i64 u2, .agg #[.int .i64 u3, .int .i64 u4]]) ∧ Below wo.heap.size wo w') := by
        have := HU.out
        unfold UnPost at this
        rw [hu] at this
        exact this
      clear hu hz HU HF hF
      by_cases hz3 : u3 = 0
      · have hb3 : (u3 == 0) = true := by simp [hz3]
        have hb4 : (u4 == 0) = false := by
          have : u4 ≠ 0 := fun h => hnz ⟨hz3, h⟩
          simp [this]
        clear hz3 hnz
        go_wp2_with (go_at_call 13; refine HU2.out.mono ?_; rintro e w1 ⟨rfl, hb1⟩; have HB1 := Lib.hid (HB.out.trans (hb1.mono hso)); have hs1 := HB1.out.size; have HR1 := Lib.hid (row_below HROW.out hb1); clear hb1)
        go_ret2
        exact ⟨_, by rw [HF2.out]; rfl, by rw [HF2.out]; exact HR1.out.alloc _, HB1.out.alloc hs1 _⟩
      · have hb3 : (u3 == 0) = false := by simp [hz3]
        clear hz3 hnz
        go_wp2_with (go_at_call 13; refine HU2.out.mono ?_; rintro e w1 ⟨rfl, hb1⟩; have HB1 := Lib.hid (HB.out.trans (hb1.mono hso)); have hs1 := HB1.out.size; have HR1 := Lib.hid (row_below HROW.out hb1); clear hb1)
        go_ret2
        exact ⟨_, by rw [HF2.out]; rfl, by rw [HF2.out]; exact HR1.out.alloc _, HB1.out.alloc hs1 _⟩

/-- texts in memory -/
def Texts (w : World) (v : Value) (l : List ByteArray) : Prop :=
  l.length ≤ 9223372036854775807 ∧ (∀ s ∈ l, s.size ≤ 9223372036854775807) ∧ ∃ A c, v = .slice A l.length c ∧ (0 < l.length → ∃ g o, A = some ⟨g, o, none⟩ ∧ ∀ i (h : i < l.length), w.cell? ⟨g, o + i, none⟩ = some (.string l[i]))
theorem Texts.later {w w' : World} {v : Value} {l : List ByteArray} (h : Texts w v l) (hb : Below w.heap.size w w') : Texts w' v l := by
  obtain ⟨h1, h2, A, c, h3, h4⟩ := h
  refine ⟨h1, h2, A, c, h3, fun h0 => ?_⟩
  obtain ⟨g, o, e, hc⟩ := h4 h0
  exact ⟨g, o, e, fun i hi => (hb.cell (World.block_lt_of_cell? w _ (hc i hi))).trans (hc i hi)⟩
theorem Texts.of_row {w : World} {base : Nat} {v : Value} {l : List ByteArray} (h : w.ownsRow base 9 1 v l.length (tcells l)) (hs : ∀ s ∈ l, s.size ≤ 9223372036854775807) : Texts w v l := by
  rcases h.2 with ⟨rfl, h0⟩ | ⟨g, cap, cur, rfl, h2, h3, h4, h5, _⟩
  · refine ⟨by omega, hs, none, 0, by rw [h0], fun h => by omega⟩
  · refine ⟨by unfold maxLen at h5; omega, hs, some ⟨g, 0, none⟩, cap, rfl, fun _ => ⟨g, 0, rfl, fun i hi => ?_⟩⟩
    have := h.cellAt i (by omega)
    rw [Nat.zero_add, this]
    simp [tcells, hi]

set_option maxRecDepth 100000 in
set_option maxHeartbeats 1600000 in
theorem same_any (v1 v2 : Value) (l1 l2 : List ByteArray) (w : World) (h1 : Texts w v1 l1) (h2 : Texts w v2 l2) : Calls Tryd.prog 19 #[v1, v2] w fun e w' => e = .returned (.bool (decide (l1 = l2))) ∧ Below w.heap.size w w' := by
  obtain ⟨hl1, hs1, A1, c1, rfl, hA1⟩ := h1
  obtain ⟨hl2, hs2, A2, c2, rfl, hA2⟩ := h2
  by_cases hlen : l1.length = l2.length
  · obtain ⟨n, hn⟩ : ∃ n, n = l1.length := ⟨_, rfl⟩
    have hn2 : l2.length = n := by omega
    have HA1 := Lib.hid hA1
    have HA2 := Lib.hid hA2
    clear hA1 hA2
    rw [hn2] at hl2
    rw [← hn] at hl1
    rw [hn2, ← hn]
    have HN := Lib.hid hn
    have HN2 := Lib.hid hn2
    have HS1 := Lib.hid hs1
    have HS2 := Lib.hid hs2
    clear hn hn2 hlen hs1 hs2
    go_enter Tryd.func19, Tryd.ntmps19
    go_wp2
    go_loopw [5] (fun i wr => ∃ k : Nat, k ≤ n ∧ i = .int .i64 k ∧ Hid (l1.take k = l2.take k) ∧ Hid (Below w.heap.size w wr)) (fun i _ => n - (intOf i).toNat)
    case atStart => exact ⟨0, by omega, rfl, by show _ = _; simp, Below.refl _ _⟩
    case round =>
      obtain ⟨k, hk, rfl, HT, HB⟩ := hrel
      obtain ⟨wo, rfl⟩ : ∃ wo : World, wo = wr := ⟨_, rfl⟩
      by_cases hlt : k < n
      · have hk1 : k < l1.length := by have := HN.out; omega
        have hk2 : k < l2.length := by have := HN2.out; omega
        obtain ⟨g1, o1, rfl, hc1⟩ := HA1.out (by omega)
        obtain ⟨g2, o2, rfl, hc2⟩ := HA2.out (by omega)
        have d1 := hc1 k hk1
        have d2 := hc2 k hk2
        replace d1 := (HB.out.cell (World.block_lt_of_cell? w _ d1)).trans d1
        replace d2 := (HB.out.cell (World.block_lt_of_cell? w _ d2)).trans d2
        obtain ⟨x1, hx1⟩ : ∃ x1, x1 = l1[k] := ⟨_, rfl⟩
        obtain ⟨x2, hx2⟩ : ∃ x2, x2 = l2[k] := ⟨_, rfl⟩
        rw [← hx1] at d1
        rw [← hx2] at d2
        by_cases hx : x1 = x2
        · have HT2 : Hid (l1.take (k + 1) = l2.take (k + 1)) := by
            show _ = _
            rw [List.take_succ_eq_append_getElem hk1, List.take_succ_eq_append_getElem hk2, HT.out, ← hx1, ← hx2, hx]
          have hb1 : (x1.toList == x2.toList) = true := by rw [hx]; exact beq_self_eq_true _
          clear hc1 hc2 hx hx1 hx2 hk1 hk2
          go_wp2_with fail
          go_quiet (fail)
          go_wp2_with fail
          go_roundw
          case rel => exact ⟨k + 1, by omega, by go_num, HT2.out, below_drewN HB.out _⟩
          case measure => simp [intOf]; omega
        · have HNE : Hid (decide (l1 = l2) = false) := by
            show _ = _
            refine decide_eq_false fun h => hx ?_
            rw [hx1, hx2]
            simp only [h]
          have hb1 : (x1.toList == x2.toList) = false := by
            refine beq_false_of_ne fun h => hx ?_
            rw [Lib.toList_data, Lib.toList_data] at h
            exact ba_ext h
          clear hc1 hc2 hx hx1 hx2 hk1 hk2
          go_wp2_with fail
          go_quiet (fail)
          go_wp2_with fail
          go_ret
          exact ⟨by rw [HNE.out]; rfl, below_drewN HB.out _⟩
      · obtain rfl : k = n := by omega
        go_wp2_with fail
        go_ret
        refine ⟨?_, HB.out⟩
        have h := HT.out
        rw [List.take_of_length_le (by have := HN.out; omega), List.take_of_length_le (by have := HN2.out; omega)] at h
        rw [decide_eq_true h]; rfl
  · have HNE : Hid (decide (l1 = l2) = false) := by
      show _ = _
      refine decide_eq_false fun h => hlen (by rw [h])
    have hb1 : (((l1.length : Nat) : Int) == ((l2.length : Nat) : Int)) = false := by simp; omega
    have hb2 : (((l1.length : Nat) : Int) != ((l2.length : Nat) : Int)) = true := by simp; omega
    clear hA1 hA2 hlen hs1 hs2
    go_enter Tryd.func19, Tryd.ntmps19
    go_wp2_with fail
    go_ret
    exact ⟨by rw [HNE.out]; rfl, Below.refl _ _⟩

end Go.Proofs.YtakdfjkkeilffaaDoor
