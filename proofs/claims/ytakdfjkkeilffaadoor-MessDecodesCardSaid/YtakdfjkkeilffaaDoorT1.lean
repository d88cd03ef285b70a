/- Decode of the document: Ta, Tb, Tc, Td, Te. -/
import Derived.Test.YtakdfjkkeilffaaDoorQj
set_option linter.unusedVariables false
set_option linter.unusedSimpArgs false
namespace Go.Proofs.YtakdfjkkeilffaaDoor
open Go.RowKit

set_option maxHeartbeats 1600000 in
theorem fault32_any (a c : Int) (w : World) : Calls Tryd.prog 32 #[.int .i64 a, .int .i64 c] w fun e w' => e = .returned (.agg #[.int .i64 a, .int .i64 c]) ∧ w' = w.alloc (.cells #[.int .i64 a, .int .i64 c] 31) := by
  go_enter Tryd.func32, Tryd.ntmps32
  go_wp2
  exact bodyPost_ret (v := .agg #[.int .i64 a, .int .i64 c]) (by simp [results, Tryd.results32, go_sem]) rfl ⟨rfl, by first | rfl | simp⟩

def Num70 (b : ByteArray) (p : Nat) (w : World) (e : Ending) (w' : World) : Prop :=
  Below w.heap.size w w' ∧
  ((pn 0 0 (rest b p)).1 = 0 → e = .returned (.tuple #[.int .u64 ((pn 0 0 (rest b p)).2.1 : Nat), .int .i64 (p + (pn 0 0 (rest b p)).2.2 : Nat), .agg #[.int .i64 0, .int .i64 0]])) ∧
  ((pn 0 0 (rest b p)).1 ≠ 0 → e = .returned (.tuple #[.int .u64 0, .int .i64 0, .agg #[.int .i64 p, .int .i64 ((pn 0 0 (rest b p)).1 : Nat)]]))

theorem num70_err {b : ByteArray} {p code : Nat} {w w' : World} (hr : pn 0 0 (rest b p) = (code, 0, 0)) (hc : code ≠ 0) (hb : Below w.heap.size w w') :
    Num70 b p w (.returned (.tuple #[.int .u64 0, .int .i64 0, .agg #[.int .i64 p, .int .i64 code]])) w' := by
  refine ⟨hb, fun h => ?_, fun _ => ?_⟩
  · rw [hr] at h; exact absurd h hc
  · rw [hr]
theorem num70_ok {b : ByteArray} {p n m : Nat} {w w' : World} (hr : pn 0 0 (rest b p) = (0, n, m)) (hb : Below w.heap.size w w') :
    Num70 b p w (.returned (.tuple #[.int .u64 n, .int .i64 (p + m : Nat), .agg #[.int .i64 0, .int .i64 0]])) w' := by
  refine ⟨hb, fun _ => ?_, fun h => ?_⟩
  · rw [hr]
  · rw [hr] at h; exact absurd rfl h

set_option maxRecDepth 100000 in
set_option maxHeartbeats 1600000 in
theorem read70_any (b : ByteArray) (p : Nat) (w : World) (hb : b.size ≤ 262144) (hp : p ≤ b.size) :
    Calls Tryd.prog 70 #[.string b, .int .i64 p] w (Num70 b p w) := by
  go_enter Tryd.func70, Tryd.ntmps70
  go_wp2_with fail
  go_loopw [7, 8, 9] (fun nn uu ii wr => ∃ (k acc un : Nat), k ≤ 9 ∧ p + k ≤ b.size ∧ ii = .int .i64 ((p : Int) + k) ∧ nn = .int .u64 (acc : Nat) ∧ uu = .int .u64 (un : Nat) ∧ Hid (un = 128 ^ k) ∧ Hid (acc < 128 ^ k) ∧ Hid (pn 0 0 (rest b p) = pn k acc ((rest b p).drop k)) ∧ wr = w.alloc (.cells #[.int .i64 0, .int .i64 0] 31)) (fun _ _ ii _ => b.size - (intOf ii).toNat)
  case atStart => exact ⟨0, 0, 1, by omega, by omega, by simp, rfl, rfl, rfl, by show (0 : Nat) < _; decide, rfl, rfl⟩
  case round =>
    obtain ⟨k, acc, un, hk, hpk, rfl, rfl, rfl, HUN, HACC, HPN, rfl⟩ := hrel
    by_cases hlt : p + k < b.size
    · obtain ⟨cn, hc⟩ : ∃ cn : Nat, cn = b[p + k].toNat := ⟨_, rfl⟩
      have hcl : cn < 256 := by rw [hc]; exact b[p + k].toNat_lt
      have HCN : Hid (IntKind.u64.wrap ((b[p + k].toNat : Nat) : Int) = (cn : Int)) := by show _ = _; rw [← hc, IntKind.wrap_u64]; omega
      have HCONS := Lib.hid (rest_cons b p k hlt)
      have HC := Lib.hid hc
      have HPC : Hid (pn 0 0 (rest b p) = pn k acc (b[p + k] :: (rest b p).drop (k + 1))) := by show _ = _; rw [HPN.out, HCONS.out]
      clear hc
      by_cases hbig : k = 9 ∧ 1 < cn
      · have h9 : ((p : Int) + k - p == 9) = true := by simp; omega
        have h1 : (1 : Int) < (cn : Int) := by omega
        have HR : Hid (pn 0 0 (rest b p) = (22, 0, 0)) := by
          show pn 0 0 (rest b p) = (22, 0, 0)
          rw [HPC.out]
          simp only [pn]
          rw [if_pos ⟨hbig.1, by have := hbig.2; rw [HC.out] at this; exact this⟩]
        clear hbig
        go_upto_region 7 with (fail)
        rw [HCN.out]
        go_wp2_with (go_at_call 32; refine (fault32_any _ _ _).mono ?_; rintro e w2 ⟨rfl, rfl⟩)
        refine bodyPost_ret (v := .tuple #[.int .u64 0, .int .i64 0, .agg #[.int .i64 p, .int .i64 (22 : Nat)]]) (by simp [results, Tryd.results70, go_sem]) rfl (num70_err HR.out (by decide) ?_)
        repeat (refine Below.setCell ?_ (by simp) _)
        exact al2' _ _ _
      · have hcase : (((p : Int) + k - p == 9) = true ∧ ¬ (1 : Int) < (cn : Int)) ∨ ((p : Int) + k - p == 9) = false := by
          by_cases h9 : k = 9
          · left; exact ⟨by simp; omega, by omega⟩
          · right; simp; omega
        have hpow : 128 ^ k * cn % 128 ≤ 128 ^ k * cn % 128 := Nat.le_refl _
        have hacc2 : acc + cn % 128 * un < 18446744073709551616 := by
          have e9 : (128 : Nat) ^ 9 = 9223372036854775808 := by decide
          have h1 := HACC.out
          rw [HUN.out]
          by_cases h9 : k = 9
          · subst h9
            rw [e9] at h1 ⊢
            have : cn % 128 * 9223372036854775808 ≤ 1 * 9223372036854775808 := Nat.mul_le_mul_right _ (by omega)
            omega
          · have h2 : (128 : Nat) ^ (k + 1) ≤ 128 ^ 9 := Nat.pow_le_pow_right (by decide) (by omega)
            have h3 : cn % 128 * 128 ^ k ≤ 127 * 128 ^ k := Nat.mul_le_mul_right _ (by omega)
            have h4 : (128 : Nat) ^ (k + 1) = 128 * 128 ^ k := by rw [Nat.pow_succ, Nat.mul_comm]
            omega
        obtain ⟨acc2, ha2⟩ : ∃ acc2, acc2 = acc + cn % 128 * un := ⟨_, rfl⟩
        have HA2 : Hid (IntKind.u64.wrap ((acc : Int) + IntKind.u64.wrap ((cn : Int) % 128 * (un : Int))) = (acc2 : Int)) := by
          show _ = _
          have e1 : (cn : Int) % 128 = ((cn % 128 : Nat) : Int) := by omega
          have e2 : ((cn % 128 : Nat) : Int) * (un : Int) = ((cn % 128 * un : Nat) : Int) := by rw [Int.natCast_mul]
          rw [e1, e2, IntKind.wrap_u64, IntKind.wrap_u64, ha2]
          generalize cn % 128 * un = z at *
          omega
        have HAD : Hid (acc2 = acc + cn % 128 * 128 ^ k) := by show _ = _; rw [ha2, HUN.out]
        have HNB := Lib.hid hbig
        clear hpow hacc2 ha2 hbig
        by_cases hc128 : cn < 128
        · have q1 : (cn : Int) < 128 := by omega
          by_cases hz : cn = 0 ∧ 0 < k
          · have q2 : ((cn : Int) == 0) = true := by simp; omega
            have q3 : (p : Int) < p + k := by omega
            have HR : Hid (pn 0 0 (rest b p) = (22, 0, 0)) := by
              show pn 0 0 (rest b p) = (22, 0, 0)
              rw [HPC.out]
              simp only [pn]
              rw [if_neg (by rw [← HC.out]; exact HNB.out), if_pos (by rw [← HC.out]; exact hc128), if_pos (by rw [← HC.out]; exact hz)]
            clear hz hc128
            rcases hcase with ⟨k1, k2⟩ | k1
            all_goals
              go_upto_region 7 with (fail)
              rw [HCN.out]
              go_upto_region 10 with (fail)
              rw [HA2.out]
              go_wp2_with (go_at_call 32; refine (fault32_any _ _ _).mono ?_; rintro e w2 ⟨rfl, rfl⟩)
              refine bodyPost_ret (v := .tuple #[.int .u64 0, .int .i64 0, .agg #[.int .i64 p, .int .i64 (22 : Nat)]]) (by simp [results, Tryd.results70, go_sem]) rfl (num70_err HR.out (by decide) ?_)
              repeat (refine Below.setCell ?_ (by simp) _)
              exact al2' _ _ _
          · have hz2 : (((cn : Int) == 0) = true ∧ ¬ (p : Int) < p + k) ∨ ((cn : Int) == 0) = false := by
              by_cases h0 : cn = 0
              · left; exact ⟨by simp; omega, by omega⟩
              · right; simp; omega
            have HR : Hid (pn 0 0 (rest b p) = (0, acc2, k + 1)) := by
              show pn 0 0 (rest b p) = (0, acc2, k + 1)
              rw [HPC.out]
              simp only [pn]
              rw [if_neg (by rw [← HC.out]; exact HNB.out), if_pos (by rw [← HC.out]; exact hc128), if_neg (by rw [← HC.out]; exact hz), HAD.out, ← HC.out, Nat.mod_eq_of_lt hc128]
            clear hz hc128
            rcases hcase with ⟨k1, k2⟩ | k1
            all_goals
              rcases hz2 with ⟨q2, q3⟩ | q2
              all_goals
                go_upto_region 7 with (fail)
                rw [HCN.out]
                go_upto_region 10 with (fail)
                rw [HA2.out]
                go_wp2_with fail
                refine bodyPost_ret (v := .tuple #[.int .u64 acc2, .int .i64 ((p : Int) + k + 1), .agg #[.int .i64 0, .int .i64 0]]) (by simp [results, Tryd.results70, go_sem]) rfl ?_
                have e : ((p + (k + 1) : Nat) : Int) = (p : Int) + k + 1 := by omega
                rw [← e]
                refine num70_ok HR.out ?_
                repeat (refine Below.setCell ?_ (by simp) _)
                exact below_al _ _
        · have hk9 : k ≤ 8 := by
            have := HNB.out
            omega
          have q1 : ¬ (cn : Int) < 128 := by omega
          have q2 : ((p : Int) + k - p == 9) = false := by simp; omega
          have HR : Hid (pn 0 0 (rest b p) = pn (k + 1) acc2 ((rest b p).drop (k + 1))) := by
            show _ = _
            rw [HPC.out]
            simp only [pn]
            rw [if_neg (by rw [← HC.out]; exact HNB.out), if_neg (by rw [← HC.out]; exact hc128), HAD.out, ← HC.out]
          obtain ⟨un2, hu2⟩ : ∃ un2, un2 = un * 128 := ⟨_, rfl⟩
          have hub : un * 128 < 18446744073709551616 := by
            rw [HUN.out, ← Nat.pow_succ]
            have h2 : (128 : Nat) ^ (k + 1) ≤ 128 ^ 9 := Nat.pow_le_pow_right (by decide) (by omega)
            have e9 : (128 : Nat) ^ 9 = 9223372036854775808 := by decide
            omega
          have HU2 : Hid (IntKind.u64.wrap ((un : Int) * 128) = (un2 : Int)) := by
            show _ = _
            rw [IntKind.wrap_u64, hu2]; omega
          have HUE : Hid (un2 = 128 ^ (k + 1)) := by show _ = _; rw [hu2, HUN.out, Nat.pow_succ]
          have HAE : Hid (acc2 < 128 ^ (k + 1)) := by
            show _ < _
            rw [HAD.out]
            have h1 := HACC.out
            have h3 : cn % 128 * 128 ^ k ≤ 127 * 128 ^ k := Nat.mul_le_mul_right _ (by omega)
            have h4 : (128 : Nat) ^ (k + 1) = 128 * 128 ^ k := by rw [Nat.pow_succ, Nat.mul_comm]
            omega
          clear hc128 hcase hu2 hub
          go_upto_region 7 with (fail)
          rw [HCN.out]
          go_upto_region 10 with (fail)
          rw [HA2.out]
          go_upto_region 3 with (fail)
          rw [HU2.out]
          go_wp2_with fail
          go_roundw
          case rel => exact ⟨k + 1, acc2, un2, by omega, by omega, by go_num, rfl, rfl, HUE.out, HAE.out, HR.out, by trivial⟩
          case measure => simp [intOf]; omega
    · have hpe : b.size ≤ p + k := by omega
      have HR : Hid (pn 0 0 (rest b p) = (23, 0, 0)) := by
        show pn 0 0 (rest b p) = (23, 0, 0)
        rw [HPN.out, rest_nil b p k (by omega)]; rfl
      clear hlt
      go_wp2_with (go_at_call 32; refine (fault32_any _ _ _).mono ?_; rintro e w2 ⟨rfl, rfl⟩)
      refine bodyPost_ret (v := .tuple #[.int .u64 0, .int .i64 0, .agg #[.int .i64 p, .int .i64 (23 : Nat)]]) (by simp [results, Tryd.results70, go_sem]) rfl (num70_err HR.out (by decide) ?_)
      repeat (refine Below.setCell ?_ (by simp) _)
      exact al2' _ _ _

/-- capacities, to any depth -/
def CapsP (S : Nat → Prop) (w : World) : Nat → Value → It → Prop
  | 0, _, _ => True
  | f + 1, v, x => ∃ A c, v = .slice A x.l.length c ∧ x.l.length ≤ c ∧ ∀ i (h : i < x.l.length), ∃ g o u, A = some ⟨g, o, none⟩ ∧ S g ∧ w.cell? ⟨g, o + i * 4 + 3, none⟩ = some u ∧ CapsP S w f u x.l[i]
theorem CapsP.keep {S S' : Nat → Prop} {w w' : World} (hS : ∀ g, S g → S' g) (hk : ∀ g, S g → w'.heap[g]? = w.heap[g]?) : ∀ (f : Nat) (v : Value) (x : It), CapsP S w f v x → CapsP S' w' f v x := by
  intro f
  induction f with
  | zero => intro v x h; trivial
  | succ f ih =>
    intro v x h
    obtain ⟨A, c, e, hc, hm⟩ := h
    refine ⟨A, c, e, hc, fun i hi => ?_⟩
    obtain ⟨g, o, u, e1, h1, h2, h3⟩ := hm i hi
    exact ⟨g, o, u, e1, hS g h1, by rw [World.cell?_of_block (hk g h1)]; exact h2, ih u _ h3⟩
theorem CapsP.leaf {S : Nat → Prop} {w : World} (f : Nat) (k : Int) (n : Nat) (s : ByteArray) : CapsP S w f (.slice none 0 0) (.mk k n s []) := by
  cases f with
  | zero => trivial
  | succ f => exact ⟨none, 0, rfl, Nat.le_refl _, fun i hi => by simp [It.l] at hi⟩
def LCap (base : Nat) (W : World) (V : Value) (xs : List It) (vs : List Value) : Prop := ∀ i (h : i < xs.length), ∀ f, CapsP (inRow base W V) W f (at4 vs (i * 4 + 3)) xs[i]
theorem LCap.nil (base : Nat) (W : World) (V : Value) (vs : List Value) : LCap base W V [] vs := fun i h => by simp at h
theorem LCap.later {base : Nat} {W w1 : World} {V : Value} {xs : List It} {vs : List Value} (h : LCap base W V xs vs) (hb : Below W.heap.size W w1) : LCap base w1 V xs vs := fun i hi f =>
  (h i hi f).keep (fun g hg => ⟨hg.1, by have := hg.2.1; have := hb.size; omega, hg.2.2⟩) (fun g hg => hb.block g hg.2.1)
theorem LCap.next {base xb : Nat} {w W : World} {V : Value} {xs : List It} {vs : List Value} (h : LRow base xb w W V xs vs) (hc : LCap base W V xs vs) {x : It} {v0 v1 v2 v3 : Value} {g cap : Nat} {w2 : World}
    (hx : ∀ f, CapsP (inRow base W V) W f v3 x) (hgr : W.grownBy w2 V.ownBlock) (hat : V.ownBlock = some g ∨ g = W.heap.size) :
    LCap base (w2.setCell ⟨xb, 3, none⟩ (.slice (some ⟨g, 0, none⟩) (xs.length + 1) cap)) (.slice (some ⟨g, 0, none⟩) (xs.length + 1) cap) (xs ++ [x]) (vs ++ [v0, v1, v2, v3]) := by
  have hlo := h.lo
  have hs2 := hgr.size
  have hsz : (w2.setCell ⟨xb, 3, none⟩ (.slice (some ⟨g, 0, none⟩) (xs.length + 1) cap)).heap.size = w2.heap.size := by simp [World.setCell]
  have hvl : vs.length = xs.length * 4 := h.row.1
  have inr : ∀ k, inRow base W V k → inRow base (w2.setCell ⟨xb, 3, none⟩ (.slice (some ⟨g, 0, none⟩) (xs.length + 1) cap)) (.slice (some ⟨g, 0, none⟩) (xs.length + 1) cap) k := by
    intro k hk
    obtain ⟨k1, k2, k3⟩ := hk
    refine ⟨k1, by rw [hsz]; omega, ?_⟩
    intro e
    simp [Value.ownBlock] at e
    rcases hat with e2 | e2
    · exact k3 (by rw [e2, e])
    · omega
  have blk : ∀ k, inRow base W V k → (w2.setCell ⟨xb, 3, none⟩ (.slice (some ⟨g, 0, none⟩) (xs.length + 1) cap)).heap[k]? = W.heap[k]? := by
    intro k hk
    obtain ⟨k1, k2, k3⟩ := hk
    rw [Below.heap_setCell _ _ _ _ (show k ≠ xb from by omega), hgr.block k k2 (fun e => k3 e.symm)]
  intro i hi f
  have hi2 : i < xs.length + 1 := by simpa using hi
  by_cases hil : i < xs.length
  · rw [List.getElem_append_left hil, at4_left _ _ _ (by omega)]
    exact (hc i hil f).keep inr blk
  · obtain rfl : i = xs.length := by omega
    have hxx : (xs ++ [x])[xs.length] = x := by simp
    rw [hxx, ← hvl, at4_right]
    exact (hx f).keep inr blk
theorem LCap.item {base xb : Nat} {w W : World} {V : Value} {xs : List It} {vs : List Value} (h : LRow base xb w W V xs vs) (hc : LCap base W V xs vs) : ∀ f, CapsP (fun g => base ≤ g ∧ g < W.heap.size) W f V (itList xs) := by
  intro f
  cases f with
  | zero => trivial
  | succ f =>
    have hvl : vs.length = xs.length * 4 := h.row.1
    rcases h.row.2 with ⟨rfl, h0⟩ | ⟨g, cap, cur, rfl, h2, h3, h4, h5, _⟩
    · have h0 : xs.length = 0 := h0
      exact ⟨none, 0, by show _ = Value.slice none xs.length 0; rw [h0], by show xs.length ≤ 0; omega, fun i hi => by have hi : i < xs.length := hi; omega⟩
    · refine ⟨some ⟨g, 0, none⟩, cap, rfl, h4, fun i hi => ?_⟩
      have hi : i < xs.length := hi
      refine ⟨g, 0, at4 vs (i * 4 + 3), rfl, ⟨h2, lt_of_block h3⟩, ?_, (hc i hi f).keep (fun g hg => ⟨hg.1, hg.2.1⟩) (fun g hg => rfl)⟩
      rw [Nat.zero_add, h.row.cellAt _ (by omega)]
      unfold at4
      rw [List.getD_eq_getElem?_getD, List.getElem?_eq_getElem (by omega)]
      rfl

end Go.Proofs.YtakdfjkkeilffaaDoor

namespace Go.Proofs.YtakdfjkkeilffaaDoor
open Go.RowKit

def Rd54 (b : ByteArray) (w : World) (r : Except (Nat × Nat) (It × Nat)) (e : Ending) (w' : World) : Prop :=
  Below w.heap.size w w' ∧ match r with
  | .error (a, c) => e = .returned (.tuple #[.agg #[.int .i64 0, .int .u64 0, .string ⟨#[]⟩, .slice none 0 0], .int .i64 0, .agg #[.int .i64 (a : Nat), .int .i64 (c : Nat)]]) ∧ c ≠ 0
  | .ok (x, q) => ∃ v0 v1 v2 v3, e = .returned (.tuple #[.agg #[v0, v1, v2, v3], .int .i64 (q : Nat), .agg #[.int .i64 0, .int .i64 0]]) ∧ HoldsP (fun g => w.heap.size ≤ g ∧ g < w'.heap.size) w' v0 v1 v2 v3 x ∧ q ≤ b.size ∧ ∀ f, CapsP (fun g => w.heap.size ≤ g ∧ g < w'.heap.size) w' f v3 x

def put6 (W : World) (N : Nat) (v0 v1 v2 v3 p q : Value) : World := (((((W.setCell ⟨N, 0, none⟩ v0).setCell ⟨N, 1, none⟩ v1).setCell ⟨N, 2, none⟩ v2).setCell ⟨N, 3, none⟩ v3).setCell ⟨N + 1, 0, none⟩ p).setCell ⟨N + 1, 1, none⟩ q
theorem put6_off (W : World) (N : Nat) (v0 v1 v2 v3 p q : Value) : Off (fun g => g = N ∨ g = N + 1) W (put6 W N v0 v1 v2 v3 p q) := by
  unfold put6
  repeat (first | refine Off.set ?_ (.inl rfl) _ | refine Off.set ?_ (.inr rfl) _)
  exact Off.refl _ _
theorem put6_at {W : World} {N : Nat} {c0 c1 c2 c3 d0 d1 : Value} (h : W.heap[N]? = some (.cells #[c0, c1, c2, c3] 57 (0, 0))) (h1 : W.heap[N + 1]? = some (.cells #[d0, d1] 31 (0, 0))) (v0 v1 v2 v3 p q : Value) :
    (put6 W N v0 v1 v2 v3 p q).heap[N]? = some (.cells #[v0, v1, v2, v3] 57 (0, 0)) ∧ (put6 W N v0 v1 v2 v3 p q).heap[N + 1]? = some (.cells #[p, q] 31 (0, 0)) := by
  unfold put6
  have hn : N ≠ N + 1 := by omega
  constructor
  · rw [Below.heap_setCell _ _ _ _ hn, Below.heap_setCell _ _ _ _ hn]
    have a0 : (W.setCell ⟨N, 0, none⟩ v0).heap[N]? = some (.cells #[v0, c1, c2, c3] 57 (0, 0)) := heap_setCell_same _ _ _ _ _ _ h
    have a1 : ((W.setCell ⟨N, 0, none⟩ v0).setCell ⟨N, 1, none⟩ v1).heap[N]? = some (.cells #[v0, v1, c2, c3] 57 (0, 0)) := heap_setCell_same _ _ _ _ _ _ a0
    have a2 : (((W.setCell ⟨N, 0, none⟩ v0).setCell ⟨N, 1, none⟩ v1).setCell ⟨N, 2, none⟩ v2).heap[N]? = some (.cells #[v0, v1, v2, c3] 57 (0, 0)) := heap_setCell_same _ _ _ _ _ _ a1
    exact heap_setCell_same _ _ _ _ _ _ a2
  · have e : ∀ (W' : World) (i : Nat) (v : Value), (W'.setCell ⟨N, i, none⟩ v).heap[N + 1]? = W'.heap[N + 1]? := fun W' i v => Below.heap_setCell _ _ _ _ (by simp)
    have b0 : ((((W.setCell ⟨N, 0, none⟩ v0).setCell ⟨N, 1, none⟩ v1).setCell ⟨N, 2, none⟩ v2).setCell ⟨N, 3, none⟩ v3).heap[N + 1]? = some (.cells #[d0, d1] 31 (0, 0)) := ((e _ 3 v3).trans ((e _ 2 v2).trans ((e _ 1 v1).trans (e W 0 v0)))).trans h1
    have b1 : (((((W.setCell ⟨N, 0, none⟩ v0).setCell ⟨N, 1, none⟩ v1).setCell ⟨N, 2, none⟩ v2).setCell ⟨N, 3, none⟩ v3).setCell ⟨N + 1, 0, none⟩ p).heap[N + 1]? = some (.cells #[p, d1] 31 (0, 0)) := heap_setCell_same _ _ _ _ _ _ b0
    exact heap_setCell_same _ _ _ _ _ _ b1
theorem res54 {tmps : Array Value} {W : World} {N : Nat} {v0 v1 v2 v3 p q z : Value} (h2 : tmps.getD 6 undef = .pointer (some ⟨N, 0, none⟩)) (h7 : tmps.getD 7 undef = z) (h3 : tmps.getD 8 undef = .pointer (some ⟨N + 1, 0, none⟩))
    (h : W.heap[N]? = some (.cells #[v0, v1, v2, v3] 57 (0, 0))) (h1 : W.heap[N + 1]? = some (.cells #[p, q] 31 (0, 0))) : (results Tryd.f54 tmps).run Tryd.prog W = .ok (.tuple #[.agg #[v0, v1, v2, v3], z, .agg #[p, q]]) W := by
  rw [Array.getD_eq_getD_getElem?] at h2 h3 h7
  obtain ⟨z0, z1, _⟩ := fault_at h1
  obtain ⟨x0, x1, x2, x3⟩ := item_at h
  simp [results, Tryd.results54, go_sem, h2, h3, h7, z0, z1, x0, x1, x2, x3]

/-- the call's own blocks: the results, an item that is none -/
structure W54 (w W : World) : Prop where
  below : Below w.heap.size w W
  z0 : W.heap[w.heap.size]? = some (.cells #[.int .i64 0, .int .u64 0, .string ⟨#[]⟩, .slice none 0 0] 57 (0, 0))
  z1 : W.heap[w.heap.size + 1]? = some (.cells #[.int .i64 0, .int .i64 0] 31 (0, 0))
  z2 : W.heap[w.heap.size + 1 + 1]? = some (.cells #[.int .i64 0, .int .u64 0, .string ⟨#[]⟩, .slice none 0 0] 57 (0, 0))
theorem W54.later {w W W2 : World} (h : W54 w W) (hb : Below W.heap.size W W2) : W54 w W2 :=
  ⟨h.below.trans (hb.mono h.below.size), (hb.block _ (lt_of_block h.z0)).trans h.z0, (hb.block _ (lt_of_block h.z1)).trans h.z1, (hb.block _ (lt_of_block h.z2)).trans h.z2⟩
def w54 (w : World) : World := ((w.alloc (.cells #[.int .i64 0, .int .u64 0, .string ⟨#[]⟩, .slice none 0 0] 57)).alloc (.cells #[.int .i64 0, .int .i64 0] 31)).alloc (.cells #[.int .i64 0, .int .u64 0, .string ⟨#[]⟩, .slice none 0 0] 57)
theorem W54.first (w : World) : W54 w (w54 w) := by
  obtain ⟨h0, h1, h2⟩ := three w #[.int .i64 0, .int .u64 0, .string ⟨#[]⟩, .slice none 0 0] #[.int .i64 0, .int .i64 0] #[.int .i64 0, .int .u64 0, .string ⟨#[]⟩, .slice none 0 0] 57 31 57
  exact ⟨(al2' _ _ _).alloc (by simp; omega) _, h0, h1, h2⟩
theorem w54_size (w : World) : (w54 w).heap.size = w.heap.size + 1 + 1 + 1 := by unfold w54; simp
theorem W54.cells {w W : World} (h : W54 w W) :
    (W.cell? ⟨w.heap.size, 0, none⟩ = some (.int .i64 0) ∧ W.cell? ⟨w.heap.size, 1, none⟩ = some (.int .u64 0) ∧ W.cell? ⟨w.heap.size, 2, none⟩ = some (.string ⟨#[]⟩) ∧ W.cell? ⟨w.heap.size, 3, none⟩ = some (.slice none 0 0)) ∧
    (W.cell? ⟨w.heap.size + 1, 0, none⟩ = some (.int .i64 0) ∧ W.cell? ⟨w.heap.size + 1, 1, none⟩ = some (.int .i64 0)) ∧
    (W.cell? ⟨w.heap.size + 1 + 1, 0, none⟩ = some (.int .i64 0) ∧ W.cell? ⟨w.heap.size + 1 + 1, 1, none⟩ = some (.int .u64 0) ∧ W.cell? ⟨w.heap.size + 1 + 1, 2, none⟩ = some (.string ⟨#[]⟩) ∧ W.cell? ⟨w.heap.size + 1 + 1, 3, none⟩ = some (.slice none 0 0)) ∧
    (∀ j, W.frozen? ⟨w.heap.size, j, none⟩ = false) ∧ (∀ j, W.frozen? ⟨w.heap.size + 1, j, none⟩ = false) := by
  obtain ⟨f1, f2, _⟩ := fault_at h.z1
  exact ⟨item_at h.z0, ⟨f1, f2⟩, item_at h.z2, fun j => by simp only [World.frozen?, h.z0]; rfl, fun j => by simp only [World.frozen?, h.z1]; rfl⟩
theorem fin54_err {b : ByteArray} {w W W6 : World} {tmps : Array Value} {a c : Nat} (hw : W54 w W) (h6 : tmps.getD 6 undef = .pointer (some ⟨w.heap.size, 0, none⟩)) (h7 : tmps.getD 7 undef = .int .i64 0) (h8 : tmps.getD 8 undef = .pointer (some ⟨w.heap.size + 1, 0, none⟩)) (hc : c ≠ 0)
    (he : W6 = (put6 W w.heap.size (.int .i64 0) (.int .u64 0) (.string ⟨#[]⟩) (.slice none 0 0) (.int .i64 a) (.int .i64 c))) :
    bodyPost Tryd.prog Tryd.f54 (Rd54 b w (.error (a, c))) .ret ⟨tmps, []⟩ W6 := by
  have hp := put6_at hw.z0 hw.z1 (.int .i64 0) (.int .u64 0) (.string ⟨#[]⟩) (.slice none 0 0) (.int .i64 a) (.int .i64 c)
  have ho := put6_off W w.heap.size (.int .i64 0) (.int .u64 0) (.string ⟨#[]⟩) (.slice none 0 0) (.int .i64 a) (.int .i64 c)
  subst he
  generalize put6 W _ _ _ _ _ _ _ = W5 at hp ho
  have hb := hw.below
  have hs := hb.size
  refine bodyPost_ret (res54 h6 h7 h8 (W := W5) hp.1 hp.2) rfl ⟨⟨ho.os.trans hb.os, ho.tape.trans hb.tape, ho.output.trans hb.output, Nat.le_trans hs ho.size, fun k hk => ?_⟩, rfl, hc⟩
  exact (ho.block k (by omega) (by omega)).trans (hb.block k hk)
theorem fin54_errd {b : ByteArray} {w W W6 : World} {tmps : Array Value} {a c : Nat} (hw : W54 w W) (h6 : tmps.getD 6 undef = .pointer (some ⟨w.heap.size, 0, none⟩)) (h7 : tmps.getD 7 undef = .int .i64 0) (h8 : tmps.getD 8 undef = .pointer (some ⟨w.heap.size + 1, 0, none⟩)) (hc : c ≠ 0)
    (he : W6 = (put6 W w.heap.size (.int .i64 0) (.int .u64 0) (.string ⟨#[]⟩) (.slice none 0 0) (.int .i64 a) (.int .i64 c)).drew) :
    bodyPost Tryd.prog Tryd.f54 (Rd54 b w (.error (a, c))) .ret ⟨tmps, []⟩ W6 := by
  have hp := put6_at hw.z0 hw.z1 (.int .i64 0) (.int .u64 0) (.string ⟨#[]⟩) (.slice none 0 0) (.int .i64 a) (.int .i64 c)
  have ho := put6_off W w.heap.size (.int .i64 0) (.int .u64 0) (.string ⟨#[]⟩) (.slice none 0 0) (.int .i64 a) (.int .i64 c)
  subst he
  generalize put6 W _ _ _ _ _ _ _ = W5 at hp ho
  have hb := hw.below
  have hs := hb.size
  refine bodyPost_ret (res54 h6 h7 h8 (W := W5.drew) hp.1 hp.2) rfl ⟨⟨ho.os.trans hb.os, ho.tape.trans hb.tape, ho.output.trans hb.output, Nat.le_trans hs ho.size, fun k hk => ?_⟩, rfl, hc⟩
  exact (ho.block k (by omega) (by omega)).trans (hb.block k hk)
theorem fin54_ok {b : ByteArray} {w W W6 : World} {tmps : Array Value} {x : It} {q base : Nat} {v0 v1 v2 v3 : Value} (hw : W54 w W) (hx : HoldsP (fun g => base ≤ g ∧ g < W.heap.size) W v0 v1 v2 v3 x) (hcp : ∀ f, CapsP (fun g => base ≤ g ∧ g < W.heap.size) W f v3 x) (hbase : w.heap.size + 2 ≤ base) (hq : q ≤ b.size)
    (h6 : tmps.getD 6 undef = .pointer (some ⟨w.heap.size, 0, none⟩)) (h7 : tmps.getD 7 undef = .int .i64 (q : Nat)) (h8 : tmps.getD 8 undef = .pointer (some ⟨w.heap.size + 1, 0, none⟩))
    (he : W6 = put6 W w.heap.size v0 v1 v2 v3 (.int .i64 0) (.int .i64 0)) :
    bodyPost Tryd.prog Tryd.f54 (Rd54 b w (.ok (x, q))) .ret ⟨tmps, []⟩ W6 := by
  have hp := put6_at hw.z0 hw.z1 v0 v1 v2 v3 (.int .i64 0) (.int .i64 0)
  have ho := put6_off W w.heap.size v0 v1 v2 v3 (.int .i64 0) (.int .i64 0)
  subst he
  generalize put6 W _ _ _ _ _ _ _ = W5 at hp ho
  have hb := hw.below
  have hs := hb.size
  have hs2 := ho.size
  refine bodyPost_ret (res54 h6 h7 h8 (W := W5) hp.1 hp.2) rfl ⟨⟨ho.os.trans hb.os, ho.tape.trans hb.tape, ho.output.trans hb.output, Nat.le_trans hs ho.size, fun k hk => ?_⟩, _, _, _, _, rfl, ?_, hq, fun f => ?_⟩
  · exact (ho.block k (by omega) (by omega)).trans (hb.block k hk)
  · exact hx.keep (fun g hg => ⟨by omega, by omega⟩) (fun g hg => ho.block g (by omega) hg.2)
  · exact (hcp f).keep (fun g hg => ⟨by omega, by omega⟩) (fun g hg => ho.block g (by omega) hg.2)
theorem below_al_drew (W : World) (o : Obj) : Below W.heap.size W (W.drew.alloc o) := by
  have h := below_al W.drew o
  exact ⟨h.os, h.tape, h.output, h.size, h.block⟩
/-- a fault is made -/
theorem fault_mid {w W : World} (h : W54 w W) (a c : Int) : Calls Tryd.prog 32 #[.int .i64 a, .int .i64 c] W.drew fun e w' => e = .returned (.agg #[.int .i64 a, .int .i64 c]) ∧ W54 w w' :=
  (fault32_any a c W.drew).mono fun e w' ⟨h1, h2⟩ => ⟨h1, by rw [h2]; exact h.later (below_al_drew _ _)⟩
theorem call32 : Callable Tryd.prog 32 := ⟨_, Tryd.func32, by kernel_rfl, by kernel_rfl⟩

set_option maxRecDepth 100000 in
set_option maxHeartbeats 1600000 in
theorem item54_deep (b : ByteArray) (p : Nat) (d : Int) (w : World) (hd : 8 < d) : Calls Tryd.prog 54 #[.string b, .int .i64 p, .int .i64 d] w (Rd54 b w (.error (p, 21))) := by
  have HW := Lib.hid (W54.first w)
  obtain ⟨W0, hW0⟩ : ∃ W0, W0 = w54 w := ⟨_, rfl⟩
  rw [← hW0] at HW
  unfold w54 at hW0
  obtain ⟨⟨c0, c1, c2, c3⟩, ⟨c4, c5⟩, ⟨c6, c7, c8, c9⟩, u0, u1⟩ := HW.out.cells
  have HW0 := Lib.hid hW0
  have hlt := lt_of_block HW.out.z2
  have k1 : W0.heap.size ≠ w.heap.size := by omega
  have k2 : W0.heap.size ≠ w.heap.size + 1 := by omega
  have k3 : w.heap.size ≠ W0.heap.size := by omega
  have k4 : w.heap.size + 1 ≠ W0.heap.size := by omega
  have k5 : w.heap.size + 1 + 1 ≠ W0.heap.size := by omega
  clear hW0
  go_enter Tryd.func54, Tryd.ntmps54
  go_upto_region 2 with (fail)
  rw [← HW0.out]
  go_wp2_with fail
  go_region_law (refine step_call rfl 32 call32 #[.tmp 23, .const (.int .i64 21)] #[3, 27] rfl #[.int .i64 p, .int .i64 21] (by simp [Act.eval, Act.put]) ?_; refine (fault_mid HW.out _ _).mono ?_; rintro e w1 ⟨rfl, hw1⟩; have HW1 := Lib.hid hw1; obtain ⟨⟨a0, a1, a2, a3⟩, ⟨a4, a5⟩, ⟨a6, a7, a8, a9⟩, v0, v1⟩ := hw1.cells; clear hw1; refine ⟨_, rfl, ?_⟩)
  all_goals
    go_wp2_with fail
    exact fin54_err HW1.out rfl rfl rfl (by decide) rfl

set_option maxRecDepth 100000 in
set_option maxHeartbeats 1600000 in
theorem item54_end (b : ByteArray) (p : Nat) (d : Int) (w : World) (hd : d ≤ 8) (hp : b.size ≤ p) : Calls Tryd.prog 54 #[.string b, .int .i64 p, .int .i64 d] w (Rd54 b w (.error (p, 23))) := by
  have hpe : (b.size : Int) ≤ (p : Int) := by omega
  have HW := Lib.hid (W54.first w)
  obtain ⟨W0, hW0⟩ : ∃ W0, W0 = w54 w := ⟨_, rfl⟩
  rw [← hW0] at HW
  unfold w54 at hW0
  obtain ⟨⟨c0, c1, c2, c3⟩, ⟨c4, c5⟩, ⟨c6, c7, c8, c9⟩, u0, u1⟩ := HW.out.cells
  have HW0 := Lib.hid hW0
  have hlt := lt_of_block HW.out.z2
  have k1 : W0.heap.size ≠ w.heap.size := by omega
  have k2 : W0.heap.size ≠ w.heap.size + 1 := by omega
  have k3 : w.heap.size ≠ W0.heap.size := by omega
  have k4 : w.heap.size + 1 ≠ W0.heap.size := by omega
  have k5 : w.heap.size + 1 + 1 ≠ W0.heap.size := by omega
  clear hW0
  go_enter Tryd.func54, Tryd.ntmps54
  go_upto_region 2 with (fail)
  rw [← HW0.out]
  go_wp2_with fail
  go_region_law (refine step_call rfl 32 call32 #[.tmp 30, .const (.int .i64 23)] #[3, 27] rfl #[.int .i64 p, .int .i64 23] (by simp [Act.eval, Act.put]) ?_; refine (fault_mid HW.out _ _).mono ?_; rintro e w1 ⟨rfl, hw1⟩; have HW1 := Lib.hid hw1; obtain ⟨⟨a0, a1, a2, a3⟩, ⟨a4, a5⟩, ⟨a6, a7, a8, a9⟩, v0, v1⟩ := hw1.cells; clear hw1; refine ⟨_, rfl, ?_⟩)
  all_goals
    go_wp2_with fail
    exact fin54_err HW1.out rfl rfl rfl (by decide) rfl

set_option maxRecDepth 100000 in
set_option maxHeartbeats 1600000 in
theorem item54_kind (b : ByteArray) (p : Nat) (d : Int) (w : World) (k : Nat) (hd : d ≤ 8) (hlp : p < b.size) (hk : k = b[p].toNat) (hkk : k < 1 ∨ 3 < k) : Calls Tryd.prog 54 #[.string b, .int .i64 p, .int .i64 d] w (Rd54 b w (.error (p, 20))) := by
  have hpe : ¬ (b.size : Int) ≤ (p : Int) := by omega
  have hkl : k < 256 := by rw [hk]; exact b[p].toNat_lt
  have e0 : wrap64 ((b[p].toNat : Nat) : Int) = (k : Int) := by rw [← hk]; unfold wrap64; omega
  have q1 : (((k : Nat) : Int) != 1) = true := by simp; omega
  have q2 : (((k : Nat) : Int) != 2) = true := by simp; omega
  have q3 : (((k : Nat) : Int) != 3) = true := by simp; omega
  clear hk hkk
  have HW := Lib.hid (W54.first w)
  obtain ⟨W0, hW0⟩ : ∃ W0, W0 = w54 w := ⟨_, rfl⟩
  rw [← hW0] at HW
  unfold w54 at hW0
  obtain ⟨⟨c0, c1, c2, c3⟩, ⟨c4, c5⟩, ⟨c6, c7, c8, c9⟩, u0, u1⟩ := HW.out.cells
  have HW0 := Lib.hid hW0
  have hlt := lt_of_block HW.out.z2
  have k1 : W0.heap.size ≠ w.heap.size := by omega
  have k2 : W0.heap.size ≠ w.heap.size + 1 := by omega
  have k3 : w.heap.size ≠ W0.heap.size := by omega
  have k4 : w.heap.size + 1 ≠ W0.heap.size := by omega
  have k5 : w.heap.size + 1 + 1 ≠ W0.heap.size := by omega
  clear hW0
  go_enter Tryd.func54, Tryd.ntmps54
  go_upto_region 2 with (fail)
  rw [← HW0.out]
  go_wp2_with fail
  go_region_law (refine step_call rfl 32 call32 #[.tmp 47, .const (.int .i64 20)] #[3, 27] rfl #[.int .i64 p, .int .i64 20] (by simp [Act.eval, Act.put]) ?_; refine (fault_mid HW.out _ _).mono ?_; rintro e w1 ⟨rfl, hw1⟩; have HW1 := Lib.hid hw1; obtain ⟨⟨a0, a1, a2, a3⟩, ⟨a4, a5⟩, ⟨a6, a7, a8, a9⟩, v0, v1⟩ := hw1.cells; clear hw1; refine ⟨_, rfl, ?_⟩)
  all_goals
    go_wp2_with fail
    exact fin54_err HW1.out rfl rfl rfl (by decide) rfl

end Go.Proofs.YtakdfjkkeilffaaDoor

namespace Go.Proofs.YtakdfjkkeilffaaDoor
open Go.RowKit

/-- behind the number: its fault lies in block fb -/
structure X54 (w W : World) (fb : Nat) (a c : Int) : Prop where
  own : W54 w W
  ff : W.heap[fb]? = some (.cells #[.int .i64 a, .int .i64 c] 31 (0, 0))
  lo : w.heap.size + 1 + 1 < fb
theorem X54.first {w W0 w1 : World} (h : W54 w W0) (hb : Below W0.heap.size W0 w1) (a c : Int) : X54 w (w1.alloc (.cells #[.int .i64 a, .int .i64 c] 31)) w1.heap.size a c :=
  ⟨(h.later hb).later (below_al _ _), heap_alloc_new _ _, by have := lt_of_block h.z2; have := hb.size; omega⟩
theorem read70_err {b : ByteArray} {p code : Nat} {W : World} (hb : b.size ≤ 262144) (hp : p + 1 ≤ b.size) (hpn : pn 0 0 (rest b (p + 1)) = (code, 0, 0)) (hc : code ≠ 0) :
    Calls Tryd.prog 70 #[.string b, .int .i64 ((p : Int) + 1)] W fun e w1 => e = .returned (.tuple #[.int .u64 0, .int .i64 0, .agg #[.int .i64 ((p + 1 : Nat) : Int), .int .i64 (code : Nat)]]) ∧ Below W.heap.size W w1 := by
  have := read70_any b (p + 1) W hb hp
  rw [show ((p + 1 : Nat) : Int) = (p : Int) + 1 from by omega] at this
  refine this.mono fun e w1 ⟨h1, _, h3⟩ => ⟨?_, h1⟩
  have := h3 (by rw [hpn]; exact hc)
  rw [hpn] at this
  exact this
theorem read70_ok {b : ByteArray} {p n m : Nat} {W : World} (hb : b.size ≤ 262144) (hp : p + 1 ≤ b.size) (hpn : pn 0 0 (rest b (p + 1)) = (0, n, m)) :
    Calls Tryd.prog 70 #[.string b, .int .i64 ((p : Int) + 1)] W fun e w1 => e = .returned (.tuple #[.int .u64 (n : Nat), .int .i64 ((p + 1 + m : Nat) : Int), .agg #[.int .i64 0, .int .i64 0]]) ∧ Below W.heap.size W w1 := by
  have := read70_any b (p + 1) W hb hp
  rw [show ((p + 1 : Nat) : Int) = (p : Int) + 1 from by omega] at this
  refine this.mono fun e w1 ⟨h1, h2, _⟩ => ⟨?_, h1⟩
  have := h2 (by rw [hpn])
  rw [hpn] at this
  exact this

set_option maxRecDepth 100000 in
set_option maxHeartbeats 1600000 in
theorem item54_num (b : ByteArray) (p : Nat) (d : Int) (w : World) (k : Nat) (hb : b.size ≤ 262144) (hd : d ≤ 8) (hlp : p < b.size) (hk : k = b[p].toNat) (code : Nat) (hkk : 1 ≤ k ∧ k ≤ 3) (hpn : pn 0 0 (rest b (p + 1)) = (code, 0, 0)) (hc : code ≠ 0) : Calls Tryd.prog 54 #[.string b, .int .i64 p, .int .i64 d] w (Rd54 b w (.error (p + 1, code))) := by
  have hpe : ¬ (b.size : Int) ≤ (p : Int) := by omega
  have hkl : k < 256 := by rw [hk]; exact b[p].toNat_lt
  have e0 : wrap64 ((b[p].toNat : Nat) : Int) = (k : Int) := by rw [← hk]; unfold wrap64; omega
  have qq : ((((k : Nat) : Int) != 1) = false) ∨ ((((k : Nat) : Int) != 1) = true ∧ (((k : Nat) : Int) != 2) = false) ∨ ((((k : Nat) : Int) != 1) = true ∧ (((k : Nat) : Int) != 2) = true ∧ (((k : Nat) : Int) != 3) = false) := by
    simp; omega
  have q4 : (((code : Nat) : Int) != 0) = true := by simp; omega
  have HC := Lib.hid hc
  obtain ⟨p1, hp1⟩ : ∃ p1, p1 = p + 1 := ⟨_, rfl⟩
  rw [← hp1]
  have HN2 : Hid (∀ W : World, Calls Tryd.prog 70 #[.string b, .int .i64 ((p : Int) + 1)] W fun e w1 => e = .returned (.tuple #[.int .u64 0, .int .i64 0, .agg #[.int .i64 (p1 : Nat), .int .i64 (code : Nat)]]) ∧ Below W.heap.size W w1) := fun W => by rw [hp1]; exact read70_err (W := W) hb (by omega) hpn hc
  clear hk hpn hc hkk hp1
  have HW := Lib.hid (W54.first w)
  obtain ⟨W0, hW0⟩ : ∃ W0, W0 = w54 w := ⟨_, rfl⟩
  rw [← hW0] at HW
  unfold w54 at hW0
  have HN := Lib.hid (HN2.out W0)
  have HW0 := Lib.hid hW0
  clear hW0
  rcases qq with q1 | ⟨q1, q2⟩ | ⟨q1, q2, q3⟩
  all_goals
    go_enter Tryd.func54, Tryd.ntmps54
    go_upto_region 2 with (fail)
    rw [← HW0.out]
    go_upto_region 10 with (go_at_call 70; refine HN.out.mono ?_; rintro e w1 ⟨rfl, hb1⟩; have HB1 := Lib.hid hb1; clear hb1)
    obtain ⟨W4, hW4⟩ : ∃ W4, W4 = w1.alloc (.cells #[.int .i64 (p1 : Nat), .int .i64 (code : Nat)] 31) := ⟨_, rfl⟩
    obtain ⟨fb, hfb⟩ : ∃ fb, fb = w1.heap.size := ⟨_, rfl⟩
    have HX : Hid (X54 w W4 fb (p1 : Nat) (code : Nat)) := by show X54 _ _ _ _ _; rw [hW4, hfb]; exact X54.first HW.out HB1.out _ _
    rw [← hW4, ← hfb]
    clear hW4 hfb
    have hlo := HX.out.lo
    obtain ⟨⟨c0, c1, c2, c3⟩, ⟨c4, c5⟩, ⟨c6, c7, c8, c9⟩, u0, u1⟩ := HX.out.own.cells
    obtain ⟨f0, f1, _⟩ := fault_at HX.out.ff
    have k1 : fb ≠ w.heap.size := by omega
    have k2 : fb ≠ w.heap.size + 1 := by omega
    have k3 : w.heap.size ≠ fb := by omega
    have k4 : w.heap.size + 1 ≠ fb := by omega
    go_wp2_with fail
    go_region
    all_goals
      go_wp2_with fail
      exact fin54_errd HX.out.own rfl rfl rfl HC.out rfl

set_option maxRecDepth 100000 in
set_option maxHeartbeats 1600000 in
theorem item54_one (b : ByteArray) (p : Nat) (d : Int) (w : World) (k : Nat) (hb : b.size ≤ 262144) (hd : d ≤ 8) (hlp : p < b.size) (hk : k = b[p].toNat) (n m : Nat) (r : Except (Nat × Nat) (It × Nat)) (hkv : k = 1) (hpn : pn 0 0 (rest b (p + 1)) = (0, n, m)) (hr : r = .ok (.mk 1 n ⟨#[]⟩ [], p + 1 + m)) : Calls Tryd.prog 54 #[.string b, .int .i64 p, .int .i64 d] w (Rd54 b w r) := by
  have hpe : ¬ (b.size : Int) ≤ (p : Int) := by omega
  have hkl : k < 256 := by rw [hk]; exact b[p].toNat_lt
  have e0 : wrap64 ((b[p].toNat : Nat) : Int) = (k : Int) := by rw [← hk]; unfold wrap64; omega
  have q1 : ((((k : Nat) : Int) != 1) = false) := by simp [hkv]
  have q4 : ((((k : Nat) : Int) == 1) = true) := by simp [hkv]
  obtain ⟨q, hq⟩ : ∃ q, q = p + 1 + m := ⟨_, rfl⟩
  have hbd := pn_bounds _ _ _ _ _ hpn (by decide) (by omega)
  have hqb : q ≤ b.size := by
    have := hbd.2.2
    simp [rest] at this
    rw [hq]; omega
  have HNB := Lib.hid hbd.1
  have HN2 : Hid (∀ W : World, Calls Tryd.prog 70 #[.string b, .int .i64 ((p : Int) + 1)] W fun e w1 => e = .returned (.tuple #[.int .u64 (n : Nat), .int .i64 (q : Int), .agg #[.int .i64 0, .int .i64 0]]) ∧ Below W.heap.size W w1) := fun W => by rw [hq]; exact read70_ok (W := W) hb (by omega) hpn
  have HR : Hid (r = .ok (.mk (k : Int) n ⟨#[]⟩ [], q)) := by show r = _; rw [hr, hkv, hq]; rfl
  clear hk hpn hr hq hkv hbd
  have HW := Lib.hid (W54.first w)
  obtain ⟨W0, hW0⟩ : ∃ W0, W0 = w54 w := ⟨_, rfl⟩
  rw [← hW0] at HW
  unfold w54 at hW0
  have HN := Lib.hid (HN2.out W0)
  have HW0 := Lib.hid hW0
  clear hW0
  go_enter Tryd.func54, Tryd.ntmps54
  go_upto_region 2 with (fail)
  rw [← HW0.out]
  go_upto_region 10 with (go_at_call 70; refine HN.out.mono ?_; rintro e w1 ⟨rfl, hb1⟩; have HB1 := Lib.hid hb1; clear hb1)
  obtain ⟨W4, hW4⟩ : ∃ W4, W4 = w1.alloc (.cells #[.int .i64 0, .int .i64 0] 31) := ⟨_, rfl⟩
  obtain ⟨fb, hfb⟩ : ∃ fb, fb = w1.heap.size := ⟨_, rfl⟩
  have HX : Hid (X54 w W4 fb 0 0) := by show X54 _ _ _ _ _; rw [hW4, hfb]; exact X54.first HW.out HB1.out _ _
  rw [← hW4, ← hfb]
  clear hW4 hfb
  have hlo := HX.out.lo
  obtain ⟨⟨c0, c1, c2, c3⟩, ⟨c4, c5⟩, ⟨c6, c7, c8, c9⟩, u0, u1⟩ := HX.out.own.cells
  obtain ⟨f0, f1, _⟩ := fault_at HX.out.ff
  have k1 : fb ≠ w.heap.size := by omega
  have k2 : fb ≠ w.heap.size + 1 := by omega
  have k3 : w.heap.size ≠ fb := by omega
  have k4 : w.heap.size + 1 ≠ fb := by omega
  go_wp2_with fail
  rw [HR.out]
  exact fin54_ok (base := w.heap.size + 2) HX.out.own (HoldsP.leaf (k : Int) n ⟨#[]⟩ HNB.out (by decide)) (fun f => CapsP.leaf f _ _ _) (by omega) hqb rfl rfl rfl rfl

set_option maxRecDepth 100000 in
set_option maxHeartbeats 1600000 in
theorem item54_far (b : ByteArray) (p : Nat) (d : Int) (w : World) (k : Nat) (hb : b.size ≤ 262144) (hd : d ≤ 8) (hlp : p < b.size) (hk : k = b[p].toNat) (n m : Nat) (r : Except (Nat × Nat) (It × Nat)) (hkv : k = 2) (hpn : pn 0 0 (rest b (p + 1)) = (0, n, m)) (htoo : b.size - (p + 1 + m) < n) (hr : r = .error (p + 1 + m, 23)) : Calls Tryd.prog 54 #[.string b, .int .i64 p, .int .i64 d] w (Rd54 b w r) := by
  have hpe : ¬ (b.size : Int) ≤ (p : Int) := by omega
  have hkl : k < 256 := by rw [hk]; exact b[p].toNat_lt
  have e0 : wrap64 ((b[p].toNat : Nat) : Int) = (k : Int) := by rw [← hk]; unfold wrap64; omega
  have q1 : ((((k : Nat) : Int) != 1) = true) := by simp [hkv]
  have q2 : ((((k : Nat) : Int) != 2) = false) := by simp [hkv]
  have q4 : ((((k : Nat) : Int) == 1) = false) := by simp [hkv]
  have q5 : ((((k : Nat) : Int) == 2) = true) := by simp [hkv]
  obtain ⟨q, hq⟩ : ∃ q, q = p + 1 + m := ⟨_, rfl⟩
  have hbd := pn_bounds _ _ _ _ _ hpn (by decide) (by omega)
  have hqb : q ≤ b.size := by
    have := hbd.2.2
    simp [rest] at this
    rw [hq]; omega
  have HN2 : Hid (∀ W : World, Calls Tryd.prog 70 #[.string b, .int .i64 ((p : Int) + 1)] W fun e w1 => e = .returned (.tuple #[.int .u64 (n : Nat), .int .i64 (q : Int), .agg #[.int .i64 0, .int .i64 0]]) ∧ Below W.heap.size W w1) := fun W => by rw [hq]; exact read70_ok (W := W) hb (by omega) hpn
  have hw : IntKind.u64.wrap ((b.size : Int) - (q : Int)) = (b.size : Int) - (q : Int) := by rw [IntKind.wrap_u64]; omega
  have q6 : (b.size : Int) - (q : Int) < (n : Int) := by rw [hq]; omega
  have HR : Hid (r = .error (q, 23)) := by show r = _; rw [hr, hq]
  clear hk hpn hr hq hkv hbd
  have HW := Lib.hid (W54.first w)
  obtain ⟨W0, hW0⟩ : ∃ W0, W0 = w54 w := ⟨_, rfl⟩
  rw [← hW0] at HW
  unfold w54 at hW0
  have HN := Lib.hid (HN2.out W0)
  have HW0 := Lib.hid hW0
  clear hW0
  go_enter Tryd.func54, Tryd.ntmps54
  go_upto_region 2 with (fail)
  rw [← HW0.out]
  go_upto_region 10 with (go_at_call 70; refine HN.out.mono ?_; rintro e w1 ⟨rfl, hb1⟩; have HB1 := Lib.hid hb1; clear hb1)
  obtain ⟨W4, hW4⟩ : ∃ W4, W4 = w1.alloc (.cells #[.int .i64 0, .int .i64 0] 31) := ⟨_, rfl⟩
  obtain ⟨fb, hfb⟩ : ∃ fb, fb = w1.heap.size := ⟨_, rfl⟩
  have HX : Hid (X54 w W4 fb 0 0) := by show X54 _ _ _ _ _; rw [hW4, hfb]; exact X54.first HW.out HB1.out _ _
  rw [← hW4, ← hfb]
  clear hW4 hfb
  have hlo := HX.out.lo
  obtain ⟨⟨c0, c1, c2, c3⟩, ⟨c4, c5⟩, ⟨c6, c7, c8, c9⟩, u0, u1⟩ := HX.out.own.cells
  obtain ⟨f0, f1, _⟩ := fault_at HX.out.ff
  have k1 : fb ≠ w.heap.size := by omega
  have k2 : fb ≠ w.heap.size + 1 := by omega
  have k3 : w.heap.size ≠ fb := by omega
  have k4 : w.heap.size + 1 ≠ fb := by omega
  go_wp2_with fail
  go_region_law (refine step_call rfl 32 call32 #[.tmp 79, .const (.int .i64 23)] #[3, 27] rfl #[.int .i64 q, .int .i64 23] (by simp [Act.eval, Act.put]) ?_; refine (fault_mid HX.out.own _ _).mono ?_; rintro e w5 ⟨rfl, hw5⟩; have HW5 := Lib.hid hw5; obtain ⟨⟨a0, a1, a2, a3⟩, ⟨a4, a5⟩, ⟨a6, a7, a8, a9⟩, v0, v1⟩ := hw5.cells; clear hw5; refine ⟨_, rfl, ?_⟩)
  all_goals
    go_wp2_with fail
    rw [HR.out]
    exact fin54_err HW5.out rfl rfl rfl (by decide) rfl

set_option maxRecDepth 100000 in
set_option maxHeartbeats 1600000 in
theorem item54_two (b : ByteArray) (p : Nat) (d : Int) (w : World) (k : Nat) (hb : b.size ≤ 262144) (hd : d ≤ 8) (hlp : p < b.size) (hk : k = b[p].toNat) (n m : Nat) (r : Except (Nat × Nat) (It × Nat)) (hkv : k = 2) (hpn : pn 0 0 (rest b (p + 1)) = (0, n, m)) (hfit : ¬ b.size - (p + 1 + m) < n) (hr : r = .ok (.mk 2 0 (b.extract (p + 1 + m) (p + 1 + m + n)) [], p + 1 + m + n)) : Calls Tryd.prog 54 #[.string b, .int .i64 p, .int .i64 d] w (Rd54 b w r) := by
  have hpe : ¬ (b.size : Int) ≤ (p : Int) := by omega
  have hkl : k < 256 := by rw [hk]; exact b[p].toNat_lt
  have e0 : wrap64 ((b[p].toNat : Nat) : Int) = (k : Int) := by rw [← hk]; unfold wrap64; omega
  have q1 : ((((k : Nat) : Int) != 1) = true) := by simp [hkv]
  have q2 : ((((k : Nat) : Int) != 2) = false) := by simp [hkv]
  have q4 : ((((k : Nat) : Int) == 1) = false) := by simp [hkv]
  have q5 : ((((k : Nat) : Int) == 2) = true) := by simp [hkv]
  obtain ⟨q, hq⟩ : ∃ q, q = p + 1 + m := ⟨_, rfl⟩
  have hbd := pn_bounds _ _ _ _ _ hpn (by decide) (by omega)
  have hqb : q ≤ b.size := by
    have := hbd.2.2
    simp [rest] at this
    rw [hq]; omega
  have HN2 : Hid (∀ W : World, Calls Tryd.prog 70 #[.string b, .int .i64 ((p : Int) + 1)] W fun e w1 => e = .returned (.tuple #[.int .u64 (n : Nat), .int .i64 (q : Int), .agg #[.int .i64 0, .int .i64 0]]) ∧ Below W.heap.size W w1) := fun W => by rw [hq]; exact read70_ok (W := W) hb (by omega) hpn
  have hw : IntKind.u64.wrap ((b.size : Int) - (q : Int)) = (b.size : Int) - (q : Int) := by rw [IntKind.wrap_u64]; omega
  have q6 : ¬ (b.size : Int) - (q : Int) < (n : Int) := by rw [hq]; omega
  have hqn : q + n ≤ b.size := by rw [hq]; rw [hq] at hqb; omega
  have hw2 : IntKind.i64.wrap (n : Int) = (n : Int) := by rw [IntKind.wrap_i64]; omega
  obtain ⟨qn, hqn2⟩ : ∃ qn, qn = q + n := ⟨_, rfl⟩
  have HQN : Hid ((q : Int) + (n : Int) = ((qn : Nat) : Int)) := by show _ = _; rw [hqn2]; omega
  have HQB : Hid (qn ≤ b.size) := by show qn ≤ _; rw [hqn2]; exact hqn
  have HR : Hid (r = .ok (.mk (k : Int) 0 (b.extract q (q + n)) [], qn)) := by show r = _; rw [hr, hqn2, hkv, hq]; rfl
  clear hqn2
  clear hk hpn hr hq hkv hbd
  have HW := Lib.hid (W54.first w)
  obtain ⟨W0, hW0⟩ : ∃ W0, W0 = w54 w := ⟨_, rfl⟩
  rw [← hW0] at HW
  unfold w54 at hW0
  have HN := Lib.hid (HN2.out W0)
  have HW0 := Lib.hid hW0
  clear hW0
  go_enter Tryd.func54, Tryd.ntmps54
  go_upto_region 2 with (fail)
  rw [← HW0.out]
  go_upto_region 10 with (go_at_call 70; refine HN.out.mono ?_; rintro e w1 ⟨rfl, hb1⟩; have HB1 := Lib.hid hb1; clear hb1)
  obtain ⟨W4, hW4⟩ : ∃ W4, W4 = w1.alloc (.cells #[.int .i64 0, .int .i64 0] 31) := ⟨_, rfl⟩
  obtain ⟨fb, hfb⟩ : ∃ fb, fb = w1.heap.size := ⟨_, rfl⟩
  have HX : Hid (X54 w W4 fb 0 0) := by show X54 _ _ _ _ _; rw [hW4, hfb]; exact X54.first HW.out HB1.out _ _
  rw [← hW4, ← hfb]
  clear hW4 hfb
  have hlo := HX.out.lo
  obtain ⟨⟨c0, c1, c2, c3⟩, ⟨c4, c5⟩, ⟨c6, c7, c8, c9⟩, u0, u1⟩ := HX.out.own.cells
  obtain ⟨f0, f1, _⟩ := fault_at HX.out.ff
  have k1 : fb ≠ w.heap.size := by omega
  have k2 : fb ≠ w.heap.size + 1 := by omega
  have k3 : w.heap.size ≠ fb := by omega
  have k4 : w.heap.size + 1 ≠ fb := by omega
  go_wp2_with fail
  have e : (q : Int) + (n : Int) = ((qn : Nat) : Int) := HQN.out
  rw [HR.out, e]
  exact fin54_ok (base := w.heap.size + 2) HX.out.own (HoldsP.leaf (k : Int) 0 _ (by decide) (by rw [ByteArray.size_extract]; omega)) (fun f => CapsP.leaf f _ _ _) (by omega) HQB.out rfl rfl rfl rfl

set_option maxRecDepth 100000 in
set_option maxHeartbeats 1600000 in
theorem item54_wide (b : ByteArray) (p : Nat) (d : Int) (w : World) (k : Nat) (hb : b.size ≤ 262144) (hd : d ≤ 8) (hlp : p < b.size) (hk : k = b[p].toNat) (n m : Nat) (r : Except (Nat × Nat) (It × Nat)) (hkv : k = 3) (hpn : pn 0 0 (rest b (p + 1)) = (0, n, m)) (htoo : 16384 < n) (hr : r = .error (p + 1, 2)) : Calls Tryd.prog 54 #[.string b, .int .i64 p, .int .i64 d] w (Rd54 b w r) := by
  have hpe : ¬ (b.size : Int) ≤ (p : Int) := by omega
  have hkl : k < 256 := by rw [hk]; exact b[p].toNat_lt
  have e0 : wrap64 ((b[p].toNat : Nat) : Int) = (k : Int) := by rw [← hk]; unfold wrap64; omega
  have q1 : ((((k : Nat) : Int) != 1) = true) := by simp [hkv]
  have q2 : ((((k : Nat) : Int) != 2) = true) := by simp [hkv]
  have q3 : ((((k : Nat) : Int) != 3) = false) := by simp [hkv]
  have q4 : ((((k : Nat) : Int) == 1) = false) := by simp [hkv]
  have q5 : ((((k : Nat) : Int) == 2) = false) := by simp [hkv]
  obtain ⟨q, hq⟩ : ∃ q, q = p + 1 + m := ⟨_, rfl⟩
  have hbd := pn_bounds _ _ _ _ _ hpn (by decide) (by omega)
  have hqb : q ≤ b.size := by
    have := hbd.2.2
    simp [rest] at this
    rw [hq]; omega
  have HN2 : Hid (∀ W : World, Calls Tryd.prog 70 #[.string b, .int .i64 ((p : Int) + 1)] W fun e w1 => e = .returned (.tuple #[.int .u64 (n : Nat), .int .i64 (q : Int), .agg #[.int .i64 0, .int .i64 0]]) ∧ Below W.heap.size W w1) := fun W => by rw [hq]; exact read70_ok (W := W) hb (by omega) hpn
  have hw : IntKind.u64.wrap ((b.size : Int) - (q : Int)) = (b.size : Int) - (q : Int) := by rw [IntKind.wrap_u64]; omega
  have q6 : (16384 : Int) < (n : Int) := by omega
  obtain ⟨p1, hp1⟩ : ∃ p1, p1 = p + 1 := ⟨_, rfl⟩
  have HP1 : Hid ((p : Int) + 1 = ((p1 : Nat) : Int)) := by show _ = _; rw [hp1]; omega
  have HR : Hid (r = .error (p1, 2)) := by show r = _; rw [hr, hp1]
  have hwp : IntKind.i64.wrap ((p : Int) + 1) = (p : Int) + 1 := by rw [IntKind.wrap_i64]; omega
  clear hp1 htoo
  clear hk hpn hr hq hkv hbd
  have HW := Lib.hid (W54.first w)
  obtain ⟨W0, hW0⟩ : ∃ W0, W0 = w54 w := ⟨_, rfl⟩
  rw [← hW0] at HW
  unfold w54 at hW0
  have HN := Lib.hid (HN2.out W0)
  have HW0 := Lib.hid hW0
  clear hW0
  go_enter Tryd.func54, Tryd.ntmps54
  go_upto_region 2 with (fail)
  rw [← HW0.out]
  go_upto_region 10 with (go_at_call 70; refine HN.out.mono ?_; rintro e w1 ⟨rfl, hb1⟩; have HB1 := Lib.hid hb1; clear hb1)
  obtain ⟨W4, hW4⟩ : ∃ W4, W4 = w1.alloc (.cells #[.int .i64 0, .int .i64 0] 31) := ⟨_, rfl⟩
  obtain ⟨fb, hfb⟩ : ∃ fb, fb = w1.heap.size := ⟨_, rfl⟩
  have HX : Hid (X54 w W4 fb 0 0) := by show X54 _ _ _ _ _; rw [hW4, hfb]; exact X54.first HW.out HB1.out _ _
  rw [← hW4, ← hfb]
  clear hW4 hfb
  have hlo := HX.out.lo
  obtain ⟨⟨c0, c1, c2, c3⟩, ⟨c4, c5⟩, ⟨c6, c7, c8, c9⟩, u0, u1⟩ := HX.out.own.cells
  obtain ⟨f0, f1, _⟩ := fault_at HX.out.ff
  have k1 : fb ≠ w.heap.size := by omega
  have k2 : fb ≠ w.heap.size + 1 := by omega
  have k3 : w.heap.size ≠ fb := by omega
  have k4 : w.heap.size + 1 ≠ fb := by omega
  go_wp2_with fail
  go_region_law (refine step_call rfl 32 call32 #[.tmp 99, .const (.int .i64 2)] #[3, 27] rfl #[.int .i64 ((p : Int) + 1), .int .i64 2] (by simp [Act.eval, Act.put, hwp]) ?_; refine (fault_mid HX.out.own _ _).mono ?_; rintro e w5 ⟨rfl, hw5⟩; have HW5 := Lib.hid hw5; obtain ⟨⟨a0, a1, a2, a3⟩, ⟨a4, a5⟩, ⟨a6, a7, a8, a9⟩, v0, v1⟩ := hw5.cells; clear hw5; refine ⟨_, rfl, ?_⟩)
  all_goals
    go_wp2_with fail
    rw [HR.out, HP1.out]
    exact fin54_err HW5.out rfl rfl rfl (by decide) rfl

end Go.Proofs.YtakdfjkkeilffaaDoor

namespace Go.Proofs.YtakdfjkkeilffaaDoor
open Go.RowKit

set_option maxRecDepth 100000 in
set_option maxHeartbeats 3200000 in
theorem item54_three (b : ByteArray) (p : Nat) (d : Int) (w : World) (k : Nat) (hb : b.size ≤ 262144) (hd : d ≤ 8) (hlp : p < b.size) (hk : k = b[p].toNat) (n m : Nat) (r : Except (Nat × Nat) (It × Nat)) (hd1 : 1 ≤ d) (hkv : k = 3) (hpn : pn 0 0 (rest b (p + 1)) = (0, n, m)) (htoo : ¬ 16384 < n) (rd : Nat → Except (Nat × Nat) (It × Nat)) (ih : ∀ (q : Nat) (w : World), q ≤ b.size → Calls Tryd.prog 54 #[.string b, .int .i64 q, .int .i64 (d + 1)] w (Rd54 b w (rd q))) (hr : r = match psMany rd n (p + 1 + m) with | .error e => .error e | .ok (l, q) => .ok (.mk 3 0 ⟨#[]⟩ l, q)) : Calls Tryd.prog 54 #[.string b, .int .i64 p, .int .i64 d] w (Rd54 b w r) := by
  have hpe : ¬ (b.size : Int) ≤ (p : Int) := by omega
  have hkl : k < 256 := by rw [hk]; exact b[p].toNat_lt
  have e0 : wrap64 ((b[p].toNat : Nat) : Int) = (k : Int) := by rw [← hk]; unfold wrap64; omega
  have q1 : ((((k : Nat) : Int) != 1) = true) := by simp [hkv]
  have q2 : ((((k : Nat) : Int) != 2) = true) := by simp [hkv]
  have q3 : ((((k : Nat) : Int) != 3) = false) := by simp [hkv]
  have q4 : ((((k : Nat) : Int) == 1) = false) := by simp [hkv]
  have q5 : ((((k : Nat) : Int) == 2) = false) := by simp [hkv]
  obtain ⟨q, hq⟩ : ∃ q, q = p + 1 + m := ⟨_, rfl⟩
  have hbd := pn_bounds _ _ _ _ _ hpn (by decide) (by omega)
  have hqb : q ≤ b.size := by
    have := hbd.2.2
    simp [rest] at this
    rw [hq]; omega
  have HN2 : Hid (∀ W : World, Calls Tryd.prog 70 #[.string b, .int .i64 ((p : Int) + 1)] W fun e w1 => e = .returned (.tuple #[.int .u64 (n : Nat), .int .i64 (q : Int), .agg #[.int .i64 0, .int .i64 0]]) ∧ Below W.heap.size W w1) := fun W => by rw [hq]; exact read70_ok (W := W) hb (by omega) hpn
  have q6 : ¬ (16384 : Int) < (n : Int) := by omega
  have hw2 : IntKind.i64.wrap (n : Int) = (n : Int) := by rw [IntKind.wrap_i64]; omega
  have HR : Hid (r = match psMany rd n q with | .error e => .error e | .ok (l, q) => .ok (.mk 3 0 ⟨#[]⟩ l, q)) := by show r = _; rw [hq]; exact hr
  have IH := Lib.hid ih
  have HK3 := Lib.hid hkv
  clear hk hpn hr hq hkv hbd ih
  have HW := Lib.hid (W54.first w)
  obtain ⟨W0, hW0⟩ : ∃ W0, W0 = w54 w := ⟨_, rfl⟩
  rw [← hW0] at HW
  unfold w54 at hW0
  have HN := Lib.hid (HN2.out W0)
  have HW0 := Lib.hid hW0
  clear hW0
  go_enter Tryd.func54, Tryd.ntmps54
  go_upto_region 2 with (fail)
  rw [← HW0.out]
  go_upto_region 10 with (go_at_call 70; refine HN.out.mono ?_; rintro e w1 ⟨rfl, hb1⟩; have HB1 := Lib.hid hb1; clear hb1)
  obtain ⟨W4, hW4⟩ : ∃ W4, W4 = w1.alloc (.cells #[.int .i64 0, .int .i64 0] 31) := ⟨_, rfl⟩
  obtain ⟨fb, hfb⟩ : ∃ fb, fb = w1.heap.size := ⟨_, rfl⟩
  have HX : Hid (X54 w W4 fb 0 0) := by show X54 _ _ _ _ _; rw [hW4, hfb]; exact X54.first HW.out HB1.out _ _
  rw [← hW4, ← hfb]
  clear hW4 hfb
  have hlo := HX.out.lo
  obtain ⟨⟨c0, c1, c2, c3⟩, ⟨c4, c5⟩, ⟨c6, c7, c8, c9⟩, u0, u1⟩ := HX.out.own.cells
  obtain ⟨f0, f1, _⟩ := fault_at HX.out.ff
  have k1 : fb ≠ w.heap.size := by omega
  have k2 : fb ≠ w.heap.size + 1 := by omega
  have k3 : w.heap.size ≠ fb := by omega
  have k4 : w.heap.size + 1 ≠ fb := by omega
  obtain ⟨j0, hj0, hjz0, hjz1, hjz2⟩ := info_parts i57
  go_upto_region 21 with (fail)
  rw [HK3.out]
  obtain ⟨xb, hxb⟩ : ∃ xb, xb = W4.heap.size := ⟨_, rfl⟩
  obtain ⟨base, hbase⟩ : ∃ base, base = xb + 1 := ⟨_, rfl⟩
  have HL0 : Hid (LRow base xb W4 (W4.alloc (.cells #[.int .i64 ((3 : Nat) : Int), .int .u64 0, .string ⟨#[]⟩, .slice none 0 0] 57)) (.slice none 0 0) [] []) := by
    have := LRow.first (xb := xb) (cs := #[]) (below_al W4 (.cells #[.int .i64 ((3 : Nat) : Int), .int .u64 0, .string ⟨#[]⟩, .slice none 0 0] 57)) (by rw [hxb]; exact heap_alloc_new _ _) (by omega)
    rw [show (W4.alloc (.cells #[.int .i64 ((3 : Nat) : Int), .int .u64 0, .string ⟨#[]⟩, .slice none 0 0] 57)).heap.size = base from by simp; omega] at this
    exact this
  have hbs4 : w.heap.size + 2 ≤ xb := by have := lt_of_block HX.out.own.z2; omega
  rw [← hxb]
  clear hxb c0 c1 c2 c3 c4 c5 c6 c7 c8 c9 u0 u1 f0 f1
  have HBA := Lib.hid hbase
  clear hbase
  go_wp2_with fail
  go_loopw [12, 15] (fun e i wr => ∃ t qt : Nat, ∃ V xs vs, t ≤ n ∧ i = .int .i64 t ∧ e = .int .i64 qt ∧ xs.length = t ∧ qt ≤ b.size ∧ Hid (LRow base xb W4 wr V xs vs) ∧ Hid (LCap base wr V xs vs) ∧ Hid (psMany rd n q = match psMany rd (n - t) qt with | .error e => .error e | .ok (l, e) => .ok (xs ++ l, e))) (fun _ i _ => n - (intOf i).toNat)
  case atStart =>
    refine ⟨0, q, _, _, _, by omega, rfl, rfl, rfl, hqb, HL0.out, LCap.nil _ _ _ _, ?_⟩
    show _ = _
    rw [Nat.sub_zero]
    cases psMany rd n q <;> rfl
  case round =>
    obtain ⟨t, qt, V, xs, vs, ht, rfl, rfl, hxl, hqt, HRW, HCP, HPS⟩ := hrel
    obtain ⟨wo, rfl⟩ : ∃ wo : World, wo = wr := ⟨_, rfl⟩
    have hhi := HRW.out.hi
    have HO := Lib.hid (HX.out.own.later HRW.out.below)
    by_cases htn : t < n
    · have HCALL := Lib.hid (IH.out qt wo hqt)
      cases hrd : rd qt with
      | error ec =>
        obtain ⟨a, c⟩ := ec
        have HRE : Hid (r = .error (a, c)) := by
          show r = _
          have h := HPS.out
          rw [show n - t = (n - t - 1) + 1 from by omega] at h
          simp only [psMany, hrd] at h
          rw [HR.out, h]
        rw [hrd] at HCALL
        clear hrd
        go_upto_region 25 with (go_at_call 54; refine HCALL.out.mono ?_; rintro e w6 ⟨hb6, rfl, hc⟩; have HB6 := Lib.hid hb6; have HC := Lib.hid hc; have hcb : (((c : Nat) : Int) != 0) = true := (by simp; omega); clear hb6 hc)
        obtain ⟨W7, hW7⟩ : ∃ W7, W7 = (w6.alloc (.cells #[.int .i64 0, .int .u64 0, .string ⟨#[]⟩, .slice none 0 0] 57)).alloc (.cells #[.int .i64 a, .int .i64 c] 31) := ⟨_, rfl⟩
        rw [← hW7]
        have HO7 : Hid (W54 w W7) := by show W54 _ _; rw [hW7]; exact (HO.out.later HB6.out).later (al2' _ _ _)
        have hf7 : W7.heap[w6.heap.size + 1]? = some (.cells #[.int .i64 a, .int .i64 c] 31 (0, 0)) := by rw [hW7]; exact (two_al _ _ _ _ _).2
        obtain ⟨⟨c0, c1, c2, c3⟩, ⟨c4, c5⟩, ⟨c6, c7, c8, c9⟩, u0, u1⟩ := HO7.out.cells
        obtain ⟨f0, f1, _⟩ := fault_at hf7
        have hlt2 := lt_of_block HO.out.z2
        have hs6 := HB6.out.size
        have k1 : w6.heap.size + 1 ≠ w.heap.size := by omega
        have k2 : w6.heap.size + 1 ≠ w.heap.size + 1 := by omega
        have k3 : w.heap.size ≠ w6.heap.size + 1 := by omega
        have k4 : w.heap.size + 1 ≠ w6.heap.size + 1 := by omega
        clear hW7 hf7
        go_wp2_with fail
        go_region
        all_goals
          go_wp2_with fail
          rw [HRE.out]
          exact fin54_errd HO7.out rfl rfl rfl HC.out rfl
      | ok xq =>
        obtain ⟨x, q'⟩ := xq
        have HPS2 : Hid (psMany rd n q = match psMany rd (n - (t + 1)) q' with | .error e => .error e | .ok (l, e) => .ok ((xs ++ [x]) ++ l, e)) := by
          show _ = _
          have h := HPS.out
          rw [show n - t = (n - (t + 1)) + 1 from by omega] at h
          simp only [psMany, hrd] at h
          rw [h]
          cases psMany rd (n - (t + 1)) q' with
          | error e => rfl
          | ok le => simp
        rw [hrd] at HCALL
        clear hrd HPS
        go_upto_region 27 with (go_at_call 54; refine HCALL.out.mono ?_; rintro e w6 ⟨hb6, v0, v1, v2, v3, rfl, hx, hqb6, hcx⟩; have HXX := Lib.hid hx; have HCX := Lib.hid hcx; clear hcx; obtain ⟨xk, xn, xt, xA, xm, xc, rfl, rfl, rfl, rfl⟩ := hx.shape; have HB6 := Lib.hid hb6; clear hb6 hx)
        have HL6 := Lib.hid (HRW.out.later HB6.out)
        obtain ⟨W7, hW7⟩ : ∃ W7, W7 = (w6.alloc (.cells #[.int .i64 xk, .int .u64 xn, .string xt, .slice xA xm xc] 57)).alloc (.cells #[.int .i64 0, .int .i64 0] 31) := ⟨_, rfl⟩
        rw [← hW7]
        have hb7 : Below w6.heap.size w6 W7 := by rw [hW7]; exact al2' _ _ _
        have HL7 := Lib.hid (HL6.out.later hb7)
        have HCP7 := Lib.hid ((HCP.out.later HB6.out).later hb7)
        have HB7 := Lib.hid hb7
        have hy7 : W7.heap[w6.heap.size]? = some (.cells #[.int .i64 xk, .int .u64 xn, .string xt, .slice xA xm xc] 57 (0, 0)) := by rw [hW7]; exact (two_al _ _ _ _ _).1
        obtain ⟨y0, y1, y2, y3⟩ := item_at hy7
        obtain ⟨l0, l1, l2, l3, l4⟩ := HL7.out.cells
        have hs6 := HB6.out.size
        have hs7 := HB7.out.size
        have HNEWS := Lib.hid (newsm W7 (.int .i64 xk) (.int .u64 xn) (.string xt) (.slice xA xm xc) 57)
        clear hW7 hb7 hy7
        go_wp2_with (at_builtin; refine wpList_append_lies _ rfl _ _ 55 rfl base 57 j0 zeroItem 4 56 t55 hj0 hjz0 hjz1 hjz2 rfl (by decide) V xs.length vs rfl (HL7.out.row.alloc _) ⟨W7.heap.size, 0, none⟩ 1 1 [.int .i64 xk, .int .u64 xn, .string xt, .slice xA xm xc] rfl rfl HNEWS.out HXX.out.one (by omega) (by unfold maxLen; omega) (by omega) (by simp; omega) (W7.heap.size + 1) (by simp) ?_; intro g cap w8 hown hgrow hat hlt8; have HL8 := Lib.hid (HL7.out.later (below_al W7 (.cells #[.int .i64 xk, .int .u64 xn, .string xt, .slice xA xm xc] 57))); have hmid := HL8.out.mid hgrow; have HCN := Lib.hid (LCap.next HL8.out (HCP7.out.later (below_al W7 (.cells #[.int .i64 xk, .int .u64 xn, .string xt, .slice xA xm xc] 57))) (x := x) (v0 := .int .i64 xk) (v1 := .int .u64 xn) (v2 := .string xt) (v3 := .slice xA xm xc) (g := g) (cap := cap) (fun f => (HCX.out f).keep (fun g hg => ⟨by omega, by simp; omega, fun e => by have := HRW.out.own g e; omega⟩) (fun g hg => (Below.heap_alloc _ _ _ (by omega)).trans (HB7.out.block g hg.2))) hgrow (by simpa using hat)); have HN := Lib.hid (HL8.out.next (x := x) (HXX.out.keep (fun g hg => ⟨by omega, by simp; omega, fun e => by have := HRW.out.own g e; omega⟩) (fun g hg => (Below.heap_alloc _ _ _ (by omega)).trans (HB7.out.block g hg.2))) hown hgrow (by simpa using hat) hlt8); have z3 : w8.cell? ⟨xb, 3, none⟩ = some V := ((cell_of_row _ _ _ _ _ _ hmid).trans rfl); have zf : w8.frozen? ⟨xb, 3, none⟩ = false := (by simp only [World.frozen?, hmid]; rfl); clear hown hgrow hat hlt8 hmid)
        go_roundw
        case rel =>
          have h := HN.out
          have h2 := HCN.out
          rw [hxl] at h h2
          have hl1 : (xs ++ [x]).length = t + 1 := by simp [hxl]
          repeat apply Exists.intro
          exact ⟨⟨t + 1, q', _, xs ++ [x], _, by omega, by go_num, rfl, hl1, hqb6, h, h2, HPS2.out⟩, rfl⟩
        case measure => simp [intOf]; omega
    · obtain rfl : t = n := by omega
      have HRE : Hid (r = .ok (.mk 3 0 ⟨#[]⟩ xs, qt)) := by
        show r = _
        have h := HPS.out
        rw [Nat.sub_self] at h
        simp only [psMany, List.append_nil] at h
        rw [HR.out, h]
      obtain ⟨VA, VL, VC, rfl⟩ := HRW.out.form
      obtain ⟨x0, x1, x2, x3, x4⟩ := HRW.out.cells
      obtain ⟨⟨c0, c1, c2, c3⟩, ⟨c4, c5⟩, ⟨c6, c7, c8, c9⟩, u0, u1⟩ := HO.out.cells
      go_wp2_with fail
      rw [HRE.out]
      exact fin54_ok (base := base) HO.out (HRW.out.item (by omega)) (LCap.item HRW.out HCP.out) (by have := HBA.out; omega) hqt rfl rfl rfl rfl


end Go.Proofs.YtakdfjkkeilffaaDoor

namespace Go.Proofs.YtakdfjkkeilffaaDoor
open Go.RowKit

theorem pn_zero (l : List UInt8) : ∀ i acc c n m, pn i acc l = (c, n, m) → c ≠ 0 → n = 0 ∧ m = 0 := by
  induction l with
  | nil => intro i acc c n m h hc; simp [pn] at h; omega
  | cons x r ih =>
    intro i acc c n m h hc
    simp only [pn] at h
    split at h
    · simp at h; omega
    · split at h
      · split at h
        · simp at h; omega
        · simp at h; omega
      · exact ih _ _ _ _ _ h hc

theorem item54_any (f : Nat) : ∀ (d : Int) (b : ByteArray) (p : Nat) (w : World), d + f = 9 → 1 ≤ d → b.size ≤ 262144 → p ≤ b.size →
    Calls Tryd.prog 54 #[.string b, .int .i64 p, .int .i64 d] w (Rd54 b w (ps f b p)) := by
  induction f with
  | zero => intro d b p w hd hd1 hb hp; exact item54_deep b p d w (by omega)
  | succ f ih =>
    intro d b p w hd hd1 hb hp
    have hd8 : d ≤ 8 := by omega
    by_cases hend : b.size ≤ p
    · have e : ps (f + 1) b p = .error (p, 23) := by simp only [ps]; rw [if_pos hend]
      rw [e]
      exact item54_end b p d w hd8 hend
    · have hlp : p < b.size := by omega
      have hgd : (b.data.toList.getD p 0).toNat = b[p].toNat := by
        rw [List.getD_eq_getElem?_getD, List.getElem?_eq_getElem (by simpa using hlp)]; rfl
      by_cases hkk : b[p].toNat < 1 ∨ 3 < b[p].toNat
      · have e : ps (f + 1) b p = .error (p, 20) := by simp only [ps]; rw [if_neg hend, hgd, if_pos hkk]
        rw [e]
        exact item54_kind b p d w _ hd8 hlp rfl hkk
      · obtain ⟨c, n, m, hpn⟩ : ∃ c n m, pn 0 0 (rest b (p + 1)) = (c, n, m) := ⟨_, _, _, rfl⟩
        have e0 : ps (f + 1) b p = if c ≠ 0 then .error (p + 1, c)
            else if b[p].toNat = 1 then .ok (.mk 1 n ⟨#[]⟩ [], p + 1 + m)
            else if b[p].toNat = 2 then
              if b.size - (p + 1 + m) < n then .error (p + 1 + m, 23) else .ok (.mk 2 0 (b.extract (p + 1 + m) (p + 1 + m + n)) [], p + 1 + m + n)
            else if 16384 < n then .error (p + 1, 2)
            else match psMany (ps f b) n (p + 1 + m) with | .error e => .error e | .ok (l, q) => .ok (.mk 3 0 ⟨#[]⟩ l, q) := by
          simp only [ps]
          rw [if_neg hend, hgd, if_neg hkk, hpn]; rfl
        by_cases hc : c = 0
        · subst hc
          rw [if_neg (by simp)] at e0
          have hk : b[p].toNat = 1 ∨ b[p].toNat = 2 ∨ b[p].toNat = 3 := by omega
          rcases hk with hk | hk | hk
          · rw [if_pos hk] at e0
            exact item54_one b p d w 1 hb hd8 hlp hk.symm n m _ rfl hpn e0
          · rw [if_neg (by omega), if_pos hk] at e0
            by_cases hfar : b.size - (p + 1 + m) < n
            · rw [if_pos hfar] at e0
              exact item54_far b p d w 2 hb hd8 hlp hk.symm n m _ rfl hpn hfar e0
            · rw [if_neg hfar] at e0
              exact item54_two b p d w 2 hb hd8 hlp hk.symm n m _ rfl hpn hfar e0
          · rw [if_neg (by omega), if_neg (by omega)] at e0
            by_cases hfar : 16384 < n
            · rw [if_pos hfar] at e0
              exact item54_wide b p d w 3 hb hd8 hlp hk.symm n m _ rfl hpn hfar e0
            · rw [if_neg hfar] at e0
              exact item54_three b p d w 3 hb hd8 hlp hk.symm n m _ hd1 rfl hpn hfar (ps f b) (fun q w' hq => ih (d + 1) b q w' (by omega) (by omega) hb hq) e0
        · rw [if_pos hc] at e0
          obtain ⟨rfl, rfl⟩ := pn_zero _ _ _ _ _ _ hpn hc
          rw [e0]
          exact item54_num b p d w _ hb hd8 hlp rfl c (by omega) hpn hc

/-- what the document's Decode does -/
def Dec37 (w : World) (r : Except (Nat × Nat) It) (e : Ending) (w' : World) : Prop :=
  Below w.heap.size w w' ∧ match r with
  | .error (a, c) => e = .returned (.tuple #[.agg #[.int .i64 0, .int .u64 0, .string ⟨#[]⟩, .slice none 0 0], .agg #[.int .i64 (a : Nat), .int .i64 (c : Nat)]]) ∧ c ≠ 0
  | .ok x => ∃ v0 v1 v2 v3, e = .returned (.tuple #[.agg #[v0, v1, v2, v3], .agg #[.int .i64 0, .int .i64 0]]) ∧ HoldsP (fun g => w.heap.size ≤ g ∧ g < w'.heap.size) w' v0 v1 v2 v3 x ∧ ∀ f, CapsP (fun g => w.heap.size ≤ g ∧ g < w'.heap.size) w' f v3 x
theorem res37 {tmps : Array Value} {W : World} {N : Nat} {v0 v1 v2 v3 p q : Value} (h2 : tmps.getD 2 undef = .pointer (some ⟨N, 0, none⟩)) (h3 : tmps.getD 3 undef = .pointer (some ⟨N + 1, 0, none⟩))
    (h : W.heap[N]? = some (.cells #[v0, v1, v2, v3] 57 (0, 0))) (h1 : W.heap[N + 1]? = some (.cells #[p, q] 31 (0, 0))) : (results Tryd.f37 tmps).run Tryd.prog W = .ok (.tuple #[.agg #[v0, v1, v2, v3], .agg #[p, q]]) W := by
  rw [Array.getD_eq_getD_getElem?] at h2 h3
  obtain ⟨z0, z1, _⟩ := fault_at h1
  obtain ⟨x0, x1, x2, x3⟩ := item_at h
  simp [results, Tryd.results37, go_sem, h2, h3, z0, z1, x0, x1, x2, x3]
/-- the results' blocks -/
structure W37 (w W : World) : Prop where
  below : Below w.heap.size w W
  z0 : W.heap[w.heap.size]? = some (.cells #[.int .i64 0, .int .u64 0, .string ⟨#[]⟩, .slice none 0 0] 57 (0, 0))
  z1 : W.heap[w.heap.size + 1]? = some (.cells #[.int .i64 0, .int .i64 0] 31 (0, 0))
theorem W37.later {w W W2 : World} (h : W37 w W) (hb : Below W.heap.size W W2) : W37 w W2 :=
  ⟨h.below.trans (hb.mono h.below.size), (hb.block _ (lt_of_block h.z0)).trans h.z0, (hb.block _ (lt_of_block h.z1)).trans h.z1⟩
def w37 (w : World) : World := (w.alloc (.cells #[.int .i64 0, .int .u64 0, .string ⟨#[]⟩, .slice none 0 0] 57)).alloc (.cells #[.int .i64 0, .int .i64 0] 31)
theorem W37.first (w : World) : W37 w (w37 w) := ⟨al2' _ _ _, (two_al _ _ _ _ _).1, (two_al _ _ _ _ _).2⟩
theorem W37.cells {w W : World} (h : W37 w W) :
    (W.cell? ⟨w.heap.size, 0, none⟩ = some (.int .i64 0) ∧ W.cell? ⟨w.heap.size, 1, none⟩ = some (.int .u64 0) ∧ W.cell? ⟨w.heap.size, 2, none⟩ = some (.string ⟨#[]⟩) ∧ W.cell? ⟨w.heap.size, 3, none⟩ = some (.slice none 0 0)) ∧
    (W.cell? ⟨w.heap.size + 1, 0, none⟩ = some (.int .i64 0) ∧ W.cell? ⟨w.heap.size + 1, 1, none⟩ = some (.int .i64 0)) ∧
    (∀ j, W.frozen? ⟨w.heap.size, j, none⟩ = false) ∧ (∀ j, W.frozen? ⟨w.heap.size + 1, j, none⟩ = false) := by
  obtain ⟨f1, f2, f3⟩ := fault_at h.z1
  exact ⟨item_at h.z0, ⟨f1, f2⟩, fun j => by simp only [World.frozen?, h.z0]; rfl, f3⟩
theorem fin37_err {w W W6 : World} {tmps : Array Value} {a c : Nat} (hw : W37 w W) (h2 : tmps.getD 2 undef = .pointer (some ⟨w.heap.size, 0, none⟩)) (h3 : tmps.getD 3 undef = .pointer (some ⟨w.heap.size + 1, 0, none⟩)) (hc : c ≠ 0)
    (he : W6 = (put6 W w.heap.size (.int .i64 0) (.int .u64 0) (.string ⟨#[]⟩) (.slice none 0 0) (.int .i64 a) (.int .i64 c))) :
    bodyPost Tryd.prog Tryd.f37 (Dec37 w (.error (a, c))) .ret ⟨tmps, []⟩ W6 := by
  have hp := put6_at hw.z0 hw.z1 (.int .i64 0) (.int .u64 0) (.string ⟨#[]⟩) (.slice none 0 0) (.int .i64 a) (.int .i64 c)
  have ho := put6_off W w.heap.size (.int .i64 0) (.int .u64 0) (.string ⟨#[]⟩) (.slice none 0 0) (.int .i64 a) (.int .i64 c)
  subst he
  generalize put6 W _ _ _ _ _ _ _ = W5 at hp ho
  have hb := hw.below
  have hs := hb.size
  refine bodyPost_ret (res37 h2 h3 (W := W5) hp.1 hp.2) rfl ⟨⟨ho.os.trans hb.os, ho.tape.trans hb.tape, ho.output.trans hb.output, Nat.le_trans hs ho.size, fun k hk => ?_⟩, rfl, hc⟩
  exact (ho.block k (by omega) (by omega)).trans (hb.block k hk)
theorem fin37_errd {w W W6 : World} {tmps : Array Value} {a c : Nat} (hw : W37 w W) (h2 : tmps.getD 2 undef = .pointer (some ⟨w.heap.size, 0, none⟩)) (h3 : tmps.getD 3 undef = .pointer (some ⟨w.heap.size + 1, 0, none⟩)) (hc : c ≠ 0)
    (he : W6 = (put6 W w.heap.size (.int .i64 0) (.int .u64 0) (.string ⟨#[]⟩) (.slice none 0 0) (.int .i64 a) (.int .i64 c)).drew) :
    bodyPost Tryd.prog Tryd.f37 (Dec37 w (.error (a, c))) .ret ⟨tmps, []⟩ W6 := by
  have hp := put6_at hw.z0 hw.z1 (.int .i64 0) (.int .u64 0) (.string ⟨#[]⟩) (.slice none 0 0) (.int .i64 a) (.int .i64 c)
  have ho := put6_off W w.heap.size (.int .i64 0) (.int .u64 0) (.string ⟨#[]⟩) (.slice none 0 0) (.int .i64 a) (.int .i64 c)
  subst he
  generalize put6 W _ _ _ _ _ _ _ = W5 at hp ho
  have hb := hw.below
  have hs := hb.size
  refine bodyPost_ret (res37 h2 h3 (W := W5.drew) hp.1 hp.2) rfl ⟨⟨ho.os.trans hb.os, ho.tape.trans hb.tape, ho.output.trans hb.output, Nat.le_trans hs ho.size, fun k hk => ?_⟩, rfl, hc⟩
  exact (ho.block k (by omega) (by omega)).trans (hb.block k hk)
theorem fin37_ok {w W W6 : World} {tmps : Array Value} {x : It} {base : Nat} {v0 v1 v2 v3 : Value} (hw : W37 w W) (hx : HoldsP (fun g => base ≤ g ∧ g < W.heap.size) W v0 v1 v2 v3 x) (hcp : ∀ f, CapsP (fun g => base ≤ g ∧ g < W.heap.size) W f v3 x) (hbase : w.heap.size + 2 ≤ base)
    (h2 : tmps.getD 2 undef = .pointer (some ⟨w.heap.size, 0, none⟩)) (h3 : tmps.getD 3 undef = .pointer (some ⟨w.heap.size + 1, 0, none⟩))
    (he : W6 = put6 W w.heap.size v0 v1 v2 v3 (.int .i64 0) (.int .i64 0)) :
    bodyPost Tryd.prog Tryd.f37 (Dec37 w (.ok x)) .ret ⟨tmps, []⟩ W6 := by
  have hp := put6_at hw.z0 hw.z1 v0 v1 v2 v3 (.int .i64 0) (.int .i64 0)
  have ho := put6_off W w.heap.size v0 v1 v2 v3 (.int .i64 0) (.int .i64 0)
  subst he
  generalize put6 W _ _ _ _ _ _ _ = W5 at hp ho
  have hb := hw.below
  have hs := hb.size
  have hs2 := ho.size
  refine bodyPost_ret (res37 h2 h3 (W := W5) hp.1 hp.2) rfl ⟨⟨ho.os.trans hb.os, ho.tape.trans hb.tape, ho.output.trans hb.output, Nat.le_trans hs ho.size, fun k hk => ?_⟩, _, _, _, _, rfl, ?_, fun f => ?_⟩
  · exact (ho.block k (by omega) (by omega)).trans (hb.block k hk)
  · exact hx.keep (fun g hg => ⟨by omega, by omega⟩) (fun g hg => ho.block g (by omega) hg.2)
  · exact (hcp f).keep (fun g hg => ⟨by omega, by omega⟩) (fun g hg => ho.block g (by omega) hg.2)
theorem fault_mid37 {w W : World} (h : W37 w W) (a c : Int) : Calls Tryd.prog 32 #[.int .i64 a, .int .i64 c] W fun e w' => e = .returned (.agg #[.int .i64 a, .int .i64 c]) ∧ W37 w w' :=
  (fault32_any a c W).mono fun e w' ⟨h1, h2⟩ => ⟨h1, by rw [h2]; exact h.later (below_al _ _)⟩

set_option maxRecDepth 100000 in
set_option maxHeartbeats 1600000 in
theorem dec37_any (b : ByteArray) (w : World) : Calls Tryd.prog 37 #[.string b] w (Dec37 w (decR b)) := by
  have HW := Lib.hid (W37.first w)
  obtain ⟨W0, hW0⟩ : ∃ W0, W0 = w37 w := ⟨_, rfl⟩
  rw [← hW0] at HW
  unfold w37 at hW0
  have HW0 := Lib.hid hW0
  obtain ⟨⟨c0, c1, c2, c3⟩, ⟨c4, c5⟩, u0, u1⟩ := HW.out.cells
  clear hW0
  by_cases hb : 262144 < b.size
  · have HR : Hid (decR b = .error (0, 2)) := by show _ = _; unfold decR; rw [if_pos hb]
    have hbl : (262144 : Int) < (b.size : Int) := by omega
    clear hb
    go_enter Tryd.func37, Tryd.ntmps37
    go_upto_region 1 with (fail)
    rw [← HW0.out]
    go_wp2_with (go_at_call 32; refine (fault_mid37 HW.out _ _).mono ?_; rintro e w1 ⟨rfl, hw1⟩; have HW1 := Lib.hid hw1; obtain ⟨⟨a0, a1, a2, a3⟩, ⟨a4, a5⟩, v0, v1⟩ := hw1.cells; clear hw1)
    rw [HR.out]
    exact fin37_err (a := 0) (c := 2) HW1.out rfl rfl (by decide) rfl
  · have hbl : ¬ (262144 : Int) < (b.size : Int) := by omega
    have HI := Lib.hid (item54_any 8 1 b 0 W0 (by decide) (by decide) (by omega) (by omega))
    have HRR : Hid (decR b = match ps 8 b 0 with | .error e => .error e | .ok (x, q) => if q < b.size then .error (q, 24) else .ok x) := by show _ = _; unfold decR; rw [if_neg hb]; rfl
    clear hb
    cases hp : ps 8 b 0 with
    | error ac =>
      obtain ⟨a, c⟩ := ac
      rw [hp] at HI HRR
      have HR : Hid (decR b = .error (a, c)) := HRR.out
      clear hp HRR
      go_enter Tryd.func37, Tryd.ntmps37
      go_upto_region 1 with (fail)
      rw [← HW0.out]
      go_upto_region 4 with (go_at_call 54; refine HI.out.mono ?_; rintro e w1 ⟨hb1, rfl, hc⟩; have HB1 := Lib.hid hb1; have HC := Lib.hid hc; have hcb : (((c : Nat) : Int) != 0) = true := (by simp; omega); clear hb1 hc)
      obtain ⟨W4, hW4⟩ : ∃ W4, W4 = (w1.alloc (.cells #[.int .i64 0, .int .u64 0, .string ⟨#[]⟩, .slice none 0 0] 57)).alloc (.cells #[.int .i64 a, .int .i64 c] 31) := ⟨_, rfl⟩
      rw [← hW4]
      have hff : W4.heap[w1.heap.size + 1]? = some (.cells #[.int .i64 a, .int .i64 c] 31 (0, 0)) := by rw [hW4]; exact (two_al _ _ _ _ _).2
      have HW4 : Hid (W37 w W4) := by show W37 _ _; rw [hW4]; exact (HW.out.later HB1.out).later (al2' _ _ _)
      obtain ⟨f0, f1, _⟩ := fault_at hff
      obtain ⟨⟨a0, a1, a2, a3⟩, ⟨a4, a5⟩, v0, v1⟩ := HW4.out.cells
      have hlt := lt_of_block HW.out.z1
      have hs1 := HB1.out.size
      have k1 : w1.heap.size + 1 ≠ w.heap.size := by omega
      have k2 : w1.heap.size + 1 ≠ w.heap.size + 1 := by omega
      have k3 : w.heap.size ≠ w1.heap.size + 1 := by omega
      have k4 : w.heap.size + 1 ≠ w1.heap.size + 1 := by omega
      clear hW4 hff c0 c1 c2 c3 c4 c5 u0 u1
      go_wp2_with fail
      go_region
      all_goals
        go_wp2_with fail
        rw [HR.out]
        exact fin37_errd HW4.out rfl rfl HC.out rfl
    | ok xq =>
      obtain ⟨x, q⟩ := xq
      rw [hp] at HI HRR
      have HRS : Hid (decR b = if q < b.size then .error (q, 24) else .ok x) := HRR.out
      clear hp HRR
      by_cases hq : q < b.size
      · have HR : Hid (decR b = .error (q, 24)) := by show _ = _; rw [HRS.out, if_pos hq]
        have hqi : (q : Int) < (b.size : Int) := by omega
        go_enter Tryd.func37, Tryd.ntmps37
        go_upto_region 1 with (fail)
        rw [← HW0.out]
        go_upto_region 4 with (go_at_call 54; refine HI.out.mono ?_; rintro e w1 ⟨hb1, v0, v1, v2, v3, rfl, hx, hqb, hcx⟩; have HCX := Lib.hid hcx; clear hcx; obtain ⟨xk, xn, xt, xA, xm, xc, rfl, rfl, rfl, rfl⟩ := hx.shape; have HB1 := Lib.hid hb1; clear hb1 hx)
        obtain ⟨W4, hW4⟩ : ∃ W4, W4 = (w1.alloc (.cells #[.int .i64 xk, .int .u64 xn, .string xt, .slice xA xm xc] 57)).alloc (.cells #[.int .i64 0, .int .i64 0] 31) := ⟨_, rfl⟩
        rw [← hW4]
        have hff : W4.heap[w1.heap.size + 1]? = some (.cells #[.int .i64 0, .int .i64 0] 31 (0, 0)) := by rw [hW4]; exact (two_al _ _ _ _ _).2
        have HW4 : Hid (W37 w W4) := by show W37 _ _; rw [hW4]; exact (HW.out.later HB1.out).later (al2' _ _ _)
        obtain ⟨f0, f1, _⟩ := fault_at hff
        clear hW4 hff c0 c1 c2 c3 c4 c5 u0 u1
        go_wp2_with (go_at_call 32; refine (fault_mid37 HW4.out _ _).mono ?_; rintro e w5 ⟨rfl, hw5⟩; have HW5 := Lib.hid hw5; obtain ⟨⟨a0, a1, a2, a3⟩, ⟨a4, a5⟩, v0, v1⟩ := hw5.cells; clear hw5)
        rw [HR.out]
        exact fin37_err HW5.out rfl rfl (by decide) rfl
      · have HR : Hid (decR b = .ok x) := by show _ = _; rw [HRS.out, if_neg hq]
        have hqi : ¬ (q : Int) < (b.size : Int) := by omega
        go_enter Tryd.func37, Tryd.ntmps37
        go_upto_region 1 with (fail)
        rw [← HW0.out]
        go_upto_region 4 with (go_at_call 54; refine HI.out.mono ?_; rintro e w1 ⟨hb1, v0, v1, v2, v3, rfl, hx, hqb, hcx⟩; have HCX := Lib.hid hcx; clear hcx; obtain ⟨xk, xn, xt, xA, xm, xc, rfl, rfl, rfl, rfl⟩ := hx.shape; have HB1 := Lib.hid hb1; have HXX := Lib.hid hx; clear hb1 hx)
        obtain ⟨W4, hW4⟩ : ∃ W4, W4 = (w1.alloc (.cells #[.int .i64 xk, .int .u64 xn, .string xt, .slice xA xm xc] 57)).alloc (.cells #[.int .i64 0, .int .i64 0] 31) := ⟨_, rfl⟩
        rw [← hW4]
        have hb4 : Below w1.heap.size w1 W4 := by rw [hW4]; exact al2' _ _ _
        have hff : W4.heap[w1.heap.size + 1]? = some (.cells #[.int .i64 0, .int .i64 0] 31 (0, 0)) := by rw [hW4]; exact (two_al _ _ _ _ _).2
        have hxx : W4.heap[w1.heap.size]? = some (.cells #[.int .i64 xk, .int .u64 xn, .string xt, .slice xA xm xc] 57 (0, 0)) := by rw [hW4]; exact (two_al _ _ _ _ _).1
        have HW4 : Hid (W37 w W4) := by show W37 _ _; rw [hW4]; exact (HW.out.later HB1.out).later (al2' _ _ _)
        have HX4 : Hid (HoldsP (fun g => W0.heap.size ≤ g ∧ g < W4.heap.size) W4 (.int .i64 xk) (.int .u64 xn) (.string xt) (.slice xA xm xc) x) := HXX.out.keep (fun g hg => ⟨hg.1, by have := hb4.size; omega⟩) (fun g hg => hb4.block g hg.2)
        have HC4 : Hid (∀ f, CapsP (fun g => W0.heap.size ≤ g ∧ g < W4.heap.size) W4 f (.slice xA xm xc) x) := fun f => (HCX.out f).keep (fun g hg => ⟨hg.1, by have := hb4.size; omega⟩) (fun g hg => hb4.block g hg.2)
        obtain ⟨f0, f1, _⟩ := fault_at hff
        obtain ⟨x0, x1, x2, x3⟩ := item_at hxx
        obtain ⟨⟨a0, a1, a2, a3⟩, ⟨a4, a5⟩, v0, v1⟩ := HW4.out.cells
        have hlt := lt_of_block HW.out.z1
        clear hW4 hff hxx hb4 c0 c1 c2 c3 c4 c5 u0 u1
        go_wp2_with fail
        rw [HR.out]
        exact fin37_ok HW4.out HX4.out HC4.out (by omega) rfl rfl rfl

end Go.Proofs.YtakdfjkkeilffaaDoor

