/- Items: what is written is read, what is read is written. -/
import Derived.Test.YtakdfjkkeilffaaDoorF
import Derived.Test.YtakdfjkkeilffaaDoorG
set_option linter.unusedVariables false
set_option linter.unusedSimpArgs false
namespace Go.Proofs.YtakdfjkkeilffaaDoor
open Go.RowKit

def bl (l : List Nat) : List UInt8 := l.map UInt8.ofNat
theorem bl_app (a b : List Nat) : bl (a ++ b) = bl a ++ bl b := by simp [bl]
theorem bl_cons (a : Nat) (b : List Nat) : bl (a :: b) = UInt8.ofNat a :: bl b := rfl
theorem bl_length (a : List Nat) : (bl a).length = a.length := by simp [bl]
theorem rest_head {b : ByteArray} {p : Nat} {c : UInt8} {r : List UInt8} (h : rest b p = c :: r) : p < b.size ∧ b.data.toList.getD p 0 = c ∧ rest b (p + 1) = r := by
  unfold rest at *
  have hlt : p < b.data.toList.length := by
    rcases Nat.lt_or_ge p b.data.toList.length with h1 | h1
    · exact h1
    · rw [List.drop_eq_nil_of_le h1] at h; cases h
  rw [List.drop_eq_getElem_cons hlt] at h
  obtain ⟨h1, h2⟩ := List.cons.inj h
  refine ⟨by simpa using hlt, ?_, h2⟩
  rw [List.getD_eq_getElem?_getD, List.getElem?_eq_getElem hlt]; exact h1
theorem rest_app {b : ByteArray} {p : Nat} {x t : List UInt8} (h : rest b p = x ++ t) : rest b (p + x.length) = t := by
  unfold rest at *
  rw [← List.drop_drop, h]
  simp

theorem u8_small (x : Nat) (h : x < 256) : (UInt8.ofNat x).toNat = x := by
  simp only [UInt8.toNat_ofNat']; omega
theorem u8_back (c : UInt8) : UInt8.ofNat c.toNat = c := by simp

theorem pn_gb (x : Nat) : ∀ (i acc : Nat) (t : List UInt8), i ≤ 9 → x * 128 ^ i < 18446744073709551616 → (x ≠ 0 ∨ i = 0) → pn i acc (bl (gb x) ++ t) = (0, acc + x * 128 ^ i, i + (gb x).length) := by
  induction x using Nat.strongRecOn with
  | ind x ih =>
    intro i acc t hi hx h0
    have e9 : (128 : Nat) ^ 9 = 9223372036854775808 := by decide
    by_cases h : x < 128
    · rw [gb_lt x h]
      have hc := u8_small x (by omega)
      simp only [bl, List.map_cons, List.map_nil, List.cons_append, List.nil_append, pn, hc]
      rw [if_neg, if_pos h, if_neg]
      · simp
      · omega
      · rintro ⟨rfl, h1⟩
        rw [e9] at hx; omega
    · rw [gb_ge x h]
      have hc := u8_small (x % 128 + 128) (by omega)
      have hi9 : i ≠ 9 := by
        rintro rfl
        rw [e9] at hx; omega
      have hp : x * 128 ^ i = x % 128 * 128 ^ i + x / 128 * 128 ^ (i + 1) := by
        rw [Nat.pow_succ, Nat.mul_comm (128 ^ i) 128, ← Nat.mul_assoc, ← Nat.add_mul]
        congr 1; omega
      simp only [bl, List.map_cons, List.cons_append, pn, hc]
      rw [if_neg (by omega), if_neg (by omega)]
      have := ih (x / 128) (by omega) (i + 1) (acc + (x % 128 + 128) % 128 * 128 ^ i) t (by omega) (by omega) (.inl (by omega))
      simp only [bl] at this
      rw [this, show (x % 128 + 128) % 128 = x % 128 from by omega]
      simp only [List.length_cons, Prod.mk.injEq, true_and]
      constructor <;> omega

theorem pn_back (l : List UInt8) : ∀ (i acc n m : Nat), pn i acc l = (0, n, m) → ∃ x, n = acc + x * 128 ^ i ∧ m = i + (gb x).length ∧ (∃ r, l = bl (gb x) ++ r) ∧ (x ≠ 0 ∨ i = 0) := by
  induction l with
  | nil => intro i acc n m h; simp [pn] at h
  | cons c r ih =>
    intro i acc n m h
    have hc := c.toNat_lt
    simp only [pn] at h
    split at h
    · simp at h
    · split at h
      · rename_i h128
        split at h
        · simp at h
        · rename_i h0
          simp only [Prod.mk.injEq, true_and] at h
          refine ⟨c.toNat, by omega, ?_, ⟨r, ?_⟩, by omega⟩
          · rw [gb_lt _ h128]; simp; omega
          · rw [gb_lt _ h128]; simp [bl]
      · rename_i h128
        obtain ⟨x, h1, h2, ⟨r', h3⟩, h4⟩ := ih (i + 1) _ n m h
        have hx : x ≠ 0 := by omega
        have hg : gb (c.toNat % 128 + 128 * x) = c.toNat :: gb x := by
          rw [gb_ge _ (by omega), show (c.toNat % 128 + 128 * x) / 128 = x from by omega, show (c.toNat % 128 + 128 * x) % 128 + 128 = c.toNat from by omega]
        refine ⟨c.toNat % 128 + 128 * x, ?_, ?_, ⟨r', ?_⟩, .inl (by omega)⟩
        · rw [h1, Nat.pow_succ, Nat.add_mul, Nat.mul_comm (128 ^ i) 128, ← Nat.mul_assoc, Nat.mul_comm x 128]; omega
        · rw [hg]; simp; omega
        · rw [hg, bl_cons, u8_back, List.cons_append, ← h3]

/-- the numbers within fit -/
def small : Nat → It → Prop
  | 0, _ => True
  | f + 1, .mk _ n _ l => n < 18446744073709551616 ∧ ∀ y ∈ l, small f y

theorem fe_zero (a : List Nat) (h : ∀ x ∈ a, x = 0) : fe a = 0 := by
  induction a with
  | nil => rfl
  | cons y r ih => simp only [fe]; rw [if_pos (h y (by simp))]; exact ih fun x hx => h x (by simp [hx])

theorem bl_nbytes (s : ByteArray) : bl (nbytes s) = s.data.toList := by
  unfold bl nbytes
  rw [List.map_map]
  have : (UInt8.ofNat ∘ UInt8.toNat) = id := by funext c; simp
  rw [this, List.map_id]

theorem psMany_enc (f : Nat) (b : ByteArray) (ih : ∀ x p t, look f x = 0 → short f x → small f x → rest b p = bl (enc f x) ++ t → ps f b p = .ok (x, p + (enc f x).length)) :
    ∀ (l : List It) (p : Nat) (t : List UInt8), (∀ y ∈ l, look f y = 0 ∧ short f y ∧ small f y) → rest b p = bl ((l.map (enc f)).flatten) ++ t → psMany (ps f b) l.length p = .ok (l, p + ((l.map (enc f)).flatten).length) := by
  intro l
  induction l with
  | nil => intro p t _ _; simp [psMany]
  | cons y r ih2 =>
    intro p t h hr
    simp only [List.map_cons, List.flatten_cons, bl_app, List.append_assoc] at hr
    obtain ⟨h1, h2, h3⟩ := h y (by simp)
    have e1 := ih y p _ h1 h2 h3 hr
    have hr2 := rest_app hr
    rw [bl_length] at hr2
    have e2 := ih2 _ t (fun z hz => h z (by simp [hz])) hr2
    simp only [List.length_cons, psMany, e1, e2, List.map_cons, List.flatten_cons, List.length_append]
    rw [Nat.add_assoc]

theorem ps_enc (f : Nat) (b : ByteArray) : ∀ (x : It) (p : Nat) (t : List UInt8), look f x = 0 → short f x → small f x → rest b p = bl (enc f x) ++ t → ps f b p = .ok (x, p + (enc f x).length) := by
  induction f with
  | zero => intro x p t h; simp [look] at h
  | succ f ih =>
    intro x p t hl hs hm hr
    obtain ⟨k, n, s, l⟩ := x
    obtain ⟨hlen, hk, hall⟩ := look_zero hl
    obtain ⟨hs1, hs2⟩ := hs
    obtain ⟨hm1, hm2⟩ := hm
    have hp0 := fun (x : Nat) (t : List UInt8) (h : x < 18446744073709551616) => pn_gb x 0 0 t (by omega) (by simpa using h) (.inr rfl)
    rcases hk with ⟨rfl, hse, hle⟩ | ⟨rfl, rfl, hle⟩ | ⟨rfl, rfl, hse⟩
    · obtain rfl : l = [] := List.eq_nil_of_length_eq_zero hle
      obtain rfl : s = ⟨#[]⟩ := by
        cases s with | mk d => congr 1; exact Array.eq_empty_of_size_eq_zero hse
      simp only [enc, if_true] at hr ⊢
      rw [bl_cons, List.cons_append] at hr
      obtain ⟨r1, r2, r3⟩ := rest_head hr
      have r4 := hp0 n t hm1
      rw [← r3] at r4
      simp only [ps, r2, r4]
      rw [if_neg (by omega), if_neg (by decide), if_neg (by decide), if_pos (by decide)]
      simp; omega
    · obtain rfl : l = [] := List.eq_nil_of_length_eq_zero hle
      have he : enc (f + 1) (.mk 2 0 s []) = 2 :: (gb s.size ++ nbytes s) := by simp [enc]
      rw [he] at hr ⊢
      rw [bl_cons, List.cons_append, bl_app, List.append_assoc] at hr
      obtain ⟨r1, r2, r3⟩ := rest_head hr
      have r4 := hp0 s.size (bl (nbytes s) ++ t) (by omega)
      rw [← r3] at r4
      simp only [Nat.pow_zero, Nat.mul_one, Nat.zero_add] at r4
      have r5 := rest_app r3
      rw [bl_length, bl_nbytes] at r5
      have hsz : p + 1 + (gb s.size).length + s.size ≤ b.size := by
        have := congrArg List.length r5
        have hg := gb_pos s.size
        simp [rest] at this
        by_cases h0 : s.size = 0
        · have r6 := congrArg List.length r3
          simp [rest, bl_length] at r6
          omega
        · have e : s.size = s.data.size := rfl
          have e2 : b.size = b.data.size := rfl
          omega
      have hx : b.extract (p + 1 + (gb s.size).length) (p + 1 + (gb s.size).length + s.size) = s := by
        have e1 : (b.extract (p + 1 + (gb s.size).length) (p + 1 + (gb s.size).length + s.size)).data.toList = s.data.toList := by
          simp only [ByteArray.data_extract, Array.toList_extract]
          unfold rest at r5
          rw [List.extract_eq_take_drop, r5]
          have e : s.size = s.data.toList.length := by simp
          rw [show p + 1 + (gb s.size).length + s.size - (p + 1 + (gb s.size).length) = s.data.toList.length from by omega]
          simp
        have e2 := Array.toList_inj.1 e1
        cases s
        generalize b.extract _ _ = z at e2 ⊢
        cases z
        simp at e2 ⊢
        exact e2
      simp only [ps, r2, r4]
      rw [if_neg (by omega), if_neg (by decide), if_neg (by decide), if_neg (by decide), if_pos (by decide), if_neg (by omega), hx]
      simp [nbytes_length]; omega
    · obtain rfl : s = ⟨#[]⟩ := by
        cases s with | mk d => congr 1; exact Array.eq_empty_of_size_eq_zero hse
      have he : enc (f + 1) (.mk 3 0 ⟨#[]⟩ l) = 3 :: (gb l.length ++ (l.map (enc f)).flatten) := by simp [enc]
      rw [he] at hr ⊢
      rw [bl_cons, List.cons_append, bl_app, List.append_assoc] at hr
      obtain ⟨r1, r2, r3⟩ := rest_head hr
      have r4 := hp0 l.length (bl ((l.map (enc f)).flatten) ++ t) (by omega)
      rw [← r3] at r4
      simp only [Nat.pow_zero, Nat.mul_one, Nat.zero_add] at r4
      have r5 := rest_app r3
      rw [bl_length] at r5
      have r6 := psMany_enc f b (fun x p t => ih x p t) l _ t (fun y hy => ⟨hall y hy, hs2 y hy, hm2 y hy⟩) r5
      simp only [ps, r2, r4, r6]
      rw [if_neg (by omega), if_neg (by decide), if_neg (by decide), if_neg (by decide), if_neg (by decide), if_neg (by omega)]
      simp; omega

theorem psMany_back (f : Nat) (b : ByteArray) (ih : ∀ p x q, ps f b p = .ok (x, q) → look f x = 0 ∧ small f x ∧ rest b p = bl (enc f x) ++ rest b q) :
    ∀ (m p : Nat) (l : List It) (q : Nat), psMany (ps f b) m p = .ok (l, q) → l.length = m ∧ (∀ y ∈ l, look f y = 0 ∧ small f y) ∧ rest b p = bl ((l.map (enc f)).flatten) ++ rest b q := by
  intro m
  induction m with
  | zero =>
    intro p l q h
    simp only [psMany, Except.ok.injEq, Prod.mk.injEq] at h
    obtain ⟨rfl, rfl⟩ := h
    exact ⟨rfl, fun y hy => by simp at hy, by simp [bl]⟩
  | succ m ih2 =>
    intro p l q h
    simp only [psMany] at h
    cases hr : ps f b p with
    | error e => rw [hr] at h; simp at h
    | ok xq =>
      obtain ⟨x, q1⟩ := xq
      rw [hr] at h
      simp only at h
      cases hm : psMany (ps f b) m q1 with
      | error e => rw [hm] at h; simp at h
      | ok lq =>
        obtain ⟨l1, q2⟩ := lq
        rw [hm] at h
        simp only [Except.ok.injEq, Prod.mk.injEq] at h
        obtain ⟨rfl, rfl⟩ := h
        obtain ⟨a1, a2, a3⟩ := ih p x q1 hr
        obtain ⟨b1, b2, b3⟩ := ih2 q1 l1 q2 hm
        refine ⟨by simp [b1], ?_, ?_⟩
        · intro y hy
          rcases List.mem_cons.1 hy with rfl | hy
          · exact ⟨a1, a2⟩
          · exact b2 y hy
        · rw [a3, b3]; simp [bl_app]

theorem ps_back (f : Nat) (b : ByteArray) (hb : b.size ≤ 262144) : ∀ (p : Nat) (x : It) (q : Nat), ps f b p = .ok (x, q) → look f x = 0 ∧ small f x ∧ rest b p = bl (enc f x) ++ rest b q := by
  induction f with
  | zero => intro p x q h; simp [ps] at h
  | succ f ih =>
    intro p x q h
    simp only [ps] at h
    split at h
    · simp at h
    rename_i hp
    split at h
    · simp at h
    rename_i hk
    split at h
    · simp at h
    rename_i hc
    have hr : rest b p = b.data.toList.getD p 0 :: rest b (p + 1) := by
      have := rest_cons b p 0 (by omega)
      have e := rest_getD b p 0 (by omega)
      simp only [List.drop_zero, Nat.add_zero] at this e
      rw [this]
      have e2 : (rest b p).getD 0 0 = b.data.toList.getD p 0 := by
        unfold rest
        simp [List.getD_eq_getElem?_getD]
      rw [← e2, e]
      congr 1
      unfold rest; simp
    obtain ⟨n, m, hpn⟩ : ∃ n m, pn 0 0 (rest b (p + 1)) = (0, n, m) := ⟨(pn 0 0 (rest b (p + 1))).2.1, (pn 0 0 (rest b (p + 1))).2.2, Prod.ext (Classical.not_not.1 hc) rfl⟩
    obtain ⟨y, h1, h2, ⟨r, h3⟩, h4⟩ := pn_back _ _ _ _ _ hpn
    simp only [Nat.pow_zero, Nat.mul_one, Nat.zero_add] at h1 h2
    subst h1 h2
    have hbd := pn_bounds _ _ _ _ _ hpn (by decide) (by omega)
    have h5 := rest_app h3
    rw [bl_length] at h5
    generalize hcc : b.data.toList.getD p 0 = c at h hr hk
    simp only [hpn] at h
    have hcb : ∀ j : Nat, c.toNat = j → c = UInt8.ofNat j := fun j hj => by rw [← hj, u8_back]
    split at h
    · rename_i h1
      simp only [Except.ok.injEq, Prod.mk.injEq] at h
      obtain ⟨rfl, rfl⟩ := h
      refine ⟨by simp [look, badIt, fe]; rfl, ⟨hbd.1, fun y hy => by simp at hy⟩, ?_⟩
      rw [hr, h3, hcb 1 h1]
      simp only [enc, if_true]
      rw [bl_cons, h5]; rfl
    · split at h
      · rename_i h1 h2
        split at h
        · simp at h
        · rename_i hfit
          simp only [Except.ok.injEq, Prod.mk.injEq] at h
          obtain ⟨rfl, rfl⟩ := h
          have hlen := congrArg List.length h3
          simp [rest, bl_length] at hlen
          have hg := gb_pos n
          have e2 : b.size = b.data.size := rfl
          have hsz : (b.extract (p + 1 + (gb n).length) (p + 1 + (gb n).length + n)).size = n := by
            rw [ByteArray.size_extract]; omega
          refine ⟨by simp [look, badIt, fe], ⟨by omega, fun y hy => by simp at hy⟩, ?_⟩
          have he : ∀ s : ByteArray, enc (f + 1) (.mk 2 0 s []) = 2 :: (gb s.size ++ nbytes s) := fun s => by simp [enc]
          rw [he, hsz, bl_cons, bl_app, bl_nbytes, hr, h3, hcb 2 h2]
          simp only [List.cons_append, List.append_assoc]
          congr 2
          rw [← h5]
          unfold rest
          simp only [ByteArray.data_extract, Array.toList_extract]
          rw [List.extract_eq_take_drop, show p + 1 + (gb n).length + n - (p + 1 + (gb n).length) = n from by omega, show b.data.toList.drop (p + 1 + (gb n).length + n) = (b.data.toList.drop (p + 1 + (gb n).length)).drop n from by rw [List.drop_drop]]
          exact (List.take_append_drop _ _).symm
      · split at h
        · simp at h
        · rename_i h1 h2 hbig
          split at h
          · simp at h
          · rename_i l q' hm
            simp only [Except.ok.injEq, Prod.mk.injEq] at h
            obtain ⟨rfl, rfl⟩ := h
            obtain ⟨a1, a2, a3⟩ := psMany_back f b ih _ _ _ _ hm
            refine ⟨?_, ⟨by decide, fun y hy => (a2 y hy).2⟩, ?_⟩
            · have e : badIt 3 0 ⟨#[]⟩ l.length = false := by simp [badIt]; rfl
              simp only [look, e]
              rw [if_neg (by decide), if_neg (by omega)]
              refine fe_zero _ fun x hx => ?_
              obtain ⟨y, hy, rfl⟩ := List.mem_map.1 hx
              exact (a2 y hy).1
            · have he : enc (f + 1) (.mk 3 0 ⟨#[]⟩ l) = 3 :: (gb l.length ++ (l.map (enc f)).flatten) := by simp [enc]
              have h6 : c.toNat = 3 := by omega
              rw [he, a1, bl_cons, bl_app, hr, h3, hcb 3 h6]
              simp only [List.cons_append, List.append_assoc]
              rw [← h5, a3]

end Go.Proofs.YtakdfjkkeilffaaDoor
