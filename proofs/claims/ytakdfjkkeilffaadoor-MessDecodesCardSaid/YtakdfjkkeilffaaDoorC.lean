/- Items in memory; what is wrong with one. -/
import Derived.Test.YtakdfjkkeilffaaDoorA
import Derived.Lib.Strings
set_option linter.unusedVariables false
set_option linter.unusedSimpArgs false
namespace Go.Proofs.YtakdfjkkeilffaaDoor
open Go.RowKit

/-- an item -/
inductive It where
  | mk (kind : Int) (n : Nat) (s : ByteArray) (l : List It)

def It.kind : It → Int | .mk k _ _ _ => k
def It.n : It → Nat | .mk _ n _ _ => n
def It.s : It → ByteArray | .mk _ _ s _ => s
def It.l : It → List It | .mk _ _ _ l => l

/-- four values are an item in memory -/
inductive Holds (w : World) : Value → Value → Value → Value → It → Prop
  | mk (k : Int) (n : Nat) (s : ByteArray) (A : Option Addr) (c : Nat) (l : List It) (F : Nat → Value × Value × Value × Value)
      (hn : n < 18446744073709551616) (hs : s.size ≤ 140737488355328) (hm : l.length ≤ 9223372036854775807)
      (hA : 0 < l.length → ∃ g o, A = some ⟨g, o, none⟩ ∧ ∀ i, i < l.length → w.cell? ⟨g, o + i * 4, none⟩ = some (F i).1 ∧ w.cell? ⟨g, o + i * 4 + 1, none⟩ = some (F i).2.1 ∧ w.cell? ⟨g, o + i * 4 + 2, none⟩ = some (F i).2.2.1 ∧ w.cell? ⟨g, o + i * 4 + 3, none⟩ = some (F i).2.2.2)
      (hl : ∀ i (h : i < l.length), Holds w (F i).1 (F i).2.1 (F i).2.2.1 (F i).2.2.2 l[i]) :
      Holds w (.int .i64 k) (.int .u64 n) (.string s) (.slice A l.length c) (.mk k n s l)

theorem lt_cell {w : World} {a : Addr} {v : Value} (h : w.cell? a = some v) : a.block < w.heap.size := World.block_lt_of_cell? w a h

/-- An item lives on where the blocks that were there are as they were. -/
theorem Holds.keep {w w' : World} {v0 v1 v2 v3 : Value} {x : It} (h : Holds w v0 v1 v2 v3 x) (hk : ∀ a v, w.cell? a = some v → w'.cell? a = some v) : Holds w' v0 v1 v2 v3 x := by
  induction h with
  | mk k n s A c l F hn hs hm hA hl ih =>
    refine .mk k n s A c l F hn hs hm (fun h0 => ?_) ih
    obtain ⟨g, o, e, hc⟩ := hA h0
    exact ⟨g, o, e, fun i hi => ⟨hk _ _ (hc i hi).1, hk _ _ (hc i hi).2.1, hk _ _ (hc i hi).2.2.1, hk _ _ (hc i hi).2.2.2⟩⟩
theorem Holds.later {w w' : World} {v0 v1 v2 v3 : Value} {x : It} (h : Holds w v0 v1 v2 v3 x) (hb : Below w.heap.size w w') : Holds w' v0 v1 v2 v3 x :=
  h.keep fun a v hc => (hb.cell (lt_cell hc)).trans hc

theorem Holds.shape {w : World} {v0 v1 v2 v3 : Value} {x : It} (h : Holds w v0 v1 v2 v3 x) : ∃ (k : Int) (n : Nat) (s : ByteArray) (A : Option Addr) (m c : Nat), v0 = .int .i64 k ∧ v1 = .int .u64 n ∧ v2 = .string s ∧ v3 = .slice A m c := by
  cases h; exact ⟨_, _, _, _, _, _, rfl, rfl, rfl, rfl⟩

/-- the first error of some -/
def fe : List Nat → Nat
  | [] => 0
  | e :: r => if e = 0 then fe r else e

def badIt (k : Int) (n : Nat) (s : ByteArray) (m : Nat) : Bool :=
  if k = 1 then decide (0 < s.size) || decide (0 < m) else if k = 2 then decide (n ≠ 0) || decide (0 < m) else if k = 3 then decide (n ≠ 0) || decide (0 < s.size) else true

/-- what is wrong with an item; the first number: how many depths are left -/
def look : Nat → It → Nat
  | 0, _ => 21
  | f + 1, .mk k n s l => if badIt k n s l.length = true then 20 else if 16384 < l.length then 2 else fe (l.map (look f))

theorem fe_snoc (a : List Nat) (e : Nat) (h : fe a = 0) : fe (a ++ [e]) = e := by
  induction a with
  | nil => simp [fe]; exact fun h => h.symm
  | cons x r ih =>
    simp only [fe] at h
    split at h
    · rename_i hx; simp only [List.cons_append, fe, if_pos hx]; exact ih h
    · rename_i hx; exact absurd h hx
theorem fe_cut (a : List Nat) (e : Nat) (r : List Nat) (h : fe a = 0) (he : e ≠ 0) : fe (a ++ e :: r) = e := by
  induction a with
  | nil => simp [fe, he]
  | cons x q ih =>
    simp only [fe] at h
    split at h
    · rename_i hx; simp only [List.cons_append, fe, if_pos hx]; exact ih h
    · rename_i hx; exact absurd h hx

theorem str_empty (s : ByteArray) : s.toList = [] ↔ s.size = 0 := by
  rw [Lib.toList_data]
  constructor
  · intro h
    have : s.data.toList.length = 0 := by rw [h]; rfl
    simpa using this
  · intro h
    apply List.eq_nil_of_length_eq_zero
    simpa using h

theorem below_al (w : World) (o : Obj) : Below w.heap.size w (w.alloc o) := (Below.refl _ _).alloc (Nat.le_refl _) _
theorem below_then {a b c : World} (h : Below a.heap.size a b) (k : Below b.heap.size b c) : Below a.heap.size a c := h.trans (k.mono h.size)

/-- how an item is looked at -/
theorem look_ways (k : Int) (n : Nat) (s : ByteArray) (m : Nat) :
    (badIt k n s m = true ∧ ((k == 1) = true ∧ (¬ s.toList = [] ∨ s.toList = [] ∧ 0 < m) ∨ (k == 1) = false ∧ (k == 2) = true ∧ (¬ n = 0 ∨ n = 0 ∧ 0 < m) ∨ (k == 1) = false ∧ (k == 2) = false ∧ (k == 3) = true ∧ (¬ n = 0 ∨ n = 0 ∧ s.toList.isEmpty = false) ∨ (k == 1) = false ∧ (k == 2) = false ∧ (k == 3) = false)) ∨
    (badIt k n s m = false ∧ ((k == 1) = true ∧ s.toList = [] ∧ m = 0 ∨ (k == 1) = false ∧ (k == 2) = true ∧ n = 0 ∧ m = 0 ∨ (k == 1) = false ∧ (k == 2) = false ∧ (k == 3) = true ∧ n = 0 ∧ s.toList.isEmpty = true)) := by
  have he := str_empty s
  have he2 : s.toList.isEmpty = true ↔ s.size = 0 := by rw [List.isEmpty_iff]; exact he
  have he3 : s.toList.isEmpty = false ↔ s.size ≠ 0 := by rw [← Bool.not_eq_true, he2]
  rw [he, he2, he3]
  unfold badIt
  by_cases h1 : k = 1
  · subst h1
    by_cases ha : s.size = 0 <;> by_cases hb : m = 0 <;> simp [ha, hb] <;> omega
  · by_cases h2 : k = 2
    · subst h2
      by_cases ha : n = 0 <;> by_cases hb : m = 0 <;> simp [ha, hb] <;> omega
    · by_cases h3 : k = 3
      · subst h3
        by_cases ha : n = 0 <;> by_cases hb : s.size = 0 <;> simp [ha, hb] <;> omega
      · simp [h1, h2, h3]

set_option maxHeartbeats 1600000 in
theorem looked_any (f : Nat) : ∀ (d : Int) (v0 v1 v2 v3 : Value) (x : It) (w : World), d + f = 9 → 1 ≤ d → Holds w v0 v1 v2 v3 x →
    Calls Tryd.prog 47 #[.agg #[v0, v1, v2, v3], .int .i64 d] w fun e w' => e = .returned (.int .i64 (look f x : Nat)) ∧ Below w.heap.size w w' := by
  induction f with
  | zero =>
    intro d v0 v1 v2 v3 x w hd hd1 hx
    have h9 : 8 < d := by omega
    cases hx
    go_enter Tryd.func47, Tryd.ntmps47
    go_wp2_with fail
    go_ret
    exact ⟨rfl, (Below.refl _ _).alloc (Nat.le_refl _) _⟩
  | succ f ih =>
    intro d v0 v1 v2 v3 x w hd hd1 hx
    have IH := Lib.hid ih
    clear ih
    have hd8 : d ≤ 8 := by omega
    cases hx with
    | mk k n s A c l F hn hs hm hA hl =>
      rcases look_ways k n s l.length with ⟨hbad, hw⟩ | ⟨hbad, hw⟩
      · have HL : Hid (look (f + 1) (.mk k n s l) = 20) := by show look (f + 1) (.mk k n s l) = 20; simp only [look]; rw [if_pos hbad]
        clear hbad hA hl
        rcases hw with ⟨h1, h2 | ⟨h2, h3⟩⟩ | ⟨h1, h2, h3 | ⟨h3, h4⟩⟩ | ⟨h1, h2, h3, h4 | ⟨h4, h5⟩⟩ | ⟨h1, h2, h3⟩
        all_goals
          go_enter Tryd.func47, Tryd.ntmps47
          go_wp2_with fail
          go_ret
          rw [HL.out]
          exact ⟨rfl, (Below.refl _ _).alloc (Nat.le_refl _) _⟩
      · have HB := Lib.hid hbad
        by_cases hlong : 16384 < l.length
        · have HL : Hid (look (f + 1) (.mk k n s l) = 2) := by show look (f + 1) (.mk k n s l) = 2; simp only [look]; rw [if_neg (by rw [hbad]; decide), if_pos hlong]
          clear hbad hA hl
          rcases hw with ⟨h1, h2, h3⟩ | ⟨h1, h2, h3, h4⟩ | ⟨h1, h2, h3, h4, h5⟩
          all_goals first | omega | skip
          go_enter Tryd.func47, Tryd.ntmps47
          go_wp2_with fail
          go_ret
          rw [HL.out]
          exact ⟨rfl, (Below.refl _ _).alloc (Nat.le_refl _) _⟩
        · have HL : Hid (look (f + 1) (.mk k n s l) = fe (l.map (look f))) := by show look (f + 1) (.mk k n s l) = _; simp only [look]; rw [if_neg (by rw [hbad]; decide), if_neg hlong]
          have HA := Lib.hid hA
          have HLL := Lib.hid hl
          clear hbad hA hl
          rcases hw with ⟨h1, h2, h3⟩ | ⟨h1, h2, h3, h4⟩ | ⟨h1, h2, h3, h4, h5⟩
          all_goals (try subst n)
          all_goals
            go_enter Tryd.func47, Tryd.ntmps47
            go_wp2_with fail
            go_loopw [53] (fun i wr => ∃ t : Nat, t ≤ l.length ∧ i = .int .i64 t ∧ Hid (fe ((l.take t).map (look f)) = 0) ∧ Below w.heap.size w wr) (fun i _ => l.length - (intOf i).toNat)
            case atStart => exact ⟨0, by omega, rfl, rfl, (Below.refl _ _).alloc (Nat.le_refl _) _⟩
            case round =>
              obtain ⟨t, ht, rfl, HF, hbr⟩ := hrel
              obtain ⟨wo, rfl⟩ : ∃ wo : World, wo = wr := ⟨_, rfl⟩
              have HBR := Lib.hid hbr
              by_cases htl : t < l.length
              · first
                | omega
                | (obtain ⟨g, o, rfl, hcells⟩ := HA.out (by omega)
                   obtain ⟨c0, c1, c2, c3⟩ := hcells t htl
                   replace c0 := (hbr.cell (lt_cell c0)).trans c0
                   replace c1 := (hbr.cell (lt_cell c1)).trans c1
                   replace c2 := (hbr.cell (lt_cell c2)).trans c2
                   replace c3 := (hbr.cell (lt_cell c3)).trans c3
                   have HLT := Lib.hid (HLL.out t htl)
                   obtain ⟨k', n', s', A', m', c', s0, s1, s2, s3⟩ := HLT.out.shape
                   rw [s0] at c0
                   rw [s1] at c1
                   rw [s2] at c2
                   rw [s3] at c3
                   rw [s0, s1, s2, s3] at HLT
                   clear hbr hcells s0 s1 s2 s3
                   go_wp2_with fail
                   refine (IH.out (d + 1) _ _ _ _ l[t] _ (by omega) (by omega) ((HLT.out.later HBR.out).later (below_al _ _))).mono ?_
                   rintro e w2 ⟨rfl, hb2⟩
                   have HB2 := Lib.hid hb2
                   clear hb2
                   by_cases hz : look f l[t] = 0
                   · have hz2 : (((look f l[t] : Nat) : Int) != 0) = false := by rw [hz]; rfl
                     have HZ := Lib.hid hz
                     clear hz
                     go_wp2_with fail
                     go_roundw
                     case rel =>
                       have hN : fe ((l.take (t + 1)).map (look f)) = 0 := by
                         rw [List.take_add_one, List.getElem?_eq_getElem htl, List.map_append]
                         simp only [Option.toList, List.map_cons, List.map_nil]
                         rw [fe_snoc _ _ HF.out]
                         exact HZ.out
                       have hB := below_then (below_then HBR.out (below_al _ _)) HB2.out
                       repeat apply Exists.intro
                       exact ⟨⟨t + 1, by omega, rfl, hN, hB⟩, rfl⟩
                     case measure => simp [intOf]; omega
                   · have hz2 : (((look f l[t] : Nat) : Int) != 0) = true := by simp; omega
                     have HZ := Lib.hid hz
                     clear hz
                     go_wp2_with fail
                     go_ret
                     refine ⟨ret_int ?_, below_then (below_then HBR.out (below_al _ _)) HB2.out⟩
                     rw [HL.out]
                     have e := List.take_append_drop t (l.map (look f))
                     rw [← List.map_take, List.drop_eq_getElem_cons (by simpa using htl), List.getElem_map] at e
                     rw [← e, fe_cut _ _ _ HF.out HZ.out])
              · obtain rfl : t = l.length := by omega
                go_wp2_with fail
                go_ret
                refine ⟨ret_int ?_, HBR.out⟩
                rw [HL.out]
                have := HF.out
                rw [List.take_length] at this
                rw [this]; rfl

end Go.Proofs.YtakdfjkkeilffaaDoor
