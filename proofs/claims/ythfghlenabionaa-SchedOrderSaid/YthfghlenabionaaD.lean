/- Next: the list that deals out. -/
import Derived.Test.YthfghlenabionaaC
set_option linter.unusedVariables false
set_option linter.unusedSimpArgs false
namespace Go.Proofs.Ythfghlenabionaa
open Go.RowKit
variable {w w' : World} {B sb n : Nat} {ps : Nat → Nat} {nds : Nat → List Nat} {wk ls ms now : Int} {st : Nat → JobS}

/-- behind k jobs -/
structure FN (w : World) (B sb n : Nat) (ps : Nat → Nat) (nds : Nat → List Nat) (wk ls ms now : Int) (st : Nat → JobS) (k : Nat) (v : Value) (wr : World) : Prop where
  rep : Rep wr B sb n ps nds wk ls ms now (stK st nds wk ls ms now k)
  out : wr.ownsRow w.heap.size 35 3 v (outK st nds wk ls ms now k).length (cells3 (outK st nds wk ls ms now k))
  fr : Fr B w wr

theorem FN.no {k : Nat} {v : Value} {wr : World} (h : FN w B sb n ps nds wk ls ms now st k v wr) (ho : openJ st nds now k = false) : FN w B sb n ps nds wk ls ms now st (k + 1) v wr := by
  have e : outK st nds wk ls ms now (k + 1) = outK st nds wk ls ms now k := by rw [outK_succ]; simp [ho]
  exact ⟨by rw [← stK_no st nds wk ls ms now k ho]; exact h.rep, by rw [e]; exact h.out, h.fr⟩

theorem FN.yes {k m : Nat} {v v' : Value} {wr w1 w2 : World} {o : Obj} {xs : List Value} (h : FN w B sb n ps nds wk ls ms now st k v wr) (ho : openJ st nds now k = true)
    (hm : m = (outK st nds wk ls ms now k).length) (hx : xs = cells3 (outK st nds wk ls ms now k))
    (hrep : Rep w1 B sb n ps nds wk ls ms now (fun j => if j = k then dealt wk ls ms now k (st k) else stK st nds wk ls ms now k j)) (hfr : Fr B wr w1)
    (hB : B ≤ w.heap.size) (hown : w1.ownsRow w.heap.size 35 3 v m xs) (hown' : w2.ownsRow w.heap.size 35 3 v' (m + 1) (xs ++ [.int .i64 k, .int .i64 (leaseW wk k (st k)), .int .i64 (leaseU ls ms now (st k))])) (hg : (w1.alloc o).grownBy w2 v.ownBlock) :
    FN w B sb n ps nds wk ls ms now st (k + 1) v' w2 := by
  subst hm hx
  refine ⟨?_, ?_, (h.fr.trans hfr).grown hB hown (Nat.le_refl _) hg⟩
  · rw [← stK_yes st nds wk ls ms now k ho]
    exact hrep.grown hown (by decide) hg
  · have e : outK st nds wk ls ms now (k + 1) = outK st nds wk ls ms now k ++ [leaseOf st wk ls ms now k] := by rw [outK_succ]; simp [ho]
    rw [e, cells3_append, List.length_append]
    exact hown'

def FNPost (w : World) (B sb n : Nat) (ps : Nat → Nat) (nds : Nat → List Nat) (wk ls ms now : Int) (st : Nat → JobS) (e : Ending) (w' : World) : Prop := ∃ v, e = .returned v ∧ FN w B sb n ps nds wk ls ms now st n v w'

set_option maxHeartbeats 1600000 in
theorem filterNext (h : Rep w B sb n ps nds wk ls ms now st) (hB : Bds n nds wk ls ms now) (nb : Nat) (hn : w.heap[nb]? = some (.cells #[.int .i64 now] 3 (0, 0)))
    (hT : ∀ i, i < n → (st i).tries ≤ 1000000000000) (jv : Value) (hjv : w.ownsRow B 52 1 jv ((List.range n).map ps).length (((List.range n).map ps).map ptr)) :
    Calls Try.prog 15 #[jv, .func (.func 16) #[] #[.pointer (some ⟨nb, 0, none⟩)], .func (.func 18) #[.pointer (some ⟨sb, 0, none⟩)] #[]] w (FNPost w B sb n ps nds wk ls ms now st) := by
  obtain ⟨i0, hi, hz0, hz1, hz2⟩ := info_parts Try.info35
  have hmany := hB.many
  obtain ⟨A, c, rfl, hM⟩ : ∃ A c, jv = .slice A n c ∧ n ≤ 9223372036854775807 := by
    rcases hjv.2 with ⟨rfl, h0⟩ | ⟨g, c, cur, rfl, _⟩
    · simp at h0; subst h0; exact ⟨_, _, rfl, by omega⟩
    · simp; omega
  have HV := Lib.hid hjv
  have HR := Lib.hid h
  have HNB := Lib.hid hn
  have HT := Lib.hid hT
  clear hjv h hn hT
  go_enter Try.func15, Try.ntmps15
  go_wp2
  go_loopw [7, 12] (fun v i wr => ∃ k : Nat, k ≤ n ∧ i = .int .i64 k ∧ FN w B sb n ps nds wk ls ms now st k v wr) (fun _ i _ => n - (intOf i).toNat)
  case atStart => exact ⟨0, by omega, rfl, ⟨by rw [stK_zero]; exact HR.out, World.ownsRow_nil _ _ _ _, Fr.refl _ _⟩⟩
  case round =>
    obtain ⟨k, hk, rfl, hF⟩ := hrel
    by_cases hlt : k < n
    · have hrow := hF.fr.row HV.out (by decide) (by decide)
      obtain ⟨g, c', hg, _, hc⟩ := row_at hrow (by simp; omega)
      simp only [Value.slice.injEq] at hg
      obtain ⟨rfl, -, rfl⟩ := hg
      have hcell := hc k (ptr (ps k)) (by simp [hlt])
      have hnow : wr.cell? ⟨nb, 0, none⟩ = some (.int .i64 now) := by have := hF.fr.cell HNB.out (by decide) (by decide); simp [World.cell?, this]
      have h1 := next1_rep hF.rep hB hlt nb hnow
      rw [stK_open] at h1
      have h2 := deal_rep hF.rep hB hlt (by rw [stK_at]; exact HT.out k hlt)
      rw [stK_at] at h2
      have H1 := Lib.hid h1
      have H2 := Lib.hid h2
      obtain ⟨q, hq⟩ : ∃ q, q = ptr (ps k) := ⟨_, rfl⟩
      rw [← hq] at hcell H1 H2
      clear hrow hc hnow h1 h2 hq
      have hsz := hF.fr.size
      cases ho : openJ st nds now k
      · rw [ho] at H1
        have HO := Lib.hid ho
        clear ho
        go_wp2_with (go_at_call 16; refine H1.out.mono ?_; rintro e w1 ⟨rfl, rfl⟩)
        go_roundw
        case rel => exact ⟨k + 1, by omega, by go_num, hF.no HO.out⟩
        case measure => simp [intOf]; omega
      · rw [ho] at H1
        have HO := Lib.hid ho
        clear ho
        obtain ⟨m, hm⟩ : ∃ m, m = (outK st nds wk ls ms now k).length := ⟨_, rfl⟩
        have hml : m ≤ k := by rw [hm]; exact outK_len _ _ _ _ _ _ _
        obtain ⟨xs, hxs⟩ : ∃ xs, xs = cells3 (outK st nds wk ls ms now k) := ⟨_, rfl⟩
        have hout := hF.out
        rw [← hm, ← hxs] at hout
        have HM := Lib.hid hm
        have HX := Lib.hid hxs
        have HF := Lib.hid hF
        clear hm hxs hF
        go_wp2_with (first | (go_at_call 16; refine H1.out.mono ?_; rintro e w1 ⟨rfl, rfl⟩) | (go_at_call 18; refine H2.out.mono ?_; rintro e w1 ⟨rfl, hrep, hfr⟩; have HREP := Lib.hid hrep; have HFR := Lib.hid hfr; have hout1 := hfr.row hout (by decide) (by decide); have hsz1 := hfr.size; clear hrep hfr) | (at_builtin; refine wpList_append_own _ rfl _ _ 31 rfl w.heap.size 35 i0 (.agg #[.int .i64 0, .int .i64 0, .int .i64 0]) 3 24 Try.underlying31 hi hz0 hz1 hz2 rfl (by decide) _ _ _ rfl (hout1.alloc _) ⟨w1.heap.size, 0, none⟩ 1 1 [.int .i64 k, .int .i64 (leaseW wk k (st k)), .int .i64 (leaseU ls ms now (st k))] rfl rfl ?c1 ?c2 ?c3 ?c4 ?c5 ?_))
        case c1 => exact fun j u hj => new3 _ _ _ _ _ j u hj
        case c2 => intro u hu; simp at hu; rcases hu with rfl | rfl | rfl <;> rfl
        case c3 => unfold maxLen; omega
        case c4 => omega
        case c5 => simp; omega
        intro v' w2 hown' hgrow' _
        have HN := Lib.hid (HF.out.yes HO.out HM.out HX.out HREP.out HFR.out HR.out.size hout1 hown' hgrow')
        clear hown' hgrow' hout1 hout
        go_wp2
        go_roundw
        case rel => exact ⟨k + 1, by omega, by go_num, HN.out⟩
        case measure => simp [intOf]; omega
    · obtain rfl : k = n := by omega
      have HF := Lib.hid hF
      clear hF
      go_wp2
      go_ret
      exact ⟨_, rfl, HF.out⟩

end Go.Proofs.Ythfghlenabionaa
