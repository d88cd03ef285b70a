/- Running and Left: the lists that only read. -/
import Derived.Test.YthfghlenabionaaC
set_option linter.unusedVariables false
set_option linter.unusedSimpArgs false
namespace Go.Proofs.Ythfghlenabionaa
open Go.RowKit
variable {w w' : World} {B sb n : Nat} {ps : Nat → Nat} {nds : Nat → List Nat} {wk ls ms now : Int} {st : Nat → JobS}

def runJ (st : Nat → JobS) (now : Int) (i : Nat) : Bool := runsB (st i).done (st i).tries (st i).u now
def held (st : Nat → JobS) (i : Nat) : Int × Int × Int := ((st i).a, (st i).b, (st i).u)
def runK (st : Nat → JobS) (now : Int) (k : Nat) : List (Int × Int × Int) := ((List.range k).filter fun i => runJ st now i).map (held st)
def leftK (st : Nat → JobS) (k : Nat) : List Nat := (List.range k).filter fun i => !(st i).done

theorem runK_len (st : Nat → JobS) (now : Int) (k : Nat) : (runK st now k).length ≤ k := by
  simp only [runK, List.length_map]
  exact Nat.le_trans (List.length_filter_le _ _) (by simp)
theorem runK_succ (st : Nat → JobS) (now : Int) (k : Nat) : runK st now (k + 1) = runK st now k ++ if runJ st now k = true then [held st k] else [] := by
  simp only [runK, List.range_succ, List.filter_append, List.map_append]
  by_cases h : runJ st now k = true <;> simp [h]
theorem leftK_len (st : Nat → JobS) (k : Nat) : (leftK st k).length ≤ k := Nat.le_trans (List.length_filter_le _ _) (by simp)
theorem leftK_succ (st : Nat → JobS) (k : Nat) : leftK st (k + 1) = leftK st k ++ if (st k).done = false then [k] else [] := by
  simp only [leftK, List.range_succ, List.filter_append]
  by_cases h : (st k).done = false <;> simp [h]

def RowPost (w : World) (e s : Nat) (xs : List Value) (m : Nat) (r : Ending) (w' : World) : Prop := ∃ v, r = .returned v ∧ w'.ownsRow w.heap.size e s v m xs ∧ Below w.heap.size w w'

theorem below_app {w w1 w2 : World} {b e s m : Nat} {v : Value} {xs : List Value} {o : Obj} (h : Below w.heap.size w w1) (hv : w1.ownsRow b e s v m xs) (hb : w.heap.size ≤ b) (hg : (w1.alloc o).grownBy w2 v.ownBlock) : Below w.heap.size w w2 := by
  refine (h.alloc h.size o).grown hg (by have := h.size; simp; omega) fun k hk => ?_
  have := (hv.lt k hk).1
  omega

theorem rep_slice {xs : List Value} (h : w.ownsRow B 52 1 (.slice none 0 0) n xs) : n = 0 := by
  rcases h.2 with ⟨_, h0⟩ | ⟨g, c, cur, hv, _⟩
  · exact h0
  · simp at hv

theorem jv_form {jv : Value} (hjv : w.ownsRow B 52 1 jv ((List.range n).map ps).length (((List.range n).map ps).map ptr)) (hn : n ≤ 16384) : ∃ A c, jv = .slice A n c ∧ n ≤ 9223372036854775807 := by
  rcases hjv.2 with ⟨rfl, h0⟩ | ⟨g, c, cur, rfl, _⟩
  · simp at h0; subst h0; exact ⟨_, _, rfl, by omega⟩
  · simp; omega

theorem new1 (w : World) (a : Value) (e : TypeId) (j : Nat) (u : Value) (h : [a][j]? = some u) : (w.alloc (.cells #[a] e)).cell? ((⟨w.heap.size, 0, none⟩ : Addr).add j) = some u := by
  have ha : (⟨w.heap.size, 0, none⟩ : Addr).add j = ⟨w.heap.size, 0 + j, none⟩ := by unfold Addr.add; split <;> simp_all
  rw [ha]
  have := heap_alloc_new w (.cells #[a] e)
  simp only [World.cell?, this]
  simpa using h

set_option maxHeartbeats 1600000 in
theorem filterRunning (h : Rep w B sb n ps nds wk ls ms now st) (hB : Bds n nds wk ls ms now) (now' : Int) (nb : Nat) (hn : w.heap[nb]? = some (.cells #[.int .i64 now'] 3 (0, 0)))
    (jv : Value) (hjv : w.ownsRow B 52 1 jv ((List.range n).map ps).length (((List.range n).map ps).map ptr)) :
    Calls Try.prog 15 #[jv, .func (.func 22) #[] #[.pointer (some ⟨nb, 0, none⟩)], .func (.func 24) #[] #[]] w (RowPost w 35 3 (cells3 (runK st now' n)) (runK st now' n).length) := by
  obtain ⟨i0, hi, hz0, hz1, hz2⟩ := info_parts Try.info35
  have hmany := hB.many
  obtain ⟨A, c, rfl, hM⟩ := jv_form hjv hmany
  have HV := Lib.hid hjv
  have HR := Lib.hid h
  have HNB := Lib.hid hn
  clear hjv h hn
  go_enter Try.func15, Try.ntmps15
  go_wp2
  go_loopw [7, 12] (fun v i wr => ∃ k : Nat, k ≤ n ∧ i = .int .i64 k ∧ Below w.heap.size w wr ∧ wr.ownsRow w.heap.size 35 3 v (runK st now' k).length (cells3 (runK st now' k))) (fun _ i _ => n - (intOf i).toNat)
  case atStart => exact ⟨0, by omega, rfl, Below.refl _ _, World.ownsRow_nil _ _ _ _⟩
  case round =>
    obtain ⟨k, hk, rfl, hbel, hout⟩ := hrel
    by_cases hlt : k < n
    · have hrow := (Fr.of_below hbel HR.out.size).row HV.out (by decide) (by decide)
      obtain ⟨g, c', hg, _, hc⟩ := row_at hrow (by simp; omega)
      simp only [Value.slice.injEq] at hg
      obtain ⟨rfl, -, rfl⟩ := hg
      have hcell := hc k (ptr (ps k)) (by simp [hlt])
      have hnow : wr.cell? ⟨nb, 0, none⟩ = some (.int .i64 now') := by have := (Fr.of_below hbel HR.out.size).cell HNB.out (by decide) (by decide); simp [World.cell?, this]
      obtain ⟨_, v3, h3, _⟩ := (HR.out.below hbel).job k hlt
      have h1 := running1_any (ps k) nb k _ v3 _ _ _ _ now' wr h3 hnow
      have h2 := running2_any (ps k) k _ v3 _ _ _ _ wr h3
      have e1 : runsB (st k).done (st k).tries (st k).u now' = runJ st now' k := rfl
      rw [e1] at h1
      have H1 := Lib.hid h1
      have H2 := Lib.hid h2
      obtain ⟨q, hq⟩ : ∃ q, q = ptr (ps k) := ⟨_, rfl⟩
      have hq' : q = Value.pointer (some ⟨ps k, 0, none⟩) := hq
      rw [← hq] at hcell
      rw [← hq'] at H1 H2
      obtain ⟨m, hm⟩ : ∃ m, m = (runK st now' k).length := ⟨_, rfl⟩
      have hml : m ≤ k := by rw [hm]; exact runK_len _ _ _
      obtain ⟨xs, hxs⟩ : ∃ xs, xs = cells3 (runK st now' k) := ⟨_, rfl⟩
      rw [← hm, ← hxs] at hout
      have HM := Lib.hid hm
      have HX := Lib.hid hxs
      have HBEL := Lib.hid hbel
      have hsz := hbel.size
      clear hrow hc hnow h1 h2 hq hq' h3 e1 hm hxs hbel
      cases ho : runJ st now' k
      · rw [ho] at H1
        have HO := Lib.hid ho
        clear ho
        go_wp2_with (go_at_call 22; refine H1.out.mono ?_; rintro e w1 ⟨rfl, rfl⟩)
        go_roundw
        case rel => exact ⟨k + 1, by omega, by go_num, HBEL.out, by rw [runK_succ, HO.out]; simpa [← HM.out, ← HX.out] using hout⟩
        case measure => simp [intOf]; omega
      · rw [ho] at H1
        have HO := Lib.hid ho
        clear ho
        go_wp2_with (first | (go_at_call 22; refine H1.out.mono ?_; rintro e w1 ⟨rfl, rfl⟩) | (go_at_call 24; refine H2.out.mono ?_; rintro e w1 ⟨rfl, hbe1⟩; have HB1 := Lib.hid hbe1; have hout1 := hout.kept (row := none) ⟨hbe1.os, hbe1.tape, hbe1.output, hbe1.size, fun k hk _ => hbe1.block k hk⟩ (by cases Value.ownBlock _ <;> simp); have hsz1 := hbe1.size; clear hbe1) | (at_builtin; refine wpList_append_own _ rfl _ _ 31 rfl w.heap.size 35 i0 (.agg #[.int .i64 0, .int .i64 0, .int .i64 0]) 3 24 Try.underlying31 hi hz0 hz1 hz2 rfl (by decide) _ _ _ rfl (hout1.alloc _) ⟨w1.heap.size, 0, none⟩ 1 1 [.int .i64 (st k).a, .int .i64 (st k).b, .int .i64 (st k).u] rfl rfl ?c1 ?c2 ?c3 ?c4 ?c5 ?_))
        case c1 => exact fun j u hj => new3 _ _ _ _ _ j u hj
        case c2 => intro u hu; simp at hu; rcases hu with rfl | rfl | rfl <;> rfl
        case c3 => unfold maxLen; omega
        case c4 => omega
        case c5 => simp; omega
        intro v' w2 hown' hgrow' _
        have HN := Lib.hid (below_app (HBEL.out.trans (HB1.out.mono hsz)) hout1 (Nat.le_refl _) hgrow')
        have HOUT : Hid (w2.ownsRow w.heap.size 35 3 v' (runK st now' (k + 1)).length (cells3 (runK st now' (k + 1)))) := by
          show w2.ownsRow w.heap.size 35 3 v' (runK st now' (k + 1)).length (cells3 (runK st now' (k + 1)))
          rw [runK_succ, if_pos HO.out, List.length_append, cells3_append, ← HM.out, ← HX.out]
          exact hown'
        clear hown' hgrow' hout1 hout
        go_wp2
        go_roundw
        case rel => exact ⟨k + 1, by omega, by go_num, HN.out, HOUT.out⟩
        case measure => simp [intOf]; omega
    · obtain rfl : k = n := by omega
      have HF := Lib.hid hout
      have HBEL := Lib.hid hbel
      clear hout hbel
      go_wp2
      go_ret
      exact ⟨_, rfl, HF.out, HBEL.out⟩

def ints (l : List Nat) : List Value := l.map fun (i : Nat) => Value.int .i64 (i : Int)

set_option maxHeartbeats 1600000 in
theorem filterLeft (h : Rep w B sb n ps nds wk ls ms now st) (hB : Bds n nds wk ls ms now)
    (jv : Value) (hjv : w.ownsRow B 52 1 jv ((List.range n).map ps).length (((List.range n).map ps).map ptr)) :
    Calls Try.prog 19 #[jv, .func (.func 20) #[] #[], .func (.func 21) #[] #[]] w (RowPost w 3 1 (ints (leftK st n)) (leftK st n).length) := by
  obtain ⟨i0, hi, hz0, hz1, hz2⟩ := info_parts Try.info3
  have hmany := hB.many
  obtain ⟨A, c, rfl, hM⟩ := jv_form hjv hmany
  have HV := Lib.hid hjv
  have HR := Lib.hid h
  clear hjv h
  go_enter Try.func19, Try.ntmps19
  go_wp2
  go_loopw [7, 12] (fun v i wr => ∃ k : Nat, k ≤ n ∧ i = .int .i64 k ∧ Below w.heap.size w wr ∧ wr.ownsRow w.heap.size 3 1 v (leftK st k).length (ints (leftK st k))) (fun _ i _ => n - (intOf i).toNat)
  case atStart => exact ⟨0, by omega, rfl, Below.refl _ _, World.ownsRow_nil _ _ _ _⟩
  case round =>
    obtain ⟨k, hk, rfl, hbel, hout⟩ := hrel
    by_cases hlt : k < n
    · have hrow := (Fr.of_below hbel HR.out.size).row HV.out (by decide) (by decide)
      obtain ⟨g, c', hg, _, hc⟩ := row_at hrow (by simp; omega)
      simp only [Value.slice.injEq] at hg
      obtain ⟨rfl, -, rfl⟩ := hg
      have hcell := hc k (ptr (ps k)) (by simp [hlt])
      have h1 := left1_any (ps k) (st k).done wr ((HR.out.below hbel).dn hlt 3 _ (fun v => by simp [jobCells]))
      have h2 := left2_any (ps k) (k : Int) wr ((HR.out.below hbel).dn hlt 0 _ (fun v => by simp [jobCells]))
      have H1 := Lib.hid h1
      have H2 := Lib.hid h2
      obtain ⟨q, hq⟩ : ∃ q, q = ptr (ps k) := ⟨_, rfl⟩
      have hq' : q = Value.pointer (some ⟨ps k, 0, none⟩) := hq
      rw [← hq] at hcell
      rw [← hq'] at H1 H2
      obtain ⟨m, hm⟩ : ∃ m, m = (leftK st k).length := ⟨_, rfl⟩
      have hml : m ≤ k := by rw [hm]; exact leftK_len _ _
      obtain ⟨xs, hxs⟩ : ∃ xs, xs = ints (leftK st k) := ⟨_, rfl⟩
      rw [← hm, ← hxs] at hout
      have HM := Lib.hid hm
      have HX := Lib.hid hxs
      have HBEL := Lib.hid hbel
      have hsz := hbel.size
      clear hrow hc h1 h2 hq hq' hm hxs hbel
      cases ho : (st k).done
      · rw [ho] at H1
        have HO := Lib.hid ho
        clear ho
        go_wp2_with (first | (go_at_call 20; refine H1.out.mono ?_; rintro e w1 ⟨rfl, rfl⟩) | (go_at_call 21; refine H2.out.mono ?_; rintro e w1 ⟨rfl, rfl⟩) | (at_builtin; refine wpList_append_own _ rfl _ _ 36 rfl w.heap.size 3 i0 (.int .i64 0) 1 8 Try.underlying36 hi hz0 hz1 hz2 rfl (by decide) _ _ _ rfl (hout.alloc _) ⟨wr.heap.size, 0, none⟩ 1 1 [.int .i64 k] rfl rfl ?c1 ?c2 ?c3 ?c4 ?c5 ?_))
        case c1 => exact fun j u hj => new1 _ _ _ j u hj
        case c2 => intro u hu; simp at hu; subst hu; rfl
        case c3 => unfold maxLen; omega
        case c4 => omega
        case c5 => simp; omega
        intro v' w2 hown' hgrow' _
        have HN := Lib.hid (below_app HBEL.out hout (Nat.le_refl _) hgrow')
        have HOUT : Hid (w2.ownsRow w.heap.size 3 1 v' (leftK st (k + 1)).length (ints (leftK st (k + 1)))) := by
          show w2.ownsRow w.heap.size 3 1 v' (leftK st (k + 1)).length (ints (leftK st (k + 1)))
          rw [leftK_succ, if_pos HO.out, List.length_append, ints, List.map_append]
          rw [show List.map (fun (i : Nat) => Value.int .i64 (i : Int)) (leftK st k) = ints (leftK st k) from rfl, ← HM.out, ← HX.out]
          exact hown'
        clear hown' hgrow' hout
        go_wp2
        go_roundw
        case rel => exact ⟨k + 1, by omega, by go_num, HN.out, HOUT.out⟩
        case measure => simp [intOf]; omega
      · rw [ho] at H1
        have HO := Lib.hid ho
        clear ho
        go_wp2_with (go_at_call 20; refine H1.out.mono ?_; rintro e w1 ⟨rfl, rfl⟩)
        go_roundw
        case rel => exact ⟨k + 1, by omega, by go_num, HBEL.out, by rw [leftK_succ, HO.out]; simpa [← HM.out, ← HX.out] using hout⟩
        case measure => simp [intOf]; omega
    · obtain rfl : k = n := by omega
      have HF := Lib.hid hout
      have HBEL := Lib.hid hbel
      clear hout hbel
      go_wp2
      go_ret
      exact ⟨_, rfl, HF.out, HBEL.out⟩

end Go.Proofs.Ythfghlenabionaa
