/- Contracts: the needs of a job, open, and the three lists. -/
import Derived.Test.YthfghlenabionaaA
set_option linter.unusedVariables false
set_option linter.unusedSimpArgs false
namespace Go.Proofs.Ythfghlenabionaa
open Go.RowKit

def ptr (p : Nat) : Value := .pointer (some ⟨p, 0, none⟩)

/-- a row that is owned, at an index -/
theorem row_at {w : World} {B e : Nat} {v : Value} {n : Nat} {xs : List Value} (h : w.ownsRow B e 1 v n xs) (hn : 0 < n) :
    ∃ g c, v = .slice (some ⟨g, 0, none⟩) n c ∧ n ≤ 9223372036854775807 ∧ ∀ k x, xs[k]? = some x → w.cell? ⟨g, k, none⟩ = some x := by
  rcases h.2 with ⟨_, h0⟩ | ⟨g, c, cur, hv, _, _, h1, h2, _⟩
  · omega
  · refine ⟨g, c, hv, by simp only [maxLen] at h2; omega, fun k x hk => ?_⟩
    have := h.cells (g := g) (by rw [hv]; rfl) k x hk
    rwa [show (⟨g, 0, none⟩ : Addr).add k = ⟨g, k, none⟩ from by unfold Addr.add; split <;> simp_all] at this

def IdxPost (qs : List Nat) (dn : Nat → Bool) (w : World) (e : Ending) (w' : World) : Prop :=
  ∃ r : Int, e = .returned (.int .i64 r) ∧ decide (0 ≤ r) = qs.any (fun q => !dn q) ∧ w = w'

theorem any_at (qs : List Nat) (dn : Nat → Bool) (k q : Nat) (h : qs[k]? = some q) (hd : dn q = false) : qs.any (fun q => !dn q) = true := by
  rw [List.any_eq_true]
  exact ⟨q, List.mem_of_getElem? h, by simp [hd]⟩
theorem any_none (qs : List Nat) (dn : Nat → Bool) (h : ∀ (k q : Nat), qs[k]? = some q → dn q = true) : qs.any (fun q => !dn q) = false := by
  rw [List.any_eq_false]
  intro q hq
  obtain ⟨k, hk, rfl⟩ := List.getElem_of_mem hq
  simp [h k qs[k] (by simp [hk])]

set_option maxHeartbeats 800000 in
theorem index_any (qs : List Nat) (dn : Nat → Bool) (v : Value) (B : Nat) (w : World) (hv : w.ownsRow B 52 1 v qs.length (qs.map ptr))
    (hd : ∀ q ∈ qs, w.cell? ⟨q, 3, none⟩ = some (.bool (dn q))) :
    Calls Try.prog 29 #[v, .func (.func 27) #[] #[]] w (IdxPost qs dn w) := by
  by_cases h0 : 0 < qs.length
  · obtain ⟨g, c, rfl, hm, hc⟩ := row_at hv h0
    clear hv
    have HC := Lib.hid hc
    have HD := Lib.hid hd
    clear hc hd
    go_enter Try.func29, Try.ntmps29
    go_wp2
    go_loop [8] (fun i => ∃ k : Nat, k ≤ qs.length ∧ i = .int .i64 k ∧ Hid (∀ j q, j < k → qs[j]? = some q → dn q = true)) (fun i => qs.length - (intOf i).toNat)
    case atStart => exact ⟨0, by omega, rfl, fun j q hj => by omega⟩
    case round =>
      obtain ⟨k, hk, rfl, HK⟩ := hrel
      by_cases hlt : k < qs.length
      · have hq : (qs.map ptr)[k]? = some (ptr qs[k]) := by simp [hlt]
        have hcell := HC.out k _ hq
        have hdn := HD.out qs[k] (List.getElem_mem hlt)
        have hcon := undone_any qs[k] (dn qs[k]) w hdn
        have HCON := Lib.hid hcon
        obtain ⟨q, hqk⟩ : ∃ q, q = qs[k] := ⟨_, rfl⟩
        rw [← hqk] at hcell HCON
        have HQ := Lib.hid hqk
        unfold ptr at hcell
        clear hq hdn hcon hqk
        cases hb : dn q
        · rw [hb] at HCON
          have HB := Lib.hid hb
          clear hb
          go_wp2_with (go_at_call 27; refine HCON.out.mono ?_; rintro e w' ⟨rfl, rfl⟩)
          go_ret
          exact ⟨_, rfl, by rw [any_at qs dn k q (by rw [HQ.out]; simp [hlt]) HB.out]; simp, rfl⟩
        · rw [hb] at HCON
          have HB := Lib.hid hb
          clear hb
          go_wp2_with (go_at_call 27; refine HCON.out.mono ?_; rintro e w' ⟨rfl, rfl⟩)
          go_round
          case rel =>
            refine ⟨k + 1, by omega, by go_num, fun j q' hj hq' => ?_⟩
            by_cases hjk : j = k
            · subst hjk
              rw [List.getElem?_eq_getElem hlt, ← HQ.out] at hq'
              obtain rfl := Option.some.inj hq'
              exact HB.out
            · exact HK.out j q' (by omega) hq'
          case measure => simp [intOf]; omega
      · obtain rfl : k = qs.length := by omega
        go_wp2
        go_ret
        exact ⟨_, rfl, by rw [any_none qs dn (fun j q hj => HK.out j q (by have := (List.getElem?_eq_some_iff.1 hj).1; omega) hj)]; simp, rfl⟩
  · obtain rfl : qs = [] := List.eq_nil_of_length_eq_zero (by omega)
    obtain ⟨A, n, c, rfl, hn⟩ : ∃ A n c, v = .slice A n c ∧ n = 0 := by
      rcases hv.2 with ⟨rfl, _⟩ | ⟨g, c, cur, rfl, _⟩
      · exact ⟨_, _, _, rfl, rfl⟩
      · exact ⟨_, _, _, rfl, rfl⟩
    subst hn
    clear hv hd
    go_enter Try.func29, Try.ntmps29
    go_wp2
    refine wp_loop_rounds 1 ?_
    rw [rounds_succ]
    go_wp2
    go_ret
    exact ⟨_, rfl, by simp, rfl⟩

theorem contains_any (qs : List Nat) (dn : Nat → Bool) (v : Value) (B : Nat) (w : World) (hv : w.ownsRow B 52 1 v qs.length (qs.map ptr))
    (hd : ∀ q ∈ qs, w.cell? ⟨q, 3, none⟩ = some (.bool (dn q))) :
    Calls Try.prog 26 #[v, .func (.func 27) #[] #[]] w fun e w' => e = .returned (.bool (qs.any fun q => !dn q)) ∧ w = w' := by
  have hc := index_any qs dn v B w hv hd
  have HC := Lib.hid hc
  clear hc hv hd
  go_enter Try.func26, Try.ntmps26
  go_wp2_with (go_at_call 29; refine HC.out.mono ?_; rintro e w' ⟨r, rfl, hr, rfl⟩; have HR := Lib.hid hr; clear hr)
  go_ret
  exact ⟨ret_bool HR.out, rfl⟩

def openB (done : Bool) (tries u now : Int) (wait : Bool) : Bool := !done && (!runsB done tries u now && !wait)

set_option maxHeartbeats 800000 in
theorem open_any (p : Nat) (num tries : Int) (nd : Value) (done : Bool) (a b u now : Int) (qs : List Nat) (dn : Nat → Bool) (B : Nat) (w : World)
    (h : w.heap[p]? = some (.cells (jobCells num tries nd done a b u) 54 (0, 0)))
    (hv : w.ownsRow B 52 1 nd qs.length (qs.map ptr)) (hd : ∀ q ∈ qs, w.cell? ⟨q, 3, none⟩ = some (.bool (dn q))) :
    Calls Try.prog 17 #[.pointer (some ⟨p, 0, none⟩), .int .i64 now] w fun e w' => e = .returned (.bool (openB done tries u now (qs.any fun q => !dn q))) ∧ w = w' := by
  have h1 := runs_any p num tries nd done a b u now w h
  have h2 := contains_any qs dn nd B w hv hd
  obtain ⟨_, _, c2, c3, _, _, _⟩ := job_cells h
  have H1 := Lib.hid h1
  have H2 := Lib.hid h2
  clear h hv hd h1 h2
  generalize hwt : (qs.any fun q => !dn q) = wait at H2 ⊢
  generalize hrn : runsB done tries u now = rn at H1
  have HWT := Lib.hid hwt
  have HRN := Lib.hid hrn
  clear hwt hrn
  have hres : openB done tries u now wait = (!done && (!rn && !wait)) := by unfold openB; rw [HRN.out]
  rw [hres]
  clear hres
  cases done
  · cases rn
    · go_enter Try.func17, Try.ntmps17
      go_wp2_with (first | (go_at_call 23; refine H1.out.mono ?_; rintro e w' ⟨rfl, rfl⟩) | (go_at_call 26; refine H2.out.mono ?_; rintro e w' ⟨rfl, rfl⟩))
      go_ret
      exact ⟨ret_bool (by simp), rfl⟩
    · go_enter Try.func17, Try.ntmps17
      go_wp2_with (first | (go_at_call 23; refine H1.out.mono ?_; rintro e w' ⟨rfl, rfl⟩) | (go_at_call 26; refine H2.out.mono ?_; rintro e w' ⟨rfl, rfl⟩))
      go_ret
      exact ⟨ret_bool (by simp), rfl⟩
  · go_enter Try.func17, Try.ntmps17
    go_wp2_with fail
    go_ret
    exact ⟨ret_bool (by simp), rfl⟩

theorem next1_any (p nb : Nat) (num tries : Int) (nd : Value) (done : Bool) (a b u now : Int) (qs : List Nat) (dn : Nat → Bool) (B : Nat) (w : World)
    (h : w.heap[p]? = some (.cells (jobCells num tries nd done a b u) 54 (0, 0)))
    (hv : w.ownsRow B 52 1 nd qs.length (qs.map ptr)) (hd : ∀ q ∈ qs, w.cell? ⟨q, 3, none⟩ = some (.bool (dn q)))
    (hn : w.cell? ⟨nb, 0, none⟩ = some (.int .i64 now)) :
    Calls Try.prog 16 #[.pointer (some ⟨p, 0, none⟩), .pointer (some ⟨nb, 0, none⟩)] w fun e w' => e = .returned (.bool (openB done tries u now (qs.any fun q => !dn q))) ∧ w = w' := by
  have h1 := open_any p num tries nd done a b u now qs dn B w h hv hd
  have H1 := Lib.hid h1
  clear h hv hd h1
  go_enter Try.func16, Try.ntmps16
  go_wp2_with (go_at_call 17; refine H1.out.mono ?_; rintro e w' ⟨rfl, rfl⟩)
  go_ret
  exact ⟨rfl, rfl⟩

end Go.Proofs.Ythfghlenabionaa
