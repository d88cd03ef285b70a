/- Plain facts for SchedOrder: what is dealt out and done at once. -/
import Derived.Test.YthfghlenabionaaK
set_option linter.unusedVariables false
set_option linter.unusedSimpArgs false
namespace Go.Proofs.Ythfghlenabionaa
open Go.RowKit
variable {n : Nat} {nds : Nat → List Nat} {wk ls ms now : Int} {st : Nat → JobS}

/-- what is not done has not been dealt out -/
def Clean (st : Nat → JobS) (n : Nat) : Prop := ∀ j, j < n → (st j).done = false → (st j).tries = 0

/-- the jobs that are dealt out -/
def opens (st : Nat → JobS) (nds : Nat → List Nat) (now : Int) (n : Nat) : List Nat := (List.range n).filter fun i => openJ st nds now i
theorem outK_opens (k : Nat) : outK st nds wk ls ms now k = (opens st nds now k).map (leaseOf st wk ls ms now) := rfl

/-- the schedule behind the first t of them -/
def Dn (st1 : Nat → JobS) (js : List Nat) : Nat → JobS := js.foldl doneAt st1

theorem Dn_snoc (st1 : Nat → JobS) (js : List Nat) (j : Nat) : Dn st1 (js ++ [j]) = doneAt (Dn st1 js) j := by simp [Dn]
theorem Dn_done (st1 : Nat → JobS) (js : List Nat) (j : Nat) : (Dn st1 js j).done = true ↔ (st1 j).done = true ∨ j ∈ js := by
  induction js generalizing st1 with
  | nil => simp [Dn]
  | cons x r ih =>
    show (Dn (doneAt st1 x) r j).done = true ↔ _
    rw [ih, done_doneAt, List.mem_cons]
    by_cases h : j = x <;> simp [h]
theorem Dn_tries (st1 : Nat → JobS) (js : List Nat) (j : Nat) : (Dn st1 js j).tries = (st1 j).tries := by
  induction js generalizing st1 with
  | nil => rfl
  | cons x r ih => show (Dn (doneAt st1 x) r j).tries = _; rw [ih, tries_doneAt]

theorem opens_mem {j : Nat} (h : j ∈ opens st nds now n) : j < n ∧ openJ st nds now j = true := by
  obtain ⟨h1, h2⟩ := List.mem_filter.1 h
  exact ⟨List.mem_range.1 h1, h2⟩
theorem opens_nodup : (opens st nds now n).Nodup := List.Pairwise.filter _ List.nodup_range

theorem take_get (l : List Nat) (t : Nat) (j : Nat) (h : l[t]? = some j) : l.take (t + 1) = l.take t ++ [j] := by
  rw [List.take_add_one, h]; rfl
theorem not_in_take (l : List Nat) (hn : l.Nodup) (t : Nat) (j : Nat) (h : l[t]? = some j) : j ∉ l.take t := by
  intro hm
  have e : l.take (t + 1) = l.take t ++ [j] := take_get l t j h
  have h2 : (l.take (t + 1)).Nodup := hn.sublist (List.take_sublist _ _)
  rw [e, List.nodup_append] at h2
  exact h2.2.2 j hm j (by simp) rfl

/-- Some job can be dealt out, if one is left. -/
theorem some_open (hc : Clean st n) (hnd : ∀ i, i < n → ∀ k ∈ nds i, k < i) (h : 0 < (leftK st n).length) : 0 < (opens st nds now n).length := by
  have hex : ∃ j, j < n ∧ (st j).done = false := by
    obtain ⟨j, hj⟩ := List.exists_mem_of_length_pos h
    obtain ⟨h1, h2⟩ := List.mem_filter.1 hj
    exact ⟨j, List.mem_range.1 h1, by simpa using h2⟩
  -- the least one
  have hleast : ∀ m : Nat, (∃ j, j < m ∧ j < n ∧ (st j).done = false) → ∃ j, j < n ∧ (st j).done = false ∧ ∀ k, k < j → (st k).done = true := by
    intro m
    induction m with
    | zero => rintro ⟨j, hj, _⟩; omega
    | succ m ih =>
      rintro ⟨j, hj, hjn, hd⟩
      by_cases hlt : ∃ j, j < m ∧ j < n ∧ (st j).done = false
      · exact ih hlt
      · refine ⟨j, hjn, hd, fun k hk => ?_⟩
        cases hkd : (st k).done
        · exact absurd ⟨k, by omega, by omega, hkd⟩ hlt
        · rfl
  obtain ⟨j0, hj0, hd0⟩ := hex
  obtain ⟨j, hj, hd, hall⟩ := hleast n ⟨j0, hj0, hj0, hd0⟩
  have ht := hc j hj hd
  have ho : openJ st nds now j = true := by
    unfold openJ openB runsB waitB
    rw [hd, ht]
    have : ((nds j).any fun k => !(st k).done) = false := by
      rw [List.any_eq_false]
      intro k hk
      simp [hall k (hnd j hj k hk)]
    rw [this]
    simp
  exact List.length_pos_of_mem (List.mem_filter.2 ⟨List.mem_range.2 hj, ho⟩)

theorem clean_after (hc : Clean st n) : Clean (Dn (stK st nds wk ls ms now n) (opens st nds now n)) n := by
  intro j hj hd
  rw [Dn_tries]
  have hnot : ¬ ((stK st nds wk ls ms now n j).done = true ∨ j ∈ opens st nds now n) := fun h => by
    rw [← Dn_done] at h
    rw [h] at hd
    cases hd
  have h1 : ¬ openJ st nds now j = true := fun ho => hnot (.inr (List.mem_filter.2 ⟨List.mem_range.2 hj, ho⟩))
  have e : stK st nds wk ls ms now n j = st j := by unfold stK; rw [if_neg (fun h => h1 h.2)]
  rw [e]
  rw [e] at hnot
  exact hc j hj (by cases h : (st j).done with | true => exact absurd (.inl h) hnot | false => rfl)

theorem none_run (h : (leftK st n).length = 0) (t : Int) : runK st t n = [] := by
  have : (List.range n).filter (fun i => runJ st t i) = [] := by
    rw [List.filter_eq_nil_iff]
    intro i hi hr
    have h1 := (run_done hr).1
    have hm : i ∈ leftK st n := List.mem_filter.2 ⟨hi, by simp [h1]⟩
    have := List.length_pos_of_mem hm
    omega
  simp [runK, this]

theorem opens_len : (opens st nds now n).length ≤ n := Nat.le_trans (List.length_filter_le _ _) (by simp)

end Go.Proofs.Ythfghlenabionaa
