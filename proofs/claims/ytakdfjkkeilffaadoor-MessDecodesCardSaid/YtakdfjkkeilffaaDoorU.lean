/- Unframe. -/
import Derived.Test.YtakdfjkkeilffaaDoorN
set_option linter.unusedVariables false
set_option linter.unusedSimpArgs false
namespace Go.Proofs.YtakdfjkkeilffaaDoor
open Go.RowKit

/-- what Unframe tells, of a place within -/
def unN (b : ByteArray) (p : Nat) : ByteArray × Int × Int × Int :=
  let r := b.extract p b.size
  if r.size < 8 then (⟨#[]⟩, 0, p, 23)
  else if 262144 < un4 r then (⟨#[]⟩, 0, p, 2)
  else if r.size - 8 < un4 r then (⟨#[]⟩, 0, p, 23)
  else if crcN (r.extract 8 (8 + un4 r)).data.toList ≠ un4 (r.extract 4 r.size) then (⟨#[]⟩, 0, p, 25)
  else (r.extract 8 (8 + un4 r), ((p + 8 + un4 r : Nat) : Int), 0, 0)
/-- what Unframe tells -/
def unR (b : ByteArray) (at_ : Int) : ByteArray × Int × Int × Int :=
  if at_ < 0 ∨ (b.size : Int) < at_ then (⟨#[]⟩, 0, 0, 1) else unN b at_.toNat

def UnPost (w : World) (r : ByteArray × Int × Int × Int) (e : Ending) (w' : World) : Prop :=
  e = .returned (.tuple #[.string r.1, .int .i64 r.2.1, .agg #[.int .i64 r.2.2.1, .int .i64 r.2.2.2]]) ∧ Below w.heap.size w w'

theorem below1 (w : World) (o : Obj) : Below w.heap.size w (w.alloc o) := below_al w o

set_option maxRecDepth 100000 in
set_option maxHeartbeats 1600000 in
theorem unframe_out (b : ByteArray) (at_ : Int) (w : World) (h : at_ < 0 ∨ (b.size : Int) < at_) : Calls Tryd.prog 13 #[.string b, .int .i64 at_] w (UnPost w (unR b at_)) := by
  have HE : Hid (unR b at_ = (⟨#[]⟩, 0, 0, 1)) := by show unR b at_ = _; unfold unR; rw [if_pos h]
  have hs : at_ < 0 ∨ (¬ at_ < 0 ∧ (b.size : Int) < at_) := by omega
  clear h
  rcases hs with h1 | ⟨h1, h2⟩
  all_goals
    go_enter Tryd.func13, Tryd.ntmps13
    go_wp2_with fail
    refine bodyPost_ret (v := .tuple #[.string ⟨#[]⟩, .int .i64 0, .agg #[.int .i64 0, .int .i64 1]]) (by simp [results, Tryd.results13, go_sem]) rfl ⟨?_, below_al _ _⟩
    rw [HE.out]

set_option maxRecDepth 100000 in
set_option maxHeartbeats 1600000 in
theorem unframe_in (b : ByteArray) (p : Nat) (w : World) (hb : b.size ≤ 140737488355328) (hp : p ≤ b.size) (hq : Quarters w) (h0 : 0 < w.heap.size) : Calls Tryd.prog 13 #[.string b, .int .i64 p] w (UnPost w (unN b p)) := by
  have HQ := Lib.hid hq
  clear hq
  obtain ⟨r, hr⟩ : ∃ r, r = b.extract p b.size := ⟨_, rfl⟩
  have hrs : r.size = b.size - p := by rw [hr]; simp
  have hp1 : ¬ (p : Int) < 0 := by omega
  have hp2 : ¬ (b.size : Int) < (p : Int) := by omega
  have hx : b.extract p b.size = r := hr.symm
  have HUN : Hid (unN b p = if r.size < 8 then (⟨#[]⟩, 0, (p : Int), 23)
    else if 262144 < un4 r then (⟨#[]⟩, 0, (p : Int), 2)
    else if r.size - 8 < un4 r then (⟨#[]⟩, 0, (p : Int), 23)
    else if crcN (r.extract 8 (8 + un4 r)).data.toList ≠ un4 (r.extract 4 r.size) then (⟨#[]⟩, 0, (p : Int), 25)
    else (r.extract 8 (8 + un4 r), ((p + 8 + un4 r : Nat) : Int), 0, 0)) := by
    show unN b p = _
    rw [hr]; rfl
  clear hr
  have hw8 : wrap64 ((r.size : Int) - 8) = (r.size : Int) - 8 := by unfold wrap64; omega
  have hrb : r.size ≤ 140737488355328 := by omega
  have HRS := Lib.hid hrs
  clear hrs
  by_cases h8 : r.size < 8
  · have h8i : (r.size : Int) < 8 := by omega
    go_enter Tryd.func13, Tryd.ntmps13
    go_wp2_with fail
    refine bodyPost_ret (v := .tuple #[.string ⟨#[]⟩, .int .i64 0, .agg #[.int .i64 p, .int .i64 23]]) (by simp [results, Tryd.results13, go_sem]) rfl ⟨?_, below_al _ _⟩
    rw [HUN.out, if_pos h8]
  · have h8i : ¬ (r.size : Int) < 8 := by omega
    obtain ⟨n, hn⟩ : ∃ n, n = un4 r := ⟨_, rfl⟩
    have hnl : n < 4294967296 := by rw [hn]; exact un4_lt r
    have HN : Hid (∀ w, Calls Tryd.prog 30 #[.string r] w fun e w' => e = .returned (.int .u32 (n : Nat)) ∧ ∃ m, w' = w.drewN m) := by
      intro w
      rw [hn]
      exact unfour_any r w (by omega)
    rw [← hn] at HUN
    clear hn
    have hw : wrap64 (n : Int) = (n : Int) := by unfold wrap64; omega
    by_cases hbig : 262144 < n
    · have hbi : (262144 : Int) < (n : Int) := by omega
      go_enter Tryd.func13, Tryd.ntmps13
      go_wp2_with (go_at_call 30; refine (HN.out _).mono ?_; rintro e w2 ⟨rfl, m, rfl⟩)
      refine bodyPost_ret (v := .tuple #[.string ⟨#[]⟩, .int .i64 0, .agg #[.int .i64 p, .int .i64 2]]) (by simp [results, Tryd.results13, go_sem]) rfl ⟨?_, ?_⟩
      · rw [HUN.out, if_neg h8, if_pos hbig]
      · repeat (refine Below.setCell ?_ (by exact Nat.le_refl _) _)
        exact below_drewN (below_al _ _) _
    · have hbi : ¬ (262144 : Int) < (n : Int) := by omega
      by_cases hsh : r.size - 8 < n
      · have hsi : (r.size : Int) - 8 < n := by omega
        go_enter Tryd.func13, Tryd.ntmps13
        go_wp2_with (go_at_call 30; refine (HN.out _).mono ?_; rintro e w2 ⟨rfl, m, rfl⟩)
        refine bodyPost_ret (v := .tuple #[.string ⟨#[]⟩, .int .i64 0, .agg #[.int .i64 p, .int .i64 23]]) (by simp [results, Tryd.results13, go_sem]) rfl ⟨?_, ?_⟩
        · rw [HUN.out, if_neg h8, if_neg hbig, if_pos hsh]
        · repeat (refine Below.setCell ?_ (by exact Nat.le_refl _) _)
          exact below_drewN (below_al _ _) _
      · have hsi : ¬ (r.size : Int) - 8 < n := by omega
        have hn8 : 8 + n ≤ r.size := by omega
        have hn8i : 8 + (n : Int) ≤ (r.size : Int) := by omega
        obtain ⟨y, hy⟩ : ∃ y, y = r.extract 8 (8 + n) := ⟨_, rfl⟩
        obtain ⟨z, hz⟩ : ∃ z, z = r.extract 4 r.size := ⟨_, rfl⟩
        have hys : y.size = n := by rw [hy]; simp; omega
        have hzs : z.size = r.size - 4 := by rw [hz]; simp
        have hrs := HRS.out
        obtain ⟨c, hc⟩ : ∃ c, c = crcN y.data.toList := ⟨_, rfl⟩
        obtain ⟨d, hd⟩ : ∃ d, d = un4 z := ⟨_, rfl⟩
        have HC : Hid (∀ w, Quarters w → Calls Tryd.prog 11 #[.string y] w fun e w' => e = .returned (.int .u32 (c : Nat)) ∧ w' = w) := by
          intro w hq
          rw [hc]
          exact crc_same y w (by omega) hq
        have HD : Hid (∀ w, Calls Tryd.prog 30 #[.string z] w fun e w' => e = .returned (.int .u32 (d : Nat)) ∧ ∃ m, w' = w.drewN m) := by
          intro w
          rw [hd]
          exact unfour_any z w (by omega)
        have HE : Hid (unN b p = if c ≠ d then (⟨#[]⟩, 0, (p : Int), 25) else (y, ((p + 8 + n : Nat) : Int), 0, 0)) := by
          show unN b p = _
          rw [HUN.out, if_neg h8, if_neg hbig, if_neg hsh, hc, hd, hz, hy]
        have hxy : r.extract 8 (8 + n) = y := hy.symm
        have hxz : r.extract 4 r.size = z := hz.symm
        clear hc hd hy hz hrs
        go_enter Tryd.func13, Tryd.ntmps13
        go_wp2_with (go_at_call 30; refine (HN.out _).mono ?_; rintro e w2 ⟨rfl, m, rfl⟩)
        rw [hxy]
        obtain ⟨W1, hW1⟩ : ∃ W1, W1 = (w.alloc (.cells #[.int .i64 0, .int .i64 0] 31)).drewN m := ⟨_, rfl⟩
        rw [← hW1]
        have hB1 : Hid (Below w.heap.size w W1) := by show Below _ _ _; rw [hW1]; exact below_drewN (below_al _ _) _
        have hfs : W1.heap[w.heap.size]? = some (.cells #[.int .i64 0, .int .i64 0] 31 (0, 0)) := by rw [hW1]; exact heap_alloc_new _ _
        have k0 := cell_of_row W1 w.heap.size 0 _ _ _ hfs
        have k1 := cell_of_row W1 w.heap.size 1 _ _ _ hfs
        have kf : ∀ j, W1.frozen? ⟨w.heap.size, j, none⟩ = false := fun j => by simp only [World.frozen?, hfs]; rfl
        simp only [List.getElem?_toArray, List.getElem?_cons_zero, List.getElem?_cons_succ] at k0 k1
        have HQ1 : Hid (∀ m, Quarters (W1.drewN m)) := fun m => HQ.out.later h0 (below_drewN hB1.out _)
        clear hW1 hfs
        have hx4 : r.extract 4 (b.size - p) = z := by rw [← HRS.out]; exact hxz
        have h4r : (4 : Int) ≤ (r.size : Int) := by omega
        go_quiet (first
          | (go_at_call 11; exact Calls.quiet_of_same (HC.out _ (HQ1.out _)))
          | (go_at_call 30; first | exact Calls.quiet_of (HD.out _) | (rw [hxz]; exact Calls.quiet_of (HD.out _)) | (trace_state; fail)))
        by_cases hcd : c = d
        · have hcdb : (((c : Nat) : Int) != ((d : Nat) : Int)) = false := by rw [hcd]; simp
          have HCD := Lib.hid hcd
          clear hcd
          go_wp2_with fail
          refine bodyPost_ret (v := .tuple #[.string y, .int .i64 ((p : Int) + 8 + n), .agg #[.int .i64 0, .int .i64 0]]) (by simp [results, Tryd.results13, go_sem, k0, k1]) rfl ⟨?_, ?_⟩
          · rw [HE.out, if_neg (by simp [HCD.out])]
            simp
          · repeat (refine Below.setCell ?_ (by exact Nat.le_refl _) _)
            exact below_drewN hB1.out _
        · have hcdb : (((c : Nat) : Int) != ((d : Nat) : Int)) = true := by simp; omega
          have HCD := Lib.hid hcd
          clear hcd
          go_wp2_with fail
          refine bodyPost_ret (v := .tuple #[.string ⟨#[]⟩, .int .i64 0, .agg #[.int .i64 p, .int .i64 25]]) (by simp [results, Tryd.results13, go_sem, k0, k1]) rfl ⟨?_, ?_⟩
          · rw [HE.out, if_pos (by exact HCD.out)]
          · repeat (refine Below.setCell ?_ (by exact Nat.le_refl _) _)
            exact below_drewN hB1.out _

theorem unframe_any (b : ByteArray) (at_ : Int) (w : World) (hb : b.size ≤ 140737488355328) (hq : Quarters w) (h0 : 0 < w.heap.size) : Calls Tryd.prog 13 #[.string b, .int .i64 at_] w (UnPost w (unR b at_)) := by
  by_cases h : at_ < 0 ∨ (b.size : Int) < at_
  · exact unframe_out b at_ w h
  · obtain ⟨p, hp⟩ : ∃ p : Nat, at_ = p := ⟨at_.toNat, by omega⟩
    subst hp
    have e : unR b (p : Int) = unN b p := by unfold unR; rw [if_neg h, Int.toNat_natCast]
    rw [e]
    exact unframe_in b p w hb (by omega) hq h0

end Go.Proofs.YtakdfjkkeilffaaDoor
