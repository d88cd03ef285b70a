/- Decode of the document: Tj, Tk, Tl, Tm. -/
import Derived.Test.YtakdfjkkeilffaaDoorT3
set_option linter.unusedVariables false
set_option linter.unusedSimpArgs false
namespace Go.Proofs.YtakdfjkkeilffaaDoor
open Go.RowKit

set_option maxRecDepth 100000 in
set_option maxHeartbeats 3200000 in
theorem msg38_kind (w : World) (k : Int) (n m c : Nat) (s : ByteArray) (A : Option Addr) (hk : ¬ k = 3) : Calls Tryd.prog 38 #[.agg #[.int .i64 k, .int .u64 n, .string s, .slice A m c]] w (Msg38 w none) := by
  have HW := Lib.hid (W38.first w k n s A m c)
  obtain ⟨W0, hW0⟩ : ∃ W0, W0 = w38 w k n s A m c := ⟨_, rfl⟩
  rw [← hW0] at HW
  unfold w38 zeroM at hW0
  have HW0 := Lib.hid hW0
  clear hW0
  go_enter Tryd.func38, Tryd.ntmps38
  go_upto_region 2 with (fail)
  rw [← HW0.out]
  obtain ⟨b0, b1, b2, b3⟩ := item_at HW.out.xb
  obtain ⟨⟨z0, z1, z2, z3, z4, z5, z6, z7, z8, z9, z10⟩, zf⟩ := zeroM_at HW.out.z1
  obtain ⟨⟨v0, v1, v2, v3, v4, v5, v6, v7, v8, v9, v10⟩, vf⟩ := zeroM_at HW.out.z2
  go_wp2_with fail
  exact HW.out.bad rfl rfl rfl

set_option maxRecDepth 100000 in
set_option maxHeartbeats 3200000 in
theorem msg38_nil (w : World) (n c : Nat) (s : ByteArray) (A : Option Addr) : Calls Tryd.prog 38 #[.agg #[.int .i64 3, .int .u64 n, .string s, .slice A (0 : Nat) c]] w (Msg38 w none) := by
  have HW := Lib.hid (W38.first w 3 n s A 0 c)
  obtain ⟨W0, hW0⟩ : ∃ W0, W0 = w38 w 3 n s A 0 c := ⟨_, rfl⟩
  rw [← hW0] at HW
  unfold w38 zeroM at hW0
  have HW0 := Lib.hid hW0
  clear hW0
  go_enter Tryd.func38, Tryd.ntmps38
  go_upto_region 2 with (fail)
  rw [← HW0.out]
  obtain ⟨b0, b1, b2, b3⟩ := item_at HW.out.xb
  obtain ⟨⟨z0, z1, z2, z3, z4, z5, z6, z7, z8, z9, z10⟩, zf⟩ := zeroM_at HW.out.z1
  obtain ⟨⟨v0, v1, v2, v3, v4, v5, v6, v7, v8, v9, v10⟩, vf⟩ := zeroM_at HW.out.z2
  go_wp2_with fail
  exact HW.out.bad rfl rfl rfl

set_option maxRecDepth 100000 in
set_option maxHeartbeats 3200000 in
theorem msg38_no (w : World) (n m c g o : Nat) (s : ByteArray) (hk : Int) (hn : Nat) (ht : ByteArray) (hl : List It) (hA : Option Addr) (hc : Nat) (hnn : hn < 18446744073709551616) (hic : ICells w g o hk hn ht hA hl.length hc) (hm : 0 < m) (hok : numOk 4 (.mk hk hn ht hl) = false) : Calls Tryd.prog 38 #[.agg #[.int .i64 3, .int .u64 n, .string s, .slice (some ⟨g, o, none⟩) m c]] w (Msg38 w none) := by
  have hm0 : ¬ ((m : Nat) : Int) < 1 := by omega
  have hmp : (0 : Int) < ((m : Nat) : Int) := by omega
  have HIC := Lib.hid hic
  have HW := Lib.hid (W38.first w 3 n s (some ⟨g, o, none⟩) m c)
  obtain ⟨W0, hW0⟩ : ∃ W0, W0 = w38 w 3 n s (some ⟨g, o, none⟩) m c := ⟨_, rfl⟩
  rw [← hW0] at HW
  unfold w38 zeroM at hW0
  have HW0 := Lib.hid hW0
  have H55 : Hid (∀ W : World, Calls Tryd.prog 55 #[.agg #[.int .i64 hk, .int .u64 hn, .string ht, .slice hA hl.length hc], .int .u64 (4 : Nat)] W fun e w' => e = .returned (.bool false) ∧ Below W.heap.size W w') := fun W => by
    have := isnum55_any hk hn ht hA hl.length hc hl 4 W
    rwa [hok] at this
  clear hic hW0 hok
  go_enter Tryd.func38, Tryd.ntmps38
  go_upto_region 2 with (fail)
  rw [← HW0.out]
  obtain ⟨a0, a1, a2, a3⟩ := HIC.out.later HW.out.below
  obtain ⟨b0, b1, b2, b3⟩ := item_at HW.out.xb
  go_wp2_with (go_at_call 55; refine (H55.out _).mono ?_; rintro e w1 ⟨rfl, hb1⟩; have HW1 := Lib.hid (HW.out.later hb1); clear hb1; obtain ⟨a01, a11, a21, a31⟩ := HIC.out.later HW1.out.below; obtain ⟨b01, b11, b21, b31⟩ := item_at HW1.out.xb; obtain ⟨⟨z0, z1, z2, z3, z4, z5, z6, z7, z8, z9, z10⟩, zf⟩ := zeroM_at HW1.out.z1; obtain ⟨⟨v0, v1, v2, v3, v4, v5, v6, v7, v8, v9, v10⟩, vf⟩ := zeroM_at HW1.out.z2)
  exact HW1.out.bad rfl rfl rfl

set_option maxRecDepth 100000 in
set_option maxHeartbeats 3200000 in
theorem msg38_zero (w : World) (n m c g o : Nat) (s : ByteArray) (hk : Int) (hn : Nat) (ht : ByteArray) (hl : List It) (hA : Option Addr) (hc : Nat) (hnn : hn < 18446744073709551616) (hic : ICells w g o hk hn ht hA hl.length hc) (hm : 0 < m) (hok : numOk 4 (.mk hk hn ht hl) = true) (hz : hn = 0) : Calls Tryd.prog 38 #[.agg #[.int .i64 3, .int .u64 n, .string s, .slice (some ⟨g, o, none⟩) m c]] w (Msg38 w none) := by
  have hm0 : ¬ ((m : Nat) : Int) < 1 := by omega
  have hmp : (0 : Int) < ((m : Nat) : Int) := by omega
  have HIC := Lib.hid hic
  have HW := Lib.hid (W38.first w 3 n s (some ⟨g, o, none⟩) m c)
  obtain ⟨W0, hW0⟩ : ∃ W0, W0 = w38 w 3 n s (some ⟨g, o, none⟩) m c := ⟨_, rfl⟩
  rw [← hW0] at HW
  unfold w38 zeroM at hW0
  have HW0 := Lib.hid hW0
  have H55 : Hid (∀ W : World, Calls Tryd.prog 55 #[.agg #[.int .i64 hk, .int .u64 hn, .string ht, .slice hA hl.length hc], .int .u64 (4 : Nat)] W fun e w' => e = .returned (.bool true) ∧ Below W.heap.size W w') := fun W => by
    have := isnum55_any hk hn ht hA hl.length hc hl 4 W
    rwa [hok] at this
  have hwn : IntKind.i64.wrap (hn : Int) = (hn : Int) := by rw [IntKind.wrap_i64]; omega
  have q1 : ((hn : Int) == 1) = false := by rw [hz]; rfl
  have q2 : ((hn : Int) == 2) = false := by rw [hz]; rfl
  have q3 : ((hn : Int) == 3) = false := by rw [hz]; rfl
  have q4 : ((hn : Int) == 4) = false := by rw [hz]; rfl
  clear hz
  clear hic hW0 hok
  go_enter Tryd.func38, Tryd.ntmps38
  go_upto_region 2 with (fail)
  rw [← HW0.out]
  obtain ⟨a0, a1, a2, a3⟩ := HIC.out.later HW.out.below
  obtain ⟨b0, b1, b2, b3⟩ := item_at HW.out.xb
  go_wp2_with (go_at_call 55; refine (H55.out _).mono ?_; rintro e w1 ⟨rfl, hb1⟩; have HW1 := Lib.hid (HW.out.later hb1); clear hb1; obtain ⟨a01, a11, a21, a31⟩ := HIC.out.later HW1.out.below; obtain ⟨b01, b11, b21, b31⟩ := item_at HW1.out.xb; obtain ⟨⟨z0, z1, z2, z3, z4, z5, z6, z7, z8, z9, z10⟩, zf⟩ := zeroM_at HW1.out.z1; obtain ⟨⟨v0, v1, v2, v3, v4, v5, v6, v7, v8, v9, v10⟩, vf⟩ := zeroM_at HW1.out.z2)
  exact HW1.out.bad rfl rfl rfl

theorem msg38_any (k : Int) (n : Nat) (s : ByteArray) (A : Option Addr) (c : Nat) (l : List It) (m : Nat) (w : World) (hm : m = l.length) {S : Nat → Prop} (hS : ∀ z, S z → z < w.heap.size) (hx : Holds w (.int .i64 k) (.int .u64 n) (.string s) (.slice A m c) (.mk k n s l)) (hcp : CapsP S w 3 (.slice A m c) (.mk k n s l)) (hl : look 8 (.mk k n s l) = 0) :
    Calls Tryd.prog 38 #[.agg #[.int .i64 k, .int .u64 n, .string s, .slice A m c]] w (Msg38 w (msgR (.mk k n s l))) := by
  by_cases hk : k = 3
  · subst hk
    cases l with
    | nil =>
      subst hm
      exact msg38_nil w n c s A
    | cons h r =>
      obtain ⟨hk, hn, ht, hl'⟩ := h
      obtain ⟨g, o, rfl, hA, hc, hnn, hic⟩ := hx.head
      have hlk : ∀ y ∈ r, look 7 y = 0 := fun y hy => (look_part hl).2 y (by simp [It.l, hy])
      have hmp : 0 < m := by rw [hm]; simp
      by_cases hok : numOk 4 (.mk hk hn ht hl') = true
      · have h4 : hn ≤ 4 := (of_decide_eq_true hok).2
        have hh : msgR (.mk 3 n s (.mk hk hn ht hl' :: r)) = if isKind hn = true ∧ r.length = (flds hn).length then readAll (zeroMsg hn) (flds hn) r else none := by
          simp [msgR, hok, It.n]
        rw [hh]
        have h5 : hn = 0 ∨ hn = 1 ∨ hn = 2 ∨ hn = 3 ∨ hn = 4 := by omega
        rcases h5 with h5 | h5 | h5 | h5 | h5
        · rw [h5, if_neg (by simp [isKind])]
          exact msg38_zero w n m c g o s hk hn ht hl' hA hc hnn hic hmp hok h5
        · exact msg38_k1 w n m c g o s hk hn ht hl' r _ hS hm hx hcp hlk hok h5 (by rw [h5]; simp [isKind, flds])
        · exact msg38_k2 w n m c g o s hk hn ht hl' r _ hS hm hx hcp hlk hok h5 (by rw [h5]; simp [isKind, flds])
        · exact msg38_k3 w n m c g o s hk hn ht hl' r _ hS hm hx hcp hlk hok h5 (by rw [h5]; simp [isKind, flds])
        · exact msg38_k4 w n m c g o s hk hn ht hl' r _ hS hm hx hcp hlk hok h5 (by rw [h5]; simp [isKind, flds])
      · have hh : msgR (.mk 3 n s (.mk hk hn ht hl' :: r)) = none := by simp [msgR, hok]
        rw [hh]
        exact msg38_no w n m c g o s hk hn ht hl' hA hc hnn hic hmp (by simpa using hok)
  · have hh : msgR (.mk k n s l) = none := by
      cases l <;> simp [msgR, hk]
    rw [hh]
    exact msg38_kind w k n m c s A hk

end Go.Proofs.YtakdfjkkeilffaaDoor

namespace Go.Proofs.YtakdfjkkeilffaaDoor
open Go.RowKit

theorem res21 {tmps : Array Value} {W : World} {N : Nat} {v0 v1 v2 v3 v4 v5 v6 v7 v8 v9 v10 p q : Value} (h2 : tmps.getD 2 undef = .pointer (some ⟨N, 0, none⟩)) (h3 : tmps.getD 3 undef = .pointer (some ⟨N + 1, 0, none⟩))
    (h : W.heap[N]? = some (.cells #[v0, v1, v2, v3, v4, v5, v6, v7, v8, v9, v10] 46 (0, 0))) (h1 : W.heap[N + 1]? = some (.cells #[p, q] 31 (0, 0))) : (results Tryd.f21 tmps).run Tryd.prog W = .ok (.tuple #[.agg #[v0, v1, v2, v3, v4, v5, v6, v7, v8, v9, v10], .agg #[p, q]]) W := by
  rw [Array.getD_eq_getD_getElem?] at h2 h3
  obtain ⟨z0, z1, _⟩ := fault_at h1
  have x0 := cell_of_row W N 0 _ _ _ h
  have x1 := cell_of_row W N 1 _ _ _ h
  have x2 := cell_of_row W N 2 _ _ _ h
  have x3 := cell_of_row W N 3 _ _ _ h
  have x4 := cell_of_row W N 4 _ _ _ h
  have x5 := cell_of_row W N 5 _ _ _ h
  have x6 := cell_of_row W N 6 _ _ _ h
  have x7 := cell_of_row W N 7 _ _ _ h
  have x8 := cell_of_row W N 8 _ _ _ h
  have x9 := cell_of_row W N 9 _ _ _ h
  have x10 := cell_of_row W N 10 _ _ _ h
  simp only [List.getElem?_toArray, List.getElem?_cons_zero, List.getElem?_cons_succ] at x0 x1 x2 x3 x4 x5 x6 x7 x8 x9 x10
  simp [results, Tryd.results21, go_sem, h2, h3, z0, z1, x0, x1, x2, x3, x4, x5, x6, x7, x8, x9, x10]
theorem fin21_err {w W4 W6 : World} {tmps : Array Value} {a c : Nat} (h2 : tmps.getD 2 undef = .pointer (some ⟨w.heap.size, 0, none⟩)) (h3 : tmps.getD 3 undef = .pointer (some ⟨w.heap.size + 1, 0, none⟩))
    (hz : W4.heap[w.heap.size]? = some (.cells zeroM 46 (0, 0))) (hz1 : W4.heap[w.heap.size + 1]? = some (.cells #[.int .i64 0, .int .i64 0] 31 (0, 0))) (hb : Below w.heap.size w W4) (hc : c ≠ 0)
    (h6 : W6 = (put13 W4 w.heap.size (.int .i64 0) (.int .i64 0) (.int .i64 0) (.int .i64 0) (.int .i64 0) (.int .i64 0) (.int .i64 0) (.int .i64 0) (.slice none 0 0) (.slice none 0 0) (.slice none 0 0) (.int .i64 a) (.int .i64 c)).drew) :
    bodyPost Tryd.prog Tryd.f21 (DecMPost w (.error (a, c))) .ret ⟨tmps, []⟩ W6 := by
  have hp := put13_at hz hz1 (.int .i64 0) (.int .i64 0) (.int .i64 0) (.int .i64 0) (.int .i64 0) (.int .i64 0) (.int .i64 0) (.int .i64 0) (.slice none 0 0) (.slice none 0 0) (.slice none 0 0) (.int .i64 a) (.int .i64 c)
  have ho := put13_off W4 w.heap.size (.int .i64 0) (.int .i64 0) (.int .i64 0) (.int .i64 0) (.int .i64 0) (.int .i64 0) (.int .i64 0) (.int .i64 0) (.slice none 0 0) (.slice none 0 0) (.slice none 0 0) (.int .i64 a) (.int .i64 c)
  subst h6
  generalize put13 W4 _ _ _ _ _ _ _ _ _ _ _ _ _ _ = W5 at hp ho
  have hs := hb.size
  refine bodyPost_ret (res21 h2 h3 (W := W5.drew) hp.1 hp.2) rfl ⟨⟨ho.os.trans hb.os, ho.tape.trans hb.tape, ho.output.trans hb.output, Nat.le_trans hs ho.size, fun k hk => ?_⟩, rfl, hc⟩
  exact (ho.block k (by omega) (by omega)).trans (hb.block k hk)
theorem fin21_bad {w W4 W6 : World} {tmps : Array Value} {a c : Nat} (h2 : tmps.getD 2 undef = .pointer (some ⟨w.heap.size, 0, none⟩)) (h3 : tmps.getD 3 undef = .pointer (some ⟨w.heap.size + 1, 0, none⟩))
    (hz : W4.heap[w.heap.size]? = some (.cells zeroM 46 (0, 0))) (hz1 : W4.heap[w.heap.size + 1]? = some (.cells #[.int .i64 0, .int .i64 0] 31 (0, 0))) (hb : Below w.heap.size w W4) (hc : c ≠ 0)
    (h6 : W6 = (put13 W4 w.heap.size (.int .i64 0) (.int .i64 0) (.int .i64 0) (.int .i64 0) (.int .i64 0) (.int .i64 0) (.int .i64 0) (.int .i64 0) (.slice none 0 0) (.slice none 0 0) (.slice none 0 0) (.int .i64 a) (.int .i64 c))) :
    bodyPost Tryd.prog Tryd.f21 (DecMPost w (.error (a, c))) .ret ⟨tmps, []⟩ W6 := by
  have hp := put13_at hz hz1 (.int .i64 0) (.int .i64 0) (.int .i64 0) (.int .i64 0) (.int .i64 0) (.int .i64 0) (.int .i64 0) (.int .i64 0) (.slice none 0 0) (.slice none 0 0) (.slice none 0 0) (.int .i64 a) (.int .i64 c)
  have ho := put13_off W4 w.heap.size (.int .i64 0) (.int .i64 0) (.int .i64 0) (.int .i64 0) (.int .i64 0) (.int .i64 0) (.int .i64 0) (.int .i64 0) (.slice none 0 0) (.slice none 0 0) (.slice none 0 0) (.int .i64 a) (.int .i64 c)
  subst h6
  generalize put13 W4 _ _ _ _ _ _ _ _ _ _ _ _ _ _ = W5 at hp ho
  have hs := hb.size
  refine bodyPost_ret (res21 h2 h3 (W := W5) hp.1 hp.2) rfl ⟨⟨ho.os.trans hb.os, ho.tape.trans hb.tape, ho.output.trans hb.output, Nat.le_trans hs ho.size, fun k hk => ?_⟩, rfl, hc⟩
  exact (ho.block k (by omega) (by omega)).trans (hb.block k hk)
theorem fin21_ok {w W4 W6 : World} {tmps : Array Value} {m : Msg} {a b c : Value} {base : Nat} (h2 : tmps.getD 2 undef = .pointer (some ⟨w.heap.size, 0, none⟩)) (h3 : tmps.getD 3 undef = .pointer (some ⟨w.heap.size + 1, 0, none⟩))
    (hz : W4.heap[w.heap.size]? = some (.cells zeroM 46 (0, 0))) (hz1 : W4.heap[w.heap.size + 1]? = some (.cells #[.int .i64 0, .int .i64 0] 31 (0, 0))) (hb : Below w.heap.size w W4) (hm : MsgOwn base W4 a b c m) (hbase : w.heap.size + 2 ≤ base)
    (h6 : W6 = put13 W4 w.heap.size (.int .i64 m.kind) (.int .i64 m.n0) (.int .i64 m.n1) (.int .i64 m.n2) (.int .i64 m.n3) (.int .i64 m.n4) (.int .i64 m.n5) (.int .i64 m.n6) a b c (.int .i64 0) (.int .i64 0)) :
    bodyPost Tryd.prog Tryd.f21 (DecMPost w (.ok m)) .ret ⟨tmps, []⟩ W6 := by
  have hp := put13_at hz hz1 (.int .i64 m.kind) (.int .i64 m.n0) (.int .i64 m.n1) (.int .i64 m.n2) (.int .i64 m.n3) (.int .i64 m.n4) (.int .i64 m.n5) (.int .i64 m.n6) a b c (.int .i64 0) (.int .i64 0)
  have ho := put13_off W4 w.heap.size (.int .i64 m.kind) (.int .i64 m.n0) (.int .i64 m.n1) (.int .i64 m.n2) (.int .i64 m.n3) (.int .i64 m.n4) (.int .i64 m.n5) (.int .i64 m.n6) a b c (.int .i64 0) (.int .i64 0)
  subst h6
  generalize put13 W4 _ _ _ _ _ _ _ _ _ _ _ _ _ _ = W5 at hp ho
  have hs := hb.size
  refine bodyPost_ret (res21 h2 h3 (W := W5) hp.1 hp.2) rfl ⟨⟨ho.os.trans hb.os, ho.tape.trans hb.tape, ho.output.trans hb.output, Nat.le_trans hs ho.size, fun k hk => ?_⟩, a, b, c, rfl, ?_⟩
  · exact (ho.block k (by omega) (by omega)).trans (hb.block k hk)
  · exact (hm.keep fun g hg hlt => ho.block g (by omega) hlt).mono (by omega)

set_option maxRecDepth 100000 in
set_option maxHeartbeats 1600000 in
theorem decr_err (b : ByteArray) (a c : Nat) (w : World) (h : decR b = .error (a, c)) : Calls Tryd.prog 21 #[.string b] w (DecMPost w (.error (a, c))) := by
  obtain ⟨f1, f2, f3, f4⟩ := decW_facts w
  have HD : Hid (Calls Tryd.prog 37 #[.string b] (decW w) fun e w1 => e = .returned (.tuple #[.agg #[.int .i64 0, .int .u64 0, .string ⟨#[]⟩, .slice none 0 0], .agg #[.int .i64 (a : Nat), .int .i64 (c : Nat)]]) ∧ Below (decW w).heap.size (decW w) w1 ∧ c ≠ 0) := by
    have := dec37_any b (decW w)
    rw [h] at this
    exact this.mono fun e w1 ⟨h1, h2, h3⟩ => ⟨h2, h1, h3⟩
  have F1 := Lib.hid f1
  have F2 := Lib.hid f2
  have F3 := Lib.hid f3
  have F4 := Lib.hid f4
  clear h f1 f2 f3 f4
  unfold decW zeroM at HD
  go_enter Tryd.func21, Tryd.ntmps21
  go_wp2_with (go_at_call 37; refine HD.out.mono ?_; rintro e w1 ⟨rfl, hb1, hc⟩; have HB1 : Hid (Below (decW w).heap.size (decW w) w1) := hb1; have HC := Lib.hid hc; have ht : (((c : Nat) : Int) == 0) = false := by { simp; omega }; clear hb1 hc)
  have hs1 := HB1.out.size
  rw [F2.out] at hs1
  obtain ⟨W4, hW4⟩ : ∃ W4, W4 = (w1.alloc (.cells #[.int .i64 0, .int .u64 0, .string ⟨#[]⟩, .slice none 0 0] 57)).alloc (.cells #[.int .i64 a, .int .i64 c] 31) := ⟨_, rfl⟩
  rw [← hW4]
  have hb4 : Below w1.heap.size w1 W4 := by rw [hW4]; exact al2' _ _ _
  have hz0 : W4.heap[w.heap.size]? = some (.cells zeroM 46 (0, 0)) := by
    rw [hb4.block _ (by omega), HB1.out.block _ (by rw [F2.out]; omega)]; exact F3.out
  have hz1 : W4.heap[w.heap.size + 1]? = some (.cells #[.int .i64 0, .int .i64 0] 31 (0, 0)) := by
    rw [hb4.block _ (by omega), HB1.out.block _ (by rw [F2.out]; omega)]; exact F4.out
  obtain ⟨⟨y0, y1, y2, y3, y4, y5, y6, y7, y8, y9, y10⟩, u0⟩ := zeroM_at hz0
  obtain ⟨y11, y12, u1⟩ := fault_at hz1
  have z6 : W4.cell? ⟨w1.heap.size + 1, 0, none⟩ = some (.int .i64 a) := by
    rw [hW4]; simp
  have z7 : W4.cell? ⟨w1.heap.size + 1, 1, none⟩ = some (.int .i64 c) := by
    rw [hW4]; simp
  have HB4 : Hid (Below w.heap.size w W4) := F1.out.trans ((below_then HB1.out hb4).mono (by rw [F2.out]; omega))
  have hs4 := hb4.size
  have k1 : w.heap.size ≠ w1.heap.size := by omega
  have k2 : w.heap.size ≠ w1.heap.size + 1 := by omega
  have k3 : w.heap.size + 1 ≠ w1.heap.size := by omega
  have k4 : w.heap.size + 1 ≠ w1.heap.size + 1 := by omega
  have HZ0 := Lib.hid hz0
  have HZ1 := Lib.hid hz1
  clear hz0 hz1 hW4
  go_region
  all_goals
    go_wp2_with fail
    exact fin21_err rfl rfl HZ0.out HZ1.out HB4.out HC.out rfl




set_option maxRecDepth 100000 in
set_option maxHeartbeats 3200000 in
theorem decr_ok (b : ByteArray) (k : Int) (n : Nat) (s : ByteArray) (l : List It) (w : World) (h : decR b = .ok (.mk k n s l)) : Calls Tryd.prog 21 #[.string b] w (DecMPost w (msgOut (msgR (.mk k n s l)))) := by
  obtain ⟨m, hm⟩ : ∃ m, m = l.length := ⟨_, rfl⟩
  obtain ⟨f1, f2, f3, f4⟩ := decW_facts w
  have hl := (dec_back h).1
  have HD : Hid (Calls Tryd.prog 37 #[.string b] (decW w) fun e w1 => ∃ A c, e = .returned (.tuple #[.agg #[.int .i64 k, .int .u64 n, .string s, .slice A m c], .agg #[.int .i64 0, .int .i64 0]]) ∧ Below (decW w).heap.size (decW w) w1 ∧ Holds w1 (.int .i64 k) (.int .u64 n) (.string s) (.slice A m c) (.mk k n s l) ∧ CapsP (fun g => (decW w).heap.size ≤ g ∧ g < w1.heap.size) w1 3 (.slice A m c) (.mk k n s l)) := by
    have := dec37_any b (decW w)
    rw [h] at this
    refine this.mono ?_
    rintro e w1 ⟨h1, v0, v1, v2, v3, rfl, h3, h4⟩
    have h5 := h3.holds
    rw [hm]
    cases h5 with
    | mk _ _ _ A c _ F hn hs hm hA hl => exact ⟨A, c, rfl, h1, .mk _ _ _ A c _ F hn hs hm hA hl, h4 3⟩
  obtain ⟨R, hR⟩ : ∃ R, R = msgR (.mk k n s l) := ⟨_, rfl⟩
  rw [← hR]
  have HCALL : Hid (∀ (A : Option Addr) (c : Nat) (w1 W4 : World), Below w1.heap.size w1 W4 → Holds w1 (.int .i64 k) (.int .u64 n) (.string s) (.slice A m c) (.mk k n s l) → CapsP (fun g => (decW w).heap.size ≤ g ∧ g < w1.heap.size) w1 3 (.slice A m c) (.mk k n s l) → Calls Tryd.prog 38 #[.agg #[.int .i64 k, .int .u64 n, .string s, .slice A m c]] W4 (Msg38 W4 R)) := by
    intro A c w1 W4 hb hx hcp
    rw [hR]
    exact msg38_any k n s A c l m W4 hm (S := fun g => (decW w).heap.size ≤ g ∧ g < w1.heap.size) (fun z hz => Nat.lt_of_lt_of_le hz.2 hb.size) (hx.later hb) (hcp.keep (fun _ h => h) (fun g hg => hb.block g hg.2)) hl
  have F1 := Lib.hid f1
  have F2 := Lib.hid f2
  have F3 := Lib.hid f3
  have F4 := Lib.hid f4
  clear h f1 f2 f3 f4 hm hl hR
  unfold decW zeroM at HD
  cases R with
  | none =>
    go_enter Tryd.func21, Tryd.ntmps21
    go_upto_region 6 with (first
      | (go_at_call 37; refine HD.out.mono ?_; rintro e w1 ⟨A, c, rfl, hb1, hh1, hc1⟩; have HB1 : Hid (Below (decW w).heap.size (decW w) w1) := hb1; have HH := Lib.hid hh1; have HC : Hid (CapsP (fun g => (decW w).heap.size ≤ g ∧ g < w1.heap.size) w1 3 (.slice A m c) (.mk k n s l)) := hc1; clear hb1 hh1 hc1)
      | (go_at_call 38; refine (HCALL.out A c w1 _ (al2' _ _ _) HH.out HC.out).mono ?_; rintro e w2 ⟨hb2, rfl⟩; have HB2 : Hid (Below w1.heap.size w1 w2) := below_then (al2' _ _ _) hb2; have hs1 := HB1.out.size; rw [F2.out] at hs1; have hs2 := HB2.out.size; have HZ0 : Hid (w2.heap[w.heap.size]? = some (.cells zeroM 46 (0, 0))) := (by show _ = _; rw [HB2.out.block _ (by omega), HB1.out.block _ (by rw [F2.out]; omega)]; exact F3.out); have HZ1 : Hid (w2.heap[w.heap.size + 1]? = some (.cells #[.int .i64 0, .int .i64 0] 31 (0, 0))) := (by show _ = _; rw [HB2.out.block _ (by omega), HB1.out.block _ (by rw [F2.out]; omega)]; exact F4.out); clear hb2; unfold zeroM))
    obtain ⟨W4, hW4⟩ : ∃ W4, W4 = w2.alloc (.cells #[.int .i64 0, .int .i64 0, .int .i64 0, .int .i64 0, .int .i64 0, .int .i64 0, .int .i64 0, .int .i64 0, .slice none 0 0, .slice none 0 0, .slice none 0 0] 46) := ⟨_, rfl⟩
    rw [← hW4]
    have hb4 : Below w2.heap.size w2 W4 := by rw [hW4]; exact below_al _ _
    have hz0 : W4.heap[w.heap.size]? = some (.cells zeroM 46 (0, 0)) := keepb hb4 HZ0.out
    have hz1 : W4.heap[w.heap.size + 1]? = some (.cells #[.int .i64 0, .int .i64 0] 31 (0, 0)) := keepb hb4 HZ1.out
    obtain ⟨⟨y0, y1, y2, y3, y4, y5, y6, y7, y8, y9, y10⟩, u0⟩ := zeroM_at hz0
    obtain ⟨y11, y12, u1⟩ := fault_at hz1
    have HB4 : Hid (Below w.heap.size w W4) := F1.out.trans ((below_then HB1.out (HB2.out.trans (hb4.mono hs2))).mono (by rw [F2.out]; omega))
    have HZ0' := Lib.hid hz0
    have HZ1' := Lib.hid hz1
    clear hz0 hz1 hW4
    go_wp2_with fail
    exact fin21_bad rfl rfl HZ0'.out HZ1'.out HB4.out (by decide) rfl
  | some M =>
    go_enter Tryd.func21, Tryd.ntmps21
    go_upto_region 7 with (first
      | (go_at_call 37; refine HD.out.mono ?_; rintro e w1 ⟨A, c, rfl, hb1, hh1, hc1⟩; have HB1 : Hid (Below (decW w).heap.size (decW w) w1) := hb1; have HH := Lib.hid hh1; have HC : Hid (CapsP (fun g => (decW w).heap.size ≤ g ∧ g < w1.heap.size) w1 3 (.slice A m c) (.mk k n s l)) := hc1; clear hb1 hh1 hc1)
      | (go_at_call 38; refine (HCALL.out A c w1 _ (al2' _ _ _) HH.out HC.out).mono ?_; rintro e w2 ⟨hb2, va, vb, vc, rfl, ho2⟩; obtain ⟨A1, L1, C1, rfl⟩ : ∃ A l c, va = .slice A l c := (by obtain ⟨A, c, e⟩ := (Nums.of_row ho2.ws).form; exact ⟨A, _, c, e⟩); obtain ⟨A2, L2, C2, rfl⟩ : ∃ A l c, vb = .slice A l c := (by obtain ⟨vs, hv⟩ := ho2.ms; rcases hv.row.2 with ⟨rfl, _⟩ | ⟨g', cap', cur, rfl, _⟩ <;> exact ⟨_, _, _, rfl⟩); obtain ⟨A3, L3, C3, rfl⟩ : ∃ A l c, vc = .slice A l c := (by obtain ⟨A, c, e⟩ := (Nums.of_row ho2.ds).form; exact ⟨A, _, c, e⟩); have HO2 := Lib.hid ho2; have HB2 : Hid (Below w1.heap.size w1 w2) := below_then (al2' _ _ _) hb2; have hs1 := HB1.out.size; rw [F2.out] at hs1; have hs2 := HB2.out.size; have HZ0 : Hid (w2.heap[w.heap.size]? = some (.cells zeroM 46 (0, 0))) := (by show _ = _; rw [HB2.out.block _ (by omega), HB1.out.block _ (by rw [F2.out]; omega)]; exact F3.out); have HZ1 : Hid (w2.heap[w.heap.size + 1]? = some (.cells #[.int .i64 0, .int .i64 0] 31 (0, 0))) := (by show _ = _; rw [HB2.out.block _ (by omega), HB1.out.block _ (by rw [F2.out]; omega)]; exact F4.out); clear hb2 ho2; unfold mcells))
    obtain ⟨W4, hW4⟩ : ∃ W4, W4 = w2.alloc (.cells #[.int .i64 M.kind, .int .i64 M.n0, .int .i64 M.n1, .int .i64 M.n2, .int .i64 M.n3, .int .i64 M.n4, .int .i64 M.n5, .int .i64 M.n6, .slice A1 L1 C1, .slice A2 L2 C2, .slice A3 L3 C3] 46) := ⟨_, rfl⟩
    rw [← hW4]
    have hb4 : Below w2.heap.size w2 W4 := by rw [hW4]; exact below_al _ _
    have hz0 : W4.heap[w.heap.size]? = some (.cells zeroM 46 (0, 0)) := keepb hb4 HZ0.out
    have hz1 : W4.heap[w.heap.size + 1]? = some (.cells #[.int .i64 0, .int .i64 0] 31 (0, 0)) := keepb hb4 HZ1.out
    obtain ⟨⟨y0, y1, y2, y3, y4, y5, y6, y7, y8, y9, y10⟩, u0⟩ := zeroM_at hz0
    obtain ⟨y11, y12, u1⟩ := fault_at hz1
    have HB4 : Hid (Below w.heap.size w W4) := F1.out.trans ((below_then HB1.out (HB2.out.trans (hb4.mono hs2))).mono (by rw [F2.out]; omega))
    have hmb : W4.heap[w2.heap.size]? = some (.cells (mcells M (.slice A1 L1 C1) (.slice A2 L2 C2) (.slice A3 L3 C3)) 46 (0, 0)) := by rw [hW4]; exact heap_alloc_new _ _
    obtain ⟨z0, z1, z2, z3, z4, z5, z6, z7, z8, z9, z10⟩ := mcells_at2 hmb
    have HO4 : Hid (MsgOwn (w1.heap.size) W4 (.slice A1 L1 C1) (.slice A2 L2 C2) (.slice A3 L3 C3) M) := (HO2.out.keep (fun g hg hlt => hb4.block g hlt)).mono (by simp; omega)
    have HZ0' := Lib.hid hz0
    have HZ1' := Lib.hid hz1
    clear hz0 hz1 hW4 hmb
    go_wp2_with fail
    exact fin21_ok rfl rfl HZ0'.out HZ1'.out HB4.out HO4.out hs1 rfl
theorem decr_any (b : ByteArray) (w : World) : Calls Tryd.prog 21 #[.string b] w (DecMPost w (decM b)) := by
  unfold decM
  cases hd : decR b with
  | error ac =>
    obtain ⟨a, c⟩ := ac
    exact decr_err b a c w hd
  | ok x =>
    have e : (match msgR x with | none => .error (0, 200) | some m => .ok m : Except (Nat × Nat) Msg) = msgOut (msgR x) := by cases msgR x <;> rfl
    show Calls Tryd.prog 21 #[.string b] w (DecMPost w (match msgR x with | none => .error (0, 200) | some m => .ok m : Except (Nat × Nat) Msg))
    rw [e]
    obtain ⟨k, n, s, l⟩ := x
    exact decr_ok b k n s l w hd

end Go.Proofs.YtakdfjkkeilffaaDoor

namespace Go.Proofs.YtakdfjkkeilffaaDoor
open Go.RowKit

theorem below_set {base : Nat} {w w' : World} (h : Below base w w') {a : Addr} (ha : base ≤ a.block) (v : Value) : Below base w (w'.setCell a v) :=
  ⟨h.os, h.tape, h.output, by simpa [World.setCell] using h.size, fun k hk => by rw [Below.heap_setCell _ _ _ _ (by omega)]; exact h.block k hk⟩
theorem results_none {fn : Func} (h : fn.results = #[]) (tmps : Array Value) (P : Program) (w : World) : (results fn tmps).run P w = .ok (.tuple #[]) w := by
  simp [results, h]
/-- a row of dists of the call's own, of whatever contents -/
def DOk (base : Nat) (W : World) (v : Value) : Prop := ∃ n xs, W.ownsRow base 51 1 v n xs
/-- marks were written over rows of dists -/
structure Spoil (base : Nat) (w w' : World) : Prop where
  below : Below base w w'
  rows : ∀ v, DOk base w v → DOk base w' v
  other : ∀ (g : Nat) (cs : Array Value) (t : TypeId), t ≠ 51 → w.heap[g]? = some (.cells cs t (0, 0)) → w'.heap[g]? = some (.cells cs t (0, 0))
theorem Spoil.refl (base : Nat) (w : World) : Spoil base w w := ⟨Below.refl _ _, fun _ h => h, fun _ _ _ _ h => h⟩
theorem spoil_of_off {base g cap : Nat} {w wr : World} {cur cs : Array Value} (hb : base ≤ g) (h0 : w.heap[g]? = some (.cells cur 51 (0, 0))) (hs : cur.size = cap) (ho : Off (fun z => z = g) w wr) (hr : wr.heap[g]? = some (.cells cs 51 (0, 0))) (hcs : cs.size = cap) : Spoil base w wr := by
  have hg := lt_of_block h0
  refine ⟨⟨ho.os, ho.tape, ho.output, ho.size, fun k hk => ho.block k (by omega) (by omega)⟩, ?_, ?_⟩
  · rintro v ⟨n, xs, h1, h2⟩
    rcases h2 with ⟨e1, e2⟩ | ⟨g', cap', cur', e1, e2, e3, e4, e5, e6, e7⟩
    · exact ⟨n, xs, h1, .inl ⟨e1, e2⟩⟩
    · by_cases hgg : g' = g
      · subst hgg
        rw [h0] at e3
        injection e3 with e3
        injection e3 with e3 _ _
        subst e3
        exact ⟨n, cs.toList.take (n * 1), by simp; omega, .inr ⟨g', cap', cs, e1, e2, hr, e4, e5, by omega, rfl⟩⟩
      · exact ⟨n, xs, h1, .inr ⟨g', cap', cur', e1, e2, by rw [ho.block g' hgg (lt_of_block e3)]; exact e3, e4, e5, e6, e7⟩⟩
  · intro z cs' t ht hz
    have hzg : z ≠ g := by
      rintro rfl
      rw [h0] at hz
      injection hz with hz
      injection hz with _ hz _
      exact ht hz.symm
    rw [ho.block z hzg (lt_of_block hz)]; exact hz

set_option maxRecDepth 100000 in
set_option maxHeartbeats 1600000 in
theorem spoil23_row (base g n cap : Nat) (cur : Array Value) (w : World) (hb : base ≤ g) (h0 : w.heap[g]? = some (.cells cur 51 (0, 0))) (hn : n ≤ cap) (hcm : cap ≤ 9223372036854775807) (hs : cur.size = cap) :
    Calls Tryd.prog 23 #[.slice (some ⟨g, 0, none⟩) n cap, .int .u64 3] w fun e w' => e = .returned (.tuple #[]) ∧ Spoil base w w' := by
  have HB := Lib.hid hb
  have H0 := Lib.hid h0
  have HS := Lib.hid hs
  clear hb h0 hs
  go_enter Tryd.func23, Tryd.ntmps23
  go_wp2_with fail
  go_loopw [4] (fun i wr => ∃ q : Nat, q ≤ cap ∧ i = .int .i64 q ∧ Hid (Off (fun z => z = g) w wr) ∧ Hid (∃ cs, wr.heap[g]? = some (.cells cs 51 (0, 0)) ∧ cs.size = cap)) (fun i _ => cap - (intOf i).toNat)
  case atStart => exact ⟨0, by omega, rfl, Off.refl _ _, ⟨cur, H0.out, HS.out⟩⟩
  case round =>
    obtain ⟨q, hq, rfl, HO, HC⟩ := hrel
    obtain ⟨wo, rfl⟩ : ∃ wo : World, wo = wr := ⟨_, rfl⟩
    by_cases hlt : q < cap
    · obtain ⟨cs, hcs, hcz⟩ := HC.out
      have d0 : wo.cell? ⟨g, q, none⟩ = some cs[q] := by
        rw [cell_of_row _ _ _ _ _ _ hcs]; simp [hcz, hlt]
      have u0 : ∀ j, wo.frozen? ⟨g, j, none⟩ = false := fun j => by simp only [World.frozen?, hcs]; rfl
      have HO2 : Hid (Off (fun z => z = g) w (wo.setCell ⟨g, q, none⟩ (.int .u64 3))) := HO.out.set rfl _
      have HC2 : Hid (∃ cs, (wo.setCell ⟨g, q, none⟩ (.int .u64 3)).heap[g]? = some (.cells cs 51 (0, 0)) ∧ cs.size = cap) := ⟨_, heap_setCell_same _ _ _ _ _ _ hcs, by simp [hcz]⟩
      clear hcs
      go_wp2_with fail
      go_roundw
      case rel => exact ⟨q + 1, by omega, by go_num, HO2, HC2⟩
      case measure => simp [intOf]; omega
    · obtain rfl : q = cap := by omega
      go_wp2_with fail
      obtain ⟨cs, hcs, hcz⟩ := HC.out
      exact bodyPost_end (v := .tuple #[]) (results_none rfl _ _ _) rfl ⟨rfl, spoil_of_off HB.out H0.out HS.out HO.out hcs hcz⟩
set_option maxRecDepth 100000 in
set_option maxHeartbeats 1600000 in
theorem spoil23_nil (base : Nat) (w : World) :
    Calls Tryd.prog 23 #[.slice none 0 0, .int .u64 3] w fun e w' => e = .returned (.tuple #[]) ∧ Spoil base w w' := by
  go_enter Tryd.func23, Tryd.ntmps23
  go_wp2_with fail
  go_loopw [4] (fun i wr => i = .int .i64 0 ∧ wr = w) (fun i _ => 0)
  case atStart => exact ⟨rfl, rfl⟩
  case round =>
    obtain ⟨rfl, rfl⟩ := hrel
    go_wp2_with fail
    exact bodyPost_end (v := .tuple #[]) (results_none rfl _ _ _) rfl ⟨rfl, Spoil.refl _ _⟩
theorem spoil23_any (base : Nat) (w : World) (v : Value) (h : DOk base w v) :
    Calls Tryd.prog 23 #[v, .int .u64 3] w fun e w' => e = .returned (.tuple #[]) ∧ Spoil base w w' := by
  obtain ⟨n, xs, h1, h2⟩ := h
  rcases h2 with ⟨rfl, rfl⟩ | ⟨g, cap, cur, rfl, e2, e3, e4, e5, e6, e7⟩
  · exact spoil23_nil base w
  · exact spoil23_row base g n cap cur w e2 e3 e4 (by unfold maxLen at e5; omega) (by omega)

/-- matrices of the call's own, of whatever contents -/
def MsOk (base : Nat) (W : World) (v : Value) : Prop := v = .slice none 0 0 ∨ ∃ g n cap cur, v = .slice (some ⟨g, 0, none⟩) n cap ∧ base ≤ g ∧ W.heap[g]? = some (.cells cur 80 (0, 0)) ∧ n * 4 ≤ cur.size ∧ n ≤ maxLen ∧ ∀ i, i < n → ∃ u, cur[i * 4 + 3]? = some u ∧ DOk base W u
theorem Spoil.mats {base : Nat} {w w' : World} (h : Spoil base w w') {v : Value} (hm : MsOk base w v) : MsOk base w' v := by
  rcases hm with rfl | ⟨g, n, cap, cur, rfl, h1, h2, h3, h4, h5⟩
  · exact .inl rfl
  · refine .inr ⟨g, n, cap, cur, rfl, h1, h.other g cur 80 (by decide) h2, h3, h4, fun i hi => ?_⟩
    obtain ⟨u, hu, hd⟩ := h5 i hi
    exact ⟨u, hu, h.rows u hd⟩
set_option maxRecDepth 100000 in
set_option maxHeartbeats 1600000 in
theorem spoilm_row (base g n cap : Nat) (cur : Array Value) (w : World) (hb : base ≤ g) (h0 : w.heap[g]? = some (.cells cur 80 (0, 0))) (hn : n * 4 ≤ cur.size) (hcm : n ≤ 9223372036854775807) (hd : ∀ i, i < n → ∃ u, cur[i * 4 + 3]? = some u ∧ DOk base w u) :
    Calls Tryd.prog 24 #[.slice (some ⟨g, 0, none⟩) n cap] w fun e w' => e = .returned (.tuple #[]) ∧ Below base w w' := by
  have HB := Lib.hid hb
  have H0 := Lib.hid h0
  have HN := Lib.hid hn
  have HD := Lib.hid hd
  clear hb h0 hn hd
  go_enter Tryd.func24, Tryd.ntmps24
  go_wp2_with fail
  go_loopw [2] (fun i wr => ∃ q : Nat, q ≤ n ∧ i = .int .i64 q ∧ Hid (Below base w wr) ∧ Hid (∃ cs, wr.heap[g]? = some (.cells cs 80 (0, 0)) ∧ n * 4 ≤ cs.size ∧ ∀ i, i < n → ∃ u, cs[i * 4 + 3]? = some u ∧ DOk base wr u)) (fun i _ => n - (intOf i).toNat)
  case atStart => exact ⟨0, by omega, rfl, Below.refl _ _, ⟨cur, H0.out, HN.out, HD.out⟩⟩
  case round =>
    obtain ⟨q, hq, rfl, HBW, HC⟩ := hrel
    obtain ⟨wo, rfl⟩ : ∃ wo : World, wo = wr := ⟨_, rfl⟩
    by_cases hlt : q < n
    · obtain ⟨cs, hcs, hcz, hcd⟩ := HC.out
      obtain ⟨u, hu, hud⟩ := hcd q hlt
      have d0 : wo.cell? ⟨g, q * 4 + 3, none⟩ = some u := by
        rw [cell_of_row _ _ _ _ _ _ hcs]; exact hu
      obtain ⟨A, L, C, rfl⟩ : ∃ A l c, u = .slice A l c := by
        obtain ⟨_, _, _, h2⟩ := hud
        rcases h2 with ⟨rfl, _⟩ | ⟨g', cap', cur', rfl, _⟩ <;> exact ⟨_, _, _, rfl⟩
      have HCA := Lib.hid (spoil23_any base wo _ hud)
      have HCS := Lib.hid hcs
      have HCZ := Lib.hid hcz
      have HCD := Lib.hid hcd
      clear hcs hcz hcd hu hud
      go_wp2_with (go_at_call 23; refine HCA.out.mono ?_; rintro e w2 ⟨rfl, hs2⟩; have HS2 : Hid (Spoil base wo w2) := hs2; have h2 := HS2.out.other g cs 80 (by decide) HCS.out; have HG2 := Lib.hid h2; have d1 : w2.cell? ⟨g, q * 4 + 1, none⟩ = some (cs[q * 4 + 1]'(by have := HCZ.out; omega)) := ((cell_of_row _ _ _ _ _ _ h2).trans (Array.getElem?_eq_getElem _)); have u1 : ∀ j, w2.frozen? ⟨g, j, none⟩ = false := (fun j => by simp only [World.frozen?, h2]; rfl); clear hs2 h2)
      go_roundw
      case rel =>
        refine ⟨q + 1, by omega, by go_num, ?_, ?_⟩
        · exact below_set (HBW.out.trans HS2.out.below) (by have := HB.out; show _ ≤ _; omega) _
        · refine ⟨_, heap_setCell_same _ _ _ _ _ _ HG2.out, by simpa using HCZ.out, fun i hi => ?_⟩
          obtain ⟨u, hu, hud⟩ := HCD.out i hi
          refine ⟨u, by rw [Array.getElem?_setIfInBounds_ne (by omega)]; exact hu, ?_⟩
          obtain ⟨n', xs, h1, h2⟩ := HS2.out.rows u hud
          rcases h2 with h2 | ⟨g', cap', cur', e1, e2, e3, e4⟩
          · exact ⟨n', xs, h1, .inl h2⟩
          · refine ⟨n', xs, h1, .inr ⟨g', cap', cur', e1, e2, ?_, e4⟩⟩
            rw [Below.heap_setCell _ _ _ _ ?_]
            · exact e3
            · rintro rfl
              rw [HG2.out] at e3
              simp at e3
      case measure => simp [intOf]; omega
    · obtain rfl : q = n := by omega
      go_wp2_with fail
      exact bodyPost_end (v := .tuple #[]) (results_none rfl _ _ _) rfl ⟨rfl, HBW.out⟩
set_option maxRecDepth 100000 in
set_option maxHeartbeats 1600000 in
theorem spoilm_nil (base : Nat) (w : World) :
    Calls Tryd.prog 24 #[.slice none 0 0] w fun e w' => e = .returned (.tuple #[]) ∧ Below base w w' := by
  go_enter Tryd.func24, Tryd.ntmps24
  go_wp2_with fail
  go_loopw [2] (fun i wr => i = .int .i64 0 ∧ wr = w) (fun i _ => 0)
  case atStart => exact ⟨rfl, rfl⟩
  case round =>
    obtain ⟨rfl, rfl⟩ := hrel
    go_wp2_with fail
    exact bodyPost_end (v := .tuple #[]) (results_none rfl _ _ _) rfl ⟨rfl, Below.refl _ _⟩
theorem spoilm_any (base : Nat) (w : World) (v : Value) (h : MsOk base w v) :
    Calls Tryd.prog 24 #[v] w fun e w' => e = .returned (.tuple #[]) ∧ Below base w w' := by
  rcases h with rfl | ⟨g, n, cap, cur, rfl, h1, h2, h3, h4, h5⟩
  · exact spoilm_nil base w
  · exact spoilm_row base g n cap cur w h1 h2 h3 (by unfold maxLen at h4; omega) h5

end Go.Proofs.YtakdfjkkeilffaaDoor

namespace Go.Proofs.YtakdfjkkeilffaaDoor
open Go.RowKit

theorem DOk.later {base : Nat} {W W' : World} {v : Value} (h : DOk base W v) (hb : Below W.heap.size W W') : DOk base W' v := by
  obtain ⟨n, xs, h⟩ := h
  exact ⟨n, xs, ownsRow_keep h fun g _ hg => hb.block g hg⟩
theorem MsOk.later {base : Nat} {W W' : World} {v : Value} (h : MsOk base W v) (hb : Below W.heap.size W W') : MsOk base W' v := by
  rcases h with rfl | ⟨g, n, cap, cur, rfl, h1, h2, h3, h4, h5⟩
  · exact .inl rfl
  · refine .inr ⟨g, n, cap, cur, rfl, h1, keepb hb h2, h3, h4, fun i hi => ?_⟩
    obtain ⟨u, hu, hd⟩ := h5 i hi
    exact ⟨u, hu, hd.later hb⟩
theorem MRow.msOk {base : Nat} {W : World} {V : Value} {ms : List Mat} {vs : List Value} (h : MRow base W V ms vs) : MsOk base W V := by
  obtain ⟨hl, hr⟩ := h.row
  rcases hr with ⟨rfl, _⟩ | ⟨g, cap, cur, rfl, e2, e3, e4, e5, e6, e7⟩
  · exact .inl rfl
  · refine .inr ⟨g, ms.length, cap, cur, rfl, e2, e3, by omega, by omega, fun i hi => ⟨at4 vs (i * 4 + 3), ?_, ⟨_, _, (h.parts i hi).2.2.2⟩⟩⟩
    have hlt : i * 4 + 3 < vs.length := by omega
    have h1 : cur[i * 4 + 3]? = vs[i * 4 + 3]? := by
      rw [← e7, List.getElem?_take_of_lt (by omega)]; simp
    rw [h1]
    simp [at4, hlt]
theorem zero_in (w : World) : MsgIn w (.slice none 0 0) (.slice none 0 0) (.slice none 0 0) (zeroMsg 0) := by
  have hm : Mats w (.slice none 0 0) [] := ⟨by simp, by simp, none, 0, rfl, fun _ => .bool false, fun h => by simp at h, fun i h => by simp at h⟩
  have hn : ∀ k, Nums w k (.slice none 0 0) [] := fun k => ⟨by simp, none, 0, rfl, fun h => by simp at h⟩
  exact ⟨hn _, hm, hn _, by simp [zeroMsg], by simp [zeroMsg], by simp [zeroMsg, inI], by simp [zeroMsg, inI]⟩

theorem MsgOwn.forms7 {base : Nat} {W : World} {a b c : Value} {m : Msg} (h : MsgOwn base W a b c m) : ∃ A1 L1 C1 A2 L2 C2 A3 L3 C3, a = .slice A1 L1 C1 ∧ b = .slice A2 L2 C2 ∧ c = .slice A3 L3 C3 := by
  obtain ⟨A1, C1, e1⟩ := (Nums.of_row h.ws).form
  obtain ⟨A3, C3, e3⟩ := (Nums.of_row h.ds).form
  obtain ⟨vs, hv⟩ := h.ms
  obtain ⟨A2, L2, C2, e2⟩ : ∃ A l c, b = .slice A l c := by
    rcases hv.row.2 with ⟨rfl, _⟩ | ⟨g', cap', cur, rfl, _⟩ <;> exact ⟨_, _, _, rfl⟩
  exact ⟨_, _, _, _, _, _, _, _, _, e1, e2, e3⟩
/-- what Decode of a message does, error or not -/
def DecG (w : World) (M : Msg) (p q : Nat) (e : Ending) (w' : World) : Prop :=
  Below w.heap.size w w' ∧ ∃ A1 L1 C1 A2 L2 C2 A3 L3 C3, e = .returned (.tuple #[.agg (mcells M (.slice A1 L1 C1) (.slice A2 L2 C2) (.slice A3 L3 C3)), .agg #[.int .i64 p, .int .i64 q]]) ∧ MsgIn w' (.slice A1 L1 C1) (.slice A2 L2 C2) (.slice A3 L3 C3) M ∧ DOk w.heap.size w' (.slice A3 L3 C3) ∧ MsOk w.heap.size w' (.slice A2 L2 C2)
theorem dec_gen (b : ByteArray) : ∃ M p q, ∀ w e w', DecMPost w (decM b) e w' → DecG w M p q e w' := by
  cases h : decM b with
  | error ac =>
    obtain ⟨a, c⟩ := ac
    refine ⟨zeroMsg 0, a, c, ?_⟩
    rintro w e w' ⟨h1, rfl, h2⟩
    exact ⟨h1, none, 0, 0, none, 0, 0, none, 0, 0, rfl, zero_in w', ⟨0, [], World.ownsRow_nil _ _ _ _⟩, .inl rfl⟩
  | ok m =>
    obtain ⟨f1, f2, f3⟩ := decM_facts h
    refine ⟨m, 0, 0, ?_⟩
    rintro w e w' ⟨h1, a, b, c, rfl, ho⟩
    obtain ⟨A1, L1, C1, A2, L2, C2, A3, L3, C3, rfl, rfl, rfl⟩ := ho.forms7
    obtain ⟨vs, hv⟩ := ho.ms
    exact ⟨h1, _, _, _, _, _, _, _, _, _, rfl, ho.msgIn f1 f2 f3, ⟨_, _, ho.ds⟩, hv.msOk⟩

set_option maxRecDepth 100000 in
set_option maxHeartbeats 3200000 in
theorem decodes_any (b : ByteArray) (w : World) (hmo : MostAt w) (h0 : 1 < w.heap.size) :
    Calls Tryd.prog 7 #[.string b] w fun e w' => e = .returned (.bool true) ∧ Below w.heap.size w w' := by
  obtain ⟨M, p, q, hg⟩ := dec_gen b
  have HD20 : Hid (Calls Tryd.prog 20 #[.string b] w (DecG w M p q)) := (decm_any b w hmo h0).mono fun e w' h => hg w e w' h
  have HD21 : Hid (∀ W, Calls Tryd.prog 21 #[.string b] W (DecG W M p q)) := fun W => (decr_any b W).mono fun e w' h => hg W e w' h
  have HWK : Hid (∀ W, Below w.heap.size w W → Calls Tryd.prog 25 #[] W fun e w' => e = .returned (.bool true) ∧ Below W.heap.size W w') := fun W hb => works25_any W (hmo.later h0 hb) (by have := hb.size; omega)
  have HS : Hid (∀ (W : World) (a1 b1 c1 a2 b2 c2 : Value), MsgIn W a1 b1 c1 M → MsgIn W a2 b2 c2 M → Calls Tryd.prog 22 #[.agg (mcells M a1 b1 c1), .agg (mcells M a2 b2 c2)] W fun e w' => e = .returned (.bool true) ∧ Below W.heap.size W w') := fun W a1 b1 c1 a2 b2 c2 h1 h2 => by
    have := same22_any M M a1 b1 c1 a2 b2 c2 W h1 h2
    rwa [decide_eq_true (rfl : M = M)] at this
  clear hg hmo h0
  go_enter Tryd.func7, Tryd.ntmps7
  go_upto_region 2 with (go_at_call 20; refine HD20.out.mono ?_; rintro e w1 ⟨hb1, A1, L1, C1, A2, L2, C2, A3, L3, C3, rfl, hi1, hd1, hm1⟩; have HB1 := Lib.hid hb1; have HI1 := Lib.hid hi1; have HD1 : Hid (DOk w.heap.size w1 (.slice A3 L3 C3)) := hd1; have HM1 : Hid (MsOk w.heap.size w1 (.slice A2 L2 C2)) := hm1; clear hb1 hi1 hd1 hm1; unfold mcells)
  obtain ⟨W2, hW2⟩ : ∃ W2, W2 = (w1.alloc (.cells (mcells M (.slice A1 L1 C1) (.slice A2 L2 C2) (.slice A3 L3 C3)) 46)).alloc (.cells #[.int .i64 p, .int .i64 q] 31) := ⟨_, rfl⟩
  have hb2 : Below w1.heap.size w1 W2 := by rw [hW2]; exact al2' _ _ _
  obtain ⟨k1, k2⟩ := two_al w1 (mcells M (.slice A1 L1 C1) (.slice A2 L2 C2) (.slice A3 L3 C3)) #[.int .i64 p, .int .i64 q] 46 31
  rw [← hW2] at k1 k2
  have hW2' := hW2
  unfold mcells at hW2'
  rw [← hW2']
  have hs2 := hb2.size
  have HB2 := Lib.hid hb2
  have HK1 := Lib.hid k1
  have HK2 := Lib.hid k2
  clear hW2 hW2' hb2 k1 k2
  go_upto_region 3 with (go_at_call 21; refine (HD21.out W2).mono ?_; rintro e w3 ⟨hb3, A4, L4, C4, A5, L5, C5, A6, L6, C6, rfl, hi3, hd3, hm3⟩; have HB3 := Lib.hid hb3; have HI3 := Lib.hid hi3; clear hb3 hi3 hd3 hm3; unfold mcells)
  obtain ⟨W4, hW4⟩ : ∃ W4, W4 = (w3.alloc (.cells (mcells M (.slice A4 L4 C4) (.slice A5 L5 C5) (.slice A6 L6 C6)) 46)).alloc (.cells #[.int .i64 p, .int .i64 q] 31) := ⟨_, rfl⟩
  have hb4 : Below w3.heap.size w3 W4 := by rw [hW4]; exact al2' _ _ _
  obtain ⟨k1, k2⟩ := two_al w3 (mcells M (.slice A4 L4 C4) (.slice A5 L5 C5) (.slice A6 L6 C6)) #[.int .i64 p, .int .i64 q] 46 31
  rw [← hW4] at k1 k2
  have hW4' := hW4
  unfold mcells at hW4'
  rw [← hW4']
  have HB4 := Lib.hid hb4
  have HBT : Hid (Below W2.heap.size W2 W4) := below_then HB3.out hb4
  have HMX := Lib.hid (keepb HBT.out HK1.out)
  have HFX := Lib.hid (keepb HBT.out HK2.out)
  have HMY := Lib.hid k1
  have HFY := Lib.hid k2
  have HIX := Lib.hid ((HI1.out.later HB2.out).later HBT.out)
  have HIY := Lib.hid (HI3.out.later HB4.out)
  have HDX : Hid (DOk w.heap.size W4 (.slice A3 L3 C3)) := (HD1.out.later HB2.out).later HBT.out
  have HSX : Hid (MsOk w.heap.size W4 (.slice A2 L2 C2)) := (HM1.out.later HB2.out).later HBT.out
  have HBW : Hid (Below w.heap.size w W4) := below_then (below_then HB1.out HB2.out) HBT.out
  clear hW4 hW4' hb4 k1 k2
  obtain ⟨x0, x1, x2, x3, x4, x5, x6, x7, x8, x9, x10⟩ := mcells_at2 HMX.out
  obtain ⟨y0, y1, y2, y3, y4, y5, y6, y7, y8, y9, y10⟩ := mcells_at2 HMY.out
  have HSC := Lib.hid (HS.out W4 _ _ _ _ _ _ HIX.out HIY.out)
  unfold mcells at HSC
  go_wp2_with (first
    | (go_at_call 22; refine HSC.out.mono ?_; rintro e w5 ⟨rfl, hb5⟩; have HB5 := Lib.hid hb5; have hf := fault_at (keepb hb5 HFX.out); obtain ⟨f0, f1, f2⟩ := hf; have hf := fault_at (keepb hb5 HFY.out); obtain ⟨g0, g1, g2⟩ := hf; have hm := mcells_at2 (keepb hb5 HMX.out); obtain ⟨v0, v1, v2, v3, v4, v5, v6, v7, v8, v9, v10⟩ := hm; clear hb5)
    | (go_at_call 23; refine (spoil23_any w.heap.size w5 _ (HDX.out.later HB5.out)).mono ?_; rintro e w6 ⟨rfl, hs6⟩; have HS6 : Hid (Spoil w.heap.size w5 w6) := hs6; have hm := mcells_at2 (hs6.other _ _ 46 (by decide) (keepb HB5.out HMX.out)); obtain ⟨u0, u1, u2, u3, u4, u5, u6, u7, u8, u9, u10⟩ := hm; clear hs6)
    | (go_at_call 24; refine (spoilm_any w.heap.size w6 _ (HS6.out.mats (HSX.out.later HB5.out))).mono ?_; rintro e w7 ⟨rfl, hb7⟩; have HB7 : Hid (Below w.heap.size w w7) := (below_then HBW.out HB5.out).trans (HS6.out.below.trans hb7); clear hb7)
    | (go_at_call 25; refine (HWK.out _ HB7.out).mono ?_; rintro e w8 ⟨rfl, hb8⟩; have HB8 := Lib.hid (below_then HB7.out hb8); clear hb8))
  go_ret
  exact ⟨rfl, HB8.out⟩

end Go.Proofs.YtakdfjkkeilffaaDoor

