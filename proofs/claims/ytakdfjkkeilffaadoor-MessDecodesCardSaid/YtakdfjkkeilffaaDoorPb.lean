/- Messages: what is written is read, what is read is written. -/
import Derived.Test.YtakdfjkkeilffaaDoorPa
import Derived.Test.YtakdfjkkeilffaaDoorO
import Derived.Test.YtakdfjkkeilffaaDoorMh
import Derived.Test.YtakdfjkkeilffaaDoorMg
import Derived.Test.YtakdfjkkeilffaaDoorNa
set_option linter.unusedVariables false
set_option linter.unusedSimpArgs false
namespace Go.Proofs.YtakdfjkkeilffaaDoor
open Go.RowKit

/-- an item as a matrix -/
def matR : It → Option Mat
  | .mk k _ _ [a, b, c, d] => if k = 3 ∧ numOk 1073741824 a = true ∧ numOk 1073741824 b = true ∧ numOk 1073741824 c = true then
      (match numsR 18446744073709551615 d with | some ds => some ⟨a.n, b.n, c.n, ds⟩ | none => none) else none
  | _ => none
def matsL : List It → Option (List Mat)
  | [] => some []
  | y :: r => match matR y with | none => none | some m => (match matsL r with | none => none | some l => some (m :: l))
def matsR (x : It) : Option (List Mat) := if x.kind = 3 then matsL x.l else none
def Msg.setNum (m : Msg) (f : Nat) (x : Int) : Msg :=
  if f = 0 then { m with n0 := x } else if f = 1 then { m with n1 := x } else if f = 2 then { m with n2 := x } else if f = 3 then { m with n3 := x } else if f = 4 then { m with n4 := x } else if f = 5 then { m with n5 := x } else { m with n6 := x }
/-- a field is read into a message -/
def setF (m : Msg) (f : Nat) (x : It) : Option Msg :=
  if f = 7 then (match numsR 4294967295 x with | none => none | some l => some { m with ws := l })
  else if f = 9 then (match numsR 18446744073709551615 x with | none => none | some l => some { m with ds := l })
  else if f = 8 then (match matsR x with | none => none | some l => some { m with ms := l })
  else if numOk (mostN f) x = true then some (m.setNum f x.n) else none
def zeroMsg (k : Int) : Msg := ⟨k, 0, 0, 0, 0, 0, 0, 0, [], [], []⟩
def readAll : Msg → List Int → List It → Option Msg
  | m, f :: fs, x :: xs => match setF m f.toNat x with | none => none | some m' => readAll m' fs xs
  | m, [], _ => some m
  | m, _ :: _, [] => some m
/-- an item as a message -/
def msgR : It → Option Msg
  | .mk k _ _ (h :: r) => if k = 3 ∧ numOk 4 h = true ∧ isKind h.n = true ∧ r.length = (flds h.n).length then readAll (zeroMsg h.n) (flds h.n) r else none
  | _ => none
/-- what Decode tells of a message -/
def decM (b : ByteArray) : Except (Nat × Nat) Msg :=
  match decR b with
  | .error e => .error e
  | .ok x => match msgR x with | none => .error (0, 200) | some m => .ok m

theorem It.eta (x : It) : x = .mk x.kind x.n x.s x.l := by cases x; rfl
theorem empty_text {s : ByteArray} (h : s.size = 0) : s = ⟨#[]⟩ := by
  cases s with | mk d => congr 1; exact Array.eq_empty_of_size_eq_zero h

theorem num_back {f g : Nat} {y : It} (hl : look f y = 0) (h : numOk g y = true) : y = itNum y.n ∧ y.n ≤ g := by
  cases f with
  | zero => simp [look] at hl
  | succ f =>
    obtain ⟨k, n, s, l⟩ := y
    unfold numOk It.kind It.n at h
    have h := of_decide_eq_true h
    obtain ⟨rfl, hn⟩ := h
    obtain ⟨_, hk, _⟩ := look_zero hl
    have : s.size = 0 ∧ l.length = 0 := by omega
    rw [empty_text this.1, List.eq_nil_of_length_eq_zero this.2]
    exact ⟨rfl, hn⟩
theorem list_back {f : Nat} {y : It} (hl : look (f + 1) y = 0) (h : y.kind = 3) : y = itList y.l ∧ y.l.length ≤ 16384 ∧ ∀ z ∈ y.l, look f z = 0 := by
  obtain ⟨k, n, s, l⟩ := y
  unfold It.kind at h
  simp only at h
  subst h
  obtain ⟨h1, hk, h3⟩ := look_zero hl
  have : n = 0 ∧ s.size = 0 := by omega
  obtain ⟨rfl, hs⟩ := this
  rw [empty_text hs]
  exact ⟨rfl, h1, h3⟩
theorem nums_back {f g : Nat} {x : It} {l : List Nat} (hl : look (f + 1) x = 0) (h : numsR g x = some l) : x = itList (l.map itNum) ∧ (∀ n ∈ l, n ≤ g) ∧ l.length ≤ 16384 := by
  unfold numsR at h
  split at h
  · rename_i hc
    obtain ⟨e, h1, h2⟩ := list_back hl hc.1
    simp only [Option.some.injEq] at h
    subst h
    have ha := List.all_eq_true.1 hc.2
    refine ⟨?_, ?_, by simpa using h1⟩
    · rw [e]
      congr 1
      show x.l = (x.l.map It.n).map itNum
      rw [List.map_map]
      conv => lhs; rw [← List.map_id x.l]
      exact List.map_congr_left fun y hy => (num_back (h2 y hy) (ha y hy)).1
    · intro n hn
      obtain ⟨y, hy, rfl⟩ := List.mem_map.1 hn
      exact (num_back (h2 y hy) (ha y hy)).2
  · cases h
theorem mat_back {f : Nat} {y : It} {m : Mat} (hl : look (f + 2) y = 0) (h : matR y = some m) : y = itMat m ∧ okMat m = true ∧ m.d.length ≤ 16384 ∧ ∀ n ∈ m.d, n < 18446744073709551616 := by
  unfold matR at h
  split at h
  · rename_i k n s a b c d
    split at h
    · rename_i hc
      obtain ⟨h3, ha, hb, hcc⟩ := hc
      obtain ⟨e, _, h2⟩ := list_back hl (show (It.mk k n s [a, b, c, d]).kind = 3 from h3)
      split at h
      · rename_i ds hd
        simp only [Option.some.injEq] at h
        subst h
        obtain ⟨ea, la⟩ := num_back (h2 a (by simp [It.l])) ha
        obtain ⟨eb, lb⟩ := num_back (h2 b (by simp [It.l])) hb
        obtain ⟨ec, lc⟩ := num_back (h2 c (by simp [It.l])) hcc
        obtain ⟨ed, ld, ll⟩ := nums_back (h2 d (by simp [It.l])) hd
        refine ⟨?_, ?_, ll, fun n hn => by have := ld n hn; omega⟩
        · rw [e]
          unfold itMat
          simp only [It.l, Int.toNat_natCast]
          rw [← ea, ← eb, ← ec, ← ed]
        · unfold okMat tick; simp; omega
      · cases h
    · cases h
  · cases h
theorem matsL_back (f : Nat) : ∀ (l : List It) (ms : List Mat), (∀ y ∈ l, look (f + 2) y = 0) → matsL l = some ms → l = ms.map itMat ∧ ∀ m ∈ ms, okMat m = true ∧ m.d.length ≤ 16384 ∧ ∀ n ∈ m.d, n < 18446744073709551616 := by
  intro l
  induction l with
  | nil => intro ms _ h; simp [matsL] at h; subst h; simp
  | cons y r ih =>
    intro ms hl h
    simp only [matsL] at h
    split at h
    · cases h
    · rename_i m hm
      split at h
      · cases h
      · rename_i l' hr
        simp only [Option.some.injEq] at h
        subst h
        obtain ⟨e, h1⟩ := mat_back (hl y (by simp)) hm
        obtain ⟨e2, h2⟩ := ih l' (fun z hz => hl z (by simp [hz])) hr
        refine ⟨by rw [e, e2]; simp, fun z hz => ?_⟩
        rcases List.mem_cons.1 hz with rfl | hz
        · exact h1
        · exact h2 z hz
theorem mats_back {f : Nat} {x : It} {ms : List Mat} (hl : look (f + 3) x = 0) (h : matsR x = some ms) : x = itList (ms.map itMat) ∧ ms.length ≤ 16384 ∧ ∀ m ∈ ms, okMat m = true ∧ m.d.length ≤ 16384 ∧ ∀ n ∈ m.d, n < 18446744073709551616 := by
  unfold matsR at h
  split at h
  · rename_i hk
    obtain ⟨e, h1, h2⟩ := list_back hl hk
    obtain ⟨e2, h3⟩ := matsL_back f _ _ h2 h
    rw [e2] at e h1
    exact ⟨e, by simpa using h1, h3⟩
  · cases h

theorem num_there (g n : Nat) (h : n ≤ g) : numOk g (itNum n) = true := by unfold numOk itNum It.kind It.n; simp [h]
theorem nums_there (g : Nat) (l : List Nat) (h : ∀ n ∈ l, n ≤ g) : numsR g (itList (l.map itNum)) = some l := by
  unfold numsR
  have e : (itList (l.map itNum)).l = l.map itNum := rfl
  rw [if_pos ⟨rfl, by rw [e, List.all_eq_true]; intro y hy; obtain ⟨n, hn, rfl⟩ := List.mem_map.1 hy; exact num_there g n (h n hn)⟩, e, List.map_map]
  have : (It.n ∘ itNum) = id := by funext n; rfl
  rw [this, List.map_id]
theorem mat_there (m : Mat) (h : okMat m = true) (hd : ∀ n ∈ m.d, n < 18446744073709551616) : matR (itMat m) = some m := by
  unfold okMat tick at h
  simp at h
  unfold itMat itList matR
  simp only
  rw [if_pos ⟨trivial, num_there _ _ (by omega), num_there _ _ (by omega), num_there _ _ (by omega)⟩]
  have := nums_there 18446744073709551615 m.d (fun n hn => by have := hd n hn; omega)
  unfold itList at this
  rw [this]
  simp only [itNum, It.n]
  rw [Int.toNat_of_nonneg (by omega), Int.toNat_of_nonneg (by omega), Int.toNat_of_nonneg (by omega)]
theorem mats_there (ms : List Mat) (h : ∀ m ∈ ms, okMat m = true ∧ ∀ n ∈ m.d, n < 18446744073709551616) : matsR (itList (ms.map itMat)) = some ms := by
  unfold matsR
  rw [if_pos (show (itList (ms.map itMat)).kind = 3 from rfl)]
  show matsL (ms.map itMat) = some ms
  induction ms with
  | nil => rfl
  | cons m r ih =>
    simp only [List.map_cons, matsL]
    rw [mat_there m (h m (by simp)).1 (h m (by simp)).2, ih fun z hz => h z (by simp [hz])]

/-- the bounds of a message's lists -/
structure Fits (m : Msg) : Prop where
  wl : ∀ n ∈ m.ws, n < 4294967296
  dl : ∀ n ∈ m.ds, n < 18446744073709551616
  ml : ∀ y ∈ m.ms, ∀ n ∈ y.d, n < 18446744073709551616

theorem setF_num (m : Msg) (f : Nat) (x : Int) (hf : f < 7) (h0 : 0 ≤ x) (h1 : x ≤ (mostN f : Int)) : setF m f (itNum x.toNat) = some (m.setNum f x) := by
  unfold setF
  rw [if_neg (by omega), if_neg (by omega), if_neg (by omega), if_pos (num_there _ _ (by omega))]
  show some (m.setNum f ((x.toNat : Nat) : Int)) = _
  rw [Int.toNat_of_nonneg h0]
theorem setF_ws (m : Msg) (l : List Nat) (h : ∀ n ∈ l, n < 4294967296) : setF m 7 (itList (l.map itNum)) = some { m with ws := l } := by
  unfold setF
  rw [if_pos rfl, nums_there _ _ (fun n hn => by have := h n hn; omega)]
theorem setF_ds (m : Msg) (l : List Nat) (h : ∀ n ∈ l, n < 18446744073709551616) : setF m 9 (itList (l.map itNum)) = some { m with ds := l } := by
  unfold setF
  rw [if_neg (by decide), if_pos rfl, nums_there _ _ (fun n hn => by have := h n hn; omega)]
theorem setF_ms (m : Msg) (l : List Mat) (h : ∀ y ∈ l, okMat y = true ∧ ∀ n ∈ y.d, n < 18446744073709551616) : setF m 8 (itList (l.map itMat)) = some { m with ms := l } := by
  unfold setF
  rw [if_neg (by decide), if_neg (by decide), if_pos rfl, mats_there _ h]

theorem msg_there (m : Msg) (hm : mayM m = true) (hf : Fits m) : msgR (msgIt m) = some m := by
  obtain ⟨k, p0, p1, p2, p3, p4, p5, p6, ws, ms, ds⟩ := m
  unfold mayM at hm
  simp only [Bool.and_eq_true, List.all_eq_true, List.mem_range] at hm
  obtain ⟨⟨⟨hk, hn⟩, hms⟩, ⟨hl7, hl8⟩, hl9⟩ := hm
  have h0 := hn 0 (by decide)
  have h1 := hn 1 (by decide)
  have h2 := hn 2 (by decide)
  have h3 := hn 3 (by decide)
  have h4 := hn 4 (by decide)
  have h5 := hn 5 (by decide)
  have h6 := hn 6 (by decide)
  clear hn
  have hms2 : ∀ y ∈ ms, okMat y = true ∧ ∀ n ∈ y.d, n < 18446744073709551616 := fun y hy => ⟨hms y hy, hf.ml y hy⟩
  have hwl := hf.wl
  have hdl := hf.dl
  simp only at hwl hdl
  unfold okF at h0 h1 h2 h3 h4 h5 h6
  unfold okL at hl7 hl8 hl9
  simp only [Msg.num, Bool.and_eq_true, decide_eq_true_eq, Bool.or_eq_true, List.getD_cons_zero, List.getD_cons_succ] at h0 h1 h2 h3 h4 h5 h6 hl7 hl8 hl9
  have s0 := fun M => setF_num M 0 p0 (by decide) h0.1.1 h0.1.2
  have s1 := fun M => setF_num M 1 p1 (by decide) h1.1.1 h1.1.2
  have s2 := fun M => setF_num M 2 p2 (by decide) h2.1.1 h2.1.2
  have s3 := fun M => setF_num M 3 p3 (by decide) h3.1.1 h3.1.2
  have s4 := fun M => setF_num M 4 p4 (by decide) h4.1.1 h4.1.2
  have s5 := fun M => setF_num M 5 p5 (by decide) h5.1.1 h5.1.2
  have s6 := fun M => setF_num M 6 p6 (by decide) h6.1.1 h6.1.2
  have s7 := fun M => setF_ws M ws hwl
  have s8 := fun M => setF_ms M ms hms2
  have s9 := fun M => setF_ds M ds hdl
  unfold isKind at hk
  have hk : 1 ≤ k ∧ k ≤ 4 := of_decide_eq_true hk
  have hkk : k = 1 ∨ k = 2 ∨ k = 3 ∨ k = 4 := by omega
  have hz : ∀ {α : Type} (l : List α), l.length = 0 → l = [] := fun l h => List.eq_nil_of_length_eq_zero h
  rcases hkk with rfl | rfl | rfl | rfl
  · obtain rfl := h3.2.resolve_right (by decide)
    obtain rfl := h4.2.resolve_right (by decide)
    obtain rfl := h5.2.resolve_right (by decide)
    obtain rfl := h6.2.resolve_right (by decide)
    obtain rfl := hz _ (hl9.resolve_right (by decide))
    have e : msgIt ⟨1, p0, p1, p2, 0, 0, 0, 0, ws, ms, []⟩ = .mk 3 0 ⟨#[]⟩ (itNum 1 :: [itNum p0.toNat, itNum p1.toNat, itNum p2.toNat, itList (ws.map itNum), itList (ms.map itMat)]) := rfl
    rw [e]
    unfold msgR
    dsimp only
    rw [if_pos ⟨rfl, num_there 4 1 (by decide), rfl, rfl⟩]
    rw [show flds (itNum 1).n = [0, 1, 2, 7, 8] from rfl]
    simp only [readAll, Int.reduceToNat, s0, s1, s2, s7, s8]
    rfl
  · obtain rfl := h3.2.resolve_right (by decide)
    obtain rfl := h4.2.resolve_right (by decide)
    obtain rfl := h5.2.resolve_right (by decide)
    obtain rfl := h6.2.resolve_right (by decide)
    obtain rfl := hz _ (hl7.resolve_right (by decide))
    obtain rfl := hz _ (hl8.resolve_right (by decide))
    have e : msgIt ⟨2, p0, p1, p2, 0, 0, 0, 0, [], [], ds⟩ = .mk 3 0 ⟨#[]⟩ (itNum 2 :: [itNum p0.toNat, itNum p1.toNat, itNum p2.toNat, itList (ds.map itNum)]) := rfl
    rw [e]
    unfold msgR
    dsimp only
    rw [if_pos ⟨rfl, num_there 4 2 (by decide), rfl, rfl⟩]
    rw [show flds (itNum 2).n = [0, 1, 2, 9] from rfl]
    simp only [readAll, Int.reduceToNat, s0, s1, s2, s9]
    rfl
  · obtain rfl := h1.2.resolve_right (by decide)
    obtain rfl := h2.2.resolve_right (by decide)
    obtain rfl := hz _ (hl9.resolve_right (by decide))
    obtain rfl := hz _ (hl8.resolve_right (by decide))
    have e : msgIt ⟨3, p0, 0, 0, p3, p4, p5, p6, ws, [], []⟩ = .mk 3 0 ⟨#[]⟩ (itNum 3 :: [itNum p3.toNat, itNum p0.toNat, itNum p4.toNat, itNum p5.toNat, itNum p6.toNat, itList (ws.map itNum)]) := rfl
    rw [e]
    unfold msgR
    dsimp only
    rw [if_pos ⟨rfl, num_there 4 3 (by decide), rfl, rfl⟩]
    rw [show flds (itNum 3).n = [3, 0, 4, 5, 6, 7] from rfl]
    simp only [readAll, Int.reduceToNat, s0, s3, s4, s5, s6, s7]
    rfl
  · obtain rfl := h1.2.resolve_right (by decide)
    obtain rfl := h2.2.resolve_right (by decide)
    obtain rfl := h4.2.resolve_right (by decide)
    obtain rfl := h5.2.resolve_right (by decide)
    obtain rfl := hz _ (hl7.resolve_right (by decide))
    obtain rfl := hz _ (hl8.resolve_right (by decide))
    have e : msgIt ⟨4, p0, 0, 0, p3, 0, 0, p6, [], [], ds⟩ = .mk 3 0 ⟨#[]⟩ (itNum 4 :: [itNum p3.toNat, itNum p0.toNat, itNum p6.toNat, itList (ds.map itNum)]) := rfl
    rw [e]
    unfold msgR
    dsimp only
    rw [if_pos ⟨rfl, num_there 4 4 (by decide), rfl, rfl⟩]
    rw [show flds (itNum 4).n = [3, 0, 6, 9] from rfl]
    simp only [readAll, Int.reduceToNat, s0, s3, s6, s9]
    rfl

/-- a field that was read -/
theorem setF_num_back {m m' : Msg} {f F : Nat} {x : It} (hl : look F x = 0) (hf : f < 7) (h : setF m f x = some m') : ∃ n : Nat, x = itNum n ∧ n ≤ mostN f ∧ m' = m.setNum f n := by
  unfold setF at h
  rw [if_neg (by omega), if_neg (by omega), if_neg (by omega)] at h
  split at h
  · rename_i hn
    simp only [Option.some.injEq] at h
    obtain ⟨e, hle⟩ := num_back hl hn
    exact ⟨x.n, e, hle, h.symm⟩
  · cases h
theorem setF_ws_back {m m' : Msg} {F : Nat} {x : It} (hl : look (F + 1) x = 0) (h : setF m 7 x = some m') : ∃ l, x = itList (l.map itNum) ∧ (∀ n ∈ l, n ≤ 4294967295) ∧ l.length ≤ 16384 ∧ m' = { m with ws := l } := by
  unfold setF at h
  rw [if_pos rfl] at h
  split at h
  · cases h
  · rename_i l hn
    simp only [Option.some.injEq] at h
    obtain ⟨h1, h2, h3⟩ := nums_back hl hn
    exact ⟨l, h1, h2, h3, h.symm⟩
theorem setF_ds_back {m m' : Msg} {F : Nat} {x : It} (hl : look (F + 1) x = 0) (h : setF m 9 x = some m') : ∃ l, x = itList (l.map itNum) ∧ (∀ n ∈ l, n ≤ 18446744073709551615) ∧ l.length ≤ 16384 ∧ m' = { m with ds := l } := by
  unfold setF at h
  rw [if_neg (by decide), if_pos rfl] at h
  split at h
  · cases h
  · rename_i l hn
    simp only [Option.some.injEq] at h
    obtain ⟨h1, h2, h3⟩ := nums_back hl hn
    exact ⟨l, h1, h2, h3, h.symm⟩
theorem setF_ms_back {m m' : Msg} {F : Nat} {x : It} (hl : look (F + 3) x = 0) (h : setF m 8 x = some m') : ∃ l : List Mat, x = itList (l.map itMat) ∧ l.length ≤ 16384 ∧ (∀ y ∈ l, okMat y = true ∧ y.d.length ≤ 16384 ∧ ∀ n ∈ y.d, n < 18446744073709551616) ∧ m' = { m with ms := l } := by
  unfold setF at h
  rw [if_neg (by decide), if_neg (by decide), if_pos rfl] at h
  split at h
  · cases h
  · rename_i l hn
    simp only [Option.some.injEq] at h
    obtain ⟨h1, h2, h3⟩ := mats_back hl hn
    exact ⟨l, h1, h2, h3, h.symm⟩
theorem readAll_cons {m m' : Msg} {f : Int} {fs : List Int} {x : It} {xs : List It} (h : readAll m (f :: fs) (x :: xs) = some m') : ∃ m1, setF m f.toNat x = some m1 ∧ readAll m1 fs xs = some m' := by
  simp only [readAll] at h
  split at h
  · cases h
  · rename_i m1 h1
    exact ⟨m1, h1, h⟩

theorem msg_back {x : It} {m : Msg} (hl : look 8 x = 0) (h : msgR x = some m) : x = msgIt m ∧ mayM m = true ∧ longM m = false ∧ Fits m := by
  unfold msgR at h
  split at h
  · rename_i k n s hd r
    split at h
    · rename_i hc
      obtain ⟨hk, hh, hik, hlen⟩ := hc
      obtain ⟨e, h1, h2⟩ := list_back (f := 7) hl (show (It.mk k n s (hd :: r)).kind = 3 from hk)
      rw [e]
      simp only [It.l] at h2 ⊢
      obtain ⟨e1, h3⟩ := num_back (h2 hd (by simp)) hh
      have h2r : ∀ z ∈ r, look 7 z = 0 := fun z hz => h2 z (by simp [hz])
      clear e h1 h2
      generalize hd.n = kn at *
      subst e1
      unfold isKind at hik
      have hik := of_decide_eq_true hik
      have hkk : kn = 1 ∨ kn = 2 ∨ kn = 3 ∨ kn = 4 := by omega
      rcases hkk with rfl | rfl | rfl | rfl
      · match r, hlen with
        | [x0, x1, x2, x3, x4], _ =>
          have h := (show readAll (zeroMsg 1) [0, 1, 2, 7, 8] [x0, x1, x2, x3, x4] = some m from h)
          obtain ⟨m0, g0, h⟩ := readAll_cons h
          obtain ⟨m1, g1, h⟩ := readAll_cons h
          obtain ⟨m2, g2, h⟩ := readAll_cons h
          obtain ⟨m3, g3, h⟩ := readAll_cons h
          obtain ⟨m4, g4, h⟩ := readAll_cons h
          obtain ⟨a0, rfl, b0, rfl⟩ := setF_num_back (f := 0) (h2r _ (by simp)) (by decide) g0
          obtain ⟨a1, rfl, b1, rfl⟩ := setF_num_back (f := 1) (h2r _ (by simp)) (by decide) g1
          obtain ⟨a2, rfl, b2, rfl⟩ := setF_num_back (f := 2) (h2r _ (by simp)) (by decide) g2
          obtain ⟨ws, rfl, bw, cw, rfl⟩ := setF_ws_back (h2r _ (by simp)) g3
          obtain ⟨ms, rfl, cm, bm, rfl⟩ := setF_ms_back (F := 4) (h2r _ (by simp)) g4
          have h : (⟨1, a0, a1, a2, 0, 0, 0, 0, ws, ms, []⟩ : Msg) = m := Option.some.inj h
          subst h
          have b0 : a0 ≤ 1073741824 := b0
          have b1 : a1 ≤ 1073741824 := b1
          have b2 : a2 ≤ 1073741824 := b2
          refine ⟨rfl, ?_, ?_, fun n hn => by have := bw n hn; omega, fun n hn => by simp at hn, fun y hy => (bm y hy).2.2⟩
          · unfold mayM
            simp only [Bool.and_eq_true, List.all_eq_true, List.mem_range]
            refine ⟨⟨⟨rfl, fun i hi => ?_⟩, fun y hy => (bm y hy).1⟩, ⟨by simp [okL, flds], by simp [okL, flds]⟩, by simp [okL, flds]⟩
            have hi7 : i = 0 ∨ i = 1 ∨ i = 2 ∨ i = 3 ∨ i = 4 ∨ i = 5 ∨ i = 6 := by omega
            rcases hi7 with rfl | rfl | rfl | rfl | rfl | rfl | rfl <;> simp [okF, Msg.num, flds, mostN] <;> omega
          · unfold longM
            simp only [Bool.or_eq_false_iff, decide_eq_false_iff_not, List.any_eq_false, longMat, decide_eq_true_eq]
            refine ⟨⟨⟨by simp <;> omega, by simp <;> omega⟩, by simp <;> omega⟩, fun y hy => by have := (bm y hy).2.1; omega⟩
      · match r, hlen with
        | [x0, x1, x2, x3], _ =>
          have h := (show readAll (zeroMsg 2) [0, 1, 2, 9] [x0, x1, x2, x3] = some m from h)
          obtain ⟨m0, g0, h⟩ := readAll_cons h
          obtain ⟨m1, g1, h⟩ := readAll_cons h
          obtain ⟨m2, g2, h⟩ := readAll_cons h
          obtain ⟨m3, g3, h⟩ := readAll_cons h
          obtain ⟨a0, rfl, b0, rfl⟩ := setF_num_back (f := 0) (h2r _ (by simp)) (by decide) g0
          obtain ⟨a1, rfl, b1, rfl⟩ := setF_num_back (f := 1) (h2r _ (by simp)) (by decide) g1
          obtain ⟨a2, rfl, b2, rfl⟩ := setF_num_back (f := 2) (h2r _ (by simp)) (by decide) g2
          obtain ⟨ds, rfl, bd, cd, rfl⟩ := setF_ds_back (h2r _ (by simp)) g3
          have h : (⟨2, a0, a1, a2, 0, 0, 0, 0, [], [], ds⟩ : Msg) = m := Option.some.inj h
          subst h
          have b0 : a0 ≤ 1073741824 := b0
          have b1 : a1 ≤ 1073741824 := b1
          have b2 : a2 ≤ 1073741824 := b2
          refine ⟨rfl, ?_, ?_, fun n hn => by simp at hn, fun n hn => by have := bd n hn; omega, fun y hy => by simp at hy⟩
          · unfold mayM
            simp only [Bool.and_eq_true, List.all_eq_true, List.mem_range]
            refine ⟨⟨⟨rfl, fun i hi => ?_⟩, fun y hy => by simp at hy⟩, ⟨by simp [okL, flds], by simp [okL, flds]⟩, by simp [okL, flds]⟩
            have hi7 : i = 0 ∨ i = 1 ∨ i = 2 ∨ i = 3 ∨ i = 4 ∨ i = 5 ∨ i = 6 := by omega
            rcases hi7 with rfl | rfl | rfl | rfl | rfl | rfl | rfl <;> simp [okF, Msg.num, flds, mostN] <;> omega
          · unfold longM
            simp only [Bool.or_eq_false_iff, decide_eq_false_iff_not, List.any_eq_false, longMat, decide_eq_true_eq]
            refine ⟨⟨⟨by simp <;> omega, by simp <;> omega⟩, by simp <;> omega⟩, fun y hy => by simp at hy⟩
      · match r, hlen with
        | [x0, x1, x2, x3, x4, x5], _ =>
          have h := (show readAll (zeroMsg 3) [3, 0, 4, 5, 6, 7] [x0, x1, x2, x3, x4, x5] = some m from h)
          obtain ⟨m0, g0, h⟩ := readAll_cons h
          obtain ⟨m1, g1, h⟩ := readAll_cons h
          obtain ⟨m2, g2, h⟩ := readAll_cons h
          obtain ⟨m3, g3, h⟩ := readAll_cons h
          obtain ⟨m4, g4, h⟩ := readAll_cons h
          obtain ⟨m5, g5, h⟩ := readAll_cons h
          obtain ⟨a3, rfl, b3, rfl⟩ := setF_num_back (f := 3) (h2r _ (by simp)) (by decide) g0
          obtain ⟨a0, rfl, b0, rfl⟩ := setF_num_back (f := 0) (h2r _ (by simp)) (by decide) g1
          obtain ⟨a4, rfl, b4, rfl⟩ := setF_num_back (f := 4) (h2r _ (by simp)) (by decide) g2
          obtain ⟨a5, rfl, b5, rfl⟩ := setF_num_back (f := 5) (h2r _ (by simp)) (by decide) g3
          obtain ⟨a6, rfl, b6, rfl⟩ := setF_num_back (f := 6) (h2r _ (by simp)) (by decide) g4
          obtain ⟨ws, rfl, bw, cw, rfl⟩ := setF_ws_back (h2r _ (by simp)) g5
          have h : (⟨3, a0, 0, 0, a3, a4, a5, a6, ws, [], []⟩ : Msg) = m := Option.some.inj h
          subst h
          have b3 : a3 ≤ 1073741824 := b3
          have b0 : a0 ≤ 1073741824 := b0
          have b4 : a4 ≤ 1073741824 := b4
          have b5 : a5 ≤ 1073741824 := b5
          have b6 : a6 ≤ 1 := b6
          refine ⟨rfl, ?_, ?_, fun n hn => by have := bw n hn; omega, fun n hn => by simp at hn, fun y hy => by simp at hy⟩
          · unfold mayM
            simp only [Bool.and_eq_true, List.all_eq_true, List.mem_range]
            refine ⟨⟨⟨rfl, fun i hi => ?_⟩, fun y hy => by simp at hy⟩, ⟨by simp [okL, flds], by simp [okL, flds]⟩, by simp [okL, flds]⟩
            have hi7 : i = 0 ∨ i = 1 ∨ i = 2 ∨ i = 3 ∨ i = 4 ∨ i = 5 ∨ i = 6 := by omega
            rcases hi7 with rfl | rfl | rfl | rfl | rfl | rfl | rfl <;> simp [okF, Msg.num, flds, mostN] <;> omega
          · unfold longM
            simp only [Bool.or_eq_false_iff, decide_eq_false_iff_not, List.any_eq_false, longMat, decide_eq_true_eq]
            refine ⟨⟨⟨by simp <;> omega, by simp <;> omega⟩, by simp <;> omega⟩, fun y hy => by simp at hy⟩
      · match r, hlen with
        | [x0, x1, x2, x3], _ =>
          have h := (show readAll (zeroMsg 4) [3, 0, 6, 9] [x0, x1, x2, x3] = some m from h)
          obtain ⟨m0, g0, h⟩ := readAll_cons h
          obtain ⟨m1, g1, h⟩ := readAll_cons h
          obtain ⟨m2, g2, h⟩ := readAll_cons h
          obtain ⟨m3, g3, h⟩ := readAll_cons h
          obtain ⟨a3, rfl, b3, rfl⟩ := setF_num_back (f := 3) (h2r _ (by simp)) (by decide) g0
          obtain ⟨a0, rfl, b0, rfl⟩ := setF_num_back (f := 0) (h2r _ (by simp)) (by decide) g1
          obtain ⟨a6, rfl, b6, rfl⟩ := setF_num_back (f := 6) (h2r _ (by simp)) (by decide) g2
          obtain ⟨ds, rfl, bd, cd, rfl⟩ := setF_ds_back (h2r _ (by simp)) g3
          have h : (⟨4, a0, 0, 0, a3, 0, 0, a6, [], [], ds⟩ : Msg) = m := Option.some.inj h
          subst h
          have b3 : a3 ≤ 1073741824 := b3
          have b0 : a0 ≤ 1073741824 := b0
          have b6 : a6 ≤ 1 := b6
          refine ⟨rfl, ?_, ?_, fun n hn => by simp at hn, fun n hn => by have := bd n hn; omega, fun y hy => by simp at hy⟩
          · unfold mayM
            simp only [Bool.and_eq_true, List.all_eq_true, List.mem_range]
            refine ⟨⟨⟨rfl, fun i hi => ?_⟩, fun y hy => by simp at hy⟩, ⟨by simp [okL, flds], by simp [okL, flds]⟩, by simp [okL, flds]⟩
            have hi7 : i = 0 ∨ i = 1 ∨ i = 2 ∨ i = 3 ∨ i = 4 ∨ i = 5 ∨ i = 6 := by omega
            rcases hi7 with rfl | rfl | rfl | rfl | rfl | rfl | rfl <;> simp [okF, Msg.num, flds, mostN] <;> omega
          · unfold longM
            simp only [Bool.or_eq_false_iff, decide_eq_false_iff_not, List.any_eq_false, longMat, decide_eq_true_eq]
            refine ⟨⟨⟨by simp <;> omega, by simp <;> omega⟩, by simp <;> omega⟩, fun y hy => by simp at hy⟩
    · cases h
  · cases h

theorem dec_back {b : ByteArray} {x : It} (h : decR b = .ok x) : look 8 x = 0 ∧ small 8 x ∧ encR x = (b, 0) := by
  unfold decR at h
  split at h
  · cases h
  · rename_i hb
    split at h
    · cases h
    · rename_i y q hp
      split at h
      · cases h
      · rename_i hq
        simp only [Except.ok.injEq] at h
        subst h
        obtain ⟨h1, h2, h3⟩ := ps_back 8 b (by omega) 0 y q hp
        have e0 : rest b 0 = b.data.toList := by simp [rest]
        have e1 : rest b q = [] := by
          unfold rest
          refine List.drop_eq_nil_of_le ?_
          have : b.size = b.data.toList.length := by simp
          omega
        rw [e0, e1, List.append_nil] at h3
        have hl : (enc 8 y).length = b.size := by
          have := congrArg List.length h3
          rw [bl_length] at this
          rw [← this]; simp
        refine ⟨h1, h2, ?_⟩
        unfold encR
        rw [if_neg (by rw [h1]; decide), if_neg (by omega)]
        congr 1
        show (⟨(bl (enc 8 y)).toArray⟩ : ByteArray) = b
        rw [← h3]
theorem enc_there {x : It} {s : ByteArray} (hs : short 8 x) (hm : small 8 x) (h : encR x = (s, 0)) : look 8 x = 0 ∧ s.data.toList = bl (enc 8 x) ∧ s.size ≤ 262144 ∧ ∀ (b : ByteArray) (t : List UInt8), b.data.toList = s.data.toList ++ t → ps 8 b 0 = .ok (x, s.size) := by
  unfold encR at h
  split at h
  · rename_i hl
    simp only [Prod.mk.injEq] at h
    exact absurd h.2 hl
  · rename_i hl
    have hl := Classical.not_not.1 hl
    split at h
    · simp at h
    · rename_i hn
      simp only [Prod.mk.injEq, and_true] at h
      subst h
      have e : (ofN (enc 8 x)).data.toList = bl (enc 8 x) := rfl
      have e2 : (ofN (enc 8 x)).size = (enc 8 x).length := by show ((enc 8 x).map UInt8.ofNat).toArray.size = _; simp
      refine ⟨hl, e, by omega, fun b t hb => ?_⟩
      have := ps_enc 8 b x 0 t hl hs hm (by unfold rest; rw [List.drop_zero, hb, e])
      rw [this, e2, Nat.zero_add]
theorem dec_there {x : It} {s : ByteArray} (hs : short 8 x) (hm : small 8 x) (h : encR x = (s, 0)) : decR s = .ok x := by
  obtain ⟨_, _, h3, h4⟩ := enc_there hs hm h
  unfold decR
  rw [if_neg (by omega), h4 s [] (by simp)]
  simp

theorem small_num (f n : Nat) (h : n < 18446744073709551616) : small f (itNum n) := by
  cases f with
  | zero => trivial
  | succ f => exact ⟨h, fun y hy => absurd hy (by simp [itNum])⟩
theorem small_list (f : Nat) (l : List It) (h : ∀ y ∈ l, small f y) : small (f + 1) (itList l) := ⟨by decide, h⟩
theorem small_nums (f : Nat) (l : List Nat) (h : ∀ n ∈ l, n < 18446744073709551616) : small f (itList (l.map itNum)) := by
  cases f with
  | zero => trivial
  | succ f => exact small_list f _ fun y hy => by obtain ⟨n, hn, rfl⟩ := List.mem_map.1 hy; exact small_num f n (h n hn)
theorem small_mat (f : Nat) (y : Mat) (h : okMat y = true) (hd : ∀ n ∈ y.d, n < 18446744073709551616) : small f (itMat y) := by
  unfold okMat tick at h
  simp at h
  cases f with
  | zero => trivial
  | succ f =>
    refine small_list f _ fun z hz => ?_
    simp at hz
    rcases hz with rfl | rfl | rfl | rfl
    · exact small_num _ _ (by omega)
    · exact small_num _ _ (by omega)
    · exact small_num _ _ (by omega)
    · exact small_nums _ _ hd
theorem small_field (f : Nat) (m : Msg) (i : Nat) (hm : mayM m = true) (hf : Fits m) : small f (fieldIt m i) := by
  unfold mayM at hm
  simp only [Bool.and_eq_true, List.all_eq_true, List.mem_range] at hm
  obtain ⟨⟨⟨hk, hn⟩, hms⟩, _⟩ := hm
  unfold fieldIt
  split
  · exact small_nums _ _ fun n hn => by have := hf.wl n hn; omega
  · split
    · exact small_nums _ _ hf.dl
    · split
      · cases f with
        | zero => trivial
        | succ f =>
          refine small_list f _ fun z hz => ?_
          obtain ⟨y, hy, rfl⟩ := List.mem_map.1 hz
          exact small_mat f y (hms y hy) (hf.ml y hy)
      · refine small_num _ _ ?_
        by_cases h7 : i < 7
        · have := hn i h7
          unfold okF mostN at this
          simp at this
          split at this <;> omega
        · have : m.num i = 0 := by unfold Msg.num; rw [List.getD_eq_getElem?_getD, List.getElem?_eq_none (by simp; omega)]; rfl
          rw [this]; decide
theorem small_msg (m : Msg) (hm : mayM m = true) (hf : Fits m) : small 8 (msgIt m) := by
  refine small_list 7 _ fun y hy => ?_
  simp at hy
  rcases hy with rfl | ⟨f, _, rfl⟩
  · unfold mayM isKind at hm
    simp at hm
    exact small_num _ _ (by omega)
  · exact small_field _ _ _ hm hf

/-- what is written of a message -/
theorem encM_there {m : Msg} {s : ByteArray} (hf : Fits m) (h : encM m = (s, 0)) : mayM m = true ∧ longM m = false ∧ encR (msgIt m) = (s, 0) := by
  unfold encM at h
  split at h
  · simp at h
  · rename_i hl
    split at h
    · rename_i hm; exact ⟨hm, by simpa using hl, h⟩
    · simp at h
/-- there and back -/
theorem msg_round {m : Msg} {s : ByteArray} (hf : Fits m) (h : encM m = (s, 0)) : decR s = .ok (msgIt m) ∧ decM s = .ok m := by
  obtain ⟨h1, h2, h3⟩ := encM_there hf h
  have e := dec_there (short_msg m) (small_msg m h1 hf) h3
  refine ⟨e, ?_⟩
  unfold decM
  rw [e]
  simp only
  rw [msg_there m h1 hf]
/-- back and there -/
theorem msg_again {b : ByteArray} {m : Msg} (h : decM b = .ok m) : encM m = (b, 0) ∧ 1 ≤ m.kind := by
  unfold decM at h
  split at h
  · cases h
  · rename_i x hx
    split at h
    · cases h
    · rename_i m' hm
      simp only [Except.ok.injEq] at h
      subst h
      obtain ⟨h1, h2, h3⟩ := dec_back hx
      obtain ⟨rfl, h4, h5, h6⟩ := msg_back h1 hm
      refine ⟨?_, (may_facts h5 h4).2.2.2.2.2.2.1⟩
      unfold encM
      rw [if_neg (by rw [h5]; decide), if_pos h4, h3]
/-- unlike messages -/
theorem msg_unlike {a b : Msg} {s t : ByteArray} (ha : Fits a) (hb : Fits b) (h1 : encM a = (s, 0)) (h2 : encM b = (t, 0)) (r : List UInt8) (h : t.data.toList = s.data.toList ++ r) : a = b := by
  obtain ⟨a1, a2, a3⟩ := encM_there ha h1
  obtain ⟨b1, b2, b3⟩ := encM_there hb h2
  obtain ⟨_, _, _, k1⟩ := enc_there (short_msg a) (small_msg a a1 ha) a3
  obtain ⟨_, _, _, k2⟩ := enc_there (short_msg b) (small_msg b b1 hb) b3
  have e1 := k1 t r h
  have e2 := k2 t [] (by simp)
  rw [e1] at e2
  simp only [Except.ok.injEq, Prod.mk.injEq] at e2
  have e3 := msg_there a a1 ha
  rw [e2.1, msg_there b b1 hb] at e3
  exact (Option.some.inj e3).symm

end Go.Proofs.YtakdfjkkeilffaaDoor
