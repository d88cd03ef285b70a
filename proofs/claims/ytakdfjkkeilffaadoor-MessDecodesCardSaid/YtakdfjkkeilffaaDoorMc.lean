/- Messages in memory; fields as items. -/
import Derived.Test.YtakdfjkkeilffaaDoorMb
set_option linter.unusedVariables false
set_option linter.unusedSimpArgs false
namespace Go.Proofs.YtakdfjkkeilffaaDoor
open Go.RowKit

structure Mat where
  lv : Int
  ce : Int
  ep : Int
  d : List Nat
structure Msg where
  kind : Int
  n0 : Int
  n1 : Int
  n2 : Int
  n3 : Int
  n4 : Int
  n5 : Int
  n6 : Int
  ws : List Nat
  ms : List Mat
  ds : List Nat
/-- the number of a field -/
def Msg.num (m : Msg) (f : Nat) : Int := [m.n0, m.n1, m.n2, m.n3, m.n4, m.n5, m.n6].getD f 0
def inI (x : Int) : Prop := -9223372036854775808 ≤ x ∧ x ≤ 9223372036854775807
def toI (l : List Nat) : List Int := l.map fun n : Nat => (n : Int)

/-- matrices in memory -/
def Mats (w : World) (v : Value) (l : List Mat) : Prop :=
  l.length ≤ 9223372036854775807 ∧ (∀ y ∈ l, (inI y.lv ∧ inI y.ce ∧ inI y.ep) ∧ ∀ n ∈ y.d, n < 18446744073709551616) ∧ ∃ A c, v = .slice A l.length c ∧ ∃ F : Nat → Value, (0 < l.length → ∃ g o, A = some ⟨g, o, none⟩ ∧ ∀ i (h : i < l.length),
    w.cell? ⟨g, o + i * 4, none⟩ = some (.int .i64 l[i].lv) ∧ w.cell? ⟨g, o + i * 4 + 1, none⟩ = some (.int .i64 l[i].ce) ∧ w.cell? ⟨g, o + i * 4 + 2, none⟩ = some (.int .i64 l[i].ep) ∧ w.cell? ⟨g, o + i * 4 + 3, none⟩ = some (F i)) ∧
    ∀ i (h : i < l.length), Nums w .u64 (F i) (toI l[i].d)
theorem Mats.keep {w w' : World} {v : Value} {l : List Mat} (h : Mats w v l) (hb : ∀ a u, w.cell? a = some u → w'.cell? a = some u) : Mats w' v l := by
  obtain ⟨h1, h2, A, c, h3, F, h4, h5⟩ := h
  refine ⟨h1, h2, A, c, h3, F, fun h0 => ?_, fun i hi => (h5 i hi).keep hb⟩
  obtain ⟨g, o, e, hc⟩ := h4 h0
  exact ⟨g, o, e, fun i hi => ⟨hb _ _ (hc i hi).1, hb _ _ (hc i hi).2.1, hb _ _ (hc i hi).2.2.1, hb _ _ (hc i hi).2.2.2⟩⟩
theorem Mats.later {w w' : World} {v : Value} {l : List Mat} (h : Mats w v l) (hb : Below w.heap.size w w') : Mats w' v l := h.keep fun a u hc => (hb.cell (World.block_lt_of_cell? w _ hc)).trans hc

/-- a message's lists in memory, its numbers in their bounds -/
structure MsgIn (w : World) (a b c : Value) (m : Msg) : Prop where
  ws : Nums w .u32 a (toI m.ws)
  ms : Mats w b m.ms
  ds : Nums w .u64 c (toI m.ds)
  wl : ∀ n ∈ m.ws, n < 4294967296
  dl : ∀ n ∈ m.ds, n < 18446744073709551616
  ki : inI m.kind
  ni : inI m.n0 ∧ inI m.n1 ∧ inI m.n2 ∧ inI m.n3 ∧ inI m.n4 ∧ inI m.n5 ∧ inI m.n6
theorem MsgIn.later {w w' : World} {a b c : Value} {m : Msg} (h : MsgIn w a b c m) (hb : Below w.heap.size w w') : MsgIn w' a b c m :=
  ⟨h.ws.later hb, h.ms.later hb, h.ds.later hb, h.wl, h.dl, h.ki, h.ni⟩
/-- a message's cells -/
def mcells (m : Msg) (a b c : Value) : Array Value := #[.int .i64 m.kind, .int .i64 m.n0, .int .i64 m.n1, .int .i64 m.n2, .int .i64 m.n3, .int .i64 m.n4, .int .i64 m.n5, .int .i64 m.n6, a, b, c]
theorem Nums.form {w : World} {k : IntKind} {v : Value} {l : List Int} (h : Nums w k v l) : ∃ A c, v = .slice A l.length c := by
  obtain ⟨_, A, c, e, _⟩ := h; exact ⟨A, c, e⟩
theorem Mats.form {w : World} {v : Value} {l : List Mat} (h : Mats w v l) : ∃ A c, v = .slice A l.length c := by
  obtain ⟨_, _, A, c, e, _⟩ := h; exact ⟨A, c, e⟩

def itMat (y : Mat) : It := itList [itNum y.lv.toNat, itNum y.ce.toNat, itNum y.ep.toNat, itList (y.d.map itNum)]
/-- a field as an item -/
def fieldIt (m : Msg) (f : Nat) : It :=
  if f = 7 then itList (m.ws.map itNum) else if f = 9 then itList (m.ds.map itNum) else if f = 8 then itList (m.ms.map itMat) else itNum (m.num f).toNat

def pts (mb : Nat) : Array Value := #[.pointer (some ⟨mb, 1, none⟩), .pointer (some ⟨mb, 2, none⟩), .pointer (some ⟨mb, 3, none⟩), .pointer (some ⟨mb, 4, none⟩), .pointer (some ⟨mb, 5, none⟩), .pointer (some ⟨mb, 6, none⟩), .pointer (some ⟨mb, 7, none⟩)]
theorem u118 : Tryd.prog.underlying 118 = some (.array 7 68) := by kernel_rfl
theorem s68 : (Tryd.prog.info? 68).map (fun i => i.size) = some 1 := by kernel_rfl
theorem run_pts (mb f : Nat) (w : World) (hf : f < 7) : (Instr.index 118 (.agg (pts mb)) (.int .i64 f)).run Tryd.prog w = .ok (.pointer (some ⟨mb, f + 1, none⟩)) w := by
  have : f = 0 ∨ f = 1 ∨ f = 2 ∨ f = 3 ∨ f = 4 ∨ f = 5 ∨ f = 6 := by omega
  obtain ⟨i, hi⟩ : ∃ i, Tryd.prog.info? 68 = some i := by
    have h := s68
    cases hi : Tryd.prog.info? 68 with
    | none => rw [hi] at h; simp at h
    | some i => exact ⟨i, rfl⟩
  have hs : i.size = 1 := by have h := s68; rw [hi] at h; simpa using h
  rcases this with rfl | rfl | rfl | rfl | rfl | rfl | rfl <;> simp [Instr.index, pts, run_underlying u118, typeInfo, hi, hs, sizeOf, go_sem]

set_option maxRecDepth 100000 in
set_option maxHeartbeats 1600000 in
theorem number_any' (mb f : Nat) (w : World) (hf : f < 7) : Calls Tryd.prog 53 #[.pointer (some ⟨mb, 0, none⟩), .int .i64 f] w fun e w' => e = .returned (.pointer (some ⟨mb, f + 1, none⟩)) ∧ ∃ n, w' = w.drewN n := by
  have hp : ∀ n, (Instr.index 118 (.agg #[.pointer (some ⟨mb, 1, none⟩), .pointer (some ⟨mb, 2, none⟩), .pointer (some ⟨mb, 3, none⟩), .pointer (some ⟨mb, 4, none⟩), .pointer (some ⟨mb, 5, none⟩), .pointer (some ⟨mb, 6, none⟩), .pointer (some ⟨mb, 7, none⟩)]) (.int .i64 (f : Int))).run Tryd.prog (w.drewN n) = .ok (.pointer (some ⟨mb, f + 1, none⟩)) (w.drewN n) := fun n => run_pts mb f (w.drewN n) hf
  go_enter Tryd.func53, Tryd.ntmps53
  go_wp2_with fail
  go_quiet (fail)
  go_wp2_with fail
  go_ret
  exact ⟨rfl, _, rfl⟩

end Go.Proofs.YtakdfjkkeilffaaDoor
