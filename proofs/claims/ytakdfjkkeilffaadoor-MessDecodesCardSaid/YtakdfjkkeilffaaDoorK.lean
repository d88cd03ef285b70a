/- The table of the sum's remainders, from a row's condition. -/
import Derived.Test.YtakdfjkkeilffaaDoorA
import Derived.Lib.LaidTab
import Derived.ProofKit
import Derived.LaidLaws
namespace Go.Proofs.YtakdfjkkeilffaaDoor
open Go.ChangeShapes Go.WideShapes Go.ChangeAt Go.RowKit

theorem own : ownKnob Tryd.prog.godebug = none := by kernel_rfl
theorem q_glob : Tryd.prog.globalNamed "flyover/code.quarters" = some 0 := by kernel_rfl
theorem q_type : (Tryd.prog.globals[0]?).map (·.type) = some 63 := by kernel_rfl
theorem q_arr : Tryd.prog.underlying 63 = some (.array 16 24) := by kernel_rfl
theorem q_elem : Tryd.prog.underlying 24 = some (.int .u32) := by kernel_rfl
theorem q_c24 : Tryd.prog.cellsOf 24 = 1 := by kernel_rfl
theorem q_c63 : Tryd.prog.cellsOf 63 = 16 := by kernel_rfl
abbrev qLaid : List (String × DataW Unit) := [("flyover/code.quarters", Rows.laid_flyover_code_quarters)]

theorem quarters_of_laid {W : World} (h : laidMet Tryd.prog qLaid W) : Quarters W := by
  have e : qLaid = [("flyover/code.quarters", Lib.tabData .u32 (qt.map fun n => ((n : Nat) : Int)))] := rfl
  rw [e] at h
  have ht := Lib.tabIs_of_head q_glob q_type q_arr q_elem q_c24 q_c63 h
  intro i hi
  have := ht.cell q_glob i (by simpa [qt] using hi)
  rw [this]
  congr 2
  rw [List.getD_eq_getElem?_getD, List.getD_eq_getElem?_getD, List.getElem?_map, List.getElem?_eq_getElem (by simpa [qt] using hi)]
  rfl

/-- a world in which the table lies -/
noncomputable def laidWorld (os : Os) : World :=
  let w0 := World.holding Tryd.prog os ⟨#[], #[], []⟩
  { w0 with heap := w0.heap.modify 0 fun
      | .cells _ t frozen => .cells (qt.map fun n => Value.int .u32 ((n : Nat) : Int)).toArray t frozen
      | o => o }
theorem laid_met (os : Os) (args : Array Value) : laidMet Tryd.prog qLaid ((laidWorld os).forCall (fun _ _ => 0) ⟨#[], args, []⟩).memory :=
  laidMet_of_run (ps := (List.range 16).map fun i => .cell 0 i) 8 (by kernel_rfl) (by kernel_rfl) (by kernel_rfl)

theorem head_of_quarters {W : World} (h : Quarters W) : 0 < W.heap.size := World.block_lt_of_cell? W _ (h 0 (by omega))
end Go.Proofs.YtakdfjkkeilffaaDoor
