/- the tables that the rows list: what their list gives, and a world that meets it. -/
import Derived.Test.YtloilknkhloegaaDoorTellArgs
import Derived.Test.YtloilknkhloegaaDoorRows
set_option linter.unusedSimpArgs false
set_option linter.unusedVariables false
namespace Go.Proofs.YtloilknkhloegaaDoor
open Go.ChangeShapes Go.RowKit Go.Joins

theorem gTab : Tryd.prog.globalNamed "internal/strconv.uint64pow10" = some 0 := by kernel_rfl
theorem gTabType : (Tryd.prog.globals[0]?).map (·.type) = some 130 := by kernel_rfl
theorem cells20 : Tryd.prog.cellsOf 130 = 20 := by kernel_rfl
theorem cellsU64 : Tryd.prog.cellsOf 91 = 1 := by kernel_rfl
theorem pow_datum : (Rows.laid_internal_strconv_uint64pow10 : DataW Unit) = Lib.tabData .u64 Lib.pow10Tab := by kernel_rfl
theorem tab_ok {W : World} {x y : String × DataW Unit} {r : List (String × DataW Unit)} (h : laidMet Tryd.prog (x :: y :: ("internal/strconv.uint64pow10", Rows.laid_internal_strconv_uint64pow10) :: r) W) : TabOk W := by
  have h3 := h.tail.tail
  rw [pow_datum] at h3
  exact Lib.tabBelow_of_tabIs (Lib.tabIs_of_head gTab gTabType Tryd.underlying130 Tryd.underlying91 cellsU64 cells20 h3)

/-- the cells of a table's datum. -/
def litCells : DataW Unit → Array Value
  | .agg l => (l.map fun
    | .lit (.int k z) => Value.int k z
    | _ => undef).toArray
  | _ => #[]
def layCells (cs : Array Value) : Obj → Obj
  | .cells _ t frozen => .cells cs t frozen
  | o => o
/-- A world for the witness: the settled one, the tables holding what their initialisers lay. -/
noncomputable def laidWorld (os : Os) : World :=
  { World.holding Tryd.prog os ⟨#[], #[], []⟩ with heap := (((World.holding Tryd.prog os ⟨#[], #[], []⟩).heap.modify 0 (layCells (litCells Rows.laid_internal_strconv_uint64pow10))).modify 6 (layCells (litCells Rows.laid_math_bits_deBruijn32tab))).modify 7 (layCells (litCells Rows.laid_math_bits_deBruijn64tab)) }
end Go.Proofs.YtloilknkhloegaaDoor
