/- conf: what Check answers of every configuration. -/
import Derived.Test.YtloilknkhloegaaDoorRows
import Derived.Test.YtloilknkhloegaaDoorBase
set_option linter.unusedSimpArgs false
set_option linter.unusedVariables false
namespace Go.Proofs.YtloilknkhloegaaDoor
open Go.RowKit

def outB (n lo hi : Int) : Bool := decide (n < lo) || decide (hi < n)

def cfgV (t p s : Int) : Value := .agg #[.int .i64 t, .int .i64 p, .int .i64 s]
def bndCells (t p s : Int) : Array Value := #[.int .i64 t, .int .i64 1, .int .i64 16, .int .i64 p, .int .i64 4, .int .i64 1024, .int .i64 s, .int .i64 10, .int .i64 20]

def rightB (t p s : Int) : Bool := !(outB t 1 16 || outB p 4 1024 || outB s 10 20)

def idxOf (t p s : Int) : Int := if outB t 1 16 then 0 else if outB p 4 1024 then 1 else if outB s 10 20 then 2 else -1

def IdxRel (t p s : Int) (w : World) (i : Value) (wr : World) : Prop := ∃ k : Nat, k ≤ 3 ∧ i = .int .i64 k ∧ (0 < k → outB t 1 16 = false) ∧ (1 < k → outB p 4 1024 = false) ∧ (2 < k → outB s 10 20 = false) ∧ Below w.heap.size w wr

end Go.Proofs.YtloilknkhloegaaDoor
