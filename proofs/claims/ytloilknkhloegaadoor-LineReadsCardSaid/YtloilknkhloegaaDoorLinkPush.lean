/- link: Push of the program, whole. -/
import Derived.Test.YtloilknkhloegaaDoorLink
set_option linter.unusedSimpArgs false
set_option linter.unusedVariables false
namespace Go.Proofs.YtloilknkhloegaaDoor
open Go.RowKit

def lbox (b : Nat) (t p s head : Int) : Array Value := #[.pointer (some ⟨b, 0, none⟩), .int .i64 t, .int .i64 p, .int .i64 s, .int .i64 head]

end Go.Proofs.YtloilknkhloegaaDoor
