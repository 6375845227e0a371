/- lines: the law LineReads' walk, whole. -/
import Derived.Test.YtloilknkhloegaaDoorLinRW
import Derived.Test.YtloilknkhloegaaDoorLinRE
set_option linter.unusedSimpArgs false
set_option linter.unusedVariables false
namespace Go.Proofs.YtloilknkhloegaaDoor
open Go.RowKit

theorem lread_any (s : List UInt8) (hsl : s.length ≤ maxLen) (w : World) (hO : LnOk w) : Calls Tryd.prog 19 #[.string (bs s)] w (ReadIs w (readF s)) := by
  by_cases hl : s.length ≤ 65536
  · exact lread_short s w hl hO
  · exact lread_long s w (by omega) hsl
theorem linereads_any (s : List UInt8) (w : World) (hO : LnOk w) (hsl : s.length ≤ maxLen) :
    Calls Tryd.prog 5 #[.string (bs s)] w fun en w' => en = .returned (.bool true) ∧ Below w.heap.size w w' :=
  linereads_of s w hO hsl (lread_any s hsl)
end Go.Proofs.YtloilknkhloegaaDoor
