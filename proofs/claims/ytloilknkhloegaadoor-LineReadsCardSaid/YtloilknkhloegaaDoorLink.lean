/- link: Push, Pull and Walk of the program. -/
import Derived.Test.YtloilknkhloegaaDoorVSt
import Derived.Test.YtloilknkhloegaaDoorPlace
set_option linter.unusedSimpArgs false
set_option linter.unusedVariables false
namespace Go.Proofs.YtloilknkhloegaaDoor
open Go.RowKit

def pageB (p q : Int) : Bool := decide (0 ≤ q) && decide (q < p)
/-- what Push does. -/
def pushF (t p s : Int) (head q : Int) (st : VS) : VS :=
  if pageB p q = true then
    let g := st.get head
    let s1 := g.2.put (ofF t p s q 2) g.1
    let s2 := s1.put (ofF t p s q 3) 0
    let s3 := if g.1 = 0 then s2 else s2.put (ofF t p s (g.1 - 1) 3) (q + 1)
    s3.put head (q + 1)
  else st

end Go.Proofs.YtloilknkhloegaaDoor
