/- link: Pull of the program. -/
import Derived.Test.YtloilknkhloegaaDoorLinkPush
set_option linter.unusedSimpArgs false
set_option linter.unusedVariables false
namespace Go.Proofs.YtloilknkhloegaaDoor
open Go.RowKit

/-- what Pull does. -/
def pullF (t p s : Int) (head q : Int) (st : VS) : VS :=
  if pageB p q = true then
    let g := st.get (ofF t p s q 2)
    let f := g.2.get (ofF t p s q 3)
    let s3 := if f.1 = 0 then f.2.put head g.1 else f.2.put (ofF t p s (f.1 - 1) 2) g.1
    let s4 := if g.1 = 0 then s3 else s3.put (ofF t p s (g.1 - 1) 3) f.1
    (s4.put (ofF t p s q 2) 0).put (ofF t p s q 3) 0
  else st

end Go.Proofs.YtloilknkhloegaaDoor
