/- parts of the proof, merged by a program. -/
import Derived.Test.YtcicmljnjdhkjaaMti1
set_option linter.unusedSimpArgs false
set_option linter.unusedVariables false
/- the document's audit: slots. -/
set_option linter.unusedSimpArgs false
set_option linter.unusedVariables false
namespace Go.Proofs.Ytcicmljnjdhkjaa
open Go.RowKit
section
variable {t p s : Int} {ad : Addr} {n c : Nat} {vs : List Int}

/-- a slot that is not as it must be. -/
def badB (k cl : Int) (x y : Bool) (b : Nat) : Bool := (x && !y) || (y && (k != 3 || decide (slotsF cl ≤ (b : Int))))
def slotB (vs : List Int) (t q : Int) (b : Nat) : Bool := !badB (iK (gv vs t q 0)) (iC (gv vs t q 0)) (bitB (gv vs t q 4) b) (bitB (gv vs t q 5) b) b
def slotsQ (vs : List Int) (t : Int) (q : Nat) : Bool := allN (slotB vs t q) 32 && !(iK (gv vs t q 0) == 3 && gv vs t q 5 == 0)
def slotsAll (vs : List Int) (t p : Int) : Bool := allN (slotsQ vs t) p.toNat

end
end Go.Proofs.Ytcicmljnjdhkjaa
/- the document's audit: loose. -/
set_option linter.unusedSimpArgs false
set_option linter.unusedVariables false
namespace Go.Proofs.Ytcicmljnjdhkjaa
open Go.RowKit
section
variable {t p s : Int} {ad : Addr} {n c : Nat} {vs : List Int}

def hungB (vs : List Int) (t : Int) (q : Nat) : Bool := iK (gv vs t q 0) == 1 || (iK (gv vs t q 0) == 3 && !fullB (gv vs t q 5) (iC (gv vs t q 0)))
def looseQ (vs : List Int) (t : Int) (q : Nat) : Bool := hungB vs t q || (gv vs t q 2 == 0 && gv vs t q 3 == 0)
def looseF (vs : List Int) (t p : Int) : Bool := allN (looseQ vs t) p.toNat

end
end Go.Proofs.Ytcicmljnjdhkjaa
