/- parts of the proof, merged by a program. -/
import Derived.Test.YtcbikgafdclhaaaGreatMob3
set_option linter.unusedSimpArgs false
set_option linter.unusedVariables false
/- the document's audit: feet. -/
set_option linter.unusedSimpArgs false
set_option linter.unusedVariables false
namespace Go.Proofs.YtcbikgafdclhaaaGreat
open Go.RowKit
section
variable {t p s : Int} {ad : Addr} {n c : Nat} {vs : List Int}

def advN (l : List Int) (m : Nat) (q : Int) : Nat := if l[m + 1]? = some q then m + 1 else m
def wantF (vs : List Int) (t : Int) (l : List Int) (m : Nat) (q : Int) : Int := if q = l.getD m 0 + iL (gv vs t (l.getD m 0) 0) - 1 then l.getD m 0 + 1 else 0
def feetN (vs : List Int) (t : Int) (l : List Int) : Nat → Option Nat
  | 0 => some 0
  | q + 1 => match feetN vs t l q with
    | none => none
    | some m => if gv vs t (q : Int) 1 = wantF vs t l (advN l m q) q then some (advN l m q) else none
def feetF (vs : List Int) (t p : Int) : Bool := (feetN vs t (startsF (fun q => gv vs t q 0) p).1 p.toNat).isSome
end
end Go.Proofs.YtcbikgafdclhaaaGreat
/- the document's audit: slots. -/
set_option linter.unusedSimpArgs false
set_option linter.unusedVariables false
namespace Go.Proofs.YtcbikgafdclhaaaGreat
open Go.RowKit
section
variable {t p s : Int} {ad : Addr} {n c : Nat} {vs : List Int}

/-- a slot that is not as it must be. -/
def badB (k cl : Int) (x y : Bool) (b : Nat) : Bool := (x && !y) || (y && (k != 3 || decide (slotsF cl ≤ (b : Int))))
def slotB (vs : List Int) (t q : Int) (b : Nat) : Bool := !badB (iK (gv vs t q 0)) (iC (gv vs t q 0)) (bitB (gv vs t q 4) b) (bitB (gv vs t q 5) b) b
def slotsQ (vs : List Int) (t : Int) (q : Nat) : Bool := allN (slotB vs t q) 32 && !(iK (gv vs t q 0) == 3 && gv vs t q 5 == 0)
def slotsAll (vs : List Int) (t p : Int) : Bool := allN (slotsQ vs t) p.toNat

end
end Go.Proofs.YtcbikgafdclhaaaGreat
