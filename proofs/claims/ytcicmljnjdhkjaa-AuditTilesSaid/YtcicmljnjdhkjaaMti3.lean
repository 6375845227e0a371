/- parts of the proof, merged by a program. -/
import Derived.Test.YtcicmljnjdhkjaaMti1
set_option linter.unusedSimpArgs false
set_option linter.unusedVariables false
/- the document's audit: apart. -/
set_option linter.unusedSimpArgs false
set_option linter.unusedVariables false
namespace Go.Proofs.Ytcicmljnjdhkjaa
open Go.RowKit
section
variable {t p s : Int} {ad : Addr} {n c : Nat} {vs : List Int}

def apB (vs : List Int) (t : Int) (l : List Int) (k : Nat) : Bool := !(iK (gv vs t (l.getD (k + 1) 0) 0) == 1 && iK (gv vs t (l.getD k 0) 0) == 1)
def apartF (vs : List Int) (t p : Int) : Bool := allN (apB vs t (startsF (fun q => gv vs t q 0) p).1) ((startsF (fun q => gv vs t q 0) p).1.length - 1)
end
end Go.Proofs.Ytcicmljnjdhkjaa
/- the document's audit: feet. -/
set_option linter.unusedSimpArgs false
set_option linter.unusedVariables false
namespace Go.Proofs.Ytcicmljnjdhkjaa
open Go.RowKit
section
variable {t p s : Int} {ad : Addr} {n c : Nat} {vs : List Int}

def advN (l : List Int) (m : Nat) (q : Int) : Nat := if l[m + 1]? = some q then m + 1 else m
def wantF (vs : List Int) (t : Int) (l : List Int) (m : Nat) (q : Int) : Int := if q = l.getD m 0 + iL (gv vs t (l.getD m 0) 0) - 1 then l.getD m 0 + 1 else 0
def feetN (vs : List Int) (t : Int) (l : List Int) : Nat → Option Nat
  | 0 => some 0
  | q + 1 => match feetN vs t l q with
    | none => none
    | some m => if gv vs t (q : Int) 1 = wantF vs t l (advN l m q) q then some (advN l m q) else none
def feetF (vs : List Int) (t p : Int) : Bool := (feetN vs t (startsF (fun q => gv vs t q 0) p).1 p.toNat).isSome
end
end Go.Proofs.Ytcicmljnjdhkjaa
/- the document's audit: counts. -/
set_option linter.unusedSimpArgs false
set_option linter.unusedVariables false
namespace Go.Proofs.Ytcicmljnjdhkjaa
open Go.RowKit
section
variable {t p s : Int} {ad : Addr} {n c : Nat} {vs : List Int}

def freeN (vs : List Int) (t : Int) : Nat → Int
  | 0 => 0
  | q + 1 => freeN vs t q + if iK (gv vs t q 0) = 1 then iL (gv vs t q 0) else 0
def liveN (vs : List Int) (t : Int) : Nat → Int
  | 0 => 0
  | q + 1 => liveN vs t q + (if iK (gv vs t q 0) = 2 then 1 else 0) + (onesN (gv vs t q 4) 32 : Nat)
def countsF (vs : List Int) (t p : Int) : Bool := vs.getD 0 0 == freeN vs t p.toNat && vs.getD 1 0 == liveN vs t p.toNat
end
end Go.Proofs.Ytcicmljnjdhkjaa
