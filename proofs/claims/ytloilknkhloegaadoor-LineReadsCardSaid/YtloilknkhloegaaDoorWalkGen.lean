/- link: what Walk comes to, as plain data. -/
import Derived.Test.YtloilknkhloegaaDoorLinkPull
set_option linter.unusedSimpArgs false
set_option linter.unusedVariables false
namespace Go.Proofs.YtloilknkhloegaaDoor
open Go.RowKit

/-- the pages of a list from a link on. -/
def walkL (t p s : Int) : Nat → List Int → Int → VS → List Int × VS
  | 0, out, _, st => (out, st)
  | f + 1, out, q, st => if pageB p (q - 1) = true then walkL t p s f (out ++ [q - 1]) (st.get (ofF t p s (q - 1) 2)).1 (st.get (ofF t p s (q - 1) 2)).2 else (out, st)
def walkF (t p s : Int) (head : Int) (st : VS) : List Int × VS := walkL t p s p.toNat [] (st.get head).1 (st.get head).2

def ints (l : List Int) : List Value := l.map (.int .i64)
def lenS : Value → Nat | .slice _ n _ => n | _ => 0

theorem loc_grown {w w' : World} {row : Option Nat} {L : Nat} {cs : Array Value} (hg : w.grownBy w' row) (hL : L < w.heap.size) (hne : row ≠ some L) (hc : ∀ o : Nat, w.cell? ⟨L, o, none⟩ = cs[o]?) : ∀ o : Nat, w'.cell? ⟨L, o, none⟩ = cs[o]? :=
  fun o => (World.cell?_of_block (a := ⟨L, o, none⟩) (hg.block L hL (fun e => hne e.symm))).trans (hc o)

end Go.Proofs.YtloilknkhloegaaDoor
