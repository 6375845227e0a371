/-
  No cell of these rows narrows 'for every input' (looked for: loops, veiled, ifaces, maps, wideKeys, modest, calm, conditions, laid).
  DERIVED. THE GIVEN ROWS OF THIS SEAT. 7 by the template 'for every input the law returns true; each argument reads behind the call as it read before'; 0 by the template 'total and deterministic' (their statements: YtkfcjlampnjfbaaTotals.lean).
  GIVEN WITH THE SEED: the statements are not yours to turn. If you find one false, say at which input.
  Laid BY PROGRAM, IN A SANDBOX (cutbox-rows.mjs): the forced cells as the released guide's own fill.sh prints them over the translation f53030b5ade9c491… (all of the seat's roots in one cut). By AI agents, Wed Nov 11 2026. No macro, syntax, notation, axiom, sorry.
-/
import Derived.Test.YtkfcjlampnjfbaaChecked
import GoSem.Claim
import GoSem.ClaimJoined
import GoSem.ClaimMapViews
import Derived.JoinedTies
import Derived.KernelRfl
namespace Go.Proofs.Ytkfcjlampnjfbaa
/- THE CELL 'sum', in the pinned program and in every row, IS THE sha256 OF THE DUMP (.gsa) THAT YtkfcjlampnjfbaaProg.lean LOADS. Nothing in Lean hashes anything: it is a label: what it is worth is what the hold of that sum in a sandbox is worth. -/
noncomputable def Try.pinned : Pinned := { name := "ytkfcjlampnjfbaa", sum := "f53030b5ade9c491c2022e14dcba65227f72f73d6bbb7b804860c3534dd646d4", checked := Try.checked }
namespace Rows
def none {H : Type} : Left H := { results := [], args := [] }

/-- 'nacrelaw36.BoundTells': WHATEVER THE INPUT: true; the input reads as it did. -/
def boundTellsSpec : ChangeSpec := { name := "boundTells", fn := fun _ => fun
  | [d] => { results := [.lit (.bool true)], args := [d] }
  | _ => none }
def boundTellsRow : OpenClaim := { program := "ytkfcjlampnjfbaa", sum := "f53030b5ade9c491c2022e14dcba65227f72f73d6bbb7b804860c3534dd646d4", func := "nacre/nacrelaw36.BoundTells", spec := "boundTells", unfollowed := true, recurses := true, apart := false }
def BoundTellsSaid : Prop := boundTellsRow.holds Try.pinned (OpenSpec.ofChange boundTellsSpec)

/-- ITS FALSE NEIGHBOUR: 'it returns false'. Refute it at one input. -/
def boundTellsWrong : ChangeSpec := { name := "boundTells", fn := fun _ => fun
  | [d] => { results := [.lit (.bool false)], args := [d] }
  | _ => none }
def BoundTellsWrongFalsely : Prop := boundTellsRow.holds Try.pinned (OpenSpec.ofChange boundTellsWrong)

/-- 'nacrelaw13.LinkPulls': WHATEVER THE INPUT: true; the input reads as it did. -/
def linkPullsSpec : ChangeSpec := { name := "linkPulls", fn := fun _ => fun
  | [d1, d2, d3] => { results := [.lit (.bool true)], args := [d1, d2, d3] }
  | _ => none }
def linkPullsRow : OpenClaim := { program := "ytkfcjlampnjfbaa", sum := "f53030b5ade9c491c2022e14dcba65227f72f73d6bbb7b804860c3534dd646d4", func := "nacre/nacrelaw13.LinkPulls", spec := "linkPulls", unfollowed := true, recurses := true, apart := false }
def LinkPullsSaid : Prop := linkPullsRow.holds Try.pinned (OpenSpec.ofChange linkPullsSpec)

/-- ITS FALSE NEIGHBOUR: 'it returns false'. Refute it at one input. -/
def linkPullsWrong : ChangeSpec := { name := "linkPulls", fn := fun _ => fun
  | [d1, d2, d3] => { results := [.lit (.bool false)], args := [d1, d2, d3] }
  | _ => none }
def LinkPullsWrongFalsely : Prop := linkPullsRow.holds Try.pinned (OpenSpec.ofChange linkPullsWrong)

/-- 'nacrelaw13.LinkWalks': WHATEVER THE INPUT: true; the input reads as it did. -/
def linkWalksSpec : ChangeSpec := { name := "linkWalks", fn := fun _ => fun
  | [d1, d2, d3] => { results := [.lit (.bool true)], args := [d1, d2, d3] }
  | _ => none }
def linkWalksRow : OpenClaim := { program := "ytkfcjlampnjfbaa", sum := "f53030b5ade9c491c2022e14dcba65227f72f73d6bbb7b804860c3534dd646d4", func := "nacre/nacrelaw13.LinkWalks", spec := "linkWalks", unfollowed := true, recurses := true, apart := false }
def LinkWalksSaid : Prop := linkWalksRow.holds Try.pinned (OpenSpec.ofChange linkWalksSpec)

/-- ITS FALSE NEIGHBOUR: 'it returns false'. Refute it at one input. -/
def linkWalksWrong : ChangeSpec := { name := "linkWalks", fn := fun _ => fun
  | [d1, d2, d3] => { results := [.lit (.bool false)], args := [d1, d2, d3] }
  | _ => none }
def LinkWalksWrongFalsely : Prop := linkWalksRow.holds Try.pinned (OpenSpec.ofChange linkWalksWrong)

/-- 'nacrelaw13.LinkDoes': WHATEVER THE INPUT: true; the input reads as it did. -/
def linkDoesSpec : ChangeSpec := { name := "linkDoes", fn := fun _ => fun
  | [d1, d2, d3] => { results := [.lit (.bool true)], args := [d1, d2, d3] }
  | _ => none }
def linkDoesRow : OpenClaim := { program := "ytkfcjlampnjfbaa", sum := "f53030b5ade9c491c2022e14dcba65227f72f73d6bbb7b804860c3534dd646d4", func := "nacre/nacrelaw13.LinkDoes", spec := "linkDoes", unfollowed := true, recurses := true, apart := false }
def LinkDoesSaid : Prop := linkDoesRow.holds Try.pinned (OpenSpec.ofChange linkDoesSpec)

/-- ITS FALSE NEIGHBOUR: 'it returns false'. Refute it at one input. -/
def linkDoesWrong : ChangeSpec := { name := "linkDoes", fn := fun _ => fun
  | [d1, d2, d3] => { results := [.lit (.bool false)], args := [d1, d2, d3] }
  | _ => none }
def LinkDoesWrongFalsely : Prop := linkDoesRow.holds Try.pinned (OpenSpec.ofChange linkDoesWrong)

/-- 'nacrelaw25.FreshVals': WHATEVER THE INPUT: true; the input reads as it did. -/
def freshValsSpec : ChangeSpec := { name := "freshVals", fn := fun _ => fun
  | [d] => { results := [.lit (.bool true)], args := [d] }
  | _ => none }
def freshValsRow : OpenClaim := { program := "ytkfcjlampnjfbaa", sum := "f53030b5ade9c491c2022e14dcba65227f72f73d6bbb7b804860c3534dd646d4", func := "nacre/nacrelaw25.FreshVals", spec := "freshVals", unfollowed := true, recurses := true, apart := false }
def FreshValsSaid : Prop := freshValsRow.holds Try.pinned (OpenSpec.ofChange freshValsSpec)

/-- ITS FALSE NEIGHBOUR: 'it returns false'. Refute it at one input. -/
def freshValsWrong : ChangeSpec := { name := "freshVals", fn := fun _ => fun
  | [d] => { results := [.lit (.bool false)], args := [d] }
  | _ => none }
def FreshValsWrongFalsely : Prop := freshValsRow.holds Try.pinned (OpenSpec.ofChange freshValsWrong)

/-- 'nacrelaw25.FreshWords': WHATEVER THE INPUT: true; the input reads as it did. -/
def freshWordsSpec : ChangeSpec := { name := "freshWords", fn := fun _ => fun
  | [d] => { results := [.lit (.bool true)], args := [d] }
  | _ => none }
def freshWordsRow : OpenClaim := { program := "ytkfcjlampnjfbaa", sum := "f53030b5ade9c491c2022e14dcba65227f72f73d6bbb7b804860c3534dd646d4", func := "nacre/nacrelaw25.FreshWords", spec := "freshWords", unfollowed := true, recurses := true, apart := false }
def FreshWordsSaid : Prop := freshWordsRow.holds Try.pinned (OpenSpec.ofChange freshWordsSpec)

/-- ITS FALSE NEIGHBOUR: 'it returns false'. Refute it at one input. -/
def freshWordsWrong : ChangeSpec := { name := "freshWords", fn := fun _ => fun
  | [d] => { results := [.lit (.bool false)], args := [d] }
  | _ => none }
def FreshWordsWrongFalsely : Prop := freshWordsRow.holds Try.pinned (OpenSpec.ofChange freshWordsWrong)

/-- 'nacrelaw12.AuditTiles': WHATEVER THE INPUT: true; the input reads as it did. -/
def auditTilesSpec : ChangeSpec := { name := "auditTiles", fn := fun _ => fun
  | [d1, d2] => { results := [.lit (.bool true)], args := [d1, d2] }
  | _ => none }
def auditTilesRow : OpenClaim := { program := "ytkfcjlampnjfbaa", sum := "f53030b5ade9c491c2022e14dcba65227f72f73d6bbb7b804860c3534dd646d4", func := "nacre/nacrelaw12.AuditTiles", spec := "auditTiles", unfollowed := true, recurses := true, apart := false }
def AuditTilesSaid : Prop := auditTilesRow.holds Try.pinned (OpenSpec.ofChange auditTilesSpec)

/-- ITS FALSE NEIGHBOUR: 'it returns false'. Refute it at one input. -/
def auditTilesWrong : ChangeSpec := { name := "auditTiles", fn := fun _ => fun
  | [d1, d2] => { results := [.lit (.bool false)], args := [d1, d2] }
  | _ => none }
def AuditTilesWrongFalsely : Prop := auditTilesRow.holds Try.pinned (OpenSpec.ofChange auditTilesWrong)

/- THE SECOND FORM. 'bulk': how many values and letters a reading holds, each counted each time it is reached (what is shared counts as often as it is met; a slice's spare places count too). A statement '..UptoSaid' is the law's where the arguments, and the package variables that the reading takes, are together of bulk at most 1048576: NARROWER than '..Said'. Prove '..Said' where nothing that the law and all that it calls make is longer than what came in: it says more and counts as full. Else prove '..UptoSaid'. A law counts once. -/
mutual
def uptoBulk {H : Type} : DataW H → Nat
  | .lit (.string bytes) => bytes.length + 1
  | .lit _ => 1
  | .nil => 1
  | .ptr d => uptoBulk d + 1
  | .slice elems spare => uptoBulkAll elems + uptoBulkAll spare + 1
  | .agg parts => uptoBulkAll parts + 1
  | .iface _ d => uptoBulk d + 1
  | .map entries => uptoBulkEntries entries + 1
  | .held _ => 1
def uptoBulkAll {H : Type} : List (DataW H) → Nat
  | [] => 0
  | d :: r => uptoBulk d + uptoBulkAll r
def uptoBulkEntries {H : Type} : List (Lit × DataW H) → Nat
  | [] => 0
  | x :: r => uptoBulkEntry x + uptoBulkEntries r
def uptoBulkEntry {H : Type} : Lit × DataW H → Nat
  | (.string bytes, d) => bytes.length + uptoBulk d + 1
  | (_, d) => uptoBulk d + 1
 end
def uptoSmall : (H : Type) → List (DataW H) → Bool := fun _ ds => decide (uptoBulkAll ds ≤ 1048576)
def OpenSpec.upto (s : _root_.Go.ChangeSpec) : _root_.Go.OpenSpec := { _root_.Go.OpenSpec.ofChange s with cond := some uptoSmall }

/-- 'nacrelaw36.BoundTells', WHERE WHAT IT READS IS OF BULK AT MOST 1048576: true; the input reads as it did. -/
def boundTellsUptoRow : OpenClaim := { program := "ytkfcjlampnjfbaa", sum := "f53030b5ade9c491c2022e14dcba65227f72f73d6bbb7b804860c3534dd646d4", func := "nacre/nacrelaw36.BoundTells", spec := "boundTells", unfollowed := true, recurses := true, apart := false, narrowed := true }
def BoundTellsUptoSaid : Prop := boundTellsUptoRow.holds Try.pinned (OpenSpec.upto boundTellsSpec)

/-- 'nacrelaw13.LinkPulls', WHERE WHAT IT READS IS OF BULK AT MOST 1048576: true; the input reads as it did. -/
def linkPullsUptoRow : OpenClaim := { program := "ytkfcjlampnjfbaa", sum := "f53030b5ade9c491c2022e14dcba65227f72f73d6bbb7b804860c3534dd646d4", func := "nacre/nacrelaw13.LinkPulls", spec := "linkPulls", unfollowed := true, recurses := true, apart := false, narrowed := true }
def LinkPullsUptoSaid : Prop := linkPullsUptoRow.holds Try.pinned (OpenSpec.upto linkPullsSpec)

/-- 'nacrelaw13.LinkWalks', WHERE WHAT IT READS IS OF BULK AT MOST 1048576: true; the input reads as it did. -/
def linkWalksUptoRow : OpenClaim := { program := "ytkfcjlampnjfbaa", sum := "f53030b5ade9c491c2022e14dcba65227f72f73d6bbb7b804860c3534dd646d4", func := "nacre/nacrelaw13.LinkWalks", spec := "linkWalks", unfollowed := true, recurses := true, apart := false, narrowed := true }
def LinkWalksUptoSaid : Prop := linkWalksUptoRow.holds Try.pinned (OpenSpec.upto linkWalksSpec)

/-- 'nacrelaw13.LinkDoes', WHERE WHAT IT READS IS OF BULK AT MOST 1048576: true; the input reads as it did. -/
def linkDoesUptoRow : OpenClaim := { program := "ytkfcjlampnjfbaa", sum := "f53030b5ade9c491c2022e14dcba65227f72f73d6bbb7b804860c3534dd646d4", func := "nacre/nacrelaw13.LinkDoes", spec := "linkDoes", unfollowed := true, recurses := true, apart := false, narrowed := true }
def LinkDoesUptoSaid : Prop := linkDoesUptoRow.holds Try.pinned (OpenSpec.upto linkDoesSpec)

/-- 'nacrelaw25.FreshVals', WHERE WHAT IT READS IS OF BULK AT MOST 1048576: true; the input reads as it did. -/
def freshValsUptoRow : OpenClaim := { program := "ytkfcjlampnjfbaa", sum := "f53030b5ade9c491c2022e14dcba65227f72f73d6bbb7b804860c3534dd646d4", func := "nacre/nacrelaw25.FreshVals", spec := "freshVals", unfollowed := true, recurses := true, apart := false, narrowed := true }
def FreshValsUptoSaid : Prop := freshValsUptoRow.holds Try.pinned (OpenSpec.upto freshValsSpec)

/-- 'nacrelaw25.FreshWords', WHERE WHAT IT READS IS OF BULK AT MOST 1048576: true; the input reads as it did. -/
def freshWordsUptoRow : OpenClaim := { program := "ytkfcjlampnjfbaa", sum := "f53030b5ade9c491c2022e14dcba65227f72f73d6bbb7b804860c3534dd646d4", func := "nacre/nacrelaw25.FreshWords", spec := "freshWords", unfollowed := true, recurses := true, apart := false, narrowed := true }
def FreshWordsUptoSaid : Prop := freshWordsUptoRow.holds Try.pinned (OpenSpec.upto freshWordsSpec)

/-- 'nacrelaw12.AuditTiles', WHERE WHAT IT READS IS OF BULK AT MOST 1048576: true; the input reads as it did. -/
def auditTilesUptoRow : OpenClaim := { program := "ytkfcjlampnjfbaa", sum := "f53030b5ade9c491c2022e14dcba65227f72f73d6bbb7b804860c3534dd646d4", func := "nacre/nacrelaw12.AuditTiles", spec := "auditTiles", unfollowed := true, recurses := true, apart := false, narrowed := true }
def AuditTilesUptoSaid : Prop := auditTilesUptoRow.holds Try.pinned (OpenSpec.upto auditTilesSpec)

end Rows
end Go.Proofs.Ytkfcjlampnjfbaa
