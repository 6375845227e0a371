/-
  No cell of these rows narrows 'for every input' (looked for: loops, veiled, ifaces, maps, wideKeys, modest, calm, conditions, laid).
  DERIVED. THE GIVEN ROWS OF THIS SEAT. 8 by the template 'for every input the law returns true; each argument reads behind the call as it read before'; 0 by the template 'total and deterministic' (their statements: YtcicmljnjdhkjaaGreatTotals.lean).
  GIVEN WITH THE SEED: the statements are not yours to turn. If you find one false, say at which input.
  Laid BY PROGRAM, IN A SANDBOX (cutbox-rows.mjs): the forced cells as the released guide's own fill.sh prints them over the translation 94554e4f2f6a36e1… (all of the seat's roots in one cut). By AI agents, Wed Nov 11 2026. No macro, syntax, notation, axiom, sorry.
-/
import Derived.Test.YtcicmljnjdhkjaaGreatChecked
import GoSem.Claim
import GoSem.ClaimJoined
import GoSem.ClaimMapViews
import Derived.JoinedTies
import Derived.KernelRfl
namespace Go.Proofs.YtcicmljnjdhkjaaGreat
/- THE CELL 'sum', in the pinned program and in every row, IS THE sha256 OF THE DUMP (.gsa) THAT YtcicmljnjdhkjaaGreatProg.lean LOADS. Nothing in Lean hashes anything: it is a label: what it is worth is what the hold of that sum in a sandbox is worth. -/
noncomputable def Tryz.pinned : Pinned := { name := "ytcicmljnjdhkjaagreat", sum := "94554e4f2f6a36e1bb41b31581dbceda382dfe47a50989c2ed061e727ad944dd", checked := Tryz.checked }
namespace Rows
def none {H : Type} : Left H := { results := [], args := [] }

/-- 'nacrelaw25.FreshHolds': WHATEVER THE INPUT: true; the input reads as it did. -/
def freshHoldsSpec : ChangeSpec := { name := "freshHolds", fn := fun _ => fun
  | [d] => { results := [.lit (.bool true)], args := [d] }
  | _ => none }
def freshHoldsRow : OpenClaim := { program := "ytcicmljnjdhkjaagreat", sum := "94554e4f2f6a36e1bb41b31581dbceda382dfe47a50989c2ed061e727ad944dd", func := "nacre/nacrelaw25.FreshHolds", spec := "freshHolds", unfollowed := true, recurses := true, apart := false }
def FreshHoldsSaid : Prop := freshHoldsRow.holds Tryz.pinned (OpenSpec.ofChange freshHoldsSpec)

/-- ITS FALSE NEIGHBOUR: 'it returns false'. Refute it at one input. -/
def freshHoldsWrong : ChangeSpec := { name := "freshHolds", fn := fun _ => fun
  | [d] => { results := [.lit (.bool false)], args := [d] }
  | _ => none }
def FreshHoldsWrongFalsely : Prop := freshHoldsRow.holds Tryz.pinned (OpenSpec.ofChange freshHoldsWrong)

/-- 'nacrelaw12.AuditChecks': WHATEVER THE INPUT: true; the input reads as it did. -/
def auditChecksSpec : ChangeSpec := { name := "auditChecks", fn := fun _ => fun
  | [d1, d2] => { results := [.lit (.bool true)], args := [d1, d2] }
  | _ => none }
def auditChecksRow : OpenClaim := { program := "ytcicmljnjdhkjaagreat", sum := "94554e4f2f6a36e1bb41b31581dbceda382dfe47a50989c2ed061e727ad944dd", func := "nacre/nacrelaw12.AuditChecks", spec := "auditChecks", unfollowed := true, recurses := true, apart := false }
def AuditChecksSaid : Prop := auditChecksRow.holds Tryz.pinned (OpenSpec.ofChange auditChecksSpec)

/-- ITS FALSE NEIGHBOUR: 'it returns false'. Refute it at one input. -/
def auditChecksWrong : ChangeSpec := { name := "auditChecks", fn := fun _ => fun
  | [d1, d2] => { results := [.lit (.bool false)], args := [d1, d2] }
  | _ => none }
def AuditChecksWrongFalsely : Prop := auditChecksRow.holds Tryz.pinned (OpenSpec.ofChange auditChecksWrong)

/-- 'nacrelaw12.AuditParts': WHATEVER THE INPUT: true; the input reads as it did. -/
def auditPartsSpec : ChangeSpec := { name := "auditParts", fn := fun _ => fun
  | [d1, d2] => { results := [.lit (.bool true)], args := [d1, d2] }
  | _ => none }
def auditPartsRow : OpenClaim := { program := "ytcicmljnjdhkjaagreat", sum := "94554e4f2f6a36e1bb41b31581dbceda382dfe47a50989c2ed061e727ad944dd", func := "nacre/nacrelaw12.AuditParts", spec := "auditParts", unfollowed := true, recurses := true, apart := false }
def AuditPartsSaid : Prop := auditPartsRow.holds Tryz.pinned (OpenSpec.ofChange auditPartsSpec)

/-- ITS FALSE NEIGHBOUR: 'it returns false'. Refute it at one input. -/
def auditPartsWrong : ChangeSpec := { name := "auditParts", fn := fun _ => fun
  | [d1, d2] => { results := [.lit (.bool false)], args := [d1, d2] }
  | _ => none }
def AuditPartsWrongFalsely : Prop := auditPartsRow.holds Tryz.pinned (OpenSpec.ofChange auditPartsWrong)

/-- 'nacrelaw12.AuditStates': WHATEVER THE INPUT: true; the input reads as it did. -/
def auditStatesSpec : ChangeSpec := { name := "auditStates", fn := fun _ => fun
  | [d1, d2, d3] => { results := [.lit (.bool true)], args := [d1, d2, d3] }
  | _ => none }
def auditStatesRow : OpenClaim := { program := "ytcicmljnjdhkjaagreat", sum := "94554e4f2f6a36e1bb41b31581dbceda382dfe47a50989c2ed061e727ad944dd", func := "nacre/nacrelaw12.AuditStates", spec := "auditStates", unfollowed := true, recurses := true, apart := false }
def AuditStatesSaid : Prop := auditStatesRow.holds Tryz.pinned (OpenSpec.ofChange auditStatesSpec)

/-- ITS FALSE NEIGHBOUR: 'it returns false'. Refute it at one input. -/
def auditStatesWrong : ChangeSpec := { name := "auditStates", fn := fun _ => fun
  | [d1, d2, d3] => { results := [.lit (.bool false)], args := [d1, d2, d3] }
  | _ => none }
def AuditStatesWrongFalsely : Prop := auditStatesRow.holds Tryz.pinned (OpenSpec.ofChange auditStatesWrong)

/-- 'nacrelaw17.PocketFits': WHATEVER THE INPUT: true; the input reads as it did. -/
def pocketFitsSpec : ChangeSpec := { name := "pocketFits", fn := fun _ => fun
  | [d1, d2, d3] => { results := [.lit (.bool true)], args := [d1, d2, d3] }
  | _ => none }
def pocketFitsRow : OpenClaim := { program := "ytcicmljnjdhkjaagreat", sum := "94554e4f2f6a36e1bb41b31581dbceda382dfe47a50989c2ed061e727ad944dd", func := "nacre/nacrelaw17.PocketFits", spec := "pocketFits", unfollowed := true, recurses := true, apart := false }
def PocketFitsSaid : Prop := pocketFitsRow.holds Tryz.pinned (OpenSpec.ofChange pocketFitsSpec)

/-- ITS FALSE NEIGHBOUR: 'it returns false'. Refute it at one input. -/
def pocketFitsWrong : ChangeSpec := { name := "pocketFits", fn := fun _ => fun
  | [d1, d2, d3] => { results := [.lit (.bool false)], args := [d1, d2, d3] }
  | _ => none }
def PocketFitsWrongFalsely : Prop := pocketFitsRow.holds Tryz.pinned (OpenSpec.ofChange pocketFitsWrong)

/-- 'nacrelaw24.SweepAny': WHATEVER THE INPUT: true; the input reads as it did. -/
def sweepAnySpec : ChangeSpec := { name := "sweepAny", fn := fun _ => fun
  | [d1, d2, d3] => { results := [.lit (.bool true)], args := [d1, d2, d3] }
  | _ => none }
def sweepAnyRow : OpenClaim := { program := "ytcicmljnjdhkjaagreat", sum := "94554e4f2f6a36e1bb41b31581dbceda382dfe47a50989c2ed061e727ad944dd", func := "nacre/nacrelaw24.SweepAny", spec := "sweepAny", unfollowed := true, recurses := true, apart := false }
def SweepAnySaid : Prop := sweepAnyRow.holds Tryz.pinned (OpenSpec.ofChange sweepAnySpec)

/-- ITS FALSE NEIGHBOUR: 'it returns false'. Refute it at one input. -/
def sweepAnyWrong : ChangeSpec := { name := "sweepAny", fn := fun _ => fun
  | [d1, d2, d3] => { results := [.lit (.bool false)], args := [d1, d2, d3] }
  | _ => none }
def SweepAnyWrongFalsely : Prop := sweepAnyRow.holds Tryz.pinned (OpenSpec.ofChange sweepAnyWrong)

/-- 'nacrelaw24.SweepKeeps': WHATEVER THE INPUT: true; the input reads as it did. -/
def sweepKeepsSpec : ChangeSpec := { name := "sweepKeeps", fn := fun _ => fun
  | [d1, d2] => { results := [.lit (.bool true)], args := [d1, d2] }
  | _ => none }
def sweepKeepsRow : OpenClaim := { program := "ytcicmljnjdhkjaagreat", sum := "94554e4f2f6a36e1bb41b31581dbceda382dfe47a50989c2ed061e727ad944dd", func := "nacre/nacrelaw24.SweepKeeps", spec := "sweepKeeps", unfollowed := true, recurses := true, apart := false }
def SweepKeepsSaid : Prop := sweepKeepsRow.holds Tryz.pinned (OpenSpec.ofChange sweepKeepsSpec)

/-- ITS FALSE NEIGHBOUR: 'it returns false'. Refute it at one input. -/
def sweepKeepsWrong : ChangeSpec := { name := "sweepKeeps", fn := fun _ => fun
  | [d1, d2] => { results := [.lit (.bool false)], args := [d1, d2] }
  | _ => none }
def SweepKeepsWrongFalsely : Prop := sweepKeepsRow.holds Tryz.pinned (OpenSpec.ofChange sweepKeepsWrong)

/-- 'nacrelaw24.SweepPages': WHATEVER THE INPUT: true; the input reads as it did. -/
def sweepPagesSpec : ChangeSpec := { name := "sweepPages", fn := fun _ => fun
  | [d1, d2, d3] => { results := [.lit (.bool true)], args := [d1, d2, d3] }
  | _ => none }
def sweepPagesRow : OpenClaim := { program := "ytcicmljnjdhkjaagreat", sum := "94554e4f2f6a36e1bb41b31581dbceda382dfe47a50989c2ed061e727ad944dd", func := "nacre/nacrelaw24.SweepPages", spec := "sweepPages", unfollowed := true, recurses := true, apart := false }
def SweepPagesSaid : Prop := sweepPagesRow.holds Tryz.pinned (OpenSpec.ofChange sweepPagesSpec)

/-- ITS FALSE NEIGHBOUR: 'it returns false'. Refute it at one input. -/
def sweepPagesWrong : ChangeSpec := { name := "sweepPages", fn := fun _ => fun
  | [d1, d2, d3] => { results := [.lit (.bool false)], args := [d1, d2, d3] }
  | _ => none }
def SweepPagesWrongFalsely : Prop := sweepPagesRow.holds Tryz.pinned (OpenSpec.ofChange sweepPagesWrong)

/- THE SECOND FORM. 'bulk': how many values and letters a reading holds, each counted each time it is reached (what is shared counts as often as it is met; a slice's spare places count too). A statement '..UptoSaid' is the law's where the arguments, and the package variables that the reading takes, are together of bulk at most 1048576: NARROWER than '..Said'. Prove '..Said' where nothing that the law and all that it calls make is longer than what came in: it says more and counts as full. Else prove '..UptoSaid'. A law counts once. -/
mutual
def uptoBulk {H : Type} : DataW H → Nat
  | .lit (.string bytes) => bytes.length + 1
  | .lit _ => 1
  | .nil => 1
  | .ptr d => uptoBulk d + 1
  | .slice elems spare => uptoBulkAll elems + uptoBulkAll spare + 1
  | .agg parts => uptoBulkAll parts + 1
  | .iface _ d => uptoBulk d + 1
  | .map entries => uptoBulkEntries entries + 1
  | .held _ => 1
def uptoBulkAll {H : Type} : List (DataW H) → Nat
  | [] => 0
  | d :: r => uptoBulk d + uptoBulkAll r
def uptoBulkEntries {H : Type} : List (Lit × DataW H) → Nat
  | [] => 0
  | x :: r => uptoBulkEntry x + uptoBulkEntries r
def uptoBulkEntry {H : Type} : Lit × DataW H → Nat
  | (.string bytes, d) => bytes.length + uptoBulk d + 1
  | (_, d) => uptoBulk d + 1
 end
def uptoSmall : (H : Type) → List (DataW H) → Bool := fun _ ds => decide (uptoBulkAll ds ≤ 1048576)
def OpenSpec.upto (s : _root_.Go.ChangeSpec) : _root_.Go.OpenSpec := { _root_.Go.OpenSpec.ofChange s with cond := some uptoSmall }

/-- 'nacrelaw25.FreshHolds', WHERE WHAT IT READS IS OF BULK AT MOST 1048576: true; the input reads as it did. -/
def freshHoldsUptoRow : OpenClaim := { program := "ytcicmljnjdhkjaagreat", sum := "94554e4f2f6a36e1bb41b31581dbceda382dfe47a50989c2ed061e727ad944dd", func := "nacre/nacrelaw25.FreshHolds", spec := "freshHolds", unfollowed := true, recurses := true, apart := false, narrowed := true }
def FreshHoldsUptoSaid : Prop := freshHoldsUptoRow.holds Tryz.pinned (OpenSpec.upto freshHoldsSpec)

/-- 'nacrelaw12.AuditChecks', WHERE WHAT IT READS IS OF BULK AT MOST 1048576: true; the input reads as it did. -/
def auditChecksUptoRow : OpenClaim := { program := "ytcicmljnjdhkjaagreat", sum := "94554e4f2f6a36e1bb41b31581dbceda382dfe47a50989c2ed061e727ad944dd", func := "nacre/nacrelaw12.AuditChecks", spec := "auditChecks", unfollowed := true, recurses := true, apart := false, narrowed := true }
def AuditChecksUptoSaid : Prop := auditChecksUptoRow.holds Tryz.pinned (OpenSpec.upto auditChecksSpec)

/-- 'nacrelaw12.AuditParts', WHERE WHAT IT READS IS OF BULK AT MOST 1048576: true; the input reads as it did. -/
def auditPartsUptoRow : OpenClaim := { program := "ytcicmljnjdhkjaagreat", sum := "94554e4f2f6a36e1bb41b31581dbceda382dfe47a50989c2ed061e727ad944dd", func := "nacre/nacrelaw12.AuditParts", spec := "auditParts", unfollowed := true, recurses := true, apart := false, narrowed := true }
def AuditPartsUptoSaid : Prop := auditPartsUptoRow.holds Tryz.pinned (OpenSpec.upto auditPartsSpec)

/-- 'nacrelaw12.AuditStates', WHERE WHAT IT READS IS OF BULK AT MOST 1048576: true; the input reads as it did. -/
def auditStatesUptoRow : OpenClaim := { program := "ytcicmljnjdhkjaagreat", sum := "94554e4f2f6a36e1bb41b31581dbceda382dfe47a50989c2ed061e727ad944dd", func := "nacre/nacrelaw12.AuditStates", spec := "auditStates", unfollowed := true, recurses := true, apart := false, narrowed := true }
def AuditStatesUptoSaid : Prop := auditStatesUptoRow.holds Tryz.pinned (OpenSpec.upto auditStatesSpec)

/-- 'nacrelaw17.PocketFits', WHERE WHAT IT READS IS OF BULK AT MOST 1048576: true; the input reads as it did. -/
def pocketFitsUptoRow : OpenClaim := { program := "ytcicmljnjdhkjaagreat", sum := "94554e4f2f6a36e1bb41b31581dbceda382dfe47a50989c2ed061e727ad944dd", func := "nacre/nacrelaw17.PocketFits", spec := "pocketFits", unfollowed := true, recurses := true, apart := false, narrowed := true }
def PocketFitsUptoSaid : Prop := pocketFitsUptoRow.holds Tryz.pinned (OpenSpec.upto pocketFitsSpec)

/-- 'nacrelaw24.SweepAny', WHERE WHAT IT READS IS OF BULK AT MOST 1048576: true; the input reads as it did. -/
def sweepAnyUptoRow : OpenClaim := { program := "ytcicmljnjdhkjaagreat", sum := "94554e4f2f6a36e1bb41b31581dbceda382dfe47a50989c2ed061e727ad944dd", func := "nacre/nacrelaw24.SweepAny", spec := "sweepAny", unfollowed := true, recurses := true, apart := false, narrowed := true }
def SweepAnyUptoSaid : Prop := sweepAnyUptoRow.holds Tryz.pinned (OpenSpec.upto sweepAnySpec)

/-- 'nacrelaw24.SweepKeeps', WHERE WHAT IT READS IS OF BULK AT MOST 1048576: true; the input reads as it did. -/
def sweepKeepsUptoRow : OpenClaim := { program := "ytcicmljnjdhkjaagreat", sum := "94554e4f2f6a36e1bb41b31581dbceda382dfe47a50989c2ed061e727ad944dd", func := "nacre/nacrelaw24.SweepKeeps", spec := "sweepKeeps", unfollowed := true, recurses := true, apart := false, narrowed := true }
def SweepKeepsUptoSaid : Prop := sweepKeepsUptoRow.holds Tryz.pinned (OpenSpec.upto sweepKeepsSpec)

/-- 'nacrelaw24.SweepPages', WHERE WHAT IT READS IS OF BULK AT MOST 1048576: true; the input reads as it did. -/
def sweepPagesUptoRow : OpenClaim := { program := "ytcicmljnjdhkjaagreat", sum := "94554e4f2f6a36e1bb41b31581dbceda382dfe47a50989c2ed061e727ad944dd", func := "nacre/nacrelaw24.SweepPages", spec := "sweepPages", unfollowed := true, recurses := true, apart := false, narrowed := true }
def SweepPagesUptoSaid : Prop := sweepPagesUptoRow.holds Tryz.pinned (OpenSpec.upto sweepPagesSpec)

end Rows
end Go.Proofs.YtcicmljnjdhkjaaGreat
