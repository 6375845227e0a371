/-
  No cell of these rows narrows 'for every input' (looked for: loops, veiled, ifaces, maps, wideKeys, modest, calm, conditions, laid).
  DERIVED. THE GIVEN ROWS OF THIS SEAT. 4 by the template 'for every input the law returns true; each argument reads behind the call as it read before'; 0 by the template 'total and deterministic' (their statements: YtcnininelndjoaaGreatTotals.lean).
  GIVEN WITH THE SEED: the statements are not yours to turn. If you find one false, say at which input.
  Laid BY PROGRAM, IN A SANDBOX (cutbox-rows.mjs): the forced cells as the released guide's own fill.sh prints them over the translation c5dfea04a8fbca15… (all of the seat's roots in one cut). By AI agents, Wed Nov 11 2026. No macro, syntax, notation, axiom, sorry.
-/
import Derived.Test.YtcnininelndjoaaGreatChecked
import GoSem.Claim
import GoSem.ClaimJoined
import GoSem.ClaimMapViews
import Derived.JoinedTies
import Derived.KernelRfl
namespace Go.Proofs.YtcnininelndjoaaGreat
/- THE CELL 'sum', in the pinned program and in every row, IS THE sha256 OF THE DUMP (.gsa) THAT YtcnininelndjoaaGreatProg.lean LOADS. Nothing in Lean hashes anything: it is a label: what it is worth is what the hold of that sum in a sandbox is worth. -/
noncomputable def Tryz.pinned : Pinned := { name := "ytcnininelndjoaagreat", sum := "c5dfea04a8fbca154f61e0e35a9474ed866a19a54a30d4075a69d0851413baa1", checked := Tryz.checked }
namespace Rows
def none {H : Type} : Left H := { results := [], args := [] }

/-- 'nacrelaw31.MendActs': WHATEVER THE INPUT: true; the input reads as it did. -/
def mendActsSpec : ChangeSpec := { name := "mendActs", fn := fun _ => fun
  | [d1, d2] => { results := [.lit (.bool true)], args := [d1, d2] }
  | _ => none }
def mendActsRow : OpenClaim := { program := "ytcnininelndjoaagreat", sum := "c5dfea04a8fbca154f61e0e35a9474ed866a19a54a30d4075a69d0851413baa1", func := "nacre/nacrelaw31.MendActs", spec := "mendActs", unfollowed := true, recurses := true, plainKeys := false, apart := false }
def MendActsSaid : Prop := mendActsRow.holds Tryz.pinned (OpenSpec.ofChange mendActsSpec)

/-- ITS FALSE NEIGHBOUR: 'it returns false'. Refute it at one input. -/
def mendActsWrong : ChangeSpec := { name := "mendActs", fn := fun _ => fun
  | [d1, d2] => { results := [.lit (.bool false)], args := [d1, d2] }
  | _ => none }
def MendActsWrongFalsely : Prop := mendActsRow.holds Tryz.pinned (OpenSpec.ofChange mendActsWrong)

/-- 'nacrelaw31.MendTwice': WHATEVER THE INPUT: true; the input reads as it did. -/
def mendTwiceSpec : ChangeSpec := { name := "mendTwice", fn := fun _ => fun
  | [d1, d2] => { results := [.lit (.bool true)], args := [d1, d2] }
  | _ => none }
def mendTwiceRow : OpenClaim := { program := "ytcnininelndjoaagreat", sum := "c5dfea04a8fbca154f61e0e35a9474ed866a19a54a30d4075a69d0851413baa1", func := "nacre/nacrelaw31.MendTwice", spec := "mendTwice", unfollowed := true, recurses := true, plainKeys := false, apart := false }
def MendTwiceSaid : Prop := mendTwiceRow.holds Tryz.pinned (OpenSpec.ofChange mendTwiceSpec)

/-- ITS FALSE NEIGHBOUR: 'it returns false'. Refute it at one input. -/
def mendTwiceWrong : ChangeSpec := { name := "mendTwice", fn := fun _ => fun
  | [d1, d2] => { results := [.lit (.bool false)], args := [d1, d2] }
  | _ => none }
def MendTwiceWrongFalsely : Prop := mendTwiceRow.holds Tryz.pinned (OpenSpec.ofChange mendTwiceWrong)

/-- 'nacrelaw31.MendTorn': WHATEVER THE INPUT: true; the input reads as it did. -/
def mendTornSpec : ChangeSpec := { name := "mendTorn", fn := fun _ => fun
  | [d1, d2, d3] => { results := [.lit (.bool true)], args := [d1, d2, d3] }
  | _ => none }
def mendTornRow : OpenClaim := { program := "ytcnininelndjoaagreat", sum := "c5dfea04a8fbca154f61e0e35a9474ed866a19a54a30d4075a69d0851413baa1", func := "nacre/nacrelaw31.MendTorn", spec := "mendTorn", unfollowed := true, recurses := true, plainKeys := false, apart := false }
def MendTornSaid : Prop := mendTornRow.holds Tryz.pinned (OpenSpec.ofChange mendTornSpec)

/-- ITS FALSE NEIGHBOUR: 'it returns false'. Refute it at one input. -/
def mendTornWrong : ChangeSpec := { name := "mendTorn", fn := fun _ => fun
  | [d1, d2, d3] => { results := [.lit (.bool false)], args := [d1, d2, d3] }
  | _ => none }
def MendTornWrongFalsely : Prop := mendTornRow.holds Tryz.pinned (OpenSpec.ofChange mendTornWrong)

/-- 'nacrelaw31.MendAll': WHATEVER THE INPUT: true; the input reads as it did. -/
def mendAllSpec : ChangeSpec := { name := "mendAll", fn := fun _ => fun
  | [d1, d2] => { results := [.lit (.bool true)], args := [d1, d2] }
  | _ => none }
def mendAllRow : OpenClaim := { program := "ytcnininelndjoaagreat", sum := "c5dfea04a8fbca154f61e0e35a9474ed866a19a54a30d4075a69d0851413baa1", func := "nacre/nacrelaw31.MendAll", spec := "mendAll", unfollowed := true, recurses := true, plainKeys := false, apart := false }
def MendAllSaid : Prop := mendAllRow.holds Tryz.pinned (OpenSpec.ofChange mendAllSpec)

/-- ITS FALSE NEIGHBOUR: 'it returns false'. Refute it at one input. -/
def mendAllWrong : ChangeSpec := { name := "mendAll", fn := fun _ => fun
  | [d1, d2] => { results := [.lit (.bool false)], args := [d1, d2] }
  | _ => none }
def MendAllWrongFalsely : Prop := mendAllRow.holds Tryz.pinned (OpenSpec.ofChange mendAllWrong)

/- THE SECOND FORM. 'bulk': how many values and letters a reading holds, each counted each time it is reached (what is shared counts as often as it is met; a slice's spare places count too). A statement '..UptoSaid' is the law's where the arguments, and the package variables that the reading takes, are together of bulk at most 1048576: NARROWER than '..Said'. Prove '..Said' where nothing that the law and all that it calls make is longer than what came in: it says more and counts as full. Else prove '..UptoSaid'. A law counts once. -/
mutual
def uptoBulk {H : Type} : DataW H → Nat
  | .lit (.string bytes) => bytes.length + 1
  | .lit _ => 1
  | .nil => 1
  | .ptr d => uptoBulk d + 1
  | .slice elems spare => uptoBulkAll elems + uptoBulkAll spare + 1
  | .agg parts => uptoBulkAll parts + 1
  | .iface _ d => uptoBulk d + 1
  | .map entries => uptoBulkEntries entries + 1
  | .held _ => 1
def uptoBulkAll {H : Type} : List (DataW H) → Nat
  | [] => 0
  | d :: r => uptoBulk d + uptoBulkAll r
def uptoBulkEntries {H : Type} : List (Lit × DataW H) → Nat
  | [] => 0
  | x :: r => uptoBulkEntry x + uptoBulkEntries r
def uptoBulkEntry {H : Type} : Lit × DataW H → Nat
  | (.string bytes, d) => bytes.length + uptoBulk d + 1
  | (_, d) => uptoBulk d + 1
 end
def uptoSmall : (H : Type) → List (DataW H) → Bool := fun _ ds => decide (uptoBulkAll ds ≤ 1048576)
def OpenSpec.upto (s : _root_.Go.ChangeSpec) : _root_.Go.OpenSpec := { _root_.Go.OpenSpec.ofChange s with cond := some uptoSmall }

/-- 'nacrelaw31.MendActs', WHERE WHAT IT READS IS OF BULK AT MOST 1048576: true; the input reads as it did. -/
def mendActsUptoRow : OpenClaim := { program := "ytcnininelndjoaagreat", sum := "c5dfea04a8fbca154f61e0e35a9474ed866a19a54a30d4075a69d0851413baa1", func := "nacre/nacrelaw31.MendActs", spec := "mendActs", unfollowed := true, recurses := true, plainKeys := false, apart := false, narrowed := true }
def MendActsUptoSaid : Prop := mendActsUptoRow.holds Tryz.pinned (OpenSpec.upto mendActsSpec)

/-- 'nacrelaw31.MendTwice', WHERE WHAT IT READS IS OF BULK AT MOST 1048576: true; the input reads as it did. -/
def mendTwiceUptoRow : OpenClaim := { program := "ytcnininelndjoaagreat", sum := "c5dfea04a8fbca154f61e0e35a9474ed866a19a54a30d4075a69d0851413baa1", func := "nacre/nacrelaw31.MendTwice", spec := "mendTwice", unfollowed := true, recurses := true, plainKeys := false, apart := false, narrowed := true }
def MendTwiceUptoSaid : Prop := mendTwiceUptoRow.holds Tryz.pinned (OpenSpec.upto mendTwiceSpec)

/-- 'nacrelaw31.MendTorn', WHERE WHAT IT READS IS OF BULK AT MOST 1048576: true; the input reads as it did. -/
def mendTornUptoRow : OpenClaim := { program := "ytcnininelndjoaagreat", sum := "c5dfea04a8fbca154f61e0e35a9474ed866a19a54a30d4075a69d0851413baa1", func := "nacre/nacrelaw31.MendTorn", spec := "mendTorn", unfollowed := true, recurses := true, plainKeys := false, apart := false, narrowed := true }
def MendTornUptoSaid : Prop := mendTornUptoRow.holds Tryz.pinned (OpenSpec.upto mendTornSpec)

/-- 'nacrelaw31.MendAll', WHERE WHAT IT READS IS OF BULK AT MOST 1048576: true; the input reads as it did. -/
def mendAllUptoRow : OpenClaim := { program := "ytcnininelndjoaagreat", sum := "c5dfea04a8fbca154f61e0e35a9474ed866a19a54a30d4075a69d0851413baa1", func := "nacre/nacrelaw31.MendAll", spec := "mendAll", unfollowed := true, recurses := true, plainKeys := false, apart := false, narrowed := true }
def MendAllUptoSaid : Prop := mendAllUptoRow.holds Tryz.pinned (OpenSpec.upto mendAllSpec)

end Rows
end Go.Proofs.YtcnininelndjoaaGreat
