/-
  No cell of these rows narrows 'for every input' (looked for: loops, veiled, ifaces, maps, wideKeys, modest, calm, conditions, laid).
  DERIVED. THE GIVEN ROWS OF THIS SEAT. 4 by the template 'for every input the law returns true; each argument reads behind the call as it read before'; 0 by the template 'total and deterministic' (their statements: YtdfjgaeiodjmnaaTotals.lean).
  GIVEN WITH THE SEED: the statements are not yours to turn. If you find one false, say at which input.
  Laid BY PROGRAM, IN A SANDBOX (cutbox-rows.mjs): the forced cells as the released guide's own fill.sh prints them over the translation e4d2baea2c62e550… (all of the seat's roots in one cut). By AI agents, Wed Nov 11 2026. No macro, syntax, notation, axiom, sorry.
-/
import Derived.Test.YtdfjgaeiodjmnaaChecked
import GoSem.Claim
import GoSem.ClaimJoined
import GoSem.ClaimMapViews
import Derived.JoinedTies
import Derived.KernelRfl
namespace Go.Proofs.Ytdfjgaeiodjmnaa
/- THE CELL 'sum', in the pinned program and in every row, IS THE sha256 OF THE DUMP (.gsa) THAT YtdfjgaeiodjmnaaProg.lean LOADS. Nothing in Lean hashes anything: it is a label: what it is worth is what the hold of that sum in a sandbox is worth. -/
noncomputable def Try.pinned : Pinned := { name := "ytdfjgaeiodjmnaa", sum := "e4d2baea2c62e5505ed2851d6a154f9d3c3f47fa194dcd2d5767cc47433a60cc", checked := Try.checked }
namespace Rows
def none {H : Type} : Left H := { results := [], args := [] }

/-- 'nacrelaw10.NvmFences': WHATEVER THE INPUT: true; the input reads as it did. -/
def nvmFencesSpec : ChangeSpec := { name := "nvmFences", fn := fun _ => fun
  | [d1, d2, d3] => { results := [.lit (.bool true)], args := [d1, d2, d3] }
  | _ => none }
def nvmFencesRow : OpenClaim := { program := "ytdfjgaeiodjmnaa", sum := "e4d2baea2c62e5505ed2851d6a154f9d3c3f47fa194dcd2d5767cc47433a60cc", func := "nacre/nacrelaw10.NvmFences", spec := "nvmFences", recurses := true, plainKeys := false, apart := false }
def NvmFencesSaid : Prop := nvmFencesRow.holds Try.pinned (OpenSpec.ofChange nvmFencesSpec)

/-- ITS FALSE NEIGHBOUR: 'it returns false'. Refute it at one input. -/
def nvmFencesWrong : ChangeSpec := { name := "nvmFences", fn := fun _ => fun
  | [d1, d2, d3] => { results := [.lit (.bool false)], args := [d1, d2, d3] }
  | _ => none }
def NvmFencesWrongFalsely : Prop := nvmFencesRow.holds Try.pinned (OpenSpec.ofChange nvmFencesWrong)

/-- 'nacrelaw10.NvmActs': WHATEVER THE INPUT: true; the input reads as it did. -/
def nvmActsSpec : ChangeSpec := { name := "nvmActs", fn := fun _ => fun
  | [d1, d2] => { results := [.lit (.bool true)], args := [d1, d2] }
  | _ => none }
def nvmActsRow : OpenClaim := { program := "ytdfjgaeiodjmnaa", sum := "e4d2baea2c62e5505ed2851d6a154f9d3c3f47fa194dcd2d5767cc47433a60cc", func := "nacre/nacrelaw10.NvmActs", spec := "nvmActs", recurses := true, plainKeys := false, apart := false }
def NvmActsSaid : Prop := nvmActsRow.holds Try.pinned (OpenSpec.ofChange nvmActsSpec)

/-- ITS FALSE NEIGHBOUR: 'it returns false'. Refute it at one input. -/
def nvmActsWrong : ChangeSpec := { name := "nvmActs", fn := fun _ => fun
  | [d1, d2] => { results := [.lit (.bool false)], args := [d1, d2] }
  | _ => none }
def NvmActsWrongFalsely : Prop := nvmActsRow.holds Try.pinned (OpenSpec.ofChange nvmActsWrong)

/-- 'nacrelaw10.NvmKeeps': WHATEVER THE INPUT: true; the input reads as it did. -/
def nvmKeepsSpec : ChangeSpec := { name := "nvmKeeps", fn := fun _ => fun
  | [d1, d2] => { results := [.lit (.bool true)], args := [d1, d2] }
  | _ => none }
def nvmKeepsRow : OpenClaim := { program := "ytdfjgaeiodjmnaa", sum := "e4d2baea2c62e5505ed2851d6a154f9d3c3f47fa194dcd2d5767cc47433a60cc", func := "nacre/nacrelaw10.NvmKeeps", spec := "nvmKeeps", recurses := true, plainKeys := false, apart := false }
def NvmKeepsSaid : Prop := nvmKeepsRow.holds Try.pinned (OpenSpec.ofChange nvmKeepsSpec)

/-- ITS FALSE NEIGHBOUR: 'it returns false'. Refute it at one input. -/
def nvmKeepsWrong : ChangeSpec := { name := "nvmKeeps", fn := fun _ => fun
  | [d1, d2] => { results := [.lit (.bool false)], args := [d1, d2] }
  | _ => none }
def NvmKeepsWrongFalsely : Prop := nvmKeepsRow.holds Try.pinned (OpenSpec.ofChange nvmKeepsWrong)

/-- 'nacrelaw10.NvmCopies': WHATEVER THE INPUT: true; the input reads as it did. -/
def nvmCopiesSpec : ChangeSpec := { name := "nvmCopies", fn := fun _ => fun
  | [d1, d2] => { results := [.lit (.bool true)], args := [d1, d2] }
  | _ => none }
def nvmCopiesRow : OpenClaim := { program := "ytdfjgaeiodjmnaa", sum := "e4d2baea2c62e5505ed2851d6a154f9d3c3f47fa194dcd2d5767cc47433a60cc", func := "nacre/nacrelaw10.NvmCopies", spec := "nvmCopies", inPlace := ["maps.clone"], recurses := true, plainKeys := false, apart := false }
def NvmCopiesSaid : Prop := nvmCopiesRow.holds Try.pinned (OpenSpec.ofChange nvmCopiesSpec)

/-- ITS FALSE NEIGHBOUR: 'it returns false'. Refute it at one input. -/
def nvmCopiesWrong : ChangeSpec := { name := "nvmCopies", fn := fun _ => fun
  | [d1, d2] => { results := [.lit (.bool false)], args := [d1, d2] }
  | _ => none }
def NvmCopiesWrongFalsely : Prop := nvmCopiesRow.holds Try.pinned (OpenSpec.ofChange nvmCopiesWrong)

/- THE SECOND FORM. 'bulk': how many values and letters a reading holds, each counted each time it is reached (what is shared counts as often as it is met; a slice's spare places count too). A statement '..UptoSaid' is the law's where the arguments, and the package variables that the reading takes, are together of bulk at most 1048576: NARROWER than '..Said'. Prove '..Said' where nothing that the law and all that it calls make is longer than what came in: it says more and counts as full. Else prove '..UptoSaid'. A law counts once. -/
mutual
def uptoBulk {H : Type} : DataW H → Nat
  | .lit (.string bytes) => bytes.length + 1
  | .lit _ => 1
  | .nil => 1
  | .ptr d => uptoBulk d + 1
  | .slice elems spare => uptoBulkAll elems + uptoBulkAll spare + 1
  | .agg parts => uptoBulkAll parts + 1
  | .iface _ d => uptoBulk d + 1
  | .map entries => uptoBulkEntries entries + 1
  | .held _ => 1
def uptoBulkAll {H : Type} : List (DataW H) → Nat
  | [] => 0
  | d :: r => uptoBulk d + uptoBulkAll r
def uptoBulkEntries {H : Type} : List (Lit × DataW H) → Nat
  | [] => 0
  | x :: r => uptoBulkEntry x + uptoBulkEntries r
def uptoBulkEntry {H : Type} : Lit × DataW H → Nat
  | (.string bytes, d) => bytes.length + uptoBulk d + 1
  | (_, d) => uptoBulk d + 1
 end
def uptoSmall : (H : Type) → List (DataW H) → Bool := fun _ ds => decide (uptoBulkAll ds ≤ 1048576)
def OpenSpec.upto (s : _root_.Go.ChangeSpec) : _root_.Go.OpenSpec := { _root_.Go.OpenSpec.ofChange s with cond := some uptoSmall }

/-- 'nacrelaw10.NvmFences', WHERE WHAT IT READS IS OF BULK AT MOST 1048576: true; the input reads as it did. -/
def nvmFencesUptoRow : OpenClaim := { program := "ytdfjgaeiodjmnaa", sum := "e4d2baea2c62e5505ed2851d6a154f9d3c3f47fa194dcd2d5767cc47433a60cc", func := "nacre/nacrelaw10.NvmFences", spec := "nvmFences", recurses := true, plainKeys := false, apart := false, narrowed := true }
def NvmFencesUptoSaid : Prop := nvmFencesUptoRow.holds Try.pinned (OpenSpec.upto nvmFencesSpec)

/-- 'nacrelaw10.NvmActs', WHERE WHAT IT READS IS OF BULK AT MOST 1048576: true; the input reads as it did. -/
def nvmActsUptoRow : OpenClaim := { program := "ytdfjgaeiodjmnaa", sum := "e4d2baea2c62e5505ed2851d6a154f9d3c3f47fa194dcd2d5767cc47433a60cc", func := "nacre/nacrelaw10.NvmActs", spec := "nvmActs", recurses := true, plainKeys := false, apart := false, narrowed := true }
def NvmActsUptoSaid : Prop := nvmActsUptoRow.holds Try.pinned (OpenSpec.upto nvmActsSpec)

/-- 'nacrelaw10.NvmKeeps', WHERE WHAT IT READS IS OF BULK AT MOST 1048576: true; the input reads as it did. -/
def nvmKeepsUptoRow : OpenClaim := { program := "ytdfjgaeiodjmnaa", sum := "e4d2baea2c62e5505ed2851d6a154f9d3c3f47fa194dcd2d5767cc47433a60cc", func := "nacre/nacrelaw10.NvmKeeps", spec := "nvmKeeps", recurses := true, plainKeys := false, apart := false, narrowed := true }
def NvmKeepsUptoSaid : Prop := nvmKeepsUptoRow.holds Try.pinned (OpenSpec.upto nvmKeepsSpec)

/-- 'nacrelaw10.NvmCopies', WHERE WHAT IT READS IS OF BULK AT MOST 1048576: true; the input reads as it did. -/
def nvmCopiesUptoRow : OpenClaim := { program := "ytdfjgaeiodjmnaa", sum := "e4d2baea2c62e5505ed2851d6a154f9d3c3f47fa194dcd2d5767cc47433a60cc", func := "nacre/nacrelaw10.NvmCopies", spec := "nvmCopies", inPlace := ["maps.clone"], recurses := true, plainKeys := false, apart := false, narrowed := true }
def NvmCopiesUptoSaid : Prop := nvmCopiesUptoRow.holds Try.pinned (OpenSpec.upto nvmCopiesSpec)

end Rows
end Go.Proofs.Ytdfjgaeiodjmnaa
