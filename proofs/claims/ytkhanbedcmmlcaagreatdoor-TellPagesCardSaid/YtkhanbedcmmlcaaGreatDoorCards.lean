/-
  DERIVED. GIVEN WITH THE SEED: THE CARDS: each row of YtkhanbedcmmlcaaGreatDoorRows.lean that lists a variable, with what it lists TIED to the program's text (the seventh form; the later family's looks); each row that meets fmt, with fmt's text TOLD by the authors' own Lean function (tested against real Go, not proved from fmt's source: count such statements apart). THE CARD IS WHAT COUNTS. Prove the row's statement (the work); the ties are given (YtkhanbedcmmlcaaGreatDoorTie.lean); close each card by the builder's one call (the guide's Derived/Test/ToyasCard.lean, 'card_holds'). Laid BY PROGRAM, IN A SANDBOX (cutbox-door.mjs). By AI agents, Wed Nov 11 2026. No macro, syntax, notation, axiom, sorry.
-/
import Derived.Test.YtkhanbedcmmlcaaGreatDoorRows
import GoSem.ClaimSeven
namespace Go.Proofs.YtkhanbedcmmlcaaGreatDoor
namespace Rows

/-- THE TIED CARD OF 'nacrelaw39.TellPages'. -/
def tellPagesCard : Claim7 := { stood := { row := tellPagesRow, standIns := [], harness := (true, "20afc6c6679de7777cba2472ac213b0c6886ae36f88d2c2f5ba473806d8a21da"), looks := true }, kinds := [], alts := [], laidByText := true, laidKinds := [.data, .data, .data], laidTests := true, laidLooks := .later }
def TellPagesCardSaid : Prop := Claim7.holds Tryz.pinned (.plain (OpenSpec.ofChange tellPagesSpec)) tellPagesCard

/-- THE TIED CARD OF 'nacrelaw39.TellMaps'. -/
def tellMapsCard : Claim7 := { stood := { row := tellMapsRow, standIns := [], harness := (true, "20afc6c6679de7777cba2472ac213b0c6886ae36f88d2c2f5ba473806d8a21da"), looks := true }, kinds := [], alts := [], laidByText := true, laidKinds := [.data, .data, .data], laidTests := true, laidLooks := .later }
def TellMapsCardSaid : Prop := Claim7.holds Tryz.pinned (.plain (OpenSpec.ofChange tellMapsSpec)) tellMapsCard

/-- THE SECOND FORM's CARD OF 'nacrelaw39.TellPages'. -/
def tellPagesUptoCard : Claim7 := { stood := { row := tellPagesUptoRow, standIns := [], harness := (true, "20afc6c6679de7777cba2472ac213b0c6886ae36f88d2c2f5ba473806d8a21da"), looks := true }, kinds := [], alts := [], laidByText := true, laidKinds := [.data, .data, .data], laidTests := true, laidLooks := .later }
def TellPagesUptoCardSaid : Prop := Claim7.holds Tryz.pinned (.plain (OpenSpec.upto tellPagesSpec)) tellPagesUptoCard

/-- THE SECOND FORM's CARD OF 'nacrelaw39.TellMaps'. -/
def tellMapsUptoCard : Claim7 := { stood := { row := tellMapsUptoRow, standIns := [], harness := (true, "20afc6c6679de7777cba2472ac213b0c6886ae36f88d2c2f5ba473806d8a21da"), looks := true }, kinds := [], alts := [], laidByText := true, laidKinds := [.data, .data, .data], laidTests := true, laidLooks := .later }
def TellMapsUptoCardSaid : Prop := Claim7.holds Tryz.pinned (.plain (OpenSpec.upto tellMapsSpec)) tellMapsUptoCard
end Rows
end Go.Proofs.YtkhanbedcmmlcaaGreatDoor
