/-
  DERIVED. GIVEN WITH THE SEED: THE CARDS: each row of YtloilknkhloegaaDoorRows.lean that lists a variable, with what it lists TIED to the program's text (the seventh form; the later family's looks); each row that meets fmt, with fmt's text TOLD by the authors' own Lean function (tested against real Go, not proved from fmt's source: count such statements apart). THE CARD IS WHAT COUNTS. Prove the row's statement (the work); the ties are given (YtloilknkhloegaaDoorTie.lean); close each card by the builder's one call (the guide's Derived/Test/ToyasCard.lean, 'card_holds'). Laid BY PROGRAM, IN A SANDBOX (cutbox-door.mjs). By AI agents, Wed Nov 11 2026. No macro, syntax, notation, axiom, sorry.
-/
import Derived.Test.YtloilknkhloegaaDoorRows
import GoSem.ClaimSeven
namespace Go.Proofs.YtloilknkhloegaaDoor
namespace Rows

/-- THE TIED CARD OF 'nacrelaw39.TellEvents'. -/
def tellEventsCard : Claim7 := { stood := { row := tellEventsRow, standIns := [], harness := (true, "4e54d7f1ac95aca629a95f06735c9e1c37be48aec93d6556f7881a52be6b0a32"), looks := true }, kinds := [], alts := [], laidByText := true, laidKinds := [.data, .data, .data], laidTests := true, laidLooks := .later }
def TellEventsCardSaid : Prop := Claim7.holds Tryd.pinned (.plain (OpenSpec.ofChange tellEventsSpec)) tellEventsCard

/-- THE TIED CARD OF 'nacrelaw39.TellApart'. -/
def tellApartCard : Claim7 := { stood := { row := tellApartRow, standIns := [], harness := (true, "4e54d7f1ac95aca629a95f06735c9e1c37be48aec93d6556f7881a52be6b0a32"), looks := true }, kinds := [], alts := [], laidByText := true, laidKinds := [.data, .data, .data], laidTests := true, laidLooks := .later }
def TellApartCardSaid : Prop := Claim7.holds Tryd.pinned (.plain (OpenSpec.ofChange tellApartSpec)) tellApartCard

/-- THE TIED CARD OF 'nacrelaw38.LineReads'. -/
def lineReadsCard : Claim7 := { stood := { row := lineReadsRow, standIns := [], harness := (true, "4e54d7f1ac95aca629a95f06735c9e1c37be48aec93d6556f7881a52be6b0a32"), looks := true }, kinds := [], alts := [], laidByText := true, laidKinds := [.data, .data, .data, .data, .sentinel, .sentinel, .pinned], laidTests := true, laidLooks := .later }
def LineReadsCardSaid : Prop := Claim7.holds Tryd.pinned (.plain (OpenSpec.ofChange lineReadsSpec)) lineReadsCard

/-- THE TIED CARD OF 'nacrelaw38.LineParses'. -/
def lineParsesCard : Claim7 := { stood := { row := lineParsesRow, standIns := [], harness := (true, "4e54d7f1ac95aca629a95f06735c9e1c37be48aec93d6556f7881a52be6b0a32"), looks := true }, kinds := [], alts := [], laidByText := true, laidKinds := [.data, .data, .data, .data, .sentinel, .sentinel, .pinned], laidTests := true, laidLooks := .later }
def LineParsesCardSaid : Prop := Claim7.holds Tryd.pinned (.plain (OpenSpec.ofChange lineParsesSpec)) lineParsesCard

/-- THE TIED CARD OF 'nacrelaw38.LineBack'. -/
def lineBackCard : Claim7 := { stood := { row := lineBackRow, standIns := [], harness := (true, "4e54d7f1ac95aca629a95f06735c9e1c37be48aec93d6556f7881a52be6b0a32"), looks := true }, kinds := [], alts := [], laidByText := true, laidKinds := [.data, .data, .data, .data, .sentinel, .sentinel, .pinned], laidTests := true, laidLooks := .later }
def LineBackCardSaid : Prop := Claim7.holds Tryd.pinned (.plain (OpenSpec.ofChange lineBackSpec)) lineBackCard

/-- THE SECOND FORM's CARD OF 'nacrelaw39.TellEvents'. -/
def tellEventsUptoCard : Claim7 := { stood := { row := tellEventsUptoRow, standIns := [], harness := (true, "4e54d7f1ac95aca629a95f06735c9e1c37be48aec93d6556f7881a52be6b0a32"), looks := true }, kinds := [], alts := [], laidByText := true, laidKinds := [.data, .data, .data], laidTests := true, laidLooks := .later }
def TellEventsUptoCardSaid : Prop := Claim7.holds Tryd.pinned (.plain (OpenSpec.upto tellEventsSpec)) tellEventsUptoCard

/-- THE SECOND FORM's CARD OF 'nacrelaw39.TellApart'. -/
def tellApartUptoCard : Claim7 := { stood := { row := tellApartUptoRow, standIns := [], harness := (true, "4e54d7f1ac95aca629a95f06735c9e1c37be48aec93d6556f7881a52be6b0a32"), looks := true }, kinds := [], alts := [], laidByText := true, laidKinds := [.data, .data, .data], laidTests := true, laidLooks := .later }
def TellApartUptoCardSaid : Prop := Claim7.holds Tryd.pinned (.plain (OpenSpec.upto tellApartSpec)) tellApartUptoCard

/-- THE SECOND FORM's CARD OF 'nacrelaw38.LineReads'. -/
def lineReadsUptoCard : Claim7 := { stood := { row := lineReadsUptoRow, standIns := [], harness := (true, "4e54d7f1ac95aca629a95f06735c9e1c37be48aec93d6556f7881a52be6b0a32"), looks := true }, kinds := [], alts := [], laidByText := true, laidKinds := [.data, .data, .data, .data, .sentinel, .sentinel, .pinned], laidTests := true, laidLooks := .later }
def LineReadsUptoCardSaid : Prop := Claim7.holds Tryd.pinned (.plain (OpenSpec.upto lineReadsSpec)) lineReadsUptoCard

/-- THE SECOND FORM's CARD OF 'nacrelaw38.LineParses'. -/
def lineParsesUptoCard : Claim7 := { stood := { row := lineParsesUptoRow, standIns := [], harness := (true, "4e54d7f1ac95aca629a95f06735c9e1c37be48aec93d6556f7881a52be6b0a32"), looks := true }, kinds := [], alts := [], laidByText := true, laidKinds := [.data, .data, .data, .data, .sentinel, .sentinel, .pinned], laidTests := true, laidLooks := .later }
def LineParsesUptoCardSaid : Prop := Claim7.holds Tryd.pinned (.plain (OpenSpec.upto lineParsesSpec)) lineParsesUptoCard

/-- THE SECOND FORM's CARD OF 'nacrelaw38.LineBack'. -/
def lineBackUptoCard : Claim7 := { stood := { row := lineBackUptoRow, standIns := [], harness := (true, "4e54d7f1ac95aca629a95f06735c9e1c37be48aec93d6556f7881a52be6b0a32"), looks := true }, kinds := [], alts := [], laidByText := true, laidKinds := [.data, .data, .data, .data, .sentinel, .sentinel, .pinned], laidTests := true, laidLooks := .later }
def LineBackUptoCardSaid : Prop := Claim7.holds Tryd.pinned (.plain (OpenSpec.upto lineBackSpec)) lineBackUptoCard
end Rows
end Go.Proofs.YtloilknkhloegaaDoor
