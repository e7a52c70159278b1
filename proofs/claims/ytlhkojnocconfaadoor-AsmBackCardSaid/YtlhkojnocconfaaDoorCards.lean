/-
  DERIVED. GIVEN WITH THE SEED: THE CARDS: each row of YtlhkojnocconfaaDoorRows.lean that lists a variable, with what it lists TIED to the program's text (the seventh form; the later family's looks); each row that meets fmt, with fmt's text TOLD by the authors' own Lean function (tested against real Go, not proved from fmt's source: count such statements apart). THE CARD IS WHAT COUNTS. Prove the row's statement (the work); the ties are given (YtlhkojnocconfaaDoorTie.lean); close each card by the builder's one call (the guide's Derived/Test/ToyasCard.lean, 'card_holds'). Laid BY PROGRAM, IN A SANDBOX (cutbox-door.mjs). By AI agents, Wed Nov 11 2026. No macro, syntax, notation, axiom, sorry.
-/
import Derived.Test.YtlhkojnocconfaaDoorRows
import GoSem.ClaimSeven
namespace Go.Proofs.YtlhkojnocconfaaDoor
namespace Rows

/-- THE TIED CARD OF 'camletlaw40.AsmWords'. -/
def asmWordsCard : Claim7 := { stood := { row := asmWordsRow, standIns := [], harness := (true, "9b1767a3c51ed3968ccaac5260c0fed597200bef15e1b3d391be58b7e35f9792"), looks := true }, kinds := [], alts := [], laidByText := true, laidKinds := [.data, .data, .data], laidTests := true, laidLooks := .later }
def AsmWordsCardSaid : Prop := Claim7.holds Tryd.pinned (.plain (OpenSpec.ofChange asmWordsSpec)) asmWordsCard

/-- THE TIED CARD OF 'camletlaw40.AsmNames'. -/
def asmNamesCard : Claim7 := { stood := { row := asmNamesRow, standIns := [], harness := (true, "9b1767a3c51ed3968ccaac5260c0fed597200bef15e1b3d391be58b7e35f9792"), looks := true }, kinds := [], alts := [], laidByText := true, laidKinds := [.data, .data, .data], laidTests := true, laidLooks := .later }
def AsmNamesCardSaid : Prop := Claim7.holds Tryd.pinned (.plain (OpenSpec.ofChange asmNamesSpec)) asmNamesCard

/-- THE TIED CARD OF 'camletlaw40.AsmAhead'. -/
def asmAheadCard : Claim7 := { stood := { row := asmAheadRow, standIns := [], harness := (true, "9b1767a3c51ed3968ccaac5260c0fed597200bef15e1b3d391be58b7e35f9792"), looks := true }, kinds := [], alts := [], laidByText := true, laidKinds := [.data, .data, .data], laidTests := true, laidLooks := .later }
def AsmAheadCardSaid : Prop := Claim7.holds Tryd.pinned (.plain (OpenSpec.ofChange asmAheadSpec)) asmAheadCard

/-- THE TIED CARD OF 'camletlaw40.AsmWays'. -/
def asmWaysCard : Claim7 := { stood := { row := asmWaysRow, standIns := [], harness := (true, "9b1767a3c51ed3968ccaac5260c0fed597200bef15e1b3d391be58b7e35f9792"), looks := true }, kinds := [], alts := [], laidByText := true, laidKinds := [.data, .data, .data], laidTests := true, laidLooks := .later }
def AsmWaysCardSaid : Prop := Claim7.holds Tryd.pinned (.plain (OpenSpec.ofChange asmWaysSpec)) asmWaysCard

/-- THE TIED CARD OF 'camletlaw40.AsmBack'. -/
def asmBackCard : Claim7 := { stood := { row := asmBackRow, standIns := [], harness := (true, "9b1767a3c51ed3968ccaac5260c0fed597200bef15e1b3d391be58b7e35f9792"), looks := true }, kinds := [], alts := [], laidByText := true, laidKinds := [.data, .data, .data, .sentinel, .sentinel], laidTests := true, laidLooks := .later }
def AsmBackCardSaid : Prop := Claim7.holds Tryd.pinned (.plain (OpenSpec.ofChange asmBackSpec)) asmBackCard

/-- THE SECOND FORM's CARD OF 'camletlaw40.AsmWords'. -/
def asmWordsUptoCard : Claim7 := { stood := { row := asmWordsUptoRow, standIns := [], harness := (true, "9b1767a3c51ed3968ccaac5260c0fed597200bef15e1b3d391be58b7e35f9792"), looks := true }, kinds := [], alts := [], laidByText := true, laidKinds := [.data, .data, .data], laidTests := true, laidLooks := .later }
def AsmWordsUptoCardSaid : Prop := Claim7.holds Tryd.pinned (.plain (OpenSpec.upto asmWordsSpec)) asmWordsUptoCard

/-- THE SECOND FORM's CARD OF 'camletlaw40.AsmNames'. -/
def asmNamesUptoCard : Claim7 := { stood := { row := asmNamesUptoRow, standIns := [], harness := (true, "9b1767a3c51ed3968ccaac5260c0fed597200bef15e1b3d391be58b7e35f9792"), looks := true }, kinds := [], alts := [], laidByText := true, laidKinds := [.data, .data, .data], laidTests := true, laidLooks := .later }
def AsmNamesUptoCardSaid : Prop := Claim7.holds Tryd.pinned (.plain (OpenSpec.upto asmNamesSpec)) asmNamesUptoCard

/-- THE SECOND FORM's CARD OF 'camletlaw40.AsmAhead'. -/
def asmAheadUptoCard : Claim7 := { stood := { row := asmAheadUptoRow, standIns := [], harness := (true, "9b1767a3c51ed3968ccaac5260c0fed597200bef15e1b3d391be58b7e35f9792"), looks := true }, kinds := [], alts := [], laidByText := true, laidKinds := [.data, .data, .data], laidTests := true, laidLooks := .later }
def AsmAheadUptoCardSaid : Prop := Claim7.holds Tryd.pinned (.plain (OpenSpec.upto asmAheadSpec)) asmAheadUptoCard

/-- THE SECOND FORM's CARD OF 'camletlaw40.AsmWays'. -/
def asmWaysUptoCard : Claim7 := { stood := { row := asmWaysUptoRow, standIns := [], harness := (true, "9b1767a3c51ed3968ccaac5260c0fed597200bef15e1b3d391be58b7e35f9792"), looks := true }, kinds := [], alts := [], laidByText := true, laidKinds := [.data, .data, .data], laidTests := true, laidLooks := .later }
def AsmWaysUptoCardSaid : Prop := Claim7.holds Tryd.pinned (.plain (OpenSpec.upto asmWaysSpec)) asmWaysUptoCard

/-- THE SECOND FORM's CARD OF 'camletlaw40.AsmBack'. -/
def asmBackUptoCard : Claim7 := { stood := { row := asmBackUptoRow, standIns := [], harness := (true, "9b1767a3c51ed3968ccaac5260c0fed597200bef15e1b3d391be58b7e35f9792"), looks := true }, kinds := [], alts := [], laidByText := true, laidKinds := [.data, .data, .data, .sentinel, .sentinel], laidTests := true, laidLooks := .later }
def AsmBackUptoCardSaid : Prop := Claim7.holds Tryd.pinned (.plain (OpenSpec.upto asmBackSpec)) asmBackUptoCard
end Rows
end Go.Proofs.YtlhkojnocconfaaDoor
