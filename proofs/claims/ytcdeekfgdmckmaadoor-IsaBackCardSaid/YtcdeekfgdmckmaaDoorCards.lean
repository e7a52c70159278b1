/-
  DERIVED. GIVEN WITH THE SEED: THE CARDS: each row of YtcdeekfgdmckmaaDoorRows.lean that lists a variable, with what it lists TIED to the program's text (the seventh form; the later family's looks); each row that meets fmt, with fmt's text TOLD by the authors' own Lean function (tested against real Go, not proved from fmt's source: count such statements apart). THE CARD IS WHAT COUNTS. Prove the row's statement (the work); the ties are given (YtcdeekfgdmckmaaDoorTie.lean); close each card by the builder's one call (the guide's Derived/Test/ToyasCard.lean, 'card_holds'). Laid BY PROGRAM, IN A SANDBOX (cutbox-door.mjs). By AI agents, Wed Nov 11 2026. No macro, syntax, notation, axiom, sorry.
-/
import Derived.Test.YtcdeekfgdmckmaaDoorRows
import GoSem.ClaimSeven
namespace Go.Proofs.YtcdeekfgdmckmaaDoor
namespace Rows

/-- THE TIED CARD OF 'camletlaw39.IsaRight'. -/
def isaRightCard : Claim7 := { stood := { row := isaRightRow, standIns := [], harness := (true, "ef15254d591727eb6e21f17bcbb38cea5959875ce3d17bf2b390bbfb94d330b5"), looks := true }, kinds := [], alts := [], laidByText := true, laidKinds := [.data, .data, .data], laidTests := true, laidLooks := .later }
def IsaRightCardSaid : Prop := Claim7.holds Tryd.pinned (.plain (OpenSpec.ofChange isaRightSpec)) isaRightCard

/-- THE TIED CARD OF 'camletlaw39.IsaApart'. -/
def isaApartCard : Claim7 := { stood := { row := isaApartRow, standIns := [], harness := (true, "ef15254d591727eb6e21f17bcbb38cea5959875ce3d17bf2b390bbfb94d330b5"), looks := true }, kinds := [], alts := [], laidByText := true, laidKinds := [.data, .data, .data], laidTests := true, laidLooks := .later }
def IsaApartCardSaid : Prop := Claim7.holds Tryd.pinned (.plain (OpenSpec.ofChange isaApartSpec)) isaApartCard

/-- THE TIED CARD OF 'camletlaw39.IsaTakes'. -/
def isaTakesCard : Claim7 := { stood := { row := isaTakesRow, standIns := [], harness := (true, "ef15254d591727eb6e21f17bcbb38cea5959875ce3d17bf2b390bbfb94d330b5"), looks := true }, kinds := [], alts := [], laidByText := true, laidKinds := [.data, .data, .data], laidTests := true, laidLooks := .later }
def IsaTakesCardSaid : Prop := Claim7.holds Tryd.pinned (.plain (OpenSpec.ofChange isaTakesSpec)) isaTakesCard

/-- THE TIED CARD OF 'camletlaw39.IsaTexts'. -/
def isaTextsCard : Claim7 := { stood := { row := isaTextsRow, standIns := [], harness := (true, "ef15254d591727eb6e21f17bcbb38cea5959875ce3d17bf2b390bbfb94d330b5"), looks := true }, kinds := [], alts := [], laidByText := true, laidKinds := [.data, .data, .data, .sentinel, .sentinel], laidTests := true, laidLooks := .later }
def IsaTextsCardSaid : Prop := Claim7.holds Tryd.pinned (.plain (OpenSpec.ofChange isaTextsSpec)) isaTextsCard

/-- THE TIED CARD OF 'camletlaw39.IsaBack'. -/
def isaBackCard : Claim7 := { stood := { row := isaBackRow, standIns := [], harness := (true, "ef15254d591727eb6e21f17bcbb38cea5959875ce3d17bf2b390bbfb94d330b5"), looks := true }, kinds := [], alts := [], laidByText := true, laidKinds := [.data, .data, .data, .sentinel, .sentinel], laidTests := true, laidLooks := .later }
def IsaBackCardSaid : Prop := Claim7.holds Tryd.pinned (.plain (OpenSpec.ofChange isaBackSpec)) isaBackCard

/-- THE SECOND FORM's CARD OF 'camletlaw39.IsaRight'. -/
def isaRightUptoCard : Claim7 := { stood := { row := isaRightUptoRow, standIns := [], harness := (true, "ef15254d591727eb6e21f17bcbb38cea5959875ce3d17bf2b390bbfb94d330b5"), looks := true }, kinds := [], alts := [], laidByText := true, laidKinds := [.data, .data, .data], laidTests := true, laidLooks := .later }
def IsaRightUptoCardSaid : Prop := Claim7.holds Tryd.pinned (.plain (OpenSpec.upto isaRightSpec)) isaRightUptoCard

/-- THE SECOND FORM's CARD OF 'camletlaw39.IsaApart'. -/
def isaApartUptoCard : Claim7 := { stood := { row := isaApartUptoRow, standIns := [], harness := (true, "ef15254d591727eb6e21f17bcbb38cea5959875ce3d17bf2b390bbfb94d330b5"), looks := true }, kinds := [], alts := [], laidByText := true, laidKinds := [.data, .data, .data], laidTests := true, laidLooks := .later }
def IsaApartUptoCardSaid : Prop := Claim7.holds Tryd.pinned (.plain (OpenSpec.upto isaApartSpec)) isaApartUptoCard

/-- THE SECOND FORM's CARD OF 'camletlaw39.IsaTakes'. -/
def isaTakesUptoCard : Claim7 := { stood := { row := isaTakesUptoRow, standIns := [], harness := (true, "ef15254d591727eb6e21f17bcbb38cea5959875ce3d17bf2b390bbfb94d330b5"), looks := true }, kinds := [], alts := [], laidByText := true, laidKinds := [.data, .data, .data], laidTests := true, laidLooks := .later }
def IsaTakesUptoCardSaid : Prop := Claim7.holds Tryd.pinned (.plain (OpenSpec.upto isaTakesSpec)) isaTakesUptoCard

/-- THE SECOND FORM's CARD OF 'camletlaw39.IsaTexts'. -/
def isaTextsUptoCard : Claim7 := { stood := { row := isaTextsUptoRow, standIns := [], harness := (true, "ef15254d591727eb6e21f17bcbb38cea5959875ce3d17bf2b390bbfb94d330b5"), looks := true }, kinds := [], alts := [], laidByText := true, laidKinds := [.data, .data, .data, .sentinel, .sentinel], laidTests := true, laidLooks := .later }
def IsaTextsUptoCardSaid : Prop := Claim7.holds Tryd.pinned (.plain (OpenSpec.upto isaTextsSpec)) isaTextsUptoCard

/-- THE SECOND FORM's CARD OF 'camletlaw39.IsaBack'. -/
def isaBackUptoCard : Claim7 := { stood := { row := isaBackUptoRow, standIns := [], harness := (true, "ef15254d591727eb6e21f17bcbb38cea5959875ce3d17bf2b390bbfb94d330b5"), looks := true }, kinds := [], alts := [], laidByText := true, laidKinds := [.data, .data, .data, .sentinel, .sentinel], laidTests := true, laidLooks := .later }
def IsaBackUptoCardSaid : Prop := Claim7.holds Tryd.pinned (.plain (OpenSpec.upto isaBackSpec)) isaBackUptoCard
end Rows
end Go.Proofs.YtcdeekfgdmckmaaDoor
