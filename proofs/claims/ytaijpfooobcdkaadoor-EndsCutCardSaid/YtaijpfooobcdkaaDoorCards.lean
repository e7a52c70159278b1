/-
  DERIVED. GIVEN WITH THE SEED: THE CARDS: each row of YtaijpfooobcdkaaDoorRows.lean that lists a variable, with what it lists TIED to the program's text (the seventh form; the later family's looks); each row that meets fmt, with fmt's text TOLD by the authors' own Lean function (tested against real Go, not proved from fmt's source: count such statements apart). THE CARD IS WHAT COUNTS. Prove the row's statement (the work); the ties are given (YtaijpfooobcdkaaDoorTie.lean); close each card by the builder's one call (the guide's Derived/Test/ToyasCard.lean, 'card_holds'). Laid BY PROGRAM, IN A SANDBOX (cutbox-door.mjs). By AI agents, Wed Nov 11 2026. No macro, syntax, notation, axiom, sorry.
-/
import Derived.Test.YtaijpfooobcdkaaDoorRows
import GoSem.ClaimSeven
namespace Go.Proofs.YtaijpfooobcdkaaDoor
namespace Rows

/-- THE TIED CARD OF 'camletlaw02.EndsTells'. -/
def endsTellsCard : Claim7 := { stood := { row := endsTellsRow, standIns := [], harness := (true, "4c27402df0772f884700a537185d59cf07af4db26ed704296c99bd0958c63ef7"), looks := false }, kinds := [], alts := [], laidByText := true, laidKinds := [.data, .data, .data, .data], laidTests := true, laidLooks := .later }
def EndsTellsCardSaid : Prop := Claim7.holds Tryd.pinned (.plain (OpenSpec.ofChange endsTellsSpec)) endsTellsCard

/-- THE TIED CARD OF 'camletlaw02.EndsAgree'. -/
def endsAgreeCard : Claim7 := { stood := { row := endsAgreeRow, standIns := [], harness := (true, "4c27402df0772f884700a537185d59cf07af4db26ed704296c99bd0958c63ef7"), looks := false }, kinds := [], alts := [], laidByText := true, laidKinds := [.data, .data, .data, .data], laidTests := true, laidLooks := .later }
def EndsAgreeCardSaid : Prop := Claim7.holds Tryd.pinned (.plain (OpenSpec.ofChange endsAgreeSpec)) endsAgreeCard

/-- THE TIED CARD OF 'camletlaw02.EndsCut'. -/
def endsCutCard : Claim7 := { stood := { row := endsCutRow, standIns := [], harness := (true, "4c27402df0772f884700a537185d59cf07af4db26ed704296c99bd0958c63ef7"), looks := false }, kinds := [], alts := [], laidByText := true, laidKinds := [.data, .data, .data, .data], laidTests := true, laidLooks := .later }
def EndsCutCardSaid : Prop := Claim7.holds Tryd.pinned (.plain (OpenSpec.ofChange endsCutSpec)) endsCutCard

/-- THE SECOND FORM's CARD OF 'camletlaw02.EndsTells'. -/
def endsTellsUptoCard : Claim7 := { stood := { row := endsTellsUptoRow, standIns := [], harness := (true, "4c27402df0772f884700a537185d59cf07af4db26ed704296c99bd0958c63ef7"), looks := false }, kinds := [], alts := [], laidByText := true, laidKinds := [.data, .data, .data, .data], laidTests := true, laidLooks := .later }
def EndsTellsUptoCardSaid : Prop := Claim7.holds Tryd.pinned (.plain (OpenSpec.upto endsTellsSpec)) endsTellsUptoCard

/-- THE SECOND FORM's CARD OF 'camletlaw02.EndsAgree'. -/
def endsAgreeUptoCard : Claim7 := { stood := { row := endsAgreeUptoRow, standIns := [], harness := (true, "4c27402df0772f884700a537185d59cf07af4db26ed704296c99bd0958c63ef7"), looks := false }, kinds := [], alts := [], laidByText := true, laidKinds := [.data, .data, .data, .data], laidTests := true, laidLooks := .later }
def EndsAgreeUptoCardSaid : Prop := Claim7.holds Tryd.pinned (.plain (OpenSpec.upto endsAgreeSpec)) endsAgreeUptoCard

/-- THE SECOND FORM's CARD OF 'camletlaw02.EndsCut'. -/
def endsCutUptoCard : Claim7 := { stood := { row := endsCutUptoRow, standIns := [], harness := (true, "4c27402df0772f884700a537185d59cf07af4db26ed704296c99bd0958c63ef7"), looks := false }, kinds := [], alts := [], laidByText := true, laidKinds := [.data, .data, .data, .data], laidTests := true, laidLooks := .later }
def EndsCutUptoCardSaid : Prop := Claim7.holds Tryd.pinned (.plain (OpenSpec.upto endsCutSpec)) endsCutUptoCard
end Rows
end Go.Proofs.YtaijpfooobcdkaaDoor
