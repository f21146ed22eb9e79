/-
  DERIVED. GIVEN WITH THE SEED: THE CARDS: each row of YthahdombnmkokaaDoorRows.lean that lists a variable, with what it lists TIED to the program's text (the seventh form; the later family's looks); each row that meets fmt, with fmt's text TOLD by the authors' own Lean function (tested against real Go, not proved from fmt's source: count such statements apart). THE CARD IS WHAT COUNTS. Prove the row's statement (the work); the ties are given (YthahdombnmkokaaDoorTie.lean); close each card by the builder's one call (the guide's Derived/Test/ToyasCard.lean, 'card_holds'). Laid BY PROGRAM, IN A SANDBOX (cutbox-door.mjs). By AI agents, Wed Nov 11 2026. No macro, syntax, notation, axiom, sorry.
-/
import Derived.Test.YthahdombnmkokaaDoorRows
import GoSem.ClaimSeven
namespace Go.Proofs.YthahdombnmkokaaDoor
namespace Rows

/-- THE TIED CARD OF 'morainelaw17.FileBytes'. -/
def fileBytesCard : Claim7 := { stood := { row := fileBytesRow, standIns := [], harness := (true, "94ccbc0aa4bb129c683ee7d7d9effd1550450df00f1e8e368796d5036e1021c8"), looks := true }, kinds := [], alts := [], laidByText := true, laidKinds := [.data, .pinned], laidTests := true, laidLooks := .later }
def FileBytesCardSaid : Prop := Claim7.holds Tryd.pinned (.plain (OpenSpec.ofChange fileBytesSpec)) fileBytesCard

/-- THE TIED CARD OF 'morainelaw17.FileParts'. -/
def filePartsCard : Claim7 := { stood := { row := filePartsRow, standIns := [], harness := (true, "94ccbc0aa4bb129c683ee7d7d9effd1550450df00f1e8e368796d5036e1021c8"), looks := true }, kinds := [], alts := [], laidByText := true, laidKinds := [.data, .pinned], laidTests := true, laidLooks := .later }
def FilePartsCardSaid : Prop := Claim7.holds Tryd.pinned (.plain (OpenSpec.ofChange filePartsSpec)) filePartsCard

/-- THE TIED CARD OF 'morainelaw17.FileErrors'. -/
def fileErrorsCard : Claim7 := { stood := { row := fileErrorsRow, standIns := [], harness := (true, "94ccbc0aa4bb129c683ee7d7d9effd1550450df00f1e8e368796d5036e1021c8"), looks := true }, kinds := [], alts := [], laidByText := true, laidKinds := [.data, .pinned], laidTests := true, laidLooks := .later }
def FileErrorsCardSaid : Prop := Claim7.holds Tryd.pinned (.plain (OpenSpec.ofChange fileErrorsSpec)) fileErrorsCard

/-- THE TIED CARD OF 'morainelaw17.FileClones'. -/
def fileClonesCard : Claim7 := { stood := { row := fileClonesRow, standIns := [], harness := (true, "94ccbc0aa4bb129c683ee7d7d9effd1550450df00f1e8e368796d5036e1021c8"), looks := true }, kinds := [], alts := [], laidByText := true, laidKinds := [.data, .pinned], laidTests := true, laidLooks := .later }
def FileClonesCardSaid : Prop := Claim7.holds Tryd.pinned (.plain (OpenSpec.ofChange fileClonesSpec)) fileClonesCard

/-- THE SECOND FORM's CARD OF 'morainelaw17.FileBytes'. -/
def fileBytesUptoCard : Claim7 := { stood := { row := fileBytesUptoRow, standIns := [], harness := (true, "94ccbc0aa4bb129c683ee7d7d9effd1550450df00f1e8e368796d5036e1021c8"), looks := true }, kinds := [], alts := [], laidByText := true, laidKinds := [.data, .pinned], laidTests := true, laidLooks := .later }
def FileBytesUptoCardSaid : Prop := Claim7.holds Tryd.pinned (.plain (OpenSpec.upto fileBytesSpec)) fileBytesUptoCard

/-- THE SECOND FORM's CARD OF 'morainelaw17.FileParts'. -/
def filePartsUptoCard : Claim7 := { stood := { row := filePartsUptoRow, standIns := [], harness := (true, "94ccbc0aa4bb129c683ee7d7d9effd1550450df00f1e8e368796d5036e1021c8"), looks := true }, kinds := [], alts := [], laidByText := true, laidKinds := [.data, .pinned], laidTests := true, laidLooks := .later }
def FilePartsUptoCardSaid : Prop := Claim7.holds Tryd.pinned (.plain (OpenSpec.upto filePartsSpec)) filePartsUptoCard

/-- THE SECOND FORM's CARD OF 'morainelaw17.FileErrors'. -/
def fileErrorsUptoCard : Claim7 := { stood := { row := fileErrorsUptoRow, standIns := [], harness := (true, "94ccbc0aa4bb129c683ee7d7d9effd1550450df00f1e8e368796d5036e1021c8"), looks := true }, kinds := [], alts := [], laidByText := true, laidKinds := [.data, .pinned], laidTests := true, laidLooks := .later }
def FileErrorsUptoCardSaid : Prop := Claim7.holds Tryd.pinned (.plain (OpenSpec.upto fileErrorsSpec)) fileErrorsUptoCard

/-- THE SECOND FORM's CARD OF 'morainelaw17.FileClones'. -/
def fileClonesUptoCard : Claim7 := { stood := { row := fileClonesUptoRow, standIns := [], harness := (true, "94ccbc0aa4bb129c683ee7d7d9effd1550450df00f1e8e368796d5036e1021c8"), looks := true }, kinds := [], alts := [], laidByText := true, laidKinds := [.data, .pinned], laidTests := true, laidLooks := .later }
def FileClonesUptoCardSaid : Prop := Claim7.holds Tryd.pinned (.plain (OpenSpec.upto fileClonesSpec)) fileClonesUptoCard
end Rows
end Go.Proofs.YthahdombnmkokaaDoor
