/-
  DERIVED. GIVEN WITH THE SEED: THE CARDS: each row of YthmfhhkedmloeaaDoorRows.lean that lists a variable, with what it lists TIED to the program's text (the seventh form; the later family's looks); each row that meets fmt, with fmt's text TOLD by the authors' own Lean function (tested against real Go, not proved from fmt's source: count such statements apart). THE CARD IS WHAT COUNTS. Prove the row's statement (the work); the ties are given (YthmfhhkedmloeaaDoorTie.lean); close each card by the builder's one call (the guide's Derived/Test/ToyasCard.lean, 'card_holds'). Laid BY PROGRAM, IN A SANDBOX (cutbox-door.mjs). By AI agents, Wed Nov 11 2026. No macro, syntax, notation, axiom, sorry.
-/
import Derived.Test.YthmfhhkedmloeaaDoorRows
import GoSem.ClaimSeven
namespace Go.Proofs.YthmfhhkedmloeaaDoor
namespace Rows

/-- THE TIED CARD OF 'morainelaw14.InodeRecords'. -/
def inodeRecordsCard : Claim7 := { stood := { row := inodeRecordsRow, standIns := [], harness := (true, "5606bf405fe27e6fa67aa458fe3b15c303eeb9c3fca9149b0d9963640a9252ab"), looks := false }, kinds := [], alts := [], laidByText := true, laidKinds := [.data, .pinned], laidTests := true, laidLooks := .later }
def InodeRecordsCardSaid : Prop := Claim7.holds Tryd.pinned (.plain (OpenSpec.ofChange inodeRecordsSpec)) inodeRecordsCard

/-- THE TIED CARD OF 'morainelaw14.InodeTurned'. -/
def inodeTurnedCard : Claim7 := { stood := { row := inodeTurnedRow, standIns := [], harness := (true, "5606bf405fe27e6fa67aa458fe3b15c303eeb9c3fca9149b0d9963640a9252ab"), looks := false }, kinds := [], alts := [], laidByText := true, laidKinds := [.data, .pinned], laidTests := true, laidLooks := .later }
def InodeTurnedCardSaid : Prop := Claim7.holds Tryd.pinned (.plain (OpenSpec.ofChange inodeTurnedSpec)) inodeTurnedCard

/-- THE TIED CARD OF 'morainelaw14.InodeBack'. -/
def inodeBackCard : Claim7 := { stood := { row := inodeBackRow, standIns := [], harness := (true, "5606bf405fe27e6fa67aa458fe3b15c303eeb9c3fca9149b0d9963640a9252ab"), looks := false }, kinds := [], alts := [], laidByText := true, laidKinds := [.data, .pinned], laidTests := true, laidLooks := .later }
def InodeBackCardSaid : Prop := Claim7.holds Tryd.pinned (.plain (OpenSpec.ofChange inodeBackSpec)) inodeBackCard

/-- THE SECOND FORM's CARD OF 'morainelaw14.InodeRecords'. -/
def inodeRecordsUptoCard : Claim7 := { stood := { row := inodeRecordsUptoRow, standIns := [], harness := (true, "5606bf405fe27e6fa67aa458fe3b15c303eeb9c3fca9149b0d9963640a9252ab"), looks := false }, kinds := [], alts := [], laidByText := true, laidKinds := [.data, .pinned], laidTests := true, laidLooks := .later }
def InodeRecordsUptoCardSaid : Prop := Claim7.holds Tryd.pinned (.plain (OpenSpec.upto inodeRecordsSpec)) inodeRecordsUptoCard

/-- THE SECOND FORM's CARD OF 'morainelaw14.InodeTurned'. -/
def inodeTurnedUptoCard : Claim7 := { stood := { row := inodeTurnedUptoRow, standIns := [], harness := (true, "5606bf405fe27e6fa67aa458fe3b15c303eeb9c3fca9149b0d9963640a9252ab"), looks := false }, kinds := [], alts := [], laidByText := true, laidKinds := [.data, .pinned], laidTests := true, laidLooks := .later }
def InodeTurnedUptoCardSaid : Prop := Claim7.holds Tryd.pinned (.plain (OpenSpec.upto inodeTurnedSpec)) inodeTurnedUptoCard

/-- THE SECOND FORM's CARD OF 'morainelaw14.InodeBack'. -/
def inodeBackUptoCard : Claim7 := { stood := { row := inodeBackUptoRow, standIns := [], harness := (true, "5606bf405fe27e6fa67aa458fe3b15c303eeb9c3fca9149b0d9963640a9252ab"), looks := false }, kinds := [], alts := [], laidByText := true, laidKinds := [.data, .pinned], laidTests := true, laidLooks := .later }
def InodeBackUptoCardSaid : Prop := Claim7.holds Tryd.pinned (.plain (OpenSpec.upto inodeBackSpec)) inodeBackUptoCard
end Rows
end Go.Proofs.YthmfhhkedmloeaaDoor
