/-
  DERIVED. GIVEN WITH THE SEED: THE CARDS: each row of YtpdfkhglgamhiaaDoorRows.lean that lists a variable, with what it lists TIED to the program's text (the seventh form; the later family's looks); each row that meets fmt, with fmt's text TOLD by the authors' own Lean function (tested against real Go, not proved from fmt's source: count such statements apart). THE CARD IS WHAT COUNTS. Prove the row's statement (the work); the ties are given (YtpdfkhglgamhiaaDoorTie.lean); close each card by the builder's one call (the guide's Derived/Test/ToyasCard.lean, 'card_holds'). Laid BY PROGRAM, IN A SANDBOX (cutbox-door.mjs). By AI agents, Wed Nov 11 2026. No macro, syntax, notation, axiom, sorry.
-/
import Derived.Test.YtpdfkhglgamhiaaDoorRows
import GoSem.ClaimSeven
namespace Go.Proofs.YtpdfkhglgamhiaaDoor
namespace Rows

/-- THE TIED CARD OF 'morainelaw01.BitsXor'. -/
def bitsXorCard : Claim7 := { stood := { row := bitsXorRow, standIns := [], harness := (true, "3a6ee7bdd0ad7f3c9411644aa14ae319d9fb4337a581be180d21a9ce4ce3e69a"), looks := false }, kinds := [], alts := [], laidByText := true, laidKinds := [.data, .pinned], laidTests := true, laidLooks := .later }
def BitsXorCardSaid : Prop := Claim7.holds Tryd.pinned (.plain (OpenSpec.ofChange bitsXorSpec)) bitsXorCard

/-- THE TIED CARD OF 'morainelaw01.BitsBytes'. -/
def bitsBytesCard : Claim7 := { stood := { row := bitsBytesRow, standIns := [], harness := (true, "3a6ee7bdd0ad7f3c9411644aa14ae319d9fb4337a581be180d21a9ce4ce3e69a"), looks := false }, kinds := [], alts := [], laidByText := true, laidKinds := [.data, .pinned], laidTests := true, laidLooks := .later }
def BitsBytesCardSaid : Prop := Claim7.holds Tryd.pinned (.plain (OpenSpec.ofChange bitsBytesSpec)) bitsBytesCard

/-- THE TIED CARD OF 'morainelaw01.BitsPad'. -/
def bitsPadCard : Claim7 := { stood := { row := bitsPadRow, standIns := [], harness := (true, "3a6ee7bdd0ad7f3c9411644aa14ae319d9fb4337a581be180d21a9ce4ce3e69a"), looks := false }, kinds := [], alts := [], laidByText := true, laidKinds := [.data, .pinned], laidTests := true, laidLooks := .later }
def BitsPadCardSaid : Prop := Claim7.holds Tryd.pinned (.plain (OpenSpec.ofChange bitsPadSpec)) bitsPadCard

/-- THE SECOND FORM's CARD OF 'morainelaw01.BitsXor'. -/
def bitsXorUptoCard : Claim7 := { stood := { row := bitsXorUptoRow, standIns := [], harness := (true, "3a6ee7bdd0ad7f3c9411644aa14ae319d9fb4337a581be180d21a9ce4ce3e69a"), looks := false }, kinds := [], alts := [], laidByText := true, laidKinds := [.data, .pinned], laidTests := true, laidLooks := .later }
def BitsXorUptoCardSaid : Prop := Claim7.holds Tryd.pinned (.plain (OpenSpec.upto bitsXorSpec)) bitsXorUptoCard

/-- THE SECOND FORM's CARD OF 'morainelaw01.BitsBytes'. -/
def bitsBytesUptoCard : Claim7 := { stood := { row := bitsBytesUptoRow, standIns := [], harness := (true, "3a6ee7bdd0ad7f3c9411644aa14ae319d9fb4337a581be180d21a9ce4ce3e69a"), looks := false }, kinds := [], alts := [], laidByText := true, laidKinds := [.data, .pinned], laidTests := true, laidLooks := .later }
def BitsBytesUptoCardSaid : Prop := Claim7.holds Tryd.pinned (.plain (OpenSpec.upto bitsBytesSpec)) bitsBytesUptoCard

/-- THE SECOND FORM's CARD OF 'morainelaw01.BitsPad'. -/
def bitsPadUptoCard : Claim7 := { stood := { row := bitsPadUptoRow, standIns := [], harness := (true, "3a6ee7bdd0ad7f3c9411644aa14ae319d9fb4337a581be180d21a9ce4ce3e69a"), looks := false }, kinds := [], alts := [], laidByText := true, laidKinds := [.data, .pinned], laidTests := true, laidLooks := .later }
def BitsPadUptoCardSaid : Prop := Claim7.holds Tryd.pinned (.plain (OpenSpec.upto bitsPadSpec)) bitsPadUptoCard
end Rows
end Go.Proofs.YtpdfkhglgamhiaaDoor
