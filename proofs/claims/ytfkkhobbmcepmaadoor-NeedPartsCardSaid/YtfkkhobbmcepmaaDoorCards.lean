/-
  DERIVED. GIVEN WITH THE SEED: THE CARDS: each row of YtfkkhobbmcepmaaDoorRows.lean that lists a variable, with what it lists TIED to the program's text (the seventh form; the later family's looks); each row that meets fmt, with fmt's text TOLD by the authors' own Lean function (tested against real Go, not proved from fmt's source: count such statements apart). THE CARD IS WHAT COUNTS. Prove the row's statement (the work); the ties are given (YtfkkhobbmcepmaaDoorTie.lean); close each card by the builder's one call (the guide's Derived/Test/ToyasCard.lean, 'card_holds'). Laid BY PROGRAM, IN A SANDBOX (cutbox-door.mjs). By AI agents, Wed Nov 11 2026. No macro, syntax, notation, axiom, sorry.
-/
import Derived.Test.YtfkkhobbmcepmaaDoorRows
import GoSem.ClaimSeven
namespace Go.Proofs.YtfkkhobbmcepmaaDoor
namespace Rows

/-- THE TIED CARD OF 'morainelaw13.NeedNoughts'. -/
def needNoughtsCard : Claim7 := { stood := { row := needNoughtsRow, standIns := [], harness := (true, "3030fb54464606f17bc49ff2dc53c88117cabb58302757deb154b6b42c388947"), looks := false }, kinds := [], alts := [], laidByText := true, laidKinds := [.data, .pinned], laidTests := true, laidLooks := .later }
def NeedNoughtsCardSaid : Prop := Claim7.holds Tryd.pinned (.plain (OpenSpec.ofChange needNoughtsSpec)) needNoughtsCard

/-- THE TIED CARD OF 'morainelaw13.NeedRoot'. -/
def needRootCard : Claim7 := { stood := { row := needRootRow, standIns := [], harness := (true, "3030fb54464606f17bc49ff2dc53c88117cabb58302757deb154b6b42c388947"), looks := false }, kinds := [], alts := [], laidByText := true, laidKinds := [.data, .pinned], laidTests := true, laidLooks := .later }
def NeedRootCardSaid : Prop := Claim7.holds Tryd.pinned (.plain (OpenSpec.ofChange needRootSpec)) needRootCard

/-- THE TIED CARD OF 'morainelaw13.NeedParts'. -/
def needPartsCard : Claim7 := { stood := { row := needPartsRow, standIns := [], harness := (true, "3030fb54464606f17bc49ff2dc53c88117cabb58302757deb154b6b42c388947"), looks := false }, kinds := [], alts := [], laidByText := true, laidKinds := [.data, .pinned], laidTests := true, laidLooks := .later }
def NeedPartsCardSaid : Prop := Claim7.holds Tryd.pinned (.plain (OpenSpec.ofChange needPartsSpec)) needPartsCard

/-- THE SECOND FORM's CARD OF 'morainelaw13.NeedNoughts'. -/
def needNoughtsUptoCard : Claim7 := { stood := { row := needNoughtsUptoRow, standIns := [], harness := (true, "3030fb54464606f17bc49ff2dc53c88117cabb58302757deb154b6b42c388947"), looks := false }, kinds := [], alts := [], laidByText := true, laidKinds := [.data, .pinned], laidTests := true, laidLooks := .later }
def NeedNoughtsUptoCardSaid : Prop := Claim7.holds Tryd.pinned (.plain (OpenSpec.upto needNoughtsSpec)) needNoughtsUptoCard

/-- THE SECOND FORM's CARD OF 'morainelaw13.NeedRoot'. -/
def needRootUptoCard : Claim7 := { stood := { row := needRootUptoRow, standIns := [], harness := (true, "3030fb54464606f17bc49ff2dc53c88117cabb58302757deb154b6b42c388947"), looks := false }, kinds := [], alts := [], laidByText := true, laidKinds := [.data, .pinned], laidTests := true, laidLooks := .later }
def NeedRootUptoCardSaid : Prop := Claim7.holds Tryd.pinned (.plain (OpenSpec.upto needRootSpec)) needRootUptoCard

/-- THE SECOND FORM's CARD OF 'morainelaw13.NeedParts'. -/
def needPartsUptoCard : Claim7 := { stood := { row := needPartsUptoRow, standIns := [], harness := (true, "3030fb54464606f17bc49ff2dc53c88117cabb58302757deb154b6b42c388947"), looks := false }, kinds := [], alts := [], laidByText := true, laidKinds := [.data, .pinned], laidTests := true, laidLooks := .later }
def NeedPartsUptoCardSaid : Prop := Claim7.holds Tryd.pinned (.plain (OpenSpec.upto needPartsSpec)) needPartsUptoCard
end Rows
end Go.Proofs.YtfkkhobbmcepmaaDoor
