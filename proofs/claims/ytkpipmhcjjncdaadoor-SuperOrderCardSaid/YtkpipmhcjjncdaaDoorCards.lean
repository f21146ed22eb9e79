/-
  DERIVED. GIVEN WITH THE SEED: THE CARDS: each row of YtkpipmhcjjncdaaDoorRows.lean that lists a variable, with what it lists TIED to the program's text (the seventh form; the later family's looks); each row that meets fmt, with fmt's text TOLD by the authors' own Lean function (tested against real Go, not proved from fmt's source: count such statements apart). THE CARD IS WHAT COUNTS. Prove the row's statement (the work); the ties are given (YtkpipmhcjjncdaaDoorTie.lean); close each card by the builder's one call (the guide's Derived/Test/ToyasCard.lean, 'card_holds'). Laid BY PROGRAM, IN A SANDBOX (cutbox-door.mjs). By AI agents, Wed Nov 11 2026. No macro, syntax, notation, axiom, sorry.
-/
import Derived.Test.YtkpipmhcjjncdaaDoorRows
import GoSem.ClaimSeven
namespace Go.Proofs.YtkpipmhcjjncdaaDoor
namespace Rows

/-- THE TIED CARD OF 'morainelaw05.SuperTurned'. -/
def superTurnedCard : Claim7 := { stood := { row := superTurnedRow, standIns := [], harness := (true, "3999c98f634439c71a4190bb7186c8c1bf1fa0e1388be64e5d3ab91eb9fade51"), looks := false }, kinds := [], alts := [], laidByText := true, laidKinds := [.data, .pinned], laidTests := true, laidLooks := .later }
def SuperTurnedCardSaid : Prop := Claim7.holds Tryd.pinned (.plain (OpenSpec.ofChange superTurnedSpec)) superTurnedCard

/-- THE TIED CARD OF 'morainelaw05.SuperGets'. -/
def superGetsCard : Claim7 := { stood := { row := superGetsRow, standIns := [], harness := (true, "3999c98f634439c71a4190bb7186c8c1bf1fa0e1388be64e5d3ab91eb9fade51"), looks := false }, kinds := [], alts := [], laidByText := true, laidKinds := [.data, .pinned], laidTests := true, laidLooks := .later }
def SuperGetsCardSaid : Prop := Claim7.holds Tryd.pinned (.plain (OpenSpec.ofChange superGetsSpec)) superGetsCard

/-- THE TIED CARD OF 'morainelaw05.SuperPuts'. -/
def superPutsCard : Claim7 := { stood := { row := superPutsRow, standIns := [], harness := (true, "3999c98f634439c71a4190bb7186c8c1bf1fa0e1388be64e5d3ab91eb9fade51"), looks := false }, kinds := [], alts := [], laidByText := true, laidKinds := [.data, .pinned], laidTests := true, laidLooks := .later }
def SuperPutsCardSaid : Prop := Claim7.holds Tryd.pinned (.plain (OpenSpec.ofChange superPutsSpec)) superPutsCard

/-- THE TIED CARD OF 'morainelaw05.SuperBack'. -/
def superBackCard : Claim7 := { stood := { row := superBackRow, standIns := [], harness := (true, "3999c98f634439c71a4190bb7186c8c1bf1fa0e1388be64e5d3ab91eb9fade51"), looks := false }, kinds := [], alts := [], laidByText := true, laidKinds := [.data, .pinned], laidTests := true, laidLooks := .later }
def SuperBackCardSaid : Prop := Claim7.holds Tryd.pinned (.plain (OpenSpec.ofChange superBackSpec)) superBackCard

/-- THE TIED CARD OF 'morainelaw05.SuperNewest'. -/
def superNewestCard : Claim7 := { stood := { row := superNewestRow, standIns := [], harness := (true, "3999c98f634439c71a4190bb7186c8c1bf1fa0e1388be64e5d3ab91eb9fade51"), looks := false }, kinds := [], alts := [], laidByText := true, laidKinds := [.data, .pinned], laidTests := true, laidLooks := .later }
def SuperNewestCardSaid : Prop := Claim7.holds Tryd.pinned (.plain (OpenSpec.ofChange superNewestSpec)) superNewestCard

/-- THE TIED CARD OF 'morainelaw05.SuperOrder'. -/
def superOrderCard : Claim7 := { stood := { row := superOrderRow, standIns := [], harness := (true, "3999c98f634439c71a4190bb7186c8c1bf1fa0e1388be64e5d3ab91eb9fade51"), looks := false }, kinds := [], alts := [], laidByText := true, laidKinds := [.data, .pinned], laidTests := true, laidLooks := .later }
def SuperOrderCardSaid : Prop := Claim7.holds Tryd.pinned (.plain (OpenSpec.ofChange superOrderSpec)) superOrderCard

/-- THE SECOND FORM's CARD OF 'morainelaw05.SuperTurned'. -/
def superTurnedUptoCard : Claim7 := { stood := { row := superTurnedUptoRow, standIns := [], harness := (true, "3999c98f634439c71a4190bb7186c8c1bf1fa0e1388be64e5d3ab91eb9fade51"), looks := false }, kinds := [], alts := [], laidByText := true, laidKinds := [.data, .pinned], laidTests := true, laidLooks := .later }
def SuperTurnedUptoCardSaid : Prop := Claim7.holds Tryd.pinned (.plain (OpenSpec.upto superTurnedSpec)) superTurnedUptoCard

/-- THE SECOND FORM's CARD OF 'morainelaw05.SuperGets'. -/
def superGetsUptoCard : Claim7 := { stood := { row := superGetsUptoRow, standIns := [], harness := (true, "3999c98f634439c71a4190bb7186c8c1bf1fa0e1388be64e5d3ab91eb9fade51"), looks := false }, kinds := [], alts := [], laidByText := true, laidKinds := [.data, .pinned], laidTests := true, laidLooks := .later }
def SuperGetsUptoCardSaid : Prop := Claim7.holds Tryd.pinned (.plain (OpenSpec.upto superGetsSpec)) superGetsUptoCard

/-- THE SECOND FORM's CARD OF 'morainelaw05.SuperPuts'. -/
def superPutsUptoCard : Claim7 := { stood := { row := superPutsUptoRow, standIns := [], harness := (true, "3999c98f634439c71a4190bb7186c8c1bf1fa0e1388be64e5d3ab91eb9fade51"), looks := false }, kinds := [], alts := [], laidByText := true, laidKinds := [.data, .pinned], laidTests := true, laidLooks := .later }
def SuperPutsUptoCardSaid : Prop := Claim7.holds Tryd.pinned (.plain (OpenSpec.upto superPutsSpec)) superPutsUptoCard

/-- THE SECOND FORM's CARD OF 'morainelaw05.SuperBack'. -/
def superBackUptoCard : Claim7 := { stood := { row := superBackUptoRow, standIns := [], harness := (true, "3999c98f634439c71a4190bb7186c8c1bf1fa0e1388be64e5d3ab91eb9fade51"), looks := false }, kinds := [], alts := [], laidByText := true, laidKinds := [.data, .pinned], laidTests := true, laidLooks := .later }
def SuperBackUptoCardSaid : Prop := Claim7.holds Tryd.pinned (.plain (OpenSpec.upto superBackSpec)) superBackUptoCard

/-- THE SECOND FORM's CARD OF 'morainelaw05.SuperNewest'. -/
def superNewestUptoCard : Claim7 := { stood := { row := superNewestUptoRow, standIns := [], harness := (true, "3999c98f634439c71a4190bb7186c8c1bf1fa0e1388be64e5d3ab91eb9fade51"), looks := false }, kinds := [], alts := [], laidByText := true, laidKinds := [.data, .pinned], laidTests := true, laidLooks := .later }
def SuperNewestUptoCardSaid : Prop := Claim7.holds Tryd.pinned (.plain (OpenSpec.upto superNewestSpec)) superNewestUptoCard

/-- THE SECOND FORM's CARD OF 'morainelaw05.SuperOrder'. -/
def superOrderUptoCard : Claim7 := { stood := { row := superOrderUptoRow, standIns := [], harness := (true, "3999c98f634439c71a4190bb7186c8c1bf1fa0e1388be64e5d3ab91eb9fade51"), looks := false }, kinds := [], alts := [], laidByText := true, laidKinds := [.data, .pinned], laidTests := true, laidLooks := .later }
def SuperOrderUptoCardSaid : Prop := Claim7.holds Tryd.pinned (.plain (OpenSpec.upto superOrderSpec)) superOrderUptoCard
end Rows
end Go.Proofs.YtkpipmhcjjncdaaDoor
