/-
  DERIVED. GIVEN WITH THE SEED: THE CARDS: each row of YtlkhlmckgpjopaaDoorRows.lean that lists a variable, with what it lists TIED to the program's text (the seventh form; the later family's looks); each row that meets fmt, with fmt's text TOLD by the authors' own Lean function (tested against real Go, not proved from fmt's source: count such statements apart). THE CARD IS WHAT COUNTS. Prove the row's statement (the work); the ties are given (YtlkhlmckgpjopaaDoorTie.lean); close each card by the builder's one call (the guide's Derived/Test/ToyasCard.lean, 'card_holds'). Laid BY PROGRAM, IN A SANDBOX (cutbox-door.mjs). By AI agents, Wed Nov 11 2026. No macro, syntax, notation, axiom, sorry.
-/
import Derived.Test.YtlkhlmckgpjopaaDoorRows
import GoSem.ClaimSeven
namespace Go.Proofs.YtlkhlmckgpjopaaDoor
namespace Rows

/-- THE TIED CARD OF 'morainelaw15.BlockPlaces'. -/
def blockPlacesCard : Claim7 := { stood := { row := blockPlacesRow, standIns := [], harness := (true, "2b721b6dd7e2817a9d9b672e402da1e0d9d0748da89a0027e46c5e72ced915f6"), looks := true }, kinds := [], alts := [], laidByText := true, laidKinds := [.data, .pinned], laidTests := true, laidLooks := .later }
def BlockPlacesCardSaid : Prop := Claim7.holds Tryd.pinned (.plain (OpenSpec.ofChange blockPlacesSpec)) blockPlacesCard

/-- THE TIED CARD OF 'morainelaw15.BlockMoves'. -/
def blockMovesCard : Claim7 := { stood := { row := blockMovesRow, standIns := [], harness := (true, "2b721b6dd7e2817a9d9b672e402da1e0d9d0748da89a0027e46c5e72ced915f6"), looks := true }, kinds := [], alts := [], laidByText := true, laidKinds := [.data, .pinned], laidTests := true, laidLooks := .later }
def BlockMovesCardSaid : Prop := Claim7.holds Tryd.pinned (.plain (OpenSpec.ofChange blockMovesSpec)) blockMovesCard

/-- THE TIED CARD OF 'morainelaw15.BlockPuts'. -/
def blockPutsCard : Claim7 := { stood := { row := blockPutsRow, standIns := [], harness := (true, "2b721b6dd7e2817a9d9b672e402da1e0d9d0748da89a0027e46c5e72ced915f6"), looks := true }, kinds := [], alts := [], laidByText := true, laidKinds := [.data, .pinned], laidTests := true, laidLooks := .later }
def BlockPutsCardSaid : Prop := Claim7.holds Tryd.pinned (.plain (OpenSpec.ofChange blockPutsSpec)) blockPutsCard

/-- THE TIED CARD OF 'morainelaw15.BlockCuts'. -/
def blockCutsCard : Claim7 := { stood := { row := blockCutsRow, standIns := [], harness := (true, "2b721b6dd7e2817a9d9b672e402da1e0d9d0748da89a0027e46c5e72ced915f6"), looks := true }, kinds := [], alts := [], laidByText := true, laidKinds := [.data, .pinned], laidTests := true, laidLooks := .later }
def BlockCutsCardSaid : Prop := Claim7.holds Tryd.pinned (.plain (OpenSpec.ofChange blockCutsSpec)) blockCutsCard

/-- THE TIED CARD OF 'morainelaw15.BlockCalls'. -/
def blockCallsCard : Claim7 := { stood := { row := blockCallsRow, standIns := [], harness := (true, "2b721b6dd7e2817a9d9b672e402da1e0d9d0748da89a0027e46c5e72ced915f6"), looks := true }, kinds := [], alts := [], laidByText := true, laidKinds := [.data, .pinned], laidTests := true, laidLooks := .later }
def BlockCallsCardSaid : Prop := Claim7.holds Tryd.pinned (.plain (OpenSpec.ofChange blockCallsSpec)) blockCallsCard

/-- THE SECOND FORM's CARD OF 'morainelaw15.BlockPlaces'. -/
def blockPlacesUptoCard : Claim7 := { stood := { row := blockPlacesUptoRow, standIns := [], harness := (true, "2b721b6dd7e2817a9d9b672e402da1e0d9d0748da89a0027e46c5e72ced915f6"), looks := true }, kinds := [], alts := [], laidByText := true, laidKinds := [.data, .pinned], laidTests := true, laidLooks := .later }
def BlockPlacesUptoCardSaid : Prop := Claim7.holds Tryd.pinned (.plain (OpenSpec.upto blockPlacesSpec)) blockPlacesUptoCard

/-- THE SECOND FORM's CARD OF 'morainelaw15.BlockMoves'. -/
def blockMovesUptoCard : Claim7 := { stood := { row := blockMovesUptoRow, standIns := [], harness := (true, "2b721b6dd7e2817a9d9b672e402da1e0d9d0748da89a0027e46c5e72ced915f6"), looks := true }, kinds := [], alts := [], laidByText := true, laidKinds := [.data, .pinned], laidTests := true, laidLooks := .later }
def BlockMovesUptoCardSaid : Prop := Claim7.holds Tryd.pinned (.plain (OpenSpec.upto blockMovesSpec)) blockMovesUptoCard

/-- THE SECOND FORM's CARD OF 'morainelaw15.BlockPuts'. -/
def blockPutsUptoCard : Claim7 := { stood := { row := blockPutsUptoRow, standIns := [], harness := (true, "2b721b6dd7e2817a9d9b672e402da1e0d9d0748da89a0027e46c5e72ced915f6"), looks := true }, kinds := [], alts := [], laidByText := true, laidKinds := [.data, .pinned], laidTests := true, laidLooks := .later }
def BlockPutsUptoCardSaid : Prop := Claim7.holds Tryd.pinned (.plain (OpenSpec.upto blockPutsSpec)) blockPutsUptoCard

/-- THE SECOND FORM's CARD OF 'morainelaw15.BlockCuts'. -/
def blockCutsUptoCard : Claim7 := { stood := { row := blockCutsUptoRow, standIns := [], harness := (true, "2b721b6dd7e2817a9d9b672e402da1e0d9d0748da89a0027e46c5e72ced915f6"), looks := true }, kinds := [], alts := [], laidByText := true, laidKinds := [.data, .pinned], laidTests := true, laidLooks := .later }
def BlockCutsUptoCardSaid : Prop := Claim7.holds Tryd.pinned (.plain (OpenSpec.upto blockCutsSpec)) blockCutsUptoCard

/-- THE SECOND FORM's CARD OF 'morainelaw15.BlockCalls'. -/
def blockCallsUptoCard : Claim7 := { stood := { row := blockCallsUptoRow, standIns := [], harness := (true, "2b721b6dd7e2817a9d9b672e402da1e0d9d0748da89a0027e46c5e72ced915f6"), looks := true }, kinds := [], alts := [], laidByText := true, laidKinds := [.data, .pinned], laidTests := true, laidLooks := .later }
def BlockCallsUptoCardSaid : Prop := Claim7.holds Tryd.pinned (.plain (OpenSpec.upto blockCallsSpec)) blockCallsUptoCard
end Rows
end Go.Proofs.YtlkhlmckgpjopaaDoor
