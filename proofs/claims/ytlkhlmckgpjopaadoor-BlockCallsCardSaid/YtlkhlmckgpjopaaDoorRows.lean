/-
  NARROWER THAN 'FOR EVERY INPUT', by the rows' own cells (each row's printed sentence says how): BlockPlaces: laid · BlockMoves: laid · BlockPuts: laid · BlockCuts: laid · BlockCalls: laid.
  DERIVED. THE GIVEN ROWS OF THIS SEAT. 5 by the template 'for every input the law returns true; each argument reads behind the call as it read before'; 0 by the template 'total and deterministic' (their statements: YtlkhlmckgpjopaaDoorTotals.lean).
  GIVEN WITH THE SEED: the statements are not yours to turn. If you find one false, say at which input.
  Laid BY PROGRAM, IN A SANDBOX (cutbox-rows.mjs): the forced cells as the released guide's own fill.sh prints them over the translation 41d7c31720738ec9… (all of the seat's roots in one cut). By AI agents, Wed Nov 11 2026. No macro, syntax, notation, axiom, sorry.
-/
import Derived.Test.YtlkhlmckgpjopaaDoorChecked
import GoSem.PinnedTables
import GoSem.Claim
import GoSem.ClaimJoined
import GoSem.ClaimMapViews
import Derived.JoinedTies
import Derived.KernelRfl
namespace Go.Proofs.YtlkhlmckgpjopaaDoor
/- THE CELL 'sum', in the pinned program and in every row, IS THE sha256 OF THE DUMP (.gsa) THAT YtlkhlmckgpjopaaDoorProg.lean LOADS. Nothing in Lean hashes anything: it is a label: what it is worth is what the hold of that sum in a sandbox is worth. -/
noncomputable def Tryd.pinned : Pinned := { name := "ytlkhlmckgpjopaadoor", sum := "41d7c31720738ec9c8fe67dab3e678379d3d37751b9467c6645f4d65eb1b515a", checked := Tryd.checked }
namespace Rows
def none {H : Type} : Left H := { results := [], args := [] }

/- WHAT THE LISTED PACKAGE-LEVEL VARIABLES READ AS WHEN THE CALL BEGINS. Each datum BY PROGRAM (the guide's laid-datum.mjs) off the statement by which the dump's own 'gosem.cut.vars' lays the variable. In a bare row this is a premise. The card (YtlkhlmckgpjopaaDoorCards.lean) ties it to the program's text. -/
def laid_unicode_utf8_acceptRanges {H : Type} : DataW H := .agg [.agg [.lit (.int .u8 128), .lit (.int .u8 191)], .agg [.lit (.int .u8 160), .lit (.int .u8 191)], .agg [.lit (.int .u8 128), .lit (.int .u8 159)], .agg [.lit (.int .u8 144), .lit (.int .u8 191)], .agg [.lit (.int .u8 128), .lit (.int .u8 143)], .agg [.lit (.int .u8 0), .lit (.int .u8 0)], .agg [.lit (.int .u8 0), .lit (.int .u8 0)], .agg [.lit (.int .u8 0), .lit (.int .u8 0)], .agg [.lit (.int .u8 0), .lit (.int .u8 0)], .agg [.lit (.int .u8 0), .lit (.int .u8 0)], .agg [.lit (.int .u8 0), .lit (.int .u8 0)], .agg [.lit (.int .u8 0), .lit (.int .u8 0)], .agg [.lit (.int .u8 0), .lit (.int .u8 0)], .agg [.lit (.int .u8 0), .lit (.int .u8 0)], .agg [.lit (.int .u8 0), .lit (.int .u8 0)], .agg [.lit (.int .u8 0), .lit (.int .u8 0)]]
/-- One of Go's own tables, pinned by name: the form's constant. -/
def laid_unicode_utf8_first : DataW Unit := Go.Pinned.utf8First

/-- 'morainelaw15.BlockPlaces': WHATEVER THE INPUT: true; the input reads as it did. -/
def blockPlacesSpec : ChangeSpec := { name := "blockPlaces", fn := fun _ => fun
  | [d1, d2] => { results := [.lit (.bool true)], args := [d1, d2] }
  | _ => none }
def blockPlacesRow : OpenClaim := { program := "ytlkhlmckgpjopaadoor", sum := "41d7c31720738ec9c8fe67dab3e678379d3d37751b9467c6645f4d65eb1b515a", func := "moraine/morainelaw15.BlockPlaces", spec := "blockPlaces", unfollowed := true, recurses := true, named := ["unicode/utf8.first", "unicode/utf8.acceptRanges"], apart := false, laid := [("unicode/utf8.acceptRanges", laid_unicode_utf8_acceptRanges), ("unicode/utf8.first", laid_unicode_utf8_first)] }
def BlockPlacesSaid : Prop := blockPlacesRow.holds Tryd.pinned (OpenSpec.ofChange blockPlacesSpec)

/-- ITS FALSE NEIGHBOUR: 'it returns false'. Refute it at one input. -/
def blockPlacesWrong : ChangeSpec := { name := "blockPlaces", fn := fun _ => fun
  | [d1, d2] => { results := [.lit (.bool false)], args := [d1, d2] }
  | _ => none }
def BlockPlacesWrongFalsely : Prop := blockPlacesRow.holds Tryd.pinned (OpenSpec.ofChange blockPlacesWrong)

/-- 'morainelaw15.BlockMoves': WHATEVER THE INPUT: true; the input reads as it did. -/
def blockMovesSpec : ChangeSpec := { name := "blockMoves", fn := fun _ => fun
  | [d1, d2, d3] => { results := [.lit (.bool true)], args := [d1, d2, d3] }
  | _ => none }
def blockMovesRow : OpenClaim := { program := "ytlkhlmckgpjopaadoor", sum := "41d7c31720738ec9c8fe67dab3e678379d3d37751b9467c6645f4d65eb1b515a", func := "moraine/morainelaw15.BlockMoves", spec := "blockMoves", unfollowed := true, recurses := true, named := ["unicode/utf8.first", "unicode/utf8.acceptRanges"], apart := false, laid := [("unicode/utf8.acceptRanges", laid_unicode_utf8_acceptRanges), ("unicode/utf8.first", laid_unicode_utf8_first)] }
def BlockMovesSaid : Prop := blockMovesRow.holds Tryd.pinned (OpenSpec.ofChange blockMovesSpec)

/-- ITS FALSE NEIGHBOUR: 'it returns false'. Refute it at one input. -/
def blockMovesWrong : ChangeSpec := { name := "blockMoves", fn := fun _ => fun
  | [d1, d2, d3] => { results := [.lit (.bool false)], args := [d1, d2, d3] }
  | _ => none }
def BlockMovesWrongFalsely : Prop := blockMovesRow.holds Tryd.pinned (OpenSpec.ofChange blockMovesWrong)

/-- 'morainelaw15.BlockPuts': WHATEVER THE INPUT: true; the input reads as it did. -/
def blockPutsSpec : ChangeSpec := { name := "blockPuts", fn := fun _ => fun
  | [d1, d2, d3] => { results := [.lit (.bool true)], args := [d1, d2, d3] }
  | _ => none }
def blockPutsRow : OpenClaim := { program := "ytlkhlmckgpjopaadoor", sum := "41d7c31720738ec9c8fe67dab3e678379d3d37751b9467c6645f4d65eb1b515a", func := "moraine/morainelaw15.BlockPuts", spec := "blockPuts", unfollowed := true, recurses := true, named := ["unicode/utf8.first", "unicode/utf8.acceptRanges"], apart := false, laid := [("unicode/utf8.acceptRanges", laid_unicode_utf8_acceptRanges), ("unicode/utf8.first", laid_unicode_utf8_first)] }
def BlockPutsSaid : Prop := blockPutsRow.holds Tryd.pinned (OpenSpec.ofChange blockPutsSpec)

/-- ITS FALSE NEIGHBOUR: 'it returns false'. Refute it at one input. -/
def blockPutsWrong : ChangeSpec := { name := "blockPuts", fn := fun _ => fun
  | [d1, d2, d3] => { results := [.lit (.bool false)], args := [d1, d2, d3] }
  | _ => none }
def BlockPutsWrongFalsely : Prop := blockPutsRow.holds Tryd.pinned (OpenSpec.ofChange blockPutsWrong)

/-- 'morainelaw15.BlockCuts': WHATEVER THE INPUT: true; the input reads as it did. -/
def blockCutsSpec : ChangeSpec := { name := "blockCuts", fn := fun _ => fun
  | [d1, d2] => { results := [.lit (.bool true)], args := [d1, d2] }
  | _ => none }
def blockCutsRow : OpenClaim := { program := "ytlkhlmckgpjopaadoor", sum := "41d7c31720738ec9c8fe67dab3e678379d3d37751b9467c6645f4d65eb1b515a", func := "moraine/morainelaw15.BlockCuts", spec := "blockCuts", unfollowed := true, recurses := true, named := ["unicode/utf8.first", "unicode/utf8.acceptRanges"], apart := false, laid := [("unicode/utf8.acceptRanges", laid_unicode_utf8_acceptRanges), ("unicode/utf8.first", laid_unicode_utf8_first)] }
def BlockCutsSaid : Prop := blockCutsRow.holds Tryd.pinned (OpenSpec.ofChange blockCutsSpec)

/-- ITS FALSE NEIGHBOUR: 'it returns false'. Refute it at one input. -/
def blockCutsWrong : ChangeSpec := { name := "blockCuts", fn := fun _ => fun
  | [d1, d2] => { results := [.lit (.bool false)], args := [d1, d2] }
  | _ => none }
def BlockCutsWrongFalsely : Prop := blockCutsRow.holds Tryd.pinned (OpenSpec.ofChange blockCutsWrong)

/-- 'morainelaw15.BlockCalls': WHATEVER THE INPUT: true; the input reads as it did. -/
def blockCallsSpec : ChangeSpec := { name := "blockCalls", fn := fun _ => fun
  | [d1, d2] => { results := [.lit (.bool true)], args := [d1, d2] }
  | _ => none }
def blockCallsRow : OpenClaim := { program := "ytlkhlmckgpjopaadoor", sum := "41d7c31720738ec9c8fe67dab3e678379d3d37751b9467c6645f4d65eb1b515a", func := "moraine/morainelaw15.BlockCalls", spec := "blockCalls", inPlace := ["maps.clone"], unfollowed := true, recurses := true, named := ["unicode/utf8.first", "unicode/utf8.acceptRanges"], apart := false, laid := [("unicode/utf8.acceptRanges", laid_unicode_utf8_acceptRanges), ("unicode/utf8.first", laid_unicode_utf8_first)] }
def BlockCallsSaid : Prop := blockCallsRow.holds Tryd.pinned (OpenSpec.ofChange blockCallsSpec)

/-- ITS FALSE NEIGHBOUR: 'it returns false'. Refute it at one input. -/
def blockCallsWrong : ChangeSpec := { name := "blockCalls", fn := fun _ => fun
  | [d1, d2] => { results := [.lit (.bool false)], args := [d1, d2] }
  | _ => none }
def BlockCallsWrongFalsely : Prop := blockCallsRow.holds Tryd.pinned (OpenSpec.ofChange blockCallsWrong)

/- THE SECOND FORM. 'bulk': how many values and letters a reading holds, each counted each time it is reached (what is shared counts as often as it is met; a slice's spare places count too). A statement '..UptoSaid' is the law's where the arguments, and the package variables that the reading takes, are together of bulk at most 1048576: NARROWER than '..Said'. Prove '..Said' where nothing that the law and all that it calls make is longer than what came in: it says more and counts as full. Else prove '..UptoSaid'. A law counts once. -/
mutual
def uptoBulk {H : Type} : DataW H → Nat
  | .lit (.string bytes) => bytes.length + 1
  | .lit _ => 1
  | .nil => 1
  | .ptr d => uptoBulk d + 1
  | .slice elems spare => uptoBulkAll elems + uptoBulkAll spare + 1
  | .agg parts => uptoBulkAll parts + 1
  | .iface _ d => uptoBulk d + 1
  | .map entries => uptoBulkEntries entries + 1
  | .held _ => 1
def uptoBulkAll {H : Type} : List (DataW H) → Nat
  | [] => 0
  | d :: r => uptoBulk d + uptoBulkAll r
def uptoBulkEntries {H : Type} : List (Lit × DataW H) → Nat
  | [] => 0
  | x :: r => uptoBulkEntry x + uptoBulkEntries r
def uptoBulkEntry {H : Type} : Lit × DataW H → Nat
  | (.string bytes, d) => bytes.length + uptoBulk d + 1
  | (_, d) => uptoBulk d + 1
 end
def uptoSmall : (H : Type) → List (DataW H) → Bool := fun _ ds => decide (uptoBulkAll ds ≤ 1048576)
def OpenSpec.upto (s : _root_.Go.ChangeSpec) : _root_.Go.OpenSpec := { _root_.Go.OpenSpec.ofChange s with cond := some uptoSmall }

/-- 'morainelaw15.BlockPlaces', WHERE WHAT IT READS IS OF BULK AT MOST 1048576: true; the input reads as it did. -/
def blockPlacesUptoRow : OpenClaim := { program := "ytlkhlmckgpjopaadoor", sum := "41d7c31720738ec9c8fe67dab3e678379d3d37751b9467c6645f4d65eb1b515a", func := "moraine/morainelaw15.BlockPlaces", spec := "blockPlaces", unfollowed := true, recurses := true, named := ["unicode/utf8.first", "unicode/utf8.acceptRanges"], apart := false, laid := [("unicode/utf8.acceptRanges", laid_unicode_utf8_acceptRanges), ("unicode/utf8.first", laid_unicode_utf8_first)], narrowed := true }
def BlockPlacesUptoSaid : Prop := blockPlacesUptoRow.holds Tryd.pinned (OpenSpec.upto blockPlacesSpec)

/-- 'morainelaw15.BlockMoves', WHERE WHAT IT READS IS OF BULK AT MOST 1048576: true; the input reads as it did. -/
def blockMovesUptoRow : OpenClaim := { program := "ytlkhlmckgpjopaadoor", sum := "41d7c31720738ec9c8fe67dab3e678379d3d37751b9467c6645f4d65eb1b515a", func := "moraine/morainelaw15.BlockMoves", spec := "blockMoves", unfollowed := true, recurses := true, named := ["unicode/utf8.first", "unicode/utf8.acceptRanges"], apart := false, laid := [("unicode/utf8.acceptRanges", laid_unicode_utf8_acceptRanges), ("unicode/utf8.first", laid_unicode_utf8_first)], narrowed := true }
def BlockMovesUptoSaid : Prop := blockMovesUptoRow.holds Tryd.pinned (OpenSpec.upto blockMovesSpec)

/-- 'morainelaw15.BlockPuts', WHERE WHAT IT READS IS OF BULK AT MOST 1048576: true; the input reads as it did. -/
def blockPutsUptoRow : OpenClaim := { program := "ytlkhlmckgpjopaadoor", sum := "41d7c31720738ec9c8fe67dab3e678379d3d37751b9467c6645f4d65eb1b515a", func := "moraine/morainelaw15.BlockPuts", spec := "blockPuts", unfollowed := true, recurses := true, named := ["unicode/utf8.first", "unicode/utf8.acceptRanges"], apart := false, laid := [("unicode/utf8.acceptRanges", laid_unicode_utf8_acceptRanges), ("unicode/utf8.first", laid_unicode_utf8_first)], narrowed := true }
def BlockPutsUptoSaid : Prop := blockPutsUptoRow.holds Tryd.pinned (OpenSpec.upto blockPutsSpec)

/-- 'morainelaw15.BlockCuts', WHERE WHAT IT READS IS OF BULK AT MOST 1048576: true; the input reads as it did. -/
def blockCutsUptoRow : OpenClaim := { program := "ytlkhlmckgpjopaadoor", sum := "41d7c31720738ec9c8fe67dab3e678379d3d37751b9467c6645f4d65eb1b515a", func := "moraine/morainelaw15.BlockCuts", spec := "blockCuts", unfollowed := true, recurses := true, named := ["unicode/utf8.first", "unicode/utf8.acceptRanges"], apart := false, laid := [("unicode/utf8.acceptRanges", laid_unicode_utf8_acceptRanges), ("unicode/utf8.first", laid_unicode_utf8_first)], narrowed := true }
def BlockCutsUptoSaid : Prop := blockCutsUptoRow.holds Tryd.pinned (OpenSpec.upto blockCutsSpec)

/-- 'morainelaw15.BlockCalls', WHERE WHAT IT READS IS OF BULK AT MOST 1048576: true; the input reads as it did. -/
def blockCallsUptoRow : OpenClaim := { program := "ytlkhlmckgpjopaadoor", sum := "41d7c31720738ec9c8fe67dab3e678379d3d37751b9467c6645f4d65eb1b515a", func := "moraine/morainelaw15.BlockCalls", spec := "blockCalls", inPlace := ["maps.clone"], unfollowed := true, recurses := true, named := ["unicode/utf8.first", "unicode/utf8.acceptRanges"], apart := false, laid := [("unicode/utf8.acceptRanges", laid_unicode_utf8_acceptRanges), ("unicode/utf8.first", laid_unicode_utf8_first)], narrowed := true }
def BlockCallsUptoSaid : Prop := blockCallsUptoRow.holds Tryd.pinned (OpenSpec.upto blockCallsSpec)

end Rows
end Go.Proofs.YtlkhlmckgpjopaaDoor
