/-
  No cell of these rows narrows 'for every input' (looked for: loops, veiled, ifaces, maps, wideKeys, modest, calm, conditions, laid).
  DERIVED. THE GIVEN ROWS OF THIS SEAT. 5 by the template 'for every input the law returns true; each argument reads behind the call as it read before'; 0 by the template 'total and deterministic' (their statements: YtljjlfjhkdbbfaaTotals.lean).
  GIVEN WITH THE SEED: the statements are not yours to turn. If you find one false, say at which input.
  Laid BY PROGRAM, IN A SANDBOX (cutbox-rows.mjs): the forced cells as the released guide's own fill.sh prints them over the translation 885feaa9d8e072b3… (all of the seat's roots in one cut). By AI agents, Wed Nov 11 2026. No macro, syntax, notation, axiom, sorry.
-/
import Derived.Test.YtljjlfjhkdbbfaaChecked
import GoSem.Claim
import GoSem.ClaimJoined
import GoSem.ClaimMapViews
import Derived.JoinedTies
import Derived.KernelRfl
namespace Go.Proofs.Ytljjlfjhkdbbfaa
/- THE CELL 'sum', in the pinned program and in every row, IS THE sha256 OF THE DUMP (.gsa) THAT YtljjlfjhkdbbfaaProg.lean LOADS. Nothing in Lean hashes anything: it is a label: what it is worth is what the hold of that sum in a sandbox is worth. -/
noncomputable def Try.pinned : Pinned := { name := "ytljjlfjhkdbbfaa", sum := "885feaa9d8e072b30db48efdb0b31379639ae8375fbd096f442fe9b0b4df8e83", checked := Try.checked }
namespace Rows
def none {H : Type} : Left H := { results := [], args := [] }

/-- 'morainelaw04.SectorParity': WHATEVER THE INPUT: true; the input reads as it did. -/
def sectorParitySpec : ChangeSpec := { name := "sectorParity", fn := fun _ => fun
  | [d] => { results := [.lit (.bool true)], args := [d] }
  | _ => none }
def sectorParityRow : OpenClaim := { program := "ytljjlfjhkdbbfaa", sum := "885feaa9d8e072b30db48efdb0b31379639ae8375fbd096f442fe9b0b4df8e83", func := "moraine/morainelaw04.SectorParity", spec := "sectorParity", inPlace := ["internal/bytealg.MakeNoZero"], apart := false }
def SectorParitySaid : Prop := sectorParityRow.holds Try.pinned (OpenSpec.ofChange sectorParitySpec)

/-- ITS FALSE NEIGHBOUR: 'it returns false'. Refute it at one input. -/
def sectorParityWrong : ChangeSpec := { name := "sectorParity", fn := fun _ => fun
  | [d] => { results := [.lit (.bool false)], args := [d] }
  | _ => none }
def SectorParityWrongFalsely : Prop := sectorParityRow.holds Try.pinned (OpenSpec.ofChange sectorParityWrong)

/-- 'morainelaw04.SectorRestores': WHATEVER THE INPUT: true; the input reads as it did. -/
def sectorRestoresSpec : ChangeSpec := { name := "sectorRestores", fn := fun _ => fun
  | [d1, d2, d3] => { results := [.lit (.bool true)], args := [d1, d2, d3] }
  | _ => none }
def sectorRestoresRow : OpenClaim := { program := "ytljjlfjhkdbbfaa", sum := "885feaa9d8e072b30db48efdb0b31379639ae8375fbd096f442fe9b0b4df8e83", func := "moraine/morainelaw04.SectorRestores", spec := "sectorRestores", inPlace := ["internal/bytealg.MakeNoZero"], apart := false }
def SectorRestoresSaid : Prop := sectorRestoresRow.holds Try.pinned (OpenSpec.ofChange sectorRestoresSpec)

/-- ITS FALSE NEIGHBOUR: 'it returns false'. Refute it at one input. -/
def sectorRestoresWrong : ChangeSpec := { name := "sectorRestores", fn := fun _ => fun
  | [d1, d2, d3] => { results := [.lit (.bool false)], args := [d1, d2, d3] }
  | _ => none }
def SectorRestoresWrongFalsely : Prop := sectorRestoresRow.holds Try.pinned (OpenSpec.ofChange sectorRestoresWrong)

/-- 'morainelaw04.SectorOther': WHATEVER THE INPUT: true; the input reads as it did. -/
def sectorOtherSpec : ChangeSpec := { name := "sectorOther", fn := fun _ => fun
  | [d1, d2, d3] => { results := [.lit (.bool true)], args := [d1, d2, d3] }
  | _ => none }
def sectorOtherRow : OpenClaim := { program := "ytljjlfjhkdbbfaa", sum := "885feaa9d8e072b30db48efdb0b31379639ae8375fbd096f442fe9b0b4df8e83", func := "moraine/morainelaw04.SectorOther", spec := "sectorOther", inPlace := ["internal/bytealg.MakeNoZero"], apart := false }
def SectorOtherSaid : Prop := sectorOtherRow.holds Try.pinned (OpenSpec.ofChange sectorOtherSpec)

/-- ITS FALSE NEIGHBOUR: 'it returns false'. Refute it at one input. -/
def sectorOtherWrong : ChangeSpec := { name := "sectorOther", fn := fun _ => fun
  | [d1, d2, d3] => { results := [.lit (.bool false)], args := [d1, d2, d3] }
  | _ => none }
def SectorOtherWrongFalsely : Prop := sectorOtherRow.holds Try.pinned (OpenSpec.ofChange sectorOtherWrong)

/-- 'morainelaw04.SectorCodes': WHATEVER THE INPUT: true; the input reads as it did. -/
def sectorCodesSpec : ChangeSpec := { name := "sectorCodes", fn := fun _ => fun
  | [d1, d2, d3] => { results := [.lit (.bool true)], args := [d1, d2, d3] }
  | _ => none }
def sectorCodesRow : OpenClaim := { program := "ytljjlfjhkdbbfaa", sum := "885feaa9d8e072b30db48efdb0b31379639ae8375fbd096f442fe9b0b4df8e83", func := "moraine/morainelaw04.SectorCodes", spec := "sectorCodes", inPlace := ["internal/bytealg.MakeNoZero"], apart := false }
def SectorCodesSaid : Prop := sectorCodesRow.holds Try.pinned (OpenSpec.ofChange sectorCodesSpec)

/-- ITS FALSE NEIGHBOUR: 'it returns false'. Refute it at one input. -/
def sectorCodesWrong : ChangeSpec := { name := "sectorCodes", fn := fun _ => fun
  | [d1, d2, d3] => { results := [.lit (.bool false)], args := [d1, d2, d3] }
  | _ => none }
def SectorCodesWrongFalsely : Prop := sectorCodesRow.holds Try.pinned (OpenSpec.ofChange sectorCodesWrong)

/-- 'morainelaw04.SectorBack': WHATEVER THE INPUT: true; the input reads as it did. -/
def sectorBackSpec : ChangeSpec := { name := "sectorBack", fn := fun _ => fun
  | [d1, d2] => { results := [.lit (.bool true)], args := [d1, d2] }
  | _ => none }
def sectorBackRow : OpenClaim := { program := "ytljjlfjhkdbbfaa", sum := "885feaa9d8e072b30db48efdb0b31379639ae8375fbd096f442fe9b0b4df8e83", func := "moraine/morainelaw04.SectorBack", spec := "sectorBack", inPlace := ["internal/bytealg.MakeNoZero"], apart := false }
def SectorBackSaid : Prop := sectorBackRow.holds Try.pinned (OpenSpec.ofChange sectorBackSpec)

/-- ITS FALSE NEIGHBOUR: 'it returns false'. Refute it at one input. -/
def sectorBackWrong : ChangeSpec := { name := "sectorBack", fn := fun _ => fun
  | [d1, d2] => { results := [.lit (.bool false)], args := [d1, d2] }
  | _ => none }
def SectorBackWrongFalsely : Prop := sectorBackRow.holds Try.pinned (OpenSpec.ofChange sectorBackWrong)

/- THE SECOND FORM. 'bulk': how many values and letters a reading holds, each counted each time it is reached (what is shared counts as often as it is met; a slice's spare places count too). A statement '..UptoSaid' is the law's where the arguments, and the package variables that the reading takes, are together of bulk at most 1048576: NARROWER than '..Said'. Prove '..Said' where nothing that the law and all that it calls make is longer than what came in: it says more and counts as full. Else prove '..UptoSaid'. A law counts once. -/
mutual
def uptoBulk {H : Type} : DataW H → Nat
  | .lit (.string bytes) => bytes.length + 1
  | .lit _ => 1
  | .nil => 1
  | .ptr d => uptoBulk d + 1
  | .slice elems spare => uptoBulkAll elems + uptoBulkAll spare + 1
  | .agg parts => uptoBulkAll parts + 1
  | .iface _ d => uptoBulk d + 1
  | .map entries => uptoBulkEntries entries + 1
  | .held _ => 1
def uptoBulkAll {H : Type} : List (DataW H) → Nat
  | [] => 0
  | d :: r => uptoBulk d + uptoBulkAll r
def uptoBulkEntries {H : Type} : List (Lit × DataW H) → Nat
  | [] => 0
  | x :: r => uptoBulkEntry x + uptoBulkEntries r
def uptoBulkEntry {H : Type} : Lit × DataW H → Nat
  | (.string bytes, d) => bytes.length + uptoBulk d + 1
  | (_, d) => uptoBulk d + 1
 end
def uptoSmall : (H : Type) → List (DataW H) → Bool := fun _ ds => decide (uptoBulkAll ds ≤ 1048576)
def OpenSpec.upto (s : _root_.Go.ChangeSpec) : _root_.Go.OpenSpec := { _root_.Go.OpenSpec.ofChange s with cond := some uptoSmall }

/-- 'morainelaw04.SectorParity', WHERE WHAT IT READS IS OF BULK AT MOST 1048576: true; the input reads as it did. -/
def sectorParityUptoRow : OpenClaim := { program := "ytljjlfjhkdbbfaa", sum := "885feaa9d8e072b30db48efdb0b31379639ae8375fbd096f442fe9b0b4df8e83", func := "moraine/morainelaw04.SectorParity", spec := "sectorParity", inPlace := ["internal/bytealg.MakeNoZero"], apart := false, narrowed := true }
def SectorParityUptoSaid : Prop := sectorParityUptoRow.holds Try.pinned (OpenSpec.upto sectorParitySpec)

/-- 'morainelaw04.SectorRestores', WHERE WHAT IT READS IS OF BULK AT MOST 1048576: true; the input reads as it did. -/
def sectorRestoresUptoRow : OpenClaim := { program := "ytljjlfjhkdbbfaa", sum := "885feaa9d8e072b30db48efdb0b31379639ae8375fbd096f442fe9b0b4df8e83", func := "moraine/morainelaw04.SectorRestores", spec := "sectorRestores", inPlace := ["internal/bytealg.MakeNoZero"], apart := false, narrowed := true }
def SectorRestoresUptoSaid : Prop := sectorRestoresUptoRow.holds Try.pinned (OpenSpec.upto sectorRestoresSpec)

/-- 'morainelaw04.SectorOther', WHERE WHAT IT READS IS OF BULK AT MOST 1048576: true; the input reads as it did. -/
def sectorOtherUptoRow : OpenClaim := { program := "ytljjlfjhkdbbfaa", sum := "885feaa9d8e072b30db48efdb0b31379639ae8375fbd096f442fe9b0b4df8e83", func := "moraine/morainelaw04.SectorOther", spec := "sectorOther", inPlace := ["internal/bytealg.MakeNoZero"], apart := false, narrowed := true }
def SectorOtherUptoSaid : Prop := sectorOtherUptoRow.holds Try.pinned (OpenSpec.upto sectorOtherSpec)

/-- 'morainelaw04.SectorCodes', WHERE WHAT IT READS IS OF BULK AT MOST 1048576: true; the input reads as it did. -/
def sectorCodesUptoRow : OpenClaim := { program := "ytljjlfjhkdbbfaa", sum := "885feaa9d8e072b30db48efdb0b31379639ae8375fbd096f442fe9b0b4df8e83", func := "moraine/morainelaw04.SectorCodes", spec := "sectorCodes", inPlace := ["internal/bytealg.MakeNoZero"], apart := false, narrowed := true }
def SectorCodesUptoSaid : Prop := sectorCodesUptoRow.holds Try.pinned (OpenSpec.upto sectorCodesSpec)

/-- 'morainelaw04.SectorBack', WHERE WHAT IT READS IS OF BULK AT MOST 1048576: true; the input reads as it did. -/
def sectorBackUptoRow : OpenClaim := { program := "ytljjlfjhkdbbfaa", sum := "885feaa9d8e072b30db48efdb0b31379639ae8375fbd096f442fe9b0b4df8e83", func := "moraine/morainelaw04.SectorBack", spec := "sectorBack", inPlace := ["internal/bytealg.MakeNoZero"], apart := false, narrowed := true }
def SectorBackUptoSaid : Prop := sectorBackUptoRow.holds Try.pinned (OpenSpec.upto sectorBackSpec)

end Rows
end Go.Proofs.Ytljjlfjhkdbbfaa
