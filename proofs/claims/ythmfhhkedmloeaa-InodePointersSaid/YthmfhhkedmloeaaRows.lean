/-
  No cell of these rows narrows 'for every input' (looked for: loops, veiled, ifaces, maps, wideKeys, modest, calm, conditions, laid).
  DERIVED. THE GIVEN ROWS OF THIS SEAT. 3 by the template 'for every input the law returns true; each argument reads behind the call as it read before'; 0 by the template 'total and deterministic' (their statements: YthmfhhkedmloeaaTotals.lean).
  GIVEN WITH THE SEED: the statements are not yours to turn. If you find one false, say at which input.
  Laid BY PROGRAM, IN A SANDBOX (cutbox-rows.mjs): the forced cells as the released guide's own fill.sh prints them over the translation 51104e1c14e3997c… (all of the seat's roots in one cut). By AI agents, Wed Nov 11 2026. No macro, syntax, notation, axiom, sorry.
-/
import Derived.Test.YthmfhhkedmloeaaChecked
import GoSem.Claim
import GoSem.ClaimJoined
import GoSem.ClaimMapViews
import Derived.JoinedTies
import Derived.KernelRfl
namespace Go.Proofs.Ythmfhhkedmloeaa
/- THE CELL 'sum', in the pinned program and in every row, IS THE sha256 OF THE DUMP (.gsa) THAT YthmfhhkedmloeaaProg.lean LOADS. Nothing in Lean hashes anything: it is a label: what it is worth is what the hold of that sum in a sandbox is worth. -/
noncomputable def Try.pinned : Pinned := { name := "ythmfhhkedmloeaa", sum := "51104e1c14e3997c2e8179650181577a54d3be6d62b88089ecb4988761f19da9", checked := Try.checked }
namespace Rows
def none {H : Type} : Left H := { results := [], args := [] }

/-- 'morainelaw14.InodePaths': WHATEVER THE INPUT: true; the input reads as it did. -/
def inodePathsSpec : ChangeSpec := { name := "inodePaths", fn := fun _ => fun
  | [d1, d2] => { results := [.lit (.bool true)], args := [d1, d2] }
  | _ => none }
def inodePathsRow : OpenClaim := { program := "ythmfhhkedmloeaa", sum := "51104e1c14e3997c2e8179650181577a54d3be6d62b88089ecb4988761f19da9", func := "moraine/morainelaw14.InodePaths", spec := "inodePaths", inPlace := ["internal/bytealg.MakeNoZero"], apart := false }
def InodePathsSaid : Prop := inodePathsRow.holds Try.pinned (OpenSpec.ofChange inodePathsSpec)

/-- ITS FALSE NEIGHBOUR: 'it returns false'. Refute it at one input. -/
def inodePathsWrong : ChangeSpec := { name := "inodePaths", fn := fun _ => fun
  | [d1, d2] => { results := [.lit (.bool false)], args := [d1, d2] }
  | _ => none }
def InodePathsWrongFalsely : Prop := inodePathsRow.holds Try.pinned (OpenSpec.ofChange inodePathsWrong)

/-- 'morainelaw14.InodeSizes': WHATEVER THE INPUT: true; the input reads as it did. -/
def inodeSizesSpec : ChangeSpec := { name := "inodeSizes", fn := fun _ => fun
  | [d] => { results := [.lit (.bool true)], args := [d] }
  | _ => none }
def inodeSizesRow : OpenClaim := { program := "ythmfhhkedmloeaa", sum := "51104e1c14e3997c2e8179650181577a54d3be6d62b88089ecb4988761f19da9", func := "moraine/morainelaw14.InodeSizes", spec := "inodeSizes", inPlace := ["internal/bytealg.MakeNoZero"], apart := false }
def InodeSizesSaid : Prop := inodeSizesRow.holds Try.pinned (OpenSpec.ofChange inodeSizesSpec)

/-- ITS FALSE NEIGHBOUR: 'it returns false'. Refute it at one input. -/
def inodeSizesWrong : ChangeSpec := { name := "inodeSizes", fn := fun _ => fun
  | [d] => { results := [.lit (.bool false)], args := [d] }
  | _ => none }
def InodeSizesWrongFalsely : Prop := inodeSizesRow.holds Try.pinned (OpenSpec.ofChange inodeSizesWrong)

/-- 'morainelaw14.InodePointers': WHATEVER THE INPUT: true; the input reads as it did. -/
def inodePointersSpec : ChangeSpec := { name := "inodePointers", fn := fun _ => fun
  | [d1, d2, d3] => { results := [.lit (.bool true)], args := [d1, d2, d3] }
  | _ => none }
def inodePointersRow : OpenClaim := { program := "ythmfhhkedmloeaa", sum := "51104e1c14e3997c2e8179650181577a54d3be6d62b88089ecb4988761f19da9", func := "moraine/morainelaw14.InodePointers", spec := "inodePointers", inPlace := ["internal/bytealg.MakeNoZero"], apart := false }
def InodePointersSaid : Prop := inodePointersRow.holds Try.pinned (OpenSpec.ofChange inodePointersSpec)

/-- ITS FALSE NEIGHBOUR: 'it returns false'. Refute it at one input. -/
def inodePointersWrong : ChangeSpec := { name := "inodePointers", fn := fun _ => fun
  | [d1, d2, d3] => { results := [.lit (.bool false)], args := [d1, d2, d3] }
  | _ => none }
def InodePointersWrongFalsely : Prop := inodePointersRow.holds Try.pinned (OpenSpec.ofChange inodePointersWrong)

/- THE SECOND FORM. 'bulk': how many values and letters a reading holds, each counted each time it is reached (what is shared counts as often as it is met; a slice's spare places count too). A statement '..UptoSaid' is the law's where the arguments, and the package variables that the reading takes, are together of bulk at most 1048576: NARROWER than '..Said'. Prove '..Said' where nothing that the law and all that it calls make is longer than what came in: it says more and counts as full. Else prove '..UptoSaid'. A law counts once. -/
mutual
def uptoBulk {H : Type} : DataW H → Nat
  | .lit (.string bytes) => bytes.length + 1
  | .lit _ => 1
  | .nil => 1
  | .ptr d => uptoBulk d + 1
  | .slice elems spare => uptoBulkAll elems + uptoBulkAll spare + 1
  | .agg parts => uptoBulkAll parts + 1
  | .iface _ d => uptoBulk d + 1
  | .map entries => uptoBulkEntries entries + 1
  | .held _ => 1
def uptoBulkAll {H : Type} : List (DataW H) → Nat
  | [] => 0
  | d :: r => uptoBulk d + uptoBulkAll r
def uptoBulkEntries {H : Type} : List (Lit × DataW H) → Nat
  | [] => 0
  | x :: r => uptoBulkEntry x + uptoBulkEntries r
def uptoBulkEntry {H : Type} : Lit × DataW H → Nat
  | (.string bytes, d) => bytes.length + uptoBulk d + 1
  | (_, d) => uptoBulk d + 1
 end
def uptoSmall : (H : Type) → List (DataW H) → Bool := fun _ ds => decide (uptoBulkAll ds ≤ 1048576)
def OpenSpec.upto (s : _root_.Go.ChangeSpec) : _root_.Go.OpenSpec := { _root_.Go.OpenSpec.ofChange s with cond := some uptoSmall }

/-- 'morainelaw14.InodePaths', WHERE WHAT IT READS IS OF BULK AT MOST 1048576: true; the input reads as it did. -/
def inodePathsUptoRow : OpenClaim := { program := "ythmfhhkedmloeaa", sum := "51104e1c14e3997c2e8179650181577a54d3be6d62b88089ecb4988761f19da9", func := "moraine/morainelaw14.InodePaths", spec := "inodePaths", inPlace := ["internal/bytealg.MakeNoZero"], apart := false, narrowed := true }
def InodePathsUptoSaid : Prop := inodePathsUptoRow.holds Try.pinned (OpenSpec.upto inodePathsSpec)

/-- 'morainelaw14.InodeSizes', WHERE WHAT IT READS IS OF BULK AT MOST 1048576: true; the input reads as it did. -/
def inodeSizesUptoRow : OpenClaim := { program := "ythmfhhkedmloeaa", sum := "51104e1c14e3997c2e8179650181577a54d3be6d62b88089ecb4988761f19da9", func := "moraine/morainelaw14.InodeSizes", spec := "inodeSizes", inPlace := ["internal/bytealg.MakeNoZero"], apart := false, narrowed := true }
def InodeSizesUptoSaid : Prop := inodeSizesUptoRow.holds Try.pinned (OpenSpec.upto inodeSizesSpec)

/-- 'morainelaw14.InodePointers', WHERE WHAT IT READS IS OF BULK AT MOST 1048576: true; the input reads as it did. -/
def inodePointersUptoRow : OpenClaim := { program := "ythmfhhkedmloeaa", sum := "51104e1c14e3997c2e8179650181577a54d3be6d62b88089ecb4988761f19da9", func := "moraine/morainelaw14.InodePointers", spec := "inodePointers", inPlace := ["internal/bytealg.MakeNoZero"], apart := false, narrowed := true }
def InodePointersUptoSaid : Prop := inodePointersUptoRow.holds Try.pinned (OpenSpec.upto inodePointersSpec)

end Rows
end Go.Proofs.Ythmfhhkedmloeaa
