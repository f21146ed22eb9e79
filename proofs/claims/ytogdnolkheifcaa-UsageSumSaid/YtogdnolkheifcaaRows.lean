/-
  No cell of these rows narrows 'for every input' (looked for: loops, veiled, ifaces, maps, wideKeys, modest, calm, conditions, laid).
  DERIVED. THE GIVEN ROWS OF THIS SEAT. 7 by the template 'for every input the law returns true; each argument reads behind the call as it read before'; 0 by the template 'total and deterministic' (their statements: YtogdnolkheifcaaTotals.lean).
  GIVEN WITH THE SEED: the statements are not yours to turn. If you find one false, say at which input.
  Laid BY PROGRAM, IN A SANDBOX (cutbox-rows.mjs): the forced cells as the released guide's own fill.sh prints them over the translation d93a9d32dc32a618… (all of the seat's roots in one cut). By AI agents, Wed Nov 11 2026. No macro, syntax, notation, axiom, sorry.
-/
import Derived.Test.YtogdnolkheifcaaChecked
import GoSem.Claim
import GoSem.ClaimJoined
import GoSem.ClaimMapViews
import Derived.JoinedTies
import Derived.KernelRfl
namespace Go.Proofs.Ytogdnolkheifcaa
/- THE CELL 'sum', in the pinned program and in every row, IS THE sha256 OF THE DUMP (.gsa) THAT YtogdnolkheifcaaProg.lean LOADS. Nothing in Lean hashes anything: it is a label: what it is worth is what the hold of that sum in a sandbox is worth. -/
noncomputable def Try.pinned : Pinned := { name := "ytogdnolkheifcaa", sum := "d93a9d32dc32a618b780f35326a78e2048f83194a84d17c3d3ad97bc54d1f011", checked := Try.checked }
namespace Rows
def none {H : Type} : Left H := { results := [], args := [] }

/-- 'morainelaw09.UsageCounts': WHATEVER THE INPUT: true; the input reads as it did. -/
def usageCountsSpec : ChangeSpec := { name := "usageCounts", fn := fun _ => fun
  | [d1, d2] => { results := [.lit (.bool true)], args := [d1, d2] }
  | _ => none }
def usageCountsRow : OpenClaim := { program := "ytogdnolkheifcaa", sum := "d93a9d32dc32a618b780f35326a78e2048f83194a84d17c3d3ad97bc54d1f011", func := "moraine/morainelaw09.UsageCounts", spec := "usageCounts", unfollowed := true, recurses := true, apart := false }
def UsageCountsSaid : Prop := usageCountsRow.holds Try.pinned (OpenSpec.ofChange usageCountsSpec)

/-- ITS FALSE NEIGHBOUR: 'it returns false'. Refute it at one input. -/
def usageCountsWrong : ChangeSpec := { name := "usageCounts", fn := fun _ => fun
  | [d1, d2] => { results := [.lit (.bool false)], args := [d1, d2] }
  | _ => none }
def UsageCountsWrongFalsely : Prop := usageCountsRow.holds Try.pinned (OpenSpec.ofChange usageCountsWrong)

/-- 'morainelaw09.UsageTakes': WHATEVER THE INPUT: true; the input reads as it did. -/
def usageTakesSpec : ChangeSpec := { name := "usageTakes", fn := fun _ => fun
  | [d1, d2, d3, d4, d5, d6] => { results := [.lit (.bool true)], args := [d1, d2, d3, d4, d5, d6] }
  | _ => none }
def usageTakesRow : OpenClaim := { program := "ytogdnolkheifcaa", sum := "d93a9d32dc32a618b780f35326a78e2048f83194a84d17c3d3ad97bc54d1f011", func := "moraine/morainelaw09.UsageTakes", spec := "usageTakes", unfollowed := true, recurses := true, apart := false }
def UsageTakesSaid : Prop := usageTakesRow.holds Try.pinned (OpenSpec.ofChange usageTakesSpec)

/-- ITS FALSE NEIGHBOUR: 'it returns false'. Refute it at one input. -/
def usageTakesWrong : ChangeSpec := { name := "usageTakes", fn := fun _ => fun
  | [d1, d2, d3, d4, d5, d6] => { results := [.lit (.bool false)], args := [d1, d2, d3, d4, d5, d6] }
  | _ => none }
def UsageTakesWrongFalsely : Prop := usageTakesRow.holds Try.pinned (OpenSpec.ofChange usageTakesWrong)

/-- 'morainelaw09.UsageSum': WHATEVER THE INPUT: true; the input reads as it did. -/
def usageSumSpec : ChangeSpec := { name := "usageSum", fn := fun _ => fun
  | [d1, d2] => { results := [.lit (.bool true)], args := [d1, d2] }
  | _ => none }
def usageSumRow : OpenClaim := { program := "ytogdnolkheifcaa", sum := "d93a9d32dc32a618b780f35326a78e2048f83194a84d17c3d3ad97bc54d1f011", func := "moraine/morainelaw09.UsageSum", spec := "usageSum", unfollowed := true, recurses := true, apart := false }
def UsageSumSaid : Prop := usageSumRow.holds Try.pinned (OpenSpec.ofChange usageSumSpec)

/-- ITS FALSE NEIGHBOUR: 'it returns false'. Refute it at one input. -/
def usageSumWrong : ChangeSpec := { name := "usageSum", fn := fun _ => fun
  | [d1, d2] => { results := [.lit (.bool false)], args := [d1, d2] }
  | _ => none }
def UsageSumWrongFalsely : Prop := usageSumRow.holds Try.pinned (OpenSpec.ofChange usageSumWrong)

/-- 'morainelaw09.UsageMerges': WHATEVER THE INPUT: true; the input reads as it did. -/
def usageMergesSpec : ChangeSpec := { name := "usageMerges", fn := fun _ => fun
  | [d1, d2, d3] => { results := [.lit (.bool true)], args := [d1, d2, d3] }
  | _ => none }
def usageMergesRow : OpenClaim := { program := "ytogdnolkheifcaa", sum := "d93a9d32dc32a618b780f35326a78e2048f83194a84d17c3d3ad97bc54d1f011", func := "moraine/morainelaw09.UsageMerges", spec := "usageMerges", unfollowed := true, recurses := true, apart := false }
def UsageMergesSaid : Prop := usageMergesRow.holds Try.pinned (OpenSpec.ofChange usageMergesSpec)

/-- ITS FALSE NEIGHBOUR: 'it returns false'. Refute it at one input. -/
def usageMergesWrong : ChangeSpec := { name := "usageMerges", fn := fun _ => fun
  | [d1, d2, d3] => { results := [.lit (.bool false)], args := [d1, d2, d3] }
  | _ => none }
def UsageMergesWrongFalsely : Prop := usageMergesRow.holds Try.pinned (OpenSpec.ofChange usageMergesWrong)

/-- 'morainelaw09.UsageFree': WHATEVER THE INPUT: true; the input reads as it did. -/
def usageFreeSpec : ChangeSpec := { name := "usageFree", fn := fun _ => fun
  | [d1, d2, d3] => { results := [.lit (.bool true)], args := [d1, d2, d3] }
  | _ => none }
def usageFreeRow : OpenClaim := { program := "ytogdnolkheifcaa", sum := "d93a9d32dc32a618b780f35326a78e2048f83194a84d17c3d3ad97bc54d1f011", func := "moraine/morainelaw09.UsageFree", spec := "usageFree", unfollowed := true, recurses := true, apart := false }
def UsageFreeSaid : Prop := usageFreeRow.holds Try.pinned (OpenSpec.ofChange usageFreeSpec)

/-- ITS FALSE NEIGHBOUR: 'it returns false'. Refute it at one input. -/
def usageFreeWrong : ChangeSpec := { name := "usageFree", fn := fun _ => fun
  | [d1, d2, d3] => { results := [.lit (.bool false)], args := [d1, d2, d3] }
  | _ => none }
def UsageFreeWrongFalsely : Prop := usageFreeRow.holds Try.pinned (OpenSpec.ofChange usageFreeWrong)

/-- 'morainelaw09.UsageLess': WHATEVER THE INPUT: true; the input reads as it did. -/
def usageLessSpec : ChangeSpec := { name := "usageLess", fn := fun _ => fun
  | [d1, d2, d3, d4, d5] => { results := [.lit (.bool true)], args := [d1, d2, d3, d4, d5] }
  | _ => none }
def usageLessRow : OpenClaim := { program := "ytogdnolkheifcaa", sum := "d93a9d32dc32a618b780f35326a78e2048f83194a84d17c3d3ad97bc54d1f011", func := "moraine/morainelaw09.UsageLess", spec := "usageLess", unfollowed := true, recurses := true, apart := false }
def UsageLessSaid : Prop := usageLessRow.holds Try.pinned (OpenSpec.ofChange usageLessSpec)

/-- ITS FALSE NEIGHBOUR: 'it returns false'. Refute it at one input. -/
def usageLessWrong : ChangeSpec := { name := "usageLess", fn := fun _ => fun
  | [d1, d2, d3, d4, d5] => { results := [.lit (.bool false)], args := [d1, d2, d3, d4, d5] }
  | _ => none }
def UsageLessWrongFalsely : Prop := usageLessRow.holds Try.pinned (OpenSpec.ofChange usageLessWrong)

/-- 'morainelaw09.UsageRoom': WHATEVER THE INPUT: true; the input reads as it did. -/
def usageRoomSpec : ChangeSpec := { name := "usageRoom", fn := fun _ => fun
  | [d1, d2, d3, d4, d5] => { results := [.lit (.bool true)], args := [d1, d2, d3, d4, d5] }
  | _ => none }
def usageRoomRow : OpenClaim := { program := "ytogdnolkheifcaa", sum := "d93a9d32dc32a618b780f35326a78e2048f83194a84d17c3d3ad97bc54d1f011", func := "moraine/morainelaw09.UsageRoom", spec := "usageRoom", unfollowed := true, recurses := true, apart := false }
def UsageRoomSaid : Prop := usageRoomRow.holds Try.pinned (OpenSpec.ofChange usageRoomSpec)

/-- ITS FALSE NEIGHBOUR: 'it returns false'. Refute it at one input. -/
def usageRoomWrong : ChangeSpec := { name := "usageRoom", fn := fun _ => fun
  | [d1, d2, d3, d4, d5] => { results := [.lit (.bool false)], args := [d1, d2, d3, d4, d5] }
  | _ => none }
def UsageRoomWrongFalsely : Prop := usageRoomRow.holds Try.pinned (OpenSpec.ofChange usageRoomWrong)

/- THE SECOND FORM. 'bulk': how many values and letters a reading holds, each counted each time it is reached (what is shared counts as often as it is met; a slice's spare places count too). A statement '..UptoSaid' is the law's where the arguments, and the package variables that the reading takes, are together of bulk at most 1048576: NARROWER than '..Said'. Prove '..Said' where nothing that the law and all that it calls make is longer than what came in: it says more and counts as full. Else prove '..UptoSaid'. A law counts once. -/
mutual
def uptoBulk {H : Type} : DataW H → Nat
  | .lit (.string bytes) => bytes.length + 1
  | .lit _ => 1
  | .nil => 1
  | .ptr d => uptoBulk d + 1
  | .slice elems spare => uptoBulkAll elems + uptoBulkAll spare + 1
  | .agg parts => uptoBulkAll parts + 1
  | .iface _ d => uptoBulk d + 1
  | .map entries => uptoBulkEntries entries + 1
  | .held _ => 1
def uptoBulkAll {H : Type} : List (DataW H) → Nat
  | [] => 0
  | d :: r => uptoBulk d + uptoBulkAll r
def uptoBulkEntries {H : Type} : List (Lit × DataW H) → Nat
  | [] => 0
  | x :: r => uptoBulkEntry x + uptoBulkEntries r
def uptoBulkEntry {H : Type} : Lit × DataW H → Nat
  | (.string bytes, d) => bytes.length + uptoBulk d + 1
  | (_, d) => uptoBulk d + 1
 end
def uptoSmall : (H : Type) → List (DataW H) → Bool := fun _ ds => decide (uptoBulkAll ds ≤ 1048576)
def OpenSpec.upto (s : _root_.Go.ChangeSpec) : _root_.Go.OpenSpec := { _root_.Go.OpenSpec.ofChange s with cond := some uptoSmall }

/-- 'morainelaw09.UsageCounts', WHERE WHAT IT READS IS OF BULK AT MOST 1048576: true; the input reads as it did. -/
def usageCountsUptoRow : OpenClaim := { program := "ytogdnolkheifcaa", sum := "d93a9d32dc32a618b780f35326a78e2048f83194a84d17c3d3ad97bc54d1f011", func := "moraine/morainelaw09.UsageCounts", spec := "usageCounts", unfollowed := true, recurses := true, apart := false, narrowed := true }
def UsageCountsUptoSaid : Prop := usageCountsUptoRow.holds Try.pinned (OpenSpec.upto usageCountsSpec)

/-- 'morainelaw09.UsageTakes', WHERE WHAT IT READS IS OF BULK AT MOST 1048576: true; the input reads as it did. -/
def usageTakesUptoRow : OpenClaim := { program := "ytogdnolkheifcaa", sum := "d93a9d32dc32a618b780f35326a78e2048f83194a84d17c3d3ad97bc54d1f011", func := "moraine/morainelaw09.UsageTakes", spec := "usageTakes", unfollowed := true, recurses := true, apart := false, narrowed := true }
def UsageTakesUptoSaid : Prop := usageTakesUptoRow.holds Try.pinned (OpenSpec.upto usageTakesSpec)

/-- 'morainelaw09.UsageSum', WHERE WHAT IT READS IS OF BULK AT MOST 1048576: true; the input reads as it did. -/
def usageSumUptoRow : OpenClaim := { program := "ytogdnolkheifcaa", sum := "d93a9d32dc32a618b780f35326a78e2048f83194a84d17c3d3ad97bc54d1f011", func := "moraine/morainelaw09.UsageSum", spec := "usageSum", unfollowed := true, recurses := true, apart := false, narrowed := true }
def UsageSumUptoSaid : Prop := usageSumUptoRow.holds Try.pinned (OpenSpec.upto usageSumSpec)

/-- 'morainelaw09.UsageMerges', WHERE WHAT IT READS IS OF BULK AT MOST 1048576: true; the input reads as it did. -/
def usageMergesUptoRow : OpenClaim := { program := "ytogdnolkheifcaa", sum := "d93a9d32dc32a618b780f35326a78e2048f83194a84d17c3d3ad97bc54d1f011", func := "moraine/morainelaw09.UsageMerges", spec := "usageMerges", unfollowed := true, recurses := true, apart := false, narrowed := true }
def UsageMergesUptoSaid : Prop := usageMergesUptoRow.holds Try.pinned (OpenSpec.upto usageMergesSpec)

/-- 'morainelaw09.UsageFree', WHERE WHAT IT READS IS OF BULK AT MOST 1048576: true; the input reads as it did. -/
def usageFreeUptoRow : OpenClaim := { program := "ytogdnolkheifcaa", sum := "d93a9d32dc32a618b780f35326a78e2048f83194a84d17c3d3ad97bc54d1f011", func := "moraine/morainelaw09.UsageFree", spec := "usageFree", unfollowed := true, recurses := true, apart := false, narrowed := true }
def UsageFreeUptoSaid : Prop := usageFreeUptoRow.holds Try.pinned (OpenSpec.upto usageFreeSpec)

/-- 'morainelaw09.UsageLess', WHERE WHAT IT READS IS OF BULK AT MOST 1048576: true; the input reads as it did. -/
def usageLessUptoRow : OpenClaim := { program := "ytogdnolkheifcaa", sum := "d93a9d32dc32a618b780f35326a78e2048f83194a84d17c3d3ad97bc54d1f011", func := "moraine/morainelaw09.UsageLess", spec := "usageLess", unfollowed := true, recurses := true, apart := false, narrowed := true }
def UsageLessUptoSaid : Prop := usageLessUptoRow.holds Try.pinned (OpenSpec.upto usageLessSpec)

/-- 'morainelaw09.UsageRoom', WHERE WHAT IT READS IS OF BULK AT MOST 1048576: true; the input reads as it did. -/
def usageRoomUptoRow : OpenClaim := { program := "ytogdnolkheifcaa", sum := "d93a9d32dc32a618b780f35326a78e2048f83194a84d17c3d3ad97bc54d1f011", func := "moraine/morainelaw09.UsageRoom", spec := "usageRoom", unfollowed := true, recurses := true, apart := false, narrowed := true }
def UsageRoomUptoSaid : Prop := usageRoomUptoRow.holds Try.pinned (OpenSpec.upto usageRoomSpec)

end Rows
end Go.Proofs.Ytogdnolkheifcaa
