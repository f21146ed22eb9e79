/-
  No cell of these rows narrows 'for every input' (looked for: loops, veiled, ifaces, maps, wideKeys, modest, calm, conditions, laid).
  DERIVED. THE GIVEN ROWS OF THIS SEAT. 8 by the template 'for every input the law returns true; each argument reads behind the call as it read before'; 0 by the template 'total and deterministic' (their statements: YtoahkeabdikhcaaTotals.lean).
  GIVEN WITH THE SEED: the statements are not yours to turn. If you find one false, say at which input.
  Laid BY PROGRAM, IN A SANDBOX (cutbox-rows.mjs): the forced cells as the released guide's own fill.sh prints them over the translation 7e24be19dafe0af6… (all of the seat's roots in one cut). By AI agents, Wed Nov 11 2026. No macro, syntax, notation, axiom, sorry.
-/
import Derived.Test.YtoahkeabdikhcaaChecked
import GoSem.Claim
import GoSem.ClaimJoined
import GoSem.ClaimMapViews
import Derived.JoinedTies
import Derived.KernelRfl
namespace Go.Proofs.Ytoahkeabdikhcaa
/- THE CELL 'sum', in the pinned program and in every row, IS THE sha256 OF THE DUMP (.gsa) THAT YtoahkeabdikhcaaProg.lean LOADS. Nothing in Lean hashes anything: it is a label: what it is worth is what the hold of that sum in a sandbox is worth. -/
noncomputable def Try.pinned : Pinned := { name := "ytoahkeabdikhcaa", sum := "7e24be19dafe0af63d75cdde28c3f0fe3c34981c303f6e8ee122d6f3f7f5e278", checked := Try.checked }
namespace Rows
def none {H : Type} : Left H := { results := [], args := [] }

/-- 'morainelaw03.GeoAnswers': WHATEVER THE INPUT: true; the input reads as it did. -/
def geoAnswersSpec : ChangeSpec := { name := "geoAnswers", fn := fun _ => fun
  | [d] => { results := [.lit (.bool true)], args := [d] }
  | _ => none }
def geoAnswersRow : OpenClaim := { program := "ytoahkeabdikhcaa", sum := "7e24be19dafe0af63d75cdde28c3f0fe3c34981c303f6e8ee122d6f3f7f5e278", func := "moraine/morainelaw03.GeoAnswers", spec := "geoAnswers", plainKeys := false, apart := false }
def GeoAnswersSaid : Prop := geoAnswersRow.holds Try.pinned (OpenSpec.ofChange geoAnswersSpec)

/-- ITS FALSE NEIGHBOUR: 'it returns false'. Refute it at one input. -/
def geoAnswersWrong : ChangeSpec := { name := "geoAnswers", fn := fun _ => fun
  | [d] => { results := [.lit (.bool false)], args := [d] }
  | _ => none }
def GeoAnswersWrongFalsely : Prop := geoAnswersRow.holds Try.pinned (OpenSpec.ofChange geoAnswersWrong)

/-- 'morainelaw03.GeoApart': WHATEVER THE INPUT: true; the input reads as it did. -/
def geoApartSpec : ChangeSpec := { name := "geoApart", fn := fun _ => fun
  | [d] => { results := [.lit (.bool true)], args := [d] }
  | _ => none }
def geoApartRow : OpenClaim := { program := "ytoahkeabdikhcaa", sum := "7e24be19dafe0af63d75cdde28c3f0fe3c34981c303f6e8ee122d6f3f7f5e278", func := "moraine/morainelaw03.GeoApart", spec := "geoApart", plainKeys := false, apart := false }
def GeoApartSaid : Prop := geoApartRow.holds Try.pinned (OpenSpec.ofChange geoApartSpec)

/-- ITS FALSE NEIGHBOUR: 'it returns false'. Refute it at one input. -/
def geoApartWrong : ChangeSpec := { name := "geoApart", fn := fun _ => fun
  | [d] => { results := [.lit (.bool false)], args := [d] }
  | _ => none }
def GeoApartWrongFalsely : Prop := geoApartRow.holds Try.pinned (OpenSpec.ofChange geoApartWrong)

/-- 'morainelaw03.GeoRows': WHATEVER THE INPUT: true; the input reads as it did. -/
def geoRowsSpec : ChangeSpec := { name := "geoRows", fn := fun _ => fun
  | [d1, d2, d3] => { results := [.lit (.bool true)], args := [d1, d2, d3] }
  | _ => none }
def geoRowsRow : OpenClaim := { program := "ytoahkeabdikhcaa", sum := "7e24be19dafe0af63d75cdde28c3f0fe3c34981c303f6e8ee122d6f3f7f5e278", func := "moraine/morainelaw03.GeoRows", spec := "geoRows", plainKeys := false, apart := false }
def GeoRowsSaid : Prop := geoRowsRow.holds Try.pinned (OpenSpec.ofChange geoRowsSpec)

/-- ITS FALSE NEIGHBOUR: 'it returns false'. Refute it at one input. -/
def geoRowsWrong : ChangeSpec := { name := "geoRows", fn := fun _ => fun
  | [d1, d2, d3] => { results := [.lit (.bool false)], args := [d1, d2, d3] }
  | _ => none }
def GeoRowsWrongFalsely : Prop := geoRowsRow.holds Try.pinned (OpenSpec.ofChange geoRowsWrong)

/-- 'morainelaw03.GeoCaps': WHATEVER THE INPUT: true; the input reads as it did. -/
def geoCapsSpec : ChangeSpec := { name := "geoCaps", fn := fun _ => fun
  | [d] => { results := [.lit (.bool true)], args := [d] }
  | _ => none }
def geoCapsRow : OpenClaim := { program := "ytoahkeabdikhcaa", sum := "7e24be19dafe0af63d75cdde28c3f0fe3c34981c303f6e8ee122d6f3f7f5e278", func := "moraine/morainelaw03.GeoCaps", spec := "geoCaps", plainKeys := false, apart := false }
def GeoCapsSaid : Prop := geoCapsRow.holds Try.pinned (OpenSpec.ofChange geoCapsSpec)

/-- ITS FALSE NEIGHBOUR: 'it returns false'. Refute it at one input. -/
def geoCapsWrong : ChangeSpec := { name := "geoCaps", fn := fun _ => fun
  | [d] => { results := [.lit (.bool false)], args := [d] }
  | _ => none }
def GeoCapsWrongFalsely : Prop := geoCapsRow.holds Try.pinned (OpenSpec.ofChange geoCapsWrong)

/-- 'morainelaw03.GeoOrder': WHATEVER THE INPUT: true; the input reads as it did. -/
def geoOrderSpec : ChangeSpec := { name := "geoOrder", fn := fun _ => fun
  | [d1, d2, d3, d4, d5] => { results := [.lit (.bool true)], args := [d1, d2, d3, d4, d5] }
  | _ => none }
def geoOrderRow : OpenClaim := { program := "ytoahkeabdikhcaa", sum := "7e24be19dafe0af63d75cdde28c3f0fe3c34981c303f6e8ee122d6f3f7f5e278", func := "moraine/morainelaw03.GeoOrder", spec := "geoOrder", plainKeys := false, apart := false }
def GeoOrderSaid : Prop := geoOrderRow.holds Try.pinned (OpenSpec.ofChange geoOrderSpec)

/-- ITS FALSE NEIGHBOUR: 'it returns false'. Refute it at one input. -/
def geoOrderWrong : ChangeSpec := { name := "geoOrder", fn := fun _ => fun
  | [d1, d2, d3, d4, d5] => { results := [.lit (.bool false)], args := [d1, d2, d3, d4, d5] }
  | _ => none }
def GeoOrderWrongFalsely : Prop := geoOrderRow.holds Try.pinned (OpenSpec.ofChange geoOrderWrong)

/-- 'morainelaw03.GeoSpots': WHATEVER THE INPUT: true; the input reads as it did. -/
def geoSpotsSpec : ChangeSpec := { name := "geoSpots", fn := fun _ => fun
  | [d1, d2, d3, d4] => { results := [.lit (.bool true)], args := [d1, d2, d3, d4] }
  | _ => none }
def geoSpotsRow : OpenClaim := { program := "ytoahkeabdikhcaa", sum := "7e24be19dafe0af63d75cdde28c3f0fe3c34981c303f6e8ee122d6f3f7f5e278", func := "moraine/morainelaw03.GeoSpots", spec := "geoSpots", plainKeys := false, apart := false }
def GeoSpotsSaid : Prop := geoSpotsRow.holds Try.pinned (OpenSpec.ofChange geoSpotsSpec)

/-- ITS FALSE NEIGHBOUR: 'it returns false'. Refute it at one input. -/
def geoSpotsWrong : ChangeSpec := { name := "geoSpots", fn := fun _ => fun
  | [d1, d2, d3, d4] => { results := [.lit (.bool false)], args := [d1, d2, d3, d4] }
  | _ => none }
def GeoSpotsWrongFalsely : Prop := geoSpotsRow.holds Try.pinned (OpenSpec.ofChange geoSpotsWrong)

/-- 'morainelaw03.GeoBack': WHATEVER THE INPUT: true; the input reads as it did. -/
def geoBackSpec : ChangeSpec := { name := "geoBack", fn := fun _ => fun
  | [d1, d2] => { results := [.lit (.bool true)], args := [d1, d2] }
  | _ => none }
def geoBackRow : OpenClaim := { program := "ytoahkeabdikhcaa", sum := "7e24be19dafe0af63d75cdde28c3f0fe3c34981c303f6e8ee122d6f3f7f5e278", func := "moraine/morainelaw03.GeoBack", spec := "geoBack", plainKeys := false, apart := false }
def GeoBackSaid : Prop := geoBackRow.holds Try.pinned (OpenSpec.ofChange geoBackSpec)

/-- ITS FALSE NEIGHBOUR: 'it returns false'. Refute it at one input. -/
def geoBackWrong : ChangeSpec := { name := "geoBack", fn := fun _ => fun
  | [d1, d2] => { results := [.lit (.bool false)], args := [d1, d2] }
  | _ => none }
def GeoBackWrongFalsely : Prop := geoBackRow.holds Try.pinned (OpenSpec.ofChange geoBackWrong)

/-- 'morainelaw03.GeoCount': WHATEVER THE INPUT: true; the input reads as it did. -/
def geoCountSpec : ChangeSpec := { name := "geoCount", fn := fun _ => fun
  | [d] => { results := [.lit (.bool true)], args := [d] }
  | _ => none }
def geoCountRow : OpenClaim := { program := "ytoahkeabdikhcaa", sum := "7e24be19dafe0af63d75cdde28c3f0fe3c34981c303f6e8ee122d6f3f7f5e278", func := "moraine/morainelaw03.GeoCount", spec := "geoCount", plainKeys := false, apart := false }
def GeoCountSaid : Prop := geoCountRow.holds Try.pinned (OpenSpec.ofChange geoCountSpec)

/-- ITS FALSE NEIGHBOUR: 'it returns false'. Refute it at one input. -/
def geoCountWrong : ChangeSpec := { name := "geoCount", fn := fun _ => fun
  | [d] => { results := [.lit (.bool false)], args := [d] }
  | _ => none }
def GeoCountWrongFalsely : Prop := geoCountRow.holds Try.pinned (OpenSpec.ofChange geoCountWrong)

/- THE SECOND FORM. 'bulk': how many values and letters a reading holds, each counted each time it is reached (what is shared counts as often as it is met; a slice's spare places count too). A statement '..UptoSaid' is the law's where the arguments, and the package variables that the reading takes, are together of bulk at most 1048576: NARROWER than '..Said'. Prove '..Said' where nothing that the law and all that it calls make is longer than what came in: it says more and counts as full. Else prove '..UptoSaid'. A law counts once. -/
mutual
def uptoBulk {H : Type} : DataW H → Nat
  | .lit (.string bytes) => bytes.length + 1
  | .lit _ => 1
  | .nil => 1
  | .ptr d => uptoBulk d + 1
  | .slice elems spare => uptoBulkAll elems + uptoBulkAll spare + 1
  | .agg parts => uptoBulkAll parts + 1
  | .iface _ d => uptoBulk d + 1
  | .map entries => uptoBulkEntries entries + 1
  | .held _ => 1
def uptoBulkAll {H : Type} : List (DataW H) → Nat
  | [] => 0
  | d :: r => uptoBulk d + uptoBulkAll r
def uptoBulkEntries {H : Type} : List (Lit × DataW H) → Nat
  | [] => 0
  | x :: r => uptoBulkEntry x + uptoBulkEntries r
def uptoBulkEntry {H : Type} : Lit × DataW H → Nat
  | (.string bytes, d) => bytes.length + uptoBulk d + 1
  | (_, d) => uptoBulk d + 1
 end
def uptoSmall : (H : Type) → List (DataW H) → Bool := fun _ ds => decide (uptoBulkAll ds ≤ 1048576)
def OpenSpec.upto (s : _root_.Go.ChangeSpec) : _root_.Go.OpenSpec := { _root_.Go.OpenSpec.ofChange s with cond := some uptoSmall }

/-- 'morainelaw03.GeoAnswers', WHERE WHAT IT READS IS OF BULK AT MOST 1048576: true; the input reads as it did. -/
def geoAnswersUptoRow : OpenClaim := { program := "ytoahkeabdikhcaa", sum := "7e24be19dafe0af63d75cdde28c3f0fe3c34981c303f6e8ee122d6f3f7f5e278", func := "moraine/morainelaw03.GeoAnswers", spec := "geoAnswers", plainKeys := false, apart := false, narrowed := true }
def GeoAnswersUptoSaid : Prop := geoAnswersUptoRow.holds Try.pinned (OpenSpec.upto geoAnswersSpec)

/-- 'morainelaw03.GeoApart', WHERE WHAT IT READS IS OF BULK AT MOST 1048576: true; the input reads as it did. -/
def geoApartUptoRow : OpenClaim := { program := "ytoahkeabdikhcaa", sum := "7e24be19dafe0af63d75cdde28c3f0fe3c34981c303f6e8ee122d6f3f7f5e278", func := "moraine/morainelaw03.GeoApart", spec := "geoApart", plainKeys := false, apart := false, narrowed := true }
def GeoApartUptoSaid : Prop := geoApartUptoRow.holds Try.pinned (OpenSpec.upto geoApartSpec)

/-- 'morainelaw03.GeoRows', WHERE WHAT IT READS IS OF BULK AT MOST 1048576: true; the input reads as it did. -/
def geoRowsUptoRow : OpenClaim := { program := "ytoahkeabdikhcaa", sum := "7e24be19dafe0af63d75cdde28c3f0fe3c34981c303f6e8ee122d6f3f7f5e278", func := "moraine/morainelaw03.GeoRows", spec := "geoRows", plainKeys := false, apart := false, narrowed := true }
def GeoRowsUptoSaid : Prop := geoRowsUptoRow.holds Try.pinned (OpenSpec.upto geoRowsSpec)

/-- 'morainelaw03.GeoCaps', WHERE WHAT IT READS IS OF BULK AT MOST 1048576: true; the input reads as it did. -/
def geoCapsUptoRow : OpenClaim := { program := "ytoahkeabdikhcaa", sum := "7e24be19dafe0af63d75cdde28c3f0fe3c34981c303f6e8ee122d6f3f7f5e278", func := "moraine/morainelaw03.GeoCaps", spec := "geoCaps", plainKeys := false, apart := false, narrowed := true }
def GeoCapsUptoSaid : Prop := geoCapsUptoRow.holds Try.pinned (OpenSpec.upto geoCapsSpec)

/-- 'morainelaw03.GeoOrder', WHERE WHAT IT READS IS OF BULK AT MOST 1048576: true; the input reads as it did. -/
def geoOrderUptoRow : OpenClaim := { program := "ytoahkeabdikhcaa", sum := "7e24be19dafe0af63d75cdde28c3f0fe3c34981c303f6e8ee122d6f3f7f5e278", func := "moraine/morainelaw03.GeoOrder", spec := "geoOrder", plainKeys := false, apart := false, narrowed := true }
def GeoOrderUptoSaid : Prop := geoOrderUptoRow.holds Try.pinned (OpenSpec.upto geoOrderSpec)

/-- 'morainelaw03.GeoSpots', WHERE WHAT IT READS IS OF BULK AT MOST 1048576: true; the input reads as it did. -/
def geoSpotsUptoRow : OpenClaim := { program := "ytoahkeabdikhcaa", sum := "7e24be19dafe0af63d75cdde28c3f0fe3c34981c303f6e8ee122d6f3f7f5e278", func := "moraine/morainelaw03.GeoSpots", spec := "geoSpots", plainKeys := false, apart := false, narrowed := true }
def GeoSpotsUptoSaid : Prop := geoSpotsUptoRow.holds Try.pinned (OpenSpec.upto geoSpotsSpec)

/-- 'morainelaw03.GeoBack', WHERE WHAT IT READS IS OF BULK AT MOST 1048576: true; the input reads as it did. -/
def geoBackUptoRow : OpenClaim := { program := "ytoahkeabdikhcaa", sum := "7e24be19dafe0af63d75cdde28c3f0fe3c34981c303f6e8ee122d6f3f7f5e278", func := "moraine/morainelaw03.GeoBack", spec := "geoBack", plainKeys := false, apart := false, narrowed := true }
def GeoBackUptoSaid : Prop := geoBackUptoRow.holds Try.pinned (OpenSpec.upto geoBackSpec)

/-- 'morainelaw03.GeoCount', WHERE WHAT IT READS IS OF BULK AT MOST 1048576: true; the input reads as it did. -/
def geoCountUptoRow : OpenClaim := { program := "ytoahkeabdikhcaa", sum := "7e24be19dafe0af63d75cdde28c3f0fe3c34981c303f6e8ee122d6f3f7f5e278", func := "moraine/morainelaw03.GeoCount", spec := "geoCount", plainKeys := false, apart := false, narrowed := true }
def GeoCountUptoSaid : Prop := geoCountUptoRow.holds Try.pinned (OpenSpec.upto geoCountSpec)

end Rows
end Go.Proofs.Ytoahkeabdikhcaa
