import Derived.Test.YtoahkeabdikhcaaProg
import Derived.Below
import Derived.Deep.Draws
import Derived.Deep.AppendLies
import Derived.Maps.AppendAt
import Derived.OwnWalk
import Derived.Laws.BytesArg
import Derived.Laws.MakeOwn
import Derived.Laws.OwnMore
import Derived.Deep.OwnRows
import Derived.Tactics
import Derived.Lib.ConvBytes
import Derived.Laws.Slices
import Derived.WalkKit
import Derived.KernelRfl
import Derived.RowKit3
import Derived.Deep.LoopGhost
import Derived.Deep.QuietTactic
import Derived.BigQuiet
import Derived.WideLaws
import Derived.Deep.DeepCutAuto
import Derived.Deep.CutBlock
import Derived.Deep.RegionHeld3
import Derived.Laws.Rows
import Derived.Lib.AppendStr
import Derived.ArgAppend
import Derived.Laws.IdiomCopy
import Derived.OrdersHeld
import Derived.Laws.BitsLemmas
import Derived.RowKit
import Derived.Test.YtoahkeabdikhcaaWWords
import Derived.Test.YtoahkeabdikhcaaWLast
import Derived.Test.YtoahkeabdikhcaaWTab
import Derived.Test.YtoahkeabdikhcaaWFour
import Derived.Test.YtoahkeabdikhcaaWQPut
import Derived.Test.YtoahkeabdikhcaaWApart
import Derived.Test.YtoahkeabdikhcaaWArr
import Derived.Test.YtoahkeabdikhcaaWZeros
import Derived.Test.YtoahkeabdikhcaaWFoot
import Derived.Test.YtoahkeabdikhcaaWKept
import Derived.Test.YtoahkeabdikhcaaWShare
import Derived.Test.YtoahkeabdikhcaaWN
import Derived.Test.YtoahkeabdikhcaaWFootNe
import Derived.Test.YtoahkeabdikhcaaWAt
import Derived.Test.YtoahkeabdikhcaaWEqStruct
import Derived.Test.YtoahkeabdikhcaaWRepsOne
import Derived.Test.YtoahkeabdikhcaaWInv
import Derived.Test.YtoahkeabdikhcaaWInvWords
import Derived.Test.YtoahkeabdikhcaaWGuard
import Derived.Test.YtoahkeabdikhcaaWNEv
import Derived.Test.YtoahkeabdikhcaaWMore
namespace Go.Proofs.Ytoahkeabdikhcaa.Base
open Go.RowKit Go.Proofs.YtoahkeabdikhcaaW.PrintWords Go.Proofs.YtoahkeabdikhcaaW.PrintLast Go.Proofs.YtoahkeabdikhcaaW.PrintMore
attribute [local go_sem] max2_int min2_int max_two min_two max_three min_three max_four min_four   -- for this text's walks alone
set_option linter.unusedVariables false
set_option linter.unusedSimpArgs false



def errW : Option Int → Value
  | none => .nilIface
  | some c => .iface 0 (.int .i64 c)
theorem errW_none : errW none = .nilIface := rfl
theorem errW_some (c : Int) : errW (some c) = .iface 0 (.int .i64 c) := rfl

-- the values' own types

end Go.Proofs.Ytoahkeabdikhcaa.Base
