import Derived.Test.YtljjlfjhkdbbfaaProg
import Derived.Below
import Derived.Deep.Draws
import Derived.Deep.AppendLies
import Derived.Maps.AppendAt
import Derived.OwnWalk
import Derived.Laws.BytesArg
import Derived.Laws.MakeOwn
import Derived.Laws.OwnMore
import Derived.Deep.OwnRows
import Derived.Tactics
import Derived.Lib.ConvBytes
import Derived.Laws.Slices
import Derived.WalkKit
import Derived.KernelRfl
import Derived.RowKit3
import Derived.Deep.LoopGhost
import Derived.Deep.QuietTactic
import Derived.BigQuiet
import Derived.WideLaws
import Derived.Deep.DeepCutAuto
import Derived.Deep.CutBlock
import Derived.Deep.RegionHeld3
import Derived.Laws.Rows
import Derived.Lib.AppendStr
import Derived.ArgAppend
import Derived.Laws.IdiomCopy
import Derived.OrdersHeld
import Derived.Laws.BitsLemmas
import Derived.RowKit
import Derived.Test.YtljjlfjhkdbbfaaBase
import Derived.Test.YtljjlfjhkdbbfaaBaseGet
import Derived.Test.YtljjlfjhkdbbfaaGivAlive04
import Derived.Test.YtljjlfjhkdbbfaaGivGet
import Derived.Test.YtljjlfjhkdbbfaaWWords
import Derived.Test.YtljjlfjhkdbbfaaWLast
import Derived.Test.YtljjlfjhkdbbfaaWTab
import Derived.Test.YtljjlfjhkdbbfaaWFour
import Derived.Test.YtljjlfjhkdbbfaaWQPut
import Derived.Test.YtljjlfjhkdbbfaaWApart
import Derived.Test.YtljjlfjhkdbbfaaWArr
import Derived.Test.YtljjlfjhkdbbfaaWZeros
import Derived.Test.YtljjlfjhkdbbfaaWFoot
import Derived.Test.YtljjlfjhkdbbfaaWKept
import Derived.Test.YtljjlfjhkdbbfaaWShare
import Derived.Test.YtljjlfjhkdbbfaaWN
import Derived.Test.YtljjlfjhkdbbfaaWFootNe
import Derived.Test.YtljjlfjhkdbbfaaWAt
import Derived.Test.YtljjlfjhkdbbfaaWEqStruct
import Derived.Test.YtljjlfjhkdbbfaaWRepsOne
import Derived.Test.YtljjlfjhkdbbfaaWInv
import Derived.Test.YtljjlfjhkdbbfaaWInvWords
import Derived.Test.YtljjlfjhkdbbfaaWGuard
import Derived.Test.YtljjlfjhkdbbfaaWNEv
import Derived.Test.YtljjlfjhkdbbfaaWMore
namespace Go.Proofs.Ytljjlfjhkdbbfaa.PSectorCodes
open Go.RowKit Go.Proofs.YtljjlfjhkdbbfaaW.PrintWords Go.Proofs.YtljjlfjhkdbbfaaW.PrintLast Go.Proofs.YtljjlfjhkdbbfaaW.PrintMore Go.Proofs.Ytljjlfjhkdbbfaa.Given Go.Proofs.Ytljjlfjhkdbbfaa.Base
attribute [local go_sem] max2_int min2_int max_two min_two max_three min_three max_four min_four   -- for this text's walks alone
set_option linter.unusedVariables false
set_option linter.unusedSimpArgs false



def errW : Option Int → Value
  | none => .nilIface
  | some c => .iface 0 (.int .i64 c)
theorem errW_none : errW none = .nilIface := rfl
theorem errW_some (c : Int) : errW (some c) = .iface 0 (.int .i64 c) := rfl

theorem info5 : (Try.prog.info? 5).map (fun i => (i.zero, i.size, i.bytes)) = some (some (.int .u8 0), 1, 1) := by kernel_rfl
-- the values' own types

end Go.Proofs.Ytljjlfjhkdbbfaa.PSectorCodes
