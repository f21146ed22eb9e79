import Derived.Test.YtpdfkhglgamhiaaProg
import Derived.Below
import Derived.Deep.Draws
import Derived.Deep.AppendLies
import Derived.Maps.AppendAt
import Derived.OwnWalk
import Derived.Laws.BytesArg
import Derived.Laws.MakeOwn
import Derived.Laws.OwnMore
import Derived.Deep.OwnRows
import Derived.Tactics
import Derived.Lib.ConvBytes
import Derived.Laws.Slices
import Derived.WalkKit
import Derived.KernelRfl
import Derived.RowKit3
import Derived.Deep.LoopGhost
import Derived.Deep.QuietTactic
import Derived.BigQuiet
import Derived.WideLaws
import Derived.Deep.DeepCutAuto
import Derived.Deep.CutBlock
import Derived.Deep.RegionHeld3
import Derived.Laws.Rows
import Derived.Lib.AppendStr
import Derived.ArgAppend
import Derived.Laws.IdiomCopy
import Derived.OrdersHeld
import Derived.Laws.BitsLemmas
import Derived.RowKit
import Derived.Test.YtpdfkhglgamhiaaGiven
import Derived.Test.YtpdfkhglgamhiaaGivPut
import Derived.Test.YtpdfkhglgamhiaaGivGet
import Derived.Test.YtpdfkhglgamhiaaWWords
import Derived.Test.YtpdfkhglgamhiaaWLast
import Derived.Test.YtpdfkhglgamhiaaWTab
import Derived.Test.YtpdfkhglgamhiaaWFour
import Derived.Test.YtpdfkhglgamhiaaWQPut
import Derived.Test.YtpdfkhglgamhiaaWApart
import Derived.Test.YtpdfkhglgamhiaaWArr
import Derived.Test.YtpdfkhglgamhiaaWZeros
import Derived.Test.YtpdfkhglgamhiaaWFoot
import Derived.Test.YtpdfkhglgamhiaaWKept
import Derived.Test.YtpdfkhglgamhiaaWShare
import Derived.Test.YtpdfkhglgamhiaaWN
import Derived.Test.YtpdfkhglgamhiaaWFootNe
import Derived.Test.YtpdfkhglgamhiaaWAt
import Derived.Test.YtpdfkhglgamhiaaWEqStruct
import Derived.Test.YtpdfkhglgamhiaaWRepsOne
import Derived.Test.YtpdfkhglgamhiaaWInv
import Derived.Test.YtpdfkhglgamhiaaWInvWords
import Derived.Test.YtpdfkhglgamhiaaWGuard
import Derived.Test.YtpdfkhglgamhiaaWNEv
import Derived.Test.YtpdfkhglgamhiaaWMore
namespace Go.Proofs.Ytpdfkhglgamhiaa.PBitsBack
open Go.RowKit Go.Proofs.YtpdfkhglgamhiaaW.PrintWords Go.Proofs.YtpdfkhglgamhiaaW.PrintLast Go.Proofs.YtpdfkhglgamhiaaW.PrintMore Go.Proofs.Ytpdfkhglgamhiaa.Given
attribute [local go_sem] max2_int min2_int max_two min_two max_three min_three max_four min_four   -- for this text's walks alone
set_option linter.unusedVariables false
set_option linter.unusedSimpArgs false



def errW : Option Int → Value
  | none => .nilIface
  | some c => .iface 0 (.int .i64 c)
theorem errW_none : errW none = .nilIface := rfl
theorem errW_some (c : Int) : errW (some c) = .iface 0 (.int .i64 c) := rfl

theorem info5 : (Try.prog.info? 5).map (fun i => (i.zero, i.size, i.bytes)) = some (some (.int .u8 0), 1, 1) := by kernel_rfl
-- the values' own types

end Go.Proofs.Ytpdfkhglgamhiaa.PBitsBack
