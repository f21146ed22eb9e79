import Derived.Test.YtpdfkhglgamhiaaDoorProg
import Derived.Below
import Derived.Deep.Draws
import Derived.Deep.AppendLies
import Derived.Maps.AppendAt
import Derived.OwnWalk
import Derived.Laws.BytesArg
import Derived.Laws.MakeOwn
import Derived.Laws.OwnMore
import Derived.Deep.OwnRows
import Derived.Tactics
import Derived.Lib.ConvBytes
import Derived.Laws.Slices
import Derived.WalkKit
import Derived.KernelRfl
import Derived.RowKit3
import Derived.Deep.LoopGhost
import Derived.Deep.QuietTactic
import Derived.BigQuiet
import Derived.WideLaws
import Derived.Deep.DeepCutAuto
import Derived.Deep.CutBlock
import Derived.Deep.RegionHeld3
import Derived.Laws.Rows
import Derived.Lib.AppendStr
import Derived.ArgAppend
import Derived.Laws.IdiomCopy
import Derived.OrdersHeld
import Derived.Laws.BitsLemmas
import Derived.RowKit
import Derived.Test.YtpdfkhglgamhiaaDoorGivXor
import Derived.Test.YtpdfkhglgamhiaaDoorGivPut
import Derived.Test.YtpdfkhglgamhiaaDoorGivGet
import Derived.Test.YtpdfkhglgamhiaaDoorGivPad
import Derived.Test.YtpdfkhglgamhiaaDoorGivRefPad
import Derived.Test.YtpdfkhglgamhiaaDoorGivNought
import Derived.Test.YtpdfkhglgamhiaaDoorWWords
import Derived.Test.YtpdfkhglgamhiaaDoorWLast
import Derived.Test.YtpdfkhglgamhiaaDoorWTab
import Derived.Test.YtpdfkhglgamhiaaDoorWFour
import Derived.Test.YtpdfkhglgamhiaaDoorWQPut
import Derived.Test.YtpdfkhglgamhiaaDoorWApart
import Derived.Test.YtpdfkhglgamhiaaDoorWArr
import Derived.Test.YtpdfkhglgamhiaaDoorWZeros
import Derived.Test.YtpdfkhglgamhiaaDoorWFoot
import Derived.Test.YtpdfkhglgamhiaaDoorWKept
import Derived.Test.YtpdfkhglgamhiaaDoorWShare
import Derived.Test.YtpdfkhglgamhiaaDoorWN
import Derived.Test.YtpdfkhglgamhiaaDoorWFootNe
import Derived.Test.YtpdfkhglgamhiaaDoorWAt
import Derived.Test.YtpdfkhglgamhiaaDoorWEqStruct
import Derived.Test.YtpdfkhglgamhiaaDoorWRepsOne
import Derived.Test.YtpdfkhglgamhiaaDoorWInv
import Derived.Test.YtpdfkhglgamhiaaDoorWInvWords
import Derived.Test.YtpdfkhglgamhiaaDoorWGuard
import Derived.Test.YtpdfkhglgamhiaaDoorWNEv
import Derived.Test.YtpdfkhglgamhiaaDoorWMore
namespace Go.Proofs.YtpdfkhglgamhiaaDoor.PBitsXor
open Go.RowKit Go.Proofs.YtpdfkhglgamhiaaDoorW.PrintWords Go.Proofs.YtpdfkhglgamhiaaDoorW.PrintLast Go.Proofs.YtpdfkhglgamhiaaDoorW.PrintMore Go.Proofs.YtpdfkhglgamhiaaDoor.Given
attribute [local go_sem] max2_int min2_int max_two min_two max_three min_three max_four min_four   -- for this text's walks alone
set_option linter.unusedVariables false
set_option linter.unusedSimpArgs false



def errW : Option Int → Value
  | none => .nilIface
  | some c => .iface 0 (.int .i64 c)
theorem errW_none : errW none = .nilIface := rfl
theorem errW_some (c : Int) : errW (some c) = .iface 0 (.int .i64 c) := rfl

theorem info5 : (Tryd.prog.info? 5).map (fun i => (i.zero, i.size, i.bytes)) = some (some (.int .u8 0), 1, 1) := by kernel_rfl
-- the values' own types

end Go.Proofs.YtpdfkhglgamhiaaDoor.PBitsXor
