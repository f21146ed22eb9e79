import Derived.Test.YtfkkhobbmcepmaaDoorBase0
import Derived.Test.YtfkkhobbmcepmaaDoorBase1
import Derived.Test.YtfkkhobbmcepmaaDoorBase2
import Derived.Test.YtfkkhobbmcepmaaDoorBase3
namespace Go.Proofs.YtfkkhobbmcepmaaDoor.Base
open Go.RowKit Go.Proofs.YtfkkhobbmcepmaaDoorW.PrintWords Go.Proofs.YtfkkhobbmcepmaaDoorW.PrintLast Go.Proofs.YtfkkhobbmcepmaaDoorW.PrintMore
attribute [local go_sem] max2_int min2_int max_two min_two max_three min_three max_four min_four   -- for this text's walks alone
set_option linter.unusedVariables false
set_option linter.unusedSimpArgs false

end Go.Proofs.YtfkkhobbmcepmaaDoor.Base
