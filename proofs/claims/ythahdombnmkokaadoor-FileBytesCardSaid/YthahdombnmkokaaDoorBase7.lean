import Derived.Test.YthahdombnmkokaaDoorBase0
import Derived.Test.YthahdombnmkokaaDoorBase1
namespace Go.Proofs.YthahdombnmkokaaDoor.Base
open Go.RowKit Go.Proofs.YthahdombnmkokaaDoorW.PrintWords Go.Proofs.YthahdombnmkokaaDoorW.PrintLast Go.Proofs.YthahdombnmkokaaDoorW.PrintMore
attribute [local go_sem] max2_int min2_int max_two min_two max_three min_three max_four min_four   -- for this text's walks alone
set_option linter.unusedVariables false
set_option linter.unusedSimpArgs false

end Go.Proofs.YthahdombnmkokaaDoor.Base
