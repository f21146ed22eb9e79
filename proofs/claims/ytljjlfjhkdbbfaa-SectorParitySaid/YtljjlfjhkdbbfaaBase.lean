import Derived.Test.YtljjlfjhkdbbfaaBase0
import Derived.Test.YtljjlfjhkdbbfaaBase1
import Derived.Test.YtljjlfjhkdbbfaaBase2
namespace Go.Proofs.Ytljjlfjhkdbbfaa.Base
open Go.RowKit Go.Proofs.YtljjlfjhkdbbfaaW.PrintWords Go.Proofs.YtljjlfjhkdbbfaaW.PrintLast Go.Proofs.YtljjlfjhkdbbfaaW.PrintMore Go.Proofs.Ytljjlfjhkdbbfaa.Given
attribute [local go_sem] max2_int min2_int max_two min_two max_three min_three max_four min_four   -- for this text's walks alone
set_option linter.unusedVariables false
set_option linter.unusedSimpArgs false

end Go.Proofs.Ytljjlfjhkdbbfaa.Base
