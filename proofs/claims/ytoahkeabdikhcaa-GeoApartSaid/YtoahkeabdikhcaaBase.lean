import Derived.Test.YtoahkeabdikhcaaBase0
import Derived.Test.YtoahkeabdikhcaaBase1
import Derived.Test.YtoahkeabdikhcaaBase2
import Derived.Test.YtoahkeabdikhcaaBase3
import Derived.Test.YtoahkeabdikhcaaBase4
import Derived.Test.YtoahkeabdikhcaaBase5
namespace Go.Proofs.Ytoahkeabdikhcaa.Base
open Go.RowKit Go.Proofs.YtoahkeabdikhcaaW.PrintWords Go.Proofs.YtoahkeabdikhcaaW.PrintLast Go.Proofs.YtoahkeabdikhcaaW.PrintMore
attribute [local go_sem] max2_int min2_int max_two min_two max_three min_three max_four min_four   -- for this text's walks alone
set_option linter.unusedVariables false
set_option linter.unusedSimpArgs false

end Go.Proofs.Ytoahkeabdikhcaa.Base
