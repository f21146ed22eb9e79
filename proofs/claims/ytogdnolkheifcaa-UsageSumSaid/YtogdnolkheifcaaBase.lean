import Derived.Test.YtogdnolkheifcaaBase0
import Derived.Test.YtogdnolkheifcaaBase1
import Derived.Test.YtogdnolkheifcaaBase2
import Derived.Test.YtogdnolkheifcaaBase3
namespace Go.Proofs.Ytogdnolkheifcaa.Base
open Go.RowKit Go.Proofs.YtogdnolkheifcaaW.PrintWords Go.Proofs.YtogdnolkheifcaaW.PrintLast Go.Proofs.YtogdnolkheifcaaW.PrintMore
attribute [local go_sem] max2_int min2_int max_two min_two max_three min_three max_four min_four   -- for this text's walks alone
set_option linter.unusedVariables false
set_option linter.unusedSimpArgs false

end Go.Proofs.Ytogdnolkheifcaa.Base
