import Derived.Test.YtogdnolkheifcaaQUsageTakesx0
import Derived.Test.YtogdnolkheifcaaQUsageTakesx12
namespace Go.Proofs.Ytogdnolkheifcaa.PUsageTakes
open Go.RowKit Go.Proofs.YtogdnolkheifcaaW.PrintWords Go.Proofs.YtogdnolkheifcaaW.PrintLast Go.Proofs.YtogdnolkheifcaaW.PrintMore Go.Proofs.Ytogdnolkheifcaa.Given Go.Proofs.Ytogdnolkheifcaa.Base Go.Proofs.Ytogdnolkheifcaa.Base2x
attribute [local go_sem] max2_int min2_int max_two min_two max_three min_three max_four min_four   -- for this text's walks alone
set_option linter.unusedVariables false
set_option linter.unusedSimpArgs false

end Go.Proofs.Ytogdnolkheifcaa.PUsageTakes
