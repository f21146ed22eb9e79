import Derived.Test.YtkpipmhcjjncdaaDoorQSuperNewestx0
import Derived.Test.YtkpipmhcjjncdaaDoorQSuperNewestx1
import Derived.Test.YtkpipmhcjjncdaaDoorQSuperNewestx2
import Derived.Test.YtkpipmhcjjncdaaDoorQSuperNewestx3
namespace Go.Proofs.YtkpipmhcjjncdaaDoor.PSuperNewest
open Go.RowKit Go.Proofs.YtkpipmhcjjncdaaDoorW.PrintWords Go.Proofs.YtkpipmhcjjncdaaDoorW.PrintLast Go.Proofs.YtkpipmhcjjncdaaDoorW.PrintMore Go.Proofs.YtkpipmhcjjncdaaDoor.Given Go.Proofs.YtkpipmhcjjncdaaDoor.Base
attribute [local go_sem] max2_int min2_int max_two min_two max_three min_three max_four min_four   -- for this text's walks alone
set_option linter.unusedVariables false
set_option linter.unusedSimpArgs false

end Go.Proofs.YtkpipmhcjjncdaaDoor.PSuperNewest
