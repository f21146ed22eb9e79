import Derived.Test.YtkpipmhcjjncdaaDoorQSuperBackx0
import Derived.Test.YtkpipmhcjjncdaaDoorQSuperBackx1
import Derived.Test.YtkpipmhcjjncdaaDoorQSuperBackx2
import Derived.Test.YtkpipmhcjjncdaaDoorQSuperBackx3
import Derived.Test.YtkpipmhcjjncdaaDoorQSuperBackx4
namespace Go.Proofs.YtkpipmhcjjncdaaDoor.PSuperBack
open Go.RowKit Go.Proofs.YtkpipmhcjjncdaaDoorW.PrintWords Go.Proofs.YtkpipmhcjjncdaaDoorW.PrintLast Go.Proofs.YtkpipmhcjjncdaaDoorW.PrintMore Go.Proofs.YtkpipmhcjjncdaaDoor.Given
attribute [local go_sem] max2_int min2_int max_two min_two max_three min_three max_four min_four   -- for this text's walks alone
set_option linter.unusedVariables false
set_option linter.unusedSimpArgs false

end Go.Proofs.YtkpipmhcjjncdaaDoor.PSuperBack
