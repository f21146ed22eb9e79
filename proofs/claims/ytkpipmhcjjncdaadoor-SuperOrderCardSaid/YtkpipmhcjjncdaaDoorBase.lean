import Derived.Test.YtkpipmhcjjncdaaDoorBase0
import Derived.Test.YtkpipmhcjjncdaaDoorBase1
import Derived.Test.YtkpipmhcjjncdaaDoorBase2
import Derived.Test.YtkpipmhcjjncdaaDoorBase3
import Derived.Test.YtkpipmhcjjncdaaDoorBase4
import Derived.Test.YtkpipmhcjjncdaaDoorBase5
import Derived.Test.YtkpipmhcjjncdaaDoorBase6
import Derived.Test.YtkpipmhcjjncdaaDoorBase7
import Derived.Test.YtkpipmhcjjncdaaDoorBase8
namespace Go.Proofs.YtkpipmhcjjncdaaDoor.Base
open Go.RowKit Go.Proofs.YtkpipmhcjjncdaaDoorW.PrintWords Go.Proofs.YtkpipmhcjjncdaaDoorW.PrintLast Go.Proofs.YtkpipmhcjjncdaaDoorW.PrintMore Go.Proofs.YtkpipmhcjjncdaaDoor.Given
attribute [local go_sem] max2_int min2_int max_two min_two max_three min_three max_four min_four   -- for this text's walks alone
set_option linter.unusedVariables false
set_option linter.unusedSimpArgs false

end Go.Proofs.YtkpipmhcjjncdaaDoor.Base
