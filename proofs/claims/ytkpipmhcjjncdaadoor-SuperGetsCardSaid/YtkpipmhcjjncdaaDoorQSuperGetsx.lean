import Derived.Test.YtkpipmhcjjncdaaDoorQSuperGetsx0
import Derived.Test.YtkpipmhcjjncdaaDoorQSuperGetsx1
import Derived.Test.YtkpipmhcjjncdaaDoorQSuperGetsx2
import Derived.Test.YtkpipmhcjjncdaaDoorQSuperGetsx3
import Derived.Test.YtkpipmhcjjncdaaDoorQSuperGetsx4
import Derived.Test.YtkpipmhcjjncdaaDoorQSuperGetsx5
import Derived.Test.YtkpipmhcjjncdaaDoorQSuperGetsx6
import Derived.Test.YtkpipmhcjjncdaaDoorQSuperGetsx7
import Derived.Test.YtkpipmhcjjncdaaDoorQSuperGetsx8
namespace Go.Proofs.YtkpipmhcjjncdaaDoor.PSuperGets
open Go.RowKit Go.Proofs.YtkpipmhcjjncdaaDoorW.PrintWords Go.Proofs.YtkpipmhcjjncdaaDoorW.PrintLast Go.Proofs.YtkpipmhcjjncdaaDoorW.PrintMore Go.Proofs.YtkpipmhcjjncdaaDoor.Given
attribute [local go_sem] max2_int min2_int max_two min_two max_three min_three max_four min_four   -- for this text's walks alone
set_option linter.unusedVariables false
set_option linter.unusedSimpArgs false

end Go.Proofs.YtkpipmhcjjncdaaDoor.PSuperGets
