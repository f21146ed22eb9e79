import Derived.Test.YtoahkeabdikhcaaQGeoRowsx0
import Derived.Test.YtoahkeabdikhcaaQGeoRowsx1
import Derived.Test.YtoahkeabdikhcaaQGeoRowsx2
import Derived.Test.YtoahkeabdikhcaaQGeoRowsx3
import Derived.Test.YtoahkeabdikhcaaQGeoRowsx4
import Derived.Test.YtoahkeabdikhcaaQGeoRowsx5
namespace Go.Proofs.Ytoahkeabdikhcaa.PGeoRows
open Go.RowKit Go.Proofs.YtoahkeabdikhcaaW.PrintWords Go.Proofs.YtoahkeabdikhcaaW.PrintLast Go.Proofs.YtoahkeabdikhcaaW.PrintMore
attribute [local go_sem] max2_int min2_int max_two min_two max_three min_three max_four min_four   -- for this text's walks alone
set_option linter.unusedVariables false
set_option linter.unusedSimpArgs false

end Go.Proofs.Ytoahkeabdikhcaa.PGeoRows
