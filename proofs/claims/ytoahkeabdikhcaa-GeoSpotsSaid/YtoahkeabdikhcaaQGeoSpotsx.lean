import Derived.Test.YtoahkeabdikhcaaQGeoSpotsx0
import Derived.Test.YtoahkeabdikhcaaQGeoSpotsx1
import Derived.Test.YtoahkeabdikhcaaQGeoSpotsx2
import Derived.Test.YtoahkeabdikhcaaQGeoSpotsx3
import Derived.Test.YtoahkeabdikhcaaQGeoSpotsx4
import Derived.Test.YtoahkeabdikhcaaQGeoSpotsx5
import Derived.Test.YtoahkeabdikhcaaQGeoSpotsx6
import Derived.Test.YtoahkeabdikhcaaQGeoSpotsx7
import Derived.Test.YtoahkeabdikhcaaQGeoSpotsx8
namespace Go.Proofs.Ytoahkeabdikhcaa.PGeoSpots
open Go.RowKit Go.Proofs.YtoahkeabdikhcaaW.PrintWords Go.Proofs.YtoahkeabdikhcaaW.PrintLast Go.Proofs.YtoahkeabdikhcaaW.PrintMore
attribute [local go_sem] max2_int min2_int max_two min_two max_three min_three max_four min_four   -- for this text's walks alone
set_option linter.unusedVariables false
set_option linter.unusedSimpArgs false

end Go.Proofs.Ytoahkeabdikhcaa.PGeoSpots
