import Derived.Test.YtoahkeabdikhcaaQGeoAnswersx0
import Derived.Test.YtoahkeabdikhcaaQGeoAnswersx1
import Derived.Test.YtoahkeabdikhcaaQGeoAnswersx2
import Derived.Test.YtoahkeabdikhcaaQGeoAnswersx3
import Derived.Test.YtoahkeabdikhcaaQGeoAnswersx4
import Derived.Test.YtoahkeabdikhcaaQGeoAnswersx5
import Derived.Test.YtoahkeabdikhcaaQGeoAnswersx6
namespace Go.Proofs.Ytoahkeabdikhcaa.PGeoAnswers
open Go.RowKit Go.Proofs.YtoahkeabdikhcaaW.PrintWords Go.Proofs.YtoahkeabdikhcaaW.PrintLast Go.Proofs.YtoahkeabdikhcaaW.PrintMore
attribute [local go_sem] max2_int min2_int max_two min_two max_three min_three max_four min_four   -- for this text's walks alone
set_option linter.unusedVariables false
set_option linter.unusedSimpArgs false

end Go.Proofs.Ytoahkeabdikhcaa.PGeoAnswers
