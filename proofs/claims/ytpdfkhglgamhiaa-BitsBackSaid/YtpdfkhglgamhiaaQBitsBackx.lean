import Derived.Test.YtpdfkhglgamhiaaQBitsBackx0
import Derived.Test.YtpdfkhglgamhiaaQBitsBackx1
namespace Go.Proofs.Ytpdfkhglgamhiaa.PBitsBack
open Go.RowKit Go.Proofs.YtpdfkhglgamhiaaW.PrintWords Go.Proofs.YtpdfkhglgamhiaaW.PrintLast Go.Proofs.YtpdfkhglgamhiaaW.PrintMore Go.Proofs.Ytpdfkhglgamhiaa.Given
attribute [local go_sem] max2_int min2_int max_two min_two max_three min_three max_four min_four   -- for this text's walks alone
set_option linter.unusedVariables false
set_option linter.unusedSimpArgs false

end Go.Proofs.Ytpdfkhglgamhiaa.PBitsBack
