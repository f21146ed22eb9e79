import Derived.Test.YtpdfkhglgamhiaaDoorQBitsXorx0
import Derived.Test.YtpdfkhglgamhiaaDoorQBitsXorx1
namespace Go.Proofs.YtpdfkhglgamhiaaDoor.PBitsXor
open Go.RowKit Go.Proofs.YtpdfkhglgamhiaaDoorW.PrintWords Go.Proofs.YtpdfkhglgamhiaaDoorW.PrintLast Go.Proofs.YtpdfkhglgamhiaaDoorW.PrintMore Go.Proofs.YtpdfkhglgamhiaaDoor.Given
attribute [local go_sem] max2_int min2_int max_two min_two max_three min_three max_four min_four   -- for this text's walks alone
set_option linter.unusedVariables false
set_option linter.unusedSimpArgs false

end Go.Proofs.YtpdfkhglgamhiaaDoor.PBitsXor
