import Derived.Test.YtljjlfjhkdbbfaaQSectorCodesx0
import Derived.Test.YtljjlfjhkdbbfaaQSectorCodesx1
import Derived.Test.YtljjlfjhkdbbfaaQSectorCodesx2
import Derived.Test.YtljjlfjhkdbbfaaQSectorCodesx3
namespace Go.Proofs.Ytljjlfjhkdbbfaa.PSectorCodes
open Go.RowKit Go.Proofs.YtljjlfjhkdbbfaaW.PrintWords Go.Proofs.YtljjlfjhkdbbfaaW.PrintLast Go.Proofs.YtljjlfjhkdbbfaaW.PrintMore Go.Proofs.Ytljjlfjhkdbbfaa.Given Go.Proofs.Ytljjlfjhkdbbfaa.Base
attribute [local go_sem] max2_int min2_int max_two min_two max_three min_three max_four min_four   -- for this text's walks alone
set_option linter.unusedVariables false
set_option linter.unusedSimpArgs false

end Go.Proofs.Ytljjlfjhkdbbfaa.PSectorCodes
