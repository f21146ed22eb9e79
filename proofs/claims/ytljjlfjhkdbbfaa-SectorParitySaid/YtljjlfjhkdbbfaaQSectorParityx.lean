import Derived.Test.YtljjlfjhkdbbfaaQSectorParityx0
import Derived.Test.YtljjlfjhkdbbfaaQSectorParityx1
namespace Go.Proofs.Ytljjlfjhkdbbfaa.PSectorParity
open Go.RowKit Go.Proofs.YtljjlfjhkdbbfaaW.PrintWords Go.Proofs.YtljjlfjhkdbbfaaW.PrintLast Go.Proofs.YtljjlfjhkdbbfaaW.PrintMore Go.Proofs.Ytljjlfjhkdbbfaa.Given Go.Proofs.Ytljjlfjhkdbbfaa.Base
attribute [local go_sem] max2_int min2_int max_two min_two max_three min_three max_four min_four   -- for this text's walks alone
set_option linter.unusedVariables false
set_option linter.unusedSimpArgs false

end Go.Proofs.Ytljjlfjhkdbbfaa.PSectorParity
