import Derived.Test.YtlkhlmckgpjopaaDoorBase0
import Derived.Test.YtlkhlmckgpjopaaDoorBase2
namespace Go.Proofs.YtlkhlmckgpjopaaDoor.Base
open Go.RowKit Go.Proofs.YtlkhlmckgpjopaaDoorW.PrintWords Go.Proofs.YtlkhlmckgpjopaaDoorW.PrintLast Go.Proofs.YtlkhlmckgpjopaaDoorW.PrintMore
attribute [local go_sem] max2_int min2_int max_two min_two max_three min_three max_four min_four   -- for this text's walks alone
set_option linter.unusedVariables false
set_option linter.unusedSimpArgs false

end Go.Proofs.YtlkhlmckgpjopaaDoor.Base
