import Derived.Test.YthmfhhkedmloeaaDoorQInodeRecordsx0
import Derived.Test.YthmfhhkedmloeaaDoorQInodeRecordsx1
namespace Go.Proofs.YthmfhhkedmloeaaDoor.PInodeRecords
open Go.RowKit Go.Proofs.YthmfhhkedmloeaaDoorW.PrintWords Go.Proofs.YthmfhhkedmloeaaDoorW.PrintLast Go.Proofs.YthmfhhkedmloeaaDoorW.PrintMore Go.Proofs.YthmfhhkedmloeaaDoor.Given
attribute [local go_sem] max2_int min2_int max_two min_two max_three min_three max_four min_four   -- for this text's walks alone
set_option linter.unusedVariables false
set_option linter.unusedSimpArgs false

end Go.Proofs.YthmfhhkedmloeaaDoor.PInodeRecords
