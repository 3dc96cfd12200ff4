-- Written by a changed copy of the print (some functions are given by contracts of this session): text of this seat
import Derived.Test.YtfbecehinloldaaPFrameOncex0
import Derived.Test.YtfbecehinloldaaPFrameOncex1
import Derived.Test.YtfbecehinloldaaPFrameOncex2
namespace Go.Proofs.Ytfbecehinloldaa.PFrameOnce
open Go.RowKit Go.Proofs.YtfbecehinloldaaW.PrintWords Go.Proofs.YtfbecehinloldaaW.PrintLast Go.Proofs.YtfbecehinloldaaW.PrintMore
attribute [local go_sem] max2_int min2_int max_two min_two max_three min_three max_four min_four   -- for this text's walks alone
set_option linter.unusedVariables false
set_option linter.unusedSimpArgs false

end Go.Proofs.Ytfbecehinloldaa.PFrameOnce
