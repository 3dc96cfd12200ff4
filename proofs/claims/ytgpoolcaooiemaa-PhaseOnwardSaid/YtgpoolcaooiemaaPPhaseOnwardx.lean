-- Written by a changed copy of the print (some functions are given by contracts of this session): text of this seat
import Derived.Test.YtgpoolcaooiemaaPPhaseOnwardx0
import Derived.Test.YtgpoolcaooiemaaPPhaseOnwardx1
import Derived.Test.YtgpoolcaooiemaaPPhaseOnwardx2
import Derived.Test.YtgpoolcaooiemaaPPhaseOnwardx3
import Derived.Test.YtgpoolcaooiemaaPPhaseOnwardx4
import Derived.Test.YtgpoolcaooiemaaPPhaseOnwardx5
import Derived.Test.YtgpoolcaooiemaaPPhaseOnwardx6
import Derived.Test.YtgpoolcaooiemaaPPhaseOnwardx7
namespace Go.Proofs.Ytgpoolcaooiemaa.PPhaseOnward
open Go.RowKit Go.Proofs.YtgpoolcaooiemaaW.PrintWords Go.Proofs.YtgpoolcaooiemaaW.PrintLast Go.Proofs.YtgpoolcaooiemaaW.PrintMore
attribute [local go_sem] max2_int min2_int max_two min_two max_three min_three max_four min_four   -- for this text's walks alone
set_option linter.unusedVariables false
set_option linter.unusedSimpArgs false

attribute [local go_sem] Go.Proofs.Ytgpoolcaooiemaa.D.field59_3
end Go.Proofs.Ytgpoolcaooiemaa.PPhaseOnward
