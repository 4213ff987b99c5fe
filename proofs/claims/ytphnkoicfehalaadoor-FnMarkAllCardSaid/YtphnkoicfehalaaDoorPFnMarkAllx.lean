-- Printed by a program of this claim's session (wip/xprint.py, a turned copy of the kit's print); Lean checks it.
import Derived.Test.YtphnkoicfehalaaDoorPFnMarkAllx0
import Derived.Test.YtphnkoicfehalaaDoorPFnMarkAllx1
import Derived.Test.YtphnkoicfehalaaDoorPFnMarkAllx2
import Derived.Test.YtphnkoicfehalaaDoorPFnMarkAllx3
import Derived.Test.YtphnkoicfehalaaDoorPFnMarkAllx4
import Derived.Test.YtphnkoicfehalaaDoorPFnMarkAllx5
import Derived.Test.YtphnkoicfehalaaDoorPFnMarkAllx6
namespace Go.Proofs.YtphnkoicfehalaaDoor.PFnMarkAll
open Go.Proofs.YtphnkoicfehalaaDoor.X
open Go.RowKit Go.Proofs.YtphnkoicfehalaaDoorW.PrintWords Go.Proofs.YtphnkoicfehalaaDoorW.PrintLast Go.Proofs.YtphnkoicfehalaaDoorW.PrintMore
attribute [local go_sem] max2_int min2_int max_two min_two max_three min_three max_four min_four   -- for this text's walks alone
set_option linter.unusedVariables false
set_option linter.unusedSimpArgs false

end Go.Proofs.YtphnkoicfehalaaDoor.PFnMarkAll
