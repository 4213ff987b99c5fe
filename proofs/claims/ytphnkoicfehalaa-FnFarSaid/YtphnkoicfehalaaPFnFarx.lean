-- Printed by a program of this claim's session (wip/xprint.py, a turned copy of the kit's print); Lean checks it.
import Derived.Test.YtphnkoicfehalaaPFnFarx0
import Derived.Test.YtphnkoicfehalaaPFnFarx1
import Derived.Test.YtphnkoicfehalaaPFnFarx2
import Derived.Test.YtphnkoicfehalaaPFnFarx3
import Derived.Test.YtphnkoicfehalaaPFnFarx4
import Derived.Test.YtphnkoicfehalaaPFnFarx5
import Derived.Test.YtphnkoicfehalaaPFnFarx6
namespace Go.Proofs.Ytphnkoicfehalaa.PFnFar
open Go.RowKit Go.Proofs.YtphnkoicfehalaaW.PrintWords Go.Proofs.YtphnkoicfehalaaW.PrintLast Go.Proofs.YtphnkoicfehalaaW.PrintMore
attribute [local go_sem] max2_int min2_int max_two min_two max_three min_three max_four min_four   -- for this text's walks alone
set_option linter.unusedVariables false
set_option linter.unusedSimpArgs false

end Go.Proofs.Ytphnkoicfehalaa.PFnFar
