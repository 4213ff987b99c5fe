-- Printed by a program of this claim's session (wip/xprint.py, a turned copy of the kit's print); Lean checks it.
import Derived.Test.YtphnkoicfehalaaPFnFarOnex0
import Derived.Test.YtphnkoicfehalaaPFnFarOnex1
import Derived.Test.YtphnkoicfehalaaPFnFarOnex2
import Derived.Test.YtphnkoicfehalaaPFnFarOnex3
import Derived.Test.YtphnkoicfehalaaPFnFarOnex4
import Derived.Test.YtphnkoicfehalaaPFnFarOnex5
import Derived.Test.YtphnkoicfehalaaPFnFarOnex6
namespace Go.Proofs.Ytphnkoicfehalaa.PFnFarOne
open Go.RowKit Go.Proofs.YtphnkoicfehalaaW.PrintWords Go.Proofs.YtphnkoicfehalaaW.PrintLast Go.Proofs.YtphnkoicfehalaaW.PrintMore
attribute [local go_sem] max2_int min2_int max_two min_two max_three min_three max_four min_four   -- for this text's walks alone
set_option linter.unusedVariables false
set_option linter.unusedSimpArgs false

end Go.Proofs.Ytphnkoicfehalaa.PFnFarOne
