-- Printed by a program of this claim's session (wip/xprint.py, a turned copy of the kit's print); Lean checks it.
import Derived.Test.YtphnkoicfehalaaProg
import Derived.Below
import Derived.Deep.Draws
import Derived.Deep.AppendLies
import Derived.Maps.AppendAt
import Derived.OwnWalk
import Derived.Laws.BytesArg
import Derived.Laws.MakeOwn
import Derived.Laws.OwnMore
import Derived.Deep.OwnRows
import Derived.Tactics
import Derived.Lib.ConvBytes
import Derived.Laws.Slices
import Derived.WalkKit
import Derived.KernelRfl
import Derived.RowKit3
import Derived.Deep.LoopGhost
import Derived.Deep.QuietTactic
import Derived.BigQuiet
import Derived.WideLaws
import Derived.Deep.DeepCutAuto
import Derived.Deep.CutBlock
import Derived.Deep.RegionHeld3
import Derived.Laws.Rows
import Derived.Lib.AppendStr
import Derived.ArgAppend
import Derived.Laws.IdiomCopy
import Derived.OrdersHeld
import Derived.Laws.BitsLemmas
import Derived.RowKit
import Derived.Test.YtphnkoicfehalaaWWords
import Derived.Test.YtphnkoicfehalaaWLast
import Derived.Test.YtphnkoicfehalaaWTab
import Derived.Test.YtphnkoicfehalaaWFour
import Derived.Test.YtphnkoicfehalaaWQPut
import Derived.Test.YtphnkoicfehalaaWApart
import Derived.Test.YtphnkoicfehalaaWArr
import Derived.Test.YtphnkoicfehalaaWZeros
import Derived.Test.YtphnkoicfehalaaWFoot
import Derived.Test.YtphnkoicfehalaaWKept
import Derived.Test.YtphnkoicfehalaaWShare
import Derived.Test.YtphnkoicfehalaaWN
import Derived.Test.YtphnkoicfehalaaWFootNe
import Derived.Test.YtphnkoicfehalaaWAt
import Derived.Test.YtphnkoicfehalaaWEqStruct
import Derived.Test.YtphnkoicfehalaaWRepsOne
import Derived.Test.YtphnkoicfehalaaWInv
import Derived.Test.YtphnkoicfehalaaWInvWords
import Derived.Test.YtphnkoicfehalaaWGuard
import Derived.Test.YtphnkoicfehalaaWNEv
import Derived.Test.YtphnkoicfehalaaWMore
namespace Go.Proofs.Ytphnkoicfehalaa.PFnFarOne
open Go.RowKit Go.Proofs.YtphnkoicfehalaaW.PrintWords Go.Proofs.YtphnkoicfehalaaW.PrintLast Go.Proofs.YtphnkoicfehalaaW.PrintMore
attribute [local go_sem] max2_int min2_int max_two min_two max_three min_three max_four min_four   -- for this text's walks alone
set_option linter.unusedVariables false
set_option linter.unusedSimpArgs false



def errW : Option Int → Value
  | none => .nilIface
  | some c => .iface 0 (.int .i64 c)
theorem errW_none : errW none = .nilIface := rfl
theorem errW_some (c : Int) : errW (some c) = .iface 0 (.int .i64 c) := rfl

theorem info3 : (Try.prog.info? 3).map (fun i => (i.zero, i.size, i.bytes)) = some (some (.int .i64 0), 1, 8) := by kernel_rfl
theorem info5 : (Try.prog.info? 5).map (fun i => (i.zero, i.size, i.bytes)) = some (some (.int .u8 0), 1, 1) := by kernel_rfl
theorem info9 : (Try.prog.info? 9).map (fun i => (i.zero, i.size, i.bytes)) = some (some (.string ⟨#[]⟩), 1, 16) := by kernel_rfl
-- the values' own types

end Go.Proofs.Ytphnkoicfehalaa.PFnFarOne
