/-
  No cell of these rows narrows 'for every input' (looked for: loops, veiled, ifaces, maps, wideKeys, modest, calm, conditions, laid).
  DERIVED. THE GIVEN ROWS OF THIS SEAT. 3 by the template 'for every input the law returns true; each argument reads behind the call as it read before'; 0 by the template 'total and deterministic' (their statements: YtphnkoicfehalaaTotals.lean).
  GIVEN WITH THE SEED: the statements are not yours to turn. If you find one false, say at which input.
  Laid BY PROGRAM, IN A SANDBOX (cutbox-rows.mjs): the forced cells as the released guide's own fill.sh prints them over the translation 03660aa44d5e5d26… (all of the seat's roots in one cut). By AI agents, Wed Nov 11 2026. No macro, syntax, notation, axiom, sorry.
-/
import Derived.Test.YtphnkoicfehalaaChecked
import GoSem.Claim
import GoSem.ClaimJoined
import GoSem.ClaimMapViews
import Derived.JoinedTies
import Derived.KernelRfl
namespace Go.Proofs.Ytphnkoicfehalaa
/- THE CELL 'sum', in the pinned program and in every row, IS THE sha256 OF THE DUMP (.gsa) THAT YtphnkoicfehalaaProg.lean LOADS. Nothing in Lean hashes anything: it is a label: what it is worth is what the hold of that sum in a sandbox is worth. -/
noncomputable def Try.pinned : Pinned := { name := "ytphnkoicfehalaa", sum := "03660aa44d5e5d26d7ff7a8364d5da9e4cb79f9bd16b7164421b1a45fa51231f", checked := Try.checked }
namespace Rows
def none {H : Type} : Left H := { results := [], args := [] }

/-- 'laws.FnFar': WHATEVER THE INPUT: true; the input reads as it did. -/
def fnFarSpec : ChangeSpec := { name := "fnFar", fn := fun _ => fun
  | [d] => { results := [.lit (.bool true)], args := [d] }
  | _ => none }
def fnFarRow : OpenClaim := { program := "ytphnkoicfehalaa", sum := "03660aa44d5e5d26d7ff7a8364d5da9e4cb79f9bd16b7164421b1a45fa51231f", func := "loop.example/spandrel/laws.FnFar", spec := "fnFar", apart := false }
def FnFarSaid : Prop := fnFarRow.holds Try.pinned (OpenSpec.ofChange fnFarSpec)

/-- ITS FALSE NEIGHBOUR: 'it returns false'. Refute it at one input. -/
def fnFarWrong : ChangeSpec := { name := "fnFar", fn := fun _ => fun
  | [d] => { results := [.lit (.bool false)], args := [d] }
  | _ => none }
def FnFarWrongFalsely : Prop := fnFarRow.holds Try.pinned (OpenSpec.ofChange fnFarWrong)

/-- 'laws.FnFarOne': WHATEVER THE INPUT: true; the input reads as it did. -/
def fnFarOneSpec : ChangeSpec := { name := "fnFarOne", fn := fun _ => fun
  | [d] => { results := [.lit (.bool true)], args := [d] }
  | _ => none }
def fnFarOneRow : OpenClaim := { program := "ytphnkoicfehalaa", sum := "03660aa44d5e5d26d7ff7a8364d5da9e4cb79f9bd16b7164421b1a45fa51231f", func := "loop.example/spandrel/laws.FnFarOne", spec := "fnFarOne", apart := false }
def FnFarOneSaid : Prop := fnFarOneRow.holds Try.pinned (OpenSpec.ofChange fnFarOneSpec)

/-- ITS FALSE NEIGHBOUR: 'it returns false'. Refute it at one input. -/
def fnFarOneWrong : ChangeSpec := { name := "fnFarOne", fn := fun _ => fun
  | [d] => { results := [.lit (.bool false)], args := [d] }
  | _ => none }
def FnFarOneWrongFalsely : Prop := fnFarOneRow.holds Try.pinned (OpenSpec.ofChange fnFarOneWrong)

/-- 'laws.FnFarThree': WHATEVER THE INPUT: true; the input reads as it did. -/
def fnFarThreeSpec : ChangeSpec := { name := "fnFarThree", fn := fun _ => fun
  | [d1, d2] => { results := [.lit (.bool true)], args := [d1, d2] }
  | _ => none }
def fnFarThreeRow : OpenClaim := { program := "ytphnkoicfehalaa", sum := "03660aa44d5e5d26d7ff7a8364d5da9e4cb79f9bd16b7164421b1a45fa51231f", func := "loop.example/spandrel/laws.FnFarThree", spec := "fnFarThree", apart := false }
def FnFarThreeSaid : Prop := fnFarThreeRow.holds Try.pinned (OpenSpec.ofChange fnFarThreeSpec)

/-- ITS FALSE NEIGHBOUR: 'it returns false'. Refute it at one input. -/
def fnFarThreeWrong : ChangeSpec := { name := "fnFarThree", fn := fun _ => fun
  | [d1, d2] => { results := [.lit (.bool false)], args := [d1, d2] }
  | _ => none }
def FnFarThreeWrongFalsely : Prop := fnFarThreeRow.holds Try.pinned (OpenSpec.ofChange fnFarThreeWrong)

/- THE SECOND FORM. 'bulk': how many values and letters a reading holds, each counted each time it is reached (what is shared counts as often as it is met; a slice's spare places count too). A statement '..UptoSaid' is the law's where the arguments, and the package variables that the reading takes, are together of bulk at most 1048576: NARROWER than '..Said'. Prove '..Said' where nothing that the law and all that it calls make is longer than what came in: it says more and counts as full. Else prove '..UptoSaid'. A law counts once. -/
mutual
def uptoBulk {H : Type} : DataW H → Nat
  | .lit (.string bytes) => bytes.length + 1
  | .lit _ => 1
  | .nil => 1
  | .ptr d => uptoBulk d + 1
  | .slice elems spare => uptoBulkAll elems + uptoBulkAll spare + 1
  | .agg parts => uptoBulkAll parts + 1
  | .iface _ d => uptoBulk d + 1
  | .map entries => uptoBulkEntries entries + 1
  | .held _ => 1
def uptoBulkAll {H : Type} : List (DataW H) → Nat
  | [] => 0
  | d :: r => uptoBulk d + uptoBulkAll r
def uptoBulkEntries {H : Type} : List (Lit × DataW H) → Nat
  | [] => 0
  | x :: r => uptoBulkEntry x + uptoBulkEntries r
def uptoBulkEntry {H : Type} : Lit × DataW H → Nat
  | (.string bytes, d) => bytes.length + uptoBulk d + 1
  | (_, d) => uptoBulk d + 1
 end
def uptoSmall : (H : Type) → List (DataW H) → Bool := fun _ ds => decide (uptoBulkAll ds ≤ 1048576)
def OpenSpec.upto (s : _root_.Go.ChangeSpec) : _root_.Go.OpenSpec := { _root_.Go.OpenSpec.ofChange s with cond := some uptoSmall }

/-- 'laws.FnFar', WHERE WHAT IT READS IS OF BULK AT MOST 1048576: true; the input reads as it did. -/
def fnFarUptoRow : OpenClaim := { program := "ytphnkoicfehalaa", sum := "03660aa44d5e5d26d7ff7a8364d5da9e4cb79f9bd16b7164421b1a45fa51231f", func := "loop.example/spandrel/laws.FnFar", spec := "fnFar", apart := false, narrowed := true }
def FnFarUptoSaid : Prop := fnFarUptoRow.holds Try.pinned (OpenSpec.upto fnFarSpec)

/-- 'laws.FnFarOne', WHERE WHAT IT READS IS OF BULK AT MOST 1048576: true; the input reads as it did. -/
def fnFarOneUptoRow : OpenClaim := { program := "ytphnkoicfehalaa", sum := "03660aa44d5e5d26d7ff7a8364d5da9e4cb79f9bd16b7164421b1a45fa51231f", func := "loop.example/spandrel/laws.FnFarOne", spec := "fnFarOne", apart := false, narrowed := true }
def FnFarOneUptoSaid : Prop := fnFarOneUptoRow.holds Try.pinned (OpenSpec.upto fnFarOneSpec)

/-- 'laws.FnFarThree', WHERE WHAT IT READS IS OF BULK AT MOST 1048576: true; the input reads as it did. -/
def fnFarThreeUptoRow : OpenClaim := { program := "ytphnkoicfehalaa", sum := "03660aa44d5e5d26d7ff7a8364d5da9e4cb79f9bd16b7164421b1a45fa51231f", func := "loop.example/spandrel/laws.FnFarThree", spec := "fnFarThree", apart := false, narrowed := true }
def FnFarThreeUptoSaid : Prop := fnFarThreeUptoRow.holds Try.pinned (OpenSpec.upto fnFarThreeSpec)

end Rows
end Go.Proofs.Ytphnkoicfehalaa
