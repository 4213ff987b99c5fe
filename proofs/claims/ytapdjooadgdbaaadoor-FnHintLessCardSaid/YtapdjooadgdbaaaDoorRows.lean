/-
  NARROWER THAN 'FOR EVERY INPUT', by the rows' own cells (each row's printed sentence says how): FnHintAdd: laid · FnHintTwice: laid · FnExactHintFind: laid · FnExactHintAdd: laid · FnHintFind: laid · FnHintLess: laid · FnHintAll: laid · FnExactHintsOk: laid.
  DERIVED. THE GIVEN ROWS OF THIS SEAT. 8 by the template 'for every input the law returns true; each argument reads behind the call as it read before'; 0 by the template 'total and deterministic' (their statements: YtapdjooadgdbaaaDoorTotals.lean).
  GIVEN WITH THE SEED: the statements are not yours to turn. If you find one false, say at which input.
  Laid BY PROGRAM, IN A SANDBOX (cutbox-rows.mjs): the forced cells as the released guide's own fill.sh prints them over the translation c34eb2c4994cddd0… (all of the seat's roots in one cut). By AI agents, Wed Nov 11 2026. No macro, syntax, notation, axiom, sorry.
-/
import Derived.Test.YtapdjooadgdbaaaDoorChecked
import GoSem.PinnedTables
import GoSem.Claim
import GoSem.ClaimJoined
import GoSem.ClaimMapViews
import Derived.JoinedTies
import Derived.KernelRfl
namespace Go.Proofs.YtapdjooadgdbaaaDoor
/- THE CELL 'sum', in the pinned program and in every row, IS THE sha256 OF THE DUMP (.gsa) THAT YtapdjooadgdbaaaDoorProg.lean LOADS. Nothing in Lean hashes anything: it is a label: what it is worth is what the hold of that sum in a sandbox is worth. -/
noncomputable def Tryd.pinned : Pinned := { name := "ytapdjooadgdbaaadoor", sum := "c34eb2c4994cddd0639e808a342fb2d58f2c46946041433d730dcbf346c1017a", checked := Tryd.checked }
namespace Rows
def none {H : Type} : Left H := { results := [], args := [] }

/- WHAT THE LISTED PACKAGE-LEVEL VARIABLES READ AS WHEN THE CALL BEGINS. Each datum BY PROGRAM (the guide's laid-datum.mjs) off the statement by which the dump's own 'gosem.cut.vars' lays the variable. In a bare row this is a premise. The card (YtapdjooadgdbaaaDoorCards.lean) ties it to the program's text. -/
def laid_unicode_utf8_acceptRanges {H : Type} : DataW H := .agg [.agg [.lit (.int .u8 128), .lit (.int .u8 191)], .agg [.lit (.int .u8 160), .lit (.int .u8 191)], .agg [.lit (.int .u8 128), .lit (.int .u8 159)], .agg [.lit (.int .u8 144), .lit (.int .u8 191)], .agg [.lit (.int .u8 128), .lit (.int .u8 143)], .agg [.lit (.int .u8 0), .lit (.int .u8 0)], .agg [.lit (.int .u8 0), .lit (.int .u8 0)], .agg [.lit (.int .u8 0), .lit (.int .u8 0)], .agg [.lit (.int .u8 0), .lit (.int .u8 0)], .agg [.lit (.int .u8 0), .lit (.int .u8 0)], .agg [.lit (.int .u8 0), .lit (.int .u8 0)], .agg [.lit (.int .u8 0), .lit (.int .u8 0)], .agg [.lit (.int .u8 0), .lit (.int .u8 0)], .agg [.lit (.int .u8 0), .lit (.int .u8 0)], .agg [.lit (.int .u8 0), .lit (.int .u8 0)], .agg [.lit (.int .u8 0), .lit (.int .u8 0)]]
/-- One of Go's own tables, pinned by name: the form's constant. -/
def laid_unicode_utf8_first : DataW Unit := Go.Pinned.utf8First

/-- 'laws.FnHintAdd': WHATEVER THE INPUT: true; the input reads as it did. -/
def fnHintAddSpec : ChangeSpec := { name := "fnHintAdd", fn := fun _ => fun
  | [d] => { results := [.lit (.bool true)], args := [d] }
  | _ => none }
def fnHintAddRow : OpenClaim := { program := "ytapdjooadgdbaaadoor", sum := "c34eb2c4994cddd0639e808a342fb2d58f2c46946041433d730dcbf346c1017a", func := "loop.example/spandrel/laws.FnHintAdd", spec := "fnHintAdd", inPlace := ["internal/bytealg.CountString", "internal/bytealg.IndexByteString", "internal/bytealg.IndexString"], unfollowed := true, recurses := true, named := ["unicode/utf8.first", "unicode/utf8.acceptRanges", "internal/bytealg.MaxLen"], apart := false, laid := [("unicode/utf8.acceptRanges", laid_unicode_utf8_acceptRanges), ("unicode/utf8.first", laid_unicode_utf8_first)] }
def FnHintAddSaid : Prop := fnHintAddRow.holds Tryd.pinned (OpenSpec.ofChange fnHintAddSpec)

/-- ITS FALSE NEIGHBOUR: 'it returns false'. Refute it at one input. -/
def fnHintAddWrong : ChangeSpec := { name := "fnHintAdd", fn := fun _ => fun
  | [d] => { results := [.lit (.bool false)], args := [d] }
  | _ => none }
def FnHintAddWrongFalsely : Prop := fnHintAddRow.holds Tryd.pinned (OpenSpec.ofChange fnHintAddWrong)

/-- 'laws.FnHintTwice': WHATEVER THE INPUT: true; the input reads as it did. -/
def fnHintTwiceSpec : ChangeSpec := { name := "fnHintTwice", fn := fun _ => fun
  | [d] => { results := [.lit (.bool true)], args := [d] }
  | _ => none }
def fnHintTwiceRow : OpenClaim := { program := "ytapdjooadgdbaaadoor", sum := "c34eb2c4994cddd0639e808a342fb2d58f2c46946041433d730dcbf346c1017a", func := "loop.example/spandrel/laws.FnHintTwice", spec := "fnHintTwice", inPlace := ["internal/bytealg.CountString", "internal/bytealg.IndexByteString", "internal/bytealg.IndexString"], unfollowed := true, recurses := true, named := ["unicode/utf8.first", "unicode/utf8.acceptRanges", "internal/bytealg.MaxLen"], apart := false, laid := [("unicode/utf8.acceptRanges", laid_unicode_utf8_acceptRanges), ("unicode/utf8.first", laid_unicode_utf8_first)] }
def FnHintTwiceSaid : Prop := fnHintTwiceRow.holds Tryd.pinned (OpenSpec.ofChange fnHintTwiceSpec)

/-- ITS FALSE NEIGHBOUR: 'it returns false'. Refute it at one input. -/
def fnHintTwiceWrong : ChangeSpec := { name := "fnHintTwice", fn := fun _ => fun
  | [d] => { results := [.lit (.bool false)], args := [d] }
  | _ => none }
def FnHintTwiceWrongFalsely : Prop := fnHintTwiceRow.holds Tryd.pinned (OpenSpec.ofChange fnHintTwiceWrong)

/-- 'laws.FnExactHintFind': WHATEVER THE INPUT: true; the input reads as it did. -/
def fnExactHintFindSpec : ChangeSpec := { name := "fnExactHintFind", fn := fun _ => fun
  | [d1, d2, d3] => { results := [.lit (.bool true)], args := [d1, d2, d3] }
  | _ => none }
def fnExactHintFindRow : OpenClaim := { program := "ytapdjooadgdbaaadoor", sum := "c34eb2c4994cddd0639e808a342fb2d58f2c46946041433d730dcbf346c1017a", func := "loop.example/spandrel/laws.FnExactHintFind", spec := "fnExactHintFind", inPlace := ["internal/bytealg.CountString", "internal/bytealg.IndexByteString", "internal/bytealg.IndexString"], unfollowed := true, recurses := true, named := ["unicode/utf8.first", "unicode/utf8.acceptRanges", "internal/bytealg.MaxLen"], apart := false, laid := [("unicode/utf8.acceptRanges", laid_unicode_utf8_acceptRanges), ("unicode/utf8.first", laid_unicode_utf8_first)] }
def FnExactHintFindSaid : Prop := fnExactHintFindRow.holds Tryd.pinned (OpenSpec.ofChange fnExactHintFindSpec)

/-- ITS FALSE NEIGHBOUR: 'it returns false'. Refute it at one input. -/
def fnExactHintFindWrong : ChangeSpec := { name := "fnExactHintFind", fn := fun _ => fun
  | [d1, d2, d3] => { results := [.lit (.bool false)], args := [d1, d2, d3] }
  | _ => none }
def FnExactHintFindWrongFalsely : Prop := fnExactHintFindRow.holds Tryd.pinned (OpenSpec.ofChange fnExactHintFindWrong)

/-- 'laws.FnExactHintAdd': WHATEVER THE INPUT: true; the input reads as it did. -/
def fnExactHintAddSpec : ChangeSpec := { name := "fnExactHintAdd", fn := fun _ => fun
  | [d1, d2, d3] => { results := [.lit (.bool true)], args := [d1, d2, d3] }
  | _ => none }
def fnExactHintAddRow : OpenClaim := { program := "ytapdjooadgdbaaadoor", sum := "c34eb2c4994cddd0639e808a342fb2d58f2c46946041433d730dcbf346c1017a", func := "loop.example/spandrel/laws.FnExactHintAdd", spec := "fnExactHintAdd", inPlace := ["internal/bytealg.CountString", "internal/bytealg.IndexByteString", "internal/bytealg.IndexString"], unfollowed := true, recurses := true, named := ["unicode/utf8.first", "unicode/utf8.acceptRanges", "internal/bytealg.MaxLen"], apart := false, laid := [("unicode/utf8.acceptRanges", laid_unicode_utf8_acceptRanges), ("unicode/utf8.first", laid_unicode_utf8_first)] }
def FnExactHintAddSaid : Prop := fnExactHintAddRow.holds Tryd.pinned (OpenSpec.ofChange fnExactHintAddSpec)

/-- ITS FALSE NEIGHBOUR: 'it returns false'. Refute it at one input. -/
def fnExactHintAddWrong : ChangeSpec := { name := "fnExactHintAdd", fn := fun _ => fun
  | [d1, d2, d3] => { results := [.lit (.bool false)], args := [d1, d2, d3] }
  | _ => none }
def FnExactHintAddWrongFalsely : Prop := fnExactHintAddRow.holds Tryd.pinned (OpenSpec.ofChange fnExactHintAddWrong)

/-- 'laws.FnHintFind': WHATEVER THE INPUT: true; the input reads as it did. -/
def fnHintFindSpec : ChangeSpec := { name := "fnHintFind", fn := fun _ => fun
  | [d] => { results := [.lit (.bool true)], args := [d] }
  | _ => none }
def fnHintFindRow : OpenClaim := { program := "ytapdjooadgdbaaadoor", sum := "c34eb2c4994cddd0639e808a342fb2d58f2c46946041433d730dcbf346c1017a", func := "loop.example/spandrel/laws.FnHintFind", spec := "fnHintFind", inPlace := ["internal/bytealg.CountString", "internal/bytealg.IndexByteString", "internal/bytealg.IndexString"], unfollowed := true, recurses := true, named := ["unicode/utf8.first", "unicode/utf8.acceptRanges", "internal/bytealg.MaxLen"], apart := false, laid := [("unicode/utf8.acceptRanges", laid_unicode_utf8_acceptRanges), ("unicode/utf8.first", laid_unicode_utf8_first)] }
def FnHintFindSaid : Prop := fnHintFindRow.holds Tryd.pinned (OpenSpec.ofChange fnHintFindSpec)

/-- ITS FALSE NEIGHBOUR: 'it returns false'. Refute it at one input. -/
def fnHintFindWrong : ChangeSpec := { name := "fnHintFind", fn := fun _ => fun
  | [d] => { results := [.lit (.bool false)], args := [d] }
  | _ => none }
def FnHintFindWrongFalsely : Prop := fnHintFindRow.holds Tryd.pinned (OpenSpec.ofChange fnHintFindWrong)

/-- 'laws.FnHintLess': WHATEVER THE INPUT: true; the input reads as it did. -/
def fnHintLessSpec : ChangeSpec := { name := "fnHintLess", fn := fun _ => fun
  | [d] => { results := [.lit (.bool true)], args := [d] }
  | _ => none }
def fnHintLessRow : OpenClaim := { program := "ytapdjooadgdbaaadoor", sum := "c34eb2c4994cddd0639e808a342fb2d58f2c46946041433d730dcbf346c1017a", func := "loop.example/spandrel/laws.FnHintLess", spec := "fnHintLess", inPlace := ["internal/bytealg.CountString", "internal/bytealg.IndexByteString", "internal/bytealg.IndexString"], unfollowed := true, recurses := true, named := ["unicode/utf8.first", "unicode/utf8.acceptRanges", "internal/bytealg.MaxLen"], apart := false, laid := [("unicode/utf8.acceptRanges", laid_unicode_utf8_acceptRanges), ("unicode/utf8.first", laid_unicode_utf8_first)] }
def FnHintLessSaid : Prop := fnHintLessRow.holds Tryd.pinned (OpenSpec.ofChange fnHintLessSpec)

/-- ITS FALSE NEIGHBOUR: 'it returns false'. Refute it at one input. -/
def fnHintLessWrong : ChangeSpec := { name := "fnHintLess", fn := fun _ => fun
  | [d] => { results := [.lit (.bool false)], args := [d] }
  | _ => none }
def FnHintLessWrongFalsely : Prop := fnHintLessRow.holds Tryd.pinned (OpenSpec.ofChange fnHintLessWrong)

/-- 'laws.FnHintAll': WHATEVER THE INPUT: true; the input reads as it did. -/
def fnHintAllSpec : ChangeSpec := { name := "fnHintAll", fn := fun _ => fun
  | [d] => { results := [.lit (.bool true)], args := [d] }
  | _ => none }
def fnHintAllRow : OpenClaim := { program := "ytapdjooadgdbaaadoor", sum := "c34eb2c4994cddd0639e808a342fb2d58f2c46946041433d730dcbf346c1017a", func := "loop.example/spandrel/laws.FnHintAll", spec := "fnHintAll", inPlace := ["internal/bytealg.CountString", "internal/bytealg.IndexByteString", "internal/bytealg.IndexString"], unfollowed := true, recurses := true, named := ["unicode/utf8.first", "unicode/utf8.acceptRanges", "internal/bytealg.MaxLen"], apart := false, laid := [("unicode/utf8.acceptRanges", laid_unicode_utf8_acceptRanges), ("unicode/utf8.first", laid_unicode_utf8_first)] }
def FnHintAllSaid : Prop := fnHintAllRow.holds Tryd.pinned (OpenSpec.ofChange fnHintAllSpec)

/-- ITS FALSE NEIGHBOUR: 'it returns false'. Refute it at one input. -/
def fnHintAllWrong : ChangeSpec := { name := "fnHintAll", fn := fun _ => fun
  | [d] => { results := [.lit (.bool false)], args := [d] }
  | _ => none }
def FnHintAllWrongFalsely : Prop := fnHintAllRow.holds Tryd.pinned (OpenSpec.ofChange fnHintAllWrong)

/-- 'laws.FnExactHintsOk': WHATEVER THE INPUT: true; the input reads as it did. -/
def fnExactHintsOkSpec : ChangeSpec := { name := "fnExactHintsOk", fn := fun _ => fun
  | [d] => { results := [.lit (.bool true)], args := [d] }
  | _ => none }
def fnExactHintsOkRow : OpenClaim := { program := "ytapdjooadgdbaaadoor", sum := "c34eb2c4994cddd0639e808a342fb2d58f2c46946041433d730dcbf346c1017a", func := "loop.example/spandrel/laws.FnExactHintsOk", spec := "fnExactHintsOk", inPlace := ["internal/bytealg.CountString", "internal/bytealg.IndexByteString", "internal/bytealg.IndexString"], named := ["unicode/utf8.first", "unicode/utf8.acceptRanges", "internal/bytealg.MaxLen"], apart := false, laid := [("unicode/utf8.acceptRanges", laid_unicode_utf8_acceptRanges), ("unicode/utf8.first", laid_unicode_utf8_first)] }
def FnExactHintsOkSaid : Prop := fnExactHintsOkRow.holds Tryd.pinned (OpenSpec.ofChange fnExactHintsOkSpec)

/-- ITS FALSE NEIGHBOUR: 'it returns false'. Refute it at one input. -/
def fnExactHintsOkWrong : ChangeSpec := { name := "fnExactHintsOk", fn := fun _ => fun
  | [d] => { results := [.lit (.bool false)], args := [d] }
  | _ => none }
def FnExactHintsOkWrongFalsely : Prop := fnExactHintsOkRow.holds Tryd.pinned (OpenSpec.ofChange fnExactHintsOkWrong)

/- THE SECOND FORM. 'bulk': how many values and letters a reading holds, each counted each time it is reached (what is shared counts as often as it is met; a slice's spare places count too). A statement '..UptoSaid' is the law's where the arguments, and the package variables that the reading takes, are together of bulk at most 1048576: NARROWER than '..Said'. Prove '..Said' where nothing that the law and all that it calls make is longer than what came in: it says more and counts as full. Else prove '..UptoSaid'. A law counts once. -/
mutual
def uptoBulk {H : Type} : DataW H → Nat
  | .lit (.string bytes) => bytes.length + 1
  | .lit _ => 1
  | .nil => 1
  | .ptr d => uptoBulk d + 1
  | .slice elems spare => uptoBulkAll elems + uptoBulkAll spare + 1
  | .agg parts => uptoBulkAll parts + 1
  | .iface _ d => uptoBulk d + 1
  | .map entries => uptoBulkEntries entries + 1
  | .held _ => 1
def uptoBulkAll {H : Type} : List (DataW H) → Nat
  | [] => 0
  | d :: r => uptoBulk d + uptoBulkAll r
def uptoBulkEntries {H : Type} : List (Lit × DataW H) → Nat
  | [] => 0
  | x :: r => uptoBulkEntry x + uptoBulkEntries r
def uptoBulkEntry {H : Type} : Lit × DataW H → Nat
  | (.string bytes, d) => bytes.length + uptoBulk d + 1
  | (_, d) => uptoBulk d + 1
 end
def uptoSmall : (H : Type) → List (DataW H) → Bool := fun _ ds => decide (uptoBulkAll ds ≤ 1048576)
def OpenSpec.upto (s : _root_.Go.ChangeSpec) : _root_.Go.OpenSpec := { _root_.Go.OpenSpec.ofChange s with cond := some uptoSmall }

/-- 'laws.FnHintAdd', WHERE WHAT IT READS IS OF BULK AT MOST 1048576: true; the input reads as it did. -/
def fnHintAddUptoRow : OpenClaim := { program := "ytapdjooadgdbaaadoor", sum := "c34eb2c4994cddd0639e808a342fb2d58f2c46946041433d730dcbf346c1017a", func := "loop.example/spandrel/laws.FnHintAdd", spec := "fnHintAdd", inPlace := ["internal/bytealg.CountString", "internal/bytealg.IndexByteString", "internal/bytealg.IndexString"], unfollowed := true, recurses := true, named := ["unicode/utf8.first", "unicode/utf8.acceptRanges", "internal/bytealg.MaxLen"], apart := false, laid := [("unicode/utf8.acceptRanges", laid_unicode_utf8_acceptRanges), ("unicode/utf8.first", laid_unicode_utf8_first)], narrowed := true }
def FnHintAddUptoSaid : Prop := fnHintAddUptoRow.holds Tryd.pinned (OpenSpec.upto fnHintAddSpec)

/-- 'laws.FnHintTwice', WHERE WHAT IT READS IS OF BULK AT MOST 1048576: true; the input reads as it did. -/
def fnHintTwiceUptoRow : OpenClaim := { program := "ytapdjooadgdbaaadoor", sum := "c34eb2c4994cddd0639e808a342fb2d58f2c46946041433d730dcbf346c1017a", func := "loop.example/spandrel/laws.FnHintTwice", spec := "fnHintTwice", inPlace := ["internal/bytealg.CountString", "internal/bytealg.IndexByteString", "internal/bytealg.IndexString"], unfollowed := true, recurses := true, named := ["unicode/utf8.first", "unicode/utf8.acceptRanges", "internal/bytealg.MaxLen"], apart := false, laid := [("unicode/utf8.acceptRanges", laid_unicode_utf8_acceptRanges), ("unicode/utf8.first", laid_unicode_utf8_first)], narrowed := true }
def FnHintTwiceUptoSaid : Prop := fnHintTwiceUptoRow.holds Tryd.pinned (OpenSpec.upto fnHintTwiceSpec)

/-- 'laws.FnExactHintFind', WHERE WHAT IT READS IS OF BULK AT MOST 1048576: true; the input reads as it did. -/
def fnExactHintFindUptoRow : OpenClaim := { program := "ytapdjooadgdbaaadoor", sum := "c34eb2c4994cddd0639e808a342fb2d58f2c46946041433d730dcbf346c1017a", func := "loop.example/spandrel/laws.FnExactHintFind", spec := "fnExactHintFind", inPlace := ["internal/bytealg.CountString", "internal/bytealg.IndexByteString", "internal/bytealg.IndexString"], unfollowed := true, recurses := true, named := ["unicode/utf8.first", "unicode/utf8.acceptRanges", "internal/bytealg.MaxLen"], apart := false, laid := [("unicode/utf8.acceptRanges", laid_unicode_utf8_acceptRanges), ("unicode/utf8.first", laid_unicode_utf8_first)], narrowed := true }
def FnExactHintFindUptoSaid : Prop := fnExactHintFindUptoRow.holds Tryd.pinned (OpenSpec.upto fnExactHintFindSpec)

/-- 'laws.FnExactHintAdd', WHERE WHAT IT READS IS OF BULK AT MOST 1048576: true; the input reads as it did. -/
def fnExactHintAddUptoRow : OpenClaim := { program := "ytapdjooadgdbaaadoor", sum := "c34eb2c4994cddd0639e808a342fb2d58f2c46946041433d730dcbf346c1017a", func := "loop.example/spandrel/laws.FnExactHintAdd", spec := "fnExactHintAdd", inPlace := ["internal/bytealg.CountString", "internal/bytealg.IndexByteString", "internal/bytealg.IndexString"], unfollowed := true, recurses := true, named := ["unicode/utf8.first", "unicode/utf8.acceptRanges", "internal/bytealg.MaxLen"], apart := false, laid := [("unicode/utf8.acceptRanges", laid_unicode_utf8_acceptRanges), ("unicode/utf8.first", laid_unicode_utf8_first)], narrowed := true }
def FnExactHintAddUptoSaid : Prop := fnExactHintAddUptoRow.holds Tryd.pinned (OpenSpec.upto fnExactHintAddSpec)

/-- 'laws.FnHintFind', WHERE WHAT IT READS IS OF BULK AT MOST 1048576: true; the input reads as it did. -/
def fnHintFindUptoRow : OpenClaim := { program := "ytapdjooadgdbaaadoor", sum := "c34eb2c4994cddd0639e808a342fb2d58f2c46946041433d730dcbf346c1017a", func := "loop.example/spandrel/laws.FnHintFind", spec := "fnHintFind", inPlace := ["internal/bytealg.CountString", "internal/bytealg.IndexByteString", "internal/bytealg.IndexString"], unfollowed := true, recurses := true, named := ["unicode/utf8.first", "unicode/utf8.acceptRanges", "internal/bytealg.MaxLen"], apart := false, laid := [("unicode/utf8.acceptRanges", laid_unicode_utf8_acceptRanges), ("unicode/utf8.first", laid_unicode_utf8_first)], narrowed := true }
def FnHintFindUptoSaid : Prop := fnHintFindUptoRow.holds Tryd.pinned (OpenSpec.upto fnHintFindSpec)

/-- 'laws.FnHintLess', WHERE WHAT IT READS IS OF BULK AT MOST 1048576: true; the input reads as it did. -/
def fnHintLessUptoRow : OpenClaim := { program := "ytapdjooadgdbaaadoor", sum := "c34eb2c4994cddd0639e808a342fb2d58f2c46946041433d730dcbf346c1017a", func := "loop.example/spandrel/laws.FnHintLess", spec := "fnHintLess", inPlace := ["internal/bytealg.CountString", "internal/bytealg.IndexByteString", "internal/bytealg.IndexString"], unfollowed := true, recurses := true, named := ["unicode/utf8.first", "unicode/utf8.acceptRanges", "internal/bytealg.MaxLen"], apart := false, laid := [("unicode/utf8.acceptRanges", laid_unicode_utf8_acceptRanges), ("unicode/utf8.first", laid_unicode_utf8_first)], narrowed := true }
def FnHintLessUptoSaid : Prop := fnHintLessUptoRow.holds Tryd.pinned (OpenSpec.upto fnHintLessSpec)

/-- 'laws.FnHintAll', WHERE WHAT IT READS IS OF BULK AT MOST 1048576: true; the input reads as it did. -/
def fnHintAllUptoRow : OpenClaim := { program := "ytapdjooadgdbaaadoor", sum := "c34eb2c4994cddd0639e808a342fb2d58f2c46946041433d730dcbf346c1017a", func := "loop.example/spandrel/laws.FnHintAll", spec := "fnHintAll", inPlace := ["internal/bytealg.CountString", "internal/bytealg.IndexByteString", "internal/bytealg.IndexString"], unfollowed := true, recurses := true, named := ["unicode/utf8.first", "unicode/utf8.acceptRanges", "internal/bytealg.MaxLen"], apart := false, laid := [("unicode/utf8.acceptRanges", laid_unicode_utf8_acceptRanges), ("unicode/utf8.first", laid_unicode_utf8_first)], narrowed := true }
def FnHintAllUptoSaid : Prop := fnHintAllUptoRow.holds Tryd.pinned (OpenSpec.upto fnHintAllSpec)

/-- 'laws.FnExactHintsOk', WHERE WHAT IT READS IS OF BULK AT MOST 1048576: true; the input reads as it did. -/
def fnExactHintsOkUptoRow : OpenClaim := { program := "ytapdjooadgdbaaadoor", sum := "c34eb2c4994cddd0639e808a342fb2d58f2c46946041433d730dcbf346c1017a", func := "loop.example/spandrel/laws.FnExactHintsOk", spec := "fnExactHintsOk", inPlace := ["internal/bytealg.CountString", "internal/bytealg.IndexByteString", "internal/bytealg.IndexString"], named := ["unicode/utf8.first", "unicode/utf8.acceptRanges", "internal/bytealg.MaxLen"], apart := false, laid := [("unicode/utf8.acceptRanges", laid_unicode_utf8_acceptRanges), ("unicode/utf8.first", laid_unicode_utf8_first)], narrowed := true }
def FnExactHintsOkUptoSaid : Prop := fnExactHintsOkUptoRow.holds Tryd.pinned (OpenSpec.upto fnExactHintsOkSpec)

end Rows
end Go.Proofs.YtapdjooadgdbaaaDoor
