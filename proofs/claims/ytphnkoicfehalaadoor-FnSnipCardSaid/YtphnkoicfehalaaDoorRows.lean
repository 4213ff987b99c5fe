/-
  NARROWER THAN 'FOR EVERY INPUT', by the rows' own cells (each row's printed sentence says how): FnExactMark: laid · FnExactSnip: laid · FnMark: laid · FnMarkAll: laid · FnSnipAll: laid · FnSnip: laid · FnExactHintsOk: laid.
  DERIVED. THE GIVEN ROWS OF THIS SEAT. 7 by the template 'for every input the law returns true; each argument reads behind the call as it read before'; 0 by the template 'total and deterministic' (their statements: YtphnkoicfehalaaDoorTotals.lean).
  GIVEN WITH THE SEED: the statements are not yours to turn. If you find one false, say at which input.
  Laid BY PROGRAM, IN A SANDBOX (cutbox-rows.mjs): the forced cells as the released guide's own fill.sh prints them over the translation 239cd3503545ec8a… (all of the seat's roots in one cut). By AI agents, Wed Nov 11 2026. No macro, syntax, notation, axiom, sorry.
-/
import Derived.Test.YtphnkoicfehalaaDoorChecked
import GoSem.PinnedTables
import GoSem.Claim
import GoSem.ClaimJoined
import GoSem.ClaimMapViews
import Derived.JoinedTies
import Derived.KernelRfl
namespace Go.Proofs.YtphnkoicfehalaaDoor
/- THE CELL 'sum', in the pinned program and in every row, IS THE sha256 OF THE DUMP (.gsa) THAT YtphnkoicfehalaaDoorProg.lean LOADS. Nothing in Lean hashes anything: it is a label: what it is worth is what the hold of that sum in a sandbox is worth. -/
noncomputable def Tryd.pinned : Pinned := { name := "ytphnkoicfehalaadoor", sum := "239cd3503545ec8af1e35df7592ebaafc9f332b0d88f0b852338262f12edba26", checked := Tryd.checked }
namespace Rows
def none {H : Type} : Left H := { results := [], args := [] }

/- WHAT THE LISTED PACKAGE-LEVEL VARIABLES READ AS WHEN THE CALL BEGINS. Each datum BY PROGRAM (the guide's laid-datum.mjs) off the statement by which the dump's own 'gosem.cut.vars' lays the variable. In a bare row this is a premise. The card (YtphnkoicfehalaaDoorCards.lean) ties it to the program's text. -/
def laid_loop_example_spandrel_impl_stops {H : Type} : DataW H := .slice [.lit (.string [97]), .lit (.string [97, 110]), .lit (.string [97, 110, 100]), .lit (.string [111, 102]), .lit (.string [116, 104, 101]), .lit (.string [116, 111])] []
def laid_unicode_utf8_acceptRanges {H : Type} : DataW H := .agg [.agg [.lit (.int .u8 128), .lit (.int .u8 191)], .agg [.lit (.int .u8 160), .lit (.int .u8 191)], .agg [.lit (.int .u8 128), .lit (.int .u8 159)], .agg [.lit (.int .u8 144), .lit (.int .u8 191)], .agg [.lit (.int .u8 128), .lit (.int .u8 143)], .agg [.lit (.int .u8 0), .lit (.int .u8 0)], .agg [.lit (.int .u8 0), .lit (.int .u8 0)], .agg [.lit (.int .u8 0), .lit (.int .u8 0)], .agg [.lit (.int .u8 0), .lit (.int .u8 0)], .agg [.lit (.int .u8 0), .lit (.int .u8 0)], .agg [.lit (.int .u8 0), .lit (.int .u8 0)], .agg [.lit (.int .u8 0), .lit (.int .u8 0)], .agg [.lit (.int .u8 0), .lit (.int .u8 0)], .agg [.lit (.int .u8 0), .lit (.int .u8 0)], .agg [.lit (.int .u8 0), .lit (.int .u8 0)], .agg [.lit (.int .u8 0), .lit (.int .u8 0)]]
/-- One of Go's own tables, pinned by name: the form's constant. -/
def laid_unicode_utf8_first : DataW Unit := Go.Pinned.utf8First

/-- 'laws.FnExactMark': WHATEVER THE INPUT: true; the input reads as it did. -/
def fnExactMarkSpec : ChangeSpec := { name := "fnExactMark", vars := ["loop.example/spandrel/impl.stops"], fn := fun _ => fun
  | [d1, d2, g1] => { results := [.lit (.bool true)], args := [d1, d2], vars := [g1] }
  | _ => none }
def fnExactMarkRow : OpenClaim := { program := "ytphnkoicfehalaadoor", sum := "239cd3503545ec8af1e35df7592ebaafc9f332b0d88f0b852338262f12edba26", func := "loop.example/spandrel/laws.FnExactMark", spec := "fnExactMark", named := ["loop.example/spandrel/impl.stops"], apart := false, laid := [("loop.example/spandrel/impl.stops", laid_loop_example_spandrel_impl_stops)] }
def FnExactMarkSaid : Prop := fnExactMarkRow.holds Tryd.pinned (OpenSpec.ofChange fnExactMarkSpec)

/-- ITS FALSE NEIGHBOUR: 'it returns false'. Refute it at one input. -/
def fnExactMarkWrong : ChangeSpec := { name := "fnExactMark", vars := ["loop.example/spandrel/impl.stops"], fn := fun _ => fun
  | [d1, d2, g1] => { results := [.lit (.bool false)], args := [d1, d2], vars := [g1] }
  | _ => none }
def FnExactMarkWrongFalsely : Prop := fnExactMarkRow.holds Tryd.pinned (OpenSpec.ofChange fnExactMarkWrong)

/-- 'laws.FnExactSnip': WHATEVER THE INPUT: true; the input reads as it did. -/
def fnExactSnipSpec : ChangeSpec := { name := "fnExactSnip", vars := ["loop.example/spandrel/impl.stops"], fn := fun _ => fun
  | [d1, d2, d3, g1] => { results := [.lit (.bool true)], args := [d1, d2, d3], vars := [g1] }
  | _ => none }
def fnExactSnipRow : OpenClaim := { program := "ytphnkoicfehalaadoor", sum := "239cd3503545ec8af1e35df7592ebaafc9f332b0d88f0b852338262f12edba26", func := "loop.example/spandrel/laws.FnExactSnip", spec := "fnExactSnip", named := ["loop.example/spandrel/impl.stops"], apart := false, laid := [("loop.example/spandrel/impl.stops", laid_loop_example_spandrel_impl_stops)] }
def FnExactSnipSaid : Prop := fnExactSnipRow.holds Tryd.pinned (OpenSpec.ofChange fnExactSnipSpec)

/-- ITS FALSE NEIGHBOUR: 'it returns false'. Refute it at one input. -/
def fnExactSnipWrong : ChangeSpec := { name := "fnExactSnip", vars := ["loop.example/spandrel/impl.stops"], fn := fun _ => fun
  | [d1, d2, d3, g1] => { results := [.lit (.bool false)], args := [d1, d2, d3], vars := [g1] }
  | _ => none }
def FnExactSnipWrongFalsely : Prop := fnExactSnipRow.holds Tryd.pinned (OpenSpec.ofChange fnExactSnipWrong)

/-- 'laws.FnMark': WHATEVER THE INPUT: true; the input reads as it did. -/
def fnMarkSpec : ChangeSpec := { name := "fnMark", vars := ["loop.example/spandrel/impl.stops"], fn := fun _ => fun
  | [d, g1] => { results := [.lit (.bool true)], args := [d], vars := [g1] }
  | _ => none }
def fnMarkRow : OpenClaim := { program := "ytphnkoicfehalaadoor", sum := "239cd3503545ec8af1e35df7592ebaafc9f332b0d88f0b852338262f12edba26", func := "loop.example/spandrel/laws.FnMark", spec := "fnMark", named := ["loop.example/spandrel/impl.stops"], apart := false, laid := [("loop.example/spandrel/impl.stops", laid_loop_example_spandrel_impl_stops)] }
def FnMarkSaid : Prop := fnMarkRow.holds Tryd.pinned (OpenSpec.ofChange fnMarkSpec)

/-- ITS FALSE NEIGHBOUR: 'it returns false'. Refute it at one input. -/
def fnMarkWrong : ChangeSpec := { name := "fnMark", vars := ["loop.example/spandrel/impl.stops"], fn := fun _ => fun
  | [d, g1] => { results := [.lit (.bool false)], args := [d], vars := [g1] }
  | _ => none }
def FnMarkWrongFalsely : Prop := fnMarkRow.holds Tryd.pinned (OpenSpec.ofChange fnMarkWrong)

/-- 'laws.FnMarkAll': WHATEVER THE INPUT: true; the input reads as it did. -/
def fnMarkAllSpec : ChangeSpec := { name := "fnMarkAll", vars := ["loop.example/spandrel/impl.stops"], fn := fun _ => fun
  | [d, g1] => { results := [.lit (.bool true)], args := [d], vars := [g1] }
  | _ => none }
def fnMarkAllRow : OpenClaim := { program := "ytphnkoicfehalaadoor", sum := "239cd3503545ec8af1e35df7592ebaafc9f332b0d88f0b852338262f12edba26", func := "loop.example/spandrel/laws.FnMarkAll", spec := "fnMarkAll", named := ["loop.example/spandrel/impl.stops"], apart := false, laid := [("loop.example/spandrel/impl.stops", laid_loop_example_spandrel_impl_stops)] }
def FnMarkAllSaid : Prop := fnMarkAllRow.holds Tryd.pinned (OpenSpec.ofChange fnMarkAllSpec)

/-- ITS FALSE NEIGHBOUR: 'it returns false'. Refute it at one input. -/
def fnMarkAllWrong : ChangeSpec := { name := "fnMarkAll", vars := ["loop.example/spandrel/impl.stops"], fn := fun _ => fun
  | [d, g1] => { results := [.lit (.bool false)], args := [d], vars := [g1] }
  | _ => none }
def FnMarkAllWrongFalsely : Prop := fnMarkAllRow.holds Tryd.pinned (OpenSpec.ofChange fnMarkAllWrong)

/-- 'laws.FnSnipAll': WHATEVER THE INPUT: true; the input reads as it did. -/
def fnSnipAllSpec : ChangeSpec := { name := "fnSnipAll", vars := ["loop.example/spandrel/impl.stops"], fn := fun _ => fun
  | [d, g1] => { results := [.lit (.bool true)], args := [d], vars := [g1] }
  | _ => none }
def fnSnipAllRow : OpenClaim := { program := "ytphnkoicfehalaadoor", sum := "239cd3503545ec8af1e35df7592ebaafc9f332b0d88f0b852338262f12edba26", func := "loop.example/spandrel/laws.FnSnipAll", spec := "fnSnipAll", named := ["loop.example/spandrel/impl.stops"], apart := false, laid := [("loop.example/spandrel/impl.stops", laid_loop_example_spandrel_impl_stops)] }
def FnSnipAllSaid : Prop := fnSnipAllRow.holds Tryd.pinned (OpenSpec.ofChange fnSnipAllSpec)

/-- ITS FALSE NEIGHBOUR: 'it returns false'. Refute it at one input. -/
def fnSnipAllWrong : ChangeSpec := { name := "fnSnipAll", vars := ["loop.example/spandrel/impl.stops"], fn := fun _ => fun
  | [d, g1] => { results := [.lit (.bool false)], args := [d], vars := [g1] }
  | _ => none }
def FnSnipAllWrongFalsely : Prop := fnSnipAllRow.holds Tryd.pinned (OpenSpec.ofChange fnSnipAllWrong)

/-- 'laws.FnSnip': WHATEVER THE INPUT: true; the input reads as it did. -/
def fnSnipSpec : ChangeSpec := { name := "fnSnip", vars := ["loop.example/spandrel/impl.stops"], fn := fun _ => fun
  | [d, g1] => { results := [.lit (.bool true)], args := [d], vars := [g1] }
  | _ => none }
def fnSnipRow : OpenClaim := { program := "ytphnkoicfehalaadoor", sum := "239cd3503545ec8af1e35df7592ebaafc9f332b0d88f0b852338262f12edba26", func := "loop.example/spandrel/laws.FnSnip", spec := "fnSnip", named := ["loop.example/spandrel/impl.stops"], apart := false, laid := [("loop.example/spandrel/impl.stops", laid_loop_example_spandrel_impl_stops)] }
def FnSnipSaid : Prop := fnSnipRow.holds Tryd.pinned (OpenSpec.ofChange fnSnipSpec)

/-- ITS FALSE NEIGHBOUR: 'it returns false'. Refute it at one input. -/
def fnSnipWrong : ChangeSpec := { name := "fnSnip", vars := ["loop.example/spandrel/impl.stops"], fn := fun _ => fun
  | [d, g1] => { results := [.lit (.bool false)], args := [d], vars := [g1] }
  | _ => none }
def FnSnipWrongFalsely : Prop := fnSnipRow.holds Tryd.pinned (OpenSpec.ofChange fnSnipWrong)

/-- 'laws.FnExactHintsOk': WHATEVER THE INPUT: true; the input reads as it did. -/
def fnExactHintsOkSpec : ChangeSpec := { name := "fnExactHintsOk", fn := fun _ => fun
  | [d] => { results := [.lit (.bool true)], args := [d] }
  | _ => none }
def fnExactHintsOkRow : OpenClaim := { program := "ytphnkoicfehalaadoor", sum := "239cd3503545ec8af1e35df7592ebaafc9f332b0d88f0b852338262f12edba26", func := "loop.example/spandrel/laws.FnExactHintsOk", spec := "fnExactHintsOk", inPlace := ["internal/bytealg.CountString", "internal/bytealg.IndexByteString", "internal/bytealg.IndexString"], named := ["unicode/utf8.first", "unicode/utf8.acceptRanges", "internal/bytealg.MaxLen"], apart := false, laid := [("unicode/utf8.acceptRanges", laid_unicode_utf8_acceptRanges), ("unicode/utf8.first", laid_unicode_utf8_first)] }
def FnExactHintsOkSaid : Prop := fnExactHintsOkRow.holds Tryd.pinned (OpenSpec.ofChange fnExactHintsOkSpec)

/-- ITS FALSE NEIGHBOUR: 'it returns false'. Refute it at one input. -/
def fnExactHintsOkWrong : ChangeSpec := { name := "fnExactHintsOk", fn := fun _ => fun
  | [d] => { results := [.lit (.bool false)], args := [d] }
  | _ => none }
def FnExactHintsOkWrongFalsely : Prop := fnExactHintsOkRow.holds Tryd.pinned (OpenSpec.ofChange fnExactHintsOkWrong)

/- THE SECOND FORM. 'bulk': how many values and letters a reading holds, each counted each time it is reached (what is shared counts as often as it is met; a slice's spare places count too). A statement '..UptoSaid' is the law's where the arguments, and the package variables that the reading takes, are together of bulk at most 1048576: NARROWER than '..Said'. Prove '..Said' where nothing that the law and all that it calls make is longer than what came in: it says more and counts as full. Else prove '..UptoSaid'. A law counts once. -/
mutual
def uptoBulk {H : Type} : DataW H → Nat
  | .lit (.string bytes) => bytes.length + 1
  | .lit _ => 1
  | .nil => 1
  | .ptr d => uptoBulk d + 1
  | .slice elems spare => uptoBulkAll elems + uptoBulkAll spare + 1
  | .agg parts => uptoBulkAll parts + 1
  | .iface _ d => uptoBulk d + 1
  | .map entries => uptoBulkEntries entries + 1
  | .held _ => 1
def uptoBulkAll {H : Type} : List (DataW H) → Nat
  | [] => 0
  | d :: r => uptoBulk d + uptoBulkAll r
def uptoBulkEntries {H : Type} : List (Lit × DataW H) → Nat
  | [] => 0
  | x :: r => uptoBulkEntry x + uptoBulkEntries r
def uptoBulkEntry {H : Type} : Lit × DataW H → Nat
  | (.string bytes, d) => bytes.length + uptoBulk d + 1
  | (_, d) => uptoBulk d + 1
 end
def uptoSmall : (H : Type) → List (DataW H) → Bool := fun _ ds => decide (uptoBulkAll ds ≤ 1048576)
def OpenSpec.upto (s : _root_.Go.ChangeSpec) : _root_.Go.OpenSpec := { _root_.Go.OpenSpec.ofChange s with cond := some uptoSmall }

/-- 'laws.FnExactMark', WHERE WHAT IT READS IS OF BULK AT MOST 1048576: true; the input reads as it did. -/
def fnExactMarkUptoRow : OpenClaim := { program := "ytphnkoicfehalaadoor", sum := "239cd3503545ec8af1e35df7592ebaafc9f332b0d88f0b852338262f12edba26", func := "loop.example/spandrel/laws.FnExactMark", spec := "fnExactMark", named := ["loop.example/spandrel/impl.stops"], apart := false, laid := [("loop.example/spandrel/impl.stops", laid_loop_example_spandrel_impl_stops)], narrowed := true }
def FnExactMarkUptoSaid : Prop := fnExactMarkUptoRow.holds Tryd.pinned (OpenSpec.upto fnExactMarkSpec)

/-- 'laws.FnExactSnip', WHERE WHAT IT READS IS OF BULK AT MOST 1048576: true; the input reads as it did. -/
def fnExactSnipUptoRow : OpenClaim := { program := "ytphnkoicfehalaadoor", sum := "239cd3503545ec8af1e35df7592ebaafc9f332b0d88f0b852338262f12edba26", func := "loop.example/spandrel/laws.FnExactSnip", spec := "fnExactSnip", named := ["loop.example/spandrel/impl.stops"], apart := false, laid := [("loop.example/spandrel/impl.stops", laid_loop_example_spandrel_impl_stops)], narrowed := true }
def FnExactSnipUptoSaid : Prop := fnExactSnipUptoRow.holds Tryd.pinned (OpenSpec.upto fnExactSnipSpec)

/-- 'laws.FnMark', WHERE WHAT IT READS IS OF BULK AT MOST 1048576: true; the input reads as it did. -/
def fnMarkUptoRow : OpenClaim := { program := "ytphnkoicfehalaadoor", sum := "239cd3503545ec8af1e35df7592ebaafc9f332b0d88f0b852338262f12edba26", func := "loop.example/spandrel/laws.FnMark", spec := "fnMark", named := ["loop.example/spandrel/impl.stops"], apart := false, laid := [("loop.example/spandrel/impl.stops", laid_loop_example_spandrel_impl_stops)], narrowed := true }
def FnMarkUptoSaid : Prop := fnMarkUptoRow.holds Tryd.pinned (OpenSpec.upto fnMarkSpec)

/-- 'laws.FnMarkAll', WHERE WHAT IT READS IS OF BULK AT MOST 1048576: true; the input reads as it did. -/
def fnMarkAllUptoRow : OpenClaim := { program := "ytphnkoicfehalaadoor", sum := "239cd3503545ec8af1e35df7592ebaafc9f332b0d88f0b852338262f12edba26", func := "loop.example/spandrel/laws.FnMarkAll", spec := "fnMarkAll", named := ["loop.example/spandrel/impl.stops"], apart := false, laid := [("loop.example/spandrel/impl.stops", laid_loop_example_spandrel_impl_stops)], narrowed := true }
def FnMarkAllUptoSaid : Prop := fnMarkAllUptoRow.holds Tryd.pinned (OpenSpec.upto fnMarkAllSpec)

/-- 'laws.FnSnipAll', WHERE WHAT IT READS IS OF BULK AT MOST 1048576: true; the input reads as it did. -/
def fnSnipAllUptoRow : OpenClaim := { program := "ytphnkoicfehalaadoor", sum := "239cd3503545ec8af1e35df7592ebaafc9f332b0d88f0b852338262f12edba26", func := "loop.example/spandrel/laws.FnSnipAll", spec := "fnSnipAll", named := ["loop.example/spandrel/impl.stops"], apart := false, laid := [("loop.example/spandrel/impl.stops", laid_loop_example_spandrel_impl_stops)], narrowed := true }
def FnSnipAllUptoSaid : Prop := fnSnipAllUptoRow.holds Tryd.pinned (OpenSpec.upto fnSnipAllSpec)

/-- 'laws.FnSnip', WHERE WHAT IT READS IS OF BULK AT MOST 1048576: true; the input reads as it did. -/
def fnSnipUptoRow : OpenClaim := { program := "ytphnkoicfehalaadoor", sum := "239cd3503545ec8af1e35df7592ebaafc9f332b0d88f0b852338262f12edba26", func := "loop.example/spandrel/laws.FnSnip", spec := "fnSnip", named := ["loop.example/spandrel/impl.stops"], apart := false, laid := [("loop.example/spandrel/impl.stops", laid_loop_example_spandrel_impl_stops)], narrowed := true }
def FnSnipUptoSaid : Prop := fnSnipUptoRow.holds Tryd.pinned (OpenSpec.upto fnSnipSpec)

/-- 'laws.FnExactHintsOk', WHERE WHAT IT READS IS OF BULK AT MOST 1048576: true; the input reads as it did. -/
def fnExactHintsOkUptoRow : OpenClaim := { program := "ytphnkoicfehalaadoor", sum := "239cd3503545ec8af1e35df7592ebaafc9f332b0d88f0b852338262f12edba26", func := "loop.example/spandrel/laws.FnExactHintsOk", spec := "fnExactHintsOk", inPlace := ["internal/bytealg.CountString", "internal/bytealg.IndexByteString", "internal/bytealg.IndexString"], named := ["unicode/utf8.first", "unicode/utf8.acceptRanges", "internal/bytealg.MaxLen"], apart := false, laid := [("unicode/utf8.acceptRanges", laid_unicode_utf8_acceptRanges), ("unicode/utf8.first", laid_unicode_utf8_first)], narrowed := true }
def FnExactHintsOkUptoSaid : Prop := fnExactHintsOkUptoRow.holds Tryd.pinned (OpenSpec.upto fnExactHintsOkSpec)

end Rows
end Go.Proofs.YtphnkoicfehalaaDoor
