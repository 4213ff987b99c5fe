/-
  DERIVED. GIVEN WITH THE SEED: THE CARDS: each row of YtphnkoicfehalaaDoorRows.lean that lists a variable, with what it lists TIED to the program's text (the seventh form; the later family's looks); each row that meets fmt, with fmt's text TOLD by the authors' own Lean function (tested against real Go, not proved from fmt's source: count such statements apart). THE CARD IS WHAT COUNTS. Prove the row's statement (the work); the ties are given (YtphnkoicfehalaaDoorTie.lean); close each card by the builder's one call (the guide's Derived/Test/ToyasCard.lean, 'card_holds'). Laid BY PROGRAM, IN A SANDBOX (cutbox-door.mjs). By AI agents, Wed Nov 11 2026. No macro, syntax, notation, axiom, sorry.
-/
import Derived.Test.YtphnkoicfehalaaDoorRows
import GoSem.ClaimSeven
namespace Go.Proofs.YtphnkoicfehalaaDoor
namespace Rows

/-- THE TIED CARD OF 'laws.FnExactMark'. -/
def fnExactMarkCard : Claim7 := { stood := { row := fnExactMarkRow, standIns := [], harness := (true, "9b82936279a998ab2bd6d80a36845d7476036c967c41f6ac196d488e4144c4e0"), looks := false }, kinds := [], alts := [], laidByText := true, laidKinds := [.widerDeep], laidTests := true, laidLooks := .later }
def FnExactMarkCardSaid : Prop := Claim7.holds Tryd.pinned (.plain (OpenSpec.ofChange fnExactMarkSpec)) fnExactMarkCard

/-- THE TIED CARD OF 'laws.FnExactSnip'. -/
def fnExactSnipCard : Claim7 := { stood := { row := fnExactSnipRow, standIns := [], harness := (true, "9b82936279a998ab2bd6d80a36845d7476036c967c41f6ac196d488e4144c4e0"), looks := false }, kinds := [], alts := [], laidByText := true, laidKinds := [.widerDeep], laidTests := true, laidLooks := .later }
def FnExactSnipCardSaid : Prop := Claim7.holds Tryd.pinned (.plain (OpenSpec.ofChange fnExactSnipSpec)) fnExactSnipCard

/-- THE TIED CARD OF 'laws.FnMark'. -/
def fnMarkCard : Claim7 := { stood := { row := fnMarkRow, standIns := [], harness := (true, "9b82936279a998ab2bd6d80a36845d7476036c967c41f6ac196d488e4144c4e0"), looks := false }, kinds := [], alts := [], laidByText := true, laidKinds := [.widerDeep], laidTests := true, laidLooks := .later }
def FnMarkCardSaid : Prop := Claim7.holds Tryd.pinned (.plain (OpenSpec.ofChange fnMarkSpec)) fnMarkCard

/-- THE TIED CARD OF 'laws.FnMarkAll'. -/
def fnMarkAllCard : Claim7 := { stood := { row := fnMarkAllRow, standIns := [], harness := (true, "9b82936279a998ab2bd6d80a36845d7476036c967c41f6ac196d488e4144c4e0"), looks := false }, kinds := [], alts := [], laidByText := true, laidKinds := [.widerDeep], laidTests := true, laidLooks := .later }
def FnMarkAllCardSaid : Prop := Claim7.holds Tryd.pinned (.plain (OpenSpec.ofChange fnMarkAllSpec)) fnMarkAllCard

/-- THE TIED CARD OF 'laws.FnSnipAll'. -/
def fnSnipAllCard : Claim7 := { stood := { row := fnSnipAllRow, standIns := [], harness := (true, "9b82936279a998ab2bd6d80a36845d7476036c967c41f6ac196d488e4144c4e0"), looks := false }, kinds := [], alts := [], laidByText := true, laidKinds := [.widerDeep], laidTests := true, laidLooks := .later }
def FnSnipAllCardSaid : Prop := Claim7.holds Tryd.pinned (.plain (OpenSpec.ofChange fnSnipAllSpec)) fnSnipAllCard

/-- THE TIED CARD OF 'laws.FnSnip'. -/
def fnSnipCard : Claim7 := { stood := { row := fnSnipRow, standIns := [], harness := (true, "9b82936279a998ab2bd6d80a36845d7476036c967c41f6ac196d488e4144c4e0"), looks := false }, kinds := [], alts := [], laidByText := true, laidKinds := [.widerDeep], laidTests := true, laidLooks := .later }
def FnSnipCardSaid : Prop := Claim7.holds Tryd.pinned (.plain (OpenSpec.ofChange fnSnipSpec)) fnSnipCard

/-- THE TIED CARD OF 'laws.FnExactHintsOk'. -/
def fnExactHintsOkCard : Claim7 := { stood := { row := fnExactHintsOkRow, standIns := [], harness := (true, "9b82936279a998ab2bd6d80a36845d7476036c967c41f6ac196d488e4144c4e0"), looks := false }, kinds := [], alts := [], laidByText := true, laidKinds := [.data, .pinned], laidTests := true, laidLooks := .later }
def FnExactHintsOkCardSaid : Prop := Claim7.holds Tryd.pinned (.plain (OpenSpec.ofChange fnExactHintsOkSpec)) fnExactHintsOkCard

/-- THE SECOND FORM's CARD OF 'laws.FnExactMark'. -/
def fnExactMarkUptoCard : Claim7 := { stood := { row := fnExactMarkUptoRow, standIns := [], harness := (true, "9b82936279a998ab2bd6d80a36845d7476036c967c41f6ac196d488e4144c4e0"), looks := false }, kinds := [], alts := [], laidByText := true, laidKinds := [.widerDeep], laidTests := true, laidLooks := .later }
def FnExactMarkUptoCardSaid : Prop := Claim7.holds Tryd.pinned (.plain (OpenSpec.upto fnExactMarkSpec)) fnExactMarkUptoCard

/-- THE SECOND FORM's CARD OF 'laws.FnExactSnip'. -/
def fnExactSnipUptoCard : Claim7 := { stood := { row := fnExactSnipUptoRow, standIns := [], harness := (true, "9b82936279a998ab2bd6d80a36845d7476036c967c41f6ac196d488e4144c4e0"), looks := false }, kinds := [], alts := [], laidByText := true, laidKinds := [.widerDeep], laidTests := true, laidLooks := .later }
def FnExactSnipUptoCardSaid : Prop := Claim7.holds Tryd.pinned (.plain (OpenSpec.upto fnExactSnipSpec)) fnExactSnipUptoCard

/-- THE SECOND FORM's CARD OF 'laws.FnMark'. -/
def fnMarkUptoCard : Claim7 := { stood := { row := fnMarkUptoRow, standIns := [], harness := (true, "9b82936279a998ab2bd6d80a36845d7476036c967c41f6ac196d488e4144c4e0"), looks := false }, kinds := [], alts := [], laidByText := true, laidKinds := [.widerDeep], laidTests := true, laidLooks := .later }
def FnMarkUptoCardSaid : Prop := Claim7.holds Tryd.pinned (.plain (OpenSpec.upto fnMarkSpec)) fnMarkUptoCard

/-- THE SECOND FORM's CARD OF 'laws.FnMarkAll'. -/
def fnMarkAllUptoCard : Claim7 := { stood := { row := fnMarkAllUptoRow, standIns := [], harness := (true, "9b82936279a998ab2bd6d80a36845d7476036c967c41f6ac196d488e4144c4e0"), looks := false }, kinds := [], alts := [], laidByText := true, laidKinds := [.widerDeep], laidTests := true, laidLooks := .later }
def FnMarkAllUptoCardSaid : Prop := Claim7.holds Tryd.pinned (.plain (OpenSpec.upto fnMarkAllSpec)) fnMarkAllUptoCard

/-- THE SECOND FORM's CARD OF 'laws.FnSnipAll'. -/
def fnSnipAllUptoCard : Claim7 := { stood := { row := fnSnipAllUptoRow, standIns := [], harness := (true, "9b82936279a998ab2bd6d80a36845d7476036c967c41f6ac196d488e4144c4e0"), looks := false }, kinds := [], alts := [], laidByText := true, laidKinds := [.widerDeep], laidTests := true, laidLooks := .later }
def FnSnipAllUptoCardSaid : Prop := Claim7.holds Tryd.pinned (.plain (OpenSpec.upto fnSnipAllSpec)) fnSnipAllUptoCard

/-- THE SECOND FORM's CARD OF 'laws.FnSnip'. -/
def fnSnipUptoCard : Claim7 := { stood := { row := fnSnipUptoRow, standIns := [], harness := (true, "9b82936279a998ab2bd6d80a36845d7476036c967c41f6ac196d488e4144c4e0"), looks := false }, kinds := [], alts := [], laidByText := true, laidKinds := [.widerDeep], laidTests := true, laidLooks := .later }
def FnSnipUptoCardSaid : Prop := Claim7.holds Tryd.pinned (.plain (OpenSpec.upto fnSnipSpec)) fnSnipUptoCard

/-- THE SECOND FORM's CARD OF 'laws.FnExactHintsOk'. -/
def fnExactHintsOkUptoCard : Claim7 := { stood := { row := fnExactHintsOkUptoRow, standIns := [], harness := (true, "9b82936279a998ab2bd6d80a36845d7476036c967c41f6ac196d488e4144c4e0"), looks := false }, kinds := [], alts := [], laidByText := true, laidKinds := [.data, .pinned], laidTests := true, laidLooks := .later }
def FnExactHintsOkUptoCardSaid : Prop := Claim7.holds Tryd.pinned (.plain (OpenSpec.upto fnExactHintsOkSpec)) fnExactHintsOkUptoCard
end Rows
end Go.Proofs.YtphnkoicfehalaaDoor
