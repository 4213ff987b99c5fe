/-
  DERIVED. GIVEN WITH THE SEED: THE CARDS: each row of YtapdjooadgdbaaaDoorRows.lean that lists a variable, with what it lists TIED to the program's text (the seventh form; the later family's looks); each row that meets fmt, with fmt's text TOLD by the authors' own Lean function (tested against real Go, not proved from fmt's source: count such statements apart). THE CARD IS WHAT COUNTS. Prove the row's statement (the work); the ties are given (YtapdjooadgdbaaaDoorTie.lean); close each card by the builder's one call (the guide's Derived/Test/ToyasCard.lean, 'card_holds'). Laid BY PROGRAM, IN A SANDBOX (cutbox-door.mjs). By AI agents, Wed Nov 11 2026. No macro, syntax, notation, axiom, sorry.
-/
import Derived.Test.YtapdjooadgdbaaaDoorRows
import GoSem.ClaimSeven
namespace Go.Proofs.YtapdjooadgdbaaaDoor
namespace Rows

/-- THE TIED CARD OF 'laws.FnHintAdd'. -/
def fnHintAddCard : Claim7 := { stood := { row := fnHintAddRow, standIns := [], harness := (true, "ab86f946710799c1aec6ca186b63aa5edc5955b9923cb5eec9792a0dc4ad962d"), looks := false }, kinds := [], alts := [], laidByText := true, laidKinds := [.data, .pinned], laidTests := true, laidLooks := .later }
def FnHintAddCardSaid : Prop := Claim7.holds Tryd.pinned (.plain (OpenSpec.ofChange fnHintAddSpec)) fnHintAddCard

/-- THE TIED CARD OF 'laws.FnHintTwice'. -/
def fnHintTwiceCard : Claim7 := { stood := { row := fnHintTwiceRow, standIns := [], harness := (true, "ab86f946710799c1aec6ca186b63aa5edc5955b9923cb5eec9792a0dc4ad962d"), looks := false }, kinds := [], alts := [], laidByText := true, laidKinds := [.data, .pinned], laidTests := true, laidLooks := .later }
def FnHintTwiceCardSaid : Prop := Claim7.holds Tryd.pinned (.plain (OpenSpec.ofChange fnHintTwiceSpec)) fnHintTwiceCard

/-- THE TIED CARD OF 'laws.FnExactHintFind'. -/
def fnExactHintFindCard : Claim7 := { stood := { row := fnExactHintFindRow, standIns := [], harness := (true, "ab86f946710799c1aec6ca186b63aa5edc5955b9923cb5eec9792a0dc4ad962d"), looks := false }, kinds := [], alts := [], laidByText := true, laidKinds := [.data, .pinned], laidTests := true, laidLooks := .later }
def FnExactHintFindCardSaid : Prop := Claim7.holds Tryd.pinned (.plain (OpenSpec.ofChange fnExactHintFindSpec)) fnExactHintFindCard

/-- THE TIED CARD OF 'laws.FnExactHintAdd'. -/
def fnExactHintAddCard : Claim7 := { stood := { row := fnExactHintAddRow, standIns := [], harness := (true, "ab86f946710799c1aec6ca186b63aa5edc5955b9923cb5eec9792a0dc4ad962d"), looks := false }, kinds := [], alts := [], laidByText := true, laidKinds := [.data, .pinned], laidTests := true, laidLooks := .later }
def FnExactHintAddCardSaid : Prop := Claim7.holds Tryd.pinned (.plain (OpenSpec.ofChange fnExactHintAddSpec)) fnExactHintAddCard

/-- THE TIED CARD OF 'laws.FnHintFind'. -/
def fnHintFindCard : Claim7 := { stood := { row := fnHintFindRow, standIns := [], harness := (true, "ab86f946710799c1aec6ca186b63aa5edc5955b9923cb5eec9792a0dc4ad962d"), looks := false }, kinds := [], alts := [], laidByText := true, laidKinds := [.data, .pinned], laidTests := true, laidLooks := .later }
def FnHintFindCardSaid : Prop := Claim7.holds Tryd.pinned (.plain (OpenSpec.ofChange fnHintFindSpec)) fnHintFindCard

/-- THE TIED CARD OF 'laws.FnHintLess'. -/
def fnHintLessCard : Claim7 := { stood := { row := fnHintLessRow, standIns := [], harness := (true, "ab86f946710799c1aec6ca186b63aa5edc5955b9923cb5eec9792a0dc4ad962d"), looks := false }, kinds := [], alts := [], laidByText := true, laidKinds := [.data, .pinned], laidTests := true, laidLooks := .later }
def FnHintLessCardSaid : Prop := Claim7.holds Tryd.pinned (.plain (OpenSpec.ofChange fnHintLessSpec)) fnHintLessCard

/-- THE TIED CARD OF 'laws.FnHintAll'. -/
def fnHintAllCard : Claim7 := { stood := { row := fnHintAllRow, standIns := [], harness := (true, "ab86f946710799c1aec6ca186b63aa5edc5955b9923cb5eec9792a0dc4ad962d"), looks := false }, kinds := [], alts := [], laidByText := true, laidKinds := [.data, .pinned], laidTests := true, laidLooks := .later }
def FnHintAllCardSaid : Prop := Claim7.holds Tryd.pinned (.plain (OpenSpec.ofChange fnHintAllSpec)) fnHintAllCard

/-- THE TIED CARD OF 'laws.FnExactHintsOk'. -/
def fnExactHintsOkCard : Claim7 := { stood := { row := fnExactHintsOkRow, standIns := [], harness := (true, "ab86f946710799c1aec6ca186b63aa5edc5955b9923cb5eec9792a0dc4ad962d"), looks := false }, kinds := [], alts := [], laidByText := true, laidKinds := [.data, .pinned], laidTests := true, laidLooks := .later }
def FnExactHintsOkCardSaid : Prop := Claim7.holds Tryd.pinned (.plain (OpenSpec.ofChange fnExactHintsOkSpec)) fnExactHintsOkCard

/-- THE SECOND FORM's CARD OF 'laws.FnHintAdd'. -/
def fnHintAddUptoCard : Claim7 := { stood := { row := fnHintAddUptoRow, standIns := [], harness := (true, "ab86f946710799c1aec6ca186b63aa5edc5955b9923cb5eec9792a0dc4ad962d"), looks := false }, kinds := [], alts := [], laidByText := true, laidKinds := [.data, .pinned], laidTests := true, laidLooks := .later }
def FnHintAddUptoCardSaid : Prop := Claim7.holds Tryd.pinned (.plain (OpenSpec.upto fnHintAddSpec)) fnHintAddUptoCard

/-- THE SECOND FORM's CARD OF 'laws.FnHintTwice'. -/
def fnHintTwiceUptoCard : Claim7 := { stood := { row := fnHintTwiceUptoRow, standIns := [], harness := (true, "ab86f946710799c1aec6ca186b63aa5edc5955b9923cb5eec9792a0dc4ad962d"), looks := false }, kinds := [], alts := [], laidByText := true, laidKinds := [.data, .pinned], laidTests := true, laidLooks := .later }
def FnHintTwiceUptoCardSaid : Prop := Claim7.holds Tryd.pinned (.plain (OpenSpec.upto fnHintTwiceSpec)) fnHintTwiceUptoCard

/-- THE SECOND FORM's CARD OF 'laws.FnExactHintFind'. -/
def fnExactHintFindUptoCard : Claim7 := { stood := { row := fnExactHintFindUptoRow, standIns := [], harness := (true, "ab86f946710799c1aec6ca186b63aa5edc5955b9923cb5eec9792a0dc4ad962d"), looks := false }, kinds := [], alts := [], laidByText := true, laidKinds := [.data, .pinned], laidTests := true, laidLooks := .later }
def FnExactHintFindUptoCardSaid : Prop := Claim7.holds Tryd.pinned (.plain (OpenSpec.upto fnExactHintFindSpec)) fnExactHintFindUptoCard

/-- THE SECOND FORM's CARD OF 'laws.FnExactHintAdd'. -/
def fnExactHintAddUptoCard : Claim7 := { stood := { row := fnExactHintAddUptoRow, standIns := [], harness := (true, "ab86f946710799c1aec6ca186b63aa5edc5955b9923cb5eec9792a0dc4ad962d"), looks := false }, kinds := [], alts := [], laidByText := true, laidKinds := [.data, .pinned], laidTests := true, laidLooks := .later }
def FnExactHintAddUptoCardSaid : Prop := Claim7.holds Tryd.pinned (.plain (OpenSpec.upto fnExactHintAddSpec)) fnExactHintAddUptoCard

/-- THE SECOND FORM's CARD OF 'laws.FnHintFind'. -/
def fnHintFindUptoCard : Claim7 := { stood := { row := fnHintFindUptoRow, standIns := [], harness := (true, "ab86f946710799c1aec6ca186b63aa5edc5955b9923cb5eec9792a0dc4ad962d"), looks := false }, kinds := [], alts := [], laidByText := true, laidKinds := [.data, .pinned], laidTests := true, laidLooks := .later }
def FnHintFindUptoCardSaid : Prop := Claim7.holds Tryd.pinned (.plain (OpenSpec.upto fnHintFindSpec)) fnHintFindUptoCard

/-- THE SECOND FORM's CARD OF 'laws.FnHintLess'. -/
def fnHintLessUptoCard : Claim7 := { stood := { row := fnHintLessUptoRow, standIns := [], harness := (true, "ab86f946710799c1aec6ca186b63aa5edc5955b9923cb5eec9792a0dc4ad962d"), looks := false }, kinds := [], alts := [], laidByText := true, laidKinds := [.data, .pinned], laidTests := true, laidLooks := .later }
def FnHintLessUptoCardSaid : Prop := Claim7.holds Tryd.pinned (.plain (OpenSpec.upto fnHintLessSpec)) fnHintLessUptoCard

/-- THE SECOND FORM's CARD OF 'laws.FnHintAll'. -/
def fnHintAllUptoCard : Claim7 := { stood := { row := fnHintAllUptoRow, standIns := [], harness := (true, "ab86f946710799c1aec6ca186b63aa5edc5955b9923cb5eec9792a0dc4ad962d"), looks := false }, kinds := [], alts := [], laidByText := true, laidKinds := [.data, .pinned], laidTests := true, laidLooks := .later }
def FnHintAllUptoCardSaid : Prop := Claim7.holds Tryd.pinned (.plain (OpenSpec.upto fnHintAllSpec)) fnHintAllUptoCard

/-- THE SECOND FORM's CARD OF 'laws.FnExactHintsOk'. -/
def fnExactHintsOkUptoCard : Claim7 := { stood := { row := fnExactHintsOkUptoRow, standIns := [], harness := (true, "ab86f946710799c1aec6ca186b63aa5edc5955b9923cb5eec9792a0dc4ad962d"), looks := false }, kinds := [], alts := [], laidByText := true, laidKinds := [.data, .pinned], laidTests := true, laidLooks := .later }
def FnExactHintsOkUptoCardSaid : Prop := Claim7.holds Tryd.pinned (.plain (OpenSpec.upto fnExactHintsOkSpec)) fnExactHintsOkUptoCard
end Rows
end Go.Proofs.YtapdjooadgdbaaaDoor
