/-
  DERIVED. GIVEN WITH THE SEED: THE CARDS: each row of YtjpmjigganoioaaGreatDoorRows.lean that lists a variable, with what it lists TIED to the program's text (the seventh form; the later family's looks); each row that meets fmt, with fmt's text TOLD by the authors' own Lean function (tested against real Go, not proved from fmt's source: count such statements apart). THE CARD IS WHAT COUNTS. Prove the row's statement (the work); the ties are given (YtjpmjigganoioaaGreatDoorTie.lean); close each card by the builder's one call (the guide's Derived/Test/ToyasCard.lean, 'card_holds'). Laid BY PROGRAM, IN A SANDBOX (cutbox-door.mjs). By AI agents, Wed Nov 11 2026. No macro, syntax, notation, axiom, sorry.
-/
import Derived.Test.YtjpmjigganoioaaGreatDoorRows
import GoSem.ClaimSeven
namespace Go.Proofs.YtjpmjigganoioaaGreatDoor
namespace Rows

/-- THE TIED CARD OF 'laws.FnStatParts'. -/
def fnStatPartsCard : Claim7 := { stood := { row := fnStatPartsRow, standIns := [], harness := (true, "4a782c2f368950d817e1e268c9b08613cd0363d6349d25addf8c7321d90e9e69"), looks := true }, kinds := [], alts := [], laidByText := true, laidKinds := [.data, .data, .data, .data, .sentinel, .sentinel, .widerDeep, .pinned], laidTests := true, laidLooks := .later }
def FnStatPartsCardSaid : Prop := Claim7.holds Tryz.pinned (.plain (OpenSpec.ofChange fnStatPartsSpec)) fnStatPartsCard

/-- THE TIED CARD OF 'laws.FnBinsOne'. -/
def fnBinsOneCard : Claim7 := { stood := { row := fnBinsOneRow, standIns := [], harness := (true, "4a782c2f368950d817e1e268c9b08613cd0363d6349d25addf8c7321d90e9e69"), looks := true }, kinds := [], alts := [], laidByText := true, laidKinds := [.data, .data, .data, .data, .sentinel, .sentinel, .widerDeep, .pinned], laidTests := true, laidLooks := .later }
def FnBinsOneCardSaid : Prop := Claim7.holds Tryz.pinned (.plain (OpenSpec.ofChange fnBinsOneSpec)) fnBinsOneCard

/-- THE TIED CARD OF 'laws.FnStat'. -/
def fnStatCard : Claim7 := { stood := { row := fnStatRow, standIns := [], harness := (true, "4a782c2f368950d817e1e268c9b08613cd0363d6349d25addf8c7321d90e9e69"), looks := true }, kinds := [], alts := [], laidByText := true, laidKinds := [.data, .data, .data, .data, .sentinel, .sentinel, .widerDeep, .pinned], laidTests := true, laidLooks := .later }
def FnStatCardSaid : Prop := Claim7.holds Tryz.pinned (.plain (OpenSpec.ofChange fnStatSpec)) fnStatCard

/-- THE TIED CARD OF 'laws.FnBins'. -/
def fnBinsCard : Claim7 := { stood := { row := fnBinsRow, standIns := [], harness := (true, "4a782c2f368950d817e1e268c9b08613cd0363d6349d25addf8c7321d90e9e69"), looks := true }, kinds := [], alts := [], laidByText := true, laidKinds := [.data, .data, .data, .data, .sentinel, .sentinel, .widerDeep, .pinned], laidTests := true, laidLooks := .later }
def FnBinsCardSaid : Prop := Claim7.holds Tryz.pinned (.plain (OpenSpec.ofChange fnBinsSpec)) fnBinsCard

/-- THE TIED CARD OF 'laws.FnExactStatOf'. -/
def fnExactStatOfCard : Claim7 := { stood := { row := fnExactStatOfRow, standIns := [], harness := (true, "4a782c2f368950d817e1e268c9b08613cd0363d6349d25addf8c7321d90e9e69"), looks := true }, kinds := [], alts := [], laidByText := true, laidKinds := [.data, .data, .data, .data, .sentinel, .sentinel, .widerDeep, .pinned], laidTests := true, laidLooks := .later }
def FnExactStatOfCardSaid : Prop := Claim7.holds Tryz.pinned (.plain (OpenSpec.ofChange fnExactStatOfSpec)) fnExactStatOfCard

/-- THE TIED CARD OF 'laws.FnExactBins'. -/
def fnExactBinsCard : Claim7 := { stood := { row := fnExactBinsRow, standIns := [], harness := (true, "4a782c2f368950d817e1e268c9b08613cd0363d6349d25addf8c7321d90e9e69"), looks := true }, kinds := [], alts := [], laidByText := true, laidKinds := [.data, .data, .data, .data, .sentinel, .sentinel, .widerDeep, .pinned], laidTests := true, laidLooks := .later }
def FnExactBinsCardSaid : Prop := Claim7.holds Tryz.pinned (.plain (OpenSpec.ofChange fnExactBinsSpec)) fnExactBinsCard

/-- THE TIED CARD OF 'laws.FnGroupsSum'. -/
def fnGroupsSumCard : Claim7 := { stood := { row := fnGroupsSumRow, standIns := [], harness := (true, "4a782c2f368950d817e1e268c9b08613cd0363d6349d25addf8c7321d90e9e69"), looks := true }, kinds := [], alts := [], laidByText := true, laidKinds := [.data, .data, .data, .data, .sentinel, .sentinel, .widerDeep, .pinned], laidTests := true, laidLooks := .later }
def FnGroupsSumCardSaid : Prop := Claim7.holds Tryz.pinned (.plain (OpenSpec.ofChange fnGroupsSumSpec)) fnGroupsSumCard

/-- THE TIED CARD OF 'laws.FnGroups'. -/
def fnGroupsCard : Claim7 := { stood := { row := fnGroupsRow, standIns := [], harness := (true, "4a782c2f368950d817e1e268c9b08613cd0363d6349d25addf8c7321d90e9e69"), looks := true }, kinds := [], alts := [], laidByText := true, laidKinds := [.data, .data, .data, .data, .sentinel, .sentinel, .widerDeep, .pinned], laidTests := true, laidLooks := .later }
def FnGroupsCardSaid : Prop := Claim7.holds Tryz.pinned (.plain (OpenSpec.ofChange fnGroupsSpec)) fnGroupsCard

/-- THE TIED CARD OF 'laws.FnExactGroups'. -/
def fnExactGroupsCard : Claim7 := { stood := { row := fnExactGroupsRow, standIns := [], harness := (true, "4a782c2f368950d817e1e268c9b08613cd0363d6349d25addf8c7321d90e9e69"), looks := true }, kinds := [], alts := [], laidByText := true, laidKinds := [.data, .data, .data, .data, .sentinel, .sentinel, .widerDeep, .pinned], laidTests := true, laidLooks := .later }
def FnExactGroupsCardSaid : Prop := Claim7.holds Tryz.pinned (.plain (OpenSpec.ofChange fnExactGroupsSpec)) fnExactGroupsCard

/-- THE SECOND FORM's CARD OF 'laws.FnStatParts'. -/
def fnStatPartsUptoCard : Claim7 := { stood := { row := fnStatPartsUptoRow, standIns := [], harness := (true, "4a782c2f368950d817e1e268c9b08613cd0363d6349d25addf8c7321d90e9e69"), looks := true }, kinds := [], alts := [], laidByText := true, laidKinds := [.data, .data, .data, .data, .sentinel, .sentinel, .widerDeep, .pinned], laidTests := true, laidLooks := .later }
def FnStatPartsUptoCardSaid : Prop := Claim7.holds Tryz.pinned (.plain (OpenSpec.upto fnStatPartsSpec)) fnStatPartsUptoCard

/-- THE SECOND FORM's CARD OF 'laws.FnBinsOne'. -/
def fnBinsOneUptoCard : Claim7 := { stood := { row := fnBinsOneUptoRow, standIns := [], harness := (true, "4a782c2f368950d817e1e268c9b08613cd0363d6349d25addf8c7321d90e9e69"), looks := true }, kinds := [], alts := [], laidByText := true, laidKinds := [.data, .data, .data, .data, .sentinel, .sentinel, .widerDeep, .pinned], laidTests := true, laidLooks := .later }
def FnBinsOneUptoCardSaid : Prop := Claim7.holds Tryz.pinned (.plain (OpenSpec.upto fnBinsOneSpec)) fnBinsOneUptoCard

/-- THE SECOND FORM's CARD OF 'laws.FnStat'. -/
def fnStatUptoCard : Claim7 := { stood := { row := fnStatUptoRow, standIns := [], harness := (true, "4a782c2f368950d817e1e268c9b08613cd0363d6349d25addf8c7321d90e9e69"), looks := true }, kinds := [], alts := [], laidByText := true, laidKinds := [.data, .data, .data, .data, .sentinel, .sentinel, .widerDeep, .pinned], laidTests := true, laidLooks := .later }
def FnStatUptoCardSaid : Prop := Claim7.holds Tryz.pinned (.plain (OpenSpec.upto fnStatSpec)) fnStatUptoCard

/-- THE SECOND FORM's CARD OF 'laws.FnBins'. -/
def fnBinsUptoCard : Claim7 := { stood := { row := fnBinsUptoRow, standIns := [], harness := (true, "4a782c2f368950d817e1e268c9b08613cd0363d6349d25addf8c7321d90e9e69"), looks := true }, kinds := [], alts := [], laidByText := true, laidKinds := [.data, .data, .data, .data, .sentinel, .sentinel, .widerDeep, .pinned], laidTests := true, laidLooks := .later }
def FnBinsUptoCardSaid : Prop := Claim7.holds Tryz.pinned (.plain (OpenSpec.upto fnBinsSpec)) fnBinsUptoCard

/-- THE SECOND FORM's CARD OF 'laws.FnExactStatOf'. -/
def fnExactStatOfUptoCard : Claim7 := { stood := { row := fnExactStatOfUptoRow, standIns := [], harness := (true, "4a782c2f368950d817e1e268c9b08613cd0363d6349d25addf8c7321d90e9e69"), looks := true }, kinds := [], alts := [], laidByText := true, laidKinds := [.data, .data, .data, .data, .sentinel, .sentinel, .widerDeep, .pinned], laidTests := true, laidLooks := .later }
def FnExactStatOfUptoCardSaid : Prop := Claim7.holds Tryz.pinned (.plain (OpenSpec.upto fnExactStatOfSpec)) fnExactStatOfUptoCard

/-- THE SECOND FORM's CARD OF 'laws.FnExactBins'. -/
def fnExactBinsUptoCard : Claim7 := { stood := { row := fnExactBinsUptoRow, standIns := [], harness := (true, "4a782c2f368950d817e1e268c9b08613cd0363d6349d25addf8c7321d90e9e69"), looks := true }, kinds := [], alts := [], laidByText := true, laidKinds := [.data, .data, .data, .data, .sentinel, .sentinel, .widerDeep, .pinned], laidTests := true, laidLooks := .later }
def FnExactBinsUptoCardSaid : Prop := Claim7.holds Tryz.pinned (.plain (OpenSpec.upto fnExactBinsSpec)) fnExactBinsUptoCard

/-- THE SECOND FORM's CARD OF 'laws.FnGroupsSum'. -/
def fnGroupsSumUptoCard : Claim7 := { stood := { row := fnGroupsSumUptoRow, standIns := [], harness := (true, "4a782c2f368950d817e1e268c9b08613cd0363d6349d25addf8c7321d90e9e69"), looks := true }, kinds := [], alts := [], laidByText := true, laidKinds := [.data, .data, .data, .data, .sentinel, .sentinel, .widerDeep, .pinned], laidTests := true, laidLooks := .later }
def FnGroupsSumUptoCardSaid : Prop := Claim7.holds Tryz.pinned (.plain (OpenSpec.upto fnGroupsSumSpec)) fnGroupsSumUptoCard

/-- THE SECOND FORM's CARD OF 'laws.FnGroups'. -/
def fnGroupsUptoCard : Claim7 := { stood := { row := fnGroupsUptoRow, standIns := [], harness := (true, "4a782c2f368950d817e1e268c9b08613cd0363d6349d25addf8c7321d90e9e69"), looks := true }, kinds := [], alts := [], laidByText := true, laidKinds := [.data, .data, .data, .data, .sentinel, .sentinel, .widerDeep, .pinned], laidTests := true, laidLooks := .later }
def FnGroupsUptoCardSaid : Prop := Claim7.holds Tryz.pinned (.plain (OpenSpec.upto fnGroupsSpec)) fnGroupsUptoCard

/-- THE SECOND FORM's CARD OF 'laws.FnExactGroups'. -/
def fnExactGroupsUptoCard : Claim7 := { stood := { row := fnExactGroupsUptoRow, standIns := [], harness := (true, "4a782c2f368950d817e1e268c9b08613cd0363d6349d25addf8c7321d90e9e69"), looks := true }, kinds := [], alts := [], laidByText := true, laidKinds := [.data, .data, .data, .data, .sentinel, .sentinel, .widerDeep, .pinned], laidTests := true, laidLooks := .later }
def FnExactGroupsUptoCardSaid : Prop := Claim7.holds Tryz.pinned (.plain (OpenSpec.upto fnExactGroupsSpec)) fnExactGroupsUptoCard
end Rows
end Go.Proofs.YtjpmjigganoioaaGreatDoor
