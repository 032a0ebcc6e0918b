/-
  DERIVED. GIVEN WITH THE SEED: THE CARDS: each row of YtjhemobplcelbaaGreatDoorRows.lean that lists a variable, with what it lists TIED to the program's text (the seventh form; the later family's looks); each row that meets fmt, with fmt's text TOLD by the authors' own Lean function (tested against real Go, not proved from fmt's source: count such statements apart). THE CARD IS WHAT COUNTS. Prove the row's statement (the work); the ties are given (YtjhemobplcelbaaGreatDoorTie.lean); close each card by the builder's one call (the guide's Derived/Test/ToyasCard.lean, 'card_holds'). Laid BY PROGRAM, IN A SANDBOX (cutbox-door.mjs). By AI agents, Wed Nov 11 2026. No macro, syntax, notation, axiom, sorry.
-/
import Derived.Test.YtjhemobplcelbaaGreatDoorRows
import GoSem.ClaimSeven
namespace Go.Proofs.YtjhemobplcelbaaGreatDoor
namespace Rows

/-- THE TIED CARD OF 'donatuslaw13.TreeAll'. -/
def treeAllCard : Claim7 := { stood := { row := treeAllRow, standIns := [], harness := (true, "657ce7d9919aaaaa65a8723105a505cf6aab366bd1187bd007c2ab8e97da077c"), looks := true }, kinds := [], alts := [], laidByText := true, laidKinds := [.data, .data, .data, .sentinel, .sentinel], laidTests := true, laidLooks := .later }
def TreeAllCardSaid : Prop := Claim7.holds Tryz.pinned (.plain (OpenSpec.ofChange treeAllSpec)) treeAllCard

/-- THE TIED CARD OF 'donatuslaw13.TreeGrown'. -/
def treeGrownCard : Claim7 := { stood := { row := treeGrownRow, standIns := [], harness := (true, "657ce7d9919aaaaa65a8723105a505cf6aab366bd1187bd007c2ab8e97da077c"), looks := true }, kinds := [], alts := [], laidByText := true, laidKinds := [.data, .data, .data, .sentinel, .sentinel], laidTests := true, laidLooks := .later }
def TreeGrownCardSaid : Prop := Claim7.holds Tryz.pinned (.plain (OpenSpec.ofChange treeGrownSpec)) treeGrownCard

/-- THE TIED CARD OF 'donatuslaw13.TreeDeep'. -/
def treeDeepCard : Claim7 := { stood := { row := treeDeepRow, standIns := [], harness := (true, "657ce7d9919aaaaa65a8723105a505cf6aab366bd1187bd007c2ab8e97da077c"), looks := true }, kinds := [], alts := [], laidByText := true, laidKinds := [.data, .data, .data, .sentinel, .sentinel], laidTests := true, laidLooks := .later }
def TreeDeepCardSaid : Prop := Claim7.holds Tryz.pinned (.plain (OpenSpec.ofChange treeDeepSpec)) treeDeepCard

/-- THE TIED CARD OF 'donatuslaw13.TreeNone'. -/
def treeNoneCard : Claim7 := { stood := { row := treeNoneRow, standIns := [], harness := (true, "657ce7d9919aaaaa65a8723105a505cf6aab366bd1187bd007c2ab8e97da077c"), looks := true }, kinds := [], alts := [], laidByText := true, laidKinds := [.data, .data, .data, .sentinel, .sentinel], laidTests := true, laidLooks := .later }
def TreeNoneCardSaid : Prop := Claim7.holds Tryz.pinned (.plain (OpenSpec.ofChange treeNoneSpec)) treeNoneCard

/-- THE TIED CARD OF 'donatuslaw13.TreeEq'. -/
def treeEqCard : Claim7 := { stood := { row := treeEqRow, standIns := [], harness := (true, "657ce7d9919aaaaa65a8723105a505cf6aab366bd1187bd007c2ab8e97da077c"), looks := true }, kinds := [], alts := [], laidByText := true, laidKinds := [.data, .data, .data, .sentinel, .sentinel], laidTests := true, laidLooks := .later }
def TreeEqCardSaid : Prop := Claim7.holds Tryz.pinned (.plain (OpenSpec.ofChange treeEqSpec)) treeEqCard

/-- THE TIED CARD OF 'donatuslaw13.TreeMade'. -/
def treeMadeCard : Claim7 := { stood := { row := treeMadeRow, standIns := [], harness := (true, "657ce7d9919aaaaa65a8723105a505cf6aab366bd1187bd007c2ab8e97da077c"), looks := true }, kinds := [], alts := [], laidByText := true, laidKinds := [.data, .data, .data, .sentinel, .sentinel], laidTests := true, laidLooks := .later }
def TreeMadeCardSaid : Prop := Claim7.holds Tryz.pinned (.plain (OpenSpec.ofChange treeMadeSpec)) treeMadeCard

/-- THE TIED CARD OF 'donatuslaw7.WellSets'. -/
def wellSetsCard : Claim7 := { stood := { row := wellSetsRow, standIns := [], harness := (true, "657ce7d9919aaaaa65a8723105a505cf6aab366bd1187bd007c2ab8e97da077c"), looks := true }, kinds := [], alts := [], laidByText := true, laidKinds := [.data, .data, .data, .sentinel, .sentinel], laidTests := true, laidLooks := .later }
def WellSetsCardSaid : Prop := Claim7.holds Tryz.pinned (.plain (OpenSpec.ofChange wellSetsSpec)) wellSetsCard

/-- THE TIED CARD OF 'donatuslaw7.WellRules'. -/
def wellRulesCard : Claim7 := { stood := { row := wellRulesRow, standIns := [], harness := (true, "657ce7d9919aaaaa65a8723105a505cf6aab366bd1187bd007c2ab8e97da077c"), looks := true }, kinds := [], alts := [], laidByText := true, laidKinds := [.data, .data, .data, .sentinel, .sentinel], laidTests := true, laidLooks := .later }
def WellRulesCardSaid : Prop := Claim7.holds Tryz.pinned (.plain (OpenSpec.ofChange wellRulesSpec)) wellRulesCard

/-- THE TIED CARD OF 'donatuslaw7.WellLimits'. -/
def wellLimitsCard : Claim7 := { stood := { row := wellLimitsRow, standIns := [], harness := (true, "657ce7d9919aaaaa65a8723105a505cf6aab366bd1187bd007c2ab8e97da077c"), looks := true }, kinds := [], alts := [], laidByText := true, laidKinds := [.data, .data, .data, .sentinel, .sentinel], laidTests := true, laidLooks := .later }
def WellLimitsCardSaid : Prop := Claim7.holds Tryz.pinned (.plain (OpenSpec.ofChange wellLimitsSpec)) wellLimitsCard

/-- THE TIED CARD OF 'donatuslaw7.WellNames'. -/
def wellNamesCard : Claim7 := { stood := { row := wellNamesRow, standIns := [], harness := (true, "657ce7d9919aaaaa65a8723105a505cf6aab366bd1187bd007c2ab8e97da077c"), looks := true }, kinds := [], alts := [], laidByText := true, laidKinds := [.data, .data, .data, .sentinel, .sentinel], laidTests := true, laidLooks := .later }
def WellNamesCardSaid : Prop := Claim7.holds Tryz.pinned (.plain (OpenSpec.ofChange wellNamesSpec)) wellNamesCard

/-- THE SECOND FORM's CARD OF 'donatuslaw13.TreeAll'. -/
def treeAllUptoCard : Claim7 := { stood := { row := treeAllUptoRow, standIns := [], harness := (true, "657ce7d9919aaaaa65a8723105a505cf6aab366bd1187bd007c2ab8e97da077c"), looks := true }, kinds := [], alts := [], laidByText := true, laidKinds := [.data, .data, .data, .sentinel, .sentinel], laidTests := true, laidLooks := .later }
def TreeAllUptoCardSaid : Prop := Claim7.holds Tryz.pinned (.plain (OpenSpec.upto treeAllSpec)) treeAllUptoCard

/-- THE SECOND FORM's CARD OF 'donatuslaw13.TreeGrown'. -/
def treeGrownUptoCard : Claim7 := { stood := { row := treeGrownUptoRow, standIns := [], harness := (true, "657ce7d9919aaaaa65a8723105a505cf6aab366bd1187bd007c2ab8e97da077c"), looks := true }, kinds := [], alts := [], laidByText := true, laidKinds := [.data, .data, .data, .sentinel, .sentinel], laidTests := true, laidLooks := .later }
def TreeGrownUptoCardSaid : Prop := Claim7.holds Tryz.pinned (.plain (OpenSpec.upto treeGrownSpec)) treeGrownUptoCard

/-- THE SECOND FORM's CARD OF 'donatuslaw13.TreeDeep'. -/
def treeDeepUptoCard : Claim7 := { stood := { row := treeDeepUptoRow, standIns := [], harness := (true, "657ce7d9919aaaaa65a8723105a505cf6aab366bd1187bd007c2ab8e97da077c"), looks := true }, kinds := [], alts := [], laidByText := true, laidKinds := [.data, .data, .data, .sentinel, .sentinel], laidTests := true, laidLooks := .later }
def TreeDeepUptoCardSaid : Prop := Claim7.holds Tryz.pinned (.plain (OpenSpec.upto treeDeepSpec)) treeDeepUptoCard

/-- THE SECOND FORM's CARD OF 'donatuslaw13.TreeNone'. -/
def treeNoneUptoCard : Claim7 := { stood := { row := treeNoneUptoRow, standIns := [], harness := (true, "657ce7d9919aaaaa65a8723105a505cf6aab366bd1187bd007c2ab8e97da077c"), looks := true }, kinds := [], alts := [], laidByText := true, laidKinds := [.data, .data, .data, .sentinel, .sentinel], laidTests := true, laidLooks := .later }
def TreeNoneUptoCardSaid : Prop := Claim7.holds Tryz.pinned (.plain (OpenSpec.upto treeNoneSpec)) treeNoneUptoCard

/-- THE SECOND FORM's CARD OF 'donatuslaw13.TreeEq'. -/
def treeEqUptoCard : Claim7 := { stood := { row := treeEqUptoRow, standIns := [], harness := (true, "657ce7d9919aaaaa65a8723105a505cf6aab366bd1187bd007c2ab8e97da077c"), looks := true }, kinds := [], alts := [], laidByText := true, laidKinds := [.data, .data, .data, .sentinel, .sentinel], laidTests := true, laidLooks := .later }
def TreeEqUptoCardSaid : Prop := Claim7.holds Tryz.pinned (.plain (OpenSpec.upto treeEqSpec)) treeEqUptoCard

/-- THE SECOND FORM's CARD OF 'donatuslaw13.TreeMade'. -/
def treeMadeUptoCard : Claim7 := { stood := { row := treeMadeUptoRow, standIns := [], harness := (true, "657ce7d9919aaaaa65a8723105a505cf6aab366bd1187bd007c2ab8e97da077c"), looks := true }, kinds := [], alts := [], laidByText := true, laidKinds := [.data, .data, .data, .sentinel, .sentinel], laidTests := true, laidLooks := .later }
def TreeMadeUptoCardSaid : Prop := Claim7.holds Tryz.pinned (.plain (OpenSpec.upto treeMadeSpec)) treeMadeUptoCard

/-- THE SECOND FORM's CARD OF 'donatuslaw7.WellSets'. -/
def wellSetsUptoCard : Claim7 := { stood := { row := wellSetsUptoRow, standIns := [], harness := (true, "657ce7d9919aaaaa65a8723105a505cf6aab366bd1187bd007c2ab8e97da077c"), looks := true }, kinds := [], alts := [], laidByText := true, laidKinds := [.data, .data, .data, .sentinel, .sentinel], laidTests := true, laidLooks := .later }
def WellSetsUptoCardSaid : Prop := Claim7.holds Tryz.pinned (.plain (OpenSpec.upto wellSetsSpec)) wellSetsUptoCard

/-- THE SECOND FORM's CARD OF 'donatuslaw7.WellRules'. -/
def wellRulesUptoCard : Claim7 := { stood := { row := wellRulesUptoRow, standIns := [], harness := (true, "657ce7d9919aaaaa65a8723105a505cf6aab366bd1187bd007c2ab8e97da077c"), looks := true }, kinds := [], alts := [], laidByText := true, laidKinds := [.data, .data, .data, .sentinel, .sentinel], laidTests := true, laidLooks := .later }
def WellRulesUptoCardSaid : Prop := Claim7.holds Tryz.pinned (.plain (OpenSpec.upto wellRulesSpec)) wellRulesUptoCard

/-- THE SECOND FORM's CARD OF 'donatuslaw7.WellLimits'. -/
def wellLimitsUptoCard : Claim7 := { stood := { row := wellLimitsUptoRow, standIns := [], harness := (true, "657ce7d9919aaaaa65a8723105a505cf6aab366bd1187bd007c2ab8e97da077c"), looks := true }, kinds := [], alts := [], laidByText := true, laidKinds := [.data, .data, .data, .sentinel, .sentinel], laidTests := true, laidLooks := .later }
def WellLimitsUptoCardSaid : Prop := Claim7.holds Tryz.pinned (.plain (OpenSpec.upto wellLimitsSpec)) wellLimitsUptoCard

/-- THE SECOND FORM's CARD OF 'donatuslaw7.WellNames'. -/
def wellNamesUptoCard : Claim7 := { stood := { row := wellNamesUptoRow, standIns := [], harness := (true, "657ce7d9919aaaaa65a8723105a505cf6aab366bd1187bd007c2ab8e97da077c"), looks := true }, kinds := [], alts := [], laidByText := true, laidKinds := [.data, .data, .data, .sentinel, .sentinel], laidTests := true, laidLooks := .later }
def WellNamesUptoCardSaid : Prop := Claim7.holds Tryz.pinned (.plain (OpenSpec.upto wellNamesSpec)) wellNamesUptoCard
end Rows
end Go.Proofs.YtjhemobplcelbaaGreatDoor
