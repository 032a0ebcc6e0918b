/-
  DERIVED. GIVEN WITH THE SEED: THE CARDS: each row of YtinaojhbeoddcaaGreatDoorRows.lean that lists a variable, with what it lists TIED to the program's text (the seventh form; the later family's looks); each row that meets fmt, with fmt's text TOLD by the authors' own Lean function (tested against real Go, not proved from fmt's source: count such statements apart). THE CARD IS WHAT COUNTS. Prove the row's statement (the work); the ties are given (YtinaojhbeoddcaaGreatDoorTie.lean); close each card by the builder's one call (the guide's Derived/Test/ToyasCard.lean, 'card_holds'). Laid BY PROGRAM, IN A SANDBOX (cutbox-door.mjs). By AI agents, Wed Nov 11 2026. No macro, syntax, notation, axiom, sorry.
-/
import Derived.Test.YtinaojhbeoddcaaGreatDoorRows
import GoSem.ClaimSeven
namespace Go.Proofs.YtinaojhbeoddcaaGreatDoor
namespace Rows

/-- THE TIED CARD OF 'donatuslaw6.ReadAll'. -/
def readAllCard : Claim7 := { stood := { row := readAllRow, standIns := [], harness := (true, "00ab56389890d99e3524435e698a33d6137bc260d79bfd619fd0b1e9401e708e"), looks := true }, kinds := [], alts := [], laidByText := true, laidKinds := [.data, .data, .data, .sentinel, .sentinel], laidTests := true, laidLooks := .later }
def ReadAllCardSaid : Prop := Claim7.holds Tryz.pinned (.plain (OpenSpec.ofChange readAllSpec)) readAllCard

/-- THE TIED CARD OF 'donatuslaw6.ReadWords'. -/
def readWordsCard : Claim7 := { stood := { row := readWordsRow, standIns := [], harness := (true, "00ab56389890d99e3524435e698a33d6137bc260d79bfd619fd0b1e9401e708e"), looks := true }, kinds := [], alts := [], laidByText := true, laidKinds := [.data, .data, .data, .sentinel, .sentinel], laidTests := true, laidLooks := .later }
def ReadWordsCardSaid : Prop := Claim7.holds Tryz.pinned (.plain (OpenSpec.ofChange readWordsSpec)) readWordsCard

/-- THE TIED CARD OF 'donatuslaw6.ReadParts'. -/
def readPartsCard : Claim7 := { stood := { row := readPartsRow, standIns := [], harness := (true, "00ab56389890d99e3524435e698a33d6137bc260d79bfd619fd0b1e9401e708e"), looks := true }, kinds := [], alts := [], laidByText := true, laidKinds := [.data, .data, .data, .sentinel, .sentinel], laidTests := true, laidLooks := .later }
def ReadPartsCardSaid : Prop := Claim7.holds Tryz.pinned (.plain (OpenSpec.ofChange readPartsSpec)) readPartsCard

/-- THE TIED CARD OF 'donatuslaw6.ReadLong'. -/
def readLongCard : Claim7 := { stood := { row := readLongRow, standIns := [], harness := (true, "00ab56389890d99e3524435e698a33d6137bc260d79bfd619fd0b1e9401e708e"), looks := true }, kinds := [], alts := [], laidByText := true, laidKinds := [.data, .data, .data, .sentinel, .sentinel], laidTests := true, laidLooks := .later }
def ReadLongCardSaid : Prop := Claim7.holds Tryz.pinned (.plain (OpenSpec.ofChange readLongSpec)) readLongCard

/-- THE TIED CARD OF 'donatuslaw6.ReadTokens'. -/
def readTokensCard : Claim7 := { stood := { row := readTokensRow, standIns := [], harness := (true, "00ab56389890d99e3524435e698a33d6137bc260d79bfd619fd0b1e9401e708e"), looks := true }, kinds := [], alts := [], laidByText := true, laidKinds := [.data, .data, .data, .sentinel, .sentinel], laidTests := true, laidLooks := .later }
def ReadTokensCardSaid : Prop := Claim7.holds Tryz.pinned (.plain (OpenSpec.ofChange readTokensSpec)) readTokensCard

/-- THE TIED CARD OF 'donatuslaw6.ReadRules'. -/
def readRulesCard : Claim7 := { stood := { row := readRulesRow, standIns := [], harness := (true, "00ab56389890d99e3524435e698a33d6137bc260d79bfd619fd0b1e9401e708e"), looks := true }, kinds := [], alts := [], laidByText := true, laidKinds := [.data, .data, .data, .sentinel, .sentinel], laidTests := true, laidLooks := .later }
def ReadRulesCardSaid : Prop := Claim7.holds Tryz.pinned (.plain (OpenSpec.ofChange readRulesSpec)) readRulesCard

/-- THE TIED CARD OF 'donatuslaw7.WellSets'. -/
def wellSetsCard : Claim7 := { stood := { row := wellSetsRow, standIns := [], harness := (true, "00ab56389890d99e3524435e698a33d6137bc260d79bfd619fd0b1e9401e708e"), looks := true }, kinds := [], alts := [], laidByText := true, laidKinds := [.data, .data, .data, .sentinel, .sentinel], laidTests := true, laidLooks := .later }
def WellSetsCardSaid : Prop := Claim7.holds Tryz.pinned (.plain (OpenSpec.ofChange wellSetsSpec)) wellSetsCard

/-- THE TIED CARD OF 'donatuslaw7.WellRules'. -/
def wellRulesCard : Claim7 := { stood := { row := wellRulesRow, standIns := [], harness := (true, "00ab56389890d99e3524435e698a33d6137bc260d79bfd619fd0b1e9401e708e"), looks := true }, kinds := [], alts := [], laidByText := true, laidKinds := [.data, .data, .data, .sentinel, .sentinel], laidTests := true, laidLooks := .later }
def WellRulesCardSaid : Prop := Claim7.holds Tryz.pinned (.plain (OpenSpec.ofChange wellRulesSpec)) wellRulesCard

/-- THE TIED CARD OF 'donatuslaw7.WellLimits'. -/
def wellLimitsCard : Claim7 := { stood := { row := wellLimitsRow, standIns := [], harness := (true, "00ab56389890d99e3524435e698a33d6137bc260d79bfd619fd0b1e9401e708e"), looks := true }, kinds := [], alts := [], laidByText := true, laidKinds := [.data, .data, .data, .sentinel, .sentinel], laidTests := true, laidLooks := .later }
def WellLimitsCardSaid : Prop := Claim7.holds Tryz.pinned (.plain (OpenSpec.ofChange wellLimitsSpec)) wellLimitsCard

/-- THE TIED CARD OF 'donatuslaw7.WellNames'. -/
def wellNamesCard : Claim7 := { stood := { row := wellNamesRow, standIns := [], harness := (true, "00ab56389890d99e3524435e698a33d6137bc260d79bfd619fd0b1e9401e708e"), looks := true }, kinds := [], alts := [], laidByText := true, laidKinds := [.data, .data, .data, .sentinel, .sentinel], laidTests := true, laidLooks := .later }
def WellNamesCardSaid : Prop := Claim7.holds Tryz.pinned (.plain (OpenSpec.ofChange wellNamesSpec)) wellNamesCard

/-- THE TIED CARD OF 'donatuslaw13.TreeAll'. -/
def treeAllCard : Claim7 := { stood := { row := treeAllRow, standIns := [], harness := (true, "00ab56389890d99e3524435e698a33d6137bc260d79bfd619fd0b1e9401e708e"), looks := true }, kinds := [], alts := [], laidByText := true, laidKinds := [.data, .data, .data, .sentinel, .sentinel], laidTests := true, laidLooks := .later }
def TreeAllCardSaid : Prop := Claim7.holds Tryz.pinned (.plain (OpenSpec.ofChange treeAllSpec)) treeAllCard

/-- THE TIED CARD OF 'donatuslaw13.TreeGrown'. -/
def treeGrownCard : Claim7 := { stood := { row := treeGrownRow, standIns := [], harness := (true, "00ab56389890d99e3524435e698a33d6137bc260d79bfd619fd0b1e9401e708e"), looks := true }, kinds := [], alts := [], laidByText := true, laidKinds := [.data, .data, .data, .sentinel, .sentinel], laidTests := true, laidLooks := .later }
def TreeGrownCardSaid : Prop := Claim7.holds Tryz.pinned (.plain (OpenSpec.ofChange treeGrownSpec)) treeGrownCard

/-- THE TIED CARD OF 'donatuslaw13.TreeDeep'. -/
def treeDeepCard : Claim7 := { stood := { row := treeDeepRow, standIns := [], harness := (true, "00ab56389890d99e3524435e698a33d6137bc260d79bfd619fd0b1e9401e708e"), looks := true }, kinds := [], alts := [], laidByText := true, laidKinds := [.data, .data, .data, .sentinel, .sentinel], laidTests := true, laidLooks := .later }
def TreeDeepCardSaid : Prop := Claim7.holds Tryz.pinned (.plain (OpenSpec.ofChange treeDeepSpec)) treeDeepCard

/-- THE TIED CARD OF 'donatuslaw13.TreeNone'. -/
def treeNoneCard : Claim7 := { stood := { row := treeNoneRow, standIns := [], harness := (true, "00ab56389890d99e3524435e698a33d6137bc260d79bfd619fd0b1e9401e708e"), looks := true }, kinds := [], alts := [], laidByText := true, laidKinds := [.data, .data, .data, .sentinel, .sentinel], laidTests := true, laidLooks := .later }
def TreeNoneCardSaid : Prop := Claim7.holds Tryz.pinned (.plain (OpenSpec.ofChange treeNoneSpec)) treeNoneCard

/-- THE TIED CARD OF 'donatuslaw13.TreeEq'. -/
def treeEqCard : Claim7 := { stood := { row := treeEqRow, standIns := [], harness := (true, "00ab56389890d99e3524435e698a33d6137bc260d79bfd619fd0b1e9401e708e"), looks := true }, kinds := [], alts := [], laidByText := true, laidKinds := [.data, .data, .data, .sentinel, .sentinel], laidTests := true, laidLooks := .later }
def TreeEqCardSaid : Prop := Claim7.holds Tryz.pinned (.plain (OpenSpec.ofChange treeEqSpec)) treeEqCard

/-- THE TIED CARD OF 'donatuslaw13.TreeMade'. -/
def treeMadeCard : Claim7 := { stood := { row := treeMadeRow, standIns := [], harness := (true, "00ab56389890d99e3524435e698a33d6137bc260d79bfd619fd0b1e9401e708e"), looks := true }, kinds := [], alts := [], laidByText := true, laidKinds := [.data, .data, .data, .sentinel, .sentinel], laidTests := true, laidLooks := .later }
def TreeMadeCardSaid : Prop := Claim7.holds Tryz.pinned (.plain (OpenSpec.ofChange treeMadeSpec)) treeMadeCard

/-- THE TIED CARD OF 'donatuslaw8.FirstAll'. -/
def firstAllCard : Claim7 := { stood := { row := firstAllRow, standIns := [], harness := (true, "00ab56389890d99e3524435e698a33d6137bc260d79bfd619fd0b1e9401e708e"), looks := true }, kinds := [], alts := [], laidByText := true, laidKinds := [.data, .data, .data, .sentinel, .sentinel], laidTests := true, laidLooks := .later }
def FirstAllCardSaid : Prop := Claim7.holds Tryz.pinned (.plain (OpenSpec.ofChange firstAllSpec)) firstAllCard

/-- THE TIED CARD OF 'donatuslaw8.FirstRules'. -/
def firstRulesCard : Claim7 := { stood := { row := firstRulesRow, standIns := [], harness := (true, "00ab56389890d99e3524435e698a33d6137bc260d79bfd619fd0b1e9401e708e"), looks := true }, kinds := [], alts := [], laidByText := true, laidKinds := [.data, .data, .data, .sentinel, .sentinel], laidTests := true, laidLooks := .later }
def FirstRulesCardSaid : Prop := Claim7.holds Tryz.pinned (.plain (OpenSpec.ofChange firstRulesSpec)) firstRulesCard

/-- THE TIED CARD OF 'donatuslaw8.FirstLaws'. -/
def firstLawsCard : Claim7 := { stood := { row := firstLawsRow, standIns := [], harness := (true, "00ab56389890d99e3524435e698a33d6137bc260d79bfd619fd0b1e9401e708e"), looks := true }, kinds := [], alts := [], laidByText := true, laidKinds := [.data, .data, .data, .sentinel, .sentinel], laidTests := true, laidLooks := .later }
def FirstLawsCardSaid : Prop := Claim7.holds Tryz.pinned (.plain (OpenSpec.ofChange firstLawsSpec)) firstLawsCard

/-- THE TIED CARD OF 'donatuslaw8.FirstNone'. -/
def firstNoneCard : Claim7 := { stood := { row := firstNoneRow, standIns := [], harness := (true, "00ab56389890d99e3524435e698a33d6137bc260d79bfd619fd0b1e9401e708e"), looks := true }, kinds := [], alts := [], laidByText := true, laidKinds := [.data, .data, .data, .sentinel, .sentinel], laidTests := true, laidLooks := .later }
def FirstNoneCardSaid : Prop := Claim7.holds Tryz.pinned (.plain (OpenSpec.ofChange firstNoneSpec)) firstNoneCard

/-- THE TIED CARD OF 'donatuslaw8.FirstChains'. -/
def firstChainsCard : Claim7 := { stood := { row := firstChainsRow, standIns := [], harness := (true, "00ab56389890d99e3524435e698a33d6137bc260d79bfd619fd0b1e9401e708e"), looks := true }, kinds := [], alts := [], laidByText := true, laidKinds := [.data, .data, .data, .sentinel, .sentinel], laidTests := true, laidLooks := .later }
def FirstChainsCardSaid : Prop := Claim7.holds Tryz.pinned (.plain (OpenSpec.ofChange firstChainsSpec)) firstChainsCard

/-- THE TIED CARD OF 'donatuslaw8.FirstAny'. -/
def firstAnyCard : Claim7 := { stood := { row := firstAnyRow, standIns := [], harness := (true, "00ab56389890d99e3524435e698a33d6137bc260d79bfd619fd0b1e9401e708e"), looks := true }, kinds := [], alts := [], laidByText := true, laidKinds := [.data, .data, .data, .sentinel, .sentinel], laidTests := true, laidLooks := .later }
def FirstAnyCardSaid : Prop := Claim7.holds Tryz.pinned (.plain (OpenSpec.ofChange firstAnySpec)) firstAnyCard

/-- THE SECOND FORM's CARD OF 'donatuslaw6.ReadAll'. -/
def readAllUptoCard : Claim7 := { stood := { row := readAllUptoRow, standIns := [], harness := (true, "00ab56389890d99e3524435e698a33d6137bc260d79bfd619fd0b1e9401e708e"), looks := true }, kinds := [], alts := [], laidByText := true, laidKinds := [.data, .data, .data, .sentinel, .sentinel], laidTests := true, laidLooks := .later }
def ReadAllUptoCardSaid : Prop := Claim7.holds Tryz.pinned (.plain (OpenSpec.upto readAllSpec)) readAllUptoCard

/-- THE SECOND FORM's CARD OF 'donatuslaw6.ReadWords'. -/
def readWordsUptoCard : Claim7 := { stood := { row := readWordsUptoRow, standIns := [], harness := (true, "00ab56389890d99e3524435e698a33d6137bc260d79bfd619fd0b1e9401e708e"), looks := true }, kinds := [], alts := [], laidByText := true, laidKinds := [.data, .data, .data, .sentinel, .sentinel], laidTests := true, laidLooks := .later }
def ReadWordsUptoCardSaid : Prop := Claim7.holds Tryz.pinned (.plain (OpenSpec.upto readWordsSpec)) readWordsUptoCard

/-- THE SECOND FORM's CARD OF 'donatuslaw6.ReadParts'. -/
def readPartsUptoCard : Claim7 := { stood := { row := readPartsUptoRow, standIns := [], harness := (true, "00ab56389890d99e3524435e698a33d6137bc260d79bfd619fd0b1e9401e708e"), looks := true }, kinds := [], alts := [], laidByText := true, laidKinds := [.data, .data, .data, .sentinel, .sentinel], laidTests := true, laidLooks := .later }
def ReadPartsUptoCardSaid : Prop := Claim7.holds Tryz.pinned (.plain (OpenSpec.upto readPartsSpec)) readPartsUptoCard

/-- THE SECOND FORM's CARD OF 'donatuslaw6.ReadLong'. -/
def readLongUptoCard : Claim7 := { stood := { row := readLongUptoRow, standIns := [], harness := (true, "00ab56389890d99e3524435e698a33d6137bc260d79bfd619fd0b1e9401e708e"), looks := true }, kinds := [], alts := [], laidByText := true, laidKinds := [.data, .data, .data, .sentinel, .sentinel], laidTests := true, laidLooks := .later }
def ReadLongUptoCardSaid : Prop := Claim7.holds Tryz.pinned (.plain (OpenSpec.upto readLongSpec)) readLongUptoCard

/-- THE SECOND FORM's CARD OF 'donatuslaw6.ReadTokens'. -/
def readTokensUptoCard : Claim7 := { stood := { row := readTokensUptoRow, standIns := [], harness := (true, "00ab56389890d99e3524435e698a33d6137bc260d79bfd619fd0b1e9401e708e"), looks := true }, kinds := [], alts := [], laidByText := true, laidKinds := [.data, .data, .data, .sentinel, .sentinel], laidTests := true, laidLooks := .later }
def ReadTokensUptoCardSaid : Prop := Claim7.holds Tryz.pinned (.plain (OpenSpec.upto readTokensSpec)) readTokensUptoCard

/-- THE SECOND FORM's CARD OF 'donatuslaw6.ReadRules'. -/
def readRulesUptoCard : Claim7 := { stood := { row := readRulesUptoRow, standIns := [], harness := (true, "00ab56389890d99e3524435e698a33d6137bc260d79bfd619fd0b1e9401e708e"), looks := true }, kinds := [], alts := [], laidByText := true, laidKinds := [.data, .data, .data, .sentinel, .sentinel], laidTests := true, laidLooks := .later }
def ReadRulesUptoCardSaid : Prop := Claim7.holds Tryz.pinned (.plain (OpenSpec.upto readRulesSpec)) readRulesUptoCard

/-- THE SECOND FORM's CARD OF 'donatuslaw7.WellSets'. -/
def wellSetsUptoCard : Claim7 := { stood := { row := wellSetsUptoRow, standIns := [], harness := (true, "00ab56389890d99e3524435e698a33d6137bc260d79bfd619fd0b1e9401e708e"), looks := true }, kinds := [], alts := [], laidByText := true, laidKinds := [.data, .data, .data, .sentinel, .sentinel], laidTests := true, laidLooks := .later }
def WellSetsUptoCardSaid : Prop := Claim7.holds Tryz.pinned (.plain (OpenSpec.upto wellSetsSpec)) wellSetsUptoCard

/-- THE SECOND FORM's CARD OF 'donatuslaw7.WellRules'. -/
def wellRulesUptoCard : Claim7 := { stood := { row := wellRulesUptoRow, standIns := [], harness := (true, "00ab56389890d99e3524435e698a33d6137bc260d79bfd619fd0b1e9401e708e"), looks := true }, kinds := [], alts := [], laidByText := true, laidKinds := [.data, .data, .data, .sentinel, .sentinel], laidTests := true, laidLooks := .later }
def WellRulesUptoCardSaid : Prop := Claim7.holds Tryz.pinned (.plain (OpenSpec.upto wellRulesSpec)) wellRulesUptoCard

/-- THE SECOND FORM's CARD OF 'donatuslaw7.WellLimits'. -/
def wellLimitsUptoCard : Claim7 := { stood := { row := wellLimitsUptoRow, standIns := [], harness := (true, "00ab56389890d99e3524435e698a33d6137bc260d79bfd619fd0b1e9401e708e"), looks := true }, kinds := [], alts := [], laidByText := true, laidKinds := [.data, .data, .data, .sentinel, .sentinel], laidTests := true, laidLooks := .later }
def WellLimitsUptoCardSaid : Prop := Claim7.holds Tryz.pinned (.plain (OpenSpec.upto wellLimitsSpec)) wellLimitsUptoCard

/-- THE SECOND FORM's CARD OF 'donatuslaw7.WellNames'. -/
def wellNamesUptoCard : Claim7 := { stood := { row := wellNamesUptoRow, standIns := [], harness := (true, "00ab56389890d99e3524435e698a33d6137bc260d79bfd619fd0b1e9401e708e"), looks := true }, kinds := [], alts := [], laidByText := true, laidKinds := [.data, .data, .data, .sentinel, .sentinel], laidTests := true, laidLooks := .later }
def WellNamesUptoCardSaid : Prop := Claim7.holds Tryz.pinned (.plain (OpenSpec.upto wellNamesSpec)) wellNamesUptoCard

/-- THE SECOND FORM's CARD OF 'donatuslaw13.TreeAll'. -/
def treeAllUptoCard : Claim7 := { stood := { row := treeAllUptoRow, standIns := [], harness := (true, "00ab56389890d99e3524435e698a33d6137bc260d79bfd619fd0b1e9401e708e"), looks := true }, kinds := [], alts := [], laidByText := true, laidKinds := [.data, .data, .data, .sentinel, .sentinel], laidTests := true, laidLooks := .later }
def TreeAllUptoCardSaid : Prop := Claim7.holds Tryz.pinned (.plain (OpenSpec.upto treeAllSpec)) treeAllUptoCard

/-- THE SECOND FORM's CARD OF 'donatuslaw13.TreeGrown'. -/
def treeGrownUptoCard : Claim7 := { stood := { row := treeGrownUptoRow, standIns := [], harness := (true, "00ab56389890d99e3524435e698a33d6137bc260d79bfd619fd0b1e9401e708e"), looks := true }, kinds := [], alts := [], laidByText := true, laidKinds := [.data, .data, .data, .sentinel, .sentinel], laidTests := true, laidLooks := .later }
def TreeGrownUptoCardSaid : Prop := Claim7.holds Tryz.pinned (.plain (OpenSpec.upto treeGrownSpec)) treeGrownUptoCard

/-- THE SECOND FORM's CARD OF 'donatuslaw13.TreeDeep'. -/
def treeDeepUptoCard : Claim7 := { stood := { row := treeDeepUptoRow, standIns := [], harness := (true, "00ab56389890d99e3524435e698a33d6137bc260d79bfd619fd0b1e9401e708e"), looks := true }, kinds := [], alts := [], laidByText := true, laidKinds := [.data, .data, .data, .sentinel, .sentinel], laidTests := true, laidLooks := .later }
def TreeDeepUptoCardSaid : Prop := Claim7.holds Tryz.pinned (.plain (OpenSpec.upto treeDeepSpec)) treeDeepUptoCard

/-- THE SECOND FORM's CARD OF 'donatuslaw13.TreeNone'. -/
def treeNoneUptoCard : Claim7 := { stood := { row := treeNoneUptoRow, standIns := [], harness := (true, "00ab56389890d99e3524435e698a33d6137bc260d79bfd619fd0b1e9401e708e"), looks := true }, kinds := [], alts := [], laidByText := true, laidKinds := [.data, .data, .data, .sentinel, .sentinel], laidTests := true, laidLooks := .later }
def TreeNoneUptoCardSaid : Prop := Claim7.holds Tryz.pinned (.plain (OpenSpec.upto treeNoneSpec)) treeNoneUptoCard

/-- THE SECOND FORM's CARD OF 'donatuslaw13.TreeEq'. -/
def treeEqUptoCard : Claim7 := { stood := { row := treeEqUptoRow, standIns := [], harness := (true, "00ab56389890d99e3524435e698a33d6137bc260d79bfd619fd0b1e9401e708e"), looks := true }, kinds := [], alts := [], laidByText := true, laidKinds := [.data, .data, .data, .sentinel, .sentinel], laidTests := true, laidLooks := .later }
def TreeEqUptoCardSaid : Prop := Claim7.holds Tryz.pinned (.plain (OpenSpec.upto treeEqSpec)) treeEqUptoCard

/-- THE SECOND FORM's CARD OF 'donatuslaw13.TreeMade'. -/
def treeMadeUptoCard : Claim7 := { stood := { row := treeMadeUptoRow, standIns := [], harness := (true, "00ab56389890d99e3524435e698a33d6137bc260d79bfd619fd0b1e9401e708e"), looks := true }, kinds := [], alts := [], laidByText := true, laidKinds := [.data, .data, .data, .sentinel, .sentinel], laidTests := true, laidLooks := .later }
def TreeMadeUptoCardSaid : Prop := Claim7.holds Tryz.pinned (.plain (OpenSpec.upto treeMadeSpec)) treeMadeUptoCard

/-- THE SECOND FORM's CARD OF 'donatuslaw8.FirstAll'. -/
def firstAllUptoCard : Claim7 := { stood := { row := firstAllUptoRow, standIns := [], harness := (true, "00ab56389890d99e3524435e698a33d6137bc260d79bfd619fd0b1e9401e708e"), looks := true }, kinds := [], alts := [], laidByText := true, laidKinds := [.data, .data, .data, .sentinel, .sentinel], laidTests := true, laidLooks := .later }
def FirstAllUptoCardSaid : Prop := Claim7.holds Tryz.pinned (.plain (OpenSpec.upto firstAllSpec)) firstAllUptoCard

/-- THE SECOND FORM's CARD OF 'donatuslaw8.FirstRules'. -/
def firstRulesUptoCard : Claim7 := { stood := { row := firstRulesUptoRow, standIns := [], harness := (true, "00ab56389890d99e3524435e698a33d6137bc260d79bfd619fd0b1e9401e708e"), looks := true }, kinds := [], alts := [], laidByText := true, laidKinds := [.data, .data, .data, .sentinel, .sentinel], laidTests := true, laidLooks := .later }
def FirstRulesUptoCardSaid : Prop := Claim7.holds Tryz.pinned (.plain (OpenSpec.upto firstRulesSpec)) firstRulesUptoCard

/-- THE SECOND FORM's CARD OF 'donatuslaw8.FirstLaws'. -/
def firstLawsUptoCard : Claim7 := { stood := { row := firstLawsUptoRow, standIns := [], harness := (true, "00ab56389890d99e3524435e698a33d6137bc260d79bfd619fd0b1e9401e708e"), looks := true }, kinds := [], alts := [], laidByText := true, laidKinds := [.data, .data, .data, .sentinel, .sentinel], laidTests := true, laidLooks := .later }
def FirstLawsUptoCardSaid : Prop := Claim7.holds Tryz.pinned (.plain (OpenSpec.upto firstLawsSpec)) firstLawsUptoCard

/-- THE SECOND FORM's CARD OF 'donatuslaw8.FirstNone'. -/
def firstNoneUptoCard : Claim7 := { stood := { row := firstNoneUptoRow, standIns := [], harness := (true, "00ab56389890d99e3524435e698a33d6137bc260d79bfd619fd0b1e9401e708e"), looks := true }, kinds := [], alts := [], laidByText := true, laidKinds := [.data, .data, .data, .sentinel, .sentinel], laidTests := true, laidLooks := .later }
def FirstNoneUptoCardSaid : Prop := Claim7.holds Tryz.pinned (.plain (OpenSpec.upto firstNoneSpec)) firstNoneUptoCard

/-- THE SECOND FORM's CARD OF 'donatuslaw8.FirstChains'. -/
def firstChainsUptoCard : Claim7 := { stood := { row := firstChainsUptoRow, standIns := [], harness := (true, "00ab56389890d99e3524435e698a33d6137bc260d79bfd619fd0b1e9401e708e"), looks := true }, kinds := [], alts := [], laidByText := true, laidKinds := [.data, .data, .data, .sentinel, .sentinel], laidTests := true, laidLooks := .later }
def FirstChainsUptoCardSaid : Prop := Claim7.holds Tryz.pinned (.plain (OpenSpec.upto firstChainsSpec)) firstChainsUptoCard

/-- THE SECOND FORM's CARD OF 'donatuslaw8.FirstAny'. -/
def firstAnyUptoCard : Claim7 := { stood := { row := firstAnyUptoRow, standIns := [], harness := (true, "00ab56389890d99e3524435e698a33d6137bc260d79bfd619fd0b1e9401e708e"), looks := true }, kinds := [], alts := [], laidByText := true, laidKinds := [.data, .data, .data, .sentinel, .sentinel], laidTests := true, laidLooks := .later }
def FirstAnyUptoCardSaid : Prop := Claim7.holds Tryz.pinned (.plain (OpenSpec.upto firstAnySpec)) firstAnyUptoCard
end Rows
end Go.Proofs.YtinaojhbeoddcaaGreatDoor
