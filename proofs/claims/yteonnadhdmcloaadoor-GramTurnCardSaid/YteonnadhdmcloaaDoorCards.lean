/-
  DERIVED. GIVEN WITH THE SEED: THE CARDS: each row of YteonnadhdmcloaaDoorRows.lean that lists a variable, with what it lists TIED to the program's text (the seventh form; the later family's looks); each row that meets fmt, with fmt's text TOLD by the authors' own Lean function (tested against real Go, not proved from fmt's source: count such statements apart). THE CARD IS WHAT COUNTS. Prove the row's statement (the work); the ties are given (YteonnadhdmcloaaDoorTie.lean); close each card by the builder's one call (the guide's Derived/Test/ToyasCard.lean, 'card_holds'). Laid BY PROGRAM, IN A SANDBOX (cutbox-door.mjs). By AI agents, Wed Nov 11 2026. No macro, syntax, notation, axiom, sorry.
-/
import Derived.Test.YteonnadhdmcloaaDoorRows
import GoSem.ClaimSeven
namespace Go.Proofs.YteonnadhdmcloaaDoor
namespace Rows

/-- THE TIED CARD OF 'donatuslaw5.GramAll'. -/
def gramAllCard : Claim7 := { stood := { row := gramAllRow, standIns := [], harness := (true, "c9e2637576e8a6a231df2213118fca512c5fdffb8888dd7f2dbddadfb6f855a9"), looks := false }, kinds := [], alts := [], laidByText := true, laidKinds := [.data, .data, .data], laidTests := true, laidLooks := .later }
def GramAllCardSaid : Prop := Claim7.holds Tryd.pinned (.plain (OpenSpec.ofChange gramAllSpec)) gramAllCard

/-- THE TIED CARD OF 'donatuslaw5.GramOne'. -/
def gramOneCard : Claim7 := { stood := { row := gramOneRow, standIns := [], harness := (true, "c9e2637576e8a6a231df2213118fca512c5fdffb8888dd7f2dbddadfb6f855a9"), looks := false }, kinds := [], alts := [], laidByText := true, laidKinds := [.data, .data, .data], laidTests := true, laidLooks := .later }
def GramOneCardSaid : Prop := Claim7.holds Tryd.pinned (.plain (OpenSpec.ofChange gramOneSpec)) gramOneCard

/-- THE TIED CARD OF 'donatuslaw5.GramLevels'. -/
def gramLevelsCard : Claim7 := { stood := { row := gramLevelsRow, standIns := [], harness := (true, "c9e2637576e8a6a231df2213118fca512c5fdffb8888dd7f2dbddadfb6f855a9"), looks := false }, kinds := [], alts := [], laidByText := true, laidKinds := [.data, .data, .data], laidTests := true, laidLooks := .later }
def GramLevelsCardSaid : Prop := Claim7.holds Tryd.pinned (.plain (OpenSpec.ofChange gramLevelsSpec)) gramLevelsCard

/-- THE TIED CARD OF 'donatuslaw5.GramLimits'. -/
def gramLimitsCard : Claim7 := { stood := { row := gramLimitsRow, standIns := [], harness := (true, "c9e2637576e8a6a231df2213118fca512c5fdffb8888dd7f2dbddadfb6f855a9"), looks := false }, kinds := [], alts := [], laidByText := true, laidKinds := [.data, .data, .data], laidTests := true, laidLooks := .later }
def GramLimitsCardSaid : Prop := Claim7.holds Tryd.pinned (.plain (OpenSpec.ofChange gramLimitsSpec)) gramLimitsCard

/-- THE TIED CARD OF 'donatuslaw5.GramTurn'. -/
def gramTurnCard : Claim7 := { stood := { row := gramTurnRow, standIns := [], harness := (true, "c9e2637576e8a6a231df2213118fca512c5fdffb8888dd7f2dbddadfb6f855a9"), looks := false }, kinds := [], alts := [], laidByText := true, laidKinds := [.data, .data, .data], laidTests := true, laidLooks := .later }
def GramTurnCardSaid : Prop := Claim7.holds Tryd.pinned (.plain (OpenSpec.ofChange gramTurnSpec)) gramTurnCard

/-- THE SECOND FORM's CARD OF 'donatuslaw5.GramAll'. -/
def gramAllUptoCard : Claim7 := { stood := { row := gramAllUptoRow, standIns := [], harness := (true, "c9e2637576e8a6a231df2213118fca512c5fdffb8888dd7f2dbddadfb6f855a9"), looks := false }, kinds := [], alts := [], laidByText := true, laidKinds := [.data, .data, .data], laidTests := true, laidLooks := .later }
def GramAllUptoCardSaid : Prop := Claim7.holds Tryd.pinned (.plain (OpenSpec.upto gramAllSpec)) gramAllUptoCard

/-- THE SECOND FORM's CARD OF 'donatuslaw5.GramOne'. -/
def gramOneUptoCard : Claim7 := { stood := { row := gramOneUptoRow, standIns := [], harness := (true, "c9e2637576e8a6a231df2213118fca512c5fdffb8888dd7f2dbddadfb6f855a9"), looks := false }, kinds := [], alts := [], laidByText := true, laidKinds := [.data, .data, .data], laidTests := true, laidLooks := .later }
def GramOneUptoCardSaid : Prop := Claim7.holds Tryd.pinned (.plain (OpenSpec.upto gramOneSpec)) gramOneUptoCard

/-- THE SECOND FORM's CARD OF 'donatuslaw5.GramLevels'. -/
def gramLevelsUptoCard : Claim7 := { stood := { row := gramLevelsUptoRow, standIns := [], harness := (true, "c9e2637576e8a6a231df2213118fca512c5fdffb8888dd7f2dbddadfb6f855a9"), looks := false }, kinds := [], alts := [], laidByText := true, laidKinds := [.data, .data, .data], laidTests := true, laidLooks := .later }
def GramLevelsUptoCardSaid : Prop := Claim7.holds Tryd.pinned (.plain (OpenSpec.upto gramLevelsSpec)) gramLevelsUptoCard

/-- THE SECOND FORM's CARD OF 'donatuslaw5.GramLimits'. -/
def gramLimitsUptoCard : Claim7 := { stood := { row := gramLimitsUptoRow, standIns := [], harness := (true, "c9e2637576e8a6a231df2213118fca512c5fdffb8888dd7f2dbddadfb6f855a9"), looks := false }, kinds := [], alts := [], laidByText := true, laidKinds := [.data, .data, .data], laidTests := true, laidLooks := .later }
def GramLimitsUptoCardSaid : Prop := Claim7.holds Tryd.pinned (.plain (OpenSpec.upto gramLimitsSpec)) gramLimitsUptoCard

/-- THE SECOND FORM's CARD OF 'donatuslaw5.GramTurn'. -/
def gramTurnUptoCard : Claim7 := { stood := { row := gramTurnUptoRow, standIns := [], harness := (true, "c9e2637576e8a6a231df2213118fca512c5fdffb8888dd7f2dbddadfb6f855a9"), looks := false }, kinds := [], alts := [], laidByText := true, laidKinds := [.data, .data, .data], laidTests := true, laidLooks := .later }
def GramTurnUptoCardSaid : Prop := Claim7.holds Tryd.pinned (.plain (OpenSpec.upto gramTurnSpec)) gramTurnUptoCard
end Rows
end Go.Proofs.YteonnadhdmcloaaDoor
