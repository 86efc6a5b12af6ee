/-
  DERIVED. GIVEN WITH THE SEED: THE CARDS: each row of YtmpkejflgpodkaaGreatDoorRows.lean that lists a variable, with what it lists TIED to the program's text (the seventh form; the later family's looks); each row that meets fmt, with fmt's text TOLD by the authors' own Lean function (tested against real Go, not proved from fmt's source: count such statements apart). THE CARD IS WHAT COUNTS. Prove the row's statement (the work); the ties are given (YtmpkejflgpodkaaGreatDoorTie.lean); close each card by the builder's one call (the guide's Derived/Test/ToyasCard.lean, 'card_holds'). Laid BY PROGRAM, IN A SANDBOX (cutbox-door.mjs). By AI agents, Wed Nov 11 2026. No macro, syntax, notation, axiom, sorry.
-/
import Derived.Test.YtmpkejflgpodkaaGreatDoorRows
import GoSem.ClaimSeven
namespace Go.Proofs.YtmpkejflgpodkaaGreatDoor
namespace Rows

/-- THE TIED CARD OF 'booklaw2.StateElements'. -/
def stateElementsCard : Claim7 := { stood := { row := stateElementsRow, standIns := [], harness := (true, "19a502926a90f8cfbb8dec520098b37bd7112996ced916078c69508519592ace"), looks := true }, kinds := [], alts := [], laidByText := true, laidKinds := [.handle], laidTests := true, laidLooks := .later }
def StateElementsCardSaid : Prop := Claim7.holds Tryz.pinned (.plain (OpenSpec.ofChange stateElementsSpec)) stateElementsCard

/-- THE TIED CARD OF 'booklaw2.MarkFinds'. -/
def markFindsCard : Claim7 := { stood := { row := markFindsRow, standIns := [], harness := (true, "19a502926a90f8cfbb8dec520098b37bd7112996ced916078c69508519592ace"), looks := true }, kinds := [], alts := [], laidByText := true, laidKinds := [.handle], laidTests := true, laidLooks := .later }
def MarkFindsCardSaid : Prop := Claim7.holds Tryz.pinned (.plain (OpenSpec.ofChange markFindsSpec)) markFindsCard

/-- THE TIED CARD OF 'booklaw2.StateAll'. -/
def stateAllCard : Claim7 := { stood := { row := stateAllRow, standIns := [], harness := (true, "19a502926a90f8cfbb8dec520098b37bd7112996ced916078c69508519592ace"), looks := true }, kinds := [], alts := [], laidByText := true, laidKinds := [.data, .data, .data, .handle], laidTests := true, laidLooks := .later }
def StateAllCardSaid : Prop := Claim7.holds Tryz.pinned (.plain (OpenSpec.ofChange stateAllSpec)) stateAllCard

/-- THE SECOND FORM's CARD OF 'booklaw2.StateElements'. -/
def stateElementsUptoCard : Claim7 := { stood := { row := stateElementsUptoRow, standIns := [], harness := (true, "19a502926a90f8cfbb8dec520098b37bd7112996ced916078c69508519592ace"), looks := true }, kinds := [], alts := [], laidByText := true, laidKinds := [.handle], laidTests := true, laidLooks := .later }
def StateElementsUptoCardSaid : Prop := Claim7.holds Tryz.pinned (.plain (OpenSpec.upto stateElementsSpec)) stateElementsUptoCard

/-- THE SECOND FORM's CARD OF 'booklaw2.MarkFinds'. -/
def markFindsUptoCard : Claim7 := { stood := { row := markFindsUptoRow, standIns := [], harness := (true, "19a502926a90f8cfbb8dec520098b37bd7112996ced916078c69508519592ace"), looks := true }, kinds := [], alts := [], laidByText := true, laidKinds := [.handle], laidTests := true, laidLooks := .later }
def MarkFindsUptoCardSaid : Prop := Claim7.holds Tryz.pinned (.plain (OpenSpec.upto markFindsSpec)) markFindsUptoCard

/-- THE SECOND FORM's CARD OF 'booklaw2.StateAll'. -/
def stateAllUptoCard : Claim7 := { stood := { row := stateAllUptoRow, standIns := [], harness := (true, "19a502926a90f8cfbb8dec520098b37bd7112996ced916078c69508519592ace"), looks := true }, kinds := [], alts := [], laidByText := true, laidKinds := [.data, .data, .data, .handle], laidTests := true, laidLooks := .later }
def StateAllUptoCardSaid : Prop := Claim7.holds Tryz.pinned (.plain (OpenSpec.upto stateAllSpec)) stateAllUptoCard
end Rows
end Go.Proofs.YtmpkejflgpodkaaGreatDoor
