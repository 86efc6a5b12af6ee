/-
  DERIVED. GIVEN WITH THE SEED: THE CARDS: each row of YtfaihilehdjfjaaGreatDoorRows.lean that lists a variable, with what it lists TIED to the program's text (the seventh form; the later family's looks); each row that meets fmt, with fmt's text TOLD by the authors' own Lean function (tested against real Go, not proved from fmt's source: count such statements apart). THE CARD IS WHAT COUNTS. Prove the row's statement (the work); the ties are given (YtfaihilehdjfjaaGreatDoorTie.lean); close each card by the builder's one call (the guide's Derived/Test/ToyasCard.lean, 'card_holds'). Laid BY PROGRAM, IN A SANDBOX (cutbox-door.mjs). By AI agents, Wed Nov 11 2026. No macro, syntax, notation, axiom, sorry.
-/
import Derived.Test.YtfaihilehdjfjaaGreatDoorRows
import GoSem.ClaimSeven
namespace Go.Proofs.YtfaihilehdjfjaaGreatDoor
namespace Rows

/-- THE TIED CARD OF 'booklaw1.IdNames'. -/
def idNamesCard : Claim7 := { stood := { row := idNamesRow, standIns := [], harness := (true, "0d06fc580143121f29deb4ffdbe673488c26f6fae206acd113ee8483d9d7fa83"), looks := true }, kinds := [], alts := [], laidByText := true, laidKinds := [.data, .data, .data, .data, .handle, .sentinel, .sentinel, .pinned], laidTests := true, laidLooks := .later }
def IdNamesCardSaid : Prop := Claim7.holds Tryz.pinned (.plain (OpenSpec.ofChange idNamesSpec)) idNamesCard

/-- THE SECOND FORM's CARD OF 'booklaw1.IdNames'. -/
def idNamesUptoCard : Claim7 := { stood := { row := idNamesUptoRow, standIns := [], harness := (true, "0d06fc580143121f29deb4ffdbe673488c26f6fae206acd113ee8483d9d7fa83"), looks := true }, kinds := [], alts := [], laidByText := true, laidKinds := [.data, .data, .data, .data, .handle, .sentinel, .sentinel, .pinned], laidTests := true, laidLooks := .later }
def IdNamesUptoCardSaid : Prop := Claim7.holds Tryz.pinned (.plain (OpenSpec.upto idNamesSpec)) idNamesUptoCard
end Rows
end Go.Proofs.YtfaihilehdjfjaaGreatDoor
