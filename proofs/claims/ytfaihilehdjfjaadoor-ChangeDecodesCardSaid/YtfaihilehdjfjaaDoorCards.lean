/-
  DERIVED. GIVEN WITH THE SEED: THE CARDS: each row of YtfaihilehdjfjaaDoorRows.lean that lists a variable, with what it lists TIED to the program's text (the seventh form; the later family's looks); each row that meets fmt, with fmt's text TOLD by the authors' own Lean function (tested against real Go, not proved from fmt's source: count such statements apart). THE CARD IS WHAT COUNTS. Prove the row's statement (the work); the ties are given (YtfaihilehdjfjaaDoorTie.lean); close each card by the builder's one call (the guide's Derived/Test/ToyasCard.lean, 'card_holds'). Laid BY PROGRAM, IN A SANDBOX (cutbox-door.mjs). By AI agents, Wed Nov 11 2026. No macro, syntax, notation, axiom, sorry.
-/
import Derived.Test.YtfaihilehdjfjaaDoorRows
import GoSem.ClaimSeven
namespace Go.Proofs.YtfaihilehdjfjaaDoor
namespace Rows

/-- THE TIED CARD OF 'booklaw1.IdClocks'. -/
def idClocksCard : Claim7 := { stood := { row := idClocksRow, standIns := [], harness := (true, "c29600c462e085d8d81f31f63c53ff183efe54c21c1fe545987612ea8b74954a"), looks := true }, kinds := [], alts := [], laidByText := true, laidKinds := [.handle], laidTests := true, laidLooks := .later }
def IdClocksCardSaid : Prop := Claim7.holds Tryd.pinned (.plain (OpenSpec.ofChange idClocksSpec)) idClocksCard

/-- THE TIED CARD OF 'booklaw1.ChangeChecks'. -/
def changeChecksCard : Claim7 := { stood := { row := changeChecksRow, standIns := [], harness := (true, "c29600c462e085d8d81f31f63c53ff183efe54c21c1fe545987612ea8b74954a"), looks := true }, kinds := [], alts := [], laidByText := true, laidKinds := [.handle], laidTests := true, laidLooks := .later }
def ChangeChecksCardSaid : Prop := Claim7.holds Tryd.pinned (.plain (OpenSpec.ofChange changeChecksSpec)) changeChecksCard

/-- THE TIED CARD OF 'booklaw2.TreePlays'. -/
def treePlaysCard : Claim7 := { stood := { row := treePlaysRow, standIns := [], harness := (true, "c29600c462e085d8d81f31f63c53ff183efe54c21c1fe545987612ea8b74954a"), looks := true }, kinds := [], alts := [], laidByText := true, laidKinds := [.handle], laidTests := true, laidLooks := .later }
def TreePlaysCardSaid : Prop := Claim7.holds Tryd.pinned (.plain (OpenSpec.ofChange treePlaysSpec)) treePlaysCard

/-- THE TIED CARD OF 'booklaw1.ChangeDecodes'. -/
def changeDecodesCard : Claim7 := { stood := { row := changeDecodesRow, standIns := [], harness := (true, "c29600c462e085d8d81f31f63c53ff183efe54c21c1fe545987612ea8b74954a"), looks := true }, kinds := [], alts := [], laidByText := true, laidKinds := [.handle], laidTests := true, laidLooks := .later }
def ChangeDecodesCardSaid : Prop := Claim7.holds Tryd.pinned (.plain (OpenSpec.ofChange changeDecodesSpec)) changeDecodesCard

/-- THE TIED CARD OF 'booklaw1.ValueShows'. -/
def valueShowsCard : Claim7 := { stood := { row := valueShowsRow, standIns := [], harness := (true, "c29600c462e085d8d81f31f63c53ff183efe54c21c1fe545987612ea8b74954a"), looks := true }, kinds := [], alts := [], laidByText := true, laidKinds := [.data, .data, .data, .handle], laidTests := true, laidLooks := .later }
def ValueShowsCardSaid : Prop := Claim7.holds Tryd.pinned (.plain (OpenSpec.ofChange valueShowsSpec)) valueShowsCard

/-- THE SECOND FORM's CARD OF 'booklaw1.IdClocks'. -/
def idClocksUptoCard : Claim7 := { stood := { row := idClocksUptoRow, standIns := [], harness := (true, "c29600c462e085d8d81f31f63c53ff183efe54c21c1fe545987612ea8b74954a"), looks := true }, kinds := [], alts := [], laidByText := true, laidKinds := [.handle], laidTests := true, laidLooks := .later }
def IdClocksUptoCardSaid : Prop := Claim7.holds Tryd.pinned (.plain (OpenSpec.upto idClocksSpec)) idClocksUptoCard

/-- THE SECOND FORM's CARD OF 'booklaw1.ChangeChecks'. -/
def changeChecksUptoCard : Claim7 := { stood := { row := changeChecksUptoRow, standIns := [], harness := (true, "c29600c462e085d8d81f31f63c53ff183efe54c21c1fe545987612ea8b74954a"), looks := true }, kinds := [], alts := [], laidByText := true, laidKinds := [.handle], laidTests := true, laidLooks := .later }
def ChangeChecksUptoCardSaid : Prop := Claim7.holds Tryd.pinned (.plain (OpenSpec.upto changeChecksSpec)) changeChecksUptoCard

/-- THE SECOND FORM's CARD OF 'booklaw2.TreePlays'. -/
def treePlaysUptoCard : Claim7 := { stood := { row := treePlaysUptoRow, standIns := [], harness := (true, "c29600c462e085d8d81f31f63c53ff183efe54c21c1fe545987612ea8b74954a"), looks := true }, kinds := [], alts := [], laidByText := true, laidKinds := [.handle], laidTests := true, laidLooks := .later }
def TreePlaysUptoCardSaid : Prop := Claim7.holds Tryd.pinned (.plain (OpenSpec.upto treePlaysSpec)) treePlaysUptoCard

/-- THE SECOND FORM's CARD OF 'booklaw1.ChangeDecodes'. -/
def changeDecodesUptoCard : Claim7 := { stood := { row := changeDecodesUptoRow, standIns := [], harness := (true, "c29600c462e085d8d81f31f63c53ff183efe54c21c1fe545987612ea8b74954a"), looks := true }, kinds := [], alts := [], laidByText := true, laidKinds := [.handle], laidTests := true, laidLooks := .later }
def ChangeDecodesUptoCardSaid : Prop := Claim7.holds Tryd.pinned (.plain (OpenSpec.upto changeDecodesSpec)) changeDecodesUptoCard

/-- THE SECOND FORM's CARD OF 'booklaw1.ValueShows'. -/
def valueShowsUptoCard : Claim7 := { stood := { row := valueShowsUptoRow, standIns := [], harness := (true, "c29600c462e085d8d81f31f63c53ff183efe54c21c1fe545987612ea8b74954a"), looks := true }, kinds := [], alts := [], laidByText := true, laidKinds := [.data, .data, .data, .handle], laidTests := true, laidLooks := .later }
def ValueShowsUptoCardSaid : Prop := Claim7.holds Tryd.pinned (.plain (OpenSpec.upto valueShowsSpec)) valueShowsUptoCard
end Rows
end Go.Proofs.YtfaihilehdjfjaaDoor
