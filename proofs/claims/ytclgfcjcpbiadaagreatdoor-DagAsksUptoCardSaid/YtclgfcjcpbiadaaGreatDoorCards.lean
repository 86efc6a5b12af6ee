/-
  DERIVED. GIVEN WITH THE SEED: THE CARDS: each row of YtclgfcjcpbiadaaGreatDoorRows.lean that lists a variable, with what it lists TIED to the program's text (the seventh form; the later family's looks); each row that meets fmt, with fmt's text TOLD by the authors' own Lean function (tested against real Go, not proved from fmt's source: count such statements apart). THE CARD IS WHAT COUNTS. Prove the row's statement (the work); the ties are given (YtclgfcjcpbiadaaGreatDoorTie.lean); close each card by the builder's one call (the guide's Derived/Test/ToyasCard.lean, 'card_holds'). Laid BY PROGRAM, IN A SANDBOX (cutbox-door.mjs). By AI agents, Wed Nov 11 2026. No macro, syntax, notation, axiom, sorry.
-/
import Derived.Test.YtclgfcjcpbiadaaGreatDoorRows
import GoSem.ClaimSeven
namespace Go.Proofs.YtclgfcjcpbiadaaGreatDoor
namespace Rows

/-- THE TIED CARD OF 'booklaw2.DagAsks'. -/
def dagAsksCard : Claim7 := { stood := { row := dagAsksRow, standIns := [], harness := (true, "6457a1b01808656b1d4c1538aaafb7e4810d60a59875851c5bb565c1d2ade71a"), looks := true }, kinds := [], alts := [], laidByText := true, laidKinds := [.handle], laidTests := true, laidLooks := .later }
def DagAsksCardSaid : Prop := Claim7.holds Tryz.pinned (.plain (OpenSpec.ofChange dagAsksSpec)) dagAsksCard

/-- THE TIED CARD OF 'booklaw2.DagTakes'. -/
def dagTakesCard : Claim7 := { stood := { row := dagTakesRow, standIns := [], harness := (true, "6457a1b01808656b1d4c1538aaafb7e4810d60a59875851c5bb565c1d2ade71a"), looks := true }, kinds := [], alts := [], laidByText := true, laidKinds := [.handle], laidTests := true, laidLooks := .later }
def DagTakesCardSaid : Prop := Claim7.holds Tryz.pinned (.plain (OpenSpec.ofChange dagTakesSpec)) dagTakesCard

/-- THE SECOND FORM's CARD OF 'booklaw2.DagAsks'. -/
def dagAsksUptoCard : Claim7 := { stood := { row := dagAsksUptoRow, standIns := [], harness := (true, "6457a1b01808656b1d4c1538aaafb7e4810d60a59875851c5bb565c1d2ade71a"), looks := true }, kinds := [], alts := [], laidByText := true, laidKinds := [.handle], laidTests := true, laidLooks := .later }
def DagAsksUptoCardSaid : Prop := Claim7.holds Tryz.pinned (.plain (OpenSpec.upto dagAsksSpec)) dagAsksUptoCard

/-- THE SECOND FORM's CARD OF 'booklaw2.DagTakes'. -/
def dagTakesUptoCard : Claim7 := { stood := { row := dagTakesUptoRow, standIns := [], harness := (true, "6457a1b01808656b1d4c1538aaafb7e4810d60a59875851c5bb565c1d2ade71a"), looks := true }, kinds := [], alts := [], laidByText := true, laidKinds := [.handle], laidTests := true, laidLooks := .later }
def DagTakesUptoCardSaid : Prop := Claim7.holds Tryz.pinned (.plain (OpenSpec.upto dagTakesSpec)) dagTakesUptoCard
end Rows
end Go.Proofs.YtclgfcjcpbiadaaGreatDoor
