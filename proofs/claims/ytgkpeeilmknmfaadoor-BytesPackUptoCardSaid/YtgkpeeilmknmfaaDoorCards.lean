/-
  DERIVED. GIVEN WITH THE SEED: THE CARDS: each row of YtgkpeeilmknmfaaDoorRows.lean that lists a variable, with what it lists TIED to the program's text (the seventh form; the later family's looks); each row that meets fmt, with fmt's text TOLD by the authors' own Lean function (tested against real Go, not proved from fmt's source: count such statements apart). THE CARD IS WHAT COUNTS. Prove the row's statement (the work); the ties are given (YtgkpeeilmknmfaaDoorTie.lean); close each card by the builder's one call (the guide's Derived/Test/ToyasCard.lean, 'card_holds'). Laid BY PROGRAM, IN A SANDBOX (cutbox-door.mjs). By AI agents, Wed Nov 11 2026. No macro, syntax, notation, axiom, sorry.
-/
import Derived.Test.YtgkpeeilmknmfaaDoorRows
import GoSem.ClaimSeven
namespace Go.Proofs.YtgkpeeilmknmfaaDoor
namespace Rows

/-- THE TIED CARD OF 'booklaw1.BytesPut'. -/
def bytesPutCard : Claim7 := { stood := { row := bytesPutRow, standIns := [], harness := (true, "1153f32b67671f9a1b2031a2c1989c70c3e5c12c7fe633827de16e13812d2118"), looks := true }, kinds := [], alts := [], laidByText := true, laidKinds := [.handle], laidTests := true, laidLooks := .later }
def BytesPutCardSaid : Prop := Claim7.holds Tryd.pinned (.plain (OpenSpec.ofChange bytesPutSpec)) bytesPutCard

/-- THE TIED CARD OF 'booklaw1.BytesFlags'. -/
def bytesFlagsCard : Claim7 := { stood := { row := bytesFlagsRow, standIns := [], harness := (true, "1153f32b67671f9a1b2031a2c1989c70c3e5c12c7fe633827de16e13812d2118"), looks := true }, kinds := [], alts := [], laidByText := true, laidKinds := [.handle], laidTests := true, laidLooks := .later }
def BytesFlagsCardSaid : Prop := Claim7.holds Tryd.pinned (.plain (OpenSpec.ofChange bytesFlagsSpec)) bytesFlagsCard

/-- THE TIED CARD OF 'booklaw1.BytesRuns'. -/
def bytesRunsCard : Claim7 := { stood := { row := bytesRunsRow, standIns := [], harness := (true, "1153f32b67671f9a1b2031a2c1989c70c3e5c12c7fe633827de16e13812d2118"), looks := true }, kinds := [], alts := [], laidByText := true, laidKinds := [.handle], laidTests := true, laidLooks := .later }
def BytesRunsCardSaid : Prop := Claim7.holds Tryd.pinned (.plain (OpenSpec.ofChange bytesRunsSpec)) bytesRunsCard

/-- THE TIED CARD OF 'booklaw1.ValueQuotes'. -/
def valueQuotesCard : Claim7 := { stood := { row := valueQuotesRow, standIns := [], harness := (true, "1153f32b67671f9a1b2031a2c1989c70c3e5c12c7fe633827de16e13812d2118"), looks := true }, kinds := [], alts := [], laidByText := true, laidKinds := [.handle], laidTests := true, laidLooks := .later }
def ValueQuotesCardSaid : Prop := Claim7.holds Tryd.pinned (.plain (OpenSpec.ofChange valueQuotesSpec)) valueQuotesCard

/-- THE TIED CARD OF 'booklaw1.BytesPack'. -/
def bytesPackCard : Claim7 := { stood := { row := bytesPackRow, standIns := [], harness := (true, "1153f32b67671f9a1b2031a2c1989c70c3e5c12c7fe633827de16e13812d2118"), looks := true }, kinds := [], alts := [], laidByText := true, laidKinds := [.handle], laidTests := true, laidLooks := .later }
def BytesPackCardSaid : Prop := Claim7.holds Tryd.pinned (.plain (OpenSpec.ofChange bytesPackSpec)) bytesPackCard

/-- THE SECOND FORM's CARD OF 'booklaw1.BytesPut'. -/
def bytesPutUptoCard : Claim7 := { stood := { row := bytesPutUptoRow, standIns := [], harness := (true, "1153f32b67671f9a1b2031a2c1989c70c3e5c12c7fe633827de16e13812d2118"), looks := true }, kinds := [], alts := [], laidByText := true, laidKinds := [.handle], laidTests := true, laidLooks := .later }
def BytesPutUptoCardSaid : Prop := Claim7.holds Tryd.pinned (.plain (OpenSpec.upto bytesPutSpec)) bytesPutUptoCard

/-- THE SECOND FORM's CARD OF 'booklaw1.BytesFlags'. -/
def bytesFlagsUptoCard : Claim7 := { stood := { row := bytesFlagsUptoRow, standIns := [], harness := (true, "1153f32b67671f9a1b2031a2c1989c70c3e5c12c7fe633827de16e13812d2118"), looks := true }, kinds := [], alts := [], laidByText := true, laidKinds := [.handle], laidTests := true, laidLooks := .later }
def BytesFlagsUptoCardSaid : Prop := Claim7.holds Tryd.pinned (.plain (OpenSpec.upto bytesFlagsSpec)) bytesFlagsUptoCard

/-- THE SECOND FORM's CARD OF 'booklaw1.BytesRuns'. -/
def bytesRunsUptoCard : Claim7 := { stood := { row := bytesRunsUptoRow, standIns := [], harness := (true, "1153f32b67671f9a1b2031a2c1989c70c3e5c12c7fe633827de16e13812d2118"), looks := true }, kinds := [], alts := [], laidByText := true, laidKinds := [.handle], laidTests := true, laidLooks := .later }
def BytesRunsUptoCardSaid : Prop := Claim7.holds Tryd.pinned (.plain (OpenSpec.upto bytesRunsSpec)) bytesRunsUptoCard

/-- THE SECOND FORM's CARD OF 'booklaw1.ValueQuotes'. -/
def valueQuotesUptoCard : Claim7 := { stood := { row := valueQuotesUptoRow, standIns := [], harness := (true, "1153f32b67671f9a1b2031a2c1989c70c3e5c12c7fe633827de16e13812d2118"), looks := true }, kinds := [], alts := [], laidByText := true, laidKinds := [.handle], laidTests := true, laidLooks := .later }
def ValueQuotesUptoCardSaid : Prop := Claim7.holds Tryd.pinned (.plain (OpenSpec.upto valueQuotesSpec)) valueQuotesUptoCard

/-- THE SECOND FORM's CARD OF 'booklaw1.BytesPack'. -/
def bytesPackUptoCard : Claim7 := { stood := { row := bytesPackUptoRow, standIns := [], harness := (true, "1153f32b67671f9a1b2031a2c1989c70c3e5c12c7fe633827de16e13812d2118"), looks := true }, kinds := [], alts := [], laidByText := true, laidKinds := [.handle], laidTests := true, laidLooks := .later }
def BytesPackUptoCardSaid : Prop := Claim7.holds Tryd.pinned (.plain (OpenSpec.upto bytesPackSpec)) bytesPackUptoCard
end Rows
end Go.Proofs.YtgkpeeilmknmfaaDoor
