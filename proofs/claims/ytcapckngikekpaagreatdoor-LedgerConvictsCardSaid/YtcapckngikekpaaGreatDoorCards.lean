/-
  DERIVED. GIVEN WITH THE SEED: THE CARDS: each row of YtcapckngikekpaaGreatDoorRows.lean that lists a variable, with what it lists TIED to the program's text (the seventh form; the later family's looks); each row that meets fmt, with fmt's text TOLD by the authors' own Lean function (tested against real Go, not proved from fmt's source: count such statements apart). THE CARD IS WHAT COUNTS. Prove the row's statement (the work); the ties are given (YtcapckngikekpaaGreatDoorTie.lean); close each card by the builder's one call (the guide's Derived/Test/ToyasCard.lean, 'card_holds'). Laid BY PROGRAM, IN A SANDBOX (cutbox-door.mjs). By AI agents, Wed Nov 11 2026. No macro, syntax, notation, axiom, sorry.
-/
import Derived.Test.YtcapckngikekpaaGreatDoorRows
import GoSem.ClaimSeven
namespace Go.Proofs.YtcapckngikekpaaGreatDoor
namespace Rows

/-- THE TIED CARD OF 'antiquarylaw20.LedgerFacesAsSpecified'. -/
def ledgerFacesAsSpecifiedCard : Claim7 := { stood := { row := ledgerFacesAsSpecifiedRow, standIns := [], harness := (true, "07f1a1999e3f521c648dcfea383db6e09c70a76a9158d809815aa2ab79880dcc"), looks := false }, kinds := [], alts := [], laidByText := true, laidKinds := [.data, .data, .data, .data], laidTests := true, laidLooks := .later }
def LedgerFacesAsSpecifiedCardSaid : Prop := Claim7.holds Tryz.pinned (.plain (OpenSpec.ofChange ledgerFacesAsSpecifiedSpec)) ledgerFacesAsSpecifiedCard

/-- THE TIED CARD OF 'antiquarylaw20.LedgerGrowsAsSpecified'. -/
def ledgerGrowsAsSpecifiedCard : Claim7 := { stood := { row := ledgerGrowsAsSpecifiedRow, standIns := [], harness := (true, "07f1a1999e3f521c648dcfea383db6e09c70a76a9158d809815aa2ab79880dcc"), looks := false }, kinds := [], alts := [], laidByText := true, laidKinds := [.data, .data, .data, .data], laidTests := true, laidLooks := .later }
def LedgerGrowsAsSpecifiedCardSaid : Prop := Claim7.holds Tryz.pinned (.plain (OpenSpec.ofChange ledgerGrowsAsSpecifiedSpec)) ledgerGrowsAsSpecifiedCard

/-- THE TIED CARD OF 'antiquarylaw20.LedgerProvesAsSpecified'. -/
def ledgerProvesAsSpecifiedCard : Claim7 := { stood := { row := ledgerProvesAsSpecifiedRow, standIns := [], harness := (true, "07f1a1999e3f521c648dcfea383db6e09c70a76a9158d809815aa2ab79880dcc"), looks := false }, kinds := [], alts := [], laidByText := true, laidKinds := [.data, .data, .data, .data], laidTests := true, laidLooks := .later }
def LedgerProvesAsSpecifiedCardSaid : Prop := Claim7.holds Tryz.pinned (.plain (OpenSpec.ofChange ledgerProvesAsSpecifiedSpec)) ledgerProvesAsSpecifiedCard

/-- THE TIED CARD OF 'antiquarylaw20.LedgerChecksAsSpecified'. -/
def ledgerChecksAsSpecifiedCard : Claim7 := { stood := { row := ledgerChecksAsSpecifiedRow, standIns := [], harness := (true, "07f1a1999e3f521c648dcfea383db6e09c70a76a9158d809815aa2ab79880dcc"), looks := false }, kinds := [], alts := [], laidByText := true, laidKinds := [.data, .data, .data, .data], laidTests := true, laidLooks := .later }
def LedgerChecksAsSpecifiedCardSaid : Prop := Claim7.holds Tryz.pinned (.plain (OpenSpec.ofChange ledgerChecksAsSpecifiedSpec)) ledgerChecksAsSpecifiedCard

/-- THE TIED CARD OF 'antiquarylaw20.LedgerHonestOnesAreSafe'. -/
def ledgerHonestOnesAreSafeCard : Claim7 := { stood := { row := ledgerHonestOnesAreSafeRow, standIns := [], harness := (true, "07f1a1999e3f521c648dcfea383db6e09c70a76a9158d809815aa2ab79880dcc"), looks := false }, kinds := [], alts := [], laidByText := true, laidKinds := [.data, .data, .data, .data], laidTests := true, laidLooks := .later }
def LedgerHonestOnesAreSafeCardSaid : Prop := Claim7.holds Tryz.pinned (.plain (OpenSpec.ofChange ledgerHonestOnesAreSafeSpec)) ledgerHonestOnesAreSafeCard

/-- THE TIED CARD OF 'antiquarylaw20.LedgerConvicts'. -/
def ledgerConvictsCard : Claim7 := { stood := { row := ledgerConvictsRow, standIns := [], harness := (true, "07f1a1999e3f521c648dcfea383db6e09c70a76a9158d809815aa2ab79880dcc"), looks := false }, kinds := [], alts := [], laidByText := true, laidKinds := [.data, .data, .data, .data], laidTests := true, laidLooks := .later }
def LedgerConvictsCardSaid : Prop := Claim7.holds Tryz.pinned (.plain (OpenSpec.ofChange ledgerConvictsSpec)) ledgerConvictsCard

/-- THE TIED CARD OF 'antiquarylaw20.LedgerHidesContents'. -/
def ledgerHidesContentsCard : Claim7 := { stood := { row := ledgerHidesContentsRow, standIns := [], harness := (true, "07f1a1999e3f521c648dcfea383db6e09c70a76a9158d809815aa2ab79880dcc"), looks := false }, kinds := [], alts := [], laidByText := true, laidKinds := [.data, .data, .data, .data], laidTests := true, laidLooks := .later }
def LedgerHidesContentsCardSaid : Prop := Claim7.holds Tryz.pinned (.plain (OpenSpec.ofChange ledgerHidesContentsSpec)) ledgerHidesContentsCard

/-- THE SECOND FORM's CARD OF 'antiquarylaw20.LedgerFacesAsSpecified'. -/
def ledgerFacesAsSpecifiedUptoCard : Claim7 := { stood := { row := ledgerFacesAsSpecifiedUptoRow, standIns := [], harness := (true, "07f1a1999e3f521c648dcfea383db6e09c70a76a9158d809815aa2ab79880dcc"), looks := false }, kinds := [], alts := [], laidByText := true, laidKinds := [.data, .data, .data, .data], laidTests := true, laidLooks := .later }
def LedgerFacesAsSpecifiedUptoCardSaid : Prop := Claim7.holds Tryz.pinned (.plain (OpenSpec.upto ledgerFacesAsSpecifiedSpec)) ledgerFacesAsSpecifiedUptoCard

/-- THE SECOND FORM's CARD OF 'antiquarylaw20.LedgerGrowsAsSpecified'. -/
def ledgerGrowsAsSpecifiedUptoCard : Claim7 := { stood := { row := ledgerGrowsAsSpecifiedUptoRow, standIns := [], harness := (true, "07f1a1999e3f521c648dcfea383db6e09c70a76a9158d809815aa2ab79880dcc"), looks := false }, kinds := [], alts := [], laidByText := true, laidKinds := [.data, .data, .data, .data], laidTests := true, laidLooks := .later }
def LedgerGrowsAsSpecifiedUptoCardSaid : Prop := Claim7.holds Tryz.pinned (.plain (OpenSpec.upto ledgerGrowsAsSpecifiedSpec)) ledgerGrowsAsSpecifiedUptoCard

/-- THE SECOND FORM's CARD OF 'antiquarylaw20.LedgerProvesAsSpecified'. -/
def ledgerProvesAsSpecifiedUptoCard : Claim7 := { stood := { row := ledgerProvesAsSpecifiedUptoRow, standIns := [], harness := (true, "07f1a1999e3f521c648dcfea383db6e09c70a76a9158d809815aa2ab79880dcc"), looks := false }, kinds := [], alts := [], laidByText := true, laidKinds := [.data, .data, .data, .data], laidTests := true, laidLooks := .later }
def LedgerProvesAsSpecifiedUptoCardSaid : Prop := Claim7.holds Tryz.pinned (.plain (OpenSpec.upto ledgerProvesAsSpecifiedSpec)) ledgerProvesAsSpecifiedUptoCard

/-- THE SECOND FORM's CARD OF 'antiquarylaw20.LedgerChecksAsSpecified'. -/
def ledgerChecksAsSpecifiedUptoCard : Claim7 := { stood := { row := ledgerChecksAsSpecifiedUptoRow, standIns := [], harness := (true, "07f1a1999e3f521c648dcfea383db6e09c70a76a9158d809815aa2ab79880dcc"), looks := false }, kinds := [], alts := [], laidByText := true, laidKinds := [.data, .data, .data, .data], laidTests := true, laidLooks := .later }
def LedgerChecksAsSpecifiedUptoCardSaid : Prop := Claim7.holds Tryz.pinned (.plain (OpenSpec.upto ledgerChecksAsSpecifiedSpec)) ledgerChecksAsSpecifiedUptoCard

/-- THE SECOND FORM's CARD OF 'antiquarylaw20.LedgerHonestOnesAreSafe'. -/
def ledgerHonestOnesAreSafeUptoCard : Claim7 := { stood := { row := ledgerHonestOnesAreSafeUptoRow, standIns := [], harness := (true, "07f1a1999e3f521c648dcfea383db6e09c70a76a9158d809815aa2ab79880dcc"), looks := false }, kinds := [], alts := [], laidByText := true, laidKinds := [.data, .data, .data, .data], laidTests := true, laidLooks := .later }
def LedgerHonestOnesAreSafeUptoCardSaid : Prop := Claim7.holds Tryz.pinned (.plain (OpenSpec.upto ledgerHonestOnesAreSafeSpec)) ledgerHonestOnesAreSafeUptoCard

/-- THE SECOND FORM's CARD OF 'antiquarylaw20.LedgerConvicts'. -/
def ledgerConvictsUptoCard : Claim7 := { stood := { row := ledgerConvictsUptoRow, standIns := [], harness := (true, "07f1a1999e3f521c648dcfea383db6e09c70a76a9158d809815aa2ab79880dcc"), looks := false }, kinds := [], alts := [], laidByText := true, laidKinds := [.data, .data, .data, .data], laidTests := true, laidLooks := .later }
def LedgerConvictsUptoCardSaid : Prop := Claim7.holds Tryz.pinned (.plain (OpenSpec.upto ledgerConvictsSpec)) ledgerConvictsUptoCard

/-- THE SECOND FORM's CARD OF 'antiquarylaw20.LedgerHidesContents'. -/
def ledgerHidesContentsUptoCard : Claim7 := { stood := { row := ledgerHidesContentsUptoRow, standIns := [], harness := (true, "07f1a1999e3f521c648dcfea383db6e09c70a76a9158d809815aa2ab79880dcc"), looks := false }, kinds := [], alts := [], laidByText := true, laidKinds := [.data, .data, .data, .data], laidTests := true, laidLooks := .later }
def LedgerHidesContentsUptoCardSaid : Prop := Claim7.holds Tryz.pinned (.plain (OpenSpec.upto ledgerHidesContentsSpec)) ledgerHidesContentsUptoCard
end Rows
end Go.Proofs.YtcapckngikekpaaGreatDoor
