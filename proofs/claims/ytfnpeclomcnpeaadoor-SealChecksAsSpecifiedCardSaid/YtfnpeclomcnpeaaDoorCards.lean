/-
  DERIVED. GIVEN WITH THE SEED: THE CARDS: each row of YtfnpeclomcnpeaaDoorRows.lean that lists a variable, with what it lists TIED to the program's text (the seventh form; the later family's looks); each row that meets fmt, with fmt's text TOLD by the authors' own Lean function (tested against real Go, not proved from fmt's source: count such statements apart). THE CARD IS WHAT COUNTS. Prove the row's statement (the work); the ties are given (YtfnpeclomcnpeaaDoorTie.lean); close each card by the builder's one call (the guide's Derived/Test/ToyasCard.lean, 'card_holds'). Laid BY PROGRAM, IN A SANDBOX (cutbox-door.mjs). By AI agents, Wed Nov 11 2026. No macro, syntax, notation, axiom, sorry.
-/
import Derived.Test.YtfnpeclomcnpeaaDoorRows
import GoSem.ClaimSeven
namespace Go.Proofs.YtfnpeclomcnpeaaDoor
namespace Rows

/-- THE TIED CARD OF 'antiquarylaw12.SealKeepsRings'. -/
def sealKeepsRingsCard : Claim7 := { stood := { row := sealKeepsRingsRow, standIns := [], harness := (true, "f6f88daeb9cfff498ad53fcae480dfe2c2e934b460f41e61bf7921d871a14e76"), looks := false }, kinds := [], alts := [], laidByText := true, laidKinds := [.data], laidTests := true, laidLooks := .later }
def SealKeepsRingsCardSaid : Prop := Claim7.holds Tryd.pinned (.plain (OpenSpec.ofChange sealKeepsRingsSpec)) sealKeepsRingsCard

/-- THE TIED CARD OF 'antiquarylaw12.SealChecksAsSpecified'. -/
def sealChecksAsSpecifiedCard : Claim7 := { stood := { row := sealChecksAsSpecifiedRow, standIns := [], harness := (true, "f6f88daeb9cfff498ad53fcae480dfe2c2e934b460f41e61bf7921d871a14e76"), looks := false }, kinds := [], alts := [], laidByText := true, laidKinds := [.data, .data], laidTests := true, laidLooks := .later }
def SealChecksAsSpecifiedCardSaid : Prop := Claim7.holds Tryd.pinned (.plain (OpenSpec.ofChange sealChecksAsSpecifiedSpec)) sealChecksAsSpecifiedCard

/-- THE TIED CARD OF 'antiquarylaw12.SealRotatesInTime'. -/
def sealRotatesInTimeCard : Claim7 := { stood := { row := sealRotatesInTimeRow, standIns := [], harness := (true, "f6f88daeb9cfff498ad53fcae480dfe2c2e934b460f41e61bf7921d871a14e76"), looks := false }, kinds := [], alts := [], laidByText := true, laidKinds := [.data], laidTests := true, laidLooks := .later }
def SealRotatesInTimeCardSaid : Prop := Claim7.holds Tryd.pinned (.plain (OpenSpec.ofChange sealRotatesInTimeSpec)) sealRotatesInTimeCard

/-- THE TIED CARD OF 'antiquarylaw12.SealBlindsApart'. -/
def sealBlindsApartCard : Claim7 := { stood := { row := sealBlindsApartRow, standIns := [], harness := (true, "f6f88daeb9cfff498ad53fcae480dfe2c2e934b460f41e61bf7921d871a14e76"), looks := false }, kinds := [], alts := [], laidByText := true, laidKinds := [.data], laidTests := true, laidLooks := .later }
def SealBlindsApartCardSaid : Prop := Claim7.holds Tryd.pinned (.plain (OpenSpec.ofChange sealBlindsApartSpec)) sealBlindsApartCard

/-- THE TIED CARD OF 'antiquarylaw12.SealChangesRings'. -/
def sealChangesRingsCard : Claim7 := { stood := { row := sealChangesRingsRow, standIns := [], harness := (true, "f6f88daeb9cfff498ad53fcae480dfe2c2e934b460f41e61bf7921d871a14e76"), looks := false }, kinds := [], alts := [], laidByText := true, laidKinds := [.data], laidTests := true, laidLooks := .later }
def SealChangesRingsCardSaid : Prop := Claim7.holds Tryd.pinned (.plain (OpenSpec.ofChange sealChangesRingsSpec)) sealChangesRingsCard

/-- THE TIED CARD OF 'antiquarylaw12.SealHoldsInItsDays'. -/
def sealHoldsInItsDaysCard : Claim7 := { stood := { row := sealHoldsInItsDaysRow, standIns := [], harness := (true, "f6f88daeb9cfff498ad53fcae480dfe2c2e934b460f41e61bf7921d871a14e76"), looks := false }, kinds := [], alts := [], laidByText := true, laidKinds := [.data], laidTests := true, laidLooks := .later }
def SealHoldsInItsDaysCardSaid : Prop := Claim7.holds Tryd.pinned (.plain (OpenSpec.ofChange sealHoldsInItsDaysSpec)) sealHoldsInItsDaysCard

/-- THE SECOND FORM's CARD OF 'antiquarylaw12.SealKeepsRings'. -/
def sealKeepsRingsUptoCard : Claim7 := { stood := { row := sealKeepsRingsUptoRow, standIns := [], harness := (true, "f6f88daeb9cfff498ad53fcae480dfe2c2e934b460f41e61bf7921d871a14e76"), looks := false }, kinds := [], alts := [], laidByText := true, laidKinds := [.data], laidTests := true, laidLooks := .later }
def SealKeepsRingsUptoCardSaid : Prop := Claim7.holds Tryd.pinned (.plain (OpenSpec.upto sealKeepsRingsSpec)) sealKeepsRingsUptoCard

/-- THE SECOND FORM's CARD OF 'antiquarylaw12.SealChecksAsSpecified'. -/
def sealChecksAsSpecifiedUptoCard : Claim7 := { stood := { row := sealChecksAsSpecifiedUptoRow, standIns := [], harness := (true, "f6f88daeb9cfff498ad53fcae480dfe2c2e934b460f41e61bf7921d871a14e76"), looks := false }, kinds := [], alts := [], laidByText := true, laidKinds := [.data, .data], laidTests := true, laidLooks := .later }
def SealChecksAsSpecifiedUptoCardSaid : Prop := Claim7.holds Tryd.pinned (.plain (OpenSpec.upto sealChecksAsSpecifiedSpec)) sealChecksAsSpecifiedUptoCard

/-- THE SECOND FORM's CARD OF 'antiquarylaw12.SealRotatesInTime'. -/
def sealRotatesInTimeUptoCard : Claim7 := { stood := { row := sealRotatesInTimeUptoRow, standIns := [], harness := (true, "f6f88daeb9cfff498ad53fcae480dfe2c2e934b460f41e61bf7921d871a14e76"), looks := false }, kinds := [], alts := [], laidByText := true, laidKinds := [.data], laidTests := true, laidLooks := .later }
def SealRotatesInTimeUptoCardSaid : Prop := Claim7.holds Tryd.pinned (.plain (OpenSpec.upto sealRotatesInTimeSpec)) sealRotatesInTimeUptoCard

/-- THE SECOND FORM's CARD OF 'antiquarylaw12.SealBlindsApart'. -/
def sealBlindsApartUptoCard : Claim7 := { stood := { row := sealBlindsApartUptoRow, standIns := [], harness := (true, "f6f88daeb9cfff498ad53fcae480dfe2c2e934b460f41e61bf7921d871a14e76"), looks := false }, kinds := [], alts := [], laidByText := true, laidKinds := [.data], laidTests := true, laidLooks := .later }
def SealBlindsApartUptoCardSaid : Prop := Claim7.holds Tryd.pinned (.plain (OpenSpec.upto sealBlindsApartSpec)) sealBlindsApartUptoCard

/-- THE SECOND FORM's CARD OF 'antiquarylaw12.SealChangesRings'. -/
def sealChangesRingsUptoCard : Claim7 := { stood := { row := sealChangesRingsUptoRow, standIns := [], harness := (true, "f6f88daeb9cfff498ad53fcae480dfe2c2e934b460f41e61bf7921d871a14e76"), looks := false }, kinds := [], alts := [], laidByText := true, laidKinds := [.data], laidTests := true, laidLooks := .later }
def SealChangesRingsUptoCardSaid : Prop := Claim7.holds Tryd.pinned (.plain (OpenSpec.upto sealChangesRingsSpec)) sealChangesRingsUptoCard

/-- THE SECOND FORM's CARD OF 'antiquarylaw12.SealHoldsInItsDays'. -/
def sealHoldsInItsDaysUptoCard : Claim7 := { stood := { row := sealHoldsInItsDaysUptoRow, standIns := [], harness := (true, "f6f88daeb9cfff498ad53fcae480dfe2c2e934b460f41e61bf7921d871a14e76"), looks := false }, kinds := [], alts := [], laidByText := true, laidKinds := [.data], laidTests := true, laidLooks := .later }
def SealHoldsInItsDaysUptoCardSaid : Prop := Claim7.holds Tryd.pinned (.plain (OpenSpec.upto sealHoldsInItsDaysSpec)) sealHoldsInItsDaysUptoCard
end Rows
end Go.Proofs.YtfnpeclomcnpeaaDoor
