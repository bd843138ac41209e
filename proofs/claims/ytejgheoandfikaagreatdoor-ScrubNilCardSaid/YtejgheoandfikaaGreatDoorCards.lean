/-
  DERIVED. GIVEN WITH THE SEED: THE CARDS: each row of YtejgheoandfikaaGreatDoorRows.lean that lists a variable, with what it lists TIED to the program's text (the seventh form; the later family's looks); each row that meets fmt, with fmt's text TOLD by the authors' own Lean function (tested against real Go, not proved from fmt's source: count such statements apart). THE CARD IS WHAT COUNTS. Prove the row's statement (the work); the ties are given (YtejgheoandfikaaGreatDoorTie.lean); close each card by the builder's one call (the guide's Derived/Test/ToyasCard.lean, 'card_holds'). Laid BY PROGRAM, IN A SANDBOX (cutbox-door.mjs). By AI agents, Wed Nov 11 2026. No macro, syntax, notation, axiom, sorry.
-/
import Derived.Test.YtejgheoandfikaaGreatDoorRows
import GoSem.ClaimSeven
namespace Go.Proofs.YtejgheoandfikaaGreatDoor
namespace Rows

/-- THE TIED CARD OF 'ashlarlaw23.ReplayNil'. -/
def replayNilCard : Claim7 := { stood := { row := replayNilRow, standIns := [], harness := (true, "b9b58e0accd12f187ce698fe5891c4a5d8cda214797236f76469d82d2371080d"), looks := true }, kinds := [], alts := [], laidByText := true, laidKinds := [.data], laidTests := true, laidLooks := .later }
def ReplayNilCardSaid : Prop := Claim7.holds Tryz.pinned (.plain (OpenSpec.ofChange replayNilSpec)) replayNilCard

/-- THE TIED CARD OF 'ashlarlaw28.ScrubNil'. -/
def scrubNilCard : Claim7 := { stood := { row := scrubNilRow, standIns := [], harness := (true, "b9b58e0accd12f187ce698fe5891c4a5d8cda214797236f76469d82d2371080d"), looks := true }, kinds := [], alts := [], laidByText := true, laidKinds := [.data], laidTests := true, laidLooks := .later }
def ScrubNilCardSaid : Prop := Claim7.holds Tryz.pinned (.plain (OpenSpec.ofChange scrubNilSpec)) scrubNilCard

/-- THE TIED CARD OF 'ashlarlaw14.LogOpens'. -/
def logOpensCard : Claim7 := { stood := { row := logOpensRow, standIns := [], harness := (true, "b9b58e0accd12f187ce698fe5891c4a5d8cda214797236f76469d82d2371080d"), looks := true }, kinds := [], alts := [], laidByText := true, laidKinds := [.data], laidTests := true, laidLooks := .later }
def LogOpensCardSaid : Prop := Claim7.holds Tryz.pinned (.plain (OpenSpec.ofChange logOpensSpec)) logOpensCard

/-- THE SECOND FORM's CARD OF 'ashlarlaw23.ReplayNil'. -/
def replayNilUptoCard : Claim7 := { stood := { row := replayNilUptoRow, standIns := [], harness := (true, "b9b58e0accd12f187ce698fe5891c4a5d8cda214797236f76469d82d2371080d"), looks := true }, kinds := [], alts := [], laidByText := true, laidKinds := [.data], laidTests := true, laidLooks := .later }
def ReplayNilUptoCardSaid : Prop := Claim7.holds Tryz.pinned (.plain (OpenSpec.upto replayNilSpec)) replayNilUptoCard

/-- THE SECOND FORM's CARD OF 'ashlarlaw28.ScrubNil'. -/
def scrubNilUptoCard : Claim7 := { stood := { row := scrubNilUptoRow, standIns := [], harness := (true, "b9b58e0accd12f187ce698fe5891c4a5d8cda214797236f76469d82d2371080d"), looks := true }, kinds := [], alts := [], laidByText := true, laidKinds := [.data], laidTests := true, laidLooks := .later }
def ScrubNilUptoCardSaid : Prop := Claim7.holds Tryz.pinned (.plain (OpenSpec.upto scrubNilSpec)) scrubNilUptoCard

/-- THE SECOND FORM's CARD OF 'ashlarlaw14.LogOpens'. -/
def logOpensUptoCard : Claim7 := { stood := { row := logOpensUptoRow, standIns := [], harness := (true, "b9b58e0accd12f187ce698fe5891c4a5d8cda214797236f76469d82d2371080d"), looks := true }, kinds := [], alts := [], laidByText := true, laidKinds := [.data], laidTests := true, laidLooks := .later }
def LogOpensUptoCardSaid : Prop := Claim7.holds Tryz.pinned (.plain (OpenSpec.upto logOpensSpec)) logOpensUptoCard
end Rows
end Go.Proofs.YtejgheoandfikaaGreatDoor
