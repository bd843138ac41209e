/-
  DERIVED. GIVEN WITH THE SEED: THE CARDS: each row of YtllkepkaimnodaaGreatDoorRows.lean that lists a variable, with what it lists TIED to the program's text (the seventh form; the later family's looks); each row that meets fmt, with fmt's text TOLD by the authors' own Lean function (tested against real Go, not proved from fmt's source: count such statements apart). THE CARD IS WHAT COUNTS. Prove the row's statement (the work); the ties are given (YtllkepkaimnodaaGreatDoorTie.lean); close each card by the builder's one call (the guide's Derived/Test/ToyasCard.lean, 'card_holds'). Laid BY PROGRAM, IN A SANDBOX (cutbox-door.mjs). By AI agents, Wed Nov 11 2026. No macro, syntax, notation, axiom, sorry.
-/
import Derived.Test.YtllkepkaimnodaaGreatDoorRows
import GoSem.ClaimSeven
namespace Go.Proofs.YtllkepkaimnodaaGreatDoor
namespace Rows

/-- THE TIED CARD OF 'ashlarlaw14.LogOpens'. -/
def logOpensCard : Claim7 := { stood := { row := logOpensRow, standIns := [], harness := (true, "d04c5b8543e815cd05dbfc82ec21e25c50a5acff94ec369ee503afe5844c0562"), looks := false }, kinds := [], alts := [], laidByText := true, laidKinds := [.data], laidTests := true, laidLooks := .later }
def LogOpensCardSaid : Prop := Claim7.holds Tryz.pinned (.plain (OpenSpec.ofChange logOpensSpec)) logOpensCard

/-- THE TIED CARD OF 'ashlarlaw14.LogPlays'. -/
def logPlaysCard : Claim7 := { stood := { row := logPlaysRow, standIns := [], harness := (true, "d04c5b8543e815cd05dbfc82ec21e25c50a5acff94ec369ee503afe5844c0562"), looks := false }, kinds := [], alts := [], laidByText := true, laidKinds := [.data], laidTests := true, laidLooks := .later }
def LogPlaysCardSaid : Prop := Claim7.holds Tryz.pinned (.plain (OpenSpec.ofChange logPlaysSpec)) logPlaysCard

/-- THE TIED CARD OF 'ashlarlaw23.ReplayAgain'. -/
def replayAgainCard : Claim7 := { stood := { row := replayAgainRow, standIns := [], harness := (true, "d04c5b8543e815cd05dbfc82ec21e25c50a5acff94ec369ee503afe5844c0562"), looks := false }, kinds := [], alts := [], laidByText := true, laidKinds := [.data], laidTests := true, laidLooks := .later }
def ReplayAgainCardSaid : Prop := Claim7.holds Tryz.pinned (.plain (OpenSpec.ofChange replayAgainSpec)) replayAgainCard

/-- THE SECOND FORM's CARD OF 'ashlarlaw14.LogOpens'. -/
def logOpensUptoCard : Claim7 := { stood := { row := logOpensUptoRow, standIns := [], harness := (true, "d04c5b8543e815cd05dbfc82ec21e25c50a5acff94ec369ee503afe5844c0562"), looks := false }, kinds := [], alts := [], laidByText := true, laidKinds := [.data], laidTests := true, laidLooks := .later }
def LogOpensUptoCardSaid : Prop := Claim7.holds Tryz.pinned (.plain (OpenSpec.upto logOpensSpec)) logOpensUptoCard

/-- THE SECOND FORM's CARD OF 'ashlarlaw14.LogPlays'. -/
def logPlaysUptoCard : Claim7 := { stood := { row := logPlaysUptoRow, standIns := [], harness := (true, "d04c5b8543e815cd05dbfc82ec21e25c50a5acff94ec369ee503afe5844c0562"), looks := false }, kinds := [], alts := [], laidByText := true, laidKinds := [.data], laidTests := true, laidLooks := .later }
def LogPlaysUptoCardSaid : Prop := Claim7.holds Tryz.pinned (.plain (OpenSpec.upto logPlaysSpec)) logPlaysUptoCard

/-- THE SECOND FORM's CARD OF 'ashlarlaw23.ReplayAgain'. -/
def replayAgainUptoCard : Claim7 := { stood := { row := replayAgainUptoRow, standIns := [], harness := (true, "d04c5b8543e815cd05dbfc82ec21e25c50a5acff94ec369ee503afe5844c0562"), looks := false }, kinds := [], alts := [], laidByText := true, laidKinds := [.data], laidTests := true, laidLooks := .later }
def ReplayAgainUptoCardSaid : Prop := Claim7.holds Tryz.pinned (.plain (OpenSpec.upto replayAgainSpec)) replayAgainUptoCard
end Rows
end Go.Proofs.YtllkepkaimnodaaGreatDoor
