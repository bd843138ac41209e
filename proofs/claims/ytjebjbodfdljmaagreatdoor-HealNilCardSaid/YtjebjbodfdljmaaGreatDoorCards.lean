/-
  DERIVED. GIVEN WITH THE SEED: THE CARDS: each row of YtjebjbodfdljmaaGreatDoorRows.lean that lists a variable, with what it lists TIED to the program's text (the seventh form; the later family's looks); each row that meets fmt, with fmt's text TOLD by the authors' own Lean function (tested against real Go, not proved from fmt's source: count such statements apart). THE CARD IS WHAT COUNTS. Prove the row's statement (the work); the ties are given (YtjebjbodfdljmaaGreatDoorTie.lean); close each card by the builder's one call (the guide's Derived/Test/ToyasCard.lean, 'card_holds'). Laid BY PROGRAM, IN A SANDBOX (cutbox-door.mjs). By AI agents, Wed Nov 11 2026. No macro, syntax, notation, axiom, sorry.
-/
import Derived.Test.YtjebjbodfdljmaaGreatDoorRows
import GoSem.ClaimSeven
namespace Go.Proofs.YtjebjbodfdljmaaGreatDoor
namespace Rows

/-- THE TIED CARD OF 'ashlarlaw23.ReplayNil'. -/
def replayNilCard : Claim7 := { stood := { row := replayNilRow, standIns := [], harness := (true, "d0f7a6283e25dd18ab491aa7d7cf1b6fbc87d12bb63f72fc332c8bfbba19509c"), looks := true }, kinds := [], alts := [], laidByText := true, laidKinds := [.data], laidTests := true, laidLooks := .later }
def ReplayNilCardSaid : Prop := Claim7.holds Tryz.pinned (.plain (OpenSpec.ofChange replayNilSpec)) replayNilCard

/-- THE TIED CARD OF 'ashlarlaw27.HealNil'. -/
def healNilCard : Claim7 := { stood := { row := healNilRow, standIns := [], harness := (true, "d0f7a6283e25dd18ab491aa7d7cf1b6fbc87d12bb63f72fc332c8bfbba19509c"), looks := true }, kinds := [], alts := [], laidByText := true, laidKinds := [.data], laidTests := true, laidLooks := .later }
def HealNilCardSaid : Prop := Claim7.holds Tryz.pinned (.plain (OpenSpec.ofChange healNilSpec)) healNilCard

/-- THE TIED CARD OF 'ashlarlaw28.ScrubNil'. -/
def scrubNilCard : Claim7 := { stood := { row := scrubNilRow, standIns := [], harness := (true, "d0f7a6283e25dd18ab491aa7d7cf1b6fbc87d12bb63f72fc332c8bfbba19509c"), looks := true }, kinds := [], alts := [], laidByText := true, laidKinds := [.data], laidTests := true, laidLooks := .later }
def ScrubNilCardSaid : Prop := Claim7.holds Tryz.pinned (.plain (OpenSpec.ofChange scrubNilSpec)) scrubNilCard

/-- THE TIED CARD OF 'ashlarlaw26.VaultNil'. -/
def vaultNilCard : Claim7 := { stood := { row := vaultNilRow, standIns := [], harness := (true, "d0f7a6283e25dd18ab491aa7d7cf1b6fbc87d12bb63f72fc332c8bfbba19509c"), looks := true }, kinds := [], alts := [], laidByText := true, laidKinds := [.data], laidTests := true, laidLooks := .later }
def VaultNilCardSaid : Prop := Claim7.holds Tryz.pinned (.plain (OpenSpec.ofChange vaultNilSpec)) vaultNilCard

/-- THE TIED CARD OF 'ashlarlaw29.DeskNil'. -/
def deskNilCard : Claim7 := { stood := { row := deskNilRow, standIns := [], harness := (true, "d0f7a6283e25dd18ab491aa7d7cf1b6fbc87d12bb63f72fc332c8bfbba19509c"), looks := true }, kinds := [], alts := [], laidByText := true, laidKinds := [.data], laidTests := true, laidLooks := .later }
def DeskNilCardSaid : Prop := Claim7.holds Tryz.pinned (.plain (OpenSpec.ofChange deskNilSpec)) deskNilCard

/-- THE TIED CARD OF 'ashlarlaw14.LogPlays'. -/
def logPlaysCard : Claim7 := { stood := { row := logPlaysRow, standIns := [], harness := (true, "d0f7a6283e25dd18ab491aa7d7cf1b6fbc87d12bb63f72fc332c8bfbba19509c"), looks := true }, kinds := [], alts := [], laidByText := true, laidKinds := [.data], laidTests := true, laidLooks := .later }
def LogPlaysCardSaid : Prop := Claim7.holds Tryz.pinned (.plain (OpenSpec.ofChange logPlaysSpec)) logPlaysCard

/-- THE SECOND FORM's CARD OF 'ashlarlaw23.ReplayNil'. -/
def replayNilUptoCard : Claim7 := { stood := { row := replayNilUptoRow, standIns := [], harness := (true, "d0f7a6283e25dd18ab491aa7d7cf1b6fbc87d12bb63f72fc332c8bfbba19509c"), looks := true }, kinds := [], alts := [], laidByText := true, laidKinds := [.data], laidTests := true, laidLooks := .later }
def ReplayNilUptoCardSaid : Prop := Claim7.holds Tryz.pinned (.plain (OpenSpec.upto replayNilSpec)) replayNilUptoCard

/-- THE SECOND FORM's CARD OF 'ashlarlaw27.HealNil'. -/
def healNilUptoCard : Claim7 := { stood := { row := healNilUptoRow, standIns := [], harness := (true, "d0f7a6283e25dd18ab491aa7d7cf1b6fbc87d12bb63f72fc332c8bfbba19509c"), looks := true }, kinds := [], alts := [], laidByText := true, laidKinds := [.data], laidTests := true, laidLooks := .later }
def HealNilUptoCardSaid : Prop := Claim7.holds Tryz.pinned (.plain (OpenSpec.upto healNilSpec)) healNilUptoCard

/-- THE SECOND FORM's CARD OF 'ashlarlaw28.ScrubNil'. -/
def scrubNilUptoCard : Claim7 := { stood := { row := scrubNilUptoRow, standIns := [], harness := (true, "d0f7a6283e25dd18ab491aa7d7cf1b6fbc87d12bb63f72fc332c8bfbba19509c"), looks := true }, kinds := [], alts := [], laidByText := true, laidKinds := [.data], laidTests := true, laidLooks := .later }
def ScrubNilUptoCardSaid : Prop := Claim7.holds Tryz.pinned (.plain (OpenSpec.upto scrubNilSpec)) scrubNilUptoCard

/-- THE SECOND FORM's CARD OF 'ashlarlaw26.VaultNil'. -/
def vaultNilUptoCard : Claim7 := { stood := { row := vaultNilUptoRow, standIns := [], harness := (true, "d0f7a6283e25dd18ab491aa7d7cf1b6fbc87d12bb63f72fc332c8bfbba19509c"), looks := true }, kinds := [], alts := [], laidByText := true, laidKinds := [.data], laidTests := true, laidLooks := .later }
def VaultNilUptoCardSaid : Prop := Claim7.holds Tryz.pinned (.plain (OpenSpec.upto vaultNilSpec)) vaultNilUptoCard

/-- THE SECOND FORM's CARD OF 'ashlarlaw29.DeskNil'. -/
def deskNilUptoCard : Claim7 := { stood := { row := deskNilUptoRow, standIns := [], harness := (true, "d0f7a6283e25dd18ab491aa7d7cf1b6fbc87d12bb63f72fc332c8bfbba19509c"), looks := true }, kinds := [], alts := [], laidByText := true, laidKinds := [.data], laidTests := true, laidLooks := .later }
def DeskNilUptoCardSaid : Prop := Claim7.holds Tryz.pinned (.plain (OpenSpec.upto deskNilSpec)) deskNilUptoCard

/-- THE SECOND FORM's CARD OF 'ashlarlaw14.LogPlays'. -/
def logPlaysUptoCard : Claim7 := { stood := { row := logPlaysUptoRow, standIns := [], harness := (true, "d0f7a6283e25dd18ab491aa7d7cf1b6fbc87d12bb63f72fc332c8bfbba19509c"), looks := true }, kinds := [], alts := [], laidByText := true, laidKinds := [.data], laidTests := true, laidLooks := .later }
def LogPlaysUptoCardSaid : Prop := Claim7.holds Tryz.pinned (.plain (OpenSpec.upto logPlaysSpec)) logPlaysUptoCard
end Rows
end Go.Proofs.YtjebjbodfdljmaaGreatDoor
