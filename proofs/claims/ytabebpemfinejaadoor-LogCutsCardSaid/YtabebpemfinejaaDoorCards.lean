/-
  DERIVED. GIVEN WITH THE SEED: THE CARDS: each row of YtabebpemfinejaaDoorRows.lean that lists a variable, with what it lists TIED to the program's text (the seventh form; the later family's looks); each row that meets fmt, with fmt's text TOLD by the authors' own Lean function (tested against real Go, not proved from fmt's source: count such statements apart). THE CARD IS WHAT COUNTS. Prove the row's statement (the work); the ties are given (YtabebpemfinejaaDoorTie.lean); close each card by the builder's one call (the guide's Derived/Test/ToyasCard.lean, 'card_holds'). Laid BY PROGRAM, IN A SANDBOX (cutbox-door.mjs). By AI agents, Wed Nov 11 2026. No macro, syntax, notation, axiom, sorry.
-/
import Derived.Test.YtabebpemfinejaaDoorRows
import GoSem.ClaimSeven
namespace Go.Proofs.YtabebpemfinejaaDoor
namespace Rows

/-- THE TIED CARD OF 'ashlarlaw14.LogRoom'. -/
def logRoomCard : Claim7 := { stood := { row := logRoomRow, standIns := [], harness := (true, "66f16b3014a155823b94ff72247b964734243cc4e4568c357d48bd6f49b717fc"), looks := false }, kinds := [], alts := [], laidByText := true, laidKinds := [.data], laidTests := true, laidLooks := .later }
def LogRoomCardSaid : Prop := Claim7.holds Tryd.pinned (.plain (OpenSpec.ofChange logRoomSpec)) logRoomCard

/-- THE TIED CARD OF 'ashlarlaw14.LogSpoilt'. -/
def logSpoiltCard : Claim7 := { stood := { row := logSpoiltRow, standIns := [], harness := (true, "66f16b3014a155823b94ff72247b964734243cc4e4568c357d48bd6f49b717fc"), looks := false }, kinds := [], alts := [], laidByText := true, laidKinds := [.data], laidTests := true, laidLooks := .later }
def LogSpoiltCardSaid : Prop := Claim7.holds Tryd.pinned (.plain (OpenSpec.ofChange logSpoiltSpec)) logSpoiltCard

/-- THE TIED CARD OF 'ashlarlaw14.LogCuts'. -/
def logCutsCard : Claim7 := { stood := { row := logCutsRow, standIns := [], harness := (true, "66f16b3014a155823b94ff72247b964734243cc4e4568c357d48bd6f49b717fc"), looks := false }, kinds := [], alts := [], laidByText := true, laidKinds := [.data], laidTests := true, laidLooks := .later }
def LogCutsCardSaid : Prop := Claim7.holds Tryd.pinned (.plain (OpenSpec.ofChange logCutsSpec)) logCutsCard

/-- THE SECOND FORM's CARD OF 'ashlarlaw14.LogRoom'. -/
def logRoomUptoCard : Claim7 := { stood := { row := logRoomUptoRow, standIns := [], harness := (true, "66f16b3014a155823b94ff72247b964734243cc4e4568c357d48bd6f49b717fc"), looks := false }, kinds := [], alts := [], laidByText := true, laidKinds := [.data], laidTests := true, laidLooks := .later }
def LogRoomUptoCardSaid : Prop := Claim7.holds Tryd.pinned (.plain (OpenSpec.upto logRoomSpec)) logRoomUptoCard

/-- THE SECOND FORM's CARD OF 'ashlarlaw14.LogSpoilt'. -/
def logSpoiltUptoCard : Claim7 := { stood := { row := logSpoiltUptoRow, standIns := [], harness := (true, "66f16b3014a155823b94ff72247b964734243cc4e4568c357d48bd6f49b717fc"), looks := false }, kinds := [], alts := [], laidByText := true, laidKinds := [.data], laidTests := true, laidLooks := .later }
def LogSpoiltUptoCardSaid : Prop := Claim7.holds Tryd.pinned (.plain (OpenSpec.upto logSpoiltSpec)) logSpoiltUptoCard

/-- THE SECOND FORM's CARD OF 'ashlarlaw14.LogCuts'. -/
def logCutsUptoCard : Claim7 := { stood := { row := logCutsUptoRow, standIns := [], harness := (true, "66f16b3014a155823b94ff72247b964734243cc4e4568c357d48bd6f49b717fc"), looks := false }, kinds := [], alts := [], laidByText := true, laidKinds := [.data], laidTests := true, laidLooks := .later }
def LogCutsUptoCardSaid : Prop := Claim7.holds Tryd.pinned (.plain (OpenSpec.upto logCutsSpec)) logCutsUptoCard
end Rows
end Go.Proofs.YtabebpemfinejaaDoor
