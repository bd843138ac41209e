/-
  DERIVED. GIVEN WITH THE SEED: THE CARDS: each row of YtjebjbodfdljmaaDoorRows.lean that lists a variable, with what it lists TIED to the program's text (the seventh form; the later family's looks); each row that meets fmt, with fmt's text TOLD by the authors' own Lean function (tested against real Go, not proved from fmt's source: count such statements apart). THE CARD IS WHAT COUNTS. Prove the row's statement (the work); the ties are given (YtjebjbodfdljmaaDoorTie.lean); close each card by the builder's one call (the guide's Derived/Test/ToyasCard.lean, 'card_holds'). Laid BY PROGRAM, IN A SANDBOX (cutbox-door.mjs). By AI agents, Wed Nov 11 2026. No macro, syntax, notation, axiom, sorry.
-/
import Derived.Test.YtjebjbodfdljmaaDoorRows
import GoSem.ClaimSeven
namespace Go.Proofs.YtjebjbodfdljmaaDoor
namespace Rows

/-- THE TIED CARD OF 'ashlarlaw14.LogNil'. -/
def logNilCard : Claim7 := { stood := { row := logNilRow, standIns := [], harness := (true, "30f2ddf751720c15944dea8f9f52218c2dea41d6d62778518081108fb97cb507"), looks := false }, kinds := [], alts := [], laidByText := true, laidKinds := [.data], laidTests := true, laidLooks := .later }
def LogNilCardSaid : Prop := Claim7.holds Tryd.pinned (.plain (OpenSpec.ofChange logNilSpec)) logNilCard

/-- THE TIED CARD OF 'ashlarlaw14.LogSpoilt'. -/
def logSpoiltCard : Claim7 := { stood := { row := logSpoiltRow, standIns := [], harness := (true, "30f2ddf751720c15944dea8f9f52218c2dea41d6d62778518081108fb97cb507"), looks := false }, kinds := [], alts := [], laidByText := true, laidKinds := [.data], laidTests := true, laidLooks := .later }
def LogSpoiltCardSaid : Prop := Claim7.holds Tryd.pinned (.plain (OpenSpec.ofChange logSpoiltSpec)) logSpoiltCard

/-- THE TIED CARD OF 'ashlarlaw14.LogCuts'. -/
def logCutsCard : Claim7 := { stood := { row := logCutsRow, standIns := [], harness := (true, "30f2ddf751720c15944dea8f9f52218c2dea41d6d62778518081108fb97cb507"), looks := false }, kinds := [], alts := [], laidByText := true, laidKinds := [.data], laidTests := true, laidLooks := .later }
def LogCutsCardSaid : Prop := Claim7.holds Tryd.pinned (.plain (OpenSpec.ofChange logCutsSpec)) logCutsCard

/-- THE SECOND FORM's CARD OF 'ashlarlaw14.LogNil'. -/
def logNilUptoCard : Claim7 := { stood := { row := logNilUptoRow, standIns := [], harness := (true, "30f2ddf751720c15944dea8f9f52218c2dea41d6d62778518081108fb97cb507"), looks := false }, kinds := [], alts := [], laidByText := true, laidKinds := [.data], laidTests := true, laidLooks := .later }
def LogNilUptoCardSaid : Prop := Claim7.holds Tryd.pinned (.plain (OpenSpec.upto logNilSpec)) logNilUptoCard

/-- THE SECOND FORM's CARD OF 'ashlarlaw14.LogSpoilt'. -/
def logSpoiltUptoCard : Claim7 := { stood := { row := logSpoiltUptoRow, standIns := [], harness := (true, "30f2ddf751720c15944dea8f9f52218c2dea41d6d62778518081108fb97cb507"), looks := false }, kinds := [], alts := [], laidByText := true, laidKinds := [.data], laidTests := true, laidLooks := .later }
def LogSpoiltUptoCardSaid : Prop := Claim7.holds Tryd.pinned (.plain (OpenSpec.upto logSpoiltSpec)) logSpoiltUptoCard

/-- THE SECOND FORM's CARD OF 'ashlarlaw14.LogCuts'. -/
def logCutsUptoCard : Claim7 := { stood := { row := logCutsUptoRow, standIns := [], harness := (true, "30f2ddf751720c15944dea8f9f52218c2dea41d6d62778518081108fb97cb507"), looks := false }, kinds := [], alts := [], laidByText := true, laidKinds := [.data], laidTests := true, laidLooks := .later }
def LogCutsUptoCardSaid : Prop := Claim7.holds Tryd.pinned (.plain (OpenSpec.upto logCutsSpec)) logCutsUptoCard
end Rows
end Go.Proofs.YtjebjbodfdljmaaDoor
