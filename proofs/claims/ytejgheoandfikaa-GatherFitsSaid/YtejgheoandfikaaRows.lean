/-
  No cell of these rows narrows 'for every input' (looked for: loops, veiled, ifaces, maps, wideKeys, modest, calm, conditions, laid).
  DERIVED. THE GIVEN ROWS OF THIS SEAT. 3 by the template 'for every input the law returns true; each argument reads behind the call as it read before'; 0 by the template 'total and deterministic' (their statements: YtejgheoandfikaaTotals.lean).
  GIVEN WITH THE SEED: the statements are not yours to turn. If you find one false, say at which input.
  Laid BY PROGRAM, IN A SANDBOX (cutbox-rows.mjs): the forced cells as the released guide's own fill.sh prints them over the translation 1ad048f11dfd7f99… (all of the seat's roots in one cut). By AI agents, Wed Nov 11 2026. No macro, syntax, notation, axiom, sorry.
-/
import Derived.Test.YtejgheoandfikaaChecked
import GoSem.Claim
import GoSem.ClaimJoined
import GoSem.ClaimMapViews
import Derived.JoinedTies
import Derived.KernelRfl
namespace Go.Proofs.Ytejgheoandfikaa
/- THE CELL 'sum', in the pinned program and in every row, IS THE sha256 OF THE DUMP (.gsa) THAT YtejgheoandfikaaProg.lean LOADS. Nothing in Lean hashes anything: it is a label: what it is worth is what the hold of that sum in a sandbox is worth. -/
noncomputable def Try.pinned : Pinned := { name := "ytejgheoandfikaa", sum := "1ad048f11dfd7f99d008a5c9e15b518291dd9ff18836a6ba2fa232176140eca3", checked := Try.checked }
namespace Rows
def none {H : Type} : Left H := { results := [], args := [] }

/-- 'ashlarlaw20.ShelfNew': WHATEVER THE INPUT: true; the input reads as it did. -/
def shelfNewSpec : ChangeSpec := { name := "shelfNew", fn := fun _ => fun
  | [d1, d2] => { results := [.lit (.bool true)], args := [d1, d2] }
  | _ => none }
def shelfNewRow : OpenClaim := { program := "ytejgheoandfikaa", sum := "1ad048f11dfd7f99d008a5c9e15b518291dd9ff18836a6ba2fa232176140eca3", func := "ashlar/ashlarlaw20.ShelfNew", spec := "shelfNew", recurses := true, apart := false }
def ShelfNewSaid : Prop := shelfNewRow.holds Try.pinned (OpenSpec.ofChange shelfNewSpec)

/-- ITS FALSE NEIGHBOUR: 'it returns false'. Refute it at one input. -/
def shelfNewWrong : ChangeSpec := { name := "shelfNew", fn := fun _ => fun
  | [d1, d2] => { results := [.lit (.bool false)], args := [d1, d2] }
  | _ => none }
def ShelfNewWrongFalsely : Prop := shelfNewRow.holds Try.pinned (OpenSpec.ofChange shelfNewWrong)

/-- 'ashlarlaw22.GatherFits': WHATEVER THE INPUT: true; the input reads as it did. -/
def gatherFitsSpec : ChangeSpec := { name := "gatherFits", fn := fun _ => fun
  | [d1, d2] => { results := [.lit (.bool true)], args := [d1, d2] }
  | _ => none }
def gatherFitsRow : OpenClaim := { program := "ytejgheoandfikaa", sum := "1ad048f11dfd7f99d008a5c9e15b518291dd9ff18836a6ba2fa232176140eca3", func := "ashlar/ashlarlaw22.GatherFits", spec := "gatherFits", unfollowed := true, recurses := true, apart := false }
def GatherFitsSaid : Prop := gatherFitsRow.holds Try.pinned (OpenSpec.ofChange gatherFitsSpec)

/-- ITS FALSE NEIGHBOUR: 'it returns false'. Refute it at one input. -/
def gatherFitsWrong : ChangeSpec := { name := "gatherFits", fn := fun _ => fun
  | [d1, d2] => { results := [.lit (.bool false)], args := [d1, d2] }
  | _ => none }
def GatherFitsWrongFalsely : Prop := gatherFitsRow.holds Try.pinned (OpenSpec.ofChange gatherFitsWrong)

/-- 'ashlarlaw22.GatherSaved': WHATEVER THE INPUT: true; the input reads as it did. -/
def gatherSavedSpec : ChangeSpec := { name := "gatherSaved", fn := fun _ => fun
  | [d1, d2, d3, d4] => { results := [.lit (.bool true)], args := [d1, d2, d3, d4] }
  | _ => none }
def gatherSavedRow : OpenClaim := { program := "ytejgheoandfikaa", sum := "1ad048f11dfd7f99d008a5c9e15b518291dd9ff18836a6ba2fa232176140eca3", func := "ashlar/ashlarlaw22.GatherSaved", spec := "gatherSaved", unfollowed := true, recurses := true, apart := false }
def GatherSavedSaid : Prop := gatherSavedRow.holds Try.pinned (OpenSpec.ofChange gatherSavedSpec)

/-- ITS FALSE NEIGHBOUR: 'it returns false'. Refute it at one input. -/
def gatherSavedWrong : ChangeSpec := { name := "gatherSaved", fn := fun _ => fun
  | [d1, d2, d3, d4] => { results := [.lit (.bool false)], args := [d1, d2, d3, d4] }
  | _ => none }
def GatherSavedWrongFalsely : Prop := gatherSavedRow.holds Try.pinned (OpenSpec.ofChange gatherSavedWrong)

/- THE SECOND FORM. 'bulk': how many values and letters a reading holds, each counted each time it is reached (what is shared counts as often as it is met; a slice's spare places count too). A statement '..UptoSaid' is the law's where the arguments, and the package variables that the reading takes, are together of bulk at most 1048576: NARROWER than '..Said'. Prove '..Said' where nothing that the law and all that it calls make is longer than what came in: it says more and counts as full. Else prove '..UptoSaid'. A law counts once. -/
mutual
def uptoBulk {H : Type} : DataW H → Nat
  | .lit (.string bytes) => bytes.length + 1
  | .lit _ => 1
  | .nil => 1
  | .ptr d => uptoBulk d + 1
  | .slice elems spare => uptoBulkAll elems + uptoBulkAll spare + 1
  | .agg parts => uptoBulkAll parts + 1
  | .iface _ d => uptoBulk d + 1
  | .map entries => uptoBulkEntries entries + 1
  | .held _ => 1
def uptoBulkAll {H : Type} : List (DataW H) → Nat
  | [] => 0
  | d :: r => uptoBulk d + uptoBulkAll r
def uptoBulkEntries {H : Type} : List (Lit × DataW H) → Nat
  | [] => 0
  | x :: r => uptoBulkEntry x + uptoBulkEntries r
def uptoBulkEntry {H : Type} : Lit × DataW H → Nat
  | (.string bytes, d) => bytes.length + uptoBulk d + 1
  | (_, d) => uptoBulk d + 1
 end
def uptoSmall : (H : Type) → List (DataW H) → Bool := fun _ ds => decide (uptoBulkAll ds ≤ 1048576)
def OpenSpec.upto (s : _root_.Go.ChangeSpec) : _root_.Go.OpenSpec := { _root_.Go.OpenSpec.ofChange s with cond := some uptoSmall }

/-- 'ashlarlaw20.ShelfNew', WHERE WHAT IT READS IS OF BULK AT MOST 1048576: true; the input reads as it did. -/
def shelfNewUptoRow : OpenClaim := { program := "ytejgheoandfikaa", sum := "1ad048f11dfd7f99d008a5c9e15b518291dd9ff18836a6ba2fa232176140eca3", func := "ashlar/ashlarlaw20.ShelfNew", spec := "shelfNew", recurses := true, apart := false, narrowed := true }
def ShelfNewUptoSaid : Prop := shelfNewUptoRow.holds Try.pinned (OpenSpec.upto shelfNewSpec)

/-- 'ashlarlaw22.GatherFits', WHERE WHAT IT READS IS OF BULK AT MOST 1048576: true; the input reads as it did. -/
def gatherFitsUptoRow : OpenClaim := { program := "ytejgheoandfikaa", sum := "1ad048f11dfd7f99d008a5c9e15b518291dd9ff18836a6ba2fa232176140eca3", func := "ashlar/ashlarlaw22.GatherFits", spec := "gatherFits", unfollowed := true, recurses := true, apart := false, narrowed := true }
def GatherFitsUptoSaid : Prop := gatherFitsUptoRow.holds Try.pinned (OpenSpec.upto gatherFitsSpec)

/-- 'ashlarlaw22.GatherSaved', WHERE WHAT IT READS IS OF BULK AT MOST 1048576: true; the input reads as it did. -/
def gatherSavedUptoRow : OpenClaim := { program := "ytejgheoandfikaa", sum := "1ad048f11dfd7f99d008a5c9e15b518291dd9ff18836a6ba2fa232176140eca3", func := "ashlar/ashlarlaw22.GatherSaved", spec := "gatherSaved", unfollowed := true, recurses := true, apart := false, narrowed := true }
def GatherSavedUptoSaid : Prop := gatherSavedUptoRow.holds Try.pinned (OpenSpec.upto gatherSavedSpec)

end Rows
end Go.Proofs.Ytejgheoandfikaa
