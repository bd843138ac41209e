/-
  NARROWER THAN 'FOR EVERY INPUT', by the rows' own cells (each row's printed sentence says how): LogRoom: laid · LogSpoilt: laid · LogCuts: laid.
  DERIVED. THE GIVEN ROWS OF THIS SEAT. 3 by the template 'for every input the law returns true; each argument reads behind the call as it read before'; 0 by the template 'total and deterministic' (their statements: YtabebpemfinejaaDoorTotals.lean).
  GIVEN WITH THE SEED: the statements are not yours to turn. If you find one false, say at which input.
  Laid BY PROGRAM, IN A SANDBOX (cutbox-rows.mjs): the forced cells as the released guide's own fill.sh prints them over the translation 4fe9efc3a026795b… (all of the seat's roots in one cut). By AI agents, Wed Nov 11 2026. No macro, syntax, notation, axiom, sorry.
-/
import Derived.Test.YtabebpemfinejaaDoorChecked
import GoSem.Claim
import GoSem.ClaimJoined
import GoSem.ClaimMapViews
import Derived.JoinedTies
import Derived.KernelRfl
namespace Go.Proofs.YtabebpemfinejaaDoor
/- THE CELL 'sum', in the pinned program and in every row, IS THE sha256 OF THE DUMP (.gsa) THAT YtabebpemfinejaaDoorProg.lean LOADS. Nothing in Lean hashes anything: it is a label: what it is worth is what the hold of that sum in a sandbox is worth. -/
noncomputable def Tryd.pinned : Pinned := { name := "ytabebpemfinejaadoor", sum := "4fe9efc3a026795b1a88ec29118667c0b0f406ca029fe1102981ef159865158c", checked := Tryd.checked }
namespace Rows
def none {H : Type} : Left H := { results := [], args := [] }

/- WHAT THE LISTED PACKAGE-LEVEL VARIABLES READ AS WHEN THE CALL BEGINS. Each datum BY PROGRAM (the guide's laid-datum.mjs) off the statement by which the dump's own 'gosem.cut.vars' lays the variable. In a bare row this is a premise. The card (YtabebpemfinejaaDoorCards.lean) ties it to the program's text. -/
def laid_ashlar_mark_sizes {H : Type} : DataW H := .agg [.lit (.int .i64 8), .lit (.int .i64 2), .lit (.int .i64 8), .lit (.int .i64 8)]

/-- 'ashlarlaw14.LogRoom': WHATEVER THE INPUT: true; the input reads as it did. -/
def logRoomSpec : ChangeSpec := { name := "logRoom", fn := fun _ => fun
  | [d1, d2] => { results := [.lit (.bool true)], args := [d1, d2] }
  | _ => none }
def logRoomRow : OpenClaim := { program := "ytabebpemfinejaadoor", sum := "4fe9efc3a026795b1a88ec29118667c0b0f406ca029fe1102981ef159865158c", func := "ashlar/ashlarlaw14.LogRoom", spec := "logRoom", unfollowed := true, recurses := true, named := ["ashlar/mark.sizes"], apart := false, laid := [("ashlar/mark.sizes", laid_ashlar_mark_sizes)] }
def LogRoomSaid : Prop := logRoomRow.holds Tryd.pinned (OpenSpec.ofChange logRoomSpec)

/-- ITS FALSE NEIGHBOUR: 'it returns false'. Refute it at one input. -/
def logRoomWrong : ChangeSpec := { name := "logRoom", fn := fun _ => fun
  | [d1, d2] => { results := [.lit (.bool false)], args := [d1, d2] }
  | _ => none }
def LogRoomWrongFalsely : Prop := logRoomRow.holds Tryd.pinned (OpenSpec.ofChange logRoomWrong)

/-- 'ashlarlaw14.LogSpoilt': WHATEVER THE INPUT: true; the input reads as it did. -/
def logSpoiltSpec : ChangeSpec := { name := "logSpoilt", fn := fun _ => fun
  | [d1, d2, d3, d4] => { results := [.lit (.bool true)], args := [d1, d2, d3, d4] }
  | _ => none }
def logSpoiltRow : OpenClaim := { program := "ytabebpemfinejaadoor", sum := "4fe9efc3a026795b1a88ec29118667c0b0f406ca029fe1102981ef159865158c", func := "ashlar/ashlarlaw14.LogSpoilt", spec := "logSpoilt", unfollowed := true, recurses := true, named := ["ashlar/mark.sizes"], apart := false, laid := [("ashlar/mark.sizes", laid_ashlar_mark_sizes)] }
def LogSpoiltSaid : Prop := logSpoiltRow.holds Tryd.pinned (OpenSpec.ofChange logSpoiltSpec)

/-- ITS FALSE NEIGHBOUR: 'it returns false'. Refute it at one input. -/
def logSpoiltWrong : ChangeSpec := { name := "logSpoilt", fn := fun _ => fun
  | [d1, d2, d3, d4] => { results := [.lit (.bool false)], args := [d1, d2, d3, d4] }
  | _ => none }
def LogSpoiltWrongFalsely : Prop := logSpoiltRow.holds Tryd.pinned (OpenSpec.ofChange logSpoiltWrong)

/-- 'ashlarlaw14.LogCuts': WHATEVER THE INPUT: true; the input reads as it did. -/
def logCutsSpec : ChangeSpec := { name := "logCuts", fn := fun _ => fun
  | [d1, d2, d3, d4] => { results := [.lit (.bool true)], args := [d1, d2, d3, d4] }
  | _ => none }
def logCutsRow : OpenClaim := { program := "ytabebpemfinejaadoor", sum := "4fe9efc3a026795b1a88ec29118667c0b0f406ca029fe1102981ef159865158c", func := "ashlar/ashlarlaw14.LogCuts", spec := "logCuts", unfollowed := true, recurses := true, named := ["ashlar/mark.sizes"], apart := false, laid := [("ashlar/mark.sizes", laid_ashlar_mark_sizes)] }
def LogCutsSaid : Prop := logCutsRow.holds Tryd.pinned (OpenSpec.ofChange logCutsSpec)

/-- ITS FALSE NEIGHBOUR: 'it returns false'. Refute it at one input. -/
def logCutsWrong : ChangeSpec := { name := "logCuts", fn := fun _ => fun
  | [d1, d2, d3, d4] => { results := [.lit (.bool false)], args := [d1, d2, d3, d4] }
  | _ => none }
def LogCutsWrongFalsely : Prop := logCutsRow.holds Tryd.pinned (OpenSpec.ofChange logCutsWrong)

/- THE SECOND FORM. 'bulk': how many values and letters a reading holds, each counted each time it is reached (what is shared counts as often as it is met; a slice's spare places count too). A statement '..UptoSaid' is the law's where the arguments, and the package variables that the reading takes, are together of bulk at most 1048576: NARROWER than '..Said'. Prove '..Said' where nothing that the law and all that it calls make is longer than what came in: it says more and counts as full. Else prove '..UptoSaid'. A law counts once. -/
mutual
def uptoBulk {H : Type} : DataW H → Nat
  | .lit (.string bytes) => bytes.length + 1
  | .lit _ => 1
  | .nil => 1
  | .ptr d => uptoBulk d + 1
  | .slice elems spare => uptoBulkAll elems + uptoBulkAll spare + 1
  | .agg parts => uptoBulkAll parts + 1
  | .iface _ d => uptoBulk d + 1
  | .map entries => uptoBulkEntries entries + 1
  | .held _ => 1
def uptoBulkAll {H : Type} : List (DataW H) → Nat
  | [] => 0
  | d :: r => uptoBulk d + uptoBulkAll r
def uptoBulkEntries {H : Type} : List (Lit × DataW H) → Nat
  | [] => 0
  | x :: r => uptoBulkEntry x + uptoBulkEntries r
def uptoBulkEntry {H : Type} : Lit × DataW H → Nat
  | (.string bytes, d) => bytes.length + uptoBulk d + 1
  | (_, d) => uptoBulk d + 1
 end
def uptoSmall : (H : Type) → List (DataW H) → Bool := fun _ ds => decide (uptoBulkAll ds ≤ 1048576)
def OpenSpec.upto (s : _root_.Go.ChangeSpec) : _root_.Go.OpenSpec := { _root_.Go.OpenSpec.ofChange s with cond := some uptoSmall }

/-- 'ashlarlaw14.LogRoom', WHERE WHAT IT READS IS OF BULK AT MOST 1048576: true; the input reads as it did. -/
def logRoomUptoRow : OpenClaim := { program := "ytabebpemfinejaadoor", sum := "4fe9efc3a026795b1a88ec29118667c0b0f406ca029fe1102981ef159865158c", func := "ashlar/ashlarlaw14.LogRoom", spec := "logRoom", unfollowed := true, recurses := true, named := ["ashlar/mark.sizes"], apart := false, laid := [("ashlar/mark.sizes", laid_ashlar_mark_sizes)], narrowed := true }
def LogRoomUptoSaid : Prop := logRoomUptoRow.holds Tryd.pinned (OpenSpec.upto logRoomSpec)

/-- 'ashlarlaw14.LogSpoilt', WHERE WHAT IT READS IS OF BULK AT MOST 1048576: true; the input reads as it did. -/
def logSpoiltUptoRow : OpenClaim := { program := "ytabebpemfinejaadoor", sum := "4fe9efc3a026795b1a88ec29118667c0b0f406ca029fe1102981ef159865158c", func := "ashlar/ashlarlaw14.LogSpoilt", spec := "logSpoilt", unfollowed := true, recurses := true, named := ["ashlar/mark.sizes"], apart := false, laid := [("ashlar/mark.sizes", laid_ashlar_mark_sizes)], narrowed := true }
def LogSpoiltUptoSaid : Prop := logSpoiltUptoRow.holds Tryd.pinned (OpenSpec.upto logSpoiltSpec)

/-- 'ashlarlaw14.LogCuts', WHERE WHAT IT READS IS OF BULK AT MOST 1048576: true; the input reads as it did. -/
def logCutsUptoRow : OpenClaim := { program := "ytabebpemfinejaadoor", sum := "4fe9efc3a026795b1a88ec29118667c0b0f406ca029fe1102981ef159865158c", func := "ashlar/ashlarlaw14.LogCuts", spec := "logCuts", unfollowed := true, recurses := true, named := ["ashlar/mark.sizes"], apart := false, laid := [("ashlar/mark.sizes", laid_ashlar_mark_sizes)], narrowed := true }
def LogCutsUptoSaid : Prop := logCutsUptoRow.holds Tryd.pinned (OpenSpec.upto logCutsSpec)

end Rows
end Go.Proofs.YtabebpemfinejaaDoor
