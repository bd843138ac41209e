/-
  NARROWER THAN 'FOR EVERY INPUT', by the rows' own cells (each row's printed sentence says how): ReplayNil: laid · ScrubNil: laid · LogOpens: laid.
  DERIVED. THE GIVEN ROWS OF THIS SEAT. 3 by the template 'for every input the law returns true; each argument reads behind the call as it read before'; 0 by the template 'total and deterministic' (their statements: YtejgheoandfikaaGreatDoorTotals.lean).
  GIVEN WITH THE SEED: the statements are not yours to turn. If you find one false, say at which input.
  Laid BY PROGRAM, IN A SANDBOX (cutbox-rows.mjs): the forced cells as the released guide's own fill.sh prints them over the translation af978425229ab257… (all of the seat's roots in one cut). By AI agents, Wed Nov 11 2026. No macro, syntax, notation, axiom, sorry.
-/
import Derived.Test.YtejgheoandfikaaGreatDoorChecked
import GoSem.Claim
import GoSem.ClaimJoined
import GoSem.ClaimMapViews
import Derived.JoinedTies
import Derived.KernelRfl
namespace Go.Proofs.YtejgheoandfikaaGreatDoor
/- THE CELL 'sum', in the pinned program and in every row, IS THE sha256 OF THE DUMP (.gsa) THAT YtejgheoandfikaaGreatDoorProg.lean LOADS. Nothing in Lean hashes anything: it is a label: what it is worth is what the hold of that sum in a sandbox is worth. -/
noncomputable def Tryz.pinned : Pinned := { name := "ytejgheoandfikaagreatdoor", sum := "af978425229ab257417d89a8fd913da470f651f60852c017e60bb11b663069a1", checked := Tryz.checked }
namespace Rows
def none {H : Type} : Left H := { results := [], args := [] }

/- WHAT THE LISTED PACKAGE-LEVEL VARIABLES READ AS WHEN THE CALL BEGINS. Each datum BY PROGRAM (the guide's laid-datum.mjs) off the statement by which the dump's own 'gosem.cut.vars' lays the variable. In a bare row this is a premise. The card (YtejgheoandfikaaGreatDoorCards.lean) ties it to the program's text. -/
def laid_ashlar_mark_sizes {H : Type} : DataW H := .agg [.lit (.int .i64 8), .lit (.int .i64 2), .lit (.int .i64 8), .lit (.int .i64 8)]

/-- 'ashlarlaw23.ReplayNil': WHATEVER THE INPUT: true; the input reads as it did. -/
def replayNilSpec : ChangeSpec := { name := "replayNil", fn := fun _ => fun
  | [d1, d2] => { results := [.lit (.bool true)], args := [d1, d2] }
  | _ => none }
def replayNilRow : OpenClaim := { program := "ytejgheoandfikaagreatdoor", sum := "af978425229ab257417d89a8fd913da470f651f60852c017e60bb11b663069a1", func := "ashlar/ashlarlaw23.ReplayNil", spec := "replayNil", unfollowed := true, recurses := true, named := ["ashlar/mark.sizes"], apart := false, laid := [("ashlar/mark.sizes", laid_ashlar_mark_sizes)] }
def ReplayNilSaid : Prop := replayNilRow.holds Tryz.pinned (OpenSpec.ofChange replayNilSpec)

/-- ITS FALSE NEIGHBOUR: 'it returns false'. Refute it at one input. -/
def replayNilWrong : ChangeSpec := { name := "replayNil", fn := fun _ => fun
  | [d1, d2] => { results := [.lit (.bool false)], args := [d1, d2] }
  | _ => none }
def ReplayNilWrongFalsely : Prop := replayNilRow.holds Tryz.pinned (OpenSpec.ofChange replayNilWrong)

/-- 'ashlarlaw28.ScrubNil': WHATEVER THE INPUT: true; the input reads as it did. -/
def scrubNilSpec : ChangeSpec := { name := "scrubNil", fn := fun _ => fun
  | [d1, d2] => { results := [.lit (.bool true)], args := [d1, d2] }
  | _ => none }
def scrubNilRow : OpenClaim := { program := "ytejgheoandfikaagreatdoor", sum := "af978425229ab257417d89a8fd913da470f651f60852c017e60bb11b663069a1", func := "ashlar/ashlarlaw28.ScrubNil", spec := "scrubNil", unfollowed := true, recurses := true, named := ["ashlar/mark.sizes"], apart := false, laid := [("ashlar/mark.sizes", laid_ashlar_mark_sizes)] }
def ScrubNilSaid : Prop := scrubNilRow.holds Tryz.pinned (OpenSpec.ofChange scrubNilSpec)

/-- ITS FALSE NEIGHBOUR: 'it returns false'. Refute it at one input. -/
def scrubNilWrong : ChangeSpec := { name := "scrubNil", fn := fun _ => fun
  | [d1, d2] => { results := [.lit (.bool false)], args := [d1, d2] }
  | _ => none }
def ScrubNilWrongFalsely : Prop := scrubNilRow.holds Tryz.pinned (OpenSpec.ofChange scrubNilWrong)

/-- 'ashlarlaw14.LogOpens': WHATEVER THE INPUT: true; the input reads as it did. -/
def logOpensSpec : ChangeSpec := { name := "logOpens", fn := fun _ => fun
  | [d1, d2] => { results := [.lit (.bool true)], args := [d1, d2] }
  | _ => none }
def logOpensRow : OpenClaim := { program := "ytejgheoandfikaagreatdoor", sum := "af978425229ab257417d89a8fd913da470f651f60852c017e60bb11b663069a1", func := "ashlar/ashlarlaw14.LogOpens", spec := "logOpens", unfollowed := true, recurses := true, named := ["ashlar/mark.sizes"], apart := false, laid := [("ashlar/mark.sizes", laid_ashlar_mark_sizes)] }
def LogOpensSaid : Prop := logOpensRow.holds Tryz.pinned (OpenSpec.ofChange logOpensSpec)

/-- ITS FALSE NEIGHBOUR: 'it returns false'. Refute it at one input. -/
def logOpensWrong : ChangeSpec := { name := "logOpens", fn := fun _ => fun
  | [d1, d2] => { results := [.lit (.bool false)], args := [d1, d2] }
  | _ => none }
def LogOpensWrongFalsely : Prop := logOpensRow.holds Tryz.pinned (OpenSpec.ofChange logOpensWrong)

/- THE SECOND FORM. 'bulk': how many values and letters a reading holds, each counted each time it is reached (what is shared counts as often as it is met; a slice's spare places count too). A statement '..UptoSaid' is the law's where the arguments, and the package variables that the reading takes, are together of bulk at most 1048576: NARROWER than '..Said'. Prove '..Said' where nothing that the law and all that it calls make is longer than what came in: it says more and counts as full. Else prove '..UptoSaid'. A law counts once. -/
mutual
def uptoBulk {H : Type} : DataW H → Nat
  | .lit (.string bytes) => bytes.length + 1
  | .lit _ => 1
  | .nil => 1
  | .ptr d => uptoBulk d + 1
  | .slice elems spare => uptoBulkAll elems + uptoBulkAll spare + 1
  | .agg parts => uptoBulkAll parts + 1
  | .iface _ d => uptoBulk d + 1
  | .map entries => uptoBulkEntries entries + 1
  | .held _ => 1
def uptoBulkAll {H : Type} : List (DataW H) → Nat
  | [] => 0
  | d :: r => uptoBulk d + uptoBulkAll r
def uptoBulkEntries {H : Type} : List (Lit × DataW H) → Nat
  | [] => 0
  | x :: r => uptoBulkEntry x + uptoBulkEntries r
def uptoBulkEntry {H : Type} : Lit × DataW H → Nat
  | (.string bytes, d) => bytes.length + uptoBulk d + 1
  | (_, d) => uptoBulk d + 1
 end
def uptoSmall : (H : Type) → List (DataW H) → Bool := fun _ ds => decide (uptoBulkAll ds ≤ 1048576)
def OpenSpec.upto (s : _root_.Go.ChangeSpec) : _root_.Go.OpenSpec := { _root_.Go.OpenSpec.ofChange s with cond := some uptoSmall }

/-- 'ashlarlaw23.ReplayNil', WHERE WHAT IT READS IS OF BULK AT MOST 1048576: true; the input reads as it did. -/
def replayNilUptoRow : OpenClaim := { program := "ytejgheoandfikaagreatdoor", sum := "af978425229ab257417d89a8fd913da470f651f60852c017e60bb11b663069a1", func := "ashlar/ashlarlaw23.ReplayNil", spec := "replayNil", unfollowed := true, recurses := true, named := ["ashlar/mark.sizes"], apart := false, laid := [("ashlar/mark.sizes", laid_ashlar_mark_sizes)], narrowed := true }
def ReplayNilUptoSaid : Prop := replayNilUptoRow.holds Tryz.pinned (OpenSpec.upto replayNilSpec)

/-- 'ashlarlaw28.ScrubNil', WHERE WHAT IT READS IS OF BULK AT MOST 1048576: true; the input reads as it did. -/
def scrubNilUptoRow : OpenClaim := { program := "ytejgheoandfikaagreatdoor", sum := "af978425229ab257417d89a8fd913da470f651f60852c017e60bb11b663069a1", func := "ashlar/ashlarlaw28.ScrubNil", spec := "scrubNil", unfollowed := true, recurses := true, named := ["ashlar/mark.sizes"], apart := false, laid := [("ashlar/mark.sizes", laid_ashlar_mark_sizes)], narrowed := true }
def ScrubNilUptoSaid : Prop := scrubNilUptoRow.holds Tryz.pinned (OpenSpec.upto scrubNilSpec)

/-- 'ashlarlaw14.LogOpens', WHERE WHAT IT READS IS OF BULK AT MOST 1048576: true; the input reads as it did. -/
def logOpensUptoRow : OpenClaim := { program := "ytejgheoandfikaagreatdoor", sum := "af978425229ab257417d89a8fd913da470f651f60852c017e60bb11b663069a1", func := "ashlar/ashlarlaw14.LogOpens", spec := "logOpens", unfollowed := true, recurses := true, named := ["ashlar/mark.sizes"], apart := false, laid := [("ashlar/mark.sizes", laid_ashlar_mark_sizes)], narrowed := true }
def LogOpensUptoSaid : Prop := logOpensUptoRow.holds Tryz.pinned (OpenSpec.upto logOpensSpec)

end Rows
end Go.Proofs.YtejgheoandfikaaGreatDoor
