/-
  No cell of these rows narrows 'for every input' (looked for: loops, veiled, ifaces, maps, wideKeys, modest, calm, conditions, laid).
  DERIVED. THE GIVEN ROWS OF THIS SEAT. 12 by the template 'for every input the law returns true; each argument reads behind the call as it read before'; 0 by the template 'total and deterministic' (their statements: YtcelngepfdchiaaTotals.lean).
  GIVEN WITH THE SEED: the statements are not yours to turn. If you find one false, say at which input.
  Laid BY PROGRAM, IN A SANDBOX (cutbox-rows.mjs): the forced cells as the released guide's own fill.sh prints them over the translation 316f94f576ada183… (all of the seat's roots in one cut). By AI agents, Wed Nov 11 2026. No macro, syntax, notation, axiom, sorry.
-/
import Derived.Test.YtcelngepfdchiaaChecked
import GoSem.Claim
import GoSem.ClaimJoined
import GoSem.ClaimMapViews
import Derived.JoinedTies
import Derived.KernelRfl
namespace Go.Proofs.Ytcelngepfdchiaa
/- THE CELL 'sum', in the pinned program and in every row, IS THE sha256 OF THE DUMP (.gsa) THAT YtcelngepfdchiaaProg.lean LOADS. Nothing in Lean hashes anything: it is a label: what it is worth is what the hold of that sum in a sandbox is worth. -/
noncomputable def Try.pinned : Pinned := { name := "ytcelngepfdchiaa", sum := "316f94f576ada1833515445f106e14733c4d6b9503475c7bbf16e77ace44ecf4", checked := Try.checked }
namespace Rows
def none {H : Type} : Left H := { results := [], args := [] }

/-- 'ashlarlaw05.DiskSure': WHATEVER THE INPUT: true; the input reads as it did. -/
def diskSureSpec : ChangeSpec := { name := "diskSure", fn := fun _ => fun
  | [d1, d2, d3, d4, d5] => { results := [.lit (.bool true)], args := [d1, d2, d3, d4, d5] }
  | _ => none }
def diskSureRow : OpenClaim := { program := "ytcelngepfdchiaa", sum := "316f94f576ada1833515445f106e14733c4d6b9503475c7bbf16e77ace44ecf4", func := "ashlar/ashlarlaw05.DiskSure", spec := "diskSure", apart := false }
def DiskSureSaid : Prop := diskSureRow.holds Try.pinned (OpenSpec.ofChange diskSureSpec)

/-- ITS FALSE NEIGHBOUR: 'it returns false'. Refute it at one input. -/
def diskSureWrong : ChangeSpec := { name := "diskSure", fn := fun _ => fun
  | [d1, d2, d3, d4, d5] => { results := [.lit (.bool false)], args := [d1, d2, d3, d4, d5] }
  | _ => none }
def DiskSureWrongFalsely : Prop := diskSureRow.holds Try.pinned (OpenSpec.ofChange diskSureWrong)

/-- 'ashlarlaw05.DiskTorn': WHATEVER THE INPUT: true; the input reads as it did. -/
def diskTornSpec : ChangeSpec := { name := "diskTorn", fn := fun _ => fun
  | [d1, d2, d3, d4, d5] => { results := [.lit (.bool true)], args := [d1, d2, d3, d4, d5] }
  | _ => none }
def diskTornRow : OpenClaim := { program := "ytcelngepfdchiaa", sum := "316f94f576ada1833515445f106e14733c4d6b9503475c7bbf16e77ace44ecf4", func := "ashlar/ashlarlaw05.DiskTorn", spec := "diskTorn", apart := false }
def DiskTornSaid : Prop := diskTornRow.holds Try.pinned (OpenSpec.ofChange diskTornSpec)

/-- ITS FALSE NEIGHBOUR: 'it returns false'. Refute it at one input. -/
def diskTornWrong : ChangeSpec := { name := "diskTorn", fn := fun _ => fun
  | [d1, d2, d3, d4, d5] => { results := [.lit (.bool false)], args := [d1, d2, d3, d4, d5] }
  | _ => none }
def DiskTornWrongFalsely : Prop := diskTornRow.holds Try.pinned (OpenSpec.ofChange diskTornWrong)

/-- 'ashlarlaw05.DiskAll': WHATEVER THE INPUT: true; the input reads as it did. -/
def diskAllSpec : ChangeSpec := { name := "diskAll", fn := fun _ => fun
  | [d1, d2, d3] => { results := [.lit (.bool true)], args := [d1, d2, d3] }
  | _ => none }
def diskAllRow : OpenClaim := { program := "ytcelngepfdchiaa", sum := "316f94f576ada1833515445f106e14733c4d6b9503475c7bbf16e77ace44ecf4", func := "ashlar/ashlarlaw05.DiskAll", spec := "diskAll", apart := false }
def DiskAllSaid : Prop := diskAllRow.holds Try.pinned (OpenSpec.ofChange diskAllSpec)

/-- ITS FALSE NEIGHBOUR: 'it returns false'. Refute it at one input. -/
def diskAllWrong : ChangeSpec := { name := "diskAll", fn := fun _ => fun
  | [d1, d2, d3] => { results := [.lit (.bool false)], args := [d1, d2, d3] }
  | _ => none }
def DiskAllWrongFalsely : Prop := diskAllRow.holds Try.pinned (OpenSpec.ofChange diskAllWrong)

/-- 'ashlarlaw05.DiskPlays': WHATEVER THE INPUT: true; the input reads as it did. -/
def diskPlaysSpec : ChangeSpec := { name := "diskPlays", fn := fun _ => fun
  | [d1, d2] => { results := [.lit (.bool true)], args := [d1, d2] }
  | _ => none }
def diskPlaysRow : OpenClaim := { program := "ytcelngepfdchiaa", sum := "316f94f576ada1833515445f106e14733c4d6b9503475c7bbf16e77ace44ecf4", func := "ashlar/ashlarlaw05.DiskPlays", spec := "diskPlays", apart := false }
def DiskPlaysSaid : Prop := diskPlaysRow.holds Try.pinned (OpenSpec.ofChange diskPlaysSpec)

/-- ITS FALSE NEIGHBOUR: 'it returns false'. Refute it at one input. -/
def diskPlaysWrong : ChangeSpec := { name := "diskPlays", fn := fun _ => fun
  | [d1, d2] => { results := [.lit (.bool false)], args := [d1, d2] }
  | _ => none }
def DiskPlaysWrongFalsely : Prop := diskPlaysRow.holds Try.pinned (OpenSpec.ofChange diskPlaysWrong)

/-- 'ashlarlaw06.BenchArm': WHATEVER THE INPUT: true; the input reads as it did. -/
def benchArmSpec : ChangeSpec := { name := "benchArm", fn := fun _ => fun
  | [d1, d2] => { results := [.lit (.bool true)], args := [d1, d2] }
  | _ => none }
def benchArmRow : OpenClaim := { program := "ytcelngepfdchiaa", sum := "316f94f576ada1833515445f106e14733c4d6b9503475c7bbf16e77ace44ecf4", func := "ashlar/ashlarlaw06.BenchArm", spec := "benchArm", unfollowed := true, recurses := true, apart := false }
def BenchArmSaid : Prop := benchArmRow.holds Try.pinned (OpenSpec.ofChange benchArmSpec)

/-- ITS FALSE NEIGHBOUR: 'it returns false'. Refute it at one input. -/
def benchArmWrong : ChangeSpec := { name := "benchArm", fn := fun _ => fun
  | [d1, d2] => { results := [.lit (.bool false)], args := [d1, d2] }
  | _ => none }
def BenchArmWrongFalsely : Prop := benchArmRow.holds Try.pinned (OpenSpec.ofChange benchArmWrong)

/-- 'ashlarlaw06.BenchPlace': WHATEVER THE INPUT: true; the input reads as it did. -/
def benchPlaceSpec : ChangeSpec := { name := "benchPlace", fn := fun _ => fun
  | [d1, d2, d3] => { results := [.lit (.bool true)], args := [d1, d2, d3] }
  | _ => none }
def benchPlaceRow : OpenClaim := { program := "ytcelngepfdchiaa", sum := "316f94f576ada1833515445f106e14733c4d6b9503475c7bbf16e77ace44ecf4", func := "ashlar/ashlarlaw06.BenchPlace", spec := "benchPlace", unfollowed := true, recurses := true, apart := false }
def BenchPlaceSaid : Prop := benchPlaceRow.holds Try.pinned (OpenSpec.ofChange benchPlaceSpec)

/-- ITS FALSE NEIGHBOUR: 'it returns false'. Refute it at one input. -/
def benchPlaceWrong : ChangeSpec := { name := "benchPlace", fn := fun _ => fun
  | [d1, d2, d3] => { results := [.lit (.bool false)], args := [d1, d2, d3] }
  | _ => none }
def BenchPlaceWrongFalsely : Prop := benchPlaceRow.holds Try.pinned (OpenSpec.ofChange benchPlaceWrong)

/-- 'ashlarlaw06.BenchOwn': WHATEVER THE INPUT: true; the input reads as it did. -/
def benchOwnSpec : ChangeSpec := { name := "benchOwn", fn := fun _ => fun
  | [d1, d2] => { results := [.lit (.bool true)], args := [d1, d2] }
  | _ => none }
def benchOwnRow : OpenClaim := { program := "ytcelngepfdchiaa", sum := "316f94f576ada1833515445f106e14733c4d6b9503475c7bbf16e77ace44ecf4", func := "ashlar/ashlarlaw06.BenchOwn", spec := "benchOwn", unfollowed := true, recurses := true, apart := false }
def BenchOwnSaid : Prop := benchOwnRow.holds Try.pinned (OpenSpec.ofChange benchOwnSpec)

/-- ITS FALSE NEIGHBOUR: 'it returns false'. Refute it at one input. -/
def benchOwnWrong : ChangeSpec := { name := "benchOwn", fn := fun _ => fun
  | [d1, d2] => { results := [.lit (.bool false)], args := [d1, d2] }
  | _ => none }
def BenchOwnWrongFalsely : Prop := benchOwnRow.holds Try.pinned (OpenSpec.ofChange benchOwnWrong)

/-- 'ashlarlaw06.BenchPlays': WHATEVER THE INPUT: true; the input reads as it did. -/
def benchPlaysSpec : ChangeSpec := { name := "benchPlays", fn := fun _ => fun
  | [d1, d2] => { results := [.lit (.bool true)], args := [d1, d2] }
  | _ => none }
def benchPlaysRow : OpenClaim := { program := "ytcelngepfdchiaa", sum := "316f94f576ada1833515445f106e14733c4d6b9503475c7bbf16e77ace44ecf4", func := "ashlar/ashlarlaw06.BenchPlays", spec := "benchPlays", unfollowed := true, recurses := true, apart := false }
def BenchPlaysSaid : Prop := benchPlaysRow.holds Try.pinned (OpenSpec.ofChange benchPlaysSpec)

/-- ITS FALSE NEIGHBOUR: 'it returns false'. Refute it at one input. -/
def benchPlaysWrong : ChangeSpec := { name := "benchPlays", fn := fun _ => fun
  | [d1, d2] => { results := [.lit (.bool false)], args := [d1, d2] }
  | _ => none }
def BenchPlaysWrongFalsely : Prop := benchPlaysRow.holds Try.pinned (OpenSpec.ofChange benchPlaysWrong)

/-- 'ashlarlaw25.DraftPlays': WHATEVER THE INPUT: true; the input reads as it did. -/
def draftPlaysSpec : ChangeSpec := { name := "draftPlays", fn := fun _ => fun
  | [d1, d2] => { results := [.lit (.bool true)], args := [d1, d2] }
  | _ => none }
def draftPlaysRow : OpenClaim := { program := "ytcelngepfdchiaa", sum := "316f94f576ada1833515445f106e14733c4d6b9503475c7bbf16e77ace44ecf4", func := "ashlar/ashlarlaw25.DraftPlays", spec := "draftPlays", unfollowed := true, recurses := true, apart := false }
def DraftPlaysSaid : Prop := draftPlaysRow.holds Try.pinned (OpenSpec.ofChange draftPlaysSpec)

/-- ITS FALSE NEIGHBOUR: 'it returns false'. Refute it at one input. -/
def draftPlaysWrong : ChangeSpec := { name := "draftPlays", fn := fun _ => fun
  | [d1, d2] => { results := [.lit (.bool false)], args := [d1, d2] }
  | _ => none }
def DraftPlaysWrongFalsely : Prop := draftPlaysRow.holds Try.pinned (OpenSpec.ofChange draftPlaysWrong)

/-- 'ashlarlaw25.DraftNil': WHATEVER THE INPUT: true; the input reads as it did. -/
def draftNilSpec : ChangeSpec := { name := "draftNil", fn := fun _ => fun
  | [d1, d2, d3] => { results := [.lit (.bool true)], args := [d1, d2, d3] }
  | _ => none }
def draftNilRow : OpenClaim := { program := "ytcelngepfdchiaa", sum := "316f94f576ada1833515445f106e14733c4d6b9503475c7bbf16e77ace44ecf4", func := "ashlar/ashlarlaw25.DraftNil", spec := "draftNil", unfollowed := true, recurses := true, apart := false }
def DraftNilSaid : Prop := draftNilRow.holds Try.pinned (OpenSpec.ofChange draftNilSpec)

/-- ITS FALSE NEIGHBOUR: 'it returns false'. Refute it at one input. -/
def draftNilWrong : ChangeSpec := { name := "draftNil", fn := fun _ => fun
  | [d1, d2, d3] => { results := [.lit (.bool false)], args := [d1, d2, d3] }
  | _ => none }
def DraftNilWrongFalsely : Prop := draftNilRow.holds Try.pinned (OpenSpec.ofChange draftNilWrong)

/-- 'ashlarlaw22.GatherNil': WHATEVER THE INPUT: true; the input reads as it did. -/
def gatherNilSpec : ChangeSpec := { name := "gatherNil", fn := fun _ => fun
  | [d1, d2] => { results := [.lit (.bool true)], args := [d1, d2] }
  | _ => none }
def gatherNilRow : OpenClaim := { program := "ytcelngepfdchiaa", sum := "316f94f576ada1833515445f106e14733c4d6b9503475c7bbf16e77ace44ecf4", func := "ashlar/ashlarlaw22.GatherNil", spec := "gatherNil", unfollowed := true, recurses := true, apart := false }
def GatherNilSaid : Prop := gatherNilRow.holds Try.pinned (OpenSpec.ofChange gatherNilSpec)

/-- ITS FALSE NEIGHBOUR: 'it returns false'. Refute it at one input. -/
def gatherNilWrong : ChangeSpec := { name := "gatherNil", fn := fun _ => fun
  | [d1, d2] => { results := [.lit (.bool false)], args := [d1, d2] }
  | _ => none }
def GatherNilWrongFalsely : Prop := gatherNilRow.holds Try.pinned (OpenSpec.ofChange gatherNilWrong)

/-- 'ashlarlaw19.FetchNil': WHATEVER THE INPUT: true; the input reads as it did. -/
def fetchNilSpec : ChangeSpec := { name := "fetchNil", fn := fun _ => fun
  | [d1, d2] => { results := [.lit (.bool true)], args := [d1, d2] }
  | _ => none }
def fetchNilRow : OpenClaim := { program := "ytcelngepfdchiaa", sum := "316f94f576ada1833515445f106e14733c4d6b9503475c7bbf16e77ace44ecf4", func := "ashlar/ashlarlaw19.FetchNil", spec := "fetchNil", unfollowed := true, recurses := true, apart := false }
def FetchNilSaid : Prop := fetchNilRow.holds Try.pinned (OpenSpec.ofChange fetchNilSpec)

/-- ITS FALSE NEIGHBOUR: 'it returns false'. Refute it at one input. -/
def fetchNilWrong : ChangeSpec := { name := "fetchNil", fn := fun _ => fun
  | [d1, d2] => { results := [.lit (.bool false)], args := [d1, d2] }
  | _ => none }
def FetchNilWrongFalsely : Prop := fetchNilRow.holds Try.pinned (OpenSpec.ofChange fetchNilWrong)

/- THE SECOND FORM. 'bulk': how many values and letters a reading holds, each counted each time it is reached (what is shared counts as often as it is met; a slice's spare places count too). A statement '..UptoSaid' is the law's where the arguments, and the package variables that the reading takes, are together of bulk at most 1048576: NARROWER than '..Said'. Prove '..Said' where nothing that the law and all that it calls make is longer than what came in: it says more and counts as full. Else prove '..UptoSaid'. A law counts once. -/
mutual
def uptoBulk {H : Type} : DataW H → Nat
  | .lit (.string bytes) => bytes.length + 1
  | .lit _ => 1
  | .nil => 1
  | .ptr d => uptoBulk d + 1
  | .slice elems spare => uptoBulkAll elems + uptoBulkAll spare + 1
  | .agg parts => uptoBulkAll parts + 1
  | .iface _ d => uptoBulk d + 1
  | .map entries => uptoBulkEntries entries + 1
  | .held _ => 1
def uptoBulkAll {H : Type} : List (DataW H) → Nat
  | [] => 0
  | d :: r => uptoBulk d + uptoBulkAll r
def uptoBulkEntries {H : Type} : List (Lit × DataW H) → Nat
  | [] => 0
  | x :: r => uptoBulkEntry x + uptoBulkEntries r
def uptoBulkEntry {H : Type} : Lit × DataW H → Nat
  | (.string bytes, d) => bytes.length + uptoBulk d + 1
  | (_, d) => uptoBulk d + 1
 end
def uptoSmall : (H : Type) → List (DataW H) → Bool := fun _ ds => decide (uptoBulkAll ds ≤ 1048576)
def OpenSpec.upto (s : _root_.Go.ChangeSpec) : _root_.Go.OpenSpec := { _root_.Go.OpenSpec.ofChange s with cond := some uptoSmall }

/-- 'ashlarlaw05.DiskSure', WHERE WHAT IT READS IS OF BULK AT MOST 1048576: true; the input reads as it did. -/
def diskSureUptoRow : OpenClaim := { program := "ytcelngepfdchiaa", sum := "316f94f576ada1833515445f106e14733c4d6b9503475c7bbf16e77ace44ecf4", func := "ashlar/ashlarlaw05.DiskSure", spec := "diskSure", apart := false, narrowed := true }
def DiskSureUptoSaid : Prop := diskSureUptoRow.holds Try.pinned (OpenSpec.upto diskSureSpec)

/-- 'ashlarlaw05.DiskTorn', WHERE WHAT IT READS IS OF BULK AT MOST 1048576: true; the input reads as it did. -/
def diskTornUptoRow : OpenClaim := { program := "ytcelngepfdchiaa", sum := "316f94f576ada1833515445f106e14733c4d6b9503475c7bbf16e77ace44ecf4", func := "ashlar/ashlarlaw05.DiskTorn", spec := "diskTorn", apart := false, narrowed := true }
def DiskTornUptoSaid : Prop := diskTornUptoRow.holds Try.pinned (OpenSpec.upto diskTornSpec)

/-- 'ashlarlaw05.DiskAll', WHERE WHAT IT READS IS OF BULK AT MOST 1048576: true; the input reads as it did. -/
def diskAllUptoRow : OpenClaim := { program := "ytcelngepfdchiaa", sum := "316f94f576ada1833515445f106e14733c4d6b9503475c7bbf16e77ace44ecf4", func := "ashlar/ashlarlaw05.DiskAll", spec := "diskAll", apart := false, narrowed := true }
def DiskAllUptoSaid : Prop := diskAllUptoRow.holds Try.pinned (OpenSpec.upto diskAllSpec)

/-- 'ashlarlaw05.DiskPlays', WHERE WHAT IT READS IS OF BULK AT MOST 1048576: true; the input reads as it did. -/
def diskPlaysUptoRow : OpenClaim := { program := "ytcelngepfdchiaa", sum := "316f94f576ada1833515445f106e14733c4d6b9503475c7bbf16e77ace44ecf4", func := "ashlar/ashlarlaw05.DiskPlays", spec := "diskPlays", apart := false, narrowed := true }
def DiskPlaysUptoSaid : Prop := diskPlaysUptoRow.holds Try.pinned (OpenSpec.upto diskPlaysSpec)

/-- 'ashlarlaw06.BenchArm', WHERE WHAT IT READS IS OF BULK AT MOST 1048576: true; the input reads as it did. -/
def benchArmUptoRow : OpenClaim := { program := "ytcelngepfdchiaa", sum := "316f94f576ada1833515445f106e14733c4d6b9503475c7bbf16e77ace44ecf4", func := "ashlar/ashlarlaw06.BenchArm", spec := "benchArm", unfollowed := true, recurses := true, apart := false, narrowed := true }
def BenchArmUptoSaid : Prop := benchArmUptoRow.holds Try.pinned (OpenSpec.upto benchArmSpec)

/-- 'ashlarlaw06.BenchPlace', WHERE WHAT IT READS IS OF BULK AT MOST 1048576: true; the input reads as it did. -/
def benchPlaceUptoRow : OpenClaim := { program := "ytcelngepfdchiaa", sum := "316f94f576ada1833515445f106e14733c4d6b9503475c7bbf16e77ace44ecf4", func := "ashlar/ashlarlaw06.BenchPlace", spec := "benchPlace", unfollowed := true, recurses := true, apart := false, narrowed := true }
def BenchPlaceUptoSaid : Prop := benchPlaceUptoRow.holds Try.pinned (OpenSpec.upto benchPlaceSpec)

/-- 'ashlarlaw06.BenchOwn', WHERE WHAT IT READS IS OF BULK AT MOST 1048576: true; the input reads as it did. -/
def benchOwnUptoRow : OpenClaim := { program := "ytcelngepfdchiaa", sum := "316f94f576ada1833515445f106e14733c4d6b9503475c7bbf16e77ace44ecf4", func := "ashlar/ashlarlaw06.BenchOwn", spec := "benchOwn", unfollowed := true, recurses := true, apart := false, narrowed := true }
def BenchOwnUptoSaid : Prop := benchOwnUptoRow.holds Try.pinned (OpenSpec.upto benchOwnSpec)

/-- 'ashlarlaw06.BenchPlays', WHERE WHAT IT READS IS OF BULK AT MOST 1048576: true; the input reads as it did. -/
def benchPlaysUptoRow : OpenClaim := { program := "ytcelngepfdchiaa", sum := "316f94f576ada1833515445f106e14733c4d6b9503475c7bbf16e77ace44ecf4", func := "ashlar/ashlarlaw06.BenchPlays", spec := "benchPlays", unfollowed := true, recurses := true, apart := false, narrowed := true }
def BenchPlaysUptoSaid : Prop := benchPlaysUptoRow.holds Try.pinned (OpenSpec.upto benchPlaysSpec)

/-- 'ashlarlaw25.DraftPlays', WHERE WHAT IT READS IS OF BULK AT MOST 1048576: true; the input reads as it did. -/
def draftPlaysUptoRow : OpenClaim := { program := "ytcelngepfdchiaa", sum := "316f94f576ada1833515445f106e14733c4d6b9503475c7bbf16e77ace44ecf4", func := "ashlar/ashlarlaw25.DraftPlays", spec := "draftPlays", unfollowed := true, recurses := true, apart := false, narrowed := true }
def DraftPlaysUptoSaid : Prop := draftPlaysUptoRow.holds Try.pinned (OpenSpec.upto draftPlaysSpec)

/-- 'ashlarlaw25.DraftNil', WHERE WHAT IT READS IS OF BULK AT MOST 1048576: true; the input reads as it did. -/
def draftNilUptoRow : OpenClaim := { program := "ytcelngepfdchiaa", sum := "316f94f576ada1833515445f106e14733c4d6b9503475c7bbf16e77ace44ecf4", func := "ashlar/ashlarlaw25.DraftNil", spec := "draftNil", unfollowed := true, recurses := true, apart := false, narrowed := true }
def DraftNilUptoSaid : Prop := draftNilUptoRow.holds Try.pinned (OpenSpec.upto draftNilSpec)

/-- 'ashlarlaw22.GatherNil', WHERE WHAT IT READS IS OF BULK AT MOST 1048576: true; the input reads as it did. -/
def gatherNilUptoRow : OpenClaim := { program := "ytcelngepfdchiaa", sum := "316f94f576ada1833515445f106e14733c4d6b9503475c7bbf16e77ace44ecf4", func := "ashlar/ashlarlaw22.GatherNil", spec := "gatherNil", unfollowed := true, recurses := true, apart := false, narrowed := true }
def GatherNilUptoSaid : Prop := gatherNilUptoRow.holds Try.pinned (OpenSpec.upto gatherNilSpec)

/-- 'ashlarlaw19.FetchNil', WHERE WHAT IT READS IS OF BULK AT MOST 1048576: true; the input reads as it did. -/
def fetchNilUptoRow : OpenClaim := { program := "ytcelngepfdchiaa", sum := "316f94f576ada1833515445f106e14733c4d6b9503475c7bbf16e77ace44ecf4", func := "ashlar/ashlarlaw19.FetchNil", spec := "fetchNil", unfollowed := true, recurses := true, apart := false, narrowed := true }
def FetchNilUptoSaid : Prop := fetchNilUptoRow.holds Try.pinned (OpenSpec.upto fetchNilSpec)

end Rows
end Go.Proofs.Ytcelngepfdchiaa
