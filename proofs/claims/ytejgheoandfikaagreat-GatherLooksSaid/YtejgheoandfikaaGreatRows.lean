/-
  No cell of these rows narrows 'for every input' (looked for: loops, veiled, ifaces, maps, wideKeys, modest, calm, conditions, laid).
  DERIVED. THE GIVEN ROWS OF THIS SEAT. 5 by the template 'for every input the law returns true; each argument reads behind the call as it read before'; 0 by the template 'total and deterministic' (their statements: YtejgheoandfikaaGreatTotals.lean).
  GIVEN WITH THE SEED: the statements are not yours to turn. If you find one false, say at which input.
  Laid BY PROGRAM, IN A SANDBOX (cutbox-rows.mjs): the forced cells as the released guide's own fill.sh prints them over the translation d120e21904e3b6de… (all of the seat's roots in one cut). By AI agents, Wed Nov 11 2026. No macro, syntax, notation, axiom, sorry.
-/
import Derived.Test.YtejgheoandfikaaGreatChecked
import GoSem.Claim
import GoSem.ClaimJoined
import GoSem.ClaimMapViews
import Derived.JoinedTies
import Derived.KernelRfl
namespace Go.Proofs.YtejgheoandfikaaGreat
/- THE CELL 'sum', in the pinned program and in every row, IS THE sha256 OF THE DUMP (.gsa) THAT YtejgheoandfikaaGreatProg.lean LOADS. Nothing in Lean hashes anything: it is a label: what it is worth is what the hold of that sum in a sandbox is worth. -/
noncomputable def Tryz.pinned : Pinned := { name := "ytejgheoandfikaagreat", sum := "d120e21904e3b6deb3ed2d77b08fa354d56b0ff298c7af742016260440169a74", checked := Tryz.checked }
namespace Rows
def none {H : Type} : Left H := { results := [], args := [] }

/-- 'ashlarlaw21.BackNil': WHATEVER THE INPUT: true; the input reads as it did. -/
def backNilSpec : ChangeSpec := { name := "backNil", fn := fun _ => fun
  | [d1, d2] => { results := [.lit (.bool true)], args := [d1, d2] }
  | _ => none }
def backNilRow : OpenClaim := { program := "ytejgheoandfikaagreat", sum := "d120e21904e3b6deb3ed2d77b08fa354d56b0ff298c7af742016260440169a74", func := "ashlar/ashlarlaw21.BackNil", spec := "backNil", unfollowed := true, recurses := true, apart := false }
def BackNilSaid : Prop := backNilRow.holds Tryz.pinned (OpenSpec.ofChange backNilSpec)

/-- ITS FALSE NEIGHBOUR: 'it returns false'. Refute it at one input. -/
def backNilWrong : ChangeSpec := { name := "backNil", fn := fun _ => fun
  | [d1, d2] => { results := [.lit (.bool false)], args := [d1, d2] }
  | _ => none }
def BackNilWrongFalsely : Prop := backNilRow.holds Tryz.pinned (OpenSpec.ofChange backNilWrong)

/-- 'ashlarlaw20.ShelfNil': WHATEVER THE INPUT: true; the input reads as it did. -/
def shelfNilSpec : ChangeSpec := { name := "shelfNil", fn := fun _ => fun
  | [d1, d2, d3] => { results := [.lit (.bool true)], args := [d1, d2, d3] }
  | _ => none }
def shelfNilRow : OpenClaim := { program := "ytejgheoandfikaagreat", sum := "d120e21904e3b6deb3ed2d77b08fa354d56b0ff298c7af742016260440169a74", func := "ashlar/ashlarlaw20.ShelfNil", spec := "shelfNil", unfollowed := true, recurses := true, apart := false }
def ShelfNilSaid : Prop := shelfNilRow.holds Tryz.pinned (OpenSpec.ofChange shelfNilSpec)

/-- ITS FALSE NEIGHBOUR: 'it returns false'. Refute it at one input. -/
def shelfNilWrong : ChangeSpec := { name := "shelfNil", fn := fun _ => fun
  | [d1, d2, d3] => { results := [.lit (.bool false)], args := [d1, d2, d3] }
  | _ => none }
def ShelfNilWrongFalsely : Prop := shelfNilRow.holds Tryz.pinned (OpenSpec.ofChange shelfNilWrong)

/-- 'ashlarlaw22.GatherLooks': WHATEVER THE INPUT: true; the input reads as it did. -/
def gatherLooksSpec : ChangeSpec := { name := "gatherLooks", fn := fun _ => fun
  | [d1, d2, d3, d4] => { results := [.lit (.bool true)], args := [d1, d2, d3, d4] }
  | _ => none }
def gatherLooksRow : OpenClaim := { program := "ytejgheoandfikaagreat", sum := "d120e21904e3b6deb3ed2d77b08fa354d56b0ff298c7af742016260440169a74", func := "ashlar/ashlarlaw22.GatherLooks", spec := "gatherLooks", unfollowed := true, recurses := true, apart := false }
def GatherLooksSaid : Prop := gatherLooksRow.holds Tryz.pinned (OpenSpec.ofChange gatherLooksSpec)

/-- ITS FALSE NEIGHBOUR: 'it returns false'. Refute it at one input. -/
def gatherLooksWrong : ChangeSpec := { name := "gatherLooks", fn := fun _ => fun
  | [d1, d2, d3, d4] => { results := [.lit (.bool false)], args := [d1, d2, d3, d4] }
  | _ => none }
def GatherLooksWrongFalsely : Prop := gatherLooksRow.holds Tryz.pinned (OpenSpec.ofChange gatherLooksWrong)

/-- 'ashlarlaw18.HullSaves': WHATEVER THE INPUT: true; the input reads as it did. -/
def hullSavesSpec : ChangeSpec := { name := "hullSaves", fn := fun _ => fun
  | [d1, d2, d3] => { results := [.lit (.bool true)], args := [d1, d2, d3] }
  | _ => none }
def hullSavesRow : OpenClaim := { program := "ytejgheoandfikaagreat", sum := "d120e21904e3b6deb3ed2d77b08fa354d56b0ff298c7af742016260440169a74", func := "ashlar/ashlarlaw18.HullSaves", spec := "hullSaves", unfollowed := true, recurses := true, apart := false }
def HullSavesSaid : Prop := hullSavesRow.holds Tryz.pinned (OpenSpec.ofChange hullSavesSpec)

/-- ITS FALSE NEIGHBOUR: 'it returns false'. Refute it at one input. -/
def hullSavesWrong : ChangeSpec := { name := "hullSaves", fn := fun _ => fun
  | [d1, d2, d3] => { results := [.lit (.bool false)], args := [d1, d2, d3] }
  | _ => none }
def HullSavesWrongFalsely : Prop := hullSavesRow.holds Tryz.pinned (OpenSpec.ofChange hullSavesWrong)

/-- 'ashlarlaw19.FetchSame': WHATEVER THE INPUT: true; the input reads as it did. -/
def fetchSameSpec : ChangeSpec := { name := "fetchSame", fn := fun _ => fun
  | [d1, d2, d3, d4] => { results := [.lit (.bool true)], args := [d1, d2, d3, d4] }
  | _ => none }
def fetchSameRow : OpenClaim := { program := "ytejgheoandfikaagreat", sum := "d120e21904e3b6deb3ed2d77b08fa354d56b0ff298c7af742016260440169a74", func := "ashlar/ashlarlaw19.FetchSame", spec := "fetchSame", unfollowed := true, recurses := true, apart := false }
def FetchSameSaid : Prop := fetchSameRow.holds Tryz.pinned (OpenSpec.ofChange fetchSameSpec)

/-- ITS FALSE NEIGHBOUR: 'it returns false'. Refute it at one input. -/
def fetchSameWrong : ChangeSpec := { name := "fetchSame", fn := fun _ => fun
  | [d1, d2, d3, d4] => { results := [.lit (.bool false)], args := [d1, d2, d3, d4] }
  | _ => none }
def FetchSameWrongFalsely : Prop := fetchSameRow.holds Tryz.pinned (OpenSpec.ofChange fetchSameWrong)

/- THE SECOND FORM. 'bulk': how many values and letters a reading holds, each counted each time it is reached (what is shared counts as often as it is met; a slice's spare places count too). A statement '..UptoSaid' is the law's where the arguments, and the package variables that the reading takes, are together of bulk at most 1048576: NARROWER than '..Said'. Prove '..Said' where nothing that the law and all that it calls make is longer than what came in: it says more and counts as full. Else prove '..UptoSaid'. A law counts once. -/
mutual
def uptoBulk {H : Type} : DataW H → Nat
  | .lit (.string bytes) => bytes.length + 1
  | .lit _ => 1
  | .nil => 1
  | .ptr d => uptoBulk d + 1
  | .slice elems spare => uptoBulkAll elems + uptoBulkAll spare + 1
  | .agg parts => uptoBulkAll parts + 1
  | .iface _ d => uptoBulk d + 1
  | .map entries => uptoBulkEntries entries + 1
  | .held _ => 1
def uptoBulkAll {H : Type} : List (DataW H) → Nat
  | [] => 0
  | d :: r => uptoBulk d + uptoBulkAll r
def uptoBulkEntries {H : Type} : List (Lit × DataW H) → Nat
  | [] => 0
  | x :: r => uptoBulkEntry x + uptoBulkEntries r
def uptoBulkEntry {H : Type} : Lit × DataW H → Nat
  | (.string bytes, d) => bytes.length + uptoBulk d + 1
  | (_, d) => uptoBulk d + 1
 end
def uptoSmall : (H : Type) → List (DataW H) → Bool := fun _ ds => decide (uptoBulkAll ds ≤ 1048576)
def OpenSpec.upto (s : _root_.Go.ChangeSpec) : _root_.Go.OpenSpec := { _root_.Go.OpenSpec.ofChange s with cond := some uptoSmall }

/-- 'ashlarlaw21.BackNil', WHERE WHAT IT READS IS OF BULK AT MOST 1048576: true; the input reads as it did. -/
def backNilUptoRow : OpenClaim := { program := "ytejgheoandfikaagreat", sum := "d120e21904e3b6deb3ed2d77b08fa354d56b0ff298c7af742016260440169a74", func := "ashlar/ashlarlaw21.BackNil", spec := "backNil", unfollowed := true, recurses := true, apart := false, narrowed := true }
def BackNilUptoSaid : Prop := backNilUptoRow.holds Tryz.pinned (OpenSpec.upto backNilSpec)

/-- 'ashlarlaw20.ShelfNil', WHERE WHAT IT READS IS OF BULK AT MOST 1048576: true; the input reads as it did. -/
def shelfNilUptoRow : OpenClaim := { program := "ytejgheoandfikaagreat", sum := "d120e21904e3b6deb3ed2d77b08fa354d56b0ff298c7af742016260440169a74", func := "ashlar/ashlarlaw20.ShelfNil", spec := "shelfNil", unfollowed := true, recurses := true, apart := false, narrowed := true }
def ShelfNilUptoSaid : Prop := shelfNilUptoRow.holds Tryz.pinned (OpenSpec.upto shelfNilSpec)

/-- 'ashlarlaw22.GatherLooks', WHERE WHAT IT READS IS OF BULK AT MOST 1048576: true; the input reads as it did. -/
def gatherLooksUptoRow : OpenClaim := { program := "ytejgheoandfikaagreat", sum := "d120e21904e3b6deb3ed2d77b08fa354d56b0ff298c7af742016260440169a74", func := "ashlar/ashlarlaw22.GatherLooks", spec := "gatherLooks", unfollowed := true, recurses := true, apart := false, narrowed := true }
def GatherLooksUptoSaid : Prop := gatherLooksUptoRow.holds Tryz.pinned (OpenSpec.upto gatherLooksSpec)

/-- 'ashlarlaw18.HullSaves', WHERE WHAT IT READS IS OF BULK AT MOST 1048576: true; the input reads as it did. -/
def hullSavesUptoRow : OpenClaim := { program := "ytejgheoandfikaagreat", sum := "d120e21904e3b6deb3ed2d77b08fa354d56b0ff298c7af742016260440169a74", func := "ashlar/ashlarlaw18.HullSaves", spec := "hullSaves", unfollowed := true, recurses := true, apart := false, narrowed := true }
def HullSavesUptoSaid : Prop := hullSavesUptoRow.holds Tryz.pinned (OpenSpec.upto hullSavesSpec)

/-- 'ashlarlaw19.FetchSame', WHERE WHAT IT READS IS OF BULK AT MOST 1048576: true; the input reads as it did. -/
def fetchSameUptoRow : OpenClaim := { program := "ytejgheoandfikaagreat", sum := "d120e21904e3b6deb3ed2d77b08fa354d56b0ff298c7af742016260440169a74", func := "ashlar/ashlarlaw19.FetchSame", spec := "fetchSame", unfollowed := true, recurses := true, apart := false, narrowed := true }
def FetchSameUptoSaid : Prop := fetchSameUptoRow.holds Tryz.pinned (OpenSpec.upto fetchSameSpec)

end Rows
end Go.Proofs.YtejgheoandfikaaGreat
