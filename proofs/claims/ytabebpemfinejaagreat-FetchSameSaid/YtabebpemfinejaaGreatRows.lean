/-
  No cell of these rows narrows 'for every input' (looked for: loops, veiled, ifaces, maps, wideKeys, modest, calm, conditions, laid).
  DERIVED. THE GIVEN ROWS OF THIS SEAT. 5 by the template 'for every input the law returns true; each argument reads behind the call as it read before'; 0 by the template 'total and deterministic' (their statements: YtabebpemfinejaaGreatTotals.lean).
  GIVEN WITH THE SEED: the statements are not yours to turn. If you find one false, say at which input.
  Laid BY PROGRAM, IN A SANDBOX (cutbox-rows.mjs): the forced cells as the released guide's own fill.sh prints them over the translation 3258d6ad3aef3769… (all of the seat's roots in one cut). By AI agents, Wed Nov 11 2026. No macro, syntax, notation, axiom, sorry.
-/
import Derived.Test.YtabebpemfinejaaGreatChecked
import GoSem.Claim
import GoSem.ClaimJoined
import GoSem.ClaimMapViews
import Derived.JoinedTies
import Derived.KernelRfl
namespace Go.Proofs.YtabebpemfinejaaGreat
/- THE CELL 'sum', in the pinned program and in every row, IS THE sha256 OF THE DUMP (.gsa) THAT YtabebpemfinejaaGreatProg.lean LOADS. Nothing in Lean hashes anything: it is a label: what it is worth is what the hold of that sum in a sandbox is worth. -/
noncomputable def Tryz.pinned : Pinned := { name := "ytabebpemfinejaagreat", sum := "3258d6ad3aef376901f7c37aea1070367bbd8613c2ccccd7815941dc4922f267", checked := Tryz.checked }
namespace Rows
def none {H : Type} : Left H := { results := [], args := [] }

/-- 'ashlarlaw18.HullSaves': WHATEVER THE INPUT: true; the input reads as it did. -/
def hullSavesSpec : ChangeSpec := { name := "hullSaves", fn := fun _ => fun
  | [d1, d2, d3] => { results := [.lit (.bool true)], args := [d1, d2, d3] }
  | _ => none }
def hullSavesRow : OpenClaim := { program := "ytabebpemfinejaagreat", sum := "3258d6ad3aef376901f7c37aea1070367bbd8613c2ccccd7815941dc4922f267", func := "ashlar/ashlarlaw18.HullSaves", spec := "hullSaves", unfollowed := true, recurses := true, apart := false }
def HullSavesSaid : Prop := hullSavesRow.holds Tryz.pinned (OpenSpec.ofChange hullSavesSpec)

/-- ITS FALSE NEIGHBOUR: 'it returns false'. Refute it at one input. -/
def hullSavesWrong : ChangeSpec := { name := "hullSaves", fn := fun _ => fun
  | [d1, d2, d3] => { results := [.lit (.bool false)], args := [d1, d2, d3] }
  | _ => none }
def HullSavesWrongFalsely : Prop := hullSavesRow.holds Tryz.pinned (OpenSpec.ofChange hullSavesWrong)

/-- 'ashlarlaw19.FetchSame': WHATEVER THE INPUT: true; the input reads as it did. -/
def fetchSameSpec : ChangeSpec := { name := "fetchSame", fn := fun _ => fun
  | [d1, d2, d3, d4] => { results := [.lit (.bool true)], args := [d1, d2, d3, d4] }
  | _ => none }
def fetchSameRow : OpenClaim := { program := "ytabebpemfinejaagreat", sum := "3258d6ad3aef376901f7c37aea1070367bbd8613c2ccccd7815941dc4922f267", func := "ashlar/ashlarlaw19.FetchSame", spec := "fetchSame", unfollowed := true, recurses := true, apart := false }
def FetchSameSaid : Prop := fetchSameRow.holds Tryz.pinned (OpenSpec.ofChange fetchSameSpec)

/-- ITS FALSE NEIGHBOUR: 'it returns false'. Refute it at one input. -/
def fetchSameWrong : ChangeSpec := { name := "fetchSame", fn := fun _ => fun
  | [d1, d2, d3, d4] => { results := [.lit (.bool false)], args := [d1, d2, d3, d4] }
  | _ => none }
def FetchSameWrongFalsely : Prop := fetchSameRow.holds Tryz.pinned (OpenSpec.ofChange fetchSameWrong)

/-- 'ashlarlaw21.BackHome': WHATEVER THE INPUT: true; the input reads as it did. -/
def backHomeSpec : ChangeSpec := { name := "backHome", fn := fun _ => fun
  | [d1, d2, d3] => { results := [.lit (.bool true)], args := [d1, d2, d3] }
  | _ => none }
def backHomeRow : OpenClaim := { program := "ytabebpemfinejaagreat", sum := "3258d6ad3aef376901f7c37aea1070367bbd8613c2ccccd7815941dc4922f267", func := "ashlar/ashlarlaw21.BackHome", spec := "backHome", unfollowed := true, recurses := true, apart := false }
def BackHomeSaid : Prop := backHomeRow.holds Tryz.pinned (OpenSpec.ofChange backHomeSpec)

/-- ITS FALSE NEIGHBOUR: 'it returns false'. Refute it at one input. -/
def backHomeWrong : ChangeSpec := { name := "backHome", fn := fun _ => fun
  | [d1, d2, d3] => { results := [.lit (.bool false)], args := [d1, d2, d3] }
  | _ => none }
def BackHomeWrongFalsely : Prop := backHomeRow.holds Tryz.pinned (OpenSpec.ofChange backHomeWrong)

/-- 'ashlarlaw20.ShelfKeeps': WHATEVER THE INPUT: true; the input reads as it did. -/
def shelfKeepsSpec : ChangeSpec := { name := "shelfKeeps", fn := fun _ => fun
  | [d1, d2, d3, d4, d5] => { results := [.lit (.bool true)], args := [d1, d2, d3, d4, d5] }
  | _ => none }
def shelfKeepsRow : OpenClaim := { program := "ytabebpemfinejaagreat", sum := "3258d6ad3aef376901f7c37aea1070367bbd8613c2ccccd7815941dc4922f267", func := "ashlar/ashlarlaw20.ShelfKeeps", spec := "shelfKeeps", unfollowed := true, recurses := true, apart := false }
def ShelfKeepsSaid : Prop := shelfKeepsRow.holds Tryz.pinned (OpenSpec.ofChange shelfKeepsSpec)

/-- ITS FALSE NEIGHBOUR: 'it returns false'. Refute it at one input. -/
def shelfKeepsWrong : ChangeSpec := { name := "shelfKeeps", fn := fun _ => fun
  | [d1, d2, d3, d4, d5] => { results := [.lit (.bool false)], args := [d1, d2, d3, d4, d5] }
  | _ => none }
def ShelfKeepsWrongFalsely : Prop := shelfKeepsRow.holds Tryz.pinned (OpenSpec.ofChange shelfKeepsWrong)

/-- 'ashlarlaw20.ShelfPlays': WHATEVER THE INPUT: true; the input reads as it did. -/
def shelfPlaysSpec : ChangeSpec := { name := "shelfPlays", fn := fun _ => fun
  | [d1, d2, d3] => { results := [.lit (.bool true)], args := [d1, d2, d3] }
  | _ => none }
def shelfPlaysRow : OpenClaim := { program := "ytabebpemfinejaagreat", sum := "3258d6ad3aef376901f7c37aea1070367bbd8613c2ccccd7815941dc4922f267", func := "ashlar/ashlarlaw20.ShelfPlays", spec := "shelfPlays", unfollowed := true, recurses := true, apart := false }
def ShelfPlaysSaid : Prop := shelfPlaysRow.holds Tryz.pinned (OpenSpec.ofChange shelfPlaysSpec)

/-- ITS FALSE NEIGHBOUR: 'it returns false'. Refute it at one input. -/
def shelfPlaysWrong : ChangeSpec := { name := "shelfPlays", fn := fun _ => fun
  | [d1, d2, d3] => { results := [.lit (.bool false)], args := [d1, d2, d3] }
  | _ => none }
def ShelfPlaysWrongFalsely : Prop := shelfPlaysRow.holds Tryz.pinned (OpenSpec.ofChange shelfPlaysWrong)

/- THE SECOND FORM. 'bulk': how many values and letters a reading holds, each counted each time it is reached (what is shared counts as often as it is met; a slice's spare places count too). A statement '..UptoSaid' is the law's where the arguments, and the package variables that the reading takes, are together of bulk at most 1048576: NARROWER than '..Said'. Prove '..Said' where nothing that the law and all that it calls make is longer than what came in: it says more and counts as full. Else prove '..UptoSaid'. A law counts once. -/
mutual
def uptoBulk {H : Type} : DataW H → Nat
  | .lit (.string bytes) => bytes.length + 1
  | .lit _ => 1
  | .nil => 1
  | .ptr d => uptoBulk d + 1
  | .slice elems spare => uptoBulkAll elems + uptoBulkAll spare + 1
  | .agg parts => uptoBulkAll parts + 1
  | .iface _ d => uptoBulk d + 1
  | .map entries => uptoBulkEntries entries + 1
  | .held _ => 1
def uptoBulkAll {H : Type} : List (DataW H) → Nat
  | [] => 0
  | d :: r => uptoBulk d + uptoBulkAll r
def uptoBulkEntries {H : Type} : List (Lit × DataW H) → Nat
  | [] => 0
  | x :: r => uptoBulkEntry x + uptoBulkEntries r
def uptoBulkEntry {H : Type} : Lit × DataW H → Nat
  | (.string bytes, d) => bytes.length + uptoBulk d + 1
  | (_, d) => uptoBulk d + 1
 end
def uptoSmall : (H : Type) → List (DataW H) → Bool := fun _ ds => decide (uptoBulkAll ds ≤ 1048576)
def OpenSpec.upto (s : _root_.Go.ChangeSpec) : _root_.Go.OpenSpec := { _root_.Go.OpenSpec.ofChange s with cond := some uptoSmall }

/-- 'ashlarlaw18.HullSaves', WHERE WHAT IT READS IS OF BULK AT MOST 1048576: true; the input reads as it did. -/
def hullSavesUptoRow : OpenClaim := { program := "ytabebpemfinejaagreat", sum := "3258d6ad3aef376901f7c37aea1070367bbd8613c2ccccd7815941dc4922f267", func := "ashlar/ashlarlaw18.HullSaves", spec := "hullSaves", unfollowed := true, recurses := true, apart := false, narrowed := true }
def HullSavesUptoSaid : Prop := hullSavesUptoRow.holds Tryz.pinned (OpenSpec.upto hullSavesSpec)

/-- 'ashlarlaw19.FetchSame', WHERE WHAT IT READS IS OF BULK AT MOST 1048576: true; the input reads as it did. -/
def fetchSameUptoRow : OpenClaim := { program := "ytabebpemfinejaagreat", sum := "3258d6ad3aef376901f7c37aea1070367bbd8613c2ccccd7815941dc4922f267", func := "ashlar/ashlarlaw19.FetchSame", spec := "fetchSame", unfollowed := true, recurses := true, apart := false, narrowed := true }
def FetchSameUptoSaid : Prop := fetchSameUptoRow.holds Tryz.pinned (OpenSpec.upto fetchSameSpec)

/-- 'ashlarlaw21.BackHome', WHERE WHAT IT READS IS OF BULK AT MOST 1048576: true; the input reads as it did. -/
def backHomeUptoRow : OpenClaim := { program := "ytabebpemfinejaagreat", sum := "3258d6ad3aef376901f7c37aea1070367bbd8613c2ccccd7815941dc4922f267", func := "ashlar/ashlarlaw21.BackHome", spec := "backHome", unfollowed := true, recurses := true, apart := false, narrowed := true }
def BackHomeUptoSaid : Prop := backHomeUptoRow.holds Tryz.pinned (OpenSpec.upto backHomeSpec)

/-- 'ashlarlaw20.ShelfKeeps', WHERE WHAT IT READS IS OF BULK AT MOST 1048576: true; the input reads as it did. -/
def shelfKeepsUptoRow : OpenClaim := { program := "ytabebpemfinejaagreat", sum := "3258d6ad3aef376901f7c37aea1070367bbd8613c2ccccd7815941dc4922f267", func := "ashlar/ashlarlaw20.ShelfKeeps", spec := "shelfKeeps", unfollowed := true, recurses := true, apart := false, narrowed := true }
def ShelfKeepsUptoSaid : Prop := shelfKeepsUptoRow.holds Tryz.pinned (OpenSpec.upto shelfKeepsSpec)

/-- 'ashlarlaw20.ShelfPlays', WHERE WHAT IT READS IS OF BULK AT MOST 1048576: true; the input reads as it did. -/
def shelfPlaysUptoRow : OpenClaim := { program := "ytabebpemfinejaagreat", sum := "3258d6ad3aef376901f7c37aea1070367bbd8613c2ccccd7815941dc4922f267", func := "ashlar/ashlarlaw20.ShelfPlays", spec := "shelfPlays", unfollowed := true, recurses := true, apart := false, narrowed := true }
def ShelfPlaysUptoSaid : Prop := shelfPlaysUptoRow.holds Tryz.pinned (OpenSpec.upto shelfPlaysSpec)

end Rows
end Go.Proofs.YtabebpemfinejaaGreat
