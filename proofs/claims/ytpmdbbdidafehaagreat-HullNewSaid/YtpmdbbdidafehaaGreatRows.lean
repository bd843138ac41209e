/-
  No cell of these rows narrows 'for every input' (looked for: loops, veiled, ifaces, maps, wideKeys, modest, calm, conditions, laid).
  DERIVED. THE GIVEN ROWS OF THIS SEAT. 4 by the template 'for every input the law returns true; each argument reads behind the call as it read before'; 0 by the template 'total and deterministic' (their statements: YtpmdbbdidafehaaGreatTotals.lean).
  GIVEN WITH THE SEED: the statements are not yours to turn. If you find one false, say at which input.
  Laid BY PROGRAM, IN A SANDBOX (cutbox-rows.mjs): the forced cells as the released guide's own fill.sh prints them over the translation e7354f31a1f7e5e2… (all of the seat's roots in one cut). By AI agents, Wed Nov 11 2026. No macro, syntax, notation, axiom, sorry.
-/
import Derived.Test.YtpmdbbdidafehaaGreatChecked
import GoSem.Claim
import GoSem.ClaimJoined
import GoSem.ClaimMapViews
import Derived.JoinedTies
import Derived.KernelRfl
namespace Go.Proofs.YtpmdbbdidafehaaGreat
/- THE CELL 'sum', in the pinned program and in every row, IS THE sha256 OF THE DUMP (.gsa) THAT YtpmdbbdidafehaaGreatProg.lean LOADS. Nothing in Lean hashes anything: it is a label: what it is worth is what the hold of that sum in a sandbox is worth. -/
noncomputable def Tryz.pinned : Pinned := { name := "ytpmdbbdidafehaagreat", sum := "e7354f31a1f7e5e22b30ea43d5336dbcba480113d3ce71eeed01a702b129cd29", checked := Tryz.checked }
namespace Rows
def none {H : Type} : Left H := { results := [], args := [] }

/-- 'ashlarlaw22.GatherLooks': WHATEVER THE INPUT: true; the input reads as it did. -/
def gatherLooksSpec : ChangeSpec := { name := "gatherLooks", fn := fun _ => fun
  | [d1, d2, d3, d4] => { results := [.lit (.bool true)], args := [d1, d2, d3, d4] }
  | _ => none }
def gatherLooksRow : OpenClaim := { program := "ytpmdbbdidafehaagreat", sum := "e7354f31a1f7e5e22b30ea43d5336dbcba480113d3ce71eeed01a702b129cd29", func := "ashlar/ashlarlaw22.GatherLooks", spec := "gatherLooks", unfollowed := true, recurses := true, apart := false }
def GatherLooksSaid : Prop := gatherLooksRow.holds Tryz.pinned (OpenSpec.ofChange gatherLooksSpec)

/-- ITS FALSE NEIGHBOUR: 'it returns false'. Refute it at one input. -/
def gatherLooksWrong : ChangeSpec := { name := "gatherLooks", fn := fun _ => fun
  | [d1, d2, d3, d4] => { results := [.lit (.bool false)], args := [d1, d2, d3, d4] }
  | _ => none }
def GatherLooksWrongFalsely : Prop := gatherLooksRow.holds Tryz.pinned (OpenSpec.ofChange gatherLooksWrong)

/-- 'ashlarlaw18.HullNew': WHATEVER THE INPUT: true; the input reads as it did. -/
def hullNewSpec : ChangeSpec := { name := "hullNew", fn := fun _ => fun
  | [d1, d2, d3, d4] => { results := [.lit (.bool true)], args := [d1, d2, d3, d4] }
  | _ => none }
def hullNewRow : OpenClaim := { program := "ytpmdbbdidafehaagreat", sum := "e7354f31a1f7e5e22b30ea43d5336dbcba480113d3ce71eeed01a702b129cd29", func := "ashlar/ashlarlaw18.HullNew", spec := "hullNew", unfollowed := true, recurses := true, apart := false }
def HullNewSaid : Prop := hullNewRow.holds Tryz.pinned (OpenSpec.ofChange hullNewSpec)

/-- ITS FALSE NEIGHBOUR: 'it returns false'. Refute it at one input. -/
def hullNewWrong : ChangeSpec := { name := "hullNew", fn := fun _ => fun
  | [d1, d2, d3, d4] => { results := [.lit (.bool false)], args := [d1, d2, d3, d4] }
  | _ => none }
def HullNewWrongFalsely : Prop := hullNewRow.holds Tryz.pinned (OpenSpec.ofChange hullNewWrong)

/-- 'ashlarlaw18.HullSaves': WHATEVER THE INPUT: true; the input reads as it did. -/
def hullSavesSpec : ChangeSpec := { name := "hullSaves", fn := fun _ => fun
  | [d1, d2, d3] => { results := [.lit (.bool true)], args := [d1, d2, d3] }
  | _ => none }
def hullSavesRow : OpenClaim := { program := "ytpmdbbdidafehaagreat", sum := "e7354f31a1f7e5e22b30ea43d5336dbcba480113d3ce71eeed01a702b129cd29", func := "ashlar/ashlarlaw18.HullSaves", spec := "hullSaves", unfollowed := true, recurses := true, apart := false }
def HullSavesSaid : Prop := hullSavesRow.holds Tryz.pinned (OpenSpec.ofChange hullSavesSpec)

/-- ITS FALSE NEIGHBOUR: 'it returns false'. Refute it at one input. -/
def hullSavesWrong : ChangeSpec := { name := "hullSaves", fn := fun _ => fun
  | [d1, d2, d3] => { results := [.lit (.bool false)], args := [d1, d2, d3] }
  | _ => none }
def HullSavesWrongFalsely : Prop := hullSavesRow.holds Tryz.pinned (OpenSpec.ofChange hullSavesWrong)

/-- 'ashlarlaw19.FetchSame': WHATEVER THE INPUT: true; the input reads as it did. -/
def fetchSameSpec : ChangeSpec := { name := "fetchSame", fn := fun _ => fun
  | [d1, d2, d3, d4] => { results := [.lit (.bool true)], args := [d1, d2, d3, d4] }
  | _ => none }
def fetchSameRow : OpenClaim := { program := "ytpmdbbdidafehaagreat", sum := "e7354f31a1f7e5e22b30ea43d5336dbcba480113d3ce71eeed01a702b129cd29", func := "ashlar/ashlarlaw19.FetchSame", spec := "fetchSame", unfollowed := true, recurses := true, apart := false }
def FetchSameSaid : Prop := fetchSameRow.holds Tryz.pinned (OpenSpec.ofChange fetchSameSpec)

/-- ITS FALSE NEIGHBOUR: 'it returns false'. Refute it at one input. -/
def fetchSameWrong : ChangeSpec := { name := "fetchSame", fn := fun _ => fun
  | [d1, d2, d3, d4] => { results := [.lit (.bool false)], args := [d1, d2, d3, d4] }
  | _ => none }
def FetchSameWrongFalsely : Prop := fetchSameRow.holds Tryz.pinned (OpenSpec.ofChange fetchSameWrong)

/- THE SECOND FORM. 'bulk': how many values and letters a reading holds, each counted each time it is reached (what is shared counts as often as it is met; a slice's spare places count too). A statement '..UptoSaid' is the law's where the arguments, and the package variables that the reading takes, are together of bulk at most 1048576: NARROWER than '..Said'. Prove '..Said' where nothing that the law and all that it calls make is longer than what came in: it says more and counts as full. Else prove '..UptoSaid'. A law counts once. -/
mutual
def uptoBulk {H : Type} : DataW H → Nat
  | .lit (.string bytes) => bytes.length + 1
  | .lit _ => 1
  | .nil => 1
  | .ptr d => uptoBulk d + 1
  | .slice elems spare => uptoBulkAll elems + uptoBulkAll spare + 1
  | .agg parts => uptoBulkAll parts + 1
  | .iface _ d => uptoBulk d + 1
  | .map entries => uptoBulkEntries entries + 1
  | .held _ => 1
def uptoBulkAll {H : Type} : List (DataW H) → Nat
  | [] => 0
  | d :: r => uptoBulk d + uptoBulkAll r
def uptoBulkEntries {H : Type} : List (Lit × DataW H) → Nat
  | [] => 0
  | x :: r => uptoBulkEntry x + uptoBulkEntries r
def uptoBulkEntry {H : Type} : Lit × DataW H → Nat
  | (.string bytes, d) => bytes.length + uptoBulk d + 1
  | (_, d) => uptoBulk d + 1
 end
def uptoSmall : (H : Type) → List (DataW H) → Bool := fun _ ds => decide (uptoBulkAll ds ≤ 1048576)
def OpenSpec.upto (s : _root_.Go.ChangeSpec) : _root_.Go.OpenSpec := { _root_.Go.OpenSpec.ofChange s with cond := some uptoSmall }

/-- 'ashlarlaw22.GatherLooks', WHERE WHAT IT READS IS OF BULK AT MOST 1048576: true; the input reads as it did. -/
def gatherLooksUptoRow : OpenClaim := { program := "ytpmdbbdidafehaagreat", sum := "e7354f31a1f7e5e22b30ea43d5336dbcba480113d3ce71eeed01a702b129cd29", func := "ashlar/ashlarlaw22.GatherLooks", spec := "gatherLooks", unfollowed := true, recurses := true, apart := false, narrowed := true }
def GatherLooksUptoSaid : Prop := gatherLooksUptoRow.holds Tryz.pinned (OpenSpec.upto gatherLooksSpec)

/-- 'ashlarlaw18.HullNew', WHERE WHAT IT READS IS OF BULK AT MOST 1048576: true; the input reads as it did. -/
def hullNewUptoRow : OpenClaim := { program := "ytpmdbbdidafehaagreat", sum := "e7354f31a1f7e5e22b30ea43d5336dbcba480113d3ce71eeed01a702b129cd29", func := "ashlar/ashlarlaw18.HullNew", spec := "hullNew", unfollowed := true, recurses := true, apart := false, narrowed := true }
def HullNewUptoSaid : Prop := hullNewUptoRow.holds Tryz.pinned (OpenSpec.upto hullNewSpec)

/-- 'ashlarlaw18.HullSaves', WHERE WHAT IT READS IS OF BULK AT MOST 1048576: true; the input reads as it did. -/
def hullSavesUptoRow : OpenClaim := { program := "ytpmdbbdidafehaagreat", sum := "e7354f31a1f7e5e22b30ea43d5336dbcba480113d3ce71eeed01a702b129cd29", func := "ashlar/ashlarlaw18.HullSaves", spec := "hullSaves", unfollowed := true, recurses := true, apart := false, narrowed := true }
def HullSavesUptoSaid : Prop := hullSavesUptoRow.holds Tryz.pinned (OpenSpec.upto hullSavesSpec)

/-- 'ashlarlaw19.FetchSame', WHERE WHAT IT READS IS OF BULK AT MOST 1048576: true; the input reads as it did. -/
def fetchSameUptoRow : OpenClaim := { program := "ytpmdbbdidafehaagreat", sum := "e7354f31a1f7e5e22b30ea43d5336dbcba480113d3ce71eeed01a702b129cd29", func := "ashlar/ashlarlaw19.FetchSame", spec := "fetchSame", unfollowed := true, recurses := true, apart := false, narrowed := true }
def FetchSameUptoSaid : Prop := fetchSameUptoRow.holds Tryz.pinned (OpenSpec.upto fetchSameSpec)

end Rows
end Go.Proofs.YtpmdbbdidafehaaGreat
