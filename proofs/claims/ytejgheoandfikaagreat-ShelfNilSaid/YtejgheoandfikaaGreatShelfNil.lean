/-
  'ShelfNil' holds: whatever the arguments, the law answers true, and its arguments read as they did. No condition.
-/
import Derived.Test.YtejgheoandfikaaGreatRows
import Derived.Test.YtejgheoandfikaaGreatAmSum
import Derived.Test.YtejgheoandfikaaGreatShelfNilRun
import Derived.Test.YtejgheoandfikaaGreatShelfNilFacts
set_option linter.unusedVariables false
namespace Go.Proofs.YtejgheoandfikaaGreat.shelfNil
open Go.ChangeShapes Go.WideShapes Go.ChangeAt Go.RowKit Go.Am

theorem own : ownKnob Tryz.prog.godebug = none := by kernel_rfl
theorem laid : laidOutB Tryz.prog = true := k2

def zeros : List Value := List.replicate 64 (.int .u8 0)

set_option maxRecDepth 100000 in
theorem lifted (os : Os) (started : os.Started) (H : Type) (enc : TypeId × Value → H) :
    ReturnsInHanded {} Tryz.checked os 4 .any (Rows.shelfNilSpec.pre6 enc Tryz.prog Tryz.f4 Rows.shelfNilRow.domain false) (Rows.shelfNilSpec.post enc Tryz.prog Tryz.f4 false true false false) := by
  refine returnsInHanded_of_change (C := Tryz.checked) own started (by kernel_rfl) Tryz.func4
    (ChangeSpec.witness6 (enc := enc) (C := Tryz.checked) false ⟨#[], #[.agg (([.int .i64 0, .int .i64 0] : List Value)).toArray, .int .i64 0, .bool false], []⟩ 8 (by kernel_rfl) (by kernel_rfl) (by kernel_rfl) (by kernel_rfl)) ?_
  intro W base args ds gs before hval hW _ _
  refine laws_runS (P := Tryz.prog) (S := (sumT 25)) sums (f := Tryz.f4) (d := 8) (tb := 4) (s := Rows.shelfNilSpec) laid shape (by kernel_rfl) rfl (by kernel_rfl) (by kernel_rfl) ?_ runs hval hW
  intro ds hl
  have hl : ds.length = 3 := hl.trans (by kernel_rfl)
  match ds, hl with
  | [_, _, _], _ => rfl

theorem over : Rows.shelfNilRow.holds Tryz.pinned (OpenSpec.ofChange Rows.shelfNilSpec) :=
  OpenClaim.holds_of_wide 4 Tryz.f4 rfl rfl rfl rfl rfl rfl rfl ⟨rfl, rfl, rfl, rfl, rfl⟩ rfl rfl rfl rfl rfl named Tryz.func4 closed
    (of_decide_eq_true (by kernel_rfl)) (by unfold Func.isWrapper; first | (rw [if_pos (by decide +kernel)]; kernel_rfl) | (rw [if_neg (by decide +kernel)]; exact ⟨rfl, rfl⟩))
    (fun os started H enc _ => lifted os started H enc)

theorem proved : Rows.ShelfNilSaid := over
#print axioms proved
end Go.Proofs.YtejgheoandfikaaGreat.shelfNil