/-
  'BenchNil' holds: for every act and either kind of receiver that is none, the law answers true, and its arguments read as they did.
-/
import Derived.Test.YtgjhiddaacpcaaaRows
import Derived.Test.YtgjhiddaacpcaaaAmLift
namespace Go.Proofs.Ytgjhiddaacpcaaa.benchNil
open Go.ChangeShapes Go.WideShapes Go.ChangeAt Go.RowKit Go.Am
set_option linter.unusedVariables false

theorem own : ownKnob Try.prog.godebug = none := by kernel_rfl
theorem laid : laidOutB Try.prog = true := by kernel_rfl

theorem shape : shAll Try.prog 8 Try.f12.params.toList = some [.seq (.int .i64) (.seq (.int .i64) (.seq (.int .i64) (.seq (.int .i64) (.seq (.int .u8) (.seq .blk (.seq (.slice 1 (.int .i64)) .nil)))))), .bool] := by kernel_rfl

theorem runs0 (a : Nat → Option Am.Obj) (n0 : Int) (n1 : Int) (n2 : Int) (n3 : Int) (n4 : Int) (n5 : Nat) : isT (callN Try.prog 100000 60 12 [.agg [.int .i64 n0, .int .i64 n1, .int .i64 n2, .int .i64 n3, .int .u8 n4, .blk n5, .slice none 0 0 0], .bool false] (heapA Try.prog a)) = true := by kernel_rfl
theorem owed0 (a : Nat → Option Am.Obj) (n0 : Int) (n1 : Int) (n2 : Int) (n3 : Int) (n4 : Int) (n5 : Nat) : owedL (callN Try.prog 100000 60 12 [.agg [.int .i64 n0, .int .i64 n1, .int .i64 n2, .int .i64 n3, .int .u8 n4, .blk n5, .slice none 0 0 0], .bool false] (heapA Try.prog a)) = owedR (callN Try.prog 100000 60 12 [.agg [.int .i64 n0, .int .i64 n1, .int .i64 n2, .int .i64 n3, .int .u8 n4, .blk n5, .slice none 0 0 0], .bool false] (heapA Try.prog a)) := by kernel_rfl
theorem runs1 (a : Nat → Option Am.Obj) (n0 : Int) (n1 : Int) (n2 : Int) (n3 : Int) (n4 : Int) (n5 : Nat) : isT (callN Try.prog 100000 60 12 [.agg [.int .i64 n0, .int .i64 n1, .int .i64 n2, .int .i64 n3, .int .u8 n4, .blk n5, .slice none 0 0 0], .bool true] (heapA Try.prog a)) = true := by kernel_rfl
theorem owed1 (a : Nat → Option Am.Obj) (n0 : Int) (n1 : Int) (n2 : Int) (n3 : Int) (n4 : Int) (n5 : Nat) : owedL (callN Try.prog 100000 60 12 [.agg [.int .i64 n0, .int .i64 n1, .int .i64 n2, .int .i64 n3, .int .u8 n4, .blk n5, .slice none 0 0 0], .bool true] (heapA Try.prog a)) = owedR (callN Try.prog 100000 60 12 [.agg [.int .i64 n0, .int .i64 n1, .int .i64 n2, .int .i64 n3, .int .u8 n4, .blk n5, .slice none 0 0 0], .bool true] (heapA Try.prog a)) := by kernel_rfl
theorem runs2 (a : Nat → Option Am.Obj) (n0 : Int) (n1 : Int) (n2 : Int) (n3 : Int) (n4 : Int) (n5 : Nat) (b6 l6 c6 : Nat) : isT (callN Try.prog 100000 60 12 [.agg [.int .i64 n0, .int .i64 n1, .int .i64 n2, .int .i64 n3, .int .u8 n4, .blk n5, .slice (some ⟨.arg b6, 0⟩) l6 c6 0], .bool false] (heapA Try.prog a)) = true := by kernel_rfl
theorem owed2 (a : Nat → Option Am.Obj) (n0 : Int) (n1 : Int) (n2 : Int) (n3 : Int) (n4 : Int) (n5 : Nat) (b6 l6 c6 : Nat) : owedL (callN Try.prog 100000 60 12 [.agg [.int .i64 n0, .int .i64 n1, .int .i64 n2, .int .i64 n3, .int .u8 n4, .blk n5, .slice (some ⟨.arg b6, 0⟩) l6 c6 0], .bool false] (heapA Try.prog a)) = owedR (callN Try.prog 100000 60 12 [.agg [.int .i64 n0, .int .i64 n1, .int .i64 n2, .int .i64 n3, .int .u8 n4, .blk n5, .slice (some ⟨.arg b6, 0⟩) l6 c6 0], .bool false] (heapA Try.prog a)) := by kernel_rfl
theorem runs3 (a : Nat → Option Am.Obj) (n0 : Int) (n1 : Int) (n2 : Int) (n3 : Int) (n4 : Int) (n5 : Nat) (b6 l6 c6 : Nat) : isT (callN Try.prog 100000 60 12 [.agg [.int .i64 n0, .int .i64 n1, .int .i64 n2, .int .i64 n3, .int .u8 n4, .blk n5, .slice (some ⟨.arg b6, 0⟩) l6 c6 0], .bool true] (heapA Try.prog a)) = true := by kernel_rfl
theorem owed3 (a : Nat → Option Am.Obj) (n0 : Int) (n1 : Int) (n2 : Int) (n3 : Int) (n4 : Int) (n5 : Nat) (b6 l6 c6 : Nat) : owedL (callN Try.prog 100000 60 12 [.agg [.int .i64 n0, .int .i64 n1, .int .i64 n2, .int .i64 n3, .int .u8 n4, .blk n5, .slice (some ⟨.arg b6, 0⟩) l6 c6 0], .bool true] (heapA Try.prog a)) = owedR (callN Try.prog 100000 60 12 [.agg [.int .i64 n0, .int .i64 n1, .int .i64 n2, .int .i64 n3, .int .u8 n4, .blk n5, .slice (some ⟨.arg b6, 0⟩) l6 c6 0], .bool true] (heapA Try.prog a)) := by kernel_rfl

theorem runs (a : Nat → Option Am.Obj) (us : List V) (h : FitsAll a [.seq (.int .i64) (.seq (.int .i64) (.seq (.int .i64) (.seq (.int .i64) (.seq (.int .u8) (.seq .blk (.seq (.slice 1 (.int .i64)) .nil)))))), .bool] us) :
    ∃ lf n H1, callN Try.prog lf n 12 us (heapA Try.prog a) = some (.v (.bool true), H1) ∧ QOk H1 := by
  obtain ⟨u, us, rfl, ⟨C, ⟨_, _, rfl, ⟨n0, _, rfl⟩, _, _, rfl, ⟨n1, _, rfl⟩, _, _, rfl, ⟨n2, _, rfl⟩, _, _, rfl, ⟨n3, _, rfl⟩, _, _, rfl, ⟨n4, _, rfl⟩, _, _, rfl, ⟨n5, _, rfl⟩, _, _, rfl, hs6, rfl⟩, hu⟩, v, vs, rfl, ⟨_, ⟨z, rfl⟩, hv⟩, rfl⟩ := h
  cases hu
  cases hv
  rcases hs6 with rfl | ⟨b6, l6, r6, rfl, _⟩
  · cases z
    · exact ⟨100000, 60, isT_some (runs0 a n0 n1 n2 n3 n4 n5) (owed0 a n0 n1 n2 n3 n4 n5)⟩
    · exact ⟨100000, 60, isT_some (runs1 a n0 n1 n2 n3 n4 n5) (owed1 a n0 n1 n2 n3 n4 n5)⟩
  · cases z
    · exact ⟨100000, 60, isT_some (runs2 a n0 n1 n2 n3 n4 n5 b6 l6 r6.length) (owed2 a n0 n1 n2 n3 n4 n5 b6 l6 r6.length)⟩
    · exact ⟨100000, 60, isT_some (runs3 a n0 n1 n2 n3 n4 n5 b6 l6 r6.length) (owed3 a n0 n1 n2 n3 n4 n5 b6 l6 r6.length)⟩

def zeros : List Value := List.replicate 64 (.int .u8 0)

set_option maxRecDepth 100000 in
theorem lifted (os : Os) (started : os.Started) (H : Type) (enc : TypeId × Value → H) :
    ReturnsInHanded {} Try.checked os 12 .any (Rows.benchNilSpec.pre6 enc Try.prog Try.f12 Rows.benchNilRow.domain false) (Rows.benchNilSpec.post enc Try.prog Try.f12 false true false false) := by
  refine returnsInHanded_of_change (C := Try.checked) own started (by kernel_rfl) Try.func12
    (ChangeSpec.witness6 (enc := enc) (C := Try.checked) false ⟨#[], #[.agg (([.int .i64 0, .int .i64 0, .int .i64 0, .int .i64 0, .int .u8 0] : List Value) ++ zeros ++ ([.slice none 0 0] : List Value)).toArray, .bool false], []⟩ 8 (by kernel_rfl) (by kernel_rfl) (by kernel_rfl) (by kernel_rfl)) ?_
  intro W base args ds gs before hval hW _ _
  refine laws_run (P := Try.prog) (f := Try.f12) (d := 8) (tb := 4) (s := Rows.benchNilSpec) laid shape (by kernel_rfl) rfl (by kernel_rfl) (by kernel_rfl) ?_ runs hval hW
  intro ds hl
  have hl : ds.length = 2 := hl.trans (by kernel_rfl)
  match ds, hl with
  | [_, _], _ => rfl

theorem over : Rows.benchNilRow.holds Try.pinned (OpenSpec.ofChange Rows.benchNilSpec) :=
  OpenClaim.holds_of_wide 12 Try.f12 rfl rfl rfl rfl rfl rfl rfl ⟨rfl, rfl, rfl, rfl, rfl⟩ rfl rfl rfl rfl rfl (by kernel_rfl) Try.func12 (by kernel_rfl)
    (of_decide_eq_true (by kernel_rfl)) (by unfold Func.isWrapper; first | (rw [if_pos (by decide +kernel)]; kernel_rfl) | (rw [if_neg (by decide +kernel)]; exact ⟨rfl, rfl⟩))
    (fun os started H enc _ => lifted os started H enc)

theorem proved : Rows.BenchNilSaid := over
#print axioms proved
end Go.Proofs.Ytgjhiddaacpcaaa.benchNil

