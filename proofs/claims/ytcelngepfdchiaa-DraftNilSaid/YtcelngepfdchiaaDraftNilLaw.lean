/-
  'DraftNil' holds: whatever the arguments, the law answers true, and its arguments read as they did. No condition.
-/
import Derived.Test.YtcelngepfdchiaaRows
import Derived.Test.YtcelngepfdchiaaAmSum
import Derived.Test.YtcelngepfdchiaaSorted
namespace Go.Proofs.Ytcelngepfdchiaa.draftNil
open Go.ChangeShapes Go.WideShapes Go.ChangeAt Go.RowKit Go.Am
set_option linter.unusedVariables false

theorem own : ownKnob Try.prog.godebug = none := by kernel_rfl
theorem laid : laidOutB Try.prog = true := by kernel_rfl

theorem shape : shAll Try.prog 8 Try.f12.params.toList = some [.int .i64, .blk, .bool] := by kernel_rfl


theorem livesRun : okT (callS Try.prog sorted.both 100000 60 52 [] (heapA Try.prog fun _ => none)) = true := by kernel_rfl

theorem sums : CallSnd Try.prog (sumT 52) := sumT_snd sorted.both_snd (okT_some livesRun)

theorem runs0 (a : Nat → Option Am.Obj) (n0x0 : Int) (n1x0 : Nat) : isT (callS Try.prog (sumT 52) 100000 60 12 [.int .i64 n0x0, .blk n1x0, .bool false] (heapA Try.prog a)) = true := by kernel_rfl
theorem owed0 (a : Nat → Option Am.Obj) (n0x0 : Int) (n1x0 : Nat) : owedL (callS Try.prog (sumT 52) 100000 60 12 [.int .i64 n0x0, .blk n1x0, .bool false] (heapA Try.prog a)) = owedR (callS Try.prog (sumT 52) 100000 60 12 [.int .i64 n0x0, .blk n1x0, .bool false] (heapA Try.prog a)) := by kernel_rfl
theorem runs1 (a : Nat → Option Am.Obj) (n0x0 : Int) (n1x0 : Nat) : isT (callS Try.prog (sumT 52) 100000 60 12 [.int .i64 n0x0, .blk n1x0, .bool true] (heapA Try.prog a)) = true := by kernel_rfl
theorem owed1 (a : Nat → Option Am.Obj) (n0x0 : Int) (n1x0 : Nat) : owedL (callS Try.prog (sumT 52) 100000 60 12 [.int .i64 n0x0, .blk n1x0, .bool true] (heapA Try.prog a)) = owedR (callS Try.prog (sumT 52) 100000 60 12 [.int .i64 n0x0, .blk n1x0, .bool true] (heapA Try.prog a)) := by kernel_rfl

theorem runs (a : Nat → Option Am.Obj) (us : List V) (h : FitsAll a [.int .i64, .blk, .bool] us) :
    ∃ lf n H1, callS Try.prog (sumT 52) lf n 12 us (heapA Try.prog a) = some (.v (.bool true), H1) ∧ QOk H1 := by
  obtain ⟨u0, us0, rfl, ⟨C0, ⟨n0x0, _, rfl⟩, hu0⟩, u1, us1, rfl, ⟨C1, ⟨n1x0, _, rfl⟩, hu1⟩, u2, us2, rfl, ⟨C2, ⟨n2x0, rfl⟩, hu2⟩, rfl⟩ := h
  cases hu0
  cases hu1
  cases hu2
  cases n2x0
  · exact ⟨100000, 60, isT_some (runs0 a n0x0 n1x0) (owed0 a n0x0 n1x0)⟩
  · exact ⟨100000, 60, isT_some (runs1 a n0x0 n1x0) (owed1 a n0x0 n1x0)⟩

def zeros : List Value := List.replicate 64 (.int .u8 0)

set_option maxRecDepth 100000 in
theorem lifted (os : Os) (started : os.Started) (H : Type) (enc : TypeId × Value → H) :
    ReturnsInHanded {} Try.checked os 12 .any (Rows.draftNilSpec.pre6 enc Try.prog Try.f12 Rows.draftNilRow.domain false) (Rows.draftNilSpec.post enc Try.prog Try.f12 false true false false) := by
  refine returnsInHanded_of_change (C := Try.checked) own started (by kernel_rfl) Try.func12
    (ChangeSpec.witness6 (enc := enc) (C := Try.checked) false ⟨#[], #[.int .i64 0, .agg zeros.toArray, .bool false], []⟩ 8 (by kernel_rfl) (by kernel_rfl) (by kernel_rfl) (by kernel_rfl)) ?_
  intro W base args ds gs before hval hW _ _
  refine laws_runS (P := Try.prog) (S := sumT 52) sums (f := Try.f12) (d := 8) (tb := 4) (s := Rows.draftNilSpec) laid shape (by kernel_rfl) rfl (by kernel_rfl) (by kernel_rfl) ?_ runs hval hW
  intro ds hl
  have hl : ds.length = 3 := hl.trans (by kernel_rfl)
  match ds, hl with
  | [_, _, _], _ => rfl

theorem over : Rows.draftNilRow.holds Try.pinned (OpenSpec.ofChange Rows.draftNilSpec) :=
  OpenClaim.holds_of_wide 12 Try.f12 rfl rfl rfl rfl rfl rfl rfl ⟨rfl, rfl, rfl, rfl, rfl⟩ rfl rfl rfl rfl rfl (by kernel_rfl) Try.func12 (by kernel_rfl)
    (of_decide_eq_true (by kernel_rfl)) (by unfold Func.isWrapper; first | (rw [if_pos (by decide +kernel)]; kernel_rfl) | (rw [if_neg (by decide +kernel)]; exact ⟨rfl, rfl⟩))
    (fun os started H enc _ => lifted os started H enc)

theorem proved : Rows.DraftNilSaid := over
#print axioms proved
end Go.Proofs.Ytcelngepfdchiaa.draftNil

