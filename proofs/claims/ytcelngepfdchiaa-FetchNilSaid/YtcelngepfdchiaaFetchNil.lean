/-
  'FetchNil' holds: whatever the arguments, the law answers true, and its arguments read as they did. No condition.
-/
import Derived.Test.YtcelngepfdchiaaRows
import Derived.Test.YtcelngepfdchiaaAmSum
namespace Go.Proofs.Ytcelngepfdchiaa.fetchNil
open Go.ChangeShapes Go.WideShapes Go.ChangeAt Go.RowKit Go.Am
set_option linter.unusedVariables false

theorem own : ownKnob Try.prog.godebug = none := by kernel_rfl
theorem laid : laidOutB Try.prog = true := by kernel_rfl

theorem shape : shAll Try.prog 8 Try.f14.params.toList = some [.seq (.int .i64) (.seq (.int .i64) .nil), .bool] := by kernel_rfl

theorem livesRun : okT (callS Try.prog noSum 100000 60 69 [] (heapA Try.prog fun _ => none)) = true := by kernel_rfl

theorem sums : CallSnd Try.prog (sumT 69) := sumT_snd (noSum_snd _) (okT_some livesRun)

theorem runs0 (a : Nat → Option Am.Obj) (n0x0 : Int) (n0x1 : Int) : isT (callS Try.prog (sumT 69) 100000 60 14 [.agg [.int .i64 n0x0, .int .i64 n0x1], .bool false] (heapA Try.prog a)) = true := by kernel_rfl
theorem owed0 (a : Nat → Option Am.Obj) (n0x0 : Int) (n0x1 : Int) : owedL (callS Try.prog (sumT 69) 100000 60 14 [.agg [.int .i64 n0x0, .int .i64 n0x1], .bool false] (heapA Try.prog a)) = owedR (callS Try.prog (sumT 69) 100000 60 14 [.agg [.int .i64 n0x0, .int .i64 n0x1], .bool false] (heapA Try.prog a)) := by kernel_rfl
theorem runs1 (a : Nat → Option Am.Obj) (n0x0 : Int) (n0x1 : Int) : isT (callS Try.prog (sumT 69) 100000 60 14 [.agg [.int .i64 n0x0, .int .i64 n0x1], .bool true] (heapA Try.prog a)) = true := by kernel_rfl
theorem owed1 (a : Nat → Option Am.Obj) (n0x0 : Int) (n0x1 : Int) : owedL (callS Try.prog (sumT 69) 100000 60 14 [.agg [.int .i64 n0x0, .int .i64 n0x1], .bool true] (heapA Try.prog a)) = owedR (callS Try.prog (sumT 69) 100000 60 14 [.agg [.int .i64 n0x0, .int .i64 n0x1], .bool true] (heapA Try.prog a)) := by kernel_rfl

theorem runs (a : Nat → Option Am.Obj) (us : List V) (h : FitsAll a [.seq (.int .i64) (.seq (.int .i64) .nil), .bool] us) :
    ∃ lf n H1, callS Try.prog (sumT 69) lf n 14 us (heapA Try.prog a) = some (.v (.bool true), H1) ∧ QOk H1 := by
  obtain ⟨u0, us0, rfl, ⟨C0, ⟨_, _, rfl, ⟨n0x0, _, rfl⟩, _, _, rfl, ⟨n0x1, _, rfl⟩, rfl⟩, hu0⟩, u1, us1, rfl, ⟨C1, ⟨n1x0, rfl⟩, hu1⟩, rfl⟩ := h
  cases hu0
  cases hu1
  cases n1x0
  · exact ⟨100000, 60, isT_some (runs0 a n0x0 n0x1) (owed0 a n0x0 n0x1)⟩
  · exact ⟨100000, 60, isT_some (runs1 a n0x0 n0x1) (owed1 a n0x0 n0x1)⟩

def zeros : List Value := List.replicate 64 (.int .u8 0)

set_option maxRecDepth 100000 in
theorem lifted (os : Os) (started : os.Started) (H : Type) (enc : TypeId × Value → H) :
    ReturnsInHanded {} Try.checked os 14 .any (Rows.fetchNilSpec.pre6 enc Try.prog Try.f14 Rows.fetchNilRow.domain false) (Rows.fetchNilSpec.post enc Try.prog Try.f14 false true false false) := by
  refine returnsInHanded_of_change (C := Try.checked) own started (by kernel_rfl) Try.func14
    (ChangeSpec.witness6 (enc := enc) (C := Try.checked) false ⟨#[], #[.agg (([.int .i64 0, .int .i64 0] : List Value)).toArray, .bool false], []⟩ 8 (by kernel_rfl) (by kernel_rfl) (by kernel_rfl) (by kernel_rfl)) ?_
  intro W base args ds gs before hval hW _ _
  refine laws_runS (P := Try.prog) (S := sumT 69) sums (f := Try.f14) (d := 8) (tb := 4) (s := Rows.fetchNilSpec) laid shape (by kernel_rfl) rfl (by kernel_rfl) (by kernel_rfl) ?_ runs hval hW
  intro ds hl
  have hl : ds.length = 2 := hl.trans (by kernel_rfl)
  match ds, hl with
  | [_, _], _ => rfl

theorem over : Rows.fetchNilRow.holds Try.pinned (OpenSpec.ofChange Rows.fetchNilSpec) :=
  OpenClaim.holds_of_wide 14 Try.f14 rfl rfl rfl rfl rfl rfl rfl ⟨rfl, rfl, rfl, rfl, rfl⟩ rfl rfl rfl rfl rfl (by kernel_rfl) Try.func14 (by kernel_rfl)
    (of_decide_eq_true (by kernel_rfl)) (by unfold Func.isWrapper; first | (rw [if_pos (by decide +kernel)]; kernel_rfl) | (rw [if_neg (by decide +kernel)]; exact ⟨rfl, rfl⟩))
    (fun os started H enc _ => lifted os started H enc)

theorem proved : Rows.FetchNilSaid := over
#print axioms proved
end Go.Proofs.Ytcelngepfdchiaa.fetchNil

