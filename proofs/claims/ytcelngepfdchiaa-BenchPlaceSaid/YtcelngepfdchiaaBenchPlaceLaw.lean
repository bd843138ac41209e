/-
  'BenchPlace' holds: whatever the arguments, the law answers true, and its arguments read as they did. No condition.
-/
import Derived.Test.YtcelngepfdchiaaRows
import Derived.Test.YtcelngepfdchiaaDiskArgs
import Derived.Test.YtcelngepfdchiaaPlace
set_option linter.unusedVariables false
namespace Go.Proofs.Ytcelngepfdchiaa.benchPlace
open Go.ChangeShapes Go.WideShapes Go.ChangeAt Go.RowKit Go.Am

theorem own : ownKnob Try.prog.godebug = none := by kernel_rfl
theorem laid : laidOutB Try.prog = true := by kernel_rfl

theorem shape : shAll Try.prog 8 Try.f8.params.toList = some [.int .u8, .blk, .int .u8] := by kernel_rfl

theorem runs (a : Nat → Option Am.Obj) (us : List V) (h : FitsAll a [.int .u8, .blk, .int .u8] us) :
    ∃ lf n H1, callS Try.prog disk.S0 lf n 8 us (heapA Try.prog a) = some (.v (.bool true), H1) ∧ QOk H1 := by
  obtain ⟨u0, us0, rfl, h0, u1, us1, rfl, h1, u2, us2, rfl, h2, rfl⟩ := h
  obtain ⟨s, hs, rfl⟩ := disk.u8_of h0
  obtain ⟨C1, ⟨B1, _, rfl⟩, c1⟩ := h1
  cases c1
  obtain ⟨t, ht, rfl⟩ := disk.u8_of h2
  obtain ⟨v, H1, e, rfl, hT⟩ := disk.place_run (heapA Try.prog a) hs ht B1 (lf := 100000) (by decide) 0
  exact ⟨100000, 7, H1, e, disk.qok_of hT⟩
def zeros : List Value := List.replicate 64 (.int .u8 0)

set_option maxRecDepth 100000 in
theorem lifted (os : Os) (started : os.Started) (H : Type) (enc : TypeId × Value → H) :
    ReturnsInHanded {} Try.checked os 8 .any (Rows.benchPlaceSpec.pre6 enc Try.prog Try.f8 Rows.benchPlaceRow.domain false) (Rows.benchPlaceSpec.post enc Try.prog Try.f8 false true false false) := by
  refine returnsInHanded_of_change (C := Try.checked) own started (by kernel_rfl) Try.func8
    (ChangeSpec.witness6 (enc := enc) (C := Try.checked) false ⟨#[], #[.int .u8 0, .agg zeros.toArray, .int .u8 0], []⟩ 8 (by kernel_rfl) (by kernel_rfl) (by kernel_rfl) (by kernel_rfl)) ?_
  intro W base args ds gs before hval hW _ _
  refine laws_runS (P := Try.prog) (S := disk.S0) disk.sums (f := Try.f8) (d := 8) (tb := 4) (s := Rows.benchPlaceSpec) laid shape (by kernel_rfl) rfl (by kernel_rfl) (by kernel_rfl) ?_ runs hval hW
  intro ds hl
  have hl : ds.length = 3 := hl.trans (by kernel_rfl)
  match ds, hl with
  | [_, _, _], _ => rfl

theorem over : Rows.benchPlaceRow.holds Try.pinned (OpenSpec.ofChange Rows.benchPlaceSpec) :=
  OpenClaim.holds_of_wide 8 Try.f8 rfl rfl rfl rfl rfl rfl rfl ⟨rfl, rfl, rfl, rfl, rfl⟩ rfl rfl rfl rfl rfl (by kernel_rfl) Try.func8 (by kernel_rfl)
    (of_decide_eq_true (by kernel_rfl)) (by unfold Func.isWrapper; first | (rw [if_pos (by decide +kernel)]; kernel_rfl) | (rw [if_neg (by decide +kernel)]; exact ⟨rfl, rfl⟩))
    (fun os started H enc _ => lifted os started H enc)

theorem proved : Rows.BenchPlaceSaid := over
#print axioms proved
end Go.Proofs.Ytcelngepfdchiaa.benchPlace

