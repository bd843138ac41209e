/-
  'DiskTorn' holds: whatever the arguments, the law answers true, and its arguments read as they did. No condition.
-/
import Derived.Test.YtcelngepfdchiaaRows
import Derived.Test.YtcelngepfdchiaaDiskArgs
import Derived.Test.YtcelngepfdchiaaDiskTorn
set_option linter.unusedVariables false
namespace Go.Proofs.Ytcelngepfdchiaa.diskTorn
open Go.ChangeShapes Go.WideShapes Go.ChangeAt Go.RowKit Go.Am

theorem own : ownKnob Try.prog.godebug = none := by kernel_rfl
theorem laid : laidOutB Try.prog = true := by kernel_rfl

theorem shape : shAll Try.prog 8 Try.f4.params.toList = some [.blk, .blk, .int .i64, .int .u8, .int .u8] := by kernel_rfl

theorem runs (a : Nat → Option Am.Obj) (us : List V) (h : FitsAll a [.blk, .blk, .int .i64, .int .u8, .int .u8] us) :
    ∃ lf n H1, callS Try.prog disk.S0 lf n 4 us (heapA Try.prog a) = some (.v (.bool true), H1) ∧ QOk H1 := by
  obtain ⟨u0, us0, rfl, h0, u1, us1, rfl, h1, u2, us2, rfl, h2, u3, us3, rfl, h3, u4, us4, rfl, h4, rfl⟩ := h
  obtain ⟨C0, ⟨B0, _, rfl⟩, c0⟩ := h0
  cases c0
  obtain ⟨C1, ⟨B1, _, rfl⟩, c1⟩ := h1
  cases c1
  obtain ⟨C2, ⟨n2, _, rfl⟩, c2⟩ := h2
  cases c2
  obtain ⟨x, hx, rfl⟩ := disk.u8_of h3
  obtain ⟨y, hy, rfl⟩ := disk.u8_of h4
  obtain ⟨v, H1, e, rfl, hT⟩ := run (heapA Try.prog a) B0 B1 n2 hx hy (lf := 100000) (by decide) 0
  exact ⟨100000, 5, H1, e, disk.qok_of hT⟩

def zeros : List Value := List.replicate 64 (.int .u8 0)

set_option maxRecDepth 100000 in
theorem lifted (os : Os) (started : os.Started) (H : Type) (enc : TypeId × Value → H) :
    ReturnsInHanded {} Try.checked os 4 .any (Rows.diskTornSpec.pre6 enc Try.prog Try.f4 Rows.diskTornRow.domain false) (Rows.diskTornSpec.post enc Try.prog Try.f4 false true false false) := by
  refine returnsInHanded_of_change (C := Try.checked) own started (by kernel_rfl) Try.func4
    (ChangeSpec.witness6 (enc := enc) (C := Try.checked) false ⟨#[], #[.agg zeros.toArray, .agg zeros.toArray, .int .i64 0, .int .u8 0, .int .u8 0], []⟩ 8 (by kernel_rfl) (by kernel_rfl) (by kernel_rfl) (by kernel_rfl)) ?_
  intro W base args ds gs before hval hW _ _
  refine laws_runS (P := Try.prog) (S := disk.S0) disk.sums (f := Try.f4) (d := 8) (tb := 4) (s := Rows.diskTornSpec) laid shape (by kernel_rfl) rfl (by kernel_rfl) (by kernel_rfl) ?_ runs hval hW
  intro ds hl
  have hl : ds.length = 5 := hl.trans (by kernel_rfl)
  match ds, hl with
  | [_, _, _, _, _], _ => rfl

theorem over : Rows.diskTornRow.holds Try.pinned (OpenSpec.ofChange Rows.diskTornSpec) :=
  OpenClaim.holds_of_wide 4 Try.f4 rfl rfl rfl rfl rfl rfl rfl ⟨rfl, rfl, rfl, rfl, rfl⟩ rfl rfl rfl rfl rfl (by kernel_rfl) Try.func4 (by kernel_rfl)
    (of_decide_eq_true (by kernel_rfl)) (by unfold Func.isWrapper; first | (rw [if_pos (by decide +kernel)]; kernel_rfl) | (rw [if_neg (by decide +kernel)]; exact ⟨rfl, rfl⟩))
    (fun os started H enc _ => lifted os started H enc)

theorem proved : Rows.DiskTornSaid := over
#print axioms proved
end Go.Proofs.Ytcelngepfdchiaa.diskTorn

