/-
  'GatherFits' holds: whatever the arguments, the law answers true, and its arguments read as they did. No condition.
-/
import Derived.Test.YtejgheoandfikaaRows
import Derived.Test.YtejgheoandfikaaGFitsRun
import Derived.Test.YtejgheoandfikaaLives22
set_option linter.unusedVariables false
namespace Go.Proofs.Ytejgheoandfikaa.draft
open Go.ChangeShapes Go.WideShapes Go.ChangeAt Go.RowKit Go.Am

theorem sums : CallSnd Try.prog S0 := orS_snd lives22.sum crc.takeS_snd

theorem own : ownKnob Try.prog.godebug = none := by kernel_rfl
theorem laidOut : laidOutB Try.prog = true := by kernel_rfl

theorem shape : shAll Try.prog 8 Try.f4.params.toList = some [(.int .u8), (.slice 93 (.seq (.int .i64) (.seq (.int .i64) (.seq (.int .u64) (.seq (.seq (.int .u64) (.seq (.int .i64) (.seq (.seq (.seq (.int .i64) (.seq (.int .i64) (.seq (.int .i64) .nil))) (.seq (.seq (.int .u8) (.seq (.int .u8) (.seq (.int .u8) (.seq (.int .u8) (.seq (.int .u8) (.seq (.int .u8) (.seq (.int .u8) (.seq (.int .u8) (.seq (.int .u8) (.seq (.int .u8) (.seq (.int .u8) (.seq (.int .u8) (.seq (.int .u8) (.seq (.int .u8) (.seq (.int .u8) (.seq (.int .u8) .nil)))))))))))))))) (.seq (.int .i64) (.seq .bool .nil)))) .nil))) (.seq .bool (.seq .blk (.seq (.int .u8) (.seq (.int .u8) .nil)))))))))] := by kernel_rfl

theorem runs (a : Nat → Option Am.Obj) (us : List V) (h : FitsAll a [(.int .u8), (.slice 93 (.seq (.int .i64) (.seq (.int .i64) (.seq (.int .u64) (.seq (.seq (.int .u64) (.seq (.int .i64) (.seq (.seq (.seq (.int .i64) (.seq (.int .i64) (.seq (.int .i64) .nil))) (.seq (.seq (.int .u8) (.seq (.int .u8) (.seq (.int .u8) (.seq (.int .u8) (.seq (.int .u8) (.seq (.int .u8) (.seq (.int .u8) (.seq (.int .u8) (.seq (.int .u8) (.seq (.int .u8) (.seq (.int .u8) (.seq (.int .u8) (.seq (.int .u8) (.seq (.int .u8) (.seq (.int .u8) (.seq (.int .u8) .nil)))))))))))))))) (.seq (.int .i64) (.seq .bool .nil)))) .nil))) (.seq .bool (.seq .blk (.seq (.int .u8) (.seq (.int .u8) .nil)))))))))] us) :
    ∃ lf n H1, callS Try.prog S0 lf n 4 us (heapA Try.prog a) = some (.v (.bool true), H1) ∧ QOk H1 := by
  obtain ⟨u0, us0, rfl, h0, u1, us1, rfl, h1, rfl⟩ := h
  obtain ⟨u, hu, rfl⟩ := disk.u8_of h0
  obtain ⟨lp, lc, A, rfl, hA⟩ := puts_of (P := Try.prog) h1
  obtain ⟨v, H1, e, rfl, hT⟩ := gatherfits_run (heapA Try.prog a) hA hu (lc := lc) (lf := 100000) (by decide) 0
  exact ⟨100000, 10, H1, e, hT.q (by intro p hp; cases hp)⟩

set_option maxRecDepth 100000 in
theorem lifted (os : Os) (started : os.Started) (H : Type) (enc : TypeId × Value → H) :
    ReturnsInHanded {} Try.checked os 4 .any (Rows.gatherFitsSpec.pre6 enc Try.prog Try.f4 Rows.gatherFitsRow.domain false) (Rows.gatherFitsSpec.post enc Try.prog Try.f4 false true false false) := by
  refine returnsInHanded_of_change (C := Try.checked) own started (by kernel_rfl) Try.func4
    (ChangeSpec.witness6 (enc := enc) (C := Try.checked) false ⟨#[], #[.int .u8 0, .slice none 0 0], []⟩ 8 (by kernel_rfl) (by kernel_rfl) (by kernel_rfl) (by kernel_rfl)) ?_
  intro W base args ds gs before hval hW _ _
  refine laws_runS (P := Try.prog) (S := S0) sums (f := Try.f4) (d := 8) (tb := 4) (s := Rows.gatherFitsSpec) laidOut shape (by kernel_rfl) rfl (by kernel_rfl) (by kernel_rfl) ?_ runs hval hW
  intro ds hl
  have hl : ds.length = 2 := hl.trans (by kernel_rfl)
  match ds, hl with
  | [_, _], _ => rfl

theorem over : Rows.gatherFitsRow.holds Try.pinned (OpenSpec.ofChange Rows.gatherFitsSpec) :=
  OpenClaim.holds_of_wide 4 Try.f4 rfl rfl rfl rfl rfl rfl rfl ⟨rfl, rfl, rfl, rfl, rfl⟩ rfl rfl rfl rfl rfl (by kernel_rfl) Try.func4 (by kernel_rfl)
    (of_decide_eq_true (by kernel_rfl)) (by unfold Func.isWrapper; first | (rw [if_pos (by decide +kernel)]; kernel_rfl) | (rw [if_neg (by decide +kernel)]; exact ⟨rfl, rfl⟩))
    (fun os started H enc _ => lifted os started H enc)

theorem proved : Rows.GatherFitsSaid := over
#print axioms proved
end Go.Proofs.Ytejgheoandfikaa.draft

