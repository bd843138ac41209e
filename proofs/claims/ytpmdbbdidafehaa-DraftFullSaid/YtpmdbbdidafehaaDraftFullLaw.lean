/-
  'DraftFull' holds: whatever the arguments, the law answers true, and its arguments read as they did. No condition.
-/
import Derived.Test.YtpmdbbdidafehaaRows
import Derived.Test.YtpmdbbdidafehaaDraftFull
set_option linter.unusedVariables false
namespace Go.Proofs.Ytpmdbbdidafehaa.draft
open Go.ChangeShapes Go.WideShapes Go.ChangeAt Go.RowKit Go.Am

theorem own : ownKnob Try.prog.godebug = none := by kernel_rfl
theorem laid : laidOutB Try.prog = true := by kernel_rfl

theorem shape : shAll Try.prog 8 Try.f5.params.toList = some [.int .u8, .blk, .blk] := by kernel_rfl

theorem runs (a : Nat → Option Am.Obj) (us : List V) (h : FitsAll a [.int .u8, .blk, .blk] us) :
    ∃ lf n H1, callS Try.prog S0 lf n 5 us (heapA Try.prog a) = some (.v (.bool true), H1) ∧ QOk H1 := by
  obtain ⟨u0, us0, rfl, h0, u1, us1, rfl, h1, u2, us2, rfl, h2, rfl⟩ := h
  obtain ⟨f, hf, rfl⟩ := u8_of h0
  obtain ⟨b, rfl⟩ := blk_of h1
  obtain ⟨c, rfl⟩ := blk_of h2
  obtain ⟨H1, e, hq⟩ := full_run a f b c hf 100000 0 (by decide)
  exact ⟨100000, 5, H1, e, hq⟩

set_option maxRecDepth 100000 in
theorem lifted (os : Os) (started : os.Started) (H : Type) (enc : TypeId × Value → H) :
    ReturnsInHanded {} Try.checked os 5 .any (Rows.draftFullSpec.pre6 enc Try.prog Try.f5 Rows.draftFullRow.domain false) (Rows.draftFullSpec.post enc Try.prog Try.f5 false true false false) := by
  refine returnsInHanded_of_change (C := Try.checked) own started (by kernel_rfl) Try.func5
    (ChangeSpec.witness6 (enc := enc) (C := Try.checked) false ⟨#[], #[.int .u8 0, .agg zeros.toArray, .agg zeros.toArray], []⟩ 8 (by kernel_rfl) (by kernel_rfl) (by kernel_rfl) (by kernel_rfl)) ?_
  intro W base args ds gs before hval hW _ _
  refine laws_runS (P := Try.prog) (S := S0) sums (f := Try.f5) (d := 8) (tb := 4) (s := Rows.draftFullSpec) laid shape (by kernel_rfl) rfl (by kernel_rfl) (by kernel_rfl) ?_ runs hval hW
  intro ds hl
  have hl : ds.length = 3 := hl.trans (by kernel_rfl)
  match ds, hl with
  | [_, _, _], _ => rfl

theorem over : Rows.draftFullRow.holds Try.pinned (OpenSpec.ofChange Rows.draftFullSpec) :=
  OpenClaim.holds_of_wide 5 Try.f5 rfl rfl rfl rfl rfl rfl rfl ⟨rfl, rfl, rfl, rfl, rfl⟩ rfl rfl rfl rfl rfl (by kernel_rfl) Try.func5 (by kernel_rfl)
    (of_decide_eq_true (by kernel_rfl)) (by unfold Func.isWrapper; first | (rw [if_pos (by decide +kernel)]; kernel_rfl) | (rw [if_neg (by decide +kernel)]; exact ⟨rfl, rfl⟩))
    (fun os started H enc _ => lifted os started H enc)

theorem proved : Rows.DraftFullSaid := over
#print axioms proved
end Go.Proofs.Ytpmdbbdidafehaa.draft

