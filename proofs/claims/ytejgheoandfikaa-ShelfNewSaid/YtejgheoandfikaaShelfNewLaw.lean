/-
  'ShelfNew' holds: whatever the arguments, the law answers true, and its arguments read as they did. No condition.
-/
import Derived.Test.YtejgheoandfikaaRows
import Derived.Test.YtejgheoandfikaaShelfNew
import Derived.Test.YtejgheoandfikaaAmFork
set_option linter.unusedVariables false
namespace Go.Proofs.Ytejgheoandfikaa.draft
open Go.ChangeShapes Go.WideShapes Go.ChangeAt Go.RowKit Go.Am

theorem livesRun : okT (callS Try.prog (forkT Try.prog (callS Try.prog noSum 100000 60) 100000 [32]) 100000 60 8 [] (heapA Try.prog fun _ => none)) = true := by kernel_rfl
theorem sums : CallSnd Try.prog S0 := sumT_snd (forkT_snd (callS_sound (noSum_snd _) 100000 60) 100000 [32]) (okT_some livesRun)

theorem own : ownKnob Try.prog.godebug = none := by kernel_rfl
theorem laid : laidOutB Try.prog = true := by kernel_rfl

theorem shape : shAll Try.prog 8 Try.f3.params.toList = some [(.seq (.int .i64) (.seq (.int .i64) (.seq (.int .i64) .nil))), (.int .i64)] := by kernel_rfl

theorem runs (a : Nat → Option Am.Obj) (us : List V) (h : FitsAll a [(.seq (.int .i64) (.seq (.int .i64) (.seq (.int .i64) .nil))), (.int .i64)] us) :
    ∃ lf n H1, callS Try.prog S0 lf n 3 us (heapA Try.prog a) = some (.v (.bool true), H1) ∧ QOk H1 := by
  obtain ⟨u0, us0, rfl, ⟨C, ⟨_, _, rfl, ⟨m, _, rfl⟩, _, _, rfl, ⟨s, _, rfl⟩, _, _, rfl, ⟨r, _, rfl⟩, rfl⟩, hu⟩, u1, us1, rfl, ⟨C1, ⟨room, _, rfl⟩, hu1⟩, rfl⟩ := h
  cases hu
  cases hu1
  obtain ⟨v, H1, e, rfl, hT⟩ := shelfnew_run (heapA Try.prog a) m s r room 100000 0
  exact ⟨100000, 4, H1, e, hT.q (by intro p hp; cases hp)⟩

set_option maxRecDepth 100000 in
theorem lifted (os : Os) (started : os.Started) (H : Type) (enc : TypeId × Value → H) :
    ReturnsInHanded {} Try.checked os 3 .any (Rows.shelfNewSpec.pre6 enc Try.prog Try.f3 Rows.shelfNewRow.domain false) (Rows.shelfNewSpec.post enc Try.prog Try.f3 false true false false) := by
  refine returnsInHanded_of_change (C := Try.checked) own started (by kernel_rfl) Try.func3
    (ChangeSpec.witness6 (enc := enc) (C := Try.checked) false ⟨#[], #[.agg ([.int .i64 0, .int .i64 0, .int .i64 0] : List Value).toArray, .int .i64 0], []⟩ 8 (by kernel_rfl) (by kernel_rfl) (by kernel_rfl) (by kernel_rfl)) ?_
  intro W base args ds gs before hval hW _ _
  refine laws_runS (P := Try.prog) (S := S0) sums (f := Try.f3) (d := 8) (tb := 4) (s := Rows.shelfNewSpec) laid shape (by kernel_rfl) rfl (by kernel_rfl) (by kernel_rfl) ?_ runs hval hW
  intro ds hl
  have hl : ds.length = 2 := hl.trans (by kernel_rfl)
  match ds, hl with
  | [_, _], _ => rfl

theorem over : Rows.shelfNewRow.holds Try.pinned (OpenSpec.ofChange Rows.shelfNewSpec) :=
  OpenClaim.holds_of_wide 3 Try.f3 rfl rfl rfl rfl rfl rfl rfl ⟨rfl, rfl, rfl, rfl, rfl⟩ rfl rfl rfl rfl rfl (by kernel_rfl) Try.func3 (by kernel_rfl)
    (of_decide_eq_true (by kernel_rfl)) (by unfold Func.isWrapper; first | (rw [if_pos (by decide +kernel)]; kernel_rfl) | (rw [if_neg (by decide +kernel)]; exact ⟨rfl, rfl⟩))
    (fun os started H enc _ => lifted os started H enc)

theorem proved : Rows.ShelfNewSaid := over
#print axioms proved
end Go.Proofs.Ytejgheoandfikaa.draft

