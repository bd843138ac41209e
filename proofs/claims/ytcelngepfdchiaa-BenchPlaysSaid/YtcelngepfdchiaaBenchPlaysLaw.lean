/-
  'BenchPlays' holds: whatever the arguments, the law answers true, and its arguments read as they did. No condition.
-/
import Derived.Test.YtcelngepfdchiaaRows
import Derived.Test.YtcelngepfdchiaaDiskArgs
import Derived.Test.YtcelngepfdchiaaBPlays2
set_option linter.unusedVariables false
namespace Go.Proofs.Ytcelngepfdchiaa.benchPlays
open Go.ChangeShapes Go.WideShapes Go.ChangeAt Go.RowKit Go.Am

theorem own : ownKnob Try.prog.godebug = none := by kernel_rfl
theorem laid : laidOutB Try.prog = true := by kernel_rfl

theorem shape : shAll Try.prog 8 Try.f10.params.toList = some [.slice 1 (.int .i64), .slice 70 disk.actSh] := by kernel_rfl

theorem runs (a : Nat → Option Am.Obj) (us : List V) (h : FitsAll a [.slice 1 (.int .i64), .slice 70 disk.actSh] us) :
    ∃ lf n H1, callS Try.prog disk.S0 lf n 10 us (heapA Try.prog a) = some (.v (.bool true), H1) ∧ QOk H1 := by
  obtain ⟨u0, us0, rfl, h0, u1, us1, rfl, h1, rfl⟩ := h
  obtain ⟨pp, pc, P, rfl, hpc, hP⟩ := disk.picks_ofL (P := Try.prog) h0
  obtain ⟨lp, lc, A, rfl, hA⟩ := disk.acts_of (P := Try.prog) h1
  obtain ⟨v, H1, e, rfl, hT⟩ := disk.bplays_run (heapA Try.prog a) hP (pc := pc) hA (lc := lc) (lf := 100000) (by decide) 0
  exact ⟨100000, 8, H1, e, disk.qok_of hT⟩

set_option maxRecDepth 100000 in
theorem lifted (os : Os) (started : os.Started) (H : Type) (enc : TypeId × Value → H) :
    ReturnsInHanded {} Try.checked os 10 .any (Rows.benchPlaysSpec.pre6 enc Try.prog Try.f10 Rows.benchPlaysRow.domain false) (Rows.benchPlaysSpec.post enc Try.prog Try.f10 false true false false) := by
  refine returnsInHanded_of_change (C := Try.checked) own started (by kernel_rfl) Try.func10
    (ChangeSpec.witness6 (enc := enc) (C := Try.checked) false ⟨#[], #[.slice none 0 0, .slice none 0 0], []⟩ 8 (by kernel_rfl) (by kernel_rfl) (by kernel_rfl) (by kernel_rfl)) ?_
  intro W base args ds gs before hval hW _ _
  refine laws_runS (P := Try.prog) (S := disk.S0) disk.sums (f := Try.f10) (d := 8) (tb := 4) (s := Rows.benchPlaysSpec) laid shape (by kernel_rfl) rfl (by kernel_rfl) (by kernel_rfl) ?_ runs hval hW
  intro ds hl
  have hl : ds.length = 2 := hl.trans (by kernel_rfl)
  match ds, hl with
  | [_, _], _ => rfl

theorem over : Rows.benchPlaysRow.holds Try.pinned (OpenSpec.ofChange Rows.benchPlaysSpec) :=
  OpenClaim.holds_of_wide 10 Try.f10 rfl rfl rfl rfl rfl rfl rfl ⟨rfl, rfl, rfl, rfl, rfl⟩ rfl rfl rfl rfl rfl (by kernel_rfl) Try.func10 (by kernel_rfl)
    (of_decide_eq_true (by kernel_rfl)) (by unfold Func.isWrapper; first | (rw [if_pos (by decide +kernel)]; kernel_rfl) | (rw [if_neg (by decide +kernel)]; exact ⟨rfl, rfl⟩))
    (fun os started H enc _ => lifted os started H enc)

theorem proved : Rows.BenchPlaysSaid := over
#print axioms proved
end Go.Proofs.Ytcelngepfdchiaa.benchPlays

