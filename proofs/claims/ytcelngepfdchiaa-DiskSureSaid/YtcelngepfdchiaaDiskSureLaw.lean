/-
  'DiskSure' holds: whatever the arguments, the law answers true, and its arguments read as they did. No condition.
-/
import Derived.Test.YtcelngepfdchiaaRows
import Derived.Test.YtcelngepfdchiaaDiskArgs
import Derived.Test.YtcelngepfdchiaaDiskSure
set_option linter.unusedVariables false
namespace Go.Proofs.Ytcelngepfdchiaa.diskSure
open Go.ChangeShapes Go.WideShapes Go.ChangeAt Go.RowKit Go.Am

theorem own : ownKnob Try.prog.godebug = none := by kernel_rfl
theorem laid : laidOutB Try.prog = true := by kernel_rfl

theorem shape : shAll Try.prog 8 Try.f3.params.toList = some [.int .u8, .slice 65 (.seq (.int .i64) (.seq .blk .nil)), .slice 65 (.seq (.int .i64) (.seq .blk .nil)), .int .u8, .slice 1 (.int .i64)] := by kernel_rfl

theorem runs (a : Nat → Option Am.Obj) (us : List V) (h : FitsAll a [.int .u8, .slice 65 (.seq (.int .i64) (.seq .blk .nil)), .slice 65 (.seq (.int .i64) (.seq .blk .nil)), .int .u8, .slice 1 (.int .i64)] us) :
    ∃ lf n H1, callS Try.prog disk.S0 lf n 3 us (heapA Try.prog a) = some (.v (.bool true), H1) ∧ QOk H1 := by
  obtain ⟨u0, us0, rfl, h0, u1, us1, rfl, h1, u2, us2, rfl, h2, u3, us3, rfl, h3, u4, us4, rfl, h4, rfl⟩ := h
  obtain ⟨s, hs, rfl⟩ := disk.u8_of h0
  obtain ⟨lp, lc, W, rfl, hW⟩ := disk.writes_of (P := Try.prog) h1
  obtain ⟨mp, mc, M, rfl, hM⟩ := disk.writes_of (P := Try.prog) h2
  obtain ⟨t, ht, rfl⟩ := disk.u8_of h3
  obtain ⟨pp, pc, P, rfl, hP⟩ := disk.picks_of (P := Try.prog) h4
  obtain ⟨v, H1, e, rfl, hT⟩ := run (heapA Try.prog a) hs ht hW hM hP (lc := lc) (lo := 0) (mc := mc) (mo := 0) (pc := pc) (po := 0) (lf := 100000) (by decide) 0
  exact ⟨100000, 5, H1, e, disk.qok_of hT⟩

set_option maxRecDepth 100000 in
theorem lifted (os : Os) (started : os.Started) (H : Type) (enc : TypeId × Value → H) :
    ReturnsInHanded {} Try.checked os 3 .any (Rows.diskSureSpec.pre6 enc Try.prog Try.f3 Rows.diskSureRow.domain false) (Rows.diskSureSpec.post enc Try.prog Try.f3 false true false false) := by
  refine returnsInHanded_of_change (C := Try.checked) own started (by kernel_rfl) Try.func3
    (ChangeSpec.witness6 (enc := enc) (C := Try.checked) false ⟨#[], #[.int .u8 0, .slice none 0 0, .slice none 0 0, .int .u8 0, .slice none 0 0], []⟩ 8 (by kernel_rfl) (by kernel_rfl) (by kernel_rfl) (by kernel_rfl)) ?_
  intro W base args ds gs before hval hW _ _
  refine laws_runS (P := Try.prog) (S := disk.S0) disk.sums (f := Try.f3) (d := 8) (tb := 4) (s := Rows.diskSureSpec) laid shape (by kernel_rfl) rfl (by kernel_rfl) (by kernel_rfl) ?_ runs hval hW
  intro ds hl
  have hl : ds.length = 5 := hl.trans (by kernel_rfl)
  match ds, hl with
  | [_, _, _, _, _], _ => rfl

theorem over : Rows.diskSureRow.holds Try.pinned (OpenSpec.ofChange Rows.diskSureSpec) :=
  OpenClaim.holds_of_wide 3 Try.f3 rfl rfl rfl rfl rfl rfl rfl ⟨rfl, rfl, rfl, rfl, rfl⟩ rfl rfl rfl rfl rfl (by kernel_rfl) Try.func3 (by kernel_rfl)
    (of_decide_eq_true (by kernel_rfl)) (by unfold Func.isWrapper; first | (rw [if_pos (by decide +kernel)]; kernel_rfl) | (rw [if_neg (by decide +kernel)]; exact ⟨rfl, rfl⟩))
    (fun os started H enc _ => lifted os started H enc)

theorem proved : Rows.DiskSureSaid := over
#print axioms proved
end Go.Proofs.Ytcelngepfdchiaa.diskSure

