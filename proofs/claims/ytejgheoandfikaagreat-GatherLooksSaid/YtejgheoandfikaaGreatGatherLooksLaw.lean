import Derived.Test.YtejgheoandfikaaGreatRows
import Derived.Test.YtejgheoandfikaaGreatGLooksRun
import Derived.Test.YtejgheoandfikaaGreatLives22
set_option linter.unusedVariables false
namespace Go.Proofs.YtejgheoandfikaaGreat.draft
open Go.ChangeShapes Go.WideShapes Go.ChangeAt Go.RowKit Go.Am
theorem sums : CallSnd Tryz.prog S0 := orS_snd lives22.sum crc.takeS_snd
theorem u16_of {a : Nat → Option Am.Obj} {u : V} (h : FitsV a (.int .u16) u) : ∃ s : Nat, s < 65536 ∧ u = .int .u16 (s : Int) := by
  obtain ⟨C, ⟨n, hw, rfl⟩, hu⟩ := h
  cases hu
  have h : (decide (IntKind.u16.min ≤ n) && decide (n ≤ IntKind.u16.max)) = true := hw
  simp only [Bool.and_eq_true, decide_eq_true_eq] at h
  have h1 : (0 : Int) ≤ n := h.1
  have h2 : n ≤ 65535 := h.2
  exact ⟨n.toNat, by omega, by rw [Int.toNat_of_nonneg h1]⟩
theorem own : ownKnob Tryz.prog.godebug = none := by kernel_rfl
theorem laidOut : laidOutB Tryz.prog = true := by kernel_rfl
theorem shape : shAll Tryz.prog 8 Tryz.f5.params.toList = some [(.int .u8), (.slice 93 (.seq (.int .i64) (.seq (.int .i64) (.seq (.int .u64) (.seq (.seq (.int .u64) (.seq (.int .i64) (.seq (.seq (.seq (.int .i64) (.seq (.int .i64) (.seq (.int .i64) .nil))) (.seq (.seq (.int .u8) (.seq (.int .u8) (.seq (.int .u8) (.seq (.int .u8) (.seq (.int .u8) (.seq (.int .u8) (.seq (.int .u8) (.seq (.int .u8) (.seq (.int .u8) (.seq (.int .u8) (.seq (.int .u8) (.seq (.int .u8) (.seq (.int .u8) (.seq (.int .u8) (.seq (.int .u8) (.seq (.int .u8) .nil)))))))))))))))) (.seq (.int .i64) (.seq .bool .nil)))) .nil))) (.seq .bool (.seq .blk (.seq (.int .u8) (.seq (.int .u8) .nil))))))))), (.int .u16), .bool] := by kernel_rfl
theorem runs (a : Nat → Option Am.Obj) (us : List V) (h : FitsAll a [(.int .u8), (.slice 93 (.seq (.int .i64) (.seq (.int .i64) (.seq (.int .u64) (.seq (.seq (.int .u64) (.seq (.int .i64) (.seq (.seq (.seq (.int .i64) (.seq (.int .i64) (.seq (.int .i64) .nil))) (.seq (.seq (.int .u8) (.seq (.int .u8) (.seq (.int .u8) (.seq (.int .u8) (.seq (.int .u8) (.seq (.int .u8) (.seq (.int .u8) (.seq (.int .u8) (.seq (.int .u8) (.seq (.int .u8) (.seq (.int .u8) (.seq (.int .u8) (.seq (.int .u8) (.seq (.int .u8) (.seq (.int .u8) (.seq (.int .u8) .nil)))))))))))))))) (.seq (.int .i64) (.seq .bool .nil)))) .nil))) (.seq .bool (.seq .blk (.seq (.int .u8) (.seq (.int .u8) .nil))))))))), (.int .u16), .bool] us) :
    ∃ lf n H1, callS Tryz.prog S0 lf n 5 us (heapA Tryz.prog a) = some (.v (.bool true), H1) ∧ QOk H1 := by
  obtain ⟨u0, us0, rfl, h0, u1, us1, rfl, h1, u2, us2, rfl, h2, u3, us3, rfl, ⟨C3, ⟨dark, rfl⟩, hu3⟩, rfl⟩ := h
  cases hu3
  obtain ⟨u, hu, rfl⟩ := disk.u8_of h0
  obtain ⟨lp, lc, A, rfl, hA⟩ := puts_of (P := Tryz.prog) h1
  obtain ⟨dead, hd, rfl⟩ := u16_of h2
  obtain ⟨v, H1, e, rfl, hT⟩ := gatherlooks_run (heapA Tryz.prog a) hA hu hd dark (lc := lc) (lf := 100000) (by decide) 0
  exact ⟨100000, 10, H1, e, hT.q (by intro p hp; cases hp)⟩
set_option maxRecDepth 100000 in
theorem lifted (os : Os) (started : os.Started) (H : Type) (enc : TypeId × Value → H) :
    ReturnsInHanded {} Tryz.checked os 5 .any (Rows.gatherLooksSpec.pre6 enc Tryz.prog Tryz.f5 Rows.gatherLooksRow.domain false) (Rows.gatherLooksSpec.post enc Tryz.prog Tryz.f5 false true false false) := by
  refine returnsInHanded_of_change (C := Tryz.checked) own started (by kernel_rfl) Tryz.func5
    (ChangeSpec.witness6 (enc := enc) (C := Tryz.checked) false ⟨#[], #[.int .u8 0, .slice none 0 0, .int .u16 0, .bool false], []⟩ 8 (by kernel_rfl) (by kernel_rfl) (by kernel_rfl) (by kernel_rfl)) ?_
  intro W base args ds gs before hval hW _ _
  refine laws_runS (P := Tryz.prog) (S := S0) sums (f := Tryz.f5) (d := 8) (tb := 4) (s := Rows.gatherLooksSpec) laidOut shape (by kernel_rfl) rfl (by kernel_rfl) (by kernel_rfl) ?_ runs hval hW
  intro ds hl
  have hl : ds.length = 4 := hl.trans (by kernel_rfl)
  match ds, hl with
  | [_, _, _, _], _ => rfl
theorem over : Rows.gatherLooksRow.holds Tryz.pinned (OpenSpec.ofChange Rows.gatherLooksSpec) :=
  OpenClaim.holds_of_wide 5 Tryz.f5 rfl rfl rfl rfl rfl rfl rfl ⟨rfl, rfl, rfl, rfl, rfl⟩ rfl rfl rfl rfl rfl (by kernel_rfl) Tryz.func5 (by kernel_rfl)
    (of_decide_eq_true (by kernel_rfl)) (by unfold Func.isWrapper; first | (rw [if_pos (by decide +kernel)]; kernel_rfl) | (rw [if_neg (by decide +kernel)]; exact ⟨rfl, rfl⟩))
    (fun os started H enc _ => lifted os started H enc)
theorem proved : Rows.GatherLooksSaid := over
#print axioms proved
end Go.Proofs.YtejgheoandfikaaGreat.draft
