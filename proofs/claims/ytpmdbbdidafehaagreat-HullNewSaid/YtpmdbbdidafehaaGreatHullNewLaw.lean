import Derived.Test.YtpmdbbdidafehaaGreatRows
import Derived.Test.YtpmdbbdidafehaaGreatHulls
import Derived.Test.YtpmdbbdidafehaaGreatCrc
import Derived.Test.YtpmdbbdidafehaaGreatDiskArgs
/-
  'HullNew' holds: whatever the arguments, the law answers true, and its arguments read as they did. No condition.
-/
set_option linter.unusedVariables false
namespace Go.Proofs.YtpmdbbdidafehaaGreat.draft
open Go.ChangeShapes Go.WideShapes Go.ChangeAt Go.RowKit Go.Am

theorem ros_of {a : Nat → Option Am.Obj} {u : V} (h : FitsV a (.seq (.seq (.int .i64) (.seq (.int .i64) (.seq (.int .i64) .nil))) (.seq (.seq (.int .u8) (.seq (.int .u8) (.seq (.int .u8) (.seq (.int .u8) (.seq (.int .u8) (.seq (.int .u8) (.seq (.int .u8) (.seq (.int .u8) (.seq (.int .u8) (.seq (.int .u8) (.seq (.int .u8) (.seq (.int .u8) (.seq (.int .u8) (.seq (.int .u8) (.seq (.int .u8) (.seq (.int .u8) .nil)))))))))))))))) (.seq (.int .i64) (.seq .bool .nil)))) u) : ∃ m s r S c g, List.length S = 16 ∧ u = ros m s r S c g := by
  obtain ⟨C, ⟨_, _, rfl, ⟨_, _, rfl, ⟨m, _, rfl⟩, _, _, rfl, ⟨s, _, rfl⟩, _, _, rfl, ⟨r, _, rfl⟩, rfl⟩, _, _, rfl, ⟨_, _, rfl, ⟨nx0, wx0, rfl⟩, _, _, rfl, ⟨nx1, wx1, rfl⟩, _, _, rfl, ⟨nx2, wx2, rfl⟩, _, _, rfl, ⟨nx3, wx3, rfl⟩, _, _, rfl, ⟨nx4, wx4, rfl⟩, _, _, rfl, ⟨nx5, wx5, rfl⟩, _, _, rfl, ⟨nx6, wx6, rfl⟩, _, _, rfl, ⟨nx7, wx7, rfl⟩, _, _, rfl, ⟨nx8, wx8, rfl⟩, _, _, rfl, ⟨nx9, wx9, rfl⟩, _, _, rfl, ⟨nx10, wx10, rfl⟩, _, _, rfl, ⟨nx11, wx11, rfl⟩, _, _, rfl, ⟨nx12, wx12, rfl⟩, _, _, rfl, ⟨nx13, wx13, rfl⟩, _, _, rfl, ⟨nx14, wx14, rfl⟩, _, _, rfl, ⟨nx15, wx15, rfl⟩, rfl⟩, _, _, rfl, ⟨c, _, rfl⟩, _, _, rfl, ⟨g, rfl⟩, rfl⟩, hu⟩ := h
  obtain ⟨x0, _, rfl⟩ := disk.wf_u8 wx0
  obtain ⟨x1, _, rfl⟩ := disk.wf_u8 wx1
  obtain ⟨x2, _, rfl⟩ := disk.wf_u8 wx2
  obtain ⟨x3, _, rfl⟩ := disk.wf_u8 wx3
  obtain ⟨x4, _, rfl⟩ := disk.wf_u8 wx4
  obtain ⟨x5, _, rfl⟩ := disk.wf_u8 wx5
  obtain ⟨x6, _, rfl⟩ := disk.wf_u8 wx6
  obtain ⟨x7, _, rfl⟩ := disk.wf_u8 wx7
  obtain ⟨x8, _, rfl⟩ := disk.wf_u8 wx8
  obtain ⟨x9, _, rfl⟩ := disk.wf_u8 wx9
  obtain ⟨x10, _, rfl⟩ := disk.wf_u8 wx10
  obtain ⟨x11, _, rfl⟩ := disk.wf_u8 wx11
  obtain ⟨x12, _, rfl⟩ := disk.wf_u8 wx12
  obtain ⟨x13, _, rfl⟩ := disk.wf_u8 wx13
  obtain ⟨x14, _, rfl⟩ := disk.wf_u8 wx14
  obtain ⟨x15, _, rfl⟩ := disk.wf_u8 wx15
  cases hu
  exact ⟨m, s, r, [x0, x1, x2, x3, x4, x5, x6, x7, x8, x9, x10, x11, x12, x13, x14, x15], c, g, rfl, rfl⟩

theorem livesRun : okT (callS Tryz.prog crc.takeS 100000 60 27 [] (heapA Tryz.prog fun _ => none)) = true := by kernel_rfl
theorem sums : CallSnd Tryz.prog S0 := sumT_snd crc.takeS_snd (okT_some livesRun)

theorem own : ownKnob Tryz.prog.godebug = none := by kernel_rfl
theorem laid : laidOutB Tryz.prog = true := by kernel_rfl

theorem shape : shAll Tryz.prog 8 Tryz.f4.params.toList = some [.slice 1 (.int .i64), .int .u64, .int .u64, .seq (.seq (.int .i64) (.seq (.int .i64) (.seq (.int .i64) .nil))) (.seq (.seq (.int .u8) (.seq (.int .u8) (.seq (.int .u8) (.seq (.int .u8) (.seq (.int .u8) (.seq (.int .u8) (.seq (.int .u8) (.seq (.int .u8) (.seq (.int .u8) (.seq (.int .u8) (.seq (.int .u8) (.seq (.int .u8) (.seq (.int .u8) (.seq (.int .u8) (.seq (.int .u8) (.seq (.int .u8) .nil)))))))))))))))) (.seq (.int .i64) (.seq .bool .nil)))] := by kernel_rfl

theorem runs (a : Nat → Option Am.Obj) (us : List V) (h : FitsAll a [.slice 1 (.int .i64), .int .u64, .int .u64, .seq (.seq (.int .i64) (.seq (.int .i64) (.seq (.int .i64) .nil))) (.seq (.seq (.int .u8) (.seq (.int .u8) (.seq (.int .u8) (.seq (.int .u8) (.seq (.int .u8) (.seq (.int .u8) (.seq (.int .u8) (.seq (.int .u8) (.seq (.int .u8) (.seq (.int .u8) (.seq (.int .u8) (.seq (.int .u8) (.seq (.int .u8) (.seq (.int .u8) (.seq (.int .u8) (.seq (.int .u8) .nil)))))))))))))))) (.seq (.int .i64) (.seq .bool .nil)))] us) :
    ∃ lf n H1, callS Tryz.prog S0 lf n 4 us (heapA Tryz.prog a) = some (.v (.bool true), H1) ∧ QOk H1 := by
  obtain ⟨u0, us0, rfl, h0, u1, us1, rfl, ⟨C1, ⟨id, _, rfl⟩, hu1⟩, u2, us2, rfl, ⟨C2, ⟨ev, _, rfl⟩, hu2⟩, u3, us3, rfl, h3, rfl⟩ := h
  cases hu1
  cases hu2
  obtain ⟨lp, lc, W, rfl, hW⟩ := disk.picks_of (P := Tryz.prog) h0
  obtain ⟨m, s, r, S, c, g, hS, rfl⟩ := ros_of h3
  obtain ⟨v, H1, e, rfl, hT⟩ := hullnew_run (heapA Tryz.prog a) (pc := lc) hW (id := id) (ev := ev) (m := m) (s := s) (r := r) (c := c) (g := g) hS (lf := 100000) (by decide) 0
  exact ⟨100000, 8, H1, e, hT.q (by intro p hp; cases hp)⟩

set_option maxRecDepth 100000 in
theorem lifted (os : Os) (started : os.Started) (H : Type) (enc : TypeId × Value → H) :
    ReturnsInHanded {} Tryz.checked os 4 .any (Rows.hullNewSpec.pre6 enc Tryz.prog Tryz.f4 Rows.hullNewRow.domain false) (Rows.hullNewSpec.post enc Tryz.prog Tryz.f4 false true false false) := by
  refine returnsInHanded_of_change (C := Tryz.checked) own started (by kernel_rfl) Tryz.func4
    (ChangeSpec.witness6 (enc := enc) (C := Tryz.checked) false ⟨#[], #[.slice none 0 0, .int .u64 0, .int .u64 0, .agg (([.int .i64 0, .int .i64 0, .int .i64 0] : List Value) ++ (List.replicate 16 (.int .u8 0) : List Value) ++ ([.int .i64 0, .bool false] : List Value)).toArray], []⟩ 8 (by kernel_rfl) (by kernel_rfl) (by kernel_rfl) (by kernel_rfl)) ?_
  intro W base args ds gs before hval hW _ _
  refine laws_runS (P := Tryz.prog) (S := S0) sums (f := Tryz.f4) (d := 8) (tb := 4) (s := Rows.hullNewSpec) laid shape (by kernel_rfl) rfl (by kernel_rfl) (by kernel_rfl) ?_ runs hval hW
  intro ds hl
  have hl : ds.length = 4 := hl.trans (by kernel_rfl)
  match ds, hl with
  | [_, _, _, _], _ => rfl

theorem over : Rows.hullNewRow.holds Tryz.pinned (OpenSpec.ofChange Rows.hullNewSpec) :=
  OpenClaim.holds_of_wide 4 Tryz.f4 rfl rfl rfl rfl rfl rfl rfl ⟨rfl, rfl, rfl, rfl, rfl⟩ rfl rfl rfl rfl rfl (by kernel_rfl) Tryz.func4 (by kernel_rfl)
    (of_decide_eq_true (by kernel_rfl)) (by unfold Func.isWrapper; first | (rw [if_pos (by decide +kernel)]; kernel_rfl) | (rw [if_neg (by decide +kernel)]; exact ⟨rfl, rfl⟩))
    (fun os started H enc _ => lifted os started H enc)

theorem proved : Rows.HullNewSaid := over
#print axioms proved
end Go.Proofs.YtpmdbbdidafehaaGreat.draft

