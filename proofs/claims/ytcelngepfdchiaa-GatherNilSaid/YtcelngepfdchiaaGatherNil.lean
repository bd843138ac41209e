/-
  'GatherNil' holds: whatever the arguments, the law answers true, and its arguments read as they did. No condition.
-/
import Derived.Test.YtcelngepfdchiaaRows
import Derived.Test.YtcelngepfdchiaaAmSum
import Derived.Test.YtcelngepfdchiaaCrc
namespace Go.Proofs.Ytcelngepfdchiaa.gatherNil
open Go.ChangeShapes Go.WideShapes Go.ChangeAt Go.RowKit Go.Am
set_option linter.unusedVariables false

theorem own : ownKnob Try.prog.godebug = none := by kernel_rfl
theorem laid : laidOutB Try.prog = true := by kernel_rfl

theorem shape : shAll Try.prog 8 Try.f13.params.toList = some [.int .i64, .bool] := by kernel_rfl

def memo0 : Memo := ⟨143, [.blk 0], .tuple [.int .u64 0, .agg [.int .u64 0, .int .i64 0, .int .i64 0, .int .i64 0, .int .i64 0, .int .u8 0, .int .u8 0, .int .u8 0, .int .u8 0, .int .u8 0, .int .u8 0, .int .u8 0, .int .u8 0, .int .u8 0, .int .u8 0, .int .u8 0, .int .u8 0, .int .u8 0, .int .u8 0, .int .u8 0, .int .u8 0, .int .i64 0, .bool false], .int .i64 5]⟩
theorem memo0_run : okM memo0 (callS Try.prog crc.takeS 100000 60 memo0.f memo0.args (heapA Try.prog fun _ => none)) = true := by kernel_rfl
def memo1 : Memo := ⟨143, [.blk 1239138386279917519339792430634562312969550655995093206853770536149835543530190353933088587068923101192633599189726326044065782621536257], .tuple [.int .u64 1, .agg [.int .u64 9, .int .i64 1, .int .i64 3, .int .i64 4, .int .i64 40, .int .u8 0, .int .u8 0, .int .u8 0, .int .u8 0, .int .u8 0, .int .u8 0, .int .u8 0, .int .u8 0, .int .u8 0, .int .u8 0, .int .u8 0, .int .u8 0, .int .u8 0, .int .u8 0, .int .u8 0, .int .u8 0, .int .i64 0, .bool false], .int .i64 0]⟩
theorem memo1_run : okM memo1 (callS Try.prog crc.takeS 100000 60 memo1.f memo1.args (heapA Try.prog fun _ => none)) = true := by kernel_rfl
def memo2 : Memo := ⟨143, [.blk 1308262408627708773011593332307954792753293337954516135512619081594287827165932009530906503487575286452112481544338947321828435654868993], .tuple [.int .u64 1, .agg [.int .u64 9, .int .i64 0, .int .i64 3, .int .i64 4, .int .i64 40, .int .u8 0, .int .u8 0, .int .u8 0, .int .u8 0, .int .u8 0, .int .u8 0, .int .u8 0, .int .u8 0, .int .u8 0, .int .u8 0, .int .u8 0, .int .u8 0, .int .u8 0, .int .u8 0, .int .u8 0, .int .u8 0, .int .i64 0, .bool false], .int .i64 0]⟩
theorem memo2_run : okM memo2 (callS Try.prog crc.takeS 100000 60 memo2.f memo2.args (heapA Try.prog fun _ => none)) = true := by kernel_rfl
def memo3 : Memo := ⟨143, [.blk 901520035463236408691606416526808200634028965800205494182869424506979263085858796802753807186564016484422377670913287054434887289274369], .tuple [.int .u64 1, .agg [.int .u64 9, .int .i64 2, .int .i64 3, .int .i64 4, .int .i64 40, .int .u8 0, .int .u8 0, .int .u8 0, .int .u8 0, .int .u8 0, .int .u8 0, .int .u8 0, .int .u8 0, .int .u8 0, .int .u8 0, .int .u8 0, .int .u8 0, .int .u8 0, .int .u8 0, .int .u8 0, .int .u8 0, .int .i64 0, .bool false], .int .i64 0]⟩
theorem memo3_run : okM memo3 (callS Try.prog crc.takeS 100000 60 memo3.f memo3.args (heapA Try.prog fun _ => none)) = true := by kernel_rfl
def memo4 : Memo := ⟨171, [.int .u64 1, .agg [.int .u64 9, .int .i64 0, .int .i64 3, .int .i64 4, .int .i64 40, .int .u8 0, .int .u8 0, .int .u8 0, .int .u8 0, .int .u8 0, .int .u8 0, .int .u8 0, .int .u8 0, .int .u8 0, .int .u8 0, .int .u8 0, .int .u8 0, .int .u8 0, .int .u8 0, .int .u8 0, .int .u8 0, .int .i64 0, .bool false]], .tuple [.blk 1308262408627708773011593332307954792753293337954516135512619081594287827165932009530906503487575286452112481544338947321828435654868993, .int .i64 0]⟩
theorem memo4_run : okM memo4 (callS Try.prog crc.takeS 100000 60 memo4.f memo4.args (heapA Try.prog fun _ => none)) = true := by kernel_rfl
def memo5 : Memo := ⟨171, [.int .u64 1, .agg [.int .u64 9, .int .i64 1, .int .i64 3, .int .i64 4, .int .i64 40, .int .u8 0, .int .u8 0, .int .u8 0, .int .u8 0, .int .u8 0, .int .u8 0, .int .u8 0, .int .u8 0, .int .u8 0, .int .u8 0, .int .u8 0, .int .u8 0, .int .u8 0, .int .u8 0, .int .u8 0, .int .u8 0, .int .i64 0, .bool false]], .tuple [.blk 1239138386279917519339792430634562312969550655995093206853770536149835543530190353933088587068923101192633599189726326044065782621536257, .int .i64 0]⟩
theorem memo5_run : okM memo5 (callS Try.prog crc.takeS 100000 60 memo5.f memo5.args (heapA Try.prog fun _ => none)) = true := by kernel_rfl
def memo6 : Memo := ⟨171, [.int .u64 1, .agg [.int .u64 9, .int .i64 2, .int .i64 3, .int .i64 4, .int .i64 40, .int .u8 0, .int .u8 0, .int .u8 0, .int .u8 0, .int .u8 0, .int .u8 0, .int .u8 0, .int .u8 0, .int .u8 0, .int .u8 0, .int .u8 0, .int .u8 0, .int .u8 0, .int .u8 0, .int .u8 0, .int .u8 0, .int .i64 0, .bool false]], .tuple [.blk 901520035463236408691606416526808200634028965800205494182869424506979263085858796802753807186564016484422377670913287054434887289274369, .int .i64 0]⟩
theorem memo6_run : okM memo6 (callS Try.prog crc.takeS 100000 60 memo6.f memo6.args (heapA Try.prog fun _ => none)) = true := by kernel_rfl
def memos : List Memo := [memo0, memo1, memo2, memo3, memo4, memo5, memo6]
theorem memos_snd : CallSnd Try.prog (tabS memos) := tabS_snd (by
  intro e he
  simp only [memos, List.mem_cons, List.not_mem_nil, or_false] at he
  rcases he with rfl | rfl | rfl | rfl | rfl | rfl | rfl
  · exact memo_ok crc.takeS_snd memo0_run
  · exact memo_ok crc.takeS_snd memo1_run
  · exact memo_ok crc.takeS_snd memo2_run
  · exact memo_ok crc.takeS_snd memo3_run
  · exact memo_ok crc.takeS_snd memo4_run
  · exact memo_ok crc.takeS_snd memo5_run
  · exact memo_ok crc.takeS_snd memo6_run
  )

theorem livesRun : okT (callS Try.prog (orS (tabS memos) crc.takeS) 100000 60 65 [] (heapA Try.prog fun _ => none)) = true := by kernel_rfl

theorem sums : CallSnd Try.prog (sumT 65) := sumT_snd (orS_snd memos_snd crc.takeS_snd) (okT_some livesRun)

theorem runs0 (a : Nat → Option Am.Obj) (n0x0 : Int) : isT (callS Try.prog (sumT 65) 100000 60 13 [.int .i64 n0x0, .bool false] (heapA Try.prog a)) = true := by kernel_rfl
theorem owed0 (a : Nat → Option Am.Obj) (n0x0 : Int) : owedL (callS Try.prog (sumT 65) 100000 60 13 [.int .i64 n0x0, .bool false] (heapA Try.prog a)) = owedR (callS Try.prog (sumT 65) 100000 60 13 [.int .i64 n0x0, .bool false] (heapA Try.prog a)) := by kernel_rfl
theorem runs1 (a : Nat → Option Am.Obj) (n0x0 : Int) : isT (callS Try.prog (sumT 65) 100000 60 13 [.int .i64 n0x0, .bool true] (heapA Try.prog a)) = true := by kernel_rfl
theorem owed1 (a : Nat → Option Am.Obj) (n0x0 : Int) : owedL (callS Try.prog (sumT 65) 100000 60 13 [.int .i64 n0x0, .bool true] (heapA Try.prog a)) = owedR (callS Try.prog (sumT 65) 100000 60 13 [.int .i64 n0x0, .bool true] (heapA Try.prog a)) := by kernel_rfl

theorem runs (a : Nat → Option Am.Obj) (us : List V) (h : FitsAll a [.int .i64, .bool] us) :
    ∃ lf n H1, callS Try.prog (sumT 65) lf n 13 us (heapA Try.prog a) = some (.v (.bool true), H1) ∧ QOk H1 := by
  obtain ⟨u0, us0, rfl, ⟨C0, ⟨n0x0, _, rfl⟩, hu0⟩, u1, us1, rfl, ⟨C1, ⟨n1x0, rfl⟩, hu1⟩, rfl⟩ := h
  cases hu0
  cases hu1
  cases n1x0
  · exact ⟨100000, 60, isT_some (runs0 a n0x0) (owed0 a n0x0)⟩
  · exact ⟨100000, 60, isT_some (runs1 a n0x0) (owed1 a n0x0)⟩

def zeros : List Value := List.replicate 64 (.int .u8 0)

set_option maxRecDepth 100000 in
theorem lifted (os : Os) (started : os.Started) (H : Type) (enc : TypeId × Value → H) :
    ReturnsInHanded {} Try.checked os 13 .any (Rows.gatherNilSpec.pre6 enc Try.prog Try.f13 Rows.gatherNilRow.domain false) (Rows.gatherNilSpec.post enc Try.prog Try.f13 false true false false) := by
  refine returnsInHanded_of_change (C := Try.checked) own started (by kernel_rfl) Try.func13
    (ChangeSpec.witness6 (enc := enc) (C := Try.checked) false ⟨#[], #[.int .i64 0, .bool false], []⟩ 8 (by kernel_rfl) (by kernel_rfl) (by kernel_rfl) (by kernel_rfl)) ?_
  intro W base args ds gs before hval hW _ _
  refine laws_runS (P := Try.prog) (S := sumT 65) sums (f := Try.f13) (d := 8) (tb := 4) (s := Rows.gatherNilSpec) laid shape (by kernel_rfl) rfl (by kernel_rfl) (by kernel_rfl) ?_ runs hval hW
  intro ds hl
  have hl : ds.length = 2 := hl.trans (by kernel_rfl)
  match ds, hl with
  | [_, _], _ => rfl

theorem over : Rows.gatherNilRow.holds Try.pinned (OpenSpec.ofChange Rows.gatherNilSpec) :=
  OpenClaim.holds_of_wide 13 Try.f13 rfl rfl rfl rfl rfl rfl rfl ⟨rfl, rfl, rfl, rfl, rfl⟩ rfl rfl rfl rfl rfl (by kernel_rfl) Try.func13 (by kernel_rfl)
    (of_decide_eq_true (by kernel_rfl)) (by unfold Func.isWrapper; first | (rw [if_pos (by decide +kernel)]; kernel_rfl) | (rw [if_neg (by decide +kernel)]; exact ⟨rfl, rfl⟩))
    (fun os started H enc _ => lifted os started H enc)

theorem proved : Rows.GatherNilSaid := over
#print axioms proved
end Go.Proofs.Ytcelngepfdchiaa.gatherNil

