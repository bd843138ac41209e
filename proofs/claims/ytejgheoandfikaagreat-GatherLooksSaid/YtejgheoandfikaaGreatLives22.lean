import Derived.Test.YtejgheoandfikaaGreatCrc
import Derived.Test.YtejgheoandfikaaGreatAmSum
set_option linter.unusedVariables false
namespace Go.Proofs.YtejgheoandfikaaGreat.lives22
open Go.Am
def memo0 : Memo := ⟨165, [.blk 0], .tuple [.int .u64 0, .agg [.int .u64 0, .int .i64 0, .int .i64 0, .int .i64 0, .int .i64 0, .int .u8 0, .int .u8 0, .int .u8 0, .int .u8 0, .int .u8 0, .int .u8 0, .int .u8 0, .int .u8 0, .int .u8 0, .int .u8 0, .int .u8 0, .int .u8 0, .int .u8 0, .int .u8 0, .int .u8 0, .int .u8 0, .int .i64 0, .bool false], .int .i64 5]⟩
theorem memo0_run : okM memo0 (callS Tryz.prog crc.takeS 100000 60 memo0.f memo0.args (heapA Tryz.prog fun _ => none)) = true := by kernel_rfl
def memo1 : Memo := ⟨165, [.blk 1239138386279917519339792430634562312969550655995093206853770536149835543530190353933088587068923101192633599189726326044065782621536257], .tuple [.int .u64 1, .agg [.int .u64 9, .int .i64 1, .int .i64 3, .int .i64 4, .int .i64 40, .int .u8 0, .int .u8 0, .int .u8 0, .int .u8 0, .int .u8 0, .int .u8 0, .int .u8 0, .int .u8 0, .int .u8 0, .int .u8 0, .int .u8 0, .int .u8 0, .int .u8 0, .int .u8 0, .int .u8 0, .int .u8 0, .int .i64 0, .bool false], .int .i64 0]⟩
theorem memo1_run : okM memo1 (callS Tryz.prog crc.takeS 100000 60 memo1.f memo1.args (heapA Tryz.prog fun _ => none)) = true := by kernel_rfl
def memo2 : Memo := ⟨165, [.blk 1308262408627708773011593332307954792753293337954516135512619081594287827165932009530906503487575286452112481544338947321828435654868993], .tuple [.int .u64 1, .agg [.int .u64 9, .int .i64 0, .int .i64 3, .int .i64 4, .int .i64 40, .int .u8 0, .int .u8 0, .int .u8 0, .int .u8 0, .int .u8 0, .int .u8 0, .int .u8 0, .int .u8 0, .int .u8 0, .int .u8 0, .int .u8 0, .int .u8 0, .int .u8 0, .int .u8 0, .int .u8 0, .int .u8 0, .int .i64 0, .bool false], .int .i64 0]⟩
theorem memo2_run : okM memo2 (callS Tryz.prog crc.takeS 100000 60 memo2.f memo2.args (heapA Tryz.prog fun _ => none)) = true := by kernel_rfl
def memo3 : Memo := ⟨165, [.blk 901520035463236408691606416526808200634028965800205494182869424506979263085858796802753807186564016484422377670913287054434887289274369], .tuple [.int .u64 1, .agg [.int .u64 9, .int .i64 2, .int .i64 3, .int .i64 4, .int .i64 40, .int .u8 0, .int .u8 0, .int .u8 0, .int .u8 0, .int .u8 0, .int .u8 0, .int .u8 0, .int .u8 0, .int .u8 0, .int .u8 0, .int .u8 0, .int .u8 0, .int .u8 0, .int .u8 0, .int .u8 0, .int .u8 0, .int .i64 0, .bool false], .int .i64 0]⟩
theorem memo3_run : okM memo3 (callS Tryz.prog crc.takeS 100000 60 memo3.f memo3.args (heapA Tryz.prog fun _ => none)) = true := by kernel_rfl
def memo4 : Memo := ⟨174, [.int .u64 1, .agg [.int .u64 9, .int .i64 0, .int .i64 3, .int .i64 4, .int .i64 40, .int .u8 0, .int .u8 0, .int .u8 0, .int .u8 0, .int .u8 0, .int .u8 0, .int .u8 0, .int .u8 0, .int .u8 0, .int .u8 0, .int .u8 0, .int .u8 0, .int .u8 0, .int .u8 0, .int .u8 0, .int .u8 0, .int .i64 0, .bool false]], .tuple [.blk 1308262408627708773011593332307954792753293337954516135512619081594287827165932009530906503487575286452112481544338947321828435654868993, .int .i64 0]⟩
theorem memo4_run : okM memo4 (callS Tryz.prog crc.takeS 100000 60 memo4.f memo4.args (heapA Tryz.prog fun _ => none)) = true := by kernel_rfl
def memo5 : Memo := ⟨174, [.int .u64 1, .agg [.int .u64 9, .int .i64 1, .int .i64 3, .int .i64 4, .int .i64 40, .int .u8 0, .int .u8 0, .int .u8 0, .int .u8 0, .int .u8 0, .int .u8 0, .int .u8 0, .int .u8 0, .int .u8 0, .int .u8 0, .int .u8 0, .int .u8 0, .int .u8 0, .int .u8 0, .int .u8 0, .int .u8 0, .int .i64 0, .bool false]], .tuple [.blk 1239138386279917519339792430634562312969550655995093206853770536149835543530190353933088587068923101192633599189726326044065782621536257, .int .i64 0]⟩
theorem memo5_run : okM memo5 (callS Tryz.prog crc.takeS 100000 60 memo5.f memo5.args (heapA Tryz.prog fun _ => none)) = true := by kernel_rfl
def memo6 : Memo := ⟨174, [.int .u64 1, .agg [.int .u64 9, .int .i64 2, .int .i64 3, .int .i64 4, .int .i64 40, .int .u8 0, .int .u8 0, .int .u8 0, .int .u8 0, .int .u8 0, .int .u8 0, .int .u8 0, .int .u8 0, .int .u8 0, .int .u8 0, .int .u8 0, .int .u8 0, .int .u8 0, .int .u8 0, .int .u8 0, .int .u8 0, .int .i64 0, .bool false]], .tuple [.blk 901520035463236408691606416526808200634028965800205494182869424506979263085858796802753807186564016484422377670913287054434887289274369, .int .i64 0]⟩
theorem memo6_run : okM memo6 (callS Tryz.prog crc.takeS 100000 60 memo6.f memo6.args (heapA Tryz.prog fun _ => none)) = true := by kernel_rfl
def memos : List Memo := [memo0, memo1, memo2, memo3, memo4, memo5, memo6]
theorem memos_snd : CallSnd Tryz.prog (tabS memos) := tabS_snd (by
  intro e he
  simp only [memos, List.mem_cons, List.not_mem_nil, or_false] at he
  rcases he with rfl | rfl | rfl | rfl | rfl | rfl | rfl
  · exact memo_ok crc.takeS_snd memo0_run
  · exact memo_ok crc.takeS_snd memo1_run
  · exact memo_ok crc.takeS_snd memo2_run
  · exact memo_ok crc.takeS_snd memo3_run
  · exact memo_ok crc.takeS_snd memo4_run
  · exact memo_ok crc.takeS_snd memo5_run
  · exact memo_ok crc.takeS_snd memo6_run
  )
theorem livesRun : okT (callS Tryz.prog (orS (tabS memos) crc.takeS) 100000 60 42 [] (heapA Tryz.prog fun _ => none)) = true := by kernel_rfl
theorem sum : CallSnd Tryz.prog (sumT 42) := sumT_snd (orS_snd memos_snd crc.takeS_snd) (okT_some livesRun)
end Go.Proofs.YtejgheoandfikaaGreat.lives22
