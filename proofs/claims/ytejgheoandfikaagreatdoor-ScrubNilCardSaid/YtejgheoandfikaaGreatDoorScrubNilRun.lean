/-
  'ScrubNil': the machine's runs.
-/
import Derived.Test.YtejgheoandfikaaGreatDoorCards
import Derived.Test.YtejgheoandfikaaGreatDoorTie
import Derived.Test.YtejgheoandfikaaGreatDoorAmLaid
import Derived.SevenTiedAt
import Derived.LaidMore
import Derived.Stop.Joined
import Derived.Test.YtejgheoandfikaaGreatDoorCrc
import Derived.Test.YtejgheoandfikaaGreatDoorAmRange
set_option linter.unusedVariables false
namespace Go.Proofs.YtejgheoandfikaaGreatDoor.scrubNil
open Go.RowKit Go.Am

theorem shape : shAll Tryz.prog 8 Tryz.f4.params.toList = some [(.int .i64), .bool] := by kernel_rfl

def memo0 : Memo := ⟨174, [.agg [.int .i64 3, .int .i64 4, .int .i64 40]], .bool true⟩
theorem memo0_run : okM memo0 (callS Tryz.prog crc.takeS 100000 60 memo0.f memo0.args (heapB Tryz.prog (m1 0 [8, 2, 8, 8]) fun _ => none)) = true := by kernel_rfl
def memo1 : Memo := ⟨169, [.int .u64 1, .agg [.int .u64 9, .int .i64 40, .int .u64 1, .int .u64 0]], .tuple [.blk 827359170247595765269976496287616478015479917787357973304613101677704450062096345990880594416749446934587424426776552041451078631292929, .int .i64 0]⟩
theorem memo1_run : okM memo1 (callS Tryz.prog crc.takeS 100000 60 memo1.f memo1.args (heapB Tryz.prog (m1 0 [8, 2, 8, 8]) fun _ => none)) = true := by kernel_rfl
def memo2 : Memo := ⟨101, [.agg [.int .i64 3, .int .i64 4, .int .i64 40, .int .u8 0, .int .u8 0, .int .u8 0, .int .u8 0, .int .u8 0, .int .u8 0, .int .u8 0, .int .u8 0, .int .u8 0, .int .u8 0, .int .u8 0, .int .u8 0, .int .u8 0, .int .u8 0, .int .u8 0, .int .u8 0, .int .i64 0, .bool false]], .bool true⟩
theorem memo2_run : okM memo2 (callS Tryz.prog crc.takeS 100000 60 memo2.f memo2.args (heapB Tryz.prog (m1 0 [8, 2, 8, 8]) fun _ => none)) = true := by kernel_rfl
def memo3 : Memo := ⟨286, [.blk 0], .tuple [.int .u64 0, .agg [.int .u64 0, .int .i64 0, .int .i64 0, .int .i64 0, .int .i64 0, .int .u8 0, .int .u8 0, .int .u8 0, .int .u8 0, .int .u8 0, .int .u8 0, .int .u8 0, .int .u8 0, .int .u8 0, .int .u8 0, .int .u8 0, .int .u8 0, .int .u8 0, .int .u8 0, .int .u8 0, .int .u8 0, .int .i64 0, .bool false], .int .i64 5]⟩
theorem memo3_run : okM memo3 (callS Tryz.prog crc.takeS 100000 60 memo3.f memo3.args (heapB Tryz.prog (m1 0 [8, 2, 8, 8]) fun _ => none)) = true := by kernel_rfl
def memo4 : Memo := ⟨263, [.blk 0, .blk 0], .int .i64 0⟩
theorem memo4_run : okM memo4 (callS Tryz.prog crc.takeS 100000 60 memo4.f memo4.args (heapB Tryz.prog (m1 0 [8, 2, 8, 8]) fun _ => none)) = true := by kernel_rfl
def memo5 : Memo := ⟨249, [.int .u64 1, .agg [.int .u64 9, .int .i64 0, .int .i64 3, .int .i64 4, .int .i64 40, .int .u8 0, .int .u8 0, .int .u8 0, .int .u8 0, .int .u8 0, .int .u8 0, .int .u8 0, .int .u8 0, .int .u8 0, .int .u8 0, .int .u8 0, .int .u8 0, .int .u8 0, .int .u8 0, .int .u8 0, .int .u8 0, .int .i64 0, .bool false]], .tuple [.blk 1308262408627708773011593332307954792753293337954516135512619081594287827165932009530906503487575286452112481544338947321828435654868993, .int .i64 0]⟩
theorem memo5_run : okM memo5 (callS Tryz.prog crc.takeS 100000 60 memo5.f memo5.args (heapB Tryz.prog (m1 0 [8, 2, 8, 8]) fun _ => none)) = true := by kernel_rfl
def memo6 : Memo := ⟨249, [.int .u64 1, .agg [.int .u64 9, .int .i64 1, .int .i64 3, .int .i64 4, .int .i64 40, .int .u8 0, .int .u8 0, .int .u8 0, .int .u8 0, .int .u8 0, .int .u8 0, .int .u8 0, .int .u8 0, .int .u8 0, .int .u8 0, .int .u8 0, .int .u8 0, .int .u8 0, .int .u8 0, .int .u8 0, .int .u8 0, .int .i64 0, .bool false]], .tuple [.blk 1239138386279917519339792430634562312969550655995093206853770536149835543530190353933088587068923101192633599189726326044065782621536257, .int .i64 0]⟩
theorem memo6_run : okM memo6 (callS Tryz.prog crc.takeS 100000 60 memo6.f memo6.args (heapB Tryz.prog (m1 0 [8, 2, 8, 8]) fun _ => none)) = true := by kernel_rfl
def memo7 : Memo := ⟨249, [.int .u64 1, .agg [.int .u64 9, .int .i64 2, .int .i64 3, .int .i64 4, .int .i64 40, .int .u8 0, .int .u8 0, .int .u8 0, .int .u8 0, .int .u8 0, .int .u8 0, .int .u8 0, .int .u8 0, .int .u8 0, .int .u8 0, .int .u8 0, .int .u8 0, .int .u8 0, .int .u8 0, .int .u8 0, .int .u8 0, .int .i64 0, .bool false]], .tuple [.blk 901520035463236408691606416526808200634028965800205494182869424506979263085858796802753807186564016484422377670913287054434887289274369, .int .i64 0]⟩
theorem memo7_run : okM memo7 (callS Tryz.prog crc.takeS 100000 60 memo7.f memo7.args (heapB Tryz.prog (m1 0 [8, 2, 8, 8]) fun _ => none)) = true := by kernel_rfl
def memo8 : Memo := ⟨195, [.agg [.int .i64 3, .int .i64 4, .int .i64 40, .int .u8 0, .int .u8 0, .int .u8 0, .int .u8 0, .int .u8 0, .int .u8 0, .int .u8 0, .int .u8 0, .int .u8 0, .int .u8 0, .int .u8 0, .int .u8 0, .int .u8 0, .int .u8 0, .int .u8 0, .int .u8 0, .int .i64 0, .bool false]], .tuple [.int .i64 0, .bool false]⟩
theorem memo8_run : okM memo8 (callS Tryz.prog crc.takeS 100000 60 memo8.f memo8.args (heapB Tryz.prog (m1 0 [8, 2, 8, 8]) fun _ => none)) = true := by kernel_rfl
def memo9 : Memo := ⟨196, [.agg [.int .i64 3, .int .i64 4, .int .i64 40, .int .u8 0, .int .u8 0, .int .u8 0, .int .u8 0, .int .u8 0, .int .u8 0, .int .u8 0, .int .u8 0, .int .u8 0, .int .u8 0, .int .u8 0, .int .u8 0, .int .u8 0, .int .u8 0, .int .u8 0, .int .u8 0, .int .i64 0, .bool false]], .int .i64 0⟩
theorem memo9_run : okM memo9 (callS Tryz.prog crc.takeS 100000 60 memo9.f memo9.args (heapB Tryz.prog (m1 0 [8, 2, 8, 8]) fun _ => none)) = true := by kernel_rfl
def memo10 : Memo := ⟨131, [.agg [.int .i64 3, .int .i64 4, .int .i64 40, .int .u8 0, .int .u8 0, .int .u8 0, .int .u8 0, .int .u8 0, .int .u8 0, .int .u8 0, .int .u8 0, .int .u8 0, .int .u8 0, .int .u8 0, .int .u8 0, .int .u8 0, .int .u8 0, .int .u8 0, .int .u8 0, .int .i64 0, .bool false]], .int .i64 1⟩
theorem memo10_run : okM memo10 (callS Tryz.prog crc.takeS 100000 60 memo10.f memo10.args (heapB Tryz.prog (m1 0 [8, 2, 8, 8]) fun _ => none)) = true := by kernel_rfl
def memo11 : Memo := ⟨183, [.agg [.int .i64 3, .int .i64 4, .int .i64 40, .int .u8 0, .int .u8 0, .int .u8 0, .int .u8 0, .int .u8 0, .int .u8 0, .int .u8 0, .int .u8 0, .int .u8 0, .int .u8 0, .int .u8 0, .int .u8 0, .int .u8 0, .int .u8 0, .int .u8 0, .int .u8 0, .int .i64 0, .bool false], .int .i64 0, .int .i64 0], .bool true⟩
theorem memo11_run : okM memo11 (callS Tryz.prog crc.takeS 100000 60 memo11.f memo11.args (heapB Tryz.prog (m1 0 [8, 2, 8, 8]) fun _ => none)) = true := by kernel_rfl
def memo12 : Memo := ⟨183, [.agg [.int .i64 3, .int .i64 4, .int .i64 40, .int .u8 0, .int .u8 0, .int .u8 0, .int .u8 0, .int .u8 0, .int .u8 0, .int .u8 0, .int .u8 0, .int .u8 0, .int .u8 0, .int .u8 0, .int .u8 0, .int .u8 0, .int .u8 0, .int .u8 0, .int .u8 0, .int .i64 0, .bool false], .int .i64 1, .int .i64 0], .bool true⟩
theorem memo12_run : okM memo12 (callS Tryz.prog crc.takeS 100000 60 memo12.f memo12.args (heapB Tryz.prog (m1 0 [8, 2, 8, 8]) fun _ => none)) = true := by kernel_rfl
def memo13 : Memo := ⟨183, [.agg [.int .i64 3, .int .i64 4, .int .i64 40, .int .u8 0, .int .u8 0, .int .u8 0, .int .u8 0, .int .u8 0, .int .u8 0, .int .u8 0, .int .u8 0, .int .u8 0, .int .u8 0, .int .u8 0, .int .u8 0, .int .u8 0, .int .u8 0, .int .u8 0, .int .u8 0, .int .i64 0, .bool false], .int .i64 2, .int .i64 0], .bool true⟩
theorem memo13_run : okM memo13 (callS Tryz.prog crc.takeS 100000 60 memo13.f memo13.args (heapB Tryz.prog (m1 0 [8, 2, 8, 8]) fun _ => none)) = true := by kernel_rfl
def memo14 : Memo := ⟨183, [.agg [.int .i64 3, .int .i64 4, .int .i64 40, .int .u8 0, .int .u8 0, .int .u8 0, .int .u8 0, .int .u8 0, .int .u8 0, .int .u8 0, .int .u8 0, .int .u8 0, .int .u8 0, .int .u8 0, .int .u8 0, .int .u8 0, .int .u8 0, .int .u8 0, .int .u8 0, .int .i64 0, .bool false], .int .i64 0, .int .i64 1], .bool true⟩
theorem memo14_run : okM memo14 (callS Tryz.prog crc.takeS 100000 60 memo14.f memo14.args (heapB Tryz.prog (m1 0 [8, 2, 8, 8]) fun _ => none)) = true := by kernel_rfl
def memo15 : Memo := ⟨183, [.agg [.int .i64 3, .int .i64 4, .int .i64 40, .int .u8 0, .int .u8 0, .int .u8 0, .int .u8 0, .int .u8 0, .int .u8 0, .int .u8 0, .int .u8 0, .int .u8 0, .int .u8 0, .int .u8 0, .int .u8 0, .int .u8 0, .int .u8 0, .int .u8 0, .int .u8 0, .int .i64 0, .bool false], .int .i64 1, .int .i64 1], .bool true⟩
theorem memo15_run : okM memo15 (callS Tryz.prog crc.takeS 100000 60 memo15.f memo15.args (heapB Tryz.prog (m1 0 [8, 2, 8, 8]) fun _ => none)) = true := by kernel_rfl
def memo16 : Memo := ⟨183, [.agg [.int .i64 3, .int .i64 4, .int .i64 40, .int .u8 0, .int .u8 0, .int .u8 0, .int .u8 0, .int .u8 0, .int .u8 0, .int .u8 0, .int .u8 0, .int .u8 0, .int .u8 0, .int .u8 0, .int .u8 0, .int .u8 0, .int .u8 0, .int .u8 0, .int .u8 0, .int .i64 0, .bool false], .int .i64 2, .int .i64 1], .bool true⟩
theorem memo16_run : okM memo16 (callS Tryz.prog crc.takeS 100000 60 memo16.f memo16.args (heapB Tryz.prog (m1 0 [8, 2, 8, 8]) fun _ => none)) = true := by kernel_rfl
def memo17 : Memo := ⟨183, [.agg [.int .i64 3, .int .i64 4, .int .i64 40, .int .u8 0, .int .u8 0, .int .u8 0, .int .u8 0, .int .u8 0, .int .u8 0, .int .u8 0, .int .u8 0, .int .u8 0, .int .u8 0, .int .u8 0, .int .u8 0, .int .u8 0, .int .u8 0, .int .u8 0, .int .u8 0, .int .i64 0, .bool false], .int .i64 0, .int .i64 2], .bool true⟩
theorem memo17_run : okM memo17 (callS Tryz.prog crc.takeS 100000 60 memo17.f memo17.args (heapB Tryz.prog (m1 0 [8, 2, 8, 8]) fun _ => none)) = true := by kernel_rfl
def memo18 : Memo := ⟨183, [.agg [.int .i64 3, .int .i64 4, .int .i64 40, .int .u8 0, .int .u8 0, .int .u8 0, .int .u8 0, .int .u8 0, .int .u8 0, .int .u8 0, .int .u8 0, .int .u8 0, .int .u8 0, .int .u8 0, .int .u8 0, .int .u8 0, .int .u8 0, .int .u8 0, .int .u8 0, .int .i64 0, .bool false], .int .i64 0, .int .i64 3], .bool true⟩
theorem memo18_run : okM memo18 (callS Tryz.prog crc.takeS 100000 60 memo18.f memo18.args (heapB Tryz.prog (m1 0 [8, 2, 8, 8]) fun _ => none)) = true := by kernel_rfl
def memo19 : Memo := ⟨183, [.agg [.int .i64 3, .int .i64 4, .int .i64 40, .int .u8 0, .int .u8 0, .int .u8 0, .int .u8 0, .int .u8 0, .int .u8 0, .int .u8 0, .int .u8 0, .int .u8 0, .int .u8 0, .int .u8 0, .int .u8 0, .int .u8 0, .int .u8 0, .int .u8 0, .int .u8 0, .int .i64 0, .bool false], .int .i64 1, .int .i64 2], .bool true⟩
theorem memo19_run : okM memo19 (callS Tryz.prog crc.takeS 100000 60 memo19.f memo19.args (heapB Tryz.prog (m1 0 [8, 2, 8, 8]) fun _ => none)) = true := by kernel_rfl
def memo20 : Memo := ⟨183, [.agg [.int .i64 3, .int .i64 4, .int .i64 40, .int .u8 0, .int .u8 0, .int .u8 0, .int .u8 0, .int .u8 0, .int .u8 0, .int .u8 0, .int .u8 0, .int .u8 0, .int .u8 0, .int .u8 0, .int .u8 0, .int .u8 0, .int .u8 0, .int .u8 0, .int .u8 0, .int .i64 0, .bool false], .int .i64 1, .int .i64 3], .bool true⟩
theorem memo20_run : okM memo20 (callS Tryz.prog crc.takeS 100000 60 memo20.f memo20.args (heapB Tryz.prog (m1 0 [8, 2, 8, 8]) fun _ => none)) = true := by kernel_rfl
def memo21 : Memo := ⟨183, [.agg [.int .i64 3, .int .i64 4, .int .i64 40, .int .u8 0, .int .u8 0, .int .u8 0, .int .u8 0, .int .u8 0, .int .u8 0, .int .u8 0, .int .u8 0, .int .u8 0, .int .u8 0, .int .u8 0, .int .u8 0, .int .u8 0, .int .u8 0, .int .u8 0, .int .u8 0, .int .i64 0, .bool false], .int .i64 2, .int .i64 2], .bool true⟩
theorem memo21_run : okM memo21 (callS Tryz.prog crc.takeS 100000 60 memo21.f memo21.args (heapB Tryz.prog (m1 0 [8, 2, 8, 8]) fun _ => none)) = true := by kernel_rfl
def memo22 : Memo := ⟨183, [.agg [.int .i64 3, .int .i64 4, .int .i64 40, .int .u8 0, .int .u8 0, .int .u8 0, .int .u8 0, .int .u8 0, .int .u8 0, .int .u8 0, .int .u8 0, .int .u8 0, .int .u8 0, .int .u8 0, .int .u8 0, .int .u8 0, .int .u8 0, .int .u8 0, .int .u8 0, .int .i64 0, .bool false], .int .i64 2, .int .i64 3], .bool true⟩
theorem memo22_run : okM memo22 (callS Tryz.prog crc.takeS 100000 60 memo22.f memo22.args (heapB Tryz.prog (m1 0 [8, 2, 8, 8]) fun _ => none)) = true := by kernel_rfl
def memos : List Memo := [memo0, memo1, memo2, memo3, memo4, memo5, memo6, memo7, memo8, memo9, memo10, memo11, memo12, memo13, memo14, memo15, memo16, memo17, memo18, memo19, memo20, memo21, memo22]
theorem memos_snd : CallSnd Tryz.prog (tabG 0 [8, 2, 8, 8] memos) := tabG_snd (by decide +kernel) (by decide) (by
  intro e he
  simp only [memos, List.mem_cons, List.not_mem_nil, or_false] at he
  rcases he with rfl | rfl | rfl | rfl | rfl | rfl | rfl | rfl | rfl | rfl | rfl | rfl | rfl | rfl | rfl | rfl | rfl | rfl | rfl | rfl | rfl | rfl | rfl
  · exact memo_okG crc.takeS_snd memo0_run
  · exact memo_okG crc.takeS_snd memo1_run
  · exact memo_okG crc.takeS_snd memo2_run
  · exact memo_okG crc.takeS_snd memo3_run
  · exact memo_okG crc.takeS_snd memo4_run
  · exact memo_okG crc.takeS_snd memo5_run
  · exact memo_okG crc.takeS_snd memo6_run
  · exact memo_okG crc.takeS_snd memo7_run
  · exact memo_okG crc.takeS_snd memo8_run
  · exact memo_okG crc.takeS_snd memo9_run
  · exact memo_okG crc.takeS_snd memo10_run
  · exact memo_okG crc.takeS_snd memo11_run
  · exact memo_okG crc.takeS_snd memo12_run
  · exact memo_okG crc.takeS_snd memo13_run
  · exact memo_okG crc.takeS_snd memo14_run
  · exact memo_okG crc.takeS_snd memo15_run
  · exact memo_okG crc.takeS_snd memo16_run
  · exact memo_okG crc.takeS_snd memo17_run
  · exact memo_okG crc.takeS_snd memo18_run
  · exact memo_okG crc.takeS_snd memo19_run
  · exact memo_okG crc.takeS_snd memo20_run
  · exact memo_okG crc.takeS_snd memo21_run
  · exact memo_okG crc.takeS_snd memo22_run
  )

theorem livesRun : okT (callS Tryz.prog (orS (rangeT Tryz.prog (callS Tryz.prog (orS (tabG 0 [8, 2, 8, 8] memos) crc.takeS) 100000 60) 100000 [12]) (orS (tabG 0 [8, 2, 8, 8] memos) crc.takeS)) 100000 60 13 [] (heapB Tryz.prog (m1 0 [8, 2, 8, 8]) fun _ => none)) = true := by kernel_rfl

theorem sums : CallSnd Tryz.prog (orS (sumG 0 [8, 2, 8, 8] 13) crc.takeS) := orS_snd (sumG_snd (orS_snd (rangeT_snd (callS_sound (orS_snd memos_snd crc.takeS_snd) 100000 60) 100000 [12]) (orS_snd memos_snd crc.takeS_snd)) (by decide +kernel) (by decide) (okT_some livesRun)) crc.takeS_snd

theorem runs0 (a : Nat → Option Am.Obj) (n0x0 : Int) : isT (callS Tryz.prog (orS (sumG 0 [8, 2, 8, 8] 13) crc.takeS) 100000 60 4 [.int .i64 n0x0, .bool false] (heapB Tryz.prog (m1 0 [8, 2, 8, 8]) a)) = true := by kernel_rfl
theorem owed0 (a : Nat → Option Am.Obj) (n0x0 : Int) : owedL (callS Tryz.prog (orS (sumG 0 [8, 2, 8, 8] 13) crc.takeS) 100000 60 4 [.int .i64 n0x0, .bool false] (heapB Tryz.prog (m1 0 [8, 2, 8, 8]) a)) = owedR (callS Tryz.prog (orS (sumG 0 [8, 2, 8, 8] 13) crc.takeS) 100000 60 4 [.int .i64 n0x0, .bool false] (heapB Tryz.prog (m1 0 [8, 2, 8, 8]) a)) := by kernel_rfl
theorem runs1 (a : Nat → Option Am.Obj) (n0x0 : Int) : isT (callS Tryz.prog (orS (sumG 0 [8, 2, 8, 8] 13) crc.takeS) 100000 60 4 [.int .i64 n0x0, .bool true] (heapB Tryz.prog (m1 0 [8, 2, 8, 8]) a)) = true := by kernel_rfl
theorem owed1 (a : Nat → Option Am.Obj) (n0x0 : Int) : owedL (callS Tryz.prog (orS (sumG 0 [8, 2, 8, 8] 13) crc.takeS) 100000 60 4 [.int .i64 n0x0, .bool true] (heapB Tryz.prog (m1 0 [8, 2, 8, 8]) a)) = owedR (callS Tryz.prog (orS (sumG 0 [8, 2, 8, 8] 13) crc.takeS) 100000 60 4 [.int .i64 n0x0, .bool true] (heapB Tryz.prog (m1 0 [8, 2, 8, 8]) a)) := by kernel_rfl

theorem fits_slice {a : Nat → Option Am.Obj} {esz : Nat} {e : Sh} {C : List V} (h : Fits a (.slice esz e) C) : ∃ p l c, C = [.slice p l c 0] := by
  rcases h with rfl | ⟨b, l, r, rfl, _⟩
  · exact ⟨_, _, _, rfl⟩
  · exact ⟨_, _, _, rfl⟩

theorem runs (a : Nat → Option Am.Obj) (us : List V) (h : FitsAll a [(.int .i64), .bool] us) :
    ∃ lf n H1, callS Tryz.prog (orS (sumG 0 [8, 2, 8, 8] 13) crc.takeS) lf n 4 us (heapB Tryz.prog (m1 0 [8, 2, 8, 8]) a) = some (.v (.bool true), H1) ∧ QOk H1 := by
  obtain ⟨u0, us0, rfl, ⟨C0, ⟨n0x0, _, rfl⟩, hu0⟩, u1, us1, rfl, ⟨C1, ⟨n1x0, rfl⟩, hu1⟩, rfl⟩ := h
  cases hu0
  cases hu1
  cases n1x0
  · exact ⟨100000, 60, isT_some (runs0 a _) (owed0 a _)⟩
  · exact ⟨100000, 60, isT_some (runs1 a _) (owed1 a _)⟩
end Go.Proofs.YtejgheoandfikaaGreatDoor.scrubNil