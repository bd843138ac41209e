/-
  'HealNil': the machine's runs.
-/
import Derived.Test.YtjebjbodfdljmaaGreatDoorCards
import Derived.Test.YtjebjbodfdljmaaGreatDoorTie
import Derived.Test.YtjebjbodfdljmaaGreatDoorAmLaid
import Derived.SevenTiedAt
import Derived.LaidMore
import Derived.Stop.Joined
import Derived.Test.YtjebjbodfdljmaaGreatDoorCrc
set_option linter.unusedVariables false
namespace Go.Proofs.YtjebjbodfdljmaaGreatDoor.healNil
open Go.RowKit Go.Am

theorem shape : shAll Tryz.prog 8 Tryz.f4.params.toList = some [.bool] := by kernel_rfl

def memo0 : Memo := ⟨106, [.agg [.int .i64 3, .int .i64 4, .int .i64 40]], .bool true⟩
theorem memo0_run : okM memo0 (callS Tryz.prog crc.takeS 100000 60 memo0.f memo0.args (heapB Tryz.prog (m1 0 [8, 2, 8, 8]) fun _ => none)) = true := by kernel_rfl
def memo1 : Memo := ⟨112, [.agg [.int .i64 3, .int .i64 4, .int .i64 40]], .tuple [.agg [.int .i64 3, .int .i64 4, .int .i64 40, .int .u8 0, .int .u8 0, .int .u8 0, .int .u8 0, .int .u8 0, .int .u8 0, .int .u8 0, .int .u8 0, .int .u8 0, .int .u8 0, .int .u8 0, .int .u8 0, .int .u8 0, .int .u8 0, .int .u8 0, .int .u8 0, .int .i64 0, .bool false], .int .i64 0]⟩
theorem memo1_run : okM memo1 (callS Tryz.prog crc.takeS 100000 60 memo1.f memo1.args (heapB Tryz.prog (m1 0 [8, 2, 8, 8]) fun _ => none)) = true := by kernel_rfl
def memo2 : Memo := ⟨169, [.agg [.int .i64 3, .int .i64 4, .int .i64 40, .int .u8 0, .int .u8 0, .int .u8 0, .int .u8 0, .int .u8 0, .int .u8 0, .int .u8 0, .int .u8 0, .int .u8 0, .int .u8 0, .int .u8 0, .int .u8 0, .int .u8 0, .int .u8 0, .int .u8 0, .int .u8 0, .int .i64 0, .bool false]], .bool true⟩
theorem memo2_run : okM memo2 (callS Tryz.prog crc.takeS 100000 60 memo2.f memo2.args (heapB Tryz.prog (m1 0 [8, 2, 8, 8]) fun _ => none)) = true := by kernel_rfl
def memo3 : Memo := ⟨169, [.agg [.int .i64 3, .int .i64 4, .int .i64 40, .int .u8 0, .int .u8 1, .int .u8 0, .int .u8 0, .int .u8 0, .int .u8 0, .int .u8 0, .int .u8 0, .int .u8 0, .int .u8 0, .int .u8 0, .int .u8 0, .int .u8 0, .int .u8 0, .int .u8 0, .int .u8 0, .int .i64 0, .bool false]], .bool true⟩
theorem memo3_run : okM memo3 (callS Tryz.prog crc.takeS 100000 60 memo3.f memo3.args (heapB Tryz.prog (m1 0 [8, 2, 8, 8]) fun _ => none)) = true := by kernel_rfl
def memo4 : Memo := ⟨169, [.agg [.int .i64 3, .int .i64 4, .int .i64 40, .int .u8 0, .int .u8 2, .int .u8 0, .int .u8 0, .int .u8 0, .int .u8 0, .int .u8 0, .int .u8 0, .int .u8 0, .int .u8 0, .int .u8 0, .int .u8 0, .int .u8 0, .int .u8 0, .int .u8 0, .int .u8 0, .int .i64 0, .bool false]], .bool true⟩
theorem memo4_run : okM memo4 (callS Tryz.prog crc.takeS 100000 60 memo4.f memo4.args (heapB Tryz.prog (m1 0 [8, 2, 8, 8]) fun _ => none)) = true := by kernel_rfl
def memo5 : Memo := ⟨169, [.agg [.int .i64 3, .int .i64 4, .int .i64 40, .int .u8 0, .int .u8 2, .int .u8 0, .int .u8 0, .int .u8 0, .int .u8 0, .int .u8 0, .int .u8 0, .int .u8 0, .int .u8 0, .int .u8 0, .int .u8 0, .int .u8 0, .int .u8 0, .int .u8 0, .int .u8 0, .int .i64 1, .bool false]], .bool true⟩
theorem memo5_run : okM memo5 (callS Tryz.prog crc.takeS 100000 60 memo5.f memo5.args (heapB Tryz.prog (m1 0 [8, 2, 8, 8]) fun _ => none)) = true := by kernel_rfl
def memo6 : Memo := ⟨169, [.agg [.int .i64 3, .int .i64 4, .int .i64 40, .int .u8 0, .int .u8 2, .int .u8 0, .int .u8 0, .int .u8 0, .int .u8 0, .int .u8 0, .int .u8 0, .int .u8 0, .int .u8 0, .int .u8 0, .int .u8 0, .int .u8 0, .int .u8 0, .int .u8 0, .int .u8 0, .int .i64 2, .bool false]], .bool true⟩
theorem memo6_run : okM memo6 (callS Tryz.prog crc.takeS 100000 60 memo6.f memo6.args (heapB Tryz.prog (m1 0 [8, 2, 8, 8]) fun _ => none)) = true := by kernel_rfl
def memo7 : Memo := ⟨169, [.agg [.int .i64 3, .int .i64 4, .int .i64 40, .int .u8 0, .int .u8 2, .int .u8 0, .int .u8 0, .int .u8 0, .int .u8 0, .int .u8 0, .int .u8 0, .int .u8 0, .int .u8 0, .int .u8 0, .int .u8 0, .int .u8 0, .int .u8 0, .int .u8 0, .int .u8 0, .int .i64 3, .bool false]], .bool true⟩
theorem memo7_run : okM memo7 (callS Tryz.prog crc.takeS 100000 60 memo7.f memo7.args (heapB Tryz.prog (m1 0 [8, 2, 8, 8]) fun _ => none)) = true := by kernel_rfl
def memo8 : Memo := ⟨196, [.agg [.int .i64 3, .int .i64 4, .int .i64 40, .int .u8 0, .int .u8 0, .int .u8 0, .int .u8 0, .int .u8 0, .int .u8 0, .int .u8 0, .int .u8 0, .int .u8 0, .int .u8 0, .int .u8 0, .int .u8 0, .int .u8 0, .int .u8 0, .int .u8 0, .int .u8 0, .int .i64 0, .bool false]], .int .i64 1⟩
theorem memo8_run : okM memo8 (callS Tryz.prog crc.takeS 100000 60 memo8.f memo8.args (heapB Tryz.prog (m1 0 [8, 2, 8, 8]) fun _ => none)) = true := by kernel_rfl
def memo9 : Memo := ⟨196, [.agg [.int .i64 3, .int .i64 4, .int .i64 40, .int .u8 0, .int .u8 1, .int .u8 0, .int .u8 0, .int .u8 0, .int .u8 0, .int .u8 0, .int .u8 0, .int .u8 0, .int .u8 0, .int .u8 0, .int .u8 0, .int .u8 0, .int .u8 0, .int .u8 0, .int .u8 0, .int .i64 0, .bool false]], .int .i64 2⟩
theorem memo9_run : okM memo9 (callS Tryz.prog crc.takeS 100000 60 memo9.f memo9.args (heapB Tryz.prog (m1 0 [8, 2, 8, 8]) fun _ => none)) = true := by kernel_rfl
def memo10 : Memo := ⟨196, [.agg [.int .i64 3, .int .i64 4, .int .i64 40, .int .u8 0, .int .u8 2, .int .u8 0, .int .u8 0, .int .u8 0, .int .u8 0, .int .u8 0, .int .u8 0, .int .u8 0, .int .u8 0, .int .u8 0, .int .u8 0, .int .u8 0, .int .u8 0, .int .u8 0, .int .u8 0, .int .i64 0, .bool false]], .int .i64 3⟩
theorem memo10_run : okM memo10 (callS Tryz.prog crc.takeS 100000 60 memo10.f memo10.args (heapB Tryz.prog (m1 0 [8, 2, 8, 8]) fun _ => none)) = true := by kernel_rfl
def memo11 : Memo := ⟨196, [.agg [.int .i64 3, .int .i64 4, .int .i64 40, .int .u8 0, .int .u8 2, .int .u8 0, .int .u8 0, .int .u8 0, .int .u8 0, .int .u8 0, .int .u8 0, .int .u8 0, .int .u8 0, .int .u8 0, .int .u8 0, .int .u8 0, .int .u8 0, .int .u8 0, .int .u8 0, .int .i64 1, .bool false]], .int .i64 3⟩
theorem memo11_run : okM memo11 (callS Tryz.prog crc.takeS 100000 60 memo11.f memo11.args (heapB Tryz.prog (m1 0 [8, 2, 8, 8]) fun _ => none)) = true := by kernel_rfl
def memo12 : Memo := ⟨196, [.agg [.int .i64 3, .int .i64 4, .int .i64 40, .int .u8 0, .int .u8 2, .int .u8 0, .int .u8 0, .int .u8 0, .int .u8 0, .int .u8 0, .int .u8 0, .int .u8 0, .int .u8 0, .int .u8 0, .int .u8 0, .int .u8 0, .int .u8 0, .int .u8 0, .int .u8 0, .int .i64 2, .bool false]], .int .i64 3⟩
theorem memo12_run : okM memo12 (callS Tryz.prog crc.takeS 100000 60 memo12.f memo12.args (heapB Tryz.prog (m1 0 [8, 2, 8, 8]) fun _ => none)) = true := by kernel_rfl
def memo13 : Memo := ⟨196, [.agg [.int .i64 3, .int .i64 4, .int .i64 40, .int .u8 0, .int .u8 2, .int .u8 0, .int .u8 0, .int .u8 0, .int .u8 0, .int .u8 0, .int .u8 0, .int .u8 0, .int .u8 0, .int .u8 0, .int .u8 0, .int .u8 0, .int .u8 0, .int .u8 0, .int .u8 0, .int .i64 3, .bool false]], .int .i64 3⟩
theorem memo13_run : okM memo13 (callS Tryz.prog crc.takeS 100000 60 memo13.f memo13.args (heapB Tryz.prog (m1 0 [8, 2, 8, 8]) fun _ => none)) = true := by kernel_rfl
def memo14 : Memo := ⟨201, [.agg [.int .i64 3, .int .i64 4, .int .i64 40, .int .u8 0, .int .u8 0, .int .u8 0, .int .u8 0, .int .u8 0, .int .u8 0, .int .u8 0, .int .u8 0, .int .u8 0, .int .u8 0, .int .u8 0, .int .u8 0, .int .u8 0, .int .u8 0, .int .u8 0, .int .u8 0, .int .i64 0, .bool false], .int .i64 1], .tuple [.agg [.int .i64 3, .int .i64 4, .int .i64 40, .int .u8 0, .int .u8 1, .int .u8 0, .int .u8 0, .int .u8 0, .int .u8 0, .int .u8 0, .int .u8 0, .int .u8 0, .int .u8 0, .int .u8 0, .int .u8 0, .int .u8 0, .int .u8 0, .int .u8 0, .int .u8 0, .int .i64 0, .bool false], .bool true]⟩
theorem memo14_run : okM memo14 (callS Tryz.prog crc.takeS 100000 60 memo14.f memo14.args (heapB Tryz.prog (m1 0 [8, 2, 8, 8]) fun _ => none)) = true := by kernel_rfl
def memo15 : Memo := ⟨247, [.agg [.int .i64 3, .int .i64 4, .int .i64 40, .int .u8 0, .int .u8 1, .int .u8 0, .int .u8 0, .int .u8 0, .int .u8 0, .int .u8 0, .int .u8 0, .int .u8 0, .int .u8 0, .int .u8 0, .int .u8 0, .int .u8 0, .int .u8 0, .int .u8 0, .int .u8 0, .int .i64 0, .bool false], .int .i64 1], .tuple [.agg [.int .i64 3, .int .i64 4, .int .i64 40, .int .u8 0, .int .u8 2, .int .u8 0, .int .u8 0, .int .u8 0, .int .u8 0, .int .u8 0, .int .u8 0, .int .u8 0, .int .u8 0, .int .u8 0, .int .u8 0, .int .u8 0, .int .u8 0, .int .u8 0, .int .u8 0, .int .i64 0, .bool false], .int .i64 0]⟩
theorem memo15_run : okM memo15 (callS Tryz.prog crc.takeS 100000 60 memo15.f memo15.args (heapB Tryz.prog (m1 0 [8, 2, 8, 8]) fun _ => none)) = true := by kernel_rfl
def memo16 : Memo := ⟨274, [.int .u64 1, .agg [.int .u64 9, .int .i64 40, .int .u64 1, .int .u64 0]], .tuple [.blk 827359170247595765269976496287616478015479917787357973304613101677704450062096345990880594416749446934587424426776552041451078631292929, .int .i64 0]⟩
theorem memo16_run : okM memo16 (callS Tryz.prog crc.takeS 100000 60 memo16.f memo16.args (heapB Tryz.prog (m1 0 [8, 2, 8, 8]) fun _ => none)) = true := by kernel_rfl
def memo17 : Memo := ⟨290, [.agg [.int .i64 3, .int .i64 4, .int .i64 40, .int .u8 0, .int .u8 2, .int .u8 0, .int .u8 0, .int .u8 0, .int .u8 0, .int .u8 0, .int .u8 0, .int .u8 0, .int .u8 0, .int .u8 0, .int .u8 0, .int .u8 0, .int .u8 0, .int .u8 0, .int .u8 0, .int .i64 0, .bool false], .int .i64 0, .int .i64 0], .bool true⟩
theorem memo17_run : okM memo17 (callS Tryz.prog crc.takeS 100000 60 memo17.f memo17.args (heapB Tryz.prog (m1 0 [8, 2, 8, 8]) fun _ => none)) = true := by kernel_rfl
def memo18 : Memo := ⟨290, [.agg [.int .i64 3, .int .i64 4, .int .i64 40, .int .u8 0, .int .u8 2, .int .u8 0, .int .u8 0, .int .u8 0, .int .u8 0, .int .u8 0, .int .u8 0, .int .u8 0, .int .u8 0, .int .u8 0, .int .u8 0, .int .u8 0, .int .u8 0, .int .u8 0, .int .u8 0, .int .i64 0, .bool false], .int .i64 2, .int .i64 0], .bool true⟩
theorem memo18_run : okM memo18 (callS Tryz.prog crc.takeS 100000 60 memo18.f memo18.args (heapB Tryz.prog (m1 0 [8, 2, 8, 8]) fun _ => none)) = true := by kernel_rfl
def memo19 : Memo := ⟨290, [.agg [.int .i64 3, .int .i64 4, .int .i64 40, .int .u8 0, .int .u8 2, .int .u8 0, .int .u8 0, .int .u8 0, .int .u8 0, .int .u8 0, .int .u8 0, .int .u8 0, .int .u8 0, .int .u8 0, .int .u8 0, .int .u8 0, .int .u8 0, .int .u8 0, .int .u8 0, .int .i64 1, .bool false], .int .i64 0, .int .i64 1], .bool true⟩
theorem memo19_run : okM memo19 (callS Tryz.prog crc.takeS 100000 60 memo19.f memo19.args (heapB Tryz.prog (m1 0 [8, 2, 8, 8]) fun _ => none)) = true := by kernel_rfl
def memo20 : Memo := ⟨290, [.agg [.int .i64 3, .int .i64 4, .int .i64 40, .int .u8 0, .int .u8 2, .int .u8 0, .int .u8 0, .int .u8 0, .int .u8 0, .int .u8 0, .int .u8 0, .int .u8 0, .int .u8 0, .int .u8 0, .int .u8 0, .int .u8 0, .int .u8 0, .int .u8 0, .int .u8 0, .int .i64 1, .bool false], .int .i64 2, .int .i64 1], .bool true⟩
theorem memo20_run : okM memo20 (callS Tryz.prog crc.takeS 100000 60 memo20.f memo20.args (heapB Tryz.prog (m1 0 [8, 2, 8, 8]) fun _ => none)) = true := by kernel_rfl
def memo21 : Memo := ⟨290, [.agg [.int .i64 3, .int .i64 4, .int .i64 40, .int .u8 0, .int .u8 2, .int .u8 0, .int .u8 0, .int .u8 0, .int .u8 0, .int .u8 0, .int .u8 0, .int .u8 0, .int .u8 0, .int .u8 0, .int .u8 0, .int .u8 0, .int .u8 0, .int .u8 0, .int .u8 0, .int .i64 2, .bool false], .int .i64 0, .int .i64 2], .bool true⟩
theorem memo21_run : okM memo21 (callS Tryz.prog crc.takeS 100000 60 memo21.f memo21.args (heapB Tryz.prog (m1 0 [8, 2, 8, 8]) fun _ => none)) = true := by kernel_rfl
def memo22 : Memo := ⟨290, [.agg [.int .i64 3, .int .i64 4, .int .i64 40, .int .u8 0, .int .u8 2, .int .u8 0, .int .u8 0, .int .u8 0, .int .u8 0, .int .u8 0, .int .u8 0, .int .u8 0, .int .u8 0, .int .u8 0, .int .u8 0, .int .u8 0, .int .u8 0, .int .u8 0, .int .u8 0, .int .i64 2, .bool false], .int .i64 2, .int .i64 2], .bool true⟩
theorem memo22_run : okM memo22 (callS Tryz.prog crc.takeS 100000 60 memo22.f memo22.args (heapB Tryz.prog (m1 0 [8, 2, 8, 8]) fun _ => none)) = true := by kernel_rfl
def memo23 : Memo := ⟨290, [.agg [.int .i64 3, .int .i64 4, .int .i64 40, .int .u8 0, .int .u8 2, .int .u8 0, .int .u8 0, .int .u8 0, .int .u8 0, .int .u8 0, .int .u8 0, .int .u8 0, .int .u8 0, .int .u8 0, .int .u8 0, .int .u8 0, .int .u8 0, .int .u8 0, .int .u8 0, .int .i64 3, .bool false], .int .i64 0, .int .i64 3], .bool true⟩
theorem memo23_run : okM memo23 (callS Tryz.prog crc.takeS 100000 60 memo23.f memo23.args (heapB Tryz.prog (m1 0 [8, 2, 8, 8]) fun _ => none)) = true := by kernel_rfl
def memo24 : Memo := ⟨290, [.agg [.int .i64 3, .int .i64 4, .int .i64 40, .int .u8 0, .int .u8 2, .int .u8 0, .int .u8 0, .int .u8 0, .int .u8 0, .int .u8 0, .int .u8 0, .int .u8 0, .int .u8 0, .int .u8 0, .int .u8 0, .int .u8 0, .int .u8 0, .int .u8 0, .int .u8 0, .int .i64 3, .bool false], .int .i64 2, .int .i64 3], .bool true⟩
theorem memo24_run : okM memo24 (callS Tryz.prog crc.takeS 100000 60 memo24.f memo24.args (heapB Tryz.prog (m1 0 [8, 2, 8, 8]) fun _ => none)) = true := by kernel_rfl
def memo25 : Memo := ⟨300, [.int .i64 0], .tuple [.int .i64 2, .int .i64 0]⟩
theorem memo25_run : okM memo25 (callS Tryz.prog crc.takeS 100000 60 memo25.f memo25.args (heapB Tryz.prog (m1 0 [8, 2, 8, 8]) fun _ => none)) = true := by kernel_rfl
def memo26 : Memo := ⟨300, [.int .i64 1], .tuple [.int .i64 3, .int .i64 0]⟩
theorem memo26_run : okM memo26 (callS Tryz.prog crc.takeS 100000 60 memo26.f memo26.args (heapB Tryz.prog (m1 0 [8, 2, 8, 8]) fun _ => none)) = true := by kernel_rfl
def memo27 : Memo := ⟨300, [.int .i64 2], .tuple [.int .i64 4, .int .i64 0]⟩
theorem memo27_run : okM memo27 (callS Tryz.prog crc.takeS 100000 60 memo27.f memo27.args (heapB Tryz.prog (m1 0 [8, 2, 8, 8]) fun _ => none)) = true := by kernel_rfl
def memo28 : Memo := ⟨300, [.int .i64 3], .tuple [.int .i64 5, .int .i64 0]⟩
theorem memo28_run : okM memo28 (callS Tryz.prog crc.takeS 100000 60 memo28.f memo28.args (heapB Tryz.prog (m1 0 [8, 2, 8, 8]) fun _ => none)) = true := by kernel_rfl
def memo29 : Memo := ⟨301, [.agg [.int .i64 3, .int .i64 4, .int .i64 40, .int .u8 0, .int .u8 2, .int .u8 0, .int .u8 0, .int .u8 0, .int .u8 0, .int .u8 0, .int .u8 0, .int .u8 0, .int .u8 0, .int .u8 0, .int .u8 0, .int .u8 0, .int .u8 0, .int .u8 0, .int .u8 0, .int .i64 0, .bool false]], .tuple [.agg [.int .i64 3, .int .i64 4, .int .i64 40, .int .u8 0, .int .u8 2, .int .u8 0, .int .u8 0, .int .u8 0, .int .u8 0, .int .u8 0, .int .u8 0, .int .u8 0, .int .u8 0, .int .u8 0, .int .u8 0, .int .u8 0, .int .u8 0, .int .u8 0, .int .u8 0, .int .i64 1, .bool false], .int .i64 0]⟩
theorem memo29_run : okM memo29 (callS Tryz.prog crc.takeS 100000 60 memo29.f memo29.args (heapB Tryz.prog (m1 0 [8, 2, 8, 8]) fun _ => none)) = true := by kernel_rfl
def memo30 : Memo := ⟨301, [.agg [.int .i64 3, .int .i64 4, .int .i64 40, .int .u8 0, .int .u8 2, .int .u8 0, .int .u8 0, .int .u8 0, .int .u8 0, .int .u8 0, .int .u8 0, .int .u8 0, .int .u8 0, .int .u8 0, .int .u8 0, .int .u8 0, .int .u8 0, .int .u8 0, .int .u8 0, .int .i64 1, .bool false]], .tuple [.agg [.int .i64 3, .int .i64 4, .int .i64 40, .int .u8 0, .int .u8 2, .int .u8 0, .int .u8 0, .int .u8 0, .int .u8 0, .int .u8 0, .int .u8 0, .int .u8 0, .int .u8 0, .int .u8 0, .int .u8 0, .int .u8 0, .int .u8 0, .int .u8 0, .int .u8 0, .int .i64 2, .bool false], .int .i64 0]⟩
theorem memo30_run : okM memo30 (callS Tryz.prog crc.takeS 100000 60 memo30.f memo30.args (heapB Tryz.prog (m1 0 [8, 2, 8, 8]) fun _ => none)) = true := by kernel_rfl
def memo31 : Memo := ⟨301, [.agg [.int .i64 3, .int .i64 4, .int .i64 40, .int .u8 0, .int .u8 2, .int .u8 0, .int .u8 0, .int .u8 0, .int .u8 0, .int .u8 0, .int .u8 0, .int .u8 0, .int .u8 0, .int .u8 0, .int .u8 0, .int .u8 0, .int .u8 0, .int .u8 0, .int .u8 0, .int .i64 2, .bool false]], .tuple [.agg [.int .i64 3, .int .i64 4, .int .i64 40, .int .u8 0, .int .u8 2, .int .u8 0, .int .u8 0, .int .u8 0, .int .u8 0, .int .u8 0, .int .u8 0, .int .u8 0, .int .u8 0, .int .u8 0, .int .u8 0, .int .u8 0, .int .u8 0, .int .u8 0, .int .u8 0, .int .i64 3, .bool false], .int .i64 0]⟩
theorem memo31_run : okM memo31 (callS Tryz.prog crc.takeS 100000 60 memo31.f memo31.args (heapB Tryz.prog (m1 0 [8, 2, 8, 8]) fun _ => none)) = true := by kernel_rfl
def memo32 : Memo := ⟨301, [.agg [.int .i64 3, .int .i64 4, .int .i64 40, .int .u8 0, .int .u8 2, .int .u8 0, .int .u8 0, .int .u8 0, .int .u8 0, .int .u8 0, .int .u8 0, .int .u8 0, .int .u8 0, .int .u8 0, .int .u8 0, .int .u8 0, .int .u8 0, .int .u8 0, .int .u8 0, .int .i64 3, .bool false]], .tuple [.agg [.int .i64 3, .int .i64 4, .int .i64 40, .int .u8 0, .int .u8 0, .int .u8 0, .int .u8 0, .int .u8 0, .int .u8 0, .int .u8 0, .int .u8 0, .int .u8 0, .int .u8 0, .int .u8 0, .int .u8 0, .int .u8 0, .int .u8 0, .int .u8 0, .int .u8 0, .int .i64 0, .bool false], .int .i64 0]⟩
theorem memo32_run : okM memo32 (callS Tryz.prog crc.takeS 100000 60 memo32.f memo32.args (heapB Tryz.prog (m1 0 [8, 2, 8, 8]) fun _ => none)) = true := by kernel_rfl
def memo33 : Memo := ⟨303, [.int .u64 1, .agg [.int .u64 9, .int .i64 0, .int .i64 3, .int .i64 4, .int .i64 40, .int .u8 0, .int .u8 0, .int .u8 0, .int .u8 0, .int .u8 0, .int .u8 0, .int .u8 0, .int .u8 0, .int .u8 0, .int .u8 0, .int .u8 0, .int .u8 0, .int .u8 0, .int .u8 0, .int .u8 0, .int .u8 0, .int .i64 0, .bool false]], .tuple [.blk 1308262408627708773011593332307954792753293337954516135512619081594287827165932009530906503487575286452112481544338947321828435654868993, .int .i64 0]⟩
theorem memo33_run : okM memo33 (callS Tryz.prog crc.takeS 100000 60 memo33.f memo33.args (heapB Tryz.prog (m1 0 [8, 2, 8, 8]) fun _ => none)) = true := by kernel_rfl
def memo34 : Memo := ⟨303, [.int .u64 1, .agg [.int .u64 9, .int .i64 1, .int .i64 3, .int .i64 4, .int .i64 40, .int .u8 0, .int .u8 0, .int .u8 0, .int .u8 0, .int .u8 0, .int .u8 0, .int .u8 0, .int .u8 0, .int .u8 0, .int .u8 0, .int .u8 0, .int .u8 0, .int .u8 0, .int .u8 0, .int .u8 0, .int .u8 0, .int .i64 0, .bool false]], .tuple [.blk 1239138386279917519339792430634562312969550655995093206853770536149835543530190353933088587068923101192633599189726326044065782621536257, .int .i64 0]⟩
theorem memo34_run : okM memo34 (callS Tryz.prog crc.takeS 100000 60 memo34.f memo34.args (heapB Tryz.prog (m1 0 [8, 2, 8, 8]) fun _ => none)) = true := by kernel_rfl
def memo35 : Memo := ⟨303, [.int .u64 1, .agg [.int .u64 9, .int .i64 2, .int .i64 3, .int .i64 4, .int .i64 40, .int .u8 0, .int .u8 0, .int .u8 0, .int .u8 0, .int .u8 0, .int .u8 0, .int .u8 0, .int .u8 0, .int .u8 0, .int .u8 0, .int .u8 0, .int .u8 0, .int .u8 0, .int .u8 0, .int .u8 0, .int .u8 0, .int .i64 0, .bool false]], .tuple [.blk 901520035463236408691606416526808200634028965800205494182869424506979263085858796802753807186564016484422377670913287054434887289274369, .int .i64 0]⟩
theorem memo35_run : okM memo35 (callS Tryz.prog crc.takeS 100000 60 memo35.f memo35.args (heapB Tryz.prog (m1 0 [8, 2, 8, 8]) fun _ => none)) = true := by kernel_rfl
def memo36 : Memo := ⟨303, [.int .u64 2, .agg [.int .u64 9, .int .i64 0, .int .i64 3, .int .i64 4, .int .i64 40, .int .u8 0, .int .u8 1, .int .u8 0, .int .u8 0, .int .u8 0, .int .u8 0, .int .u8 0, .int .u8 0, .int .u8 0, .int .u8 0, .int .u8 0, .int .u8 0, .int .u8 0, .int .u8 0, .int .u8 0, .int .u8 0, .int .i64 0, .bool false]], .tuple [.blk 1781550068001762855848874178059811912923320611947281648082779862111774096300906050226587953172419527356613774274371172573146596170006530, .int .i64 0]⟩
theorem memo36_run : okM memo36 (callS Tryz.prog crc.takeS 100000 60 memo36.f memo36.args (heapB Tryz.prog (m1 0 [8, 2, 8, 8]) fun _ => none)) = true := by kernel_rfl
def memo37 : Memo := ⟨303, [.int .u64 2, .agg [.int .u64 9, .int .i64 2, .int .i64 3, .int .i64 4, .int .i64 40, .int .u8 0, .int .u8 1, .int .u8 0, .int .u8 0, .int .u8 0, .int .u8 0, .int .u8 0, .int .u8 0, .int .u8 0, .int .u8 0, .int .u8 0, .int .u8 0, .int .u8 0, .int .u8 0, .int .u8 0, .int .u8 0, .int .i64 0, .bool false]], .tuple [.blk 1823353650610683072021433696309955624591820777966336148945199248418743272959670576643853250818680778721218206758291159619546889578348546, .int .i64 0]⟩
theorem memo37_run : okM memo37 (callS Tryz.prog crc.takeS 100000 60 memo37.f memo37.args (heapB Tryz.prog (m1 0 [8, 2, 8, 8]) fun _ => none)) = true := by kernel_rfl
def memo38 : Memo := ⟨303, [.int .u64 3, .agg [.int .u64 9, .int .i64 0, .int .i64 3, .int .i64 4, .int .i64 40, .int .u8 0, .int .u8 2, .int .u8 0, .int .u8 0, .int .u8 0, .int .u8 0, .int .u8 0, .int .u8 0, .int .u8 0, .int .u8 0, .int .u8 0, .int .u8 0, .int .u8 0, .int .u8 0, .int .u8 0, .int .u8 0, .int .i64 0, .bool false]], .tuple [.blk 2305831092686502861646316778117869756725375965007702390515333316678501683731006673849715721680126071909093878880431090079466021638373379, .int .i64 0]⟩
theorem memo38_run : okM memo38 (callS Tryz.prog crc.takeS 100000 60 memo38.f memo38.args (heapB Tryz.prog (m1 0 [8, 2, 8, 8]) fun _ => none)) = true := by kernel_rfl
def memo39 : Memo := ⟨303, [.int .u64 3, .agg [.int .u64 9, .int .i64 1, .int .i64 3, .int .i64 4, .int .i64 40, .int .u8 0, .int .u8 2, .int .u8 0, .int .u8 0, .int .u8 0, .int .u8 0, .int .u8 0, .int .u8 0, .int .u8 0, .int .u8 0, .int .u8 0, .int .u8 0, .int .u8 0, .int .u8 0, .int .u8 0, .int .u8 0, .int .i64 0, .bool false]], .tuple [.blk 2420479578742063774497535662280707527835841507307720851521905966357065434619608896552975266710915547195474114162169733509152438831022083, .int .i64 0]⟩
theorem memo39_run : okM memo39 (callS Tryz.prog crc.takeS 100000 60 memo39.f memo39.args (heapB Tryz.prog (m1 0 [8, 2, 8, 8]) fun _ => none)) = true := by kernel_rfl
def memo40 : Memo := ⟨303, [.int .u64 3, .agg [.int .u64 9, .int .i64 2, .int .i64 3, .int .i64 4, .int .i64 40, .int .u8 0, .int .u8 2, .int .u8 0, .int .u8 0, .int .u8 0, .int .u8 0, .int .u8 0, .int .u8 0, .int .u8 0, .int .u8 0, .int .u8 0, .int .u8 0, .int .u8 0, .int .u8 0, .int .u8 0, .int .u8 0, .int .i64 0, .bool false]], .tuple [.blk 2809200999952636439534109470929073887930497355748855472001806407317867235861165227960428376835537190329839477937029330841859562003234819, .int .i64 0]⟩
theorem memo40_run : okM memo40 (callS Tryz.prog crc.takeS 100000 60 memo40.f memo40.args (heapB Tryz.prog (m1 0 [8, 2, 8, 8]) fun _ => none)) = true := by kernel_rfl
def memo41 : Memo := ⟨303, [.int .u64 4, .agg [.int .u64 9, .int .i64 0, .int .i64 3, .int .i64 4, .int .i64 40, .int .u8 0, .int .u8 0, .int .u8 0, .int .u8 0, .int .u8 0, .int .u8 0, .int .u8 0, .int .u8 0, .int .u8 0, .int .u8 0, .int .u8 0, .int .u8 0, .int .u8 0, .int .u8 0, .int .u8 0, .int .u8 0, .int .i64 0, .bool false]], .tuple [.blk 3596632394592980701726195881230530241975633830371247225988450493730230232249776962034846915054360324397577406976431882122431296111116292, .int .i64 0]⟩
theorem memo41_run : okM memo41 (callS Tryz.prog crc.takeS 100000 60 memo41.f memo41.args (heapB Tryz.prog (m1 0 [8, 2, 8, 8]) fun _ => none)) = true := by kernel_rfl
def memo42 : Memo := ⟨303, [.int .u64 4, .agg [.int .u64 9, .int .i64 1, .int .i64 3, .int .i64 4, .int .i64 40, .int .u8 0, .int .u8 0, .int .u8 0, .int .u8 0, .int .u8 0, .int .u8 0, .int .u8 0, .int .u8 0, .int .u8 0, .int .u8 0, .int .u8 0, .int .u8 0, .int .u8 0, .int .u8 0, .int .u8 0, .int .u8 0, .int .i64 0, .bool false]], .tuple [.blk 3300254775452695249895896815283680708455151026645542316448345113860698909880212684658526256363000555660899238417263030018491453326491652, .int .i64 0]⟩
theorem memo42_run : okM memo42 (callS Tryz.prog crc.takeS 100000 60 memo42.f memo42.args (heapB Tryz.prog (m1 0 [8, 2, 8, 8]) fun _ => none)) = true := by kernel_rfl
def memo43 : Memo := ⟨303, [.int .u64 4, .agg [.int .u64 9, .int .i64 2, .int .i64 3, .int .i64 4, .int .i64 40, .int .u8 0, .int .u8 0, .int .u8 0, .int .u8 0, .int .u8 0, .int .u8 0, .int .u8 0, .int .u8 0, .int .u8 0, .int .u8 0, .int .u8 0, .int .u8 0, .int .u8 0, .int .u8 0, .int .u8 0, .int .u8 0, .int .i64 0, .bool false]], .tuple [.blk 2917419857233183802430902565399086068791036519208413695310965782333409726458560788256356653864695448844618484345304435395266076911599620, .int .i64 0]⟩
theorem memo43_run : okM memo43 (callS Tryz.prog crc.takeS 100000 60 memo43.f memo43.args (heapB Tryz.prog (m1 0 [8, 2, 8, 8]) fun _ => none)) = true := by kernel_rfl
def memo44 : Memo := ⟨352, [.blk 0, .blk 0], .int .i64 0⟩
theorem memo44_run : okM memo44 (callS Tryz.prog crc.takeS 100000 60 memo44.f memo44.args (heapB Tryz.prog (m1 0 [8, 2, 8, 8]) fun _ => none)) = true := by kernel_rfl
def memo45 : Memo := ⟨352, [.blk 1308262408627708773011593332307954792753293337954516135512619081594287827165932009530906503487575286452112481544338947321828435654868993, .blk 0], .int .i64 1⟩
theorem memo45_run : okM memo45 (callS Tryz.prog crc.takeS 100000 60 memo45.f memo45.args (heapB Tryz.prog (m1 0 [8, 2, 8, 8]) fun _ => none)) = true := by kernel_rfl
def memo46 : Memo := ⟨352, [.blk 1308262408627708773011593332307954792753293337954516135512619081594287827165932009530906503487575286452112481544338947321828435654868993, .blk 1781550068001762855848874178059811912923320611947281648082779862111774096300906050226587953172419527356613774274371172573146596170006530], .int .i64 0⟩
theorem memo46_run : okM memo46 (callS Tryz.prog crc.takeS 100000 60 memo46.f memo46.args (heapB Tryz.prog (m1 0 [8, 2, 8, 8]) fun _ => none)) = true := by kernel_rfl
def memo47 : Memo := ⟨352, [.blk 2305831092686502861646316778117869756725375965007702390515333316678501683731006673849715721680126071909093878880431090079466021638373379, .blk 1781550068001762855848874178059811912923320611947281648082779862111774096300906050226587953172419527356613774274371172573146596170006530], .int .i64 1⟩
theorem memo47_run : okM memo47 (callS Tryz.prog crc.takeS 100000 60 memo47.f memo47.args (heapB Tryz.prog (m1 0 [8, 2, 8, 8]) fun _ => none)) = true := by kernel_rfl
def memo48 : Memo := ⟨352, [.blk 2420479578742063774497535662280707527835841507307720851521905966357065434619608896552975266710915547195474114162169733509152438831022083, .blk 0], .int .i64 1⟩
theorem memo48_run : okM memo48 (callS Tryz.prog crc.takeS 100000 60 memo48.f memo48.args (heapB Tryz.prog (m1 0 [8, 2, 8, 8]) fun _ => none)) = true := by kernel_rfl
def memo49 : Memo := ⟨352, [.blk 2809200999952636439534109470929073887930497355748855472001806407317867235861165227960428376835537190329839477937029330841859562003234819, .blk 1823353650610683072021433696309955624591820777966336148945199248418743272959670576643853250818680778721218206758291159619546889578348546], .int .i64 1⟩
theorem memo49_run : okM memo49 (callS Tryz.prog crc.takeS 100000 60 memo49.f memo49.args (heapB Tryz.prog (m1 0 [8, 2, 8, 8]) fun _ => none)) = true := by kernel_rfl
def memo50 : Memo := ⟨352, [.blk 901520035463236408691606416526808200634028965800205494182869424506979263085858796802753807186564016484422377670913287054434887289274369, .blk 0], .int .i64 1⟩
theorem memo50_run : okM memo50 (callS Tryz.prog crc.takeS 100000 60 memo50.f memo50.args (heapB Tryz.prog (m1 0 [8, 2, 8, 8]) fun _ => none)) = true := by kernel_rfl
def memo51 : Memo := ⟨352, [.blk 901520035463236408691606416526808200634028965800205494182869424506979263085858796802753807186564016484422377670913287054434887289274369, .blk 1823353650610683072021433696309955624591820777966336148945199248418743272959670576643853250818680778721218206758291159619546889578348546], .int .i64 0⟩
theorem memo51_run : okM memo51 (callS Tryz.prog crc.takeS 100000 60 memo51.f memo51.args (heapB Tryz.prog (m1 0 [8, 2, 8, 8]) fun _ => none)) = true := by kernel_rfl
def memo52 : Memo := ⟨360, [.blk 0], .tuple [.int .u64 0, .agg [.int .u64 0, .int .i64 0, .int .i64 0, .int .i64 0, .int .i64 0, .int .u8 0, .int .u8 0, .int .u8 0, .int .u8 0, .int .u8 0, .int .u8 0, .int .u8 0, .int .u8 0, .int .u8 0, .int .u8 0, .int .u8 0, .int .u8 0, .int .u8 0, .int .u8 0, .int .u8 0, .int .u8 0, .int .i64 0, .bool false], .int .i64 5]⟩
theorem memo52_run : okM memo52 (callS Tryz.prog crc.takeS 100000 60 memo52.f memo52.args (heapB Tryz.prog (m1 0 [8, 2, 8, 8]) fun _ => none)) = true := by kernel_rfl
def memo53 : Memo := ⟨360, [.blk 1308262408627708773011593332307954792753293337954516135512619081594287827165932009530906503487575286452112481544338947321828435654868993], .tuple [.int .u64 1, .agg [.int .u64 9, .int .i64 0, .int .i64 3, .int .i64 4, .int .i64 40, .int .u8 0, .int .u8 0, .int .u8 0, .int .u8 0, .int .u8 0, .int .u8 0, .int .u8 0, .int .u8 0, .int .u8 0, .int .u8 0, .int .u8 0, .int .u8 0, .int .u8 0, .int .u8 0, .int .u8 0, .int .u8 0, .int .i64 0, .bool false], .int .i64 0]⟩
theorem memo53_run : okM memo53 (callS Tryz.prog crc.takeS 100000 60 memo53.f memo53.args (heapB Tryz.prog (m1 0 [8, 2, 8, 8]) fun _ => none)) = true := by kernel_rfl
def memo54 : Memo := ⟨360, [.blk 1781550068001762855848874178059811912923320611947281648082779862111774096300906050226587953172419527356613774274371172573146596170006530], .tuple [.int .u64 2, .agg [.int .u64 9, .int .i64 0, .int .i64 3, .int .i64 4, .int .i64 40, .int .u8 0, .int .u8 1, .int .u8 0, .int .u8 0, .int .u8 0, .int .u8 0, .int .u8 0, .int .u8 0, .int .u8 0, .int .u8 0, .int .u8 0, .int .u8 0, .int .u8 0, .int .u8 0, .int .u8 0, .int .u8 0, .int .i64 0, .bool false], .int .i64 0]⟩
theorem memo54_run : okM memo54 (callS Tryz.prog crc.takeS 100000 60 memo54.f memo54.args (heapB Tryz.prog (m1 0 [8, 2, 8, 8]) fun _ => none)) = true := by kernel_rfl
def memo55 : Memo := ⟨360, [.blk 1823353650610683072021433696309955624591820777966336148945199248418743272959670576643853250818680778721218206758291159619546889578348546], .tuple [.int .u64 2, .agg [.int .u64 9, .int .i64 2, .int .i64 3, .int .i64 4, .int .i64 40, .int .u8 0, .int .u8 1, .int .u8 0, .int .u8 0, .int .u8 0, .int .u8 0, .int .u8 0, .int .u8 0, .int .u8 0, .int .u8 0, .int .u8 0, .int .u8 0, .int .u8 0, .int .u8 0, .int .u8 0, .int .u8 0, .int .i64 0, .bool false], .int .i64 0]⟩
theorem memo55_run : okM memo55 (callS Tryz.prog crc.takeS 100000 60 memo55.f memo55.args (heapB Tryz.prog (m1 0 [8, 2, 8, 8]) fun _ => none)) = true := by kernel_rfl
def memo56 : Memo := ⟨360, [.blk 2305831092686502861646316778117869756725375965007702390515333316678501683731006673849715721680126071909093878880431090079466021638373379], .tuple [.int .u64 3, .agg [.int .u64 9, .int .i64 0, .int .i64 3, .int .i64 4, .int .i64 40, .int .u8 0, .int .u8 2, .int .u8 0, .int .u8 0, .int .u8 0, .int .u8 0, .int .u8 0, .int .u8 0, .int .u8 0, .int .u8 0, .int .u8 0, .int .u8 0, .int .u8 0, .int .u8 0, .int .u8 0, .int .u8 0, .int .i64 0, .bool false], .int .i64 0]⟩
theorem memo56_run : okM memo56 (callS Tryz.prog crc.takeS 100000 60 memo56.f memo56.args (heapB Tryz.prog (m1 0 [8, 2, 8, 8]) fun _ => none)) = true := by kernel_rfl
def memo57 : Memo := ⟨360, [.blk 2420479578742063774497535662280707527835841507307720851521905966357065434619608896552975266710915547195474114162169733509152438831022083], .tuple [.int .u64 3, .agg [.int .u64 9, .int .i64 1, .int .i64 3, .int .i64 4, .int .i64 40, .int .u8 0, .int .u8 2, .int .u8 0, .int .u8 0, .int .u8 0, .int .u8 0, .int .u8 0, .int .u8 0, .int .u8 0, .int .u8 0, .int .u8 0, .int .u8 0, .int .u8 0, .int .u8 0, .int .u8 0, .int .u8 0, .int .i64 0, .bool false], .int .i64 0]⟩
theorem memo57_run : okM memo57 (callS Tryz.prog crc.takeS 100000 60 memo57.f memo57.args (heapB Tryz.prog (m1 0 [8, 2, 8, 8]) fun _ => none)) = true := by kernel_rfl
def memo58 : Memo := ⟨360, [.blk 2809200999952636439534109470929073887930497355748855472001806407317867235861165227960428376835537190329839477937029330841859562003234819], .tuple [.int .u64 3, .agg [.int .u64 9, .int .i64 2, .int .i64 3, .int .i64 4, .int .i64 40, .int .u8 0, .int .u8 2, .int .u8 0, .int .u8 0, .int .u8 0, .int .u8 0, .int .u8 0, .int .u8 0, .int .u8 0, .int .u8 0, .int .u8 0, .int .u8 0, .int .u8 0, .int .u8 0, .int .u8 0, .int .u8 0, .int .i64 0, .bool false], .int .i64 0]⟩
theorem memo58_run : okM memo58 (callS Tryz.prog crc.takeS 100000 60 memo58.f memo58.args (heapB Tryz.prog (m1 0 [8, 2, 8, 8]) fun _ => none)) = true := by kernel_rfl
def memo59 : Memo := ⟨360, [.blk 901520035463236408691606416526808200634028965800205494182869424506979263085858796802753807186564016484422377670913287054434887289274369], .tuple [.int .u64 1, .agg [.int .u64 9, .int .i64 2, .int .i64 3, .int .i64 4, .int .i64 40, .int .u8 0, .int .u8 0, .int .u8 0, .int .u8 0, .int .u8 0, .int .u8 0, .int .u8 0, .int .u8 0, .int .u8 0, .int .u8 0, .int .u8 0, .int .u8 0, .int .u8 0, .int .u8 0, .int .u8 0, .int .u8 0, .int .i64 0, .bool false], .int .i64 0]⟩
theorem memo59_run : okM memo59 (callS Tryz.prog crc.takeS 100000 60 memo59.f memo59.args (heapB Tryz.prog (m1 0 [8, 2, 8, 8]) fun _ => none)) = true := by kernel_rfl
def memo60 : Memo := ⟨77, [.agg [.int .i64 3, .int .i64 4, .int .i64 40, .int .u8 0, .int .u8 0, .int .u8 0, .int .u8 0, .int .u8 0, .int .u8 0, .int .u8 0, .int .u8 0, .int .u8 0, .int .u8 0, .int .u8 0, .int .u8 0, .int .u8 0, .int .u8 0, .int .u8 0, .int .u8 0, .int .i64 0, .bool false]], .tuple [.int .i64 0, .bool false]⟩
theorem memo60_run : okM memo60 (callS Tryz.prog crc.takeS 100000 60 memo60.f memo60.args (heapB Tryz.prog (m1 0 [8, 2, 8, 8]) fun _ => none)) = true := by kernel_rfl
def memo61 : Memo := ⟨77, [.agg [.int .i64 3, .int .i64 4, .int .i64 40, .int .u8 0, .int .u8 1, .int .u8 0, .int .u8 0, .int .u8 0, .int .u8 0, .int .u8 0, .int .u8 0, .int .u8 0, .int .u8 0, .int .u8 0, .int .u8 0, .int .u8 0, .int .u8 0, .int .u8 0, .int .u8 0, .int .i64 0, .bool false]], .tuple [.int .i64 0, .bool false]⟩
theorem memo61_run : okM memo61 (callS Tryz.prog crc.takeS 100000 60 memo61.f memo61.args (heapB Tryz.prog (m1 0 [8, 2, 8, 8]) fun _ => none)) = true := by kernel_rfl
def memo62 : Memo := ⟨77, [.agg [.int .i64 3, .int .i64 4, .int .i64 40, .int .u8 0, .int .u8 2, .int .u8 0, .int .u8 0, .int .u8 0, .int .u8 0, .int .u8 0, .int .u8 0, .int .u8 0, .int .u8 0, .int .u8 0, .int .u8 0, .int .u8 0, .int .u8 0, .int .u8 0, .int .u8 0, .int .i64 0, .bool false]], .tuple [.int .i64 1, .bool true]⟩
theorem memo62_run : okM memo62 (callS Tryz.prog crc.takeS 100000 60 memo62.f memo62.args (heapB Tryz.prog (m1 0 [8, 2, 8, 8]) fun _ => none)) = true := by kernel_rfl
def memo63 : Memo := ⟨77, [.agg [.int .i64 3, .int .i64 4, .int .i64 40, .int .u8 0, .int .u8 2, .int .u8 0, .int .u8 0, .int .u8 0, .int .u8 0, .int .u8 0, .int .u8 0, .int .u8 0, .int .u8 0, .int .u8 0, .int .u8 0, .int .u8 0, .int .u8 0, .int .u8 0, .int .u8 0, .int .i64 1, .bool false]], .tuple [.int .i64 1, .bool true]⟩
theorem memo63_run : okM memo63 (callS Tryz.prog crc.takeS 100000 60 memo63.f memo63.args (heapB Tryz.prog (m1 0 [8, 2, 8, 8]) fun _ => none)) = true := by kernel_rfl
def memo64 : Memo := ⟨77, [.agg [.int .i64 3, .int .i64 4, .int .i64 40, .int .u8 0, .int .u8 2, .int .u8 0, .int .u8 0, .int .u8 0, .int .u8 0, .int .u8 0, .int .u8 0, .int .u8 0, .int .u8 0, .int .u8 0, .int .u8 0, .int .u8 0, .int .u8 0, .int .u8 0, .int .u8 0, .int .i64 2, .bool false]], .tuple [.int .i64 1, .bool true]⟩
theorem memo64_run : okM memo64 (callS Tryz.prog crc.takeS 100000 60 memo64.f memo64.args (heapB Tryz.prog (m1 0 [8, 2, 8, 8]) fun _ => none)) = true := by kernel_rfl
def memo65 : Memo := ⟨77, [.agg [.int .i64 3, .int .i64 4, .int .i64 40, .int .u8 0, .int .u8 2, .int .u8 0, .int .u8 0, .int .u8 0, .int .u8 0, .int .u8 0, .int .u8 0, .int .u8 0, .int .u8 0, .int .u8 0, .int .u8 0, .int .u8 0, .int .u8 0, .int .u8 0, .int .u8 0, .int .i64 3, .bool false]], .tuple [.int .i64 1, .bool true]⟩
theorem memo65_run : okM memo65 (callS Tryz.prog crc.takeS 100000 60 memo65.f memo65.args (heapB Tryz.prog (m1 0 [8, 2, 8, 8]) fun _ => none)) = true := by kernel_rfl
def memo66 : Memo := ⟨81, [.agg [.int .i64 3, .int .i64 4, .int .i64 40, .int .u8 0, .int .u8 0, .int .u8 0, .int .u8 0, .int .u8 0, .int .u8 0, .int .u8 0, .int .u8 0, .int .u8 0, .int .u8 0, .int .u8 0, .int .u8 0, .int .u8 0, .int .u8 0, .int .u8 0, .int .u8 0, .int .i64 0, .bool false]], .int .i64 0⟩
theorem memo66_run : okM memo66 (callS Tryz.prog crc.takeS 100000 60 memo66.f memo66.args (heapB Tryz.prog (m1 0 [8, 2, 8, 8]) fun _ => none)) = true := by kernel_rfl
def memo67 : Memo := ⟨81, [.agg [.int .i64 3, .int .i64 4, .int .i64 40, .int .u8 0, .int .u8 1, .int .u8 0, .int .u8 0, .int .u8 0, .int .u8 0, .int .u8 0, .int .u8 0, .int .u8 0, .int .u8 0, .int .u8 0, .int .u8 0, .int .u8 0, .int .u8 0, .int .u8 0, .int .u8 0, .int .i64 0, .bool false]], .int .i64 1⟩
theorem memo67_run : okM memo67 (callS Tryz.prog crc.takeS 100000 60 memo67.f memo67.args (heapB Tryz.prog (m1 0 [8, 2, 8, 8]) fun _ => none)) = true := by kernel_rfl
def memo68 : Memo := ⟨81, [.agg [.int .i64 3, .int .i64 4, .int .i64 40, .int .u8 0, .int .u8 2, .int .u8 0, .int .u8 0, .int .u8 0, .int .u8 0, .int .u8 0, .int .u8 0, .int .u8 0, .int .u8 0, .int .u8 0, .int .u8 0, .int .u8 0, .int .u8 0, .int .u8 0, .int .u8 0, .int .i64 0, .bool false]], .int .i64 1⟩
theorem memo68_run : okM memo68 (callS Tryz.prog crc.takeS 100000 60 memo68.f memo68.args (heapB Tryz.prog (m1 0 [8, 2, 8, 8]) fun _ => none)) = true := by kernel_rfl
def memo69 : Memo := ⟨81, [.agg [.int .i64 3, .int .i64 4, .int .i64 40, .int .u8 0, .int .u8 2, .int .u8 0, .int .u8 0, .int .u8 0, .int .u8 0, .int .u8 0, .int .u8 0, .int .u8 0, .int .u8 0, .int .u8 0, .int .u8 0, .int .u8 0, .int .u8 0, .int .u8 0, .int .u8 0, .int .i64 1, .bool false]], .int .i64 1⟩
theorem memo69_run : okM memo69 (callS Tryz.prog crc.takeS 100000 60 memo69.f memo69.args (heapB Tryz.prog (m1 0 [8, 2, 8, 8]) fun _ => none)) = true := by kernel_rfl
def memo70 : Memo := ⟨81, [.agg [.int .i64 3, .int .i64 4, .int .i64 40, .int .u8 0, .int .u8 2, .int .u8 0, .int .u8 0, .int .u8 0, .int .u8 0, .int .u8 0, .int .u8 0, .int .u8 0, .int .u8 0, .int .u8 0, .int .u8 0, .int .u8 0, .int .u8 0, .int .u8 0, .int .u8 0, .int .i64 2, .bool false]], .int .i64 1⟩
theorem memo70_run : okM memo70 (callS Tryz.prog crc.takeS 100000 60 memo70.f memo70.args (heapB Tryz.prog (m1 0 [8, 2, 8, 8]) fun _ => none)) = true := by kernel_rfl
def memo71 : Memo := ⟨81, [.agg [.int .i64 3, .int .i64 4, .int .i64 40, .int .u8 0, .int .u8 2, .int .u8 0, .int .u8 0, .int .u8 0, .int .u8 0, .int .u8 0, .int .u8 0, .int .u8 0, .int .u8 0, .int .u8 0, .int .u8 0, .int .u8 0, .int .u8 0, .int .u8 0, .int .u8 0, .int .i64 3, .bool false]], .int .i64 1⟩
theorem memo71_run : okM memo71 (callS Tryz.prog crc.takeS 100000 60 memo71.f memo71.args (heapB Tryz.prog (m1 0 [8, 2, 8, 8]) fun _ => none)) = true := by kernel_rfl
def memos : List Memo := [memo0, memo1, memo2, memo3, memo4, memo5, memo6, memo7, memo8, memo9, memo10, memo11, memo12, memo13, memo14, memo15, memo16, memo17, memo18, memo19, memo20, memo21, memo22, memo23, memo24, memo25, memo26, memo27, memo28, memo29, memo30, memo31, memo32, memo33, memo34, memo35, memo36, memo37, memo38, memo39, memo40, memo41, memo42, memo43, memo44, memo45, memo46, memo47, memo48, memo49, memo50, memo51, memo52, memo53, memo54, memo55, memo56, memo57, memo58, memo59, memo60, memo61, memo62, memo63, memo64, memo65, memo66, memo67, memo68, memo69, memo70, memo71]
theorem memos_snd : CallSnd Tryz.prog (tabG 0 [8, 2, 8, 8] memos) := tabG_snd (by decide +kernel) (by decide) (by
  intro e he
  simp only [memos, List.mem_cons, List.not_mem_nil, or_false] at he
  rcases he with rfl | rfl | rfl | rfl | rfl | rfl | rfl | rfl | rfl | rfl | rfl | rfl | rfl | rfl | rfl | rfl | rfl | rfl | rfl | rfl | rfl | rfl | rfl | rfl | rfl | rfl | rfl | rfl | rfl | rfl | rfl | rfl | rfl | rfl | rfl | rfl | rfl | rfl | rfl | rfl | rfl | rfl | rfl | rfl | rfl | rfl | rfl | rfl | rfl | rfl | rfl | rfl | rfl | rfl | rfl | rfl | rfl | rfl | rfl | rfl | rfl | rfl | rfl | rfl | rfl | rfl | rfl | rfl | rfl | rfl | rfl | rfl
  · exact memo_okG crc.takeS_snd memo0_run
  · exact memo_okG crc.takeS_snd memo1_run
  · exact memo_okG crc.takeS_snd memo2_run
  · exact memo_okG crc.takeS_snd memo3_run
  · exact memo_okG crc.takeS_snd memo4_run
  · exact memo_okG crc.takeS_snd memo5_run
  · exact memo_okG crc.takeS_snd memo6_run
  · exact memo_okG crc.takeS_snd memo7_run
  · exact memo_okG crc.takeS_snd memo8_run
  · exact memo_okG crc.takeS_snd memo9_run
  · exact memo_okG crc.takeS_snd memo10_run
  · exact memo_okG crc.takeS_snd memo11_run
  · exact memo_okG crc.takeS_snd memo12_run
  · exact memo_okG crc.takeS_snd memo13_run
  · exact memo_okG crc.takeS_snd memo14_run
  · exact memo_okG crc.takeS_snd memo15_run
  · exact memo_okG crc.takeS_snd memo16_run
  · exact memo_okG crc.takeS_snd memo17_run
  · exact memo_okG crc.takeS_snd memo18_run
  · exact memo_okG crc.takeS_snd memo19_run
  · exact memo_okG crc.takeS_snd memo20_run
  · exact memo_okG crc.takeS_snd memo21_run
  · exact memo_okG crc.takeS_snd memo22_run
  · exact memo_okG crc.takeS_snd memo23_run
  · exact memo_okG crc.takeS_snd memo24_run
  · exact memo_okG crc.takeS_snd memo25_run
  · exact memo_okG crc.takeS_snd memo26_run
  · exact memo_okG crc.takeS_snd memo27_run
  · exact memo_okG crc.takeS_snd memo28_run
  · exact memo_okG crc.takeS_snd memo29_run
  · exact memo_okG crc.takeS_snd memo30_run
  · exact memo_okG crc.takeS_snd memo31_run
  · exact memo_okG crc.takeS_snd memo32_run
  · exact memo_okG crc.takeS_snd memo33_run
  · exact memo_okG crc.takeS_snd memo34_run
  · exact memo_okG crc.takeS_snd memo35_run
  · exact memo_okG crc.takeS_snd memo36_run
  · exact memo_okG crc.takeS_snd memo37_run
  · exact memo_okG crc.takeS_snd memo38_run
  · exact memo_okG crc.takeS_snd memo39_run
  · exact memo_okG crc.takeS_snd memo40_run
  · exact memo_okG crc.takeS_snd memo41_run
  · exact memo_okG crc.takeS_snd memo42_run
  · exact memo_okG crc.takeS_snd memo43_run
  · exact memo_okG crc.takeS_snd memo44_run
  · exact memo_okG crc.takeS_snd memo45_run
  · exact memo_okG crc.takeS_snd memo46_run
  · exact memo_okG crc.takeS_snd memo47_run
  · exact memo_okG crc.takeS_snd memo48_run
  · exact memo_okG crc.takeS_snd memo49_run
  · exact memo_okG crc.takeS_snd memo50_run
  · exact memo_okG crc.takeS_snd memo51_run
  · exact memo_okG crc.takeS_snd memo52_run
  · exact memo_okG crc.takeS_snd memo53_run
  · exact memo_okG crc.takeS_snd memo54_run
  · exact memo_okG crc.takeS_snd memo55_run
  · exact memo_okG crc.takeS_snd memo56_run
  · exact memo_okG crc.takeS_snd memo57_run
  · exact memo_okG crc.takeS_snd memo58_run
  · exact memo_okG crc.takeS_snd memo59_run
  · exact memo_okG crc.takeS_snd memo60_run
  · exact memo_okG crc.takeS_snd memo61_run
  · exact memo_okG crc.takeS_snd memo62_run
  · exact memo_okG crc.takeS_snd memo63_run
  · exact memo_okG crc.takeS_snd memo64_run
  · exact memo_okG crc.takeS_snd memo65_run
  · exact memo_okG crc.takeS_snd memo66_run
  · exact memo_okG crc.takeS_snd memo67_run
  · exact memo_okG crc.takeS_snd memo68_run
  · exact memo_okG crc.takeS_snd memo69_run
  · exact memo_okG crc.takeS_snd memo70_run
  · exact memo_okG crc.takeS_snd memo71_run
  )

theorem livesRun : okT (callS Tryz.prog (orS (tabG 0 [8, 2, 8, 8] memos) crc.takeS) 100000 60 16 [] (heapB Tryz.prog (m1 0 [8, 2, 8, 8]) fun _ => none)) = true := by kernel_rfl

theorem sums : CallSnd Tryz.prog (sumG 0 [8, 2, 8, 8] 16) := sumG_snd (orS_snd memos_snd crc.takeS_snd) (by decide +kernel) (by decide) (okT_some livesRun)

theorem runs0 (a : Nat → Option Am.Obj)  : isT (callS Tryz.prog (sumG 0 [8, 2, 8, 8] 16) 100000 60 4 [.bool false] (heapB Tryz.prog (m1 0 [8, 2, 8, 8]) a)) = true := by kernel_rfl
theorem owed0 (a : Nat → Option Am.Obj)  : owedL (callS Tryz.prog (sumG 0 [8, 2, 8, 8] 16) 100000 60 4 [.bool false] (heapB Tryz.prog (m1 0 [8, 2, 8, 8]) a)) = owedR (callS Tryz.prog (sumG 0 [8, 2, 8, 8] 16) 100000 60 4 [.bool false] (heapB Tryz.prog (m1 0 [8, 2, 8, 8]) a)) := by kernel_rfl
theorem runs1 (a : Nat → Option Am.Obj)  : isT (callS Tryz.prog (sumG 0 [8, 2, 8, 8] 16) 100000 60 4 [.bool true] (heapB Tryz.prog (m1 0 [8, 2, 8, 8]) a)) = true := by kernel_rfl
theorem owed1 (a : Nat → Option Am.Obj)  : owedL (callS Tryz.prog (sumG 0 [8, 2, 8, 8] 16) 100000 60 4 [.bool true] (heapB Tryz.prog (m1 0 [8, 2, 8, 8]) a)) = owedR (callS Tryz.prog (sumG 0 [8, 2, 8, 8] 16) 100000 60 4 [.bool true] (heapB Tryz.prog (m1 0 [8, 2, 8, 8]) a)) := by kernel_rfl

theorem fits_slice {a : Nat → Option Am.Obj} {esz : Nat} {e : Sh} {C : List V} (h : Fits a (.slice esz e) C) : ∃ p l c, C = [.slice p l c 0] := by
  rcases h with rfl | ⟨b, l, r, rfl, _⟩
  · exact ⟨_, _, _, rfl⟩
  · exact ⟨_, _, _, rfl⟩

theorem runs (a : Nat → Option Am.Obj) (us : List V) (h : FitsAll a [.bool] us) :
    ∃ lf n H1, callS Tryz.prog (sumG 0 [8, 2, 8, 8] 16) lf n 4 us (heapB Tryz.prog (m1 0 [8, 2, 8, 8]) a) = some (.v (.bool true), H1) ∧ QOk H1 := by
  obtain ⟨u0, us0, rfl, ⟨C0, ⟨n0x0, rfl⟩, hu0⟩, rfl⟩ := h
  cases hu0
  cases n0x0
  · exact ⟨100000, 60, isT_some (runs0 a ) (owed0 a )⟩
  · exact ⟨100000, 60, isT_some (runs1 a ) (owed1 a )⟩
end Go.Proofs.YtjebjbodfdljmaaGreatDoor.healNil