/-
  'DiskTorn' holds: for all blocks, every pick, place and byte, the law answers true, and its arguments read as they did. No condition.
-/
import Derived.Test.YtcelngepfdchiaaDisk4
set_option linter.unusedVariables false
set_option linter.unusedSimpArgs false
set_option maxRecDepth 10000
namespace Go.Proofs.Ytcelngepfdchiaa.diskTorn
open Go.Am Go.Proofs.Ytcelngepfdchiaa.disk

/-- ashlar/ashlarlaw05.DiskTorn -/
noncomputable def c4 : CFn := ⟨[.tmp (Tr.path 10)],
 .seq (.reg [
  ⟨(some (Tr.path 5)), (some (.m (boxF 64 (.t (Tr.path 0))))), none, [Tr.path 0]⟩,
  ⟨(some (Tr.path 6)), (some (.m (boxF 64 (.t (Tr.path 1))))), none, [Tr.path 1]⟩,
  ⟨(some (Tr.path 10)), (some (.p (S.get (.c (.bool false))))), none, []⟩]) (
 .seq (.reg [
  ⟨(some (Tr.path 22)), (some (.c (callF (.c (.func (.func 23) [] [])) [(.c (.int .i64 3))]))), none, []⟩,
  ⟨(some (Tr.path 21)), (some (.p (S.get (.t (Tr.path 22))))), none, [Tr.path 22]⟩,
  ⟨(some (Tr.path 23)), (some (.p (extF (.t (Tr.path 21)) 0))), none, [Tr.path 21]⟩,
  ⟨(some (Tr.path 24)), (some (.p (extF (.t (Tr.path 21)) 1))), none, [Tr.path 21]⟩,
  ⟨(some (Tr.path 11)), (some (.p (S.get (.t (Tr.path 23))))), none, [Tr.path 23]⟩,
  ⟨(some (Tr.path 12)), (some (.p (S.get (.t (Tr.path 24))))), none, [Tr.path 24]⟩]) (
 .seq (.seq (.reg [
   ⟨(some (Tr.path 25)), (some (.p (S.get (.t (Tr.path 12))))), none, [Tr.path 12]⟩,
   ⟨(some (Tr.path 26)), (some (.p (eqcF true false [.int .i64] (.t (Tr.path 25)) (.c (.int .i64 0))))), none, [Tr.path 25]⟩,
   ⟨(some (Tr.path 27)), (some (.p (S.get (.t (Tr.path 26))))), none, [Tr.path 26]⟩,
   ⟨(some (Tr.path 28)), (some (.p (S.get (.t (Tr.path 11))))), (some (some (Tr.path 27), false)), [Tr.path 11]⟩,
   ⟨(some (Tr.path 29)), (some (.r (loadF (.t (Tr.path 5)) 64 .bk))), (some (some (Tr.path 27), false)), [Tr.path 5]⟩,
   ⟨(some (Tr.path 30)), (some (.c (callF (.c (.func (.func 18) [] [])) [(.t (Tr.path 28)), (.c (.int .i64 1)), (.t (Tr.path 29))]))), (some (some (Tr.path 27), false)), [Tr.path 28, Tr.path 29]⟩,
   ⟨(some (Tr.path 31)), (some (.p (eqcF true false [.int .i64] (.t (Tr.path 30)) (.c (.int .i64 0))))), (some (some (Tr.path 27), false)), [Tr.path 30]⟩,
   ⟨(some (Tr.path 32)), (some (.p (pickF (.t (Tr.path 27)) (.c (.bool true)) (.t (Tr.path 31))))), none, [Tr.path 27, Tr.path 31]⟩,
   ⟨(some (Tr.path 33)), (some (.p (S.get (.t (Tr.path 32))))), none, [Tr.path 32]⟩,
   ⟨(some (Tr.path 34)), (some (.p (S.get (.t (Tr.path 11))))), (some (some (Tr.path 33), false)), [Tr.path 11]⟩,
   ⟨(some (Tr.path 35)), (some (.c (callF (.c (.func (.func 16) [] [])) [(.t (Tr.path 34))]))), (some (some (Tr.path 33), false)), [Tr.path 34]⟩,
   ⟨(some (Tr.path 36)), (some (.p (eqcF true false [.int .i64] (.t (Tr.path 35)) (.c (.int .i64 0))))), (some (some (Tr.path 33), false)), [Tr.path 35]⟩,
   ⟨(some (Tr.path 37)), (some (.p (pickF (.t (Tr.path 33)) (.c (.bool true)) (.t (Tr.path 36))))), none, [Tr.path 33, Tr.path 36]⟩,
   ⟨(some (Tr.path 38)), (some (.p (S.get (.t (Tr.path 37))))), none, [Tr.path 37]⟩,
   ⟨(some (Tr.path 39)), (some (.p (S.get (.t (Tr.path 11))))), (some (some (Tr.path 38), false)), [Tr.path 11]⟩,
   ⟨(some (Tr.path 40)), (some (.r (loadF (.t (Tr.path 6)) 64 .bk))), (some (some (Tr.path 38), false)), [Tr.path 6]⟩,
   ⟨(some (Tr.path 41)), (some (.c (callF (.c (.func (.func 18) [] [])) [(.t (Tr.path 39)), (.c (.int .i64 1)), (.t (Tr.path 40))]))), (some (some (Tr.path 38), false)), [Tr.path 39, Tr.path 40]⟩,
   ⟨(some (Tr.path 42)), (some (.p (eqcF true false [.int .i64] (.t (Tr.path 41)) (.c (.int .i64 0))))), (some (some (Tr.path 38), false)), [Tr.path 41]⟩,
   ⟨(some (Tr.path 43)), (some (.p (pickF (.t (Tr.path 38)) (.c (.bool true)) (.t (Tr.path 42))))), none, [Tr.path 38, Tr.path 42]⟩]) (
  .cond (.t (Tr.path 43)) (.seq (.reg [
     ⟨(some (Tr.path 10)), (some (.p (S.get (.c (.bool false))))), none, []⟩]) (
    .ret)) (.skip))) (
 .seq (.reg [
  ⟨(some (Tr.path 44)), (some (.p (S.get (.t (Tr.path 3))))), none, [Tr.path 3]⟩,
  ⟨(some (Tr.path 45)), (some (.p (convF .i64 (.t (Tr.path 44))))), none, [Tr.path 44]⟩,
  ⟨(some (Tr.path 46)), (some (.p (arF .rem (.t (Tr.path 45)) (.c (.int .i64 64))))), none, [Tr.path 45]⟩,
  ⟨(some (Tr.path 13)), (some (.p (S.get (.t (Tr.path 46))))), none, [Tr.path 46]⟩]) (
 .seq (.seq (.reg [
   ⟨(some (Tr.path 47)), (some (.p (S.get (.t (Tr.path 11))))), none, [Tr.path 11]⟩,
   ⟨(some (Tr.path 48)), (some (.p (S.get (.t (Tr.path 13))))), none, [Tr.path 13]⟩,
   ⟨(some (Tr.path 49)), (some (.p (S.get (.t (Tr.path 4))))), none, [Tr.path 4]⟩,
   ⟨(some (Tr.path 50)), (some (.c (callF (.c (.func (.func 24) [] [])) [(.t (Tr.path 47)), (.c (.int .i64 1)), (.t (Tr.path 48)), (.t (Tr.path 49))]))), none, [Tr.path 47, Tr.path 48, Tr.path 49]⟩,
   ⟨(some (Tr.path 51)), (some (.p (eqcF true false [.int .i64] (.t (Tr.path 50)) (.c (.int .i64 0))))), none, [Tr.path 50]⟩]) (
  .cond (.t (Tr.path 51)) (.seq (.reg [
     ⟨(some (Tr.path 10)), (some (.p (S.get (.c (.bool false))))), none, []⟩]) (
    .ret)) (.skip))) (
 .seq (.reg [
  ⟨(some (Tr.path 53)), (some (.p (S.get (.t (Tr.path 11))))), none, [Tr.path 11]⟩,
  ⟨(some (Tr.path 54)), (some (.c (callF (.c (.func (.func 17) [] [])) [(.t (Tr.path 53)), (.c (.int .i64 1))]))), none, [Tr.path 53]⟩,
  ⟨(some (Tr.path 52)), (some (.p (S.get (.t (Tr.path 54))))), none, [Tr.path 54]⟩,
  ⟨(some (Tr.path 55)), (some (.p (extF (.t (Tr.path 52)) 0))), none, [Tr.path 52]⟩,
  ⟨(some (Tr.path 56)), (some (.p (extF (.t (Tr.path 52)) 1))), none, [Tr.path 52]⟩,
  ⟨(some (Tr.path 14)), (some (.m (allocF 64 [.blk 0]))), none, []⟩,
  ⟨none, (some (.a (storeF (.t (Tr.path 14)) (.t (Tr.path 55)) 64))), none, [Tr.path 14, Tr.path 55]⟩,
  ⟨(some (Tr.path 15)), (some (.p (S.get (.t (Tr.path 56))))), none, [Tr.path 56]⟩]) (
 .seq (.reg [
  ⟨(some (Tr.path 57)), (some (.r (loadF (.t (Tr.path 5)) 64 .bk))), none, [Tr.path 5]⟩,
  ⟨(some (Tr.path 16)), (some (.m (allocF 64 [.blk 0]))), none, []⟩,
  ⟨none, (some (.a (storeF (.t (Tr.path 16)) (.t (Tr.path 57)) 64))), none, [Tr.path 16, Tr.path 57]⟩]) (
 .seq (.reg [
  ⟨(some (Tr.path 58)), (some (.p (S.get (.t (Tr.path 13))))), none, [Tr.path 13]⟩,
  ⟨(some (Tr.path 59)), (some (.p (S.get (.t (Tr.path 13))))), none, [Tr.path 13]⟩,
  ⟨(some (Tr.path 60)), (some (.p (iaddrAF (.t (Tr.path 16)) (.t (Tr.path 59)) 64 1))), none, [Tr.path 16, Tr.path 59]⟩,
  ⟨(some (Tr.path 61)), (some (.r (loadF (.t (Tr.path 60)) 1 .sc))), none, [Tr.path 60]⟩,
  ⟨(some (Tr.path 62)), (some (.p (S.get (.t (Tr.path 4))))), none, [Tr.path 4]⟩,
  ⟨(some (Tr.path 63)), (some (.p (arF .xor (.t (Tr.path 61)) (.t (Tr.path 62))))), none, [Tr.path 61, Tr.path 62]⟩,
  ⟨(some (Tr.path 64)), (some (.p (iaddrAF (.t (Tr.path 16)) (.t (Tr.path 58)) 64 1))), none, [Tr.path 16, Tr.path 58]⟩,
  ⟨none, (some (.a (storeF (.t (Tr.path 64)) (.t (Tr.path 63)) 1))), none, [Tr.path 64, Tr.path 63]⟩]) (
 .seq (.reg [
  ⟨(some (Tr.path 66)), (some (.p (S.get (.t (Tr.path 11))))), none, [Tr.path 11]⟩,
  ⟨(some (Tr.path 67)), (some (.p (S.get (.t (Tr.path 2))))), none, [Tr.path 2]⟩,
  ⟨(some (Tr.path 68)), (some (.m (bsliceF 1 1 [.int .i64 0] [(0, 1, (.t (Tr.path 67)))]))), none, [Tr.path 67]⟩,
  ⟨(some (Tr.path 69)), (some (.c (callF (.c (.func (.func 19) [] [])) [(.t (Tr.path 66)), (.t (Tr.path 68))]))), none, [Tr.path 66, Tr.path 68]⟩,
  ⟨(some (Tr.path 65)), (some (.p (S.get (.t (Tr.path 69))))), none, [Tr.path 69]⟩,
  ⟨(some (Tr.path 70)), (some (.p (extF (.t (Tr.path 65)) 0))), none, [Tr.path 65]⟩,
  ⟨(some (Tr.path 71)), (some (.p (extF (.t (Tr.path 65)) 1))), none, [Tr.path 65]⟩,
  ⟨(some (Tr.path 17)), (some (.p (S.get (.t (Tr.path 70))))), none, [Tr.path 70]⟩,
  ⟨(some (Tr.path 18)), (some (.p (S.get (.t (Tr.path 71))))), none, [Tr.path 71]⟩]) (
 .seq (.reg [
  ⟨(some (Tr.path 73)), (some (.p (S.get (.t (Tr.path 11))))), none, [Tr.path 11]⟩,
  ⟨(some (Tr.path 74)), (some (.c (callF (.c (.func (.func 17) [] [])) [(.t (Tr.path 73)), (.c (.int .i64 1))]))), none, [Tr.path 73]⟩,
  ⟨(some (Tr.path 72)), (some (.p (S.get (.t (Tr.path 74))))), none, [Tr.path 74]⟩,
  ⟨(some (Tr.path 75)), (some (.p (extF (.t (Tr.path 72)) 0))), none, [Tr.path 72]⟩,
  ⟨(some (Tr.path 76)), (some (.p (extF (.t (Tr.path 72)) 1))), none, [Tr.path 72]⟩,
  ⟨(some (Tr.path 19)), (some (.m (allocF 64 [.blk 0]))), none, []⟩,
  ⟨none, (some (.a (storeF (.t (Tr.path 19)) (.t (Tr.path 75)) 64))), none, [Tr.path 19, Tr.path 75]⟩,
  ⟨(some (Tr.path 20)), (some (.p (S.get (.t (Tr.path 76))))), none, [Tr.path 76]⟩]) (
 .seq (.regD [
  ⟨(some (Tr.path 77)), (some (.p (S.get (.t (Tr.path 15))))), none, [Tr.path 15]⟩,
  ⟨(some (Tr.path 78)), (some (.p (eqcF false false [.int .i64] (.t (Tr.path 77)) (.c (.int .i64 0))))), none, [Tr.path 77]⟩,
  ⟨(some (Tr.path 79)), (some (.p (S.get (.t (Tr.path 78))))), none, [Tr.path 78]⟩,
  ⟨(some (Tr.path 80)), (some (.r (loadF (.t (Tr.path 14)) 64 .bk))), (some (some (Tr.path 79), true)), [Tr.path 14]⟩,
  ⟨(some (Tr.path 81)), (some (.r (loadF (.t (Tr.path 6)) 64 .bk))), (some (some (Tr.path 79), true)), [Tr.path 6]⟩,
  ⟨(some (Tr.path 82)), (some (.p (eqcF false true [.blk] (.t (Tr.path 80)) (.t (Tr.path 81))))), (some (some (Tr.path 79), true)), [Tr.path 80, Tr.path 81]⟩,
  ⟨(some (Tr.path 83)), (some (.p (pickF (.t (Tr.path 79)) (.t (Tr.path 82)) (.c (.bool false))))), none, [Tr.path 79, Tr.path 82]⟩,
  ⟨(some (Tr.path 84)), (some (.p (S.get (.t (Tr.path 83))))), none, [Tr.path 83]⟩,
  ⟨(some (Tr.path 85)), (some (.p (S.get (.t (Tr.path 17))))), (some (some (Tr.path 84), true)), [Tr.path 17]⟩,
  ⟨(some (Tr.path 86)), (some (.p (eqcF false false [.int .i64] (.t (Tr.path 85)) (.c (.int .i64 1))))), (some (some (Tr.path 84), true)), [Tr.path 85]⟩,
  ⟨(some (Tr.path 87)), (some (.p (pickF (.t (Tr.path 84)) (.t (Tr.path 86)) (.c (.bool false))))), none, [Tr.path 84, Tr.path 86]⟩,
  ⟨(some (Tr.path 88)), (some (.p (S.get (.t (Tr.path 87))))), none, [Tr.path 87]⟩,
  ⟨(some (Tr.path 89)), (some (.p (S.get (.t (Tr.path 18))))), (some (some (Tr.path 88), true)), [Tr.path 18]⟩,
  ⟨(some (Tr.path 90)), (some (.p (eqcF false false [.int .i64] (.t (Tr.path 89)) (.c (.int .i64 0))))), (some (some (Tr.path 88), true)), [Tr.path 89]⟩,
  ⟨(some (Tr.path 91)), (some (.p (pickF (.t (Tr.path 88)) (.t (Tr.path 90)) (.c (.bool false))))), none, [Tr.path 88, Tr.path 90]⟩,
  ⟨(some (Tr.path 92)), (some (.p (S.get (.t (Tr.path 91))))), none, [Tr.path 91]⟩,
  ⟨(some (Tr.path 93)), (some (.p (S.get (.t (Tr.path 20))))), (some (some (Tr.path 92), true)), [Tr.path 20]⟩,
  ⟨(some (Tr.path 94)), (some (.p (eqcF false false [.int .i64] (.t (Tr.path 93)) (.c (.int .i64 0))))), (some (some (Tr.path 92), true)), [Tr.path 93]⟩,
  ⟨(some (Tr.path 95)), (some (.p (pickF (.t (Tr.path 92)) (.t (Tr.path 94)) (.c (.bool false))))), none, [Tr.path 92, Tr.path 94]⟩,
  ⟨(some (Tr.path 96)), (some (.p (S.get (.t (Tr.path 95))))), none, [Tr.path 95]⟩,
  ⟨(some (Tr.path 97)), (some (.r (loadF (.t (Tr.path 19)) 64 .bk))), (some (some (Tr.path 96), true)), [Tr.path 19]⟩,
  ⟨(some (Tr.path 98)), (some (.r (loadF (.t (Tr.path 16)) 64 .bk))), (some (some (Tr.path 96), true)), [Tr.path 16]⟩,
  ⟨(some (Tr.path 99)), (some (.r (loadF (.t (Tr.path 6)) 64 .bk))), (some (some (Tr.path 96), true)), [Tr.path 6]⟩,
  ⟨(some (Tr.path 100)), (some (.p (S.get (.t (Tr.path 2))))), (some (some (Tr.path 96), true)), [Tr.path 2]⟩,
  ⟨(some (Tr.path 101)), (some (.c (callF (.c (.func (.func 25) [] [])) [(.t (Tr.path 98)), (.t (Tr.path 99)), (.t (Tr.path 100))]))), (some (some (Tr.path 96), true)), [Tr.path 98, Tr.path 99, Tr.path 100]⟩,
  ⟨(some (Tr.path 102)), (some (.p (eqcF false true [.blk] (.t (Tr.path 97)) (.t (Tr.path 101))))), (some (some (Tr.path 96), true)), [Tr.path 97, Tr.path 101]⟩,
  ⟨(some (Tr.path 103)), (some (.p (pickF (.t (Tr.path 96)) (.t (Tr.path 102)) (.c (.bool false))))), none, [Tr.path 96, Tr.path 102]⟩,
  ⟨(some (Tr.path 104)), (some (.p (S.get (.t (Tr.path 103))))), none, [Tr.path 103]⟩,
  ⟨(some (Tr.path 105)), (some (.c (callF (.c (.func (.func 22) [] [])) []))), (some (some (Tr.path 104), true)), []⟩,
  ⟨(some (Tr.path 106)), (some (.p (pickF (.t (Tr.path 104)) (.t (Tr.path 105)) (.c (.bool false))))), none, [Tr.path 104, Tr.path 105]⟩,
  ⟨(some (Tr.path 10)), (some (.p (S.get (.t (Tr.path 106))))), none, [Tr.path 106]⟩] [0, 1, 3, 7, 7, 31, 63, 127, 255, 511, 1023, 2047, 4095, 8191, 16383, 32767, 65535, 131071, 262143, 524287, 1048575, 1048575, 1048575, 1048575, 15728639, 33554431, 67108863, 134217727, 268435455, 536870911, 1073741823]) (
 .ret)))))))))))⟩
theorem c4_eq : fnOf Try.prog 4 = some c4 := by kernel_rfl


theorem run (H : Heap) (old now : Nat) (pick : Int) {at' by' : Nat} (hat : at' < 256) (hby : by' < 256) {lf : Nat} (hlf : 1000 < lf) (m : Nat) :
    ret (callS Try.prog S0 lf (m + 5) 4 [.blk old, .blk now, .int .i64 pick, .int .u8 (at' : Int), .int .u8 (by' : Int)] H) fun v H' => v = .bool true ∧ Turns Z H H' := by
  have hTa : Turns Z H ((H.add (.rows false 64 [[.blk old]])).add (.rows false 64 [[.blk now]])) := ((Turns.refl Z H).addm _).addm _
  have ga0 : ((H.add (.rows false 64 [[.blk old]])).add (.rows false 64 [[.blk now]])).get (.run H.next) = some (.rows false 64 [[.blk old]]) := by
    rw [Heap.get_add, if_neg (by simp), Heap.get_add, if_pos rfl]
  have ga1 : ((H.add (.rows false 64 [[.blk old]])).add (.rows false 64 [[.blk now]])).get (.run (H.next + 1)) = some (.rows false 64 [[.blk now]]) := by
    rw [Heap.get_add, if_pos (by simp)]
  have oa0 : ((H.add (.rows false 64 [[.blk old]])).add (.rows false 64 [[.blk now]])).Old (.run H.next) := by show _ < _; simp; omega
  have oa1 : ((H.add (.rows false 64 [[.blk old]])).add (.rows false 64 [[.blk now]])).Old (.run (H.next + 1)) := by show _ < _; simp
  generalize hHa : (H.add (.rows false 64 [[.blk old]])).add (.rows false 64 [[.blk now]]) = Ha at hTa ga0 ga1 oa0 oa1
  obtain ⟨v1, H1, e1, rfl, hD1, hT1⟩ := new_ok Ha (n := 3) (by decide) (by decide) lf (m + 3)
  have hF1 : Fresh Ha (.run (Ha.next + 1)) ⟨.run Ha.next, 0, .run Ha.next, none, 0⟩ ⟨List.replicate 3 0, [], false⟩ := ⟨Heap.not_old (by omega), Heap.not_old (Nat.le_refl _), fun e => absurd rfl e⟩
  change callS Try.prog S0 lf (m + 4) 23 [.int .i64 3] Ha = _ at e1
  generalize (⟨.run Ha.next, 0, .run Ha.next, none, 0⟩ : Lay) = y1 at hD1 hF1
  generalize (Bk.run (Ha.next + 1)) = b at e1 hD1 hF1
  obtain ⟨v2, H2, e2, rfl, y2, hN2⟩ := write_ok hD1 (n := 1) (by decide) rfl (by decide) old lf (m + 1)
  change callS Try.prog S0 lf (m + 4) 18 [.ptr (some ⟨b, 0⟩), .int .i64 1, .blk old] H1 = _ at e2
  have hF2 := hF1.next hT1.next hN2
  have hT2 := hF1.turns hT1 hN2
  obtain ⟨v3, H3, e3, rfl, hN3⟩ := flush_ok hN2.dev (by simp) rfl (by intro w hw; simp at hw; subst hw; show (1 : Nat) < 3; decide) (by show (1 : Nat) < 1000000; decide) (lf := lf) (by show 1 + 1 < lf; omega) (m + 1)
  change callS Try.prog S0 lf (m + 4) 16 [.ptr (some ⟨b, 0⟩)] H2 = _ at e3
  have hF3 := hF2.next hT2.next hN3
  have hT3 := hF2.turns hT2 hN3
  have hD3 : DevAt H3 b { y2 with p := none, o := 0 } ⟨[0, old, 0], [], false⟩ := hN3.dev
  have hF3 : Fresh Ha b { y2 with p := none, o := 0 } ⟨[0, old, 0], [], false⟩ := hF3
  generalize ({ y2 with p := none, o := 0 } : Lay) = y3 at hD3 hF3
  obtain ⟨v4, H4, e4, rfl, y4, hN4⟩ := write_ok hD3 (n := 1) (by show (1 : Nat) < 3; decide) rfl (by show (0 : Nat) < 1000000; decide) now lf (m + 1)
  change callS Try.prog S0 lf (m + 4) 18 [.ptr (some ⟨b, 0⟩), .int .i64 1, .blk now] H3 = _ at e4
  have hF4 := hF3.next hT3.next hN4
  have hT4 := hF3.turns hT3 hN4
  have hrem := rem_nat .i64 at' 64 (by decide)
  have hwa : IntKind.i64.wrap (at' : Int) = (at' : Int) := wrap_i64 (by omega)
  change arith .rem (.int .i64 (at' : Int)) (.int .i64 64) = _ at hrem
  have hk : at' % 64 < 64 := Nat.mod_lt _ (by decide)
  generalize at' % 64 = k at hrem hk
  obtain ⟨v5, H5, e5, rfl, hN5⟩ := rot_ok hN4.dev (n := 1) (j := k) (by' := by') (by show (1 : Nat) < 3; decide) rfl hk hby lf (m + 1)
  change callS Try.prog S0 lf (m + 4) 24 [.ptr (some ⟨b, 0⟩), .int .i64 1, .int .i64 (k : Int), .int .u8 (by' : Int)] H4 = _ at e5
  have hF5 := hF4.next hT4.next hN5
  have hT5 := hF4.turns hT4 hN5
  have hD5 : DevAt H5 b y4 ⟨[0, rotN old k by', 0], [(1, now)], false⟩ := hN5.dev
  have hF5 : Fresh Ha b y4 ⟨[0, rotN old k by', 0], [(1, now)], false⟩ := hF5
  obtain ⟨v6, H6, e6, rfl, hT56⟩ := read_ok hD5 (n := 1) (by show (1 : Nat) < 3; decide) rfl (lf := lf) (by show 1 + 1 < lf; omega) (by show 1 < _; decide) (m + 1)
  have hr6 : readN ⟨[0, rotN old k by', 0], [(1, now)], false⟩ 1 = now := rfl
  rw [hr6] at e6
  change callS Try.prog S0 lf (m + 4) 17 [.ptr (some ⟨b, 0⟩), .int .i64 1] H5 = _ at e6
  -- the cell of what is seen
  have hT57 : Turns Z H5 ((H6.add (.rows false 64 [[.blk 0]])).set (.run H6.next) (.rows false 64 [[.blk now]])) := (hT56.addm _).setnew hT56.next _
  have hnew : ∀ c, H5.Old c → (.run H6.next) ≠ c := fun c hc e => Heap.not_old hT56.next (by rw [e]; exact hc)
  have hK7 : Kept ((H6.add (.rows false 64 [[.blk 0]])).set (.run H6.next) (.rows false 64 [[.blk now]])) (.run H6.next) (.rows false 64 [[.blk now]]) b y4 ⟨[0, rotN old k by', 0], [(1, now)], false⟩ :=
    ⟨by show _ < _; simp, by rw [Heap.get_set, if_pos rfl], hnew _ hD5.old.1, hnew _ hD5.old.2.1, fun e => hnew _ (hD5.old.2.2 e)⟩
  generalize hH7 : (H6.add (.rows false 64 [[.blk 0]])).set (.run H6.next) (.rows false 64 [[.blk now]]) = H7 at hT57 hK7
  have hT7 := hT5.trans hT57
  have hD7 := hD5.turns hT57 id id (fun _ => id)
  -- was
  have ld5 := load_of ((hT7.same _ oa0 id).trans ga0)
  have st8 : storeAt (H7.add (.rows false 64 [[.blk 0]])) ⟨.run H7.next, 0⟩ [.blk old] = _ := store_new _ _ _
  have g8 : ((H7.add (.rows false 64 [[.blk 0]])).set (.run H7.next) (.rows false 64 [[.blk old]])).get (.run H7.next) = some (.rows false 64 [[.blk old]]) := by rw [Heap.get_set, if_pos rfl]
  have lb := cell_load_byte g8 hk
  have hx := xor_u8 (byte_lt old k) hby
  have st9 := cell_store_byte g8 hk (xo8_lt (byte_lt old k) hby)
  change storeAt _ _ _ = some (Heap.set _ _ (.rows false 64 [[.blk (rotN old k by')]])) at st9
  have ld5' : loadAt (H7.add (.rows false 64 [[.blk 0]])) ⟨.run H.next, 0⟩ 64 = some [.blk old] := load_of (((hT7.addm _).same _ oa0 id).trans ga0)
  have hT79 : Turns Z H7 (((H7.add (.rows false 64 [[.blk 0]])).set (.run H7.next) (.rows false 64 [[.blk old]])).set (.run H7.next) (.rows false 64 [[.blk (rotN old k by')]])) :=
    (((Turns.refl Z H7).addm _).setnew (Nat.le_refl _) _).setnew (Nat.le_refl _) _
  have hnew7 : ∀ c, H7.Old c → (.run H7.next) ≠ c := fun c hc e => Heap.not_old (Nat.le_refl _) (by rw [e]; exact hc)
  have hK9 : Kept (((H7.add (.rows false 64 [[.blk 0]])).set (.run H7.next) (.rows false 64 [[.blk old]])).set (.run H7.next) (.rows false 64 [[.blk (rotN old k by')]])) (.run H7.next) (.rows false 64 [[.blk (rotN old k by')]]) b y4 ⟨[0, rotN old k by', 0], [(1, now)], false⟩ :=
    ⟨by show _ < _; simp, by rw [Heap.get_set, if_pos rfl], hnew7 _ hD7.old.1, hnew7 _ hD7.old.2.1, fun e => hnew7 _ (hD7.old.2.2 e)⟩
  generalize hH9 : ((H7.add (.rows false 64 [[.blk 0]])).set (.run H7.next) (.rows false 64 [[.blk old]])).set (.run H7.next) (.rows false 64 [[.blk (rotN old k by')]]) = H9 at hT79 hK9 st9
  have hD9 := hD7.turns hT79 id id (fun _ => id)
  -- the pick
  have hT9A : Turns Z H9 (H9.add (.rows false 1 [[.int .i64 pick]])) := Turns.add Z H9 _
  have hPA : PicksAt (H9.add (.rows false 1 [[.int .i64 pick]])) (some ⟨.run H9.next, 0⟩) [pick] (Foot b y4 ⟨[0, rotN old k by', 0], [(1, now)], false⟩) := ⟨fun _ => ⟨.run H9.next, false, [[.int .i64 pick]], rfl, by show _ < _; simp, by
      have hn9 : ∀ c, H9.Old c → (.run H9.next) ≠ c := fun c hc e => Heap.not_old (Nat.le_refl _) (by rw [e]; exact hc)
      rintro (e | e | ⟨_, e⟩)
      · exact hn9 _ hD9.old.1 e
      · exact hn9 _ hD9.old.2.1 e
      · exact hn9 _ (hD9.old.2.2 (by simp)) e, by rw [Heap.get_add, if_pos rfl], fun i hi => by
      have : i = 0 := by simp at hi; omega
      subst this; rfl⟩⟩
  have hDA := hD9.turns hT9A id id (fun _ => id)
  obtain ⟨vB, HB, eB, rfl, hNB⟩ := crash_ok hDA (by simp) (by intro w hw; simp at hw; subst hw; show (1 : Nat) < 3; decide) (by show 1 < _; decide) (pc := 1) (po := 0) hPA (lf := lf) (by show 1 + 1 < lf; omega) (m + 2)
  change callS Try.prog S0 lf (m + 4) 19 [.ptr (some ⟨b, 0⟩), .slice (some ⟨.run H9.next, 0⟩) 1 1 0] (H9.add (.rows false 1 [[.int .i64 pick]])) = some (.v (.tuple [.int .i64 1, .int .i64 0]), HB) at eB
  have hTaA : Turns Z Ha (H9.add (.rows false 1 [[.int .i64 pick]])) := (hT7.trans hT79).trans hT9A
  have hTaB := hF5.turns hTaA hNB
  have hK7B := ((hK7.turns hT79).turns hT9A).next hNB
  have hK9B := (hK9.turns hT9A).next hNB
  have hDB : DevAt HB b { y4 with p := none, o := 0 } ⟨[0, tornN (rotN old k by') now (clampN pick), 0], [], false⟩ := hNB.dev
  obtain ⟨vC, HC, eC, rfl, hTBC⟩ := read_ok hDB (n := 1) (by show (1 : Nat) < 3; decide) rfl (lf := lf) (by show 0 + 1 < lf; omega) (by show 0 < _; decide) (m + 1)
  have hrC : readN ⟨[0, tornN (rotN old k by') now (clampN pick), 0], [], false⟩ 1 = tornN (rotN old k by') now (clampN pick) := rfl
  rw [hrC] at eC
  change callS Try.prog S0 lf (m + 4) 17 [.ptr (some ⟨b, 0⟩), .int .i64 1] HB = _ at eC
  have hTBD : Turns Z HB ((HC.add (.rows false 64 [[.blk 0]])).set (.run HC.next) (.rows false 64 [[.blk (tornN (rotN old k by') now (clampN pick))]])) := (hTBC.addm _).setnew hTBC.next _
  have gD : ((HC.add (.rows false 64 [[.blk 0]])).set (.run HC.next) (.rows false 64 [[.blk (tornN (rotN old k by') now (clampN pick))]])).get (.run HC.next) = some (.rows false 64 [[.blk (tornN (rotN old k by') now (clampN pick))]]) := by rw [Heap.get_set, if_pos rfl]
  have oD : ((HC.add (.rows false 64 [[.blk 0]])).set (.run HC.next) (.rows false 64 [[.blk (tornN (rotN old k by') now (clampN pick))]])).Old (.run HC.next) := by show _ < _; simp
  generalize hHD : (HC.add (.rows false 64 [[.blk 0]])).set (.run HC.next) (.rows false 64 [[.blk (tornN (rotN old k by') now (clampN pick))]]) = HD at hTBD gD oD
  have hTaD := hTaB.trans hTBD
  obtain ⟨vE, HE, eE, rfl, hTE⟩ := torn_ok HD (rotN old k by') now pick hlf (m + 3)
  change callS Try.prog S0 lf (m + 4) 25 [.blk (rotN old k by'), .blk now, .int .i64 pick] HD = _ at eE
  have eL : callS Try.prog S0 lf (m + 4) 22 [] HE = _ := lives_call lf (m + 3) HE
  generalize hX : tornN (rotN old k by') now (clampN pick) = X at eC hHD gD eE
  generalize hR : rotN old k by' = R at *
  have l1 := load_of ((hT1.same _ oa0 id).trans ga0)
  have l3 := load_of ((hT3.same _ oa1 id).trans ga1)
  have d14 := load_of ((hK7B.turns hTBD).get)
  have d6 := load_of ((hTaD.same _ oa1 id).trans ga1)
  have d16 := load_of ((hK9B.turns hTBD).get)
  have d19 := load_of gD
  have d19' := load_of ((hTE.same _ oD id).trans gD)
  refine ret_call rfl c4_eq ?_
  simp only [c4, sC_skip, sC_reg, sC_seq, sC_cond, sC_block, sC_exit, sC_scope, sC_ret, sC_regD, sI_nil, sI_none, sI_guard, guard_t, guard_f, want_b, want_u, sO_p, sO_r, sO_m, sO_a, sO_c, sD_nil, sD_none, sD_guard, guardD_t, guardD_f, sE_p, sE_r, sE_m, sE_a, sE_c, evQ_some, evR_some, evM_some, evA_some, evC_some, callD_some, contD_some, consD_some, setT_some, setT_none, narrow_nil, narrow_cons, narrowC_some, seq_n, seq_ret, seq_ex, block_n, block_ret, block_ex, cond_t, cond_f, afterV_some, afterM_some, afterA_some, afterC_some, callC_some, get_t, get_c, get_setP, Tr.getP_e, argsT_nil, argsT_cons, ↓reduceIte, Nat.reduceEqDiff, Nat.reduceAdd, Nat.reduceSub, Nat.reduceMul, Nat.reduceDiv, Nat.reduceMod, Nat.zero_add, Nat.add_zero, beq_self_eq_true, Nat.zero_ne_one, Nat.one_ne_zero, Nat.reduceLeDiff, Int.reduceBEq, constF, unF, unary,  pickF, nilcF, faddrF, fldF, iaddrSF, arF, arith_lss, arith_leq, arith_gtr, arith_geq, arith_add, arith_sub, convF, extF, lenF, eqcF, eqnF, eqN, eqPtr, isNone, loadF, storeF, allocF, callF, gets, Option.map_some, Option.bind_some, add_eq, mul_eq, sub_eq, div_eq, mod_eq, nbeq, nble, asBlk_int, flat_int, cells_int, asBlk_bool, flat_bool, cells_bool, asBlk_ptr, flat_ptr, cells_ptr, asBlk_slice, flat_slice, cells_slice, asBlk_map, flat_map, cells_map, asBlk_blk, flat_blk, cells_blk, cells_agg, flat_agg, asBlk_agg, V.w, width, unc, cmpCells, eqI_eq, eqB_eq, mkI_eq, asNat_int, asNat_zero, asNat_one, undef, List.append_nil, List.nil_append, List.cons_append, nth_zero, nth_succ, resultsV, result, tup, wp_some, Bool.and_true, Bool.true_and, Bool.and_self, decide_true, decide_false, Bool.not_true, Bool.not_false, Bool.true_beq, Bool.false_beq, beq_iff_eq, reduceCtorEq, Nat.succ_eq_add_one, ptr0, Int.ofNat_eq_natCast, Int.ofNat_le, Int.ofNat_lt, Int.natCast_add, store_new, store_new65, load_set65, load_set65', load_set, List.map_cons, List.map_nil, sC_loop, Heap.next_add, Heap.next_set, boxF, buildF, fill, bsliceF, fillRows, List.replicate_one, upd_zero, put_blk, cut_blk, cut_whole, put_hit_int, put_miss_int, cut_hit_int, cut_miss_int, put_hit_bool, put_miss_bool, cut_hit_bool, cut_miss_bool, put_hit_ptr, put_miss_ptr, cut_hit_ptr, cut_miss_ptr, put_hit_slice, put_miss_slice, cut_hit_slice, cut_miss_slice, put_hit_map, put_miss_map, cut_hit_map, cut_miss_map, load_add, appF, List.length_cons, List.length_nil]
  rw [hHa]
  simp only [e1, l1, e2, e3, l3, e4, hrem, hwa, e5, e6, sC_skip, sC_reg, sC_seq, sC_cond, sC_block, sC_exit, sC_scope, sC_ret, sC_regD, sI_nil, sI_none, sI_guard, guard_t, guard_f, want_b, want_u, sO_p, sO_r, sO_m, sO_a, sO_c, sD_nil, sD_none, sD_guard, guardD_t, guardD_f, sE_p, sE_r, sE_m, sE_a, sE_c, evQ_some, evR_some, evM_some, evA_some, evC_some, callD_some, contD_some, consD_some, setT_some, setT_none, narrow_nil, narrow_cons, narrowC_some, seq_n, seq_ret, seq_ex, block_n, block_ret, block_ex, cond_t, cond_f, afterV_some, afterM_some, afterA_some, afterC_some, callC_some, get_t, get_c, get_setP, Tr.getP_e, argsT_nil, argsT_cons, ↓reduceIte, Nat.reduceEqDiff, Nat.reduceAdd, Nat.reduceSub, Nat.reduceMul, Nat.reduceDiv, Nat.reduceMod, Nat.zero_add, Nat.add_zero, beq_self_eq_true, Nat.zero_ne_one, Nat.one_ne_zero, Nat.reduceLeDiff, Int.reduceBEq, constF, unF, unary,  pickF, nilcF, faddrF, fldF, iaddrSF, arF, arith_lss, arith_leq, arith_gtr, arith_geq, arith_add, arith_sub, convF, extF, lenF, eqcF, eqnF, eqN, eqPtr, isNone, loadF, storeF, allocF, callF, gets, Option.map_some, Option.bind_some, add_eq, mul_eq, sub_eq, div_eq, mod_eq, nbeq, nble, asBlk_int, flat_int, cells_int, asBlk_bool, flat_bool, cells_bool, asBlk_ptr, flat_ptr, cells_ptr, asBlk_slice, flat_slice, cells_slice, asBlk_map, flat_map, cells_map, asBlk_blk, flat_blk, cells_blk, cells_agg, flat_agg, asBlk_agg, V.w, width, unc, cmpCells, eqI_eq, eqB_eq, mkI_eq, asNat_int, asNat_zero, asNat_one, undef, List.append_nil, List.nil_append, List.cons_append, nth_zero, nth_succ, resultsV, result, tup, wp_some, Bool.and_true, Bool.true_and, Bool.and_self, decide_true, decide_false, Bool.not_true, Bool.not_false, Bool.true_beq, Bool.false_beq, beq_iff_eq, reduceCtorEq, Nat.succ_eq_add_one, ptr0, Int.ofNat_eq_natCast, Int.ofNat_le, Int.ofNat_lt, Int.natCast_add, store_new, store_new65, load_set65, load_set65', load_set, List.map_cons, List.map_nil, sC_loop, Heap.next_add, Heap.next_set, boxF, buildF, fill, bsliceF, fillRows, List.replicate_one, upd_zero, put_blk, cut_blk, cut_whole, put_hit_int, put_miss_int, cut_hit_int, cut_miss_int, put_hit_bool, put_miss_bool, cut_hit_bool, cut_miss_bool, put_hit_ptr, put_miss_ptr, cut_hit_ptr, cut_miss_ptr, put_hit_slice, put_miss_slice, cut_hit_slice, cut_miss_slice, put_hit_map, put_miss_map, cut_hit_map, cut_miss_map, load_add, appF, List.length_cons, List.length_nil]
  rw [hH7]
  have hk1 : k + 1 ≤ 64 := hk
  simp only [ld5, st8, ld5', lb, hx, st9, iaddrAF, hk1, Nat.mul_one, eB, eC, sC_skip, sC_reg, sC_seq, sC_cond, sC_block, sC_exit, sC_scope, sC_ret, sC_regD, sI_nil, sI_none, sI_guard, guard_t, guard_f, want_b, want_u, sO_p, sO_r, sO_m, sO_a, sO_c, sD_nil, sD_none, sD_guard, guardD_t, guardD_f, sE_p, sE_r, sE_m, sE_a, sE_c, evQ_some, evR_some, evM_some, evA_some, evC_some, callD_some, contD_some, consD_some, setT_some, setT_none, narrow_nil, narrow_cons, narrowC_some, seq_n, seq_ret, seq_ex, block_n, block_ret, block_ex, cond_t, cond_f, afterV_some, afterM_some, afterA_some, afterC_some, callC_some, get_t, get_c, get_setP, Tr.getP_e, argsT_nil, argsT_cons, ↓reduceIte, Nat.reduceEqDiff, Nat.reduceAdd, Nat.reduceSub, Nat.reduceMul, Nat.reduceDiv, Nat.reduceMod, Nat.zero_add, Nat.add_zero, beq_self_eq_true, Nat.zero_ne_one, Nat.one_ne_zero, Nat.reduceLeDiff, Int.reduceBEq, constF, unF, unary,  pickF, nilcF, faddrF, fldF, iaddrSF, arF, arith_lss, arith_leq, arith_gtr, arith_geq, arith_add, arith_sub, convF, extF, lenF, eqcF, eqnF, eqN, eqPtr, isNone, loadF, storeF, allocF, callF, gets, Option.map_some, Option.bind_some, add_eq, mul_eq, sub_eq, div_eq, mod_eq, nbeq, nble, asBlk_int, flat_int, cells_int, asBlk_bool, flat_bool, cells_bool, asBlk_ptr, flat_ptr, cells_ptr, asBlk_slice, flat_slice, cells_slice, asBlk_map, flat_map, cells_map, asBlk_blk, flat_blk, cells_blk, cells_agg, flat_agg, asBlk_agg, V.w, width, unc, cmpCells, eqI_eq, eqB_eq, mkI_eq, asNat_int, asNat_zero, asNat_one, undef, List.append_nil, List.nil_append, List.cons_append, nth_zero, nth_succ, resultsV, result, tup, wp_some, Bool.and_true, Bool.true_and, Bool.and_self, decide_true, decide_false, Bool.not_true, Bool.not_false, Bool.true_beq, Bool.false_beq, beq_iff_eq, reduceCtorEq, Nat.succ_eq_add_one, ptr0, Int.ofNat_eq_natCast, Int.ofNat_le, Int.ofNat_lt, Int.natCast_add, store_new, store_new65, load_set65, load_set65', load_set, List.map_cons, List.map_nil, sC_loop, Heap.next_add, Heap.next_set, boxF, buildF, fill, bsliceF, fillRows, List.replicate_one, upd_zero, put_blk, cut_blk, cut_whole, put_hit_int, put_miss_int, cut_hit_int, cut_miss_int, put_hit_bool, put_miss_bool, cut_hit_bool, cut_miss_bool, put_hit_ptr, put_miss_ptr, cut_hit_ptr, cut_miss_ptr, put_hit_slice, put_miss_slice, cut_hit_slice, cut_miss_slice, put_hit_map, put_miss_map, cut_hit_map, cut_miss_map, load_add, appF, List.length_cons, List.length_nil]
  rw [hHD]
  simp only [d14, d6, d16, d19, eE, eL, sC_skip, sC_reg, sC_seq, sC_cond, sC_block, sC_exit, sC_scope, sC_ret, sC_regD, sI_nil, sI_none, sI_guard, guard_t, guard_f, want_b, want_u, sO_p, sO_r, sO_m, sO_a, sO_c, sD_nil, sD_none, sD_guard, guardD_t, guardD_f, sE_p, sE_r, sE_m, sE_a, sE_c, evQ_some, evR_some, evM_some, evA_some, evC_some, callD_some, contD_some, consD_some, setT_some, setT_none, narrow_nil, narrow_cons, narrowC_some, seq_n, seq_ret, seq_ex, block_n, block_ret, block_ex, cond_t, cond_f, afterV_some, afterM_some, afterA_some, afterC_some, callC_some, get_t, get_c, get_setP, Tr.getP_e, argsT_nil, argsT_cons, ↓reduceIte, Nat.reduceEqDiff, Nat.reduceAdd, Nat.reduceSub, Nat.reduceMul, Nat.reduceDiv, Nat.reduceMod, Nat.zero_add, Nat.add_zero, beq_self_eq_true, Nat.zero_ne_one, Nat.one_ne_zero, Nat.reduceLeDiff, Int.reduceBEq, constF, unF, unary,  pickF, nilcF, faddrF, fldF, iaddrSF, arF, arith_lss, arith_leq, arith_gtr, arith_geq, arith_add, arith_sub, convF, extF, lenF, eqcF, eqnF, eqN, eqPtr, isNone, loadF, storeF, allocF, callF, gets, Option.map_some, Option.bind_some, add_eq, mul_eq, sub_eq, div_eq, mod_eq, nbeq, nble, asBlk_int, flat_int, cells_int, asBlk_bool, flat_bool, cells_bool, asBlk_ptr, flat_ptr, cells_ptr, asBlk_slice, flat_slice, cells_slice, asBlk_map, flat_map, cells_map, asBlk_blk, flat_blk, cells_blk, cells_agg, flat_agg, asBlk_agg, V.w, width, unc, cmpCells, eqI_eq, eqB_eq, mkI_eq, asNat_int, asNat_zero, asNat_one, undef, List.append_nil, List.nil_append, List.cons_append, nth_zero, nth_succ, resultsV, result, tup, wp_some, Bool.and_true, Bool.true_and, Bool.and_self, decide_true, decide_false, Bool.not_true, Bool.not_false, Bool.true_beq, Bool.false_beq, beq_iff_eq, reduceCtorEq, Nat.succ_eq_add_one, ptr0, Int.ofNat_eq_natCast, Int.ofNat_le, Int.ofNat_lt, Int.natCast_add, store_new, store_new65, load_set65, load_set65', load_set, List.map_cons, List.map_nil, sC_loop, Heap.next_add, Heap.next_set, boxF, buildF, fill, bsliceF, fillRows, List.replicate_one, upd_zero, put_blk, cut_blk, cut_whole, put_hit_int, put_miss_int, cut_hit_int, cut_miss_int, put_hit_bool, put_miss_bool, cut_hit_bool, cut_miss_bool, put_hit_ptr, put_miss_ptr, cut_hit_ptr, cut_miss_ptr, put_hit_slice, put_miss_slice, cut_hit_slice, cut_miss_slice, put_hit_map, put_miss_map, cut_hit_map, cut_miss_map, load_add, appF, List.length_cons, List.length_nil]
  rw [endD_q (q := [(loadF (.t (Tr.path 19)) 64 .bk (Tr.setP (Tr.path 19) (.ptr (some ⟨.run HC.next, 0⟩)) .e) HD, some (.blk X)), (loadF (.t (Tr.path 19)) 64 .bk (Tr.setP (Tr.path 19) (.ptr (some ⟨.run HC.next, 0⟩)) .e) HE, some (.blk X))]) (by kernel_rfl) (by kernel_rfl)]
  simp only [sC_skip, sC_reg, sC_seq, sC_cond, sC_block, sC_exit, sC_scope, sC_ret, sC_regD, sI_nil, sI_none, sI_guard, guard_t, guard_f, want_b, want_u, sO_p, sO_r, sO_m, sO_a, sO_c, sD_nil, sD_none, sD_guard, guardD_t, guardD_f, sE_p, sE_r, sE_m, sE_a, sE_c, evQ_some, evR_some, evM_some, evA_some, evC_some, callD_some, contD_some, consD_some, setT_some, setT_none, narrow_nil, narrow_cons, narrowC_some, seq_n, seq_ret, seq_ex, block_n, block_ret, block_ex, cond_t, cond_f, afterV_some, afterM_some, afterA_some, afterC_some, callC_some, get_t, get_c, get_setP, Tr.getP_e, argsT_nil, argsT_cons, ↓reduceIte, Nat.reduceEqDiff, Nat.reduceAdd, Nat.reduceSub, Nat.reduceMul, Nat.reduceDiv, Nat.reduceMod, Nat.zero_add, Nat.add_zero, beq_self_eq_true, Nat.zero_ne_one, Nat.one_ne_zero, Nat.reduceLeDiff, Int.reduceBEq, constF, unF, unary,  pickF, nilcF, faddrF, fldF, iaddrSF, arF, arith_lss, arith_leq, arith_gtr, arith_geq, arith_add, arith_sub, convF, extF, lenF, eqcF, eqnF, eqN, eqPtr, isNone, loadF, storeF, allocF, callF, gets, Option.map_some, Option.bind_some, add_eq, mul_eq, sub_eq, div_eq, mod_eq, nbeq, nble, asBlk_int, flat_int, cells_int, asBlk_bool, flat_bool, cells_bool, asBlk_ptr, flat_ptr, cells_ptr, asBlk_slice, flat_slice, cells_slice, asBlk_map, flat_map, cells_map, asBlk_blk, flat_blk, cells_blk, cells_agg, flat_agg, asBlk_agg, V.w, width, unc, cmpCells, eqI_eq, eqB_eq, mkI_eq, asNat_int, asNat_zero, asNat_one, undef, List.append_nil, List.nil_append, List.cons_append, nth_zero, nth_succ, resultsV, result, tup, wp_some, Bool.and_true, Bool.true_and, Bool.and_self, decide_true, decide_false, Bool.not_true, Bool.not_false, Bool.true_beq, Bool.false_beq, beq_iff_eq, reduceCtorEq, Nat.succ_eq_add_one, ptr0, Int.ofNat_eq_natCast, Int.ofNat_le, Int.ofNat_lt, Int.natCast_add, store_new, store_new65, load_set65, load_set65', load_set, List.map_cons, List.map_nil, sC_loop, Heap.next_add, Heap.next_set, boxF, buildF, fill, bsliceF, fillRows, List.replicate_one, upd_zero, put_blk, cut_blk, cut_whole, put_hit_int, put_miss_int, cut_hit_int, cut_miss_int, put_hit_bool, put_miss_bool, cut_hit_bool, cut_miss_bool, put_hit_ptr, put_miss_ptr, cut_hit_ptr, cut_miss_ptr, put_hit_slice, put_miss_slice, cut_hit_slice, cut_miss_slice, put_hit_map, put_miss_map, cut_hit_map, cut_miss_map, load_add, appF, List.length_cons, List.length_nil]
  refine ⟨trivial, .inr trivial, _, rfl, rfl, ((hTa.trans hTaD).trans hTE).owe ?_⟩
  intro p hp
  simp only [List.mem_cons, List.not_mem_nil, or_false] at hp
  rcases hp with rfl | rfl
  · simp only [d19, sC_skip, sC_reg, sC_seq, sC_cond, sC_block, sC_exit, sC_scope, sC_ret, sC_regD, sI_nil, sI_none, sI_guard, guard_t, guard_f, want_b, want_u, sO_p, sO_r, sO_m, sO_a, sO_c, sD_nil, sD_none, sD_guard, guardD_t, guardD_f, sE_p, sE_r, sE_m, sE_a, sE_c, evQ_some, evR_some, evM_some, evA_some, evC_some, callD_some, contD_some, consD_some, setT_some, setT_none, narrow_nil, narrow_cons, narrowC_some, seq_n, seq_ret, seq_ex, block_n, block_ret, block_ex, cond_t, cond_f, afterV_some, afterM_some, afterA_some, afterC_some, callC_some, get_t, get_c, get_setP, Tr.getP_e, argsT_nil, argsT_cons, ↓reduceIte, Nat.reduceEqDiff, Nat.reduceAdd, Nat.reduceSub, Nat.reduceMul, Nat.reduceDiv, Nat.reduceMod, Nat.zero_add, Nat.add_zero, beq_self_eq_true, Nat.zero_ne_one, Nat.one_ne_zero, Nat.reduceLeDiff, Int.reduceBEq, constF, unF, unary,  pickF, nilcF, faddrF, fldF, iaddrSF, arF, arith_lss, arith_leq, arith_gtr, arith_geq, arith_add, arith_sub, convF, extF, lenF, eqcF, eqnF, eqN, eqPtr, isNone, loadF, storeF, allocF, callF, gets, Option.map_some, Option.bind_some, add_eq, mul_eq, sub_eq, div_eq, mod_eq, nbeq, nble, asBlk_int, flat_int, cells_int, asBlk_bool, flat_bool, cells_bool, asBlk_ptr, flat_ptr, cells_ptr, asBlk_slice, flat_slice, cells_slice, asBlk_map, flat_map, cells_map, asBlk_blk, flat_blk, cells_blk, cells_agg, flat_agg, asBlk_agg, V.w, width, unc, cmpCells, eqI_eq, eqB_eq, mkI_eq, asNat_int, asNat_zero, asNat_one, undef, List.append_nil, List.nil_append, List.cons_append, nth_zero, nth_succ, resultsV, result, tup, wp_some, Bool.and_true, Bool.true_and, Bool.and_self, decide_true, decide_false, Bool.not_true, Bool.not_false, Bool.true_beq, Bool.false_beq, beq_iff_eq, reduceCtorEq, Nat.succ_eq_add_one, ptr0, Int.ofNat_eq_natCast, Int.ofNat_le, Int.ofNat_lt, Int.natCast_add, store_new, store_new65, load_set65, load_set65', load_set, List.map_cons, List.map_nil, sC_loop, Heap.next_add, Heap.next_set, boxF, buildF, fill, bsliceF, fillRows, List.replicate_one, upd_zero, put_blk, cut_blk, cut_whole, put_hit_int, put_miss_int, cut_hit_int, cut_miss_int, put_hit_bool, put_miss_bool, cut_hit_bool, cut_miss_bool, put_hit_ptr, put_miss_ptr, cut_hit_ptr, cut_miss_ptr, put_hit_slice, put_miss_slice, cut_hit_slice, cut_miss_slice, put_hit_map, put_miss_map, cut_hit_map, cut_miss_map, load_add, appF, List.length_cons, List.length_nil]
  · simp only [d19', sC_skip, sC_reg, sC_seq, sC_cond, sC_block, sC_exit, sC_scope, sC_ret, sC_regD, sI_nil, sI_none, sI_guard, guard_t, guard_f, want_b, want_u, sO_p, sO_r, sO_m, sO_a, sO_c, sD_nil, sD_none, sD_guard, guardD_t, guardD_f, sE_p, sE_r, sE_m, sE_a, sE_c, evQ_some, evR_some, evM_some, evA_some, evC_some, callD_some, contD_some, consD_some, setT_some, setT_none, narrow_nil, narrow_cons, narrowC_some, seq_n, seq_ret, seq_ex, block_n, block_ret, block_ex, cond_t, cond_f, afterV_some, afterM_some, afterA_some, afterC_some, callC_some, get_t, get_c, get_setP, Tr.getP_e, argsT_nil, argsT_cons, ↓reduceIte, Nat.reduceEqDiff, Nat.reduceAdd, Nat.reduceSub, Nat.reduceMul, Nat.reduceDiv, Nat.reduceMod, Nat.zero_add, Nat.add_zero, beq_self_eq_true, Nat.zero_ne_one, Nat.one_ne_zero, Nat.reduceLeDiff, Int.reduceBEq, constF, unF, unary,  pickF, nilcF, faddrF, fldF, iaddrSF, arF, arith_lss, arith_leq, arith_gtr, arith_geq, arith_add, arith_sub, convF, extF, lenF, eqcF, eqnF, eqN, eqPtr, isNone, loadF, storeF, allocF, callF, gets, Option.map_some, Option.bind_some, add_eq, mul_eq, sub_eq, div_eq, mod_eq, nbeq, nble, asBlk_int, flat_int, cells_int, asBlk_bool, flat_bool, cells_bool, asBlk_ptr, flat_ptr, cells_ptr, asBlk_slice, flat_slice, cells_slice, asBlk_map, flat_map, cells_map, asBlk_blk, flat_blk, cells_blk, cells_agg, flat_agg, asBlk_agg, V.w, width, unc, cmpCells, eqI_eq, eqB_eq, mkI_eq, asNat_int, asNat_zero, asNat_one, undef, List.append_nil, List.nil_append, List.cons_append, nth_zero, nth_succ, resultsV, result, tup, wp_some, Bool.and_true, Bool.true_and, Bool.and_self, decide_true, decide_false, Bool.not_true, Bool.not_false, Bool.true_beq, Bool.false_beq, beq_iff_eq, reduceCtorEq, Nat.succ_eq_add_one, ptr0, Int.ofNat_eq_natCast, Int.ofNat_le, Int.ofNat_lt, Int.natCast_add, store_new, store_new65, load_set65, load_set65', load_set, List.map_cons, List.map_nil, sC_loop, Heap.next_add, Heap.next_set, boxF, buildF, fill, bsliceF, fillRows, List.replicate_one, upd_zero, put_blk, cut_blk, cut_whole, put_hit_int, put_miss_int, cut_hit_int, cut_miss_int, put_hit_bool, put_miss_bool, cut_hit_bool, cut_miss_bool, put_hit_ptr, put_miss_ptr, cut_hit_ptr, cut_miss_ptr, put_hit_slice, put_miss_slice, cut_hit_slice, cut_miss_slice, put_hit_map, put_miss_map, cut_hit_map, cut_miss_map, load_add, appF, List.length_cons, List.length_nil]

end Go.Proofs.Ytcelngepfdchiaa.diskTorn

