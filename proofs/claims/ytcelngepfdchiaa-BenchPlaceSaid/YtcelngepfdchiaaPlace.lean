/-
  'BenchPlace' holds: for every device, block and place, the law answers true. No condition.
-/
import Derived.Test.YtcelngepfdchiaaBench6
import Derived.Test.YtcelngepfdchiaaDisk3
set_option linter.unusedVariables false
set_option linter.unusedSimpArgs false
set_option maxRecDepth 10000
namespace Go.Proofs.Ytcelngepfdchiaa.disk
open Go.Am

noncomputable def c8_l0 : C := .seq (.seq (.reg [
      ⟨(some (Tr.path 97)), (some (.p (S.get (.t (Tr.path 14))))), none, [Tr.path 14]⟩,
      ⟨(some (Tr.path 98)), (some (.p (arF .lss (.t (Tr.path 97)) (.c (.int .i64 3))))), none, [Tr.path 97]⟩]) (
     .cond (.t (Tr.path 98)) (.skip) (.exit 2))) (
    .seq (.block 3 (.seq (.reg [
       ⟨(some (Tr.path 102)), (some (.p (S.get (.t (Tr.path 7))))), none, [Tr.path 7]⟩,
       ⟨(some (Tr.path 103)), (some (.p (S.get (.t (Tr.path 14))))), none, [Tr.path 14]⟩,
       ⟨(some (Tr.path 104)), (some (.p (S.get (.t (Tr.path 9))))), none, [Tr.path 9]⟩,
       ⟨(some (Tr.path 105)), (some (.c (callF (.c (.func (.func 40) [] [])) [(.t (Tr.path 102)), (.t (Tr.path 103)), (.t (Tr.path 104))]))), none, [Tr.path 102, Tr.path 103, Tr.path 104]⟩,
       ⟨(some (Tr.path 101)), (some (.p (S.get (.t (Tr.path 105))))), none, [Tr.path 105]⟩,
       ⟨(some (Tr.path 106)), (some (.p (extF (.t (Tr.path 101)) 0))), none, [Tr.path 101]⟩,
       ⟨(some (Tr.path 107)), (some (.p (extF (.t (Tr.path 101)) 1))), none, [Tr.path 101]⟩,
       ⟨(some (Tr.path 15)), (some (.m (allocF 64 [.blk 0]))), none, []⟩,
       ⟨none, (some (.a (storeF (.t (Tr.path 15)) (.t (Tr.path 106)) 64))), none, [Tr.path 15, Tr.path 106]⟩,
       ⟨(some (Tr.path 16)), (some (.p (S.get (.t (Tr.path 107))))), none, [Tr.path 107]⟩]) (
      .seq (.reg [
       ⟨(some (Tr.path 108)), (some (.r (loadF (.t (Tr.path 4)) 64 .bk))), none, [Tr.path 4]⟩,
       ⟨(some (Tr.path 17)), (some (.m (allocF 64 [.blk 0]))), none, []⟩,
       ⟨none, (some (.a (storeF (.t (Tr.path 17)) (.t (Tr.path 108)) 64))), none, [Tr.path 17, Tr.path 108]⟩]) (
      .seq (.seq (.reg [
        ⟨(some (Tr.path 109)), (some (.p (S.get (.t (Tr.path 14))))), none, [Tr.path 14]⟩,
        ⟨(some (Tr.path 110)), (some (.p (S.get (.t (Tr.path 8))))), none, [Tr.path 8]⟩,
        ⟨(some (Tr.path 111)), (some (.p (eqcF false false [.int .i64] (.t (Tr.path 109)) (.t (Tr.path 110))))), none, [Tr.path 109, Tr.path 110]⟩]) (
       .cond (.t (Tr.path 111)) (.reg [
         ⟨(some (Tr.path 112)), (some (.p (buildF [.blk 0] .bk []))), none, []⟩,
         ⟨none, (some (.a (storeF (.t (Tr.path 17)) (.t (Tr.path 112)) 64))), none, [Tr.path 17, Tr.path 112]⟩]) (.skip))) (
      .seq (.reg [
       ⟨(some (Tr.path 113)), (some (.p (S.get (.t (Tr.path 16))))), none, [Tr.path 16]⟩,
       ⟨(some (Tr.path 114)), (some (.p (eqcF true false [.int .i64] (.t (Tr.path 113)) (.c (.int .i64 0))))), none, [Tr.path 113]⟩,
       ⟨(some (Tr.path 115)), (some (.p (S.get (.t (Tr.path 114))))), none, [Tr.path 114]⟩,
       ⟨(some (Tr.path 116)), (some (.r (loadF (.t (Tr.path 15)) 64 .bk))), (some (some (Tr.path 115), false)), [Tr.path 15]⟩,
       ⟨(some (Tr.path 117)), (some (.r (loadF (.t (Tr.path 17)) 64 .bk))), (some (some (Tr.path 115), false)), [Tr.path 17]⟩,
       ⟨(some (Tr.path 118)), (some (.p (eqcF true true [.blk] (.t (Tr.path 116)) (.t (Tr.path 117))))), (some (some (Tr.path 115), false)), [Tr.path 116, Tr.path 117]⟩,
       ⟨(some (Tr.path 119)), (some (.p (pickF (.t (Tr.path 115)) (.c (.bool true)) (.t (Tr.path 118))))), none, [Tr.path 115, Tr.path 118]⟩]) (
      .cond (.t (Tr.path 119)) (.seq (.reg [
         ⟨(some (Tr.path 6)), (some (.p (S.get (.c (.bool false))))), none, []⟩]) (
        .ret)) (.skip))))))) (
    .reg [
    ⟨(some (Tr.path 99)), (some (.p (S.get (.t (Tr.path 14))))), none, [Tr.path 14]⟩,
    ⟨(some (Tr.path 100)), (some (.p (arF .add (.t (Tr.path 99)) (.c (.int .i64 1))))), none, [Tr.path 99]⟩,
    ⟨(some (Tr.path 14)), (some (.p (S.get (.t (Tr.path 100))))), none, [Tr.path 100]⟩]))
noncomputable def c8_l1 : C := .seq (.seq (.reg [
      ⟨(some (Tr.path 25)), (some (.p (S.get (.t (Tr.path 10))))), none, [Tr.path 10]⟩,
      ⟨(some (Tr.path 26)), (some (.p (arF .lss (.t (Tr.path 25)) (.c (.int .i64 3))))), none, [Tr.path 25]⟩]) (
     .cond (.t (Tr.path 26)) (.skip) (.exit 0))) (
    .seq (.block 1 (.seq (.reg [
       ⟨(some (Tr.path 29)), (some (.p (S.get (.t (Tr.path 7))))), none, [Tr.path 7]⟩,
       ⟨(some (Tr.path 30)), (some (.p (S.get (.t (Tr.path 10))))), none, [Tr.path 10]⟩,
       ⟨(some (Tr.path 31)), (some (.p (S.get (.t (Tr.path 9))))), none, [Tr.path 9]⟩,
       ⟨(some (Tr.path 32)), (some (.r (loadF (.t (Tr.path 4)) 64 .bk))), none, [Tr.path 4]⟩,
       ⟨(some (Tr.path 33)), (some (.c (callF (.c (.func (.func 33) [] [])) [(.t (Tr.path 29)), (.t (Tr.path 30)), (.t (Tr.path 31)), (.t (Tr.path 32))]))), none, [Tr.path 29, Tr.path 30, Tr.path 31, Tr.path 32]⟩,
       ⟨(some (Tr.path 34)), (some (.p (eqcF true false [.int .i64] (.t (Tr.path 33)) (.c (.int .i64 0))))), none, [Tr.path 33]⟩,
       ⟨(some (Tr.path 35)), (some (.p (S.get (.t (Tr.path 34))))), none, [Tr.path 34]⟩,
       ⟨(some (Tr.path 36)), (some (.p (S.get (.t (Tr.path 7))))), (some (some (Tr.path 35), false)), [Tr.path 7]⟩,
       ⟨(some (Tr.path 37)), (some (.p (S.get (.t (Tr.path 10))))), (some (some (Tr.path 35), false)), [Tr.path 10]⟩,
       ⟨(some (Tr.path 38)), (some (.c (callF (.c (.func (.func 32) [] [])) [(.t (Tr.path 36)), (.t (Tr.path 37))]))), (some (some (Tr.path 35), false)), [Tr.path 36, Tr.path 37]⟩,
       ⟨(some (Tr.path 39)), (some (.p (eqcF true false [.int .i64] (.t (Tr.path 38)) (.c (.int .i64 0))))), (some (some (Tr.path 35), false)), [Tr.path 38]⟩,
       ⟨(some (Tr.path 40)), (some (.p (pickF (.t (Tr.path 35)) (.c (.bool true)) (.t (Tr.path 39))))), none, [Tr.path 35, Tr.path 39]⟩]) (
      .cond (.t (Tr.path 40)) (.seq (.reg [
         ⟨(some (Tr.path 6)), (some (.p (S.get (.c (.bool false))))), none, []⟩]) (
        .ret)) (.skip)))) (
    .reg [
    ⟨(some (Tr.path 27)), (some (.p (S.get (.t (Tr.path 10))))), none, [Tr.path 10]⟩,
    ⟨(some (Tr.path 28)), (some (.p (arF .add (.t (Tr.path 27)) (.c (.int .i64 1))))), none, [Tr.path 27]⟩,
    ⟨(some (Tr.path 10)), (some (.p (S.get (.t (Tr.path 28))))), none, [Tr.path 28]⟩]))
/-- ashlar/ashlarlaw06.BenchPlace -/
noncomputable def c8 : CFn := ⟨[.tmp (Tr.path 6)],
 .seq (.reg [
  ⟨(some (Tr.path 4)), (some (.m (boxF 64 (.t (Tr.path 1))))), none, [Tr.path 1]⟩,
  ⟨(some (Tr.path 6)), (some (.p (S.get (.c (.bool false))))), none, []⟩]) (
 .seq (.reg [
  ⟨(some (Tr.path 18)), (some (.c (callF (.c (.func (.func 30) [] [])) []))), none, []⟩,
  ⟨(some (Tr.path 7)), (some (.p (S.get (.t (Tr.path 18))))), none, [Tr.path 18]⟩]) (
 .seq (.reg [
  ⟨(some (Tr.path 19)), (some (.p (S.get (.t (Tr.path 0))))), none, [Tr.path 0]⟩,
  ⟨(some (Tr.path 20)), (some (.p (arF .rem (.t (Tr.path 19)) (.c (.int .u8 3))))), none, [Tr.path 19]⟩,
  ⟨(some (Tr.path 21)), (some (.p (convF .i64 (.t (Tr.path 20))))), none, [Tr.path 20]⟩,
  ⟨(some (Tr.path 8)), (some (.p (S.get (.t (Tr.path 21))))), none, [Tr.path 21]⟩]) (
 .seq (.reg [
  ⟨(some (Tr.path 22)), (some (.p (S.get (.t (Tr.path 2))))), none, [Tr.path 2]⟩,
  ⟨(some (Tr.path 23)), (some (.p (arF .rem (.t (Tr.path 22)) (.c (.int .u8 8))))), none, [Tr.path 22]⟩,
  ⟨(some (Tr.path 24)), (some (.p (convF .i64 (.t (Tr.path 23))))), none, [Tr.path 23]⟩,
  ⟨(some (Tr.path 9)), (some (.p (S.get (.t (Tr.path 24))))), none, [Tr.path 24]⟩]) (
 .seq (.seq (.reg [
   ⟨(some (Tr.path 10)), (some (.p (S.get (.c (.int .i64 0))))), none, []⟩]) (
  .block 0 (.loop c8_l1))) (
 .seq (.seq (.reg [
   ⟨(some (Tr.path 41)), (some (.p (S.get (.t (Tr.path 7))))), none, [Tr.path 7]⟩,
   ⟨(some (Tr.path 42)), (some (.p (S.get (.t (Tr.path 8))))), none, [Tr.path 8]⟩,
   ⟨(some (Tr.path 43)), (some (.c (callF (.c (.func (.func 38) [] [])) [(.t (Tr.path 41)), (.t (Tr.path 42))]))), none, [Tr.path 41, Tr.path 42]⟩,
   ⟨(some (Tr.path 44)), (some (.p (eqcF true false [.int .i64] (.t (Tr.path 43)) (.c (.int .i64 0))))), none, [Tr.path 43]⟩,
   ⟨(some (Tr.path 45)), (some (.p (S.get (.t (Tr.path 44))))), none, [Tr.path 44]⟩,
   ⟨(some (Tr.path 46)), (some (.p (S.get (.t (Tr.path 7))))), (some (some (Tr.path 45), false)), [Tr.path 7]⟩,
   ⟨(some (Tr.path 47)), (some (.p (S.get (.t (Tr.path 8))))), (some (some (Tr.path 45), false)), [Tr.path 8]⟩,
   ⟨(some (Tr.path 48)), (some (.c (callF (.c (.func (.func 39) [] [])) [(.t (Tr.path 46)), (.t (Tr.path 47))]))), (some (some (Tr.path 45), false)), [Tr.path 46, Tr.path 47]⟩,
   ⟨(some (Tr.path 49)), (some (.p (unF .not (.t (Tr.path 48))))), (some (some (Tr.path 45), false)), [Tr.path 48]⟩,
   ⟨(some (Tr.path 50)), (some (.p (pickF (.t (Tr.path 45)) (.c (.bool true)) (.t (Tr.path 49))))), none, [Tr.path 45, Tr.path 49]⟩]) (
  .cond (.t (Tr.path 50)) (.seq (.reg [
     ⟨(some (Tr.path 6)), (some (.p (S.get (.c (.bool false))))), none, []⟩]) (
    .ret)) (.skip))) (
 .seq (.reg [
  ⟨(some (Tr.path 52)), (some (.p (S.get (.t (Tr.path 7))))), none, [Tr.path 7]⟩,
  ⟨(some (Tr.path 53)), (some (.p (S.get (.t (Tr.path 8))))), none, [Tr.path 8]⟩,
  ⟨(some (Tr.path 54)), (some (.p (S.get (.t (Tr.path 9))))), none, [Tr.path 9]⟩,
  ⟨(some (Tr.path 55)), (some (.c (callF (.c (.func (.func 40) [] [])) [(.t (Tr.path 52)), (.t (Tr.path 53)), (.t (Tr.path 54))]))), none, [Tr.path 52, Tr.path 53, Tr.path 54]⟩,
  ⟨(some (Tr.path 51)), (some (.p (S.get (.t (Tr.path 55))))), none, [Tr.path 55]⟩,
  ⟨(some (Tr.path 56)), (some (.p (extF (.t (Tr.path 51)) 0))), none, [Tr.path 51]⟩,
  ⟨(some (Tr.path 57)), (some (.p (extF (.t (Tr.path 51)) 1))), none, [Tr.path 51]⟩,
  ⟨(some (Tr.path 11)), (some (.m (allocF 64 [.blk 0]))), none, []⟩,
  ⟨none, (some (.a (storeF (.t (Tr.path 11)) (.t (Tr.path 56)) 64))), none, [Tr.path 11, Tr.path 56]⟩,
  ⟨(some (Tr.path 12)), (some (.p (S.get (.t (Tr.path 57))))), none, [Tr.path 57]⟩]) (
 .seq (.reg [
  ⟨(some (Tr.path 58)), (some (.p (S.get (.t (Tr.path 7))))), none, [Tr.path 7]⟩,
  ⟨(some (Tr.path 59)), (some (.c (callF (.c (.func (.func 35) [] [])) [(.t (Tr.path 58))]))), none, [Tr.path 58]⟩,
  ⟨(some (Tr.path 13)), (some (.p (S.get (.t (Tr.path 59))))), none, [Tr.path 59]⟩]) (
 .seq (.seq (.reg [
   ⟨(some (Tr.path 60)), (some (.p (S.get (.t (Tr.path 12))))), none, [Tr.path 12]⟩,
   ⟨(some (Tr.path 61)), (some (.p (eqcF true false [.int .i64] (.t (Tr.path 60)) (.c (.int .i64 9))))), none, [Tr.path 60]⟩,
   ⟨(some (Tr.path 62)), (some (.p (S.get (.t (Tr.path 61))))), none, [Tr.path 61]⟩,
   ⟨(some (Tr.path 63)), (some (.p (S.get (.t (Tr.path 7))))), (some (some (Tr.path 62), false)), [Tr.path 7]⟩,
   ⟨(some (Tr.path 64)), (some (.p (S.get (.t (Tr.path 8))))), (some (some (Tr.path 62), false)), [Tr.path 8]⟩,
   ⟨(some (Tr.path 65)), (some (.p (S.get (.t (Tr.path 9))))), (some (some (Tr.path 62), false)), [Tr.path 9]⟩,
   ⟨(some (Tr.path 66)), (some (.r (loadF (.t (Tr.path 4)) 64 .bk))), (some (some (Tr.path 62), false)), [Tr.path 4]⟩,
   ⟨(some (Tr.path 67)), (some (.c (callF (.c (.func (.func 33) [] [])) [(.t (Tr.path 63)), (.t (Tr.path 64)), (.t (Tr.path 65)), (.t (Tr.path 66))]))), (some (some (Tr.path 62), false)), [Tr.path 63, Tr.path 64, Tr.path 65, Tr.path 66]⟩,
   ⟨(some (Tr.path 68)), (some (.p (eqcF true false [.int .i64] (.t (Tr.path 67)) (.c (.int .i64 9))))), (some (some (Tr.path 62), false)), [Tr.path 67]⟩,
   ⟨(some (Tr.path 69)), (some (.p (pickF (.t (Tr.path 62)) (.c (.bool true)) (.t (Tr.path 68))))), none, [Tr.path 62, Tr.path 68]⟩,
   ⟨(some (Tr.path 70)), (some (.p (S.get (.t (Tr.path 69))))), none, [Tr.path 69]⟩,
   ⟨(some (Tr.path 71)), (some (.p (S.get (.t (Tr.path 7))))), (some (some (Tr.path 70), false)), [Tr.path 7]⟩,
   ⟨(some (Tr.path 72)), (some (.p (S.get (.t (Tr.path 8))))), (some (some (Tr.path 70), false)), [Tr.path 8]⟩,
   ⟨(some (Tr.path 73)), (some (.c (callF (.c (.func (.func 32) [] [])) [(.t (Tr.path 71)), (.t (Tr.path 72))]))), (some (some (Tr.path 70), false)), [Tr.path 71, Tr.path 72]⟩,
   ⟨(some (Tr.path 74)), (some (.p (eqcF true false [.int .i64] (.t (Tr.path 73)) (.c (.int .i64 9))))), (some (some (Tr.path 70), false)), [Tr.path 73]⟩,
   ⟨(some (Tr.path 75)), (some (.p (pickF (.t (Tr.path 70)) (.c (.bool true)) (.t (Tr.path 74))))), none, [Tr.path 70, Tr.path 74]⟩,
   ⟨(some (Tr.path 76)), (some (.p (S.get (.t (Tr.path 75))))), none, [Tr.path 75]⟩,
   ⟨(some (Tr.path 77)), (some (.p (S.get (.t (Tr.path 7))))), (some (some (Tr.path 76), false)), [Tr.path 7]⟩,
   ⟨(some (Tr.path 78)), (some (.c (callF (.c (.func (.func 35) [] [])) [(.t (Tr.path 77))]))), (some (some (Tr.path 76), false)), [Tr.path 77]⟩,
   ⟨(some (Tr.path 79)), (some (.p (S.get (.t (Tr.path 13))))), (some (some (Tr.path 76), false)), [Tr.path 13]⟩,
   ⟨(some (Tr.path 80)), (some (.p (eqcF true false [.int .i64] (.t (Tr.path 78)) (.t (Tr.path 79))))), (some (some (Tr.path 76), false)), [Tr.path 78, Tr.path 79]⟩,
   ⟨(some (Tr.path 81)), (some (.p (pickF (.t (Tr.path 76)) (.c (.bool true)) (.t (Tr.path 80))))), none, [Tr.path 76, Tr.path 80]⟩]) (
  .cond (.t (Tr.path 81)) (.seq (.reg [
     ⟨(some (Tr.path 6)), (some (.p (S.get (.c (.bool false))))), none, []⟩]) (
    .ret)) (.skip))) (
 .seq (.seq (.reg [
   ⟨(some (Tr.path 82)), (some (.p (S.get (.t (Tr.path 7))))), none, [Tr.path 7]⟩,
   ⟨(some (Tr.path 83)), (some (.p (S.get (.t (Tr.path 8))))), none, [Tr.path 8]⟩,
   ⟨(some (Tr.path 84)), (some (.c (callF (.c (.func (.func 37) [] [])) [(.t (Tr.path 82)), (.t (Tr.path 83))]))), none, [Tr.path 82, Tr.path 83]⟩,
   ⟨(some (Tr.path 85)), (some (.p (eqcF true false [.int .i64] (.t (Tr.path 84)) (.c (.int .i64 0))))), none, [Tr.path 84]⟩,
   ⟨(some (Tr.path 86)), (some (.p (S.get (.t (Tr.path 85))))), none, [Tr.path 85]⟩,
   ⟨(some (Tr.path 87)), (some (.p (S.get (.t (Tr.path 7))))), (some (some (Tr.path 86), false)), [Tr.path 7]⟩,
   ⟨(some (Tr.path 88)), (some (.p (S.get (.t (Tr.path 8))))), (some (some (Tr.path 86), false)), [Tr.path 8]⟩,
   ⟨(some (Tr.path 89)), (some (.c (callF (.c (.func (.func 39) [] [])) [(.t (Tr.path 87)), (.t (Tr.path 88))]))), (some (some (Tr.path 86), false)), [Tr.path 87, Tr.path 88]⟩,
   ⟨(some (Tr.path 90)), (some (.p (pickF (.t (Tr.path 86)) (.c (.bool true)) (.t (Tr.path 89))))), none, [Tr.path 86, Tr.path 89]⟩,
   ⟨(some (Tr.path 91)), (some (.p (S.get (.t (Tr.path 90))))), none, [Tr.path 90]⟩,
   ⟨(some (Tr.path 92)), (some (.p (S.get (.t (Tr.path 7))))), (some (some (Tr.path 91), false)), [Tr.path 7]⟩,
   ⟨(some (Tr.path 93)), (some (.p (S.get (.t (Tr.path 8))))), (some (some (Tr.path 91), false)), [Tr.path 8]⟩,
   ⟨(some (Tr.path 94)), (some (.c (callF (.c (.func (.func 41) [] [])) [(.t (Tr.path 92)), (.t (Tr.path 93))]))), (some (some (Tr.path 91), false)), [Tr.path 92, Tr.path 93]⟩,
   ⟨(some (Tr.path 95)), (some (.p (eqcF true false [.int .i64] (.t (Tr.path 94)) (.c (.int .i64 8))))), (some (some (Tr.path 91), false)), [Tr.path 94]⟩,
   ⟨(some (Tr.path 96)), (some (.p (pickF (.t (Tr.path 91)) (.c (.bool true)) (.t (Tr.path 95))))), none, [Tr.path 91, Tr.path 95]⟩]) (
  .cond (.t (Tr.path 96)) (.seq (.reg [
     ⟨(some (Tr.path 6)), (some (.p (S.get (.c (.bool false))))), none, []⟩]) (
    .ret)) (.skip))) (
 .seq (.seq (.reg [
   ⟨(some (Tr.path 14)), (some (.p (S.get (.c (.int .i64 0))))), none, []⟩]) (
  .block 2 (.loop c8_l0))) (
 .seq (.reg [
  ⟨(some (Tr.path 120)), (some (.p (S.get (.t (Tr.path 7))))), none, [Tr.path 7]⟩,
  ⟨(some (Tr.path 121)), (some (.p (S.get (.t (Tr.path 8))))), none, [Tr.path 8]⟩,
  ⟨(some (Tr.path 122)), (some (.c (callF (.c (.func (.func 37) [] [])) [(.t (Tr.path 120)), (.t (Tr.path 121))]))), none, [Tr.path 120, Tr.path 121]⟩,
  ⟨(some (Tr.path 123)), (some (.p (eqcF false false [.int .i64] (.t (Tr.path 122)) (.c (.int .i64 17))))), none, [Tr.path 122]⟩,
  ⟨(some (Tr.path 124)), (some (.p (S.get (.t (Tr.path 123))))), none, [Tr.path 123]⟩,
  ⟨(some (Tr.path 125)), (some (.c (callF (.c (.func (.func 36) [] [])) []))), (some (some (Tr.path 124), true)), []⟩,
  ⟨(some (Tr.path 126)), (some (.p (pickF (.t (Tr.path 124)) (.t (Tr.path 125)) (.c (.bool false))))), none, [Tr.path 124, Tr.path 125]⟩,
  ⟨(some (Tr.path 6)), (some (.p (S.get (.t (Tr.path 126))))), none, [Tr.path 126]⟩]) (
 .ret))))))))))))⟩
theorem c8_eq : fnOf Try.prog 8 = some c8 := by kernel_rfl


def D1 (q x : Nat) : Dev := ⟨(List.replicate 8 0).set q x, [], false⟩
def PB (q x i : Nat) : Bn := ⟨[if 0 < i then D1 q x else blank 8, if 1 < i then D1 q x else blank 8, if 2 < i then D1 q x else blank 8], 2 * (i : Int), 0, false⟩

theorem PB_write {q : Nat} (x : Nat) (hq : q < 8) : ∀ i : Nat, i < 3 → (PB q x i).wc (i : Int) (q : Int) = 0 ∧ ((PB q x i).write (i : Int) (q : Int) x).wc (i : Int) 0 = 0 ∧ ((PB q x i).write (i : Int) (q : Int) x).flush (i : Int) = PB q x (i + 1) := by
  intro i hi
  have h1 : ¬ ((q : Int) < 0) := by omega
  have h2 : ¬ ((8 : Int) ≤ (q : Int)) := by omega
  match i, hi with
  | 0, _ => simp [PB, Bn.wc, Bn.write, Bn.flush, Bn.rc, Bn.lc, Bn.tc, tcode, Bn.dev, Bn.sc, Bn.step, Dev.write, Dev.flush, code, flushS, blank, arLess, D1, h1, h2]
  | 1, _ => simp [PB, Bn.wc, Bn.write, Bn.flush, Bn.rc, Bn.lc, Bn.tc, tcode, Bn.dev, Bn.sc, Bn.step, Dev.write, Dev.flush, code, flushS, blank, arLess, D1, h1, h2]
  | 2, _ => simp [PB, Bn.wc, Bn.write, Bn.flush, Bn.rc, Bn.lc, Bn.tc, tcode, Bn.dev, Bn.sc, Bn.step, Dev.write, Dev.flush, code, flushS, blank, arLess, D1, h1, h2]

def FB (q x k : Nat) : Bn := (PB q x 3).fail (k : Int)
def IB (q x k : Nat) : Bn := (FB q x k).insert (k : Int)

theorem FB_all {q : Nat} (x : Nat) (hq : q < 8) : ∀ k : Nat, k < 3 → (PB q x 3).tc (k : Int) = 0 ∧ (FB q x k).dead (k : Int) = true ∧ (FB q x k).rc (k : Int) (q : Int) = 9 ∧ (FB q x k).wc (k : Int) (q : Int) = 9 ∧ (FB q x k).write (k : Int) (q : Int) x = FB q x k ∧ (FB q x k).wc (k : Int) 0 = 9 ∧ (FB q x k).flush (k : Int) = FB q x k ∧ (FB q x k).ic (k : Int) = 0 ∧ (IB q x k).dead (k : Int) = false ∧ (IB q x k).sectors (k : Int) = 8 ∧ (IB q x k).ic (k : Int) = 17 := by
  intro k hk
  have h1 : ¬ ((q : Int) < 0) := by omega
  have h2 : ¬ ((8 : Int) ≤ (q : Int)) := by omega
  match k, hk with
  | 0, _ => simp [PB, FB, IB, Bn.fail, Bn.dead, Bn.ic, Bn.insert, Bn.sectors, Bn.setd, Bn.wc, Bn.write, Bn.flush, Bn.rc, Bn.lc, Bn.tc, tcode, Bn.dev, Bn.sc, Dev.fail, code, blank, D1, h1, h2]
  | 1, _ => simp [PB, FB, IB, Bn.fail, Bn.dead, Bn.ic, Bn.insert, Bn.sectors, Bn.setd, Bn.wc, Bn.write, Bn.flush, Bn.rc, Bn.lc, Bn.tc, tcode, Bn.dev, Bn.sc, Dev.fail, code, blank, D1, h1, h2]
  | 2, _ => simp [PB, FB, IB, Bn.fail, Bn.dead, Bn.ic, Bn.insert, Bn.sectors, Bn.setd, Bn.wc, Bn.write, Bn.flush, Bn.rc, Bn.lc, Bn.tc, tcode, Bn.dev, Bn.sc, Dev.fail, code, blank, D1, h1, h2]

theorem IB_read {q : Nat} (x : Nat) (hq : q < 8) : ∀ k : Nat, k < 3 → ∀ i : Nat, i < 3 → (IB q x k).rc (i : Int) (q : Int) = 0 ∧ (IB q x k).read (i : Int) (q : Int) = if i = k then 0 else x := by
  intro k hk i hi
  have h1 : ¬ ((q : Int) < 0) := by omega
  have h2 : ¬ ((8 : Int) ≤ (q : Int)) := by omega
  have h3 : ((List.replicate 8 0).set q x).getD q 0 = x := by simp [List.getD, hq]
  have h4 : (List.replicate 8 0).getD q 0 = 0 := by rw [List.getD_eq_getElem?_getD, List.getElem?_replicate, if_pos hq]; rfl
  have r1 : readN (D1 q x) q = x := h3
  have r2 : readN (blank 8) q = 0 := h4
  match k, hk, i, hi with
  | 0, _, 0, _ => exact ⟨by simp [PB, FB, IB, Bn.fail, Bn.ic, Bn.insert, Bn.setd, Bn.rc, Bn.lc, Bn.tc, tcode, Bn.dev, Dev.fail, code, blank, D1, h1, h2], by simp [PB, FB, IB, Bn.read, Dev.read, Bn.fail, Bn.ic, Bn.insert, Bn.setd, Bn.rc, Bn.lc, Bn.tc, tcode, Bn.dev, Dev.fail, code, h1, h2, show (D1 q x).S.length = 8 by simp [D1], show (blank 8).S.length = 8 by simp [blank], show (blank 8).dead = false from rfl, show (D1 q x).dead = false from rfl, r1, r2]⟩
  | 0, _, 1, _ => exact ⟨by simp [PB, FB, IB, Bn.fail, Bn.ic, Bn.insert, Bn.setd, Bn.rc, Bn.lc, Bn.tc, tcode, Bn.dev, Dev.fail, code, blank, D1, h1, h2], by simp [PB, FB, IB, Bn.read, Dev.read, Bn.fail, Bn.ic, Bn.insert, Bn.setd, Bn.rc, Bn.lc, Bn.tc, tcode, Bn.dev, Dev.fail, code, h1, h2, show (D1 q x).S.length = 8 by simp [D1], show (blank 8).S.length = 8 by simp [blank], show (blank 8).dead = false from rfl, show (D1 q x).dead = false from rfl, r1, r2]⟩
  | 0, _, 2, _ => exact ⟨by simp [PB, FB, IB, Bn.fail, Bn.ic, Bn.insert, Bn.setd, Bn.rc, Bn.lc, Bn.tc, tcode, Bn.dev, Dev.fail, code, blank, D1, h1, h2], by simp [PB, FB, IB, Bn.read, Dev.read, Bn.fail, Bn.ic, Bn.insert, Bn.setd, Bn.rc, Bn.lc, Bn.tc, tcode, Bn.dev, Dev.fail, code, h1, h2, show (D1 q x).S.length = 8 by simp [D1], show (blank 8).S.length = 8 by simp [blank], show (blank 8).dead = false from rfl, show (D1 q x).dead = false from rfl, r1, r2]⟩
  | 1, _, 0, _ => exact ⟨by simp [PB, FB, IB, Bn.fail, Bn.ic, Bn.insert, Bn.setd, Bn.rc, Bn.lc, Bn.tc, tcode, Bn.dev, Dev.fail, code, blank, D1, h1, h2], by simp [PB, FB, IB, Bn.read, Dev.read, Bn.fail, Bn.ic, Bn.insert, Bn.setd, Bn.rc, Bn.lc, Bn.tc, tcode, Bn.dev, Dev.fail, code, h1, h2, show (D1 q x).S.length = 8 by simp [D1], show (blank 8).S.length = 8 by simp [blank], show (blank 8).dead = false from rfl, show (D1 q x).dead = false from rfl, r1, r2]⟩
  | 1, _, 1, _ => exact ⟨by simp [PB, FB, IB, Bn.fail, Bn.ic, Bn.insert, Bn.setd, Bn.rc, Bn.lc, Bn.tc, tcode, Bn.dev, Dev.fail, code, blank, D1, h1, h2], by simp [PB, FB, IB, Bn.read, Dev.read, Bn.fail, Bn.ic, Bn.insert, Bn.setd, Bn.rc, Bn.lc, Bn.tc, tcode, Bn.dev, Dev.fail, code, h1, h2, show (D1 q x).S.length = 8 by simp [D1], show (blank 8).S.length = 8 by simp [blank], show (blank 8).dead = false from rfl, show (D1 q x).dead = false from rfl, r1, r2]⟩
  | 1, _, 2, _ => exact ⟨by simp [PB, FB, IB, Bn.fail, Bn.ic, Bn.insert, Bn.setd, Bn.rc, Bn.lc, Bn.tc, tcode, Bn.dev, Dev.fail, code, blank, D1, h1, h2], by simp [PB, FB, IB, Bn.read, Dev.read, Bn.fail, Bn.ic, Bn.insert, Bn.setd, Bn.rc, Bn.lc, Bn.tc, tcode, Bn.dev, Dev.fail, code, h1, h2, show (D1 q x).S.length = 8 by simp [D1], show (blank 8).S.length = 8 by simp [blank], show (blank 8).dead = false from rfl, show (D1 q x).dead = false from rfl, r1, r2]⟩
  | 2, _, 0, _ => exact ⟨by simp [PB, FB, IB, Bn.fail, Bn.ic, Bn.insert, Bn.setd, Bn.rc, Bn.lc, Bn.tc, tcode, Bn.dev, Dev.fail, code, blank, D1, h1, h2], by simp [PB, FB, IB, Bn.read, Dev.read, Bn.fail, Bn.ic, Bn.insert, Bn.setd, Bn.rc, Bn.lc, Bn.tc, tcode, Bn.dev, Dev.fail, code, h1, h2, show (D1 q x).S.length = 8 by simp [D1], show (blank 8).S.length = 8 by simp [blank], show (blank 8).dead = false from rfl, show (D1 q x).dead = false from rfl, r1, r2]⟩
  | 2, _, 1, _ => exact ⟨by simp [PB, FB, IB, Bn.fail, Bn.ic, Bn.insert, Bn.setd, Bn.rc, Bn.lc, Bn.tc, tcode, Bn.dev, Dev.fail, code, blank, D1, h1, h2], by simp [PB, FB, IB, Bn.read, Dev.read, Bn.fail, Bn.ic, Bn.insert, Bn.setd, Bn.rc, Bn.lc, Bn.tc, tcode, Bn.dev, Dev.fail, code, h1, h2, show (D1 q x).S.length = 8 by simp [D1], show (blank 8).S.length = 8 by simp [blank], show (blank 8).dead = false from rfl, show (D1 q x).dead = false from rfl, r1, r2]⟩
  | 2, _, 2, _ => exact ⟨by simp [PB, FB, IB, Bn.fail, Bn.ic, Bn.insert, Bn.setd, Bn.rc, Bn.lc, Bn.tc, tcode, Bn.dev, Dev.fail, code, blank, D1, h1, h2], by simp [PB, FB, IB, Bn.read, Dev.read, Bn.fail, Bn.ic, Bn.insert, Bn.setd, Bn.rc, Bn.lc, Bn.tc, tcode, Bn.dev, Dev.fail, code, h1, h2, show (D1 q x).S.length = 8 by simp [D1], show (blank 8).S.length = 8 by simp [blank], show (blank 8).dead = false from rfl, show (D1 q x).dead = false from rfl, r1, r2]⟩

theorem PB_ok {q : Nat} (x : Nat) (hq : q < 8) : ∀ i : Nat, i < 4 → Bok (2 * i) (PB q x i)
  | 0, _ => okNew (P := [8, 8, 8]) ⟨by decide, by decide, by decide⟩
  | i + 1, hi => by
    have h := PB_ok x hq i (by omega)
    rw [← (PB_write x hq i (by omega)).2.2]
    exact (h.write _ _ _).flush _

theorem place_run (H : Heap) {dv nn : Nat} (hdv : dv < 256) (hnn : nn < 256) (x : Nat) {lf : Nat} (hlf : 1000 < lf) (m : Nat) :
    ret (callS Try.prog S0 lf (m + 7) 8 [.int .u8 (dv : Int), .blk x, .int .u8 (nn : Int)] H) fun v H' => v = .bool true ∧ Turns Z H H' := by
  have hr3 : arith .rem (.int .u8 (dv : Int)) (.int .u8 3) = some (.int .u8 ((dv % 3 : Nat) : Int)) := rem_nat .u8 dv 3 (by decide)
  have hr8 : arith .rem (.int .u8 (nn : Int)) (.int .u8 8) = some (.int .u8 ((nn % 8 : Nat) : Int)) := rem_nat .u8 nn 8 (by decide)
  have hk : dv % 3 < 3 := Nat.mod_lt _ (by decide)
  have hq : nn % 8 < 8 := Nat.mod_lt _ (by decide)
  generalize dv % 3 = k at hr3 hk
  generalize nn % 8 = q at hr8 hq
  have wk : IntKind.i64.wrap (k : Int) = (k : Int) := wrap_i64 (by omega)
  have wq : IntKind.i64.wrap (q : Int) = (q : Int) := wrap_i64 (by omega)
  have tA := Turns.add Z H (.rows false 64 [[.blk x]])
  have gA : (H.add (.rows false 64 [[.blk x]])).get (.run H.next) = some (.rows false 64 [[.blk x]]) := by rw [Heap.get_add, if_pos rfl]
  have oA : (H.add (.rows false 64 [[.blk x]])).Old (.run H.next) := by show _ < _; simp
  generalize hHA : H.add (.rows false 64 [[.blk x]]) = HA at tA gA oA
  obtain ⟨v, H1, es, b, ds, l1, rfl, hR1, hN1, hT1⟩ := small_all HA hlf (m + 3)
  change callS Try.prog S0 lf (m + 6) 30 [] HA = _ at es
  have M1 : Mine false HA H1 b ds 1 l1 (PB q x 0) := ⟨hR1, hT1, hN1⟩
  have cell : ∀ {K : Heap} {so : Nat} {l : List Dv} {B : Bn}, Mine false HA K b ds so l B → loadAt K ⟨.run H.next, 0⟩ 64 = some [.blk x] := fun M => load_of ((M.t.same _ oA id).trans gA)
  have hloop : ∀ t : T, t.getP (Tr.path 4) = some (.ptr (some ⟨.run H.next, 0⟩)) → t.getP (Tr.path 7) = some (.ptr (some ⟨b, 0⟩)) → t.getP (Tr.path 8) = some (.int .i64 (k : Int)) → t.getP (Tr.path 9) = some (.int .i64 (q : Int)) → t.getP (Tr.path 10) = some (.int .i64 0) →
      wp (loopF (runC (callS Try.prog S0 lf (m + 6)) lf c8_l1) lf ⟨t, H1, []⟩) fun y s =>
        y = .ex 0 ∧ s.d = [] ∧ s.t.getP (Tr.path 4) = some (.ptr (some ⟨.run H.next, 0⟩)) ∧ s.t.getP (Tr.path 7) = some (.ptr (some ⟨b, 0⟩)) ∧ s.t.getP (Tr.path 8) = some (.int .i64 (k : Int)) ∧ s.t.getP (Tr.path 9) = some (.int .i64 (q : Int)) ∧ ∃ l, Mine false HA s.H b ds 1 l (PB q x 3) := by
    intro t q4 q7 q8 q9 q10
    refine wp_loopF (fun r s => ∃ i l, i + r = 3 ∧ s.d = [] ∧ s.t.getP (Tr.path 4) = some (.ptr (some ⟨.run H.next, 0⟩)) ∧ s.t.getP (Tr.path 7) = some (.ptr (some ⟨b, 0⟩)) ∧ s.t.getP (Tr.path 8) = some (.int .i64 (k : Int)) ∧ s.t.getP (Tr.path 9) = some (.int .i64 (q : Int)) ∧ s.t.getP (Tr.path 10) = some (.int .i64 ((i : Nat) : Int)) ∧ Mine false HA s.H b ds 1 l (PB q x i)) ?_ lf 3 _ ⟨0, l1, rfl, rfl, q4, q7, q8, q9, q10, M1⟩ (by omega)
    rintro r ⟨t, HH, d⟩ ⟨i, l, hi, rfl, q4, q7, q8, q9, q10, M⟩
    dsimp only at q4 q7 q8 q9 q10 M
    cases r with
    | zero =>
      have hi : i = 3 := by omega
      subst hi
      have q10 : t.getP (Tr.path 10) = some (.int .i64 3) := q10
      have hg : ¬ ((3 : Int) < 3) := by decide
      simp only [c8_l1, q4, q7, q8, q9, q10, hg, sC_skip, sC_reg, sC_seq, sC_cond, sC_block, sC_exit, sC_scope, sC_ret, sC_regD, sI_nil, sI_none, sI_guard, guard_t, guard_f, want_b, want_u, sO_p, sO_r, sO_m, sO_a, sO_c, sD_nil, sD_none, sD_guard, guardD_t, guardD_f, sE_p, sE_r, sE_m, sE_a, sE_c, evQ_some, evR_some, evM_some, evA_some, evC_some, callD_some, contD_some, consD_some, setT_some, setT_none, narrow_nil, narrow_cons, narrowC_some, seq_n, seq_ret, seq_ex, block_n, block_ret, block_ex, cond_t, cond_f, afterV_some, afterM_some, afterA_some, afterC_some, callC_some, get_t, get_c, get_setP, Tr.getP_e, argsT_nil, argsT_cons, ↓reduceIte, Nat.reduceEqDiff, Nat.reduceAdd, Nat.reduceSub, Nat.reduceMul, Nat.reduceDiv, Nat.reduceMod, Nat.zero_add, Nat.add_zero, beq_self_eq_true, Nat.zero_ne_one, Nat.one_ne_zero, Nat.reduceLeDiff, Int.reduceBEq, constF, unF, unary,  pickF, nilcF, faddrF, fldF, iaddrSF, arF, arith_lss, arith_leq, arith_gtr, arith_geq, arith_add, arith_sub, convF, extF, lenF, eqcF, eqnF, eqN, eqPtr, isNone, loadF, storeF, allocF, callF, gets, Option.map_some, Option.bind_some, add_eq, mul_eq, sub_eq, div_eq, mod_eq, nbeq, nble, asBlk_int, flat_int, cells_int, asBlk_bool, flat_bool, cells_bool, asBlk_ptr, flat_ptr, cells_ptr, asBlk_slice, flat_slice, cells_slice, asBlk_map, flat_map, cells_map, asBlk_blk, flat_blk, cells_blk, cells_agg, flat_agg, asBlk_agg, V.w, width, unc, cmpCells, eqI_eq, eqB_eq, mkI_eq, asNat_int, asNat_zero, asNat_one, undef, List.append_nil, List.nil_append, List.cons_append, nth_zero, nth_succ, resultsV, result, tup, wp_some, Bool.and_true, Bool.true_and, Bool.and_self, decide_true, decide_false, Bool.not_true, Bool.not_false, Bool.true_beq, Bool.false_beq, beq_iff_eq, reduceCtorEq, Nat.succ_eq_add_one, ptr0, Int.ofNat_eq_natCast, Int.ofNat_le, Int.ofNat_lt, Int.natCast_add, store_new, store_new65, load_set65, load_set65', load_set, List.map_cons, List.map_nil, sC_loop, Heap.next_add, Heap.next_set, boxF, buildF, fill, bsliceF, fillRows, List.replicate_one, upd_zero, put_blk, cut_blk, cut_whole, put_hit_int, put_miss_int, cut_hit_int, cut_miss_int, put_hit_bool, put_miss_bool, cut_hit_bool, cut_miss_bool, put_hit_ptr, put_miss_ptr, cut_hit_ptr, cut_miss_ptr, put_hit_slice, put_miss_slice, cut_hit_slice, cut_miss_slice, put_hit_map, put_miss_map, cut_hit_map, cut_miss_map, load_add, appF, List.length_cons, List.length_nil]
      exact ⟨trivial, trivial, trivial, trivial, trivial, trivial, l, M⟩
    | succ r =>
      have hi3 : i < 3 := by omega
      have hi3' : (i : Int) < 3 := by omega
      have hw : IntKind.i64.wrap ((i : Int) + 1) = (i : Int) + 1 := wrap_i64 (by omega)
      obtain ⟨p1, p2, p3⟩ := PB_write x hq i hi3
      have ok := PB_ok x hq i (by omega)
      have ld := cell M
      obtain ⟨v, K1, e1, rfl, l', k1⟩ := bwrite_all M.rep (M.ne (by simp [PB])) (ok.good (by omega)) ok.ar (by have := ok.st; omega) (i : Int) (q : Int) x hlf m
      change callS Try.prog S0 lf (m + 6) 33 _ _ = _ at e1
      have M' := M.next k1
      have ok' := ok.write (i : Int) (q : Int) x
      obtain ⟨v, K2, e2, rfl, l'', k2⟩ := bflush_all M'.rep (M'.ne (by rw [write_len]; simp [PB])) (ok'.good (by omega)) ok'.ar (by have := ok'.st; omega) (i : Int) hlf (m + 1)
      change callS Try.prog S0 lf (m + 6) 32 _ _ = _ at e2
      have M'' := M'.next k2
      rw [p1] at e1
      rw [p2] at e2
      rw [p3] at M''
      simp only [c8_l1, q4, q7, q8, q9, q10, hi3', ld, e1, e2, hw, sC_skip, sC_reg, sC_seq, sC_cond, sC_block, sC_exit, sC_scope, sC_ret, sC_regD, sI_nil, sI_none, sI_guard, guard_t, guard_f, want_b, want_u, sO_p, sO_r, sO_m, sO_a, sO_c, sD_nil, sD_none, sD_guard, guardD_t, guardD_f, sE_p, sE_r, sE_m, sE_a, sE_c, evQ_some, evR_some, evM_some, evA_some, evC_some, callD_some, contD_some, consD_some, setT_some, setT_none, narrow_nil, narrow_cons, narrowC_some, seq_n, seq_ret, seq_ex, block_n, block_ret, block_ex, cond_t, cond_f, afterV_some, afterM_some, afterA_some, afterC_some, callC_some, get_t, get_c, get_setP, Tr.getP_e, argsT_nil, argsT_cons, ↓reduceIte, Nat.reduceEqDiff, Nat.reduceAdd, Nat.reduceSub, Nat.reduceMul, Nat.reduceDiv, Nat.reduceMod, Nat.zero_add, Nat.add_zero, beq_self_eq_true, Nat.zero_ne_one, Nat.one_ne_zero, Nat.reduceLeDiff, Int.reduceBEq, constF, unF, unary,  pickF, nilcF, faddrF, fldF, iaddrSF, arF, arith_lss, arith_leq, arith_gtr, arith_geq, arith_add, arith_sub, convF, extF, lenF, eqcF, eqnF, eqN, eqPtr, isNone, loadF, storeF, allocF, callF, gets, Option.map_some, Option.bind_some, add_eq, mul_eq, sub_eq, div_eq, mod_eq, nbeq, nble, asBlk_int, flat_int, cells_int, asBlk_bool, flat_bool, cells_bool, asBlk_ptr, flat_ptr, cells_ptr, asBlk_slice, flat_slice, cells_slice, asBlk_map, flat_map, cells_map, asBlk_blk, flat_blk, cells_blk, cells_agg, flat_agg, asBlk_agg, V.w, width, unc, cmpCells, eqI_eq, eqB_eq, mkI_eq, asNat_int, asNat_zero, asNat_one, undef, List.append_nil, List.nil_append, List.cons_append, nth_zero, nth_succ, resultsV, result, tup, wp_some, Bool.and_true, Bool.true_and, Bool.and_self, decide_true, decide_false, Bool.not_true, Bool.not_false, Bool.true_beq, Bool.false_beq, beq_iff_eq, reduceCtorEq, Nat.succ_eq_add_one, ptr0, Int.ofNat_eq_natCast, Int.ofNat_le, Int.ofNat_lt, Int.natCast_add, store_new, store_new65, load_set65, load_set65', load_set, List.map_cons, List.map_nil, sC_loop, Heap.next_add, Heap.next_set, boxF, buildF, fill, bsliceF, fillRows, List.replicate_one, upd_zero, put_blk, cut_blk, cut_whole, put_hit_int, put_miss_int, cut_hit_int, cut_miss_int, put_hit_bool, put_miss_bool, cut_hit_bool, cut_miss_bool, put_hit_ptr, put_miss_ptr, cut_hit_ptr, cut_miss_ptr, put_hit_slice, put_miss_slice, cut_hit_slice, cut_miss_slice, put_hit_map, put_miss_map, cut_hit_map, cut_miss_map, load_add, appF, List.length_cons, List.length_nil]
      exact ⟨r, Nat.lt_succ_self r, i + 1, l'', by omega, trivial, trivial, trivial, trivial, trivial, rfl, M''⟩
  have hloop2 : ∀ (t : T) (H2 : Heap) (l2 : List Dv), Mine false HA H2 b ds 1 l2 (IB q x k) → t.getP (Tr.path 4) = some (.ptr (some ⟨.run H.next, 0⟩)) → t.getP (Tr.path 7) = some (.ptr (some ⟨b, 0⟩)) → t.getP (Tr.path 8) = some (.int .i64 (k : Int)) → t.getP (Tr.path 9) = some (.int .i64 (q : Int)) → t.getP (Tr.path 14) = some (.int .i64 0) →
      wp (loopF (runC (callS Try.prog S0 lf (m + 6)) lf c8_l0) lf ⟨t, H2, []⟩) fun y s =>
        y = .ex 2 ∧ s.d = [] ∧ s.t.getP (Tr.path 7) = some (.ptr (some ⟨b, 0⟩)) ∧ s.t.getP (Tr.path 8) = some (.int .i64 (k : Int)) ∧ ∃ l, Mine false HA s.H b ds 1 l (IB q x k) := by
    intro t H2 l2 M2 q4 q7 q8 q9 q14
    have okI : Bok 8 (IB q x k) := ((PB_ok x hq 3 (by omega)).fail _).insert _
    have lenI : 0 < (IB q x k).l.length := by simp [IB, FB, insert_len, fail_len, PB]
    refine wp_loopF (fun r s => ∃ i l, i + r = 3 ∧ s.d = [] ∧ s.t.getP (Tr.path 4) = some (.ptr (some ⟨.run H.next, 0⟩)) ∧ s.t.getP (Tr.path 7) = some (.ptr (some ⟨b, 0⟩)) ∧ s.t.getP (Tr.path 8) = some (.int .i64 (k : Int)) ∧ s.t.getP (Tr.path 9) = some (.int .i64 (q : Int)) ∧ s.t.getP (Tr.path 14) = some (.int .i64 ((i : Nat) : Int)) ∧ Mine false HA s.H b ds 1 l (IB q x k)) ?_ lf 3 _ ⟨0, l2, rfl, rfl, q4, q7, q8, q9, q14, M2⟩ (by omega)
    rintro r ⟨t, HH, d⟩ ⟨i, l, hi, rfl, q4, q7, q8, q9, q14, M⟩
    dsimp only at q4 q7 q8 q9 q14 M
    cases r with
    | zero =>
      have hi : i = 3 := by omega
      subst hi
      have q14 : t.getP (Tr.path 14) = some (.int .i64 3) := q14
      have hg : ¬ ((3 : Int) < 3) := by decide
      simp only [c8_l0, q4, q7, q8, q9, q14, hg, sC_skip, sC_reg, sC_seq, sC_cond, sC_block, sC_exit, sC_scope, sC_ret, sC_regD, sI_nil, sI_none, sI_guard, guard_t, guard_f, want_b, want_u, sO_p, sO_r, sO_m, sO_a, sO_c, sD_nil, sD_none, sD_guard, guardD_t, guardD_f, sE_p, sE_r, sE_m, sE_a, sE_c, evQ_some, evR_some, evM_some, evA_some, evC_some, callD_some, contD_some, consD_some, setT_some, setT_none, narrow_nil, narrow_cons, narrowC_some, seq_n, seq_ret, seq_ex, block_n, block_ret, block_ex, cond_t, cond_f, afterV_some, afterM_some, afterA_some, afterC_some, callC_some, get_t, get_c, get_setP, Tr.getP_e, argsT_nil, argsT_cons, ↓reduceIte, Nat.reduceEqDiff, Nat.reduceAdd, Nat.reduceSub, Nat.reduceMul, Nat.reduceDiv, Nat.reduceMod, Nat.zero_add, Nat.add_zero, beq_self_eq_true, Nat.zero_ne_one, Nat.one_ne_zero, Nat.reduceLeDiff, Int.reduceBEq, constF, unF, unary,  pickF, nilcF, faddrF, fldF, iaddrSF, arF, arith_lss, arith_leq, arith_gtr, arith_geq, arith_add, arith_sub, convF, extF, lenF, eqcF, eqnF, eqN, eqPtr, isNone, loadF, storeF, allocF, callF, gets, Option.map_some, Option.bind_some, add_eq, mul_eq, sub_eq, div_eq, mod_eq, nbeq, nble, asBlk_int, flat_int, cells_int, asBlk_bool, flat_bool, cells_bool, asBlk_ptr, flat_ptr, cells_ptr, asBlk_slice, flat_slice, cells_slice, asBlk_map, flat_map, cells_map, asBlk_blk, flat_blk, cells_blk, cells_agg, flat_agg, asBlk_agg, V.w, width, unc, cmpCells, eqI_eq, eqB_eq, mkI_eq, asNat_int, asNat_zero, asNat_one, undef, List.append_nil, List.nil_append, List.cons_append, nth_zero, nth_succ, resultsV, result, tup, wp_some, Bool.and_true, Bool.true_and, Bool.and_self, decide_true, decide_false, Bool.not_true, Bool.not_false, Bool.true_beq, Bool.false_beq, beq_iff_eq, reduceCtorEq, Nat.succ_eq_add_one, ptr0, Int.ofNat_eq_natCast, Int.ofNat_le, Int.ofNat_lt, Int.natCast_add, store_new, store_new65, load_set65, load_set65', load_set, List.map_cons, List.map_nil, sC_loop, Heap.next_add, Heap.next_set, boxF, buildF, fill, bsliceF, fillRows, List.replicate_one, upd_zero, put_blk, cut_blk, cut_whole, put_hit_int, put_miss_int, cut_hit_int, cut_miss_int, put_hit_bool, put_miss_bool, cut_hit_bool, cut_miss_bool, put_hit_ptr, put_miss_ptr, cut_hit_ptr, cut_miss_ptr, put_hit_slice, put_miss_slice, cut_hit_slice, cut_miss_slice, put_hit_map, put_miss_map, cut_hit_map, cut_miss_map, load_add, appF, List.length_cons, List.length_nil]
      exact ⟨trivial, trivial, trivial, trivial, l, M⟩
    | succ r =>
      have hi3 : i < 3 := by omega
      have hi3' : (i : Int) < 3 := by omega
      have hw : IntKind.i64.wrap ((i : Int) + 1) = (i : Int) + 1 := wrap_i64 (by omega)
      obtain ⟨p1, p2⟩ := IB_read x hq k hk i hi3
      obtain ⟨v, K1, e1, rfl, t1⟩ := bread_all M.rep (M.ne lenI) (okI.good (by omega)) (i : Int) (q : Int) hlf (m + 2)
      change callS Try.prog S0 lf (m + 6) 40 _ _ = _ at e1
      rw [p1, p2] at e1
      have MK := M.turns t1
      by_cases hik : i = k
      · have hik' : ((i : Int) == (k : Int)) = true := by simp [hik]
        rw [if_pos hik] at e1
        have M5 := MK.turns (cell_turns K1 0)
        have ld := cell M5
        have M6 := M5.turns (cell_turns (cellH K1 0) x)
        have st17 : storeAt (cellH (cellH K1 0) x) ⟨.run (cellH K1 0).next, 0⟩ [.blk 0] = _ := cell_store (v := 0) (cell_get (cellH K1 0) x)
        have t7 : Turns Z (cellH K1 0) ((cellH (cellH K1 0) x).set (.run (cellH K1 0).next) (.rows false 64 [[.blk 0]])) := (cell_turns (cellH K1 0) x).setnew (Nat.le_refl _) _
        have M7 := M5.turns t7
        have ld15 : loadAt ((cellH (cellH K1 0) x).set (.run (cellH K1 0).next) (.rows false 64 [[.blk 0]])) ⟨.run K1.next, 0⟩ 64 = some [.blk 0] := load_of ((t7.same _ (cell_old K1 0) id).trans (cell_get K1 0))
        simp only [c8_l0, q4, q7, q8, q9, q14, hi3', e1, hik', cell_fold, ld, st17, ld15, hw, sC_skip, sC_reg, sC_seq, sC_cond, sC_block, sC_exit, sC_scope, sC_ret, sC_regD, sI_nil, sI_none, sI_guard, guard_t, guard_f, want_b, want_u, sO_p, sO_r, sO_m, sO_a, sO_c, sD_nil, sD_none, sD_guard, guardD_t, guardD_f, sE_p, sE_r, sE_m, sE_a, sE_c, evQ_some, evR_some, evM_some, evA_some, evC_some, callD_some, contD_some, consD_some, setT_some, setT_none, narrow_nil, narrow_cons, narrowC_some, seq_n, seq_ret, seq_ex, block_n, block_ret, block_ex, cond_t, cond_f, afterV_some, afterM_some, afterA_some, afterC_some, callC_some, get_t, get_c, get_setP, Tr.getP_e, argsT_nil, argsT_cons, ↓reduceIte, Nat.reduceEqDiff, Nat.reduceAdd, Nat.reduceSub, Nat.reduceMul, Nat.reduceDiv, Nat.reduceMod, Nat.zero_add, Nat.add_zero, beq_self_eq_true, Nat.zero_ne_one, Nat.one_ne_zero, Nat.reduceLeDiff, Int.reduceBEq, constF, unF, unary,  pickF, nilcF, faddrF, fldF, iaddrSF, arF, arith_lss, arith_leq, arith_gtr, arith_geq, arith_add, arith_sub, convF, extF, lenF, eqcF, eqnF, eqN, eqPtr, isNone, loadF, storeF, allocF, callF, gets, Option.map_some, Option.bind_some, add_eq, mul_eq, sub_eq, div_eq, mod_eq, nbeq, nble, asBlk_int, flat_int, cells_int, asBlk_bool, flat_bool, cells_bool, asBlk_ptr, flat_ptr, cells_ptr, asBlk_slice, flat_slice, cells_slice, asBlk_map, flat_map, cells_map, asBlk_blk, flat_blk, cells_blk, cells_agg, flat_agg, asBlk_agg, V.w, width, unc, cmpCells, eqI_eq, eqB_eq, mkI_eq, asNat_int, asNat_zero, asNat_one, undef, List.append_nil, List.nil_append, List.cons_append, nth_zero, nth_succ, resultsV, result, tup, wp_some, Bool.and_true, Bool.true_and, Bool.and_self, decide_true, decide_false, Bool.not_true, Bool.not_false, Bool.true_beq, Bool.false_beq, beq_iff_eq, reduceCtorEq, Nat.succ_eq_add_one, ptr0, Int.ofNat_eq_natCast, Int.ofNat_le, Int.ofNat_lt, Int.natCast_add, store_new, store_new65, load_set65, load_set65', load_set, List.map_cons, List.map_nil, sC_loop, Heap.next_add, Heap.next_set, boxF, buildF, fill, bsliceF, fillRows, List.replicate_one, upd_zero, put_blk, cut_blk, cut_whole, put_hit_int, put_miss_int, cut_hit_int, cut_miss_int, put_hit_bool, put_miss_bool, cut_hit_bool, cut_miss_bool, put_hit_ptr, put_miss_ptr, cut_hit_ptr, cut_miss_ptr, put_hit_slice, put_miss_slice, cut_hit_slice, cut_miss_slice, put_hit_map, put_miss_map, cut_hit_map, cut_miss_map, load_add, appF, List.length_cons, List.length_nil]
        exact ⟨r, Nat.lt_succ_self r, i + 1, l, by omega, trivial, trivial, trivial, trivial, trivial, rfl, M7⟩
      · have hik' : ((i : Int) == (k : Int)) = false := by simp; omega
        rw [if_neg hik] at e1
        have M5 := MK.turns (cell_turns K1 x)
        have ld := cell M5
        have t7 := cell_turns (cellH K1 x) x
        have M7 := M5.turns t7
        have ld15 : loadAt (cellH (cellH K1 x) x) ⟨.run K1.next, 0⟩ 64 = some [.blk x] := load_of ((t7.same _ (cell_old K1 x) id).trans (cell_get K1 x))
        have ld17 : loadAt (cellH (cellH K1 x) x) ⟨.run (cellH K1 x).next, 0⟩ 64 = some [.blk x] := load_of (cell_get (cellH K1 x) x)
        simp only [c8_l0, q4, q7, q8, q9, q14, hi3', e1, hik', cell_fold, ld, ld15, ld17, hw, sC_skip, sC_reg, sC_seq, sC_cond, sC_block, sC_exit, sC_scope, sC_ret, sC_regD, sI_nil, sI_none, sI_guard, guard_t, guard_f, want_b, want_u, sO_p, sO_r, sO_m, sO_a, sO_c, sD_nil, sD_none, sD_guard, guardD_t, guardD_f, sE_p, sE_r, sE_m, sE_a, sE_c, evQ_some, evR_some, evM_some, evA_some, evC_some, callD_some, contD_some, consD_some, setT_some, setT_none, narrow_nil, narrow_cons, narrowC_some, seq_n, seq_ret, seq_ex, block_n, block_ret, block_ex, cond_t, cond_f, afterV_some, afterM_some, afterA_some, afterC_some, callC_some, get_t, get_c, get_setP, Tr.getP_e, argsT_nil, argsT_cons, ↓reduceIte, Nat.reduceEqDiff, Nat.reduceAdd, Nat.reduceSub, Nat.reduceMul, Nat.reduceDiv, Nat.reduceMod, Nat.zero_add, Nat.add_zero, beq_self_eq_true, Nat.zero_ne_one, Nat.one_ne_zero, Nat.reduceLeDiff, Int.reduceBEq, constF, unF, unary,  pickF, nilcF, faddrF, fldF, iaddrSF, arF, arith_lss, arith_leq, arith_gtr, arith_geq, arith_add, arith_sub, convF, extF, lenF, eqcF, eqnF, eqN, eqPtr, isNone, loadF, storeF, allocF, callF, gets, Option.map_some, Option.bind_some, add_eq, mul_eq, sub_eq, div_eq, mod_eq, nbeq, nble, asBlk_int, flat_int, cells_int, asBlk_bool, flat_bool, cells_bool, asBlk_ptr, flat_ptr, cells_ptr, asBlk_slice, flat_slice, cells_slice, asBlk_map, flat_map, cells_map, asBlk_blk, flat_blk, cells_blk, cells_agg, flat_agg, asBlk_agg, V.w, width, unc, cmpCells, eqI_eq, eqB_eq, mkI_eq, asNat_int, asNat_zero, asNat_one, undef, List.append_nil, List.nil_append, List.cons_append, nth_zero, nth_succ, resultsV, result, tup, wp_some, Bool.and_true, Bool.true_and, Bool.and_self, decide_true, decide_false, Bool.not_true, Bool.not_false, Bool.true_beq, Bool.false_beq, beq_iff_eq, reduceCtorEq, Nat.succ_eq_add_one, ptr0, Int.ofNat_eq_natCast, Int.ofNat_le, Int.ofNat_lt, Int.natCast_add, store_new, store_new65, load_set65, load_set65', load_set, List.map_cons, List.map_nil, sC_loop, Heap.next_add, Heap.next_set, boxF, buildF, fill, bsliceF, fillRows, List.replicate_one, upd_zero, put_blk, cut_blk, cut_whole, put_hit_int, put_miss_int, cut_hit_int, cut_miss_int, put_hit_bool, put_miss_bool, cut_hit_bool, cut_miss_bool, put_hit_ptr, put_miss_ptr, cut_hit_ptr, cut_miss_ptr, put_hit_slice, put_miss_slice, cut_hit_slice, cut_miss_slice, put_hit_map, put_miss_map, cut_hit_map, cut_miss_map, load_add, appF, List.length_cons, List.length_nil]
        exact ⟨r, Nat.lt_succ_self r, i + 1, l, by omega, trivial, trivial, trivial, trivial, trivial, rfl, M7⟩
  have hH : HA = H.add (.rows false 64 [[.blk x]]) := hHA.symm
  refine ret_call rfl c8_eq ?_
  simp only [c8, sC_skip, sC_reg, sC_seq, sC_cond, sC_block, sC_exit, sC_scope, sC_ret, sC_regD, sI_nil, sI_none, sI_guard, guard_t, guard_f, want_b, want_u, sO_p, sO_r, sO_m, sO_a, sO_c, sD_nil, sD_none, sD_guard, guardD_t, guardD_f, sE_p, sE_r, sE_m, sE_a, sE_c, evQ_some, evR_some, evM_some, evA_some, evC_some, callD_some, contD_some, consD_some, setT_some, setT_none, narrow_nil, narrow_cons, narrowC_some, seq_n, seq_ret, seq_ex, block_n, block_ret, block_ex, cond_t, cond_f, afterV_some, afterM_some, afterA_some, afterC_some, callC_some, get_t, get_c, get_setP, Tr.getP_e, argsT_nil, argsT_cons, ↓reduceIte, Nat.reduceEqDiff, Nat.reduceAdd, Nat.reduceSub, Nat.reduceMul, Nat.reduceDiv, Nat.reduceMod, Nat.zero_add, Nat.add_zero, beq_self_eq_true, Nat.zero_ne_one, Nat.one_ne_zero, Nat.reduceLeDiff, Int.reduceBEq, constF, unF, unary,  pickF, nilcF, faddrF, fldF, iaddrSF, arF, arith_lss, arith_leq, arith_gtr, arith_geq, arith_add, arith_sub, convF, extF, lenF, eqcF, eqnF, eqN, eqPtr, isNone, loadF, storeF, allocF, callF, gets, Option.map_some, Option.bind_some, add_eq, mul_eq, sub_eq, div_eq, mod_eq, nbeq, nble, asBlk_int, flat_int, cells_int, asBlk_bool, flat_bool, cells_bool, asBlk_ptr, flat_ptr, cells_ptr, asBlk_slice, flat_slice, cells_slice, asBlk_map, flat_map, cells_map, asBlk_blk, flat_blk, cells_blk, cells_agg, flat_agg, asBlk_agg, V.w, width, unc, cmpCells, eqI_eq, eqB_eq, mkI_eq, asNat_int, asNat_zero, asNat_one, undef, List.append_nil, List.nil_append, List.cons_append, nth_zero, nth_succ, resultsV, result, tup, wp_some, Bool.and_true, Bool.true_and, Bool.and_self, decide_true, decide_false, Bool.not_true, Bool.not_false, Bool.true_beq, Bool.false_beq, beq_iff_eq, reduceCtorEq, Nat.succ_eq_add_one, ptr0, Int.ofNat_eq_natCast, Int.ofNat_le, Int.ofNat_lt, Int.natCast_add, store_new, store_new65, load_set65, load_set65', load_set, List.map_cons, List.map_nil, sC_loop, Heap.next_add, Heap.next_set, boxF, buildF, fill, bsliceF, fillRows, List.replicate_one, upd_zero, put_blk, cut_blk, cut_whole, put_hit_int, put_miss_int, cut_hit_int, cut_miss_int, put_hit_bool, put_miss_bool, cut_hit_bool, cut_miss_bool, put_hit_ptr, put_miss_ptr, cut_hit_ptr, cut_miss_ptr, put_hit_slice, put_miss_slice, cut_hit_slice, cut_miss_slice, put_hit_map, put_miss_map, cut_hit_map, cut_miss_map, load_add, appF, List.length_cons, List.length_nil]
  rw [hHA]
  simp only [es, hr3, hr8, wk, wq, sC_skip, sC_reg, sC_seq, sC_cond, sC_block, sC_exit, sC_scope, sC_ret, sC_regD, sI_nil, sI_none, sI_guard, guard_t, guard_f, want_b, want_u, sO_p, sO_r, sO_m, sO_a, sO_c, sD_nil, sD_none, sD_guard, guardD_t, guardD_f, sE_p, sE_r, sE_m, sE_a, sE_c, evQ_some, evR_some, evM_some, evA_some, evC_some, callD_some, contD_some, consD_some, setT_some, setT_none, narrow_nil, narrow_cons, narrowC_some, seq_n, seq_ret, seq_ex, block_n, block_ret, block_ex, cond_t, cond_f, afterV_some, afterM_some, afterA_some, afterC_some, callC_some, get_t, get_c, get_setP, Tr.getP_e, argsT_nil, argsT_cons, ↓reduceIte, Nat.reduceEqDiff, Nat.reduceAdd, Nat.reduceSub, Nat.reduceMul, Nat.reduceDiv, Nat.reduceMod, Nat.zero_add, Nat.add_zero, beq_self_eq_true, Nat.zero_ne_one, Nat.one_ne_zero, Nat.reduceLeDiff, Int.reduceBEq, constF, unF, unary,  pickF, nilcF, faddrF, fldF, iaddrSF, arF, arith_lss, arith_leq, arith_gtr, arith_geq, arith_add, arith_sub, convF, extF, lenF, eqcF, eqnF, eqN, eqPtr, isNone, loadF, storeF, allocF, callF, gets, Option.map_some, Option.bind_some, add_eq, mul_eq, sub_eq, div_eq, mod_eq, nbeq, nble, asBlk_int, flat_int, cells_int, asBlk_bool, flat_bool, cells_bool, asBlk_ptr, flat_ptr, cells_ptr, asBlk_slice, flat_slice, cells_slice, asBlk_map, flat_map, cells_map, asBlk_blk, flat_blk, cells_blk, cells_agg, flat_agg, asBlk_agg, V.w, width, unc, cmpCells, eqI_eq, eqB_eq, mkI_eq, asNat_int, asNat_zero, asNat_one, undef, List.append_nil, List.nil_append, List.cons_append, nth_zero, nth_succ, resultsV, result, tup, wp_some, Bool.and_true, Bool.true_and, Bool.and_self, decide_true, decide_false, Bool.not_true, Bool.not_false, Bool.true_beq, Bool.false_beq, beq_iff_eq, reduceCtorEq, Nat.succ_eq_add_one, ptr0, Int.ofNat_eq_natCast, Int.ofNat_le, Int.ofNat_lt, Int.natCast_add, store_new, store_new65, load_set65, load_set65', load_set, List.map_cons, List.map_nil, sC_loop, Heap.next_add, Heap.next_set, boxF, buildF, fill, bsliceF, fillRows, List.replicate_one, upd_zero, put_blk, cut_blk, cut_whole, put_hit_int, put_miss_int, cut_hit_int, cut_miss_int, put_hit_bool, put_miss_bool, cut_hit_bool, cut_miss_bool, put_hit_ptr, put_miss_ptr, cut_hit_ptr, cut_miss_ptr, put_hit_slice, put_miss_slice, cut_hit_slice, cut_miss_slice, put_hit_map, put_miss_map, cut_hit_map, cut_miss_map, load_add, appF, List.length_cons, List.length_nil]
  refine wp_ctx (F := fun r => seqC _ _ _ (blockC _ r)) (hloop _ ?_ ?_ ?_ ?_ ?_) ?_
  · simp only [sC_skip, sC_reg, sC_seq, sC_cond, sC_block, sC_exit, sC_scope, sC_ret, sC_regD, sI_nil, sI_none, sI_guard, guard_t, guard_f, want_b, want_u, sO_p, sO_r, sO_m, sO_a, sO_c, sD_nil, sD_none, sD_guard, guardD_t, guardD_f, sE_p, sE_r, sE_m, sE_a, sE_c, evQ_some, evR_some, evM_some, evA_some, evC_some, callD_some, contD_some, consD_some, setT_some, setT_none, narrow_nil, narrow_cons, narrowC_some, seq_n, seq_ret, seq_ex, block_n, block_ret, block_ex, cond_t, cond_f, afterV_some, afterM_some, afterA_some, afterC_some, callC_some, get_t, get_c, get_setP, Tr.getP_e, argsT_nil, argsT_cons, ↓reduceIte, Nat.reduceEqDiff, Nat.reduceAdd, Nat.reduceSub, Nat.reduceMul, Nat.reduceDiv, Nat.reduceMod, Nat.zero_add, Nat.add_zero, beq_self_eq_true, Nat.zero_ne_one, Nat.one_ne_zero, Nat.reduceLeDiff, Int.reduceBEq, constF, unF, unary,  pickF, nilcF, faddrF, fldF, iaddrSF, arF, arith_lss, arith_leq, arith_gtr, arith_geq, arith_add, arith_sub, convF, extF, lenF, eqcF, eqnF, eqN, eqPtr, isNone, loadF, storeF, allocF, callF, gets, Option.map_some, Option.bind_some, add_eq, mul_eq, sub_eq, div_eq, mod_eq, nbeq, nble, asBlk_int, flat_int, cells_int, asBlk_bool, flat_bool, cells_bool, asBlk_ptr, flat_ptr, cells_ptr, asBlk_slice, flat_slice, cells_slice, asBlk_map, flat_map, cells_map, asBlk_blk, flat_blk, cells_blk, cells_agg, flat_agg, asBlk_agg, V.w, width, unc, cmpCells, eqI_eq, eqB_eq, mkI_eq, asNat_int, asNat_zero, asNat_one, undef, List.append_nil, List.nil_append, List.cons_append, nth_zero, nth_succ, resultsV, result, tup, wp_some, Bool.and_true, Bool.true_and, Bool.and_self, decide_true, decide_false, Bool.not_true, Bool.not_false, Bool.true_beq, Bool.false_beq, beq_iff_eq, reduceCtorEq, Nat.succ_eq_add_one, ptr0, Int.ofNat_eq_natCast, Int.ofNat_le, Int.ofNat_lt, Int.natCast_add, store_new, store_new65, load_set65, load_set65', load_set, List.map_cons, List.map_nil, sC_loop, Heap.next_add, Heap.next_set, boxF, buildF, fill, bsliceF, fillRows, List.replicate_one, upd_zero, put_blk, cut_blk, cut_whole, put_hit_int, put_miss_int, cut_hit_int, cut_miss_int, put_hit_bool, put_miss_bool, cut_hit_bool, cut_miss_bool, put_hit_ptr, put_miss_ptr, cut_hit_ptr, cut_miss_ptr, put_hit_slice, put_miss_slice, cut_hit_slice, cut_miss_slice, put_hit_map, put_miss_map, cut_hit_map, cut_miss_map, load_add, appF, List.length_cons, List.length_nil]
  · simp only [sC_skip, sC_reg, sC_seq, sC_cond, sC_block, sC_exit, sC_scope, sC_ret, sC_regD, sI_nil, sI_none, sI_guard, guard_t, guard_f, want_b, want_u, sO_p, sO_r, sO_m, sO_a, sO_c, sD_nil, sD_none, sD_guard, guardD_t, guardD_f, sE_p, sE_r, sE_m, sE_a, sE_c, evQ_some, evR_some, evM_some, evA_some, evC_some, callD_some, contD_some, consD_some, setT_some, setT_none, narrow_nil, narrow_cons, narrowC_some, seq_n, seq_ret, seq_ex, block_n, block_ret, block_ex, cond_t, cond_f, afterV_some, afterM_some, afterA_some, afterC_some, callC_some, get_t, get_c, get_setP, Tr.getP_e, argsT_nil, argsT_cons, ↓reduceIte, Nat.reduceEqDiff, Nat.reduceAdd, Nat.reduceSub, Nat.reduceMul, Nat.reduceDiv, Nat.reduceMod, Nat.zero_add, Nat.add_zero, beq_self_eq_true, Nat.zero_ne_one, Nat.one_ne_zero, Nat.reduceLeDiff, Int.reduceBEq, constF, unF, unary,  pickF, nilcF, faddrF, fldF, iaddrSF, arF, arith_lss, arith_leq, arith_gtr, arith_geq, arith_add, arith_sub, convF, extF, lenF, eqcF, eqnF, eqN, eqPtr, isNone, loadF, storeF, allocF, callF, gets, Option.map_some, Option.bind_some, add_eq, mul_eq, sub_eq, div_eq, mod_eq, nbeq, nble, asBlk_int, flat_int, cells_int, asBlk_bool, flat_bool, cells_bool, asBlk_ptr, flat_ptr, cells_ptr, asBlk_slice, flat_slice, cells_slice, asBlk_map, flat_map, cells_map, asBlk_blk, flat_blk, cells_blk, cells_agg, flat_agg, asBlk_agg, V.w, width, unc, cmpCells, eqI_eq, eqB_eq, mkI_eq, asNat_int, asNat_zero, asNat_one, undef, List.append_nil, List.nil_append, List.cons_append, nth_zero, nth_succ, resultsV, result, tup, wp_some, Bool.and_true, Bool.true_and, Bool.and_self, decide_true, decide_false, Bool.not_true, Bool.not_false, Bool.true_beq, Bool.false_beq, beq_iff_eq, reduceCtorEq, Nat.succ_eq_add_one, ptr0, Int.ofNat_eq_natCast, Int.ofNat_le, Int.ofNat_lt, Int.natCast_add, store_new, store_new65, load_set65, load_set65', load_set, List.map_cons, List.map_nil, sC_loop, Heap.next_add, Heap.next_set, boxF, buildF, fill, bsliceF, fillRows, List.replicate_one, upd_zero, put_blk, cut_blk, cut_whole, put_hit_int, put_miss_int, cut_hit_int, cut_miss_int, put_hit_bool, put_miss_bool, cut_hit_bool, cut_miss_bool, put_hit_ptr, put_miss_ptr, cut_hit_ptr, cut_miss_ptr, put_hit_slice, put_miss_slice, cut_hit_slice, cut_miss_slice, put_hit_map, put_miss_map, cut_hit_map, cut_miss_map, load_add, appF, List.length_cons, List.length_nil]
  · simp only [sC_skip, sC_reg, sC_seq, sC_cond, sC_block, sC_exit, sC_scope, sC_ret, sC_regD, sI_nil, sI_none, sI_guard, guard_t, guard_f, want_b, want_u, sO_p, sO_r, sO_m, sO_a, sO_c, sD_nil, sD_none, sD_guard, guardD_t, guardD_f, sE_p, sE_r, sE_m, sE_a, sE_c, evQ_some, evR_some, evM_some, evA_some, evC_some, callD_some, contD_some, consD_some, setT_some, setT_none, narrow_nil, narrow_cons, narrowC_some, seq_n, seq_ret, seq_ex, block_n, block_ret, block_ex, cond_t, cond_f, afterV_some, afterM_some, afterA_some, afterC_some, callC_some, get_t, get_c, get_setP, Tr.getP_e, argsT_nil, argsT_cons, ↓reduceIte, Nat.reduceEqDiff, Nat.reduceAdd, Nat.reduceSub, Nat.reduceMul, Nat.reduceDiv, Nat.reduceMod, Nat.zero_add, Nat.add_zero, beq_self_eq_true, Nat.zero_ne_one, Nat.one_ne_zero, Nat.reduceLeDiff, Int.reduceBEq, constF, unF, unary,  pickF, nilcF, faddrF, fldF, iaddrSF, arF, arith_lss, arith_leq, arith_gtr, arith_geq, arith_add, arith_sub, convF, extF, lenF, eqcF, eqnF, eqN, eqPtr, isNone, loadF, storeF, allocF, callF, gets, Option.map_some, Option.bind_some, add_eq, mul_eq, sub_eq, div_eq, mod_eq, nbeq, nble, asBlk_int, flat_int, cells_int, asBlk_bool, flat_bool, cells_bool, asBlk_ptr, flat_ptr, cells_ptr, asBlk_slice, flat_slice, cells_slice, asBlk_map, flat_map, cells_map, asBlk_blk, flat_blk, cells_blk, cells_agg, flat_agg, asBlk_agg, V.w, width, unc, cmpCells, eqI_eq, eqB_eq, mkI_eq, asNat_int, asNat_zero, asNat_one, undef, List.append_nil, List.nil_append, List.cons_append, nth_zero, nth_succ, resultsV, result, tup, wp_some, Bool.and_true, Bool.true_and, Bool.and_self, decide_true, decide_false, Bool.not_true, Bool.not_false, Bool.true_beq, Bool.false_beq, beq_iff_eq, reduceCtorEq, Nat.succ_eq_add_one, ptr0, Int.ofNat_eq_natCast, Int.ofNat_le, Int.ofNat_lt, Int.natCast_add, store_new, store_new65, load_set65, load_set65', load_set, List.map_cons, List.map_nil, sC_loop, Heap.next_add, Heap.next_set, boxF, buildF, fill, bsliceF, fillRows, List.replicate_one, upd_zero, put_blk, cut_blk, cut_whole, put_hit_int, put_miss_int, cut_hit_int, cut_miss_int, put_hit_bool, put_miss_bool, cut_hit_bool, cut_miss_bool, put_hit_ptr, put_miss_ptr, cut_hit_ptr, cut_miss_ptr, put_hit_slice, put_miss_slice, cut_hit_slice, cut_miss_slice, put_hit_map, put_miss_map, cut_hit_map, cut_miss_map, load_add, appF, List.length_cons, List.length_nil]
  · simp only [sC_skip, sC_reg, sC_seq, sC_cond, sC_block, sC_exit, sC_scope, sC_ret, sC_regD, sI_nil, sI_none, sI_guard, guard_t, guard_f, want_b, want_u, sO_p, sO_r, sO_m, sO_a, sO_c, sD_nil, sD_none, sD_guard, guardD_t, guardD_f, sE_p, sE_r, sE_m, sE_a, sE_c, evQ_some, evR_some, evM_some, evA_some, evC_some, callD_some, contD_some, consD_some, setT_some, setT_none, narrow_nil, narrow_cons, narrowC_some, seq_n, seq_ret, seq_ex, block_n, block_ret, block_ex, cond_t, cond_f, afterV_some, afterM_some, afterA_some, afterC_some, callC_some, get_t, get_c, get_setP, Tr.getP_e, argsT_nil, argsT_cons, ↓reduceIte, Nat.reduceEqDiff, Nat.reduceAdd, Nat.reduceSub, Nat.reduceMul, Nat.reduceDiv, Nat.reduceMod, Nat.zero_add, Nat.add_zero, beq_self_eq_true, Nat.zero_ne_one, Nat.one_ne_zero, Nat.reduceLeDiff, Int.reduceBEq, constF, unF, unary,  pickF, nilcF, faddrF, fldF, iaddrSF, arF, arith_lss, arith_leq, arith_gtr, arith_geq, arith_add, arith_sub, convF, extF, lenF, eqcF, eqnF, eqN, eqPtr, isNone, loadF, storeF, allocF, callF, gets, Option.map_some, Option.bind_some, add_eq, mul_eq, sub_eq, div_eq, mod_eq, nbeq, nble, asBlk_int, flat_int, cells_int, asBlk_bool, flat_bool, cells_bool, asBlk_ptr, flat_ptr, cells_ptr, asBlk_slice, flat_slice, cells_slice, asBlk_map, flat_map, cells_map, asBlk_blk, flat_blk, cells_blk, cells_agg, flat_agg, asBlk_agg, V.w, width, unc, cmpCells, eqI_eq, eqB_eq, mkI_eq, asNat_int, asNat_zero, asNat_one, undef, List.append_nil, List.nil_append, List.cons_append, nth_zero, nth_succ, resultsV, result, tup, wp_some, Bool.and_true, Bool.true_and, Bool.and_self, decide_true, decide_false, Bool.not_true, Bool.not_false, Bool.true_beq, Bool.false_beq, beq_iff_eq, reduceCtorEq, Nat.succ_eq_add_one, ptr0, Int.ofNat_eq_natCast, Int.ofNat_le, Int.ofNat_lt, Int.natCast_add, store_new, store_new65, load_set65, load_set65', load_set, List.map_cons, List.map_nil, sC_loop, Heap.next_add, Heap.next_set, boxF, buildF, fill, bsliceF, fillRows, List.replicate_one, upd_zero, put_blk, cut_blk, cut_whole, put_hit_int, put_miss_int, cut_hit_int, cut_miss_int, put_hit_bool, put_miss_bool, cut_hit_bool, cut_miss_bool, put_hit_ptr, put_miss_ptr, cut_hit_ptr, cut_miss_ptr, put_hit_slice, put_miss_slice, cut_hit_slice, cut_miss_slice, put_hit_map, put_miss_map, cut_hit_map, cut_miss_map, load_add, appF, List.length_cons, List.length_nil]
  · simp only [sC_skip, sC_reg, sC_seq, sC_cond, sC_block, sC_exit, sC_scope, sC_ret, sC_regD, sI_nil, sI_none, sI_guard, guard_t, guard_f, want_b, want_u, sO_p, sO_r, sO_m, sO_a, sO_c, sD_nil, sD_none, sD_guard, guardD_t, guardD_f, sE_p, sE_r, sE_m, sE_a, sE_c, evQ_some, evR_some, evM_some, evA_some, evC_some, callD_some, contD_some, consD_some, setT_some, setT_none, narrow_nil, narrow_cons, narrowC_some, seq_n, seq_ret, seq_ex, block_n, block_ret, block_ex, cond_t, cond_f, afterV_some, afterM_some, afterA_some, afterC_some, callC_some, get_t, get_c, get_setP, Tr.getP_e, argsT_nil, argsT_cons, ↓reduceIte, Nat.reduceEqDiff, Nat.reduceAdd, Nat.reduceSub, Nat.reduceMul, Nat.reduceDiv, Nat.reduceMod, Nat.zero_add, Nat.add_zero, beq_self_eq_true, Nat.zero_ne_one, Nat.one_ne_zero, Nat.reduceLeDiff, Int.reduceBEq, constF, unF, unary,  pickF, nilcF, faddrF, fldF, iaddrSF, arF, arith_lss, arith_leq, arith_gtr, arith_geq, arith_add, arith_sub, convF, extF, lenF, eqcF, eqnF, eqN, eqPtr, isNone, loadF, storeF, allocF, callF, gets, Option.map_some, Option.bind_some, add_eq, mul_eq, sub_eq, div_eq, mod_eq, nbeq, nble, asBlk_int, flat_int, cells_int, asBlk_bool, flat_bool, cells_bool, asBlk_ptr, flat_ptr, cells_ptr, asBlk_slice, flat_slice, cells_slice, asBlk_map, flat_map, cells_map, asBlk_blk, flat_blk, cells_blk, cells_agg, flat_agg, asBlk_agg, V.w, width, unc, cmpCells, eqI_eq, eqB_eq, mkI_eq, asNat_int, asNat_zero, asNat_one, undef, List.append_nil, List.nil_append, List.cons_append, nth_zero, nth_succ, resultsV, result, tup, wp_some, Bool.and_true, Bool.true_and, Bool.and_self, decide_true, decide_false, Bool.not_true, Bool.not_false, Bool.true_beq, Bool.false_beq, beq_iff_eq, reduceCtorEq, Nat.succ_eq_add_one, ptr0, Int.ofNat_eq_natCast, Int.ofNat_le, Int.ofNat_lt, Int.natCast_add, store_new, store_new65, load_set65, load_set65', load_set, List.map_cons, List.map_nil, sC_loop, Heap.next_add, Heap.next_set, boxF, buildF, fill, bsliceF, fillRows, List.replicate_one, upd_zero, put_blk, cut_blk, cut_whole, put_hit_int, put_miss_int, cut_hit_int, cut_miss_int, put_hit_bool, put_miss_bool, cut_hit_bool, cut_miss_bool, put_hit_ptr, put_miss_ptr, cut_hit_ptr, cut_miss_ptr, put_hit_slice, put_miss_slice, cut_hit_slice, cut_miss_slice, put_hit_map, put_miss_map, cut_hit_map, cut_miss_map, load_add, appF, List.length_cons, List.length_nil]
  rintro y ⟨t, H3, d⟩ ⟨rfl, rfl, q4, q7, q8, q9, l3, M3⟩
  dsimp only at q4 q7 q8 q9 M3
  obtain ⟨f1, f2, f3, f4, f5, f6, f7, f8, f9, f10, f11⟩ := FB_all x hq k hk
  have ok3 := PB_ok x hq 3 (by omega)
  have len3 : 0 < (PB q x 3).l.length := by simp [PB]
  have okF : Bok 7 (FB q x k) := ok3.fail _
  have lenF' : 0 < (FB q x k).l.length := by simp [FB, fail_len, PB]
  have okI : Bok 8 (IB q x k) := okF.insert _
  have lenI : 0 < (IB q x k).l.length := by unfold IB; rw [insert_len]; exact lenF'
  obtain ⟨v, H4, e38, rfl, l4, k4⟩ := bfail_all M3.rep (M3.ne len3) (ok3.good (by omega)) (k : Int) lf (m + 3)
  change callS Try.prog S0 lf (m + 6) 38 _ _ = _ at e38
  rw [f1] at e38
  have M4 : Mine false HA H4 b ds 1 l4 (FB q x k) := M3.next k4
  have gF := okF.good (by omega)
  have e39 := bdead_all M4.rep (M4.ne lenF') gF (k : Int) lf (m + 3)
  change callS Try.prog S0 lf (m + 6) 39 _ _ = _ at e39
  rw [f2] at e39
  obtain ⟨v, H5, e40, rfl, t5⟩ := bread_all M4.rep (M4.ne lenF') gF (k : Int) (q : Int) hlf (m + 2)
  change callS Try.prog S0 lf (m + 6) 40 _ _ = _ at e40
  rw [f3] at e40
  generalize (FB q x k).read (k : Int) (q : Int) = y at e40
  have M6 := (M4.turns t5).turns (cell_turns H5 y)
  generalize hH6 : cellH H5 y = H6 at M6
  have e35 : callS Try.prog S0 lf (m + 6) 35 [.ptr (some ⟨b, 0⟩)] H6 = _ := bsteps M6.rep.at' (M6.ne lenF') lf (m + 4)
  have ld6 := cell M6
  obtain ⟨v, H7, e33, rfl, l7, k7⟩ := bwrite_all M6.rep (M6.ne lenF') gF okF.ar (by have := okF.st; omega) (k : Int) (q : Int) x hlf m
  change callS Try.prog S0 lf (m + 6) 33 _ _ = _ at e33
  have M7 := M6.next k7
  rw [f4] at e33
  rw [f5] at M7
  obtain ⟨v, H8, e32, rfl, l8, k8⟩ := bflush_all M7.rep (M7.ne lenF') gF okF.ar (by have := okF.st; omega) (k : Int) hlf (m + 1)
  change callS Try.prog S0 lf (m + 6) 32 _ _ = _ at e32
  have M8 := M7.next k8
  rw [f6] at e32
  rw [f7] at M8
  have e35' : callS Try.prog S0 lf (m + 6) 35 [.ptr (some ⟨b, 0⟩)] H8 = _ := bsteps M8.rep.at' (M8.ne lenF') lf (m + 4)
  obtain ⟨v, H9, e37, rfl, l9, k9⟩ := binsert_all M8.rep (M8.ne lenF') gF (k : Int) lf (m + 2)
  change callS Try.prog S0 lf (m + 6) 37 _ _ = _ at e37
  rw [f8] at e37
  have M9 : Mine false HA H9 b ds 1 l9 (IB q x k) := M8.next k9
  have gI := okI.good (by omega)
  have e39' := bdead_all M9.rep (M9.ne lenI) gI (k : Int) lf (m + 3)
  change callS Try.prog S0 lf (m + 6) 39 _ _ = _ at e39'
  rw [f9] at e39'
  have e41 := bsectors_all M9.rep (M9.ne lenI) gI (k : Int) lf (m + 3)
  change callS Try.prog S0 lf (m + 6) 41 _ _ = _ at e41
  rw [f10] at e41
  generalize (FB q x k).st = sF at e35 e35'
  simp only [q4, q7, q8, q9, e38, e39, e40, cell_fold, sC_skip, sC_reg, sC_seq, sC_cond, sC_block, sC_exit, sC_scope, sC_ret, sC_regD, sI_nil, sI_none, sI_guard, guard_t, guard_f, want_b, want_u, sO_p, sO_r, sO_m, sO_a, sO_c, sD_nil, sD_none, sD_guard, guardD_t, guardD_f, sE_p, sE_r, sE_m, sE_a, sE_c, evQ_some, evR_some, evM_some, evA_some, evC_some, callD_some, contD_some, consD_some, setT_some, setT_none, narrow_nil, narrow_cons, narrowC_some, seq_n, seq_ret, seq_ex, block_n, block_ret, block_ex, cond_t, cond_f, afterV_some, afterM_some, afterA_some, afterC_some, callC_some, get_t, get_c, get_setP, Tr.getP_e, argsT_nil, argsT_cons, ↓reduceIte, Nat.reduceEqDiff, Nat.reduceAdd, Nat.reduceSub, Nat.reduceMul, Nat.reduceDiv, Nat.reduceMod, Nat.zero_add, Nat.add_zero, beq_self_eq_true, Nat.zero_ne_one, Nat.one_ne_zero, Nat.reduceLeDiff, Int.reduceBEq, constF, unF, unary,  pickF, nilcF, faddrF, fldF, iaddrSF, arF, arith_lss, arith_leq, arith_gtr, arith_geq, arith_add, arith_sub, convF, extF, lenF, eqcF, eqnF, eqN, eqPtr, isNone, loadF, storeF, allocF, callF, gets, Option.map_some, Option.bind_some, add_eq, mul_eq, sub_eq, div_eq, mod_eq, nbeq, nble, asBlk_int, flat_int, cells_int, asBlk_bool, flat_bool, cells_bool, asBlk_ptr, flat_ptr, cells_ptr, asBlk_slice, flat_slice, cells_slice, asBlk_map, flat_map, cells_map, asBlk_blk, flat_blk, cells_blk, cells_agg, flat_agg, asBlk_agg, V.w, width, unc, cmpCells, eqI_eq, eqB_eq, mkI_eq, asNat_int, asNat_zero, asNat_one, undef, List.append_nil, List.nil_append, List.cons_append, nth_zero, nth_succ, resultsV, result, tup, wp_some, Bool.and_true, Bool.true_and, Bool.and_self, decide_true, decide_false, Bool.not_true, Bool.not_false, Bool.true_beq, Bool.false_beq, beq_iff_eq, reduceCtorEq, Nat.succ_eq_add_one, ptr0, Int.ofNat_eq_natCast, Int.ofNat_le, Int.ofNat_lt, Int.natCast_add, store_new, store_new65, load_set65, load_set65', load_set, List.map_cons, List.map_nil, sC_loop, Heap.next_add, Heap.next_set, boxF, buildF, fill, bsliceF, fillRows, List.replicate_one, upd_zero, put_blk, cut_blk, cut_whole, put_hit_int, put_miss_int, cut_hit_int, cut_miss_int, put_hit_bool, put_miss_bool, cut_hit_bool, cut_miss_bool, put_hit_ptr, put_miss_ptr, cut_hit_ptr, cut_miss_ptr, put_hit_slice, put_miss_slice, cut_hit_slice, cut_miss_slice, put_hit_map, put_miss_map, cut_hit_map, cut_miss_map, load_add, appF, List.length_cons, List.length_nil]
  rw [hH6]
  simp only [q4, q7, q8, q9, e35, ld6, e33, e32, e35', e37, e39', e41, sC_skip, sC_reg, sC_seq, sC_cond, sC_block, sC_exit, sC_scope, sC_ret, sC_regD, sI_nil, sI_none, sI_guard, guard_t, guard_f, want_b, want_u, sO_p, sO_r, sO_m, sO_a, sO_c, sD_nil, sD_none, sD_guard, guardD_t, guardD_f, sE_p, sE_r, sE_m, sE_a, sE_c, evQ_some, evR_some, evM_some, evA_some, evC_some, callD_some, contD_some, consD_some, setT_some, setT_none, narrow_nil, narrow_cons, narrowC_some, seq_n, seq_ret, seq_ex, block_n, block_ret, block_ex, cond_t, cond_f, afterV_some, afterM_some, afterA_some, afterC_some, callC_some, get_t, get_c, get_setP, Tr.getP_e, argsT_nil, argsT_cons, ↓reduceIte, Nat.reduceEqDiff, Nat.reduceAdd, Nat.reduceSub, Nat.reduceMul, Nat.reduceDiv, Nat.reduceMod, Nat.zero_add, Nat.add_zero, beq_self_eq_true, Nat.zero_ne_one, Nat.one_ne_zero, Nat.reduceLeDiff, Int.reduceBEq, constF, unF, unary,  pickF, nilcF, faddrF, fldF, iaddrSF, arF, arith_lss, arith_leq, arith_gtr, arith_geq, arith_add, arith_sub, convF, extF, lenF, eqcF, eqnF, eqN, eqPtr, isNone, loadF, storeF, allocF, callF, gets, Option.map_some, Option.bind_some, add_eq, mul_eq, sub_eq, div_eq, mod_eq, nbeq, nble, asBlk_int, flat_int, cells_int, asBlk_bool, flat_bool, cells_bool, asBlk_ptr, flat_ptr, cells_ptr, asBlk_slice, flat_slice, cells_slice, asBlk_map, flat_map, cells_map, asBlk_blk, flat_blk, cells_blk, cells_agg, flat_agg, asBlk_agg, V.w, width, unc, cmpCells, eqI_eq, eqB_eq, mkI_eq, asNat_int, asNat_zero, asNat_one, undef, List.append_nil, List.nil_append, List.cons_append, nth_zero, nth_succ, resultsV, result, tup, wp_some, Bool.and_true, Bool.true_and, Bool.and_self, decide_true, decide_false, Bool.not_true, Bool.not_false, Bool.true_beq, Bool.false_beq, beq_iff_eq, reduceCtorEq, Nat.succ_eq_add_one, ptr0, Int.ofNat_eq_natCast, Int.ofNat_le, Int.ofNat_lt, Int.natCast_add, store_new, store_new65, load_set65, load_set65', load_set, List.map_cons, List.map_nil, sC_loop, Heap.next_add, Heap.next_set, boxF, buildF, fill, bsliceF, fillRows, List.replicate_one, upd_zero, put_blk, cut_blk, cut_whole, put_hit_int, put_miss_int, cut_hit_int, cut_miss_int, put_hit_bool, put_miss_bool, cut_hit_bool, cut_miss_bool, put_hit_ptr, put_miss_ptr, cut_hit_ptr, cut_miss_ptr, put_hit_slice, put_miss_slice, cut_hit_slice, cut_miss_slice, put_hit_map, put_miss_map, cut_hit_map, cut_miss_map, load_add, appF, List.length_cons, List.length_nil]
  refine wp_ctx (F := fun r => seqC _ _ _ (blockC _ r)) (hloop2 _ H9 l9 M9 ?_ ?_ ?_ ?_ ?_) ?_
  · simp only [q4, q7, q8, q9, sC_skip, sC_reg, sC_seq, sC_cond, sC_block, sC_exit, sC_scope, sC_ret, sC_regD, sI_nil, sI_none, sI_guard, guard_t, guard_f, want_b, want_u, sO_p, sO_r, sO_m, sO_a, sO_c, sD_nil, sD_none, sD_guard, guardD_t, guardD_f, sE_p, sE_r, sE_m, sE_a, sE_c, evQ_some, evR_some, evM_some, evA_some, evC_some, callD_some, contD_some, consD_some, setT_some, setT_none, narrow_nil, narrow_cons, narrowC_some, seq_n, seq_ret, seq_ex, block_n, block_ret, block_ex, cond_t, cond_f, afterV_some, afterM_some, afterA_some, afterC_some, callC_some, get_t, get_c, get_setP, Tr.getP_e, argsT_nil, argsT_cons, ↓reduceIte, Nat.reduceEqDiff, Nat.reduceAdd, Nat.reduceSub, Nat.reduceMul, Nat.reduceDiv, Nat.reduceMod, Nat.zero_add, Nat.add_zero, beq_self_eq_true, Nat.zero_ne_one, Nat.one_ne_zero, Nat.reduceLeDiff, Int.reduceBEq, constF, unF, unary,  pickF, nilcF, faddrF, fldF, iaddrSF, arF, arith_lss, arith_leq, arith_gtr, arith_geq, arith_add, arith_sub, convF, extF, lenF, eqcF, eqnF, eqN, eqPtr, isNone, loadF, storeF, allocF, callF, gets, Option.map_some, Option.bind_some, add_eq, mul_eq, sub_eq, div_eq, mod_eq, nbeq, nble, asBlk_int, flat_int, cells_int, asBlk_bool, flat_bool, cells_bool, asBlk_ptr, flat_ptr, cells_ptr, asBlk_slice, flat_slice, cells_slice, asBlk_map, flat_map, cells_map, asBlk_blk, flat_blk, cells_blk, cells_agg, flat_agg, asBlk_agg, V.w, width, unc, cmpCells, eqI_eq, eqB_eq, mkI_eq, asNat_int, asNat_zero, asNat_one, undef, List.append_nil, List.nil_append, List.cons_append, nth_zero, nth_succ, resultsV, result, tup, wp_some, Bool.and_true, Bool.true_and, Bool.and_self, decide_true, decide_false, Bool.not_true, Bool.not_false, Bool.true_beq, Bool.false_beq, beq_iff_eq, reduceCtorEq, Nat.succ_eq_add_one, ptr0, Int.ofNat_eq_natCast, Int.ofNat_le, Int.ofNat_lt, Int.natCast_add, store_new, store_new65, load_set65, load_set65', load_set, List.map_cons, List.map_nil, sC_loop, Heap.next_add, Heap.next_set, boxF, buildF, fill, bsliceF, fillRows, List.replicate_one, upd_zero, put_blk, cut_blk, cut_whole, put_hit_int, put_miss_int, cut_hit_int, cut_miss_int, put_hit_bool, put_miss_bool, cut_hit_bool, cut_miss_bool, put_hit_ptr, put_miss_ptr, cut_hit_ptr, cut_miss_ptr, put_hit_slice, put_miss_slice, cut_hit_slice, cut_miss_slice, put_hit_map, put_miss_map, cut_hit_map, cut_miss_map, load_add, appF, List.length_cons, List.length_nil]
  · simp only [q4, q7, q8, q9, sC_skip, sC_reg, sC_seq, sC_cond, sC_block, sC_exit, sC_scope, sC_ret, sC_regD, sI_nil, sI_none, sI_guard, guard_t, guard_f, want_b, want_u, sO_p, sO_r, sO_m, sO_a, sO_c, sD_nil, sD_none, sD_guard, guardD_t, guardD_f, sE_p, sE_r, sE_m, sE_a, sE_c, evQ_some, evR_some, evM_some, evA_some, evC_some, callD_some, contD_some, consD_some, setT_some, setT_none, narrow_nil, narrow_cons, narrowC_some, seq_n, seq_ret, seq_ex, block_n, block_ret, block_ex, cond_t, cond_f, afterV_some, afterM_some, afterA_some, afterC_some, callC_some, get_t, get_c, get_setP, Tr.getP_e, argsT_nil, argsT_cons, ↓reduceIte, Nat.reduceEqDiff, Nat.reduceAdd, Nat.reduceSub, Nat.reduceMul, Nat.reduceDiv, Nat.reduceMod, Nat.zero_add, Nat.add_zero, beq_self_eq_true, Nat.zero_ne_one, Nat.one_ne_zero, Nat.reduceLeDiff, Int.reduceBEq, constF, unF, unary,  pickF, nilcF, faddrF, fldF, iaddrSF, arF, arith_lss, arith_leq, arith_gtr, arith_geq, arith_add, arith_sub, convF, extF, lenF, eqcF, eqnF, eqN, eqPtr, isNone, loadF, storeF, allocF, callF, gets, Option.map_some, Option.bind_some, add_eq, mul_eq, sub_eq, div_eq, mod_eq, nbeq, nble, asBlk_int, flat_int, cells_int, asBlk_bool, flat_bool, cells_bool, asBlk_ptr, flat_ptr, cells_ptr, asBlk_slice, flat_slice, cells_slice, asBlk_map, flat_map, cells_map, asBlk_blk, flat_blk, cells_blk, cells_agg, flat_agg, asBlk_agg, V.w, width, unc, cmpCells, eqI_eq, eqB_eq, mkI_eq, asNat_int, asNat_zero, asNat_one, undef, List.append_nil, List.nil_append, List.cons_append, nth_zero, nth_succ, resultsV, result, tup, wp_some, Bool.and_true, Bool.true_and, Bool.and_self, decide_true, decide_false, Bool.not_true, Bool.not_false, Bool.true_beq, Bool.false_beq, beq_iff_eq, reduceCtorEq, Nat.succ_eq_add_one, ptr0, Int.ofNat_eq_natCast, Int.ofNat_le, Int.ofNat_lt, Int.natCast_add, store_new, store_new65, load_set65, load_set65', load_set, List.map_cons, List.map_nil, sC_loop, Heap.next_add, Heap.next_set, boxF, buildF, fill, bsliceF, fillRows, List.replicate_one, upd_zero, put_blk, cut_blk, cut_whole, put_hit_int, put_miss_int, cut_hit_int, cut_miss_int, put_hit_bool, put_miss_bool, cut_hit_bool, cut_miss_bool, put_hit_ptr, put_miss_ptr, cut_hit_ptr, cut_miss_ptr, put_hit_slice, put_miss_slice, cut_hit_slice, cut_miss_slice, put_hit_map, put_miss_map, cut_hit_map, cut_miss_map, load_add, appF, List.length_cons, List.length_nil]
  · simp only [q4, q7, q8, q9, sC_skip, sC_reg, sC_seq, sC_cond, sC_block, sC_exit, sC_scope, sC_ret, sC_regD, sI_nil, sI_none, sI_guard, guard_t, guard_f, want_b, want_u, sO_p, sO_r, sO_m, sO_a, sO_c, sD_nil, sD_none, sD_guard, guardD_t, guardD_f, sE_p, sE_r, sE_m, sE_a, sE_c, evQ_some, evR_some, evM_some, evA_some, evC_some, callD_some, contD_some, consD_some, setT_some, setT_none, narrow_nil, narrow_cons, narrowC_some, seq_n, seq_ret, seq_ex, block_n, block_ret, block_ex, cond_t, cond_f, afterV_some, afterM_some, afterA_some, afterC_some, callC_some, get_t, get_c, get_setP, Tr.getP_e, argsT_nil, argsT_cons, ↓reduceIte, Nat.reduceEqDiff, Nat.reduceAdd, Nat.reduceSub, Nat.reduceMul, Nat.reduceDiv, Nat.reduceMod, Nat.zero_add, Nat.add_zero, beq_self_eq_true, Nat.zero_ne_one, Nat.one_ne_zero, Nat.reduceLeDiff, Int.reduceBEq, constF, unF, unary,  pickF, nilcF, faddrF, fldF, iaddrSF, arF, arith_lss, arith_leq, arith_gtr, arith_geq, arith_add, arith_sub, convF, extF, lenF, eqcF, eqnF, eqN, eqPtr, isNone, loadF, storeF, allocF, callF, gets, Option.map_some, Option.bind_some, add_eq, mul_eq, sub_eq, div_eq, mod_eq, nbeq, nble, asBlk_int, flat_int, cells_int, asBlk_bool, flat_bool, cells_bool, asBlk_ptr, flat_ptr, cells_ptr, asBlk_slice, flat_slice, cells_slice, asBlk_map, flat_map, cells_map, asBlk_blk, flat_blk, cells_blk, cells_agg, flat_agg, asBlk_agg, V.w, width, unc, cmpCells, eqI_eq, eqB_eq, mkI_eq, asNat_int, asNat_zero, asNat_one, undef, List.append_nil, List.nil_append, List.cons_append, nth_zero, nth_succ, resultsV, result, tup, wp_some, Bool.and_true, Bool.true_and, Bool.and_self, decide_true, decide_false, Bool.not_true, Bool.not_false, Bool.true_beq, Bool.false_beq, beq_iff_eq, reduceCtorEq, Nat.succ_eq_add_one, ptr0, Int.ofNat_eq_natCast, Int.ofNat_le, Int.ofNat_lt, Int.natCast_add, store_new, store_new65, load_set65, load_set65', load_set, List.map_cons, List.map_nil, sC_loop, Heap.next_add, Heap.next_set, boxF, buildF, fill, bsliceF, fillRows, List.replicate_one, upd_zero, put_blk, cut_blk, cut_whole, put_hit_int, put_miss_int, cut_hit_int, cut_miss_int, put_hit_bool, put_miss_bool, cut_hit_bool, cut_miss_bool, put_hit_ptr, put_miss_ptr, cut_hit_ptr, cut_miss_ptr, put_hit_slice, put_miss_slice, cut_hit_slice, cut_miss_slice, put_hit_map, put_miss_map, cut_hit_map, cut_miss_map, load_add, appF, List.length_cons, List.length_nil]
  · simp only [q4, q7, q8, q9, sC_skip, sC_reg, sC_seq, sC_cond, sC_block, sC_exit, sC_scope, sC_ret, sC_regD, sI_nil, sI_none, sI_guard, guard_t, guard_f, want_b, want_u, sO_p, sO_r, sO_m, sO_a, sO_c, sD_nil, sD_none, sD_guard, guardD_t, guardD_f, sE_p, sE_r, sE_m, sE_a, sE_c, evQ_some, evR_some, evM_some, evA_some, evC_some, callD_some, contD_some, consD_some, setT_some, setT_none, narrow_nil, narrow_cons, narrowC_some, seq_n, seq_ret, seq_ex, block_n, block_ret, block_ex, cond_t, cond_f, afterV_some, afterM_some, afterA_some, afterC_some, callC_some, get_t, get_c, get_setP, Tr.getP_e, argsT_nil, argsT_cons, ↓reduceIte, Nat.reduceEqDiff, Nat.reduceAdd, Nat.reduceSub, Nat.reduceMul, Nat.reduceDiv, Nat.reduceMod, Nat.zero_add, Nat.add_zero, beq_self_eq_true, Nat.zero_ne_one, Nat.one_ne_zero, Nat.reduceLeDiff, Int.reduceBEq, constF, unF, unary,  pickF, nilcF, faddrF, fldF, iaddrSF, arF, arith_lss, arith_leq, arith_gtr, arith_geq, arith_add, arith_sub, convF, extF, lenF, eqcF, eqnF, eqN, eqPtr, isNone, loadF, storeF, allocF, callF, gets, Option.map_some, Option.bind_some, add_eq, mul_eq, sub_eq, div_eq, mod_eq, nbeq, nble, asBlk_int, flat_int, cells_int, asBlk_bool, flat_bool, cells_bool, asBlk_ptr, flat_ptr, cells_ptr, asBlk_slice, flat_slice, cells_slice, asBlk_map, flat_map, cells_map, asBlk_blk, flat_blk, cells_blk, cells_agg, flat_agg, asBlk_agg, V.w, width, unc, cmpCells, eqI_eq, eqB_eq, mkI_eq, asNat_int, asNat_zero, asNat_one, undef, List.append_nil, List.nil_append, List.cons_append, nth_zero, nth_succ, resultsV, result, tup, wp_some, Bool.and_true, Bool.true_and, Bool.and_self, decide_true, decide_false, Bool.not_true, Bool.not_false, Bool.true_beq, Bool.false_beq, beq_iff_eq, reduceCtorEq, Nat.succ_eq_add_one, ptr0, Int.ofNat_eq_natCast, Int.ofNat_le, Int.ofNat_lt, Int.natCast_add, store_new, store_new65, load_set65, load_set65', load_set, List.map_cons, List.map_nil, sC_loop, Heap.next_add, Heap.next_set, boxF, buildF, fill, bsliceF, fillRows, List.replicate_one, upd_zero, put_blk, cut_blk, cut_whole, put_hit_int, put_miss_int, cut_hit_int, cut_miss_int, put_hit_bool, put_miss_bool, cut_hit_bool, cut_miss_bool, put_hit_ptr, put_miss_ptr, cut_hit_ptr, cut_miss_ptr, put_hit_slice, put_miss_slice, cut_hit_slice, cut_miss_slice, put_hit_map, put_miss_map, cut_hit_map, cut_miss_map, load_add, appF, List.length_cons, List.length_nil]
  · simp only [q4, q7, q8, q9, sC_skip, sC_reg, sC_seq, sC_cond, sC_block, sC_exit, sC_scope, sC_ret, sC_regD, sI_nil, sI_none, sI_guard, guard_t, guard_f, want_b, want_u, sO_p, sO_r, sO_m, sO_a, sO_c, sD_nil, sD_none, sD_guard, guardD_t, guardD_f, sE_p, sE_r, sE_m, sE_a, sE_c, evQ_some, evR_some, evM_some, evA_some, evC_some, callD_some, contD_some, consD_some, setT_some, setT_none, narrow_nil, narrow_cons, narrowC_some, seq_n, seq_ret, seq_ex, block_n, block_ret, block_ex, cond_t, cond_f, afterV_some, afterM_some, afterA_some, afterC_some, callC_some, get_t, get_c, get_setP, Tr.getP_e, argsT_nil, argsT_cons, ↓reduceIte, Nat.reduceEqDiff, Nat.reduceAdd, Nat.reduceSub, Nat.reduceMul, Nat.reduceDiv, Nat.reduceMod, Nat.zero_add, Nat.add_zero, beq_self_eq_true, Nat.zero_ne_one, Nat.one_ne_zero, Nat.reduceLeDiff, Int.reduceBEq, constF, unF, unary,  pickF, nilcF, faddrF, fldF, iaddrSF, arF, arith_lss, arith_leq, arith_gtr, arith_geq, arith_add, arith_sub, convF, extF, lenF, eqcF, eqnF, eqN, eqPtr, isNone, loadF, storeF, allocF, callF, gets, Option.map_some, Option.bind_some, add_eq, mul_eq, sub_eq, div_eq, mod_eq, nbeq, nble, asBlk_int, flat_int, cells_int, asBlk_bool, flat_bool, cells_bool, asBlk_ptr, flat_ptr, cells_ptr, asBlk_slice, flat_slice, cells_slice, asBlk_map, flat_map, cells_map, asBlk_blk, flat_blk, cells_blk, cells_agg, flat_agg, asBlk_agg, V.w, width, unc, cmpCells, eqI_eq, eqB_eq, mkI_eq, asNat_int, asNat_zero, asNat_one, undef, List.append_nil, List.nil_append, List.cons_append, nth_zero, nth_succ, resultsV, result, tup, wp_some, Bool.and_true, Bool.true_and, Bool.and_self, decide_true, decide_false, Bool.not_true, Bool.not_false, Bool.true_beq, Bool.false_beq, beq_iff_eq, reduceCtorEq, Nat.succ_eq_add_one, ptr0, Int.ofNat_eq_natCast, Int.ofNat_le, Int.ofNat_lt, Int.natCast_add, store_new, store_new65, load_set65, load_set65', load_set, List.map_cons, List.map_nil, sC_loop, Heap.next_add, Heap.next_set, boxF, buildF, fill, bsliceF, fillRows, List.replicate_one, upd_zero, put_blk, cut_blk, cut_whole, put_hit_int, put_miss_int, cut_hit_int, cut_miss_int, put_hit_bool, put_miss_bool, cut_hit_bool, cut_miss_bool, put_hit_ptr, put_miss_ptr, cut_hit_ptr, cut_miss_ptr, put_hit_slice, put_miss_slice, cut_hit_slice, cut_miss_slice, put_hit_map, put_miss_map, cut_hit_map, cut_miss_map, load_add, appF, List.length_cons, List.length_nil]
  rintro y ⟨t, HA', d⟩ ⟨rfl, rfl, q7, q8, lA, MA⟩
  dsimp only at q7 q8 MA
  obtain ⟨v, HB, eB, rfl, lB, kB⟩ := binsert_all MA.rep (MA.ne lenI) gI (k : Int) lf (m + 2)
  change callS Try.prog S0 lf (m + 6) 37 _ _ = _ at eB
  rw [f11] at eB
  have MB := MA.next kB
  have eC := lives_call lf (m + 5) HB
  change callS Try.prog S0 lf (m + 6) 36 [] HB = _ at eC
  simp only [q7, q8, eB, eC, sC_skip, sC_reg, sC_seq, sC_cond, sC_block, sC_exit, sC_scope, sC_ret, sC_regD, sI_nil, sI_none, sI_guard, guard_t, guard_f, want_b, want_u, sO_p, sO_r, sO_m, sO_a, sO_c, sD_nil, sD_none, sD_guard, guardD_t, guardD_f, sE_p, sE_r, sE_m, sE_a, sE_c, evQ_some, evR_some, evM_some, evA_some, evC_some, callD_some, contD_some, consD_some, setT_some, setT_none, narrow_nil, narrow_cons, narrowC_some, seq_n, seq_ret, seq_ex, block_n, block_ret, block_ex, cond_t, cond_f, afterV_some, afterM_some, afterA_some, afterC_some, callC_some, get_t, get_c, get_setP, Tr.getP_e, argsT_nil, argsT_cons, ↓reduceIte, Nat.reduceEqDiff, Nat.reduceAdd, Nat.reduceSub, Nat.reduceMul, Nat.reduceDiv, Nat.reduceMod, Nat.zero_add, Nat.add_zero, beq_self_eq_true, Nat.zero_ne_one, Nat.one_ne_zero, Nat.reduceLeDiff, Int.reduceBEq, constF, unF, unary,  pickF, nilcF, faddrF, fldF, iaddrSF, arF, arith_lss, arith_leq, arith_gtr, arith_geq, arith_add, arith_sub, convF, extF, lenF, eqcF, eqnF, eqN, eqPtr, isNone, loadF, storeF, allocF, callF, gets, Option.map_some, Option.bind_some, add_eq, mul_eq, sub_eq, div_eq, mod_eq, nbeq, nble, asBlk_int, flat_int, cells_int, asBlk_bool, flat_bool, cells_bool, asBlk_ptr, flat_ptr, cells_ptr, asBlk_slice, flat_slice, cells_slice, asBlk_map, flat_map, cells_map, asBlk_blk, flat_blk, cells_blk, cells_agg, flat_agg, asBlk_agg, V.w, width, unc, cmpCells, eqI_eq, eqB_eq, mkI_eq, asNat_int, asNat_zero, asNat_one, undef, List.append_nil, List.nil_append, List.cons_append, nth_zero, nth_succ, resultsV, result, tup, wp_some, Bool.and_true, Bool.true_and, Bool.and_self, decide_true, decide_false, Bool.not_true, Bool.not_false, Bool.true_beq, Bool.false_beq, beq_iff_eq, reduceCtorEq, Nat.succ_eq_add_one, ptr0, Int.ofNat_eq_natCast, Int.ofNat_le, Int.ofNat_lt, Int.natCast_add, store_new, store_new65, load_set65, load_set65', load_set, List.map_cons, List.map_nil, sC_loop, Heap.next_add, Heap.next_set, boxF, buildF, fill, bsliceF, fillRows, List.replicate_one, upd_zero, put_blk, cut_blk, cut_whole, put_hit_int, put_miss_int, cut_hit_int, cut_miss_int, put_hit_bool, put_miss_bool, cut_hit_bool, cut_miss_bool, put_hit_ptr, put_miss_ptr, cut_hit_ptr, cut_miss_ptr, put_hit_slice, put_miss_slice, cut_hit_slice, cut_miss_slice, put_hit_map, put_miss_map, cut_hit_map, cut_miss_map, load_add, appF, List.length_cons, List.length_nil]
  exact ⟨trivial, .inr trivial, _, rfl, rfl, tA.trans MB.t⟩

end Go.Proofs.Ytcelngepfdchiaa.disk

