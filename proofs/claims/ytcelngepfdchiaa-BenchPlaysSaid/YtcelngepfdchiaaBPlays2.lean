/-
  A bench and the document's one: are they alike; and the whole run.
-/
import Derived.Test.YtcelngepfdchiaaBPlays
set_option linter.unusedVariables false
set_option linter.unusedSectionVars false
set_option linter.unusedSimpArgs false
set_option maxRecDepth 10000
namespace Go.Proofs.Ytcelngepfdchiaa.disk
open Go.Am

noncomputable def c49_l0 : C := .seq (.seq (.reg [
          ⟨(some (Tr.path 56)), (some (.p (S.get (.t (Tr.path 6))))), none, [Tr.path 6]⟩,
          ⟨(some (Tr.path 57)), (some (.p (S.get (.t (Tr.path 1))))), none, [Tr.path 1]⟩,
          ⟨(some (Tr.path 58)), (some (.p (S.get (.t (Tr.path 5))))), none, [Tr.path 5]⟩,
          ⟨(some (Tr.path 59)), (some (.c (callF (.c (.func (.func 102) [] [])) [(.t (Tr.path 57)), (.t (Tr.path 58))]))), none, [Tr.path 57, Tr.path 58]⟩,
          ⟨(some (Tr.path 60)), (some (.p (arF .lss (.t (Tr.path 56)) (.t (Tr.path 59))))), none, [Tr.path 56, Tr.path 59]⟩]) (
         .cond (.t (Tr.path 60)) (.skip) (.exit 2))) (
        .seq (.block 3 (.seq (.reg [
           ⟨(some (Tr.path 64)), (some (.p (S.get (.t (Tr.path 0))))), none, [Tr.path 0]⟩,
           ⟨(some (Tr.path 65)), (some (.p (S.get (.t (Tr.path 5))))), none, [Tr.path 5]⟩,
           ⟨(some (Tr.path 66)), (some (.p (S.get (.t (Tr.path 6))))), none, [Tr.path 6]⟩,
           ⟨(some (Tr.path 67)), (some (.c (callF (.c (.func (.func 95) [] [])) [(.t (Tr.path 64)), (.t (Tr.path 65)), (.t (Tr.path 66))]))), none, [Tr.path 64, Tr.path 65, Tr.path 66]⟩,
           ⟨(some (Tr.path 63)), (some (.p (S.get (.t (Tr.path 67))))), none, [Tr.path 67]⟩,
           ⟨(some (Tr.path 68)), (some (.p (extF (.t (Tr.path 63)) 0))), none, [Tr.path 63]⟩,
           ⟨(some (Tr.path 69)), (some (.p (extF (.t (Tr.path 63)) 1))), none, [Tr.path 63]⟩,
           ⟨(some (Tr.path 7)), (some (.m (allocF 64 [.blk 0]))), none, []⟩,
           ⟨none, (some (.a (storeF (.t (Tr.path 7)) (.t (Tr.path 68)) 64))), none, [Tr.path 7, Tr.path 68]⟩,
           ⟨(some (Tr.path 8)), (some (.p (S.get (.t (Tr.path 69))))), none, [Tr.path 69]⟩]) (
          .seq (.reg [
           ⟨(some (Tr.path 71)), (some (.p (S.get (.t (Tr.path 1))))), none, [Tr.path 1]⟩,
           ⟨(some (Tr.path 72)), (some (.p (S.get (.t (Tr.path 5))))), none, [Tr.path 5]⟩,
           ⟨(some (Tr.path 73)), (some (.p (S.get (.t (Tr.path 6))))), none, [Tr.path 6]⟩,
           ⟨(some (Tr.path 74)), (some (.c (callF (.c (.func (.func 96) [] [])) [(.t (Tr.path 71)), (.t (Tr.path 72)), (.t (Tr.path 73))]))), none, [Tr.path 71, Tr.path 72, Tr.path 73]⟩,
           ⟨(some (Tr.path 70)), (some (.p (S.get (.t (Tr.path 74))))), none, [Tr.path 74]⟩,
           ⟨(some (Tr.path 75)), (some (.p (extF (.t (Tr.path 70)) 0))), none, [Tr.path 70]⟩,
           ⟨(some (Tr.path 76)), (some (.p (extF (.t (Tr.path 70)) 1))), none, [Tr.path 70]⟩,
           ⟨(some (Tr.path 9)), (some (.m (allocF 64 [.blk 0]))), none, []⟩,
           ⟨none, (some (.a (storeF (.t (Tr.path 9)) (.t (Tr.path 75)) 64))), none, [Tr.path 9, Tr.path 75]⟩,
           ⟨(some (Tr.path 10)), (some (.p (S.get (.t (Tr.path 76))))), none, [Tr.path 76]⟩]) (
          .seq (.reg [
           ⟨(some (Tr.path 78)), (some (.p (S.get (.t (Tr.path 0))))), none, [Tr.path 0]⟩,
           ⟨(some (Tr.path 79)), (some (.p (S.get (.t (Tr.path 5))))), none, [Tr.path 5]⟩,
           ⟨(some (Tr.path 80)), (some (.p (S.get (.t (Tr.path 6))))), none, [Tr.path 6]⟩,
           ⟨(some (Tr.path 81)), (some (.c (callF (.c (.func (.func 40) [] [])) [(.t (Tr.path 78)), (.t (Tr.path 79)), (.t (Tr.path 80))]))), none, [Tr.path 78, Tr.path 79, Tr.path 80]⟩,
           ⟨(some (Tr.path 77)), (some (.p (S.get (.t (Tr.path 81))))), none, [Tr.path 81]⟩,
           ⟨(some (Tr.path 82)), (some (.p (extF (.t (Tr.path 77)) 0))), none, [Tr.path 77]⟩,
           ⟨(some (Tr.path 83)), (some (.p (extF (.t (Tr.path 77)) 1))), none, [Tr.path 77]⟩,
           ⟨(some (Tr.path 11)), (some (.m (allocF 64 [.blk 0]))), none, []⟩,
           ⟨none, (some (.a (storeF (.t (Tr.path 11)) (.t (Tr.path 82)) 64))), none, [Tr.path 11, Tr.path 82]⟩,
           ⟨(some (Tr.path 12)), (some (.p (S.get (.t (Tr.path 83))))), none, [Tr.path 83]⟩]) (
          .seq (.reg [
           ⟨(some (Tr.path 85)), (some (.p (S.get (.t (Tr.path 1))))), none, [Tr.path 1]⟩,
           ⟨(some (Tr.path 86)), (some (.p (S.get (.t (Tr.path 5))))), none, [Tr.path 5]⟩,
           ⟨(some (Tr.path 87)), (some (.p (S.get (.t (Tr.path 6))))), none, [Tr.path 6]⟩,
           ⟨(some (Tr.path 88)), (some (.c (callF (.c (.func (.func 89) [] [])) [(.t (Tr.path 85)), (.t (Tr.path 86)), (.t (Tr.path 87))]))), none, [Tr.path 85, Tr.path 86, Tr.path 87]⟩,
           ⟨(some (Tr.path 84)), (some (.p (S.get (.t (Tr.path 88))))), none, [Tr.path 88]⟩,
           ⟨(some (Tr.path 89)), (some (.p (extF (.t (Tr.path 84)) 0))), none, [Tr.path 84]⟩,
           ⟨(some (Tr.path 90)), (some (.p (extF (.t (Tr.path 84)) 1))), none, [Tr.path 84]⟩,
           ⟨(some (Tr.path 13)), (some (.m (allocF 64 [.blk 0]))), none, []⟩,
           ⟨none, (some (.a (storeF (.t (Tr.path 13)) (.t (Tr.path 89)) 64))), none, [Tr.path 13, Tr.path 89]⟩,
           ⟨(some (Tr.path 14)), (some (.p (S.get (.t (Tr.path 90))))), none, [Tr.path 90]⟩]) (
          .seq (.reg [
           ⟨(some (Tr.path 91)), (some (.r (loadF (.t (Tr.path 7)) 64 .bk))), none, [Tr.path 7]⟩,
           ⟨(some (Tr.path 92)), (some (.r (loadF (.t (Tr.path 9)) 64 .bk))), none, [Tr.path 9]⟩,
           ⟨(some (Tr.path 93)), (some (.p (eqcF true true [.blk] (.t (Tr.path 91)) (.t (Tr.path 92))))), none, [Tr.path 91, Tr.path 92]⟩,
           ⟨(some (Tr.path 94)), (some (.p (S.get (.t (Tr.path 93))))), none, [Tr.path 93]⟩,
           ⟨(some (Tr.path 95)), (some (.p (S.get (.t (Tr.path 8))))), (some (some (Tr.path 94), false)), [Tr.path 8]⟩,
           ⟨(some (Tr.path 96)), (some (.p (S.get (.t (Tr.path 10))))), (some (some (Tr.path 94), false)), [Tr.path 10]⟩,
           ⟨(some (Tr.path 97)), (some (.p (eqcF true false [.int .i64] (.t (Tr.path 95)) (.t (Tr.path 96))))), (some (some (Tr.path 94), false)), [Tr.path 95, Tr.path 96]⟩,
           ⟨(some (Tr.path 98)), (some (.p (pickF (.t (Tr.path 94)) (.c (.bool true)) (.t (Tr.path 97))))), none, [Tr.path 94, Tr.path 97]⟩,
           ⟨(some (Tr.path 99)), (some (.p (S.get (.t (Tr.path 98))))), none, [Tr.path 98]⟩,
           ⟨(some (Tr.path 100)), (some (.r (loadF (.t (Tr.path 11)) 64 .bk))), (some (some (Tr.path 99), false)), [Tr.path 11]⟩,
           ⟨(some (Tr.path 101)), (some (.r (loadF (.t (Tr.path 13)) 64 .bk))), (some (some (Tr.path 99), false)), [Tr.path 13]⟩,
           ⟨(some (Tr.path 102)), (some (.p (eqcF true true [.blk] (.t (Tr.path 100)) (.t (Tr.path 101))))), (some (some (Tr.path 99), false)), [Tr.path 100, Tr.path 101]⟩,
           ⟨(some (Tr.path 103)), (some (.p (pickF (.t (Tr.path 99)) (.c (.bool true)) (.t (Tr.path 102))))), none, [Tr.path 99, Tr.path 102]⟩,
           ⟨(some (Tr.path 104)), (some (.p (S.get (.t (Tr.path 103))))), none, [Tr.path 103]⟩,
           ⟨(some (Tr.path 105)), (some (.p (S.get (.t (Tr.path 12))))), (some (some (Tr.path 104), false)), [Tr.path 12]⟩,
           ⟨(some (Tr.path 106)), (some (.p (S.get (.t (Tr.path 14))))), (some (some (Tr.path 104), false)), [Tr.path 14]⟩,
           ⟨(some (Tr.path 107)), (some (.p (eqcF true false [.int .i64] (.t (Tr.path 105)) (.t (Tr.path 106))))), (some (some (Tr.path 104), false)), [Tr.path 105, Tr.path 106]⟩,
           ⟨(some (Tr.path 108)), (some (.p (pickF (.t (Tr.path 104)) (.c (.bool true)) (.t (Tr.path 107))))), none, [Tr.path 104, Tr.path 107]⟩]) (
          .cond (.t (Tr.path 108)) (.seq (.reg [
             ⟨(some (Tr.path 4)), (some (.p (S.get (.c (.bool false))))), none, []⟩]) (
            .ret)) (.skip)))))))) (
        .reg [
        ⟨(some (Tr.path 61)), (some (.p (S.get (.t (Tr.path 6))))), none, [Tr.path 6]⟩,
        ⟨(some (Tr.path 62)), (some (.p (arF .add (.t (Tr.path 61)) (.c (.int .i64 1))))), none, [Tr.path 61]⟩,
        ⟨(some (Tr.path 6)), (some (.p (S.get (.t (Tr.path 62))))), none, [Tr.path 62]⟩]))
noncomputable def c49_l1 : C := .seq (.seq (.reg [
      ⟨(some (Tr.path 34)), (some (.p (S.get (.t (Tr.path 5))))), none, [Tr.path 5]⟩,
      ⟨(some (Tr.path 35)), (some (.p (S.get (.t (Tr.path 1))))), none, [Tr.path 1]⟩,
      ⟨(some (Tr.path 36)), (some (.c (callF (.c (.func (.func 99) [] [])) [(.t (Tr.path 35))]))), none, [Tr.path 35]⟩,
      ⟨(some (Tr.path 37)), (some (.p (arF .leq (.t (Tr.path 34)) (.t (Tr.path 36))))), none, [Tr.path 34, Tr.path 36]⟩]) (
     .cond (.t (Tr.path 37)) (.skip) (.exit 0))) (
    .seq (.block 1 (.seq (.seq (.reg [
        ⟨(some (Tr.path 40)), (some (.p (S.get (.t (Tr.path 0))))), none, [Tr.path 0]⟩,
        ⟨(some (Tr.path 41)), (some (.p (S.get (.t (Tr.path 5))))), none, [Tr.path 5]⟩,
        ⟨(some (Tr.path 42)), (some (.c (callF (.c (.func (.func 41) [] [])) [(.t (Tr.path 40)), (.t (Tr.path 41))]))), none, [Tr.path 40, Tr.path 41]⟩,
        ⟨(some (Tr.path 43)), (some (.p (S.get (.t (Tr.path 1))))), none, [Tr.path 1]⟩,
        ⟨(some (Tr.path 44)), (some (.p (S.get (.t (Tr.path 5))))), none, [Tr.path 5]⟩,
        ⟨(some (Tr.path 45)), (some (.c (callF (.c (.func (.func 102) [] [])) [(.t (Tr.path 43)), (.t (Tr.path 44))]))), none, [Tr.path 43, Tr.path 44]⟩,
        ⟨(some (Tr.path 46)), (some (.p (eqcF true false [.int .i64] (.t (Tr.path 42)) (.t (Tr.path 45))))), none, [Tr.path 42, Tr.path 45]⟩,
        ⟨(some (Tr.path 47)), (some (.p (S.get (.t (Tr.path 46))))), none, [Tr.path 46]⟩,
        ⟨(some (Tr.path 48)), (some (.p (S.get (.t (Tr.path 0))))), (some (some (Tr.path 47), false)), [Tr.path 0]⟩,
        ⟨(some (Tr.path 49)), (some (.p (S.get (.t (Tr.path 5))))), (some (some (Tr.path 47), false)), [Tr.path 5]⟩,
        ⟨(some (Tr.path 50)), (some (.c (callF (.c (.func (.func 39) [] [])) [(.t (Tr.path 48)), (.t (Tr.path 49))]))), (some (some (Tr.path 47), false)), [Tr.path 48, Tr.path 49]⟩,
        ⟨(some (Tr.path 51)), (some (.p (S.get (.t (Tr.path 1))))), (some (some (Tr.path 47), false)), [Tr.path 1]⟩,
        ⟨(some (Tr.path 52)), (some (.p (S.get (.t (Tr.path 5))))), (some (some (Tr.path 47), false)), [Tr.path 5]⟩,
        ⟨(some (Tr.path 53)), (some (.c (callF (.c (.func (.func 103) [] [])) [(.t (Tr.path 51)), (.t (Tr.path 52))]))), (some (some (Tr.path 47), false)), [Tr.path 51, Tr.path 52]⟩,
        ⟨(some (Tr.path 54)), (some (.p (eqcF true false [.bool] (.t (Tr.path 50)) (.t (Tr.path 53))))), (some (some (Tr.path 47), false)), [Tr.path 50, Tr.path 53]⟩,
        ⟨(some (Tr.path 55)), (some (.p (pickF (.t (Tr.path 47)) (.c (.bool true)) (.t (Tr.path 54))))), none, [Tr.path 47, Tr.path 54]⟩]) (
       .cond (.t (Tr.path 55)) (.seq (.reg [
          ⟨(some (Tr.path 4)), (some (.p (S.get (.c (.bool false))))), none, []⟩]) (
         .ret)) (.skip))) (
      .seq (.reg [
       ⟨(some (Tr.path 6)), (some (.p (S.get (.c (.int .i64 0))))), none, []⟩]) (
      .block 2 (.loop c49_l0))))) (
    .reg [
    ⟨(some (Tr.path 38)), (some (.p (S.get (.t (Tr.path 5))))), none, [Tr.path 5]⟩,
    ⟨(some (Tr.path 39)), (some (.p (arF .add (.t (Tr.path 38)) (.c (.int .i64 1))))), none, [Tr.path 38]⟩,
    ⟨(some (Tr.path 5)), (some (.p (S.get (.t (Tr.path 39))))), none, [Tr.path 39]⟩]))
/-- ashlar/ashlarlaw06.alike -/
noncomputable def c49 : CFn := ⟨[.tmp (Tr.path 4)],
 .seq (.reg [
  ⟨(some (Tr.path 4)), (some (.p (S.get (.c (.bool false))))), none, []⟩]) (
 .seq (.seq (.reg [
   ⟨(some (Tr.path 15)), (some (.p (S.get (.t (Tr.path 0))))), none, [Tr.path 0]⟩,
   ⟨(some (Tr.path 16)), (some (.c (callF (.c (.func (.func 98) [] [])) [(.t (Tr.path 15))]))), none, [Tr.path 15]⟩,
   ⟨(some (Tr.path 17)), (some (.p (S.get (.t (Tr.path 1))))), none, [Tr.path 1]⟩,
   ⟨(some (Tr.path 18)), (some (.c (callF (.c (.func (.func 99) [] [])) [(.t (Tr.path 17))]))), none, [Tr.path 17]⟩,
   ⟨(some (Tr.path 19)), (some (.p (eqcF true false [.int .i64] (.t (Tr.path 16)) (.t (Tr.path 18))))), none, [Tr.path 16, Tr.path 18]⟩,
   ⟨(some (Tr.path 20)), (some (.p (S.get (.t (Tr.path 19))))), none, [Tr.path 19]⟩,
   ⟨(some (Tr.path 21)), (some (.p (S.get (.t (Tr.path 0))))), (some (some (Tr.path 20), false)), [Tr.path 0]⟩,
   ⟨(some (Tr.path 22)), (some (.c (callF (.c (.func (.func 34) [] [])) [(.t (Tr.path 21))]))), (some (some (Tr.path 20), false)), [Tr.path 21]⟩,
   ⟨(some (Tr.path 23)), (some (.p (S.get (.t (Tr.path 1))))), (some (some (Tr.path 20), false)), [Tr.path 1]⟩,
   ⟨(some (Tr.path 24)), (some (.c (callF (.c (.func (.func 100) [] [])) [(.t (Tr.path 23))]))), (some (some (Tr.path 20), false)), [Tr.path 23]⟩,
   ⟨(some (Tr.path 25)), (some (.p (eqcF true false [.bool] (.t (Tr.path 22)) (.t (Tr.path 24))))), (some (some (Tr.path 20), false)), [Tr.path 22, Tr.path 24]⟩,
   ⟨(some (Tr.path 26)), (some (.p (pickF (.t (Tr.path 20)) (.c (.bool true)) (.t (Tr.path 25))))), none, [Tr.path 20, Tr.path 25]⟩,
   ⟨(some (Tr.path 27)), (some (.p (S.get (.t (Tr.path 26))))), none, [Tr.path 26]⟩,
   ⟨(some (Tr.path 28)), (some (.p (S.get (.t (Tr.path 0))))), (some (some (Tr.path 27), false)), [Tr.path 0]⟩,
   ⟨(some (Tr.path 29)), (some (.c (callF (.c (.func (.func 35) [] [])) [(.t (Tr.path 28))]))), (some (some (Tr.path 27), false)), [Tr.path 28]⟩,
   ⟨(some (Tr.path 30)), (some (.p (S.get (.t (Tr.path 1))))), (some (some (Tr.path 27), false)), [Tr.path 1]⟩,
   ⟨(some (Tr.path 31)), (some (.c (callF (.c (.func (.func 101) [] [])) [(.t (Tr.path 30))]))), (some (some (Tr.path 27), false)), [Tr.path 30]⟩,
   ⟨(some (Tr.path 32)), (some (.p (eqcF true false [.int .i64] (.t (Tr.path 29)) (.t (Tr.path 31))))), (some (some (Tr.path 27), false)), [Tr.path 29, Tr.path 31]⟩,
   ⟨(some (Tr.path 33)), (some (.p (pickF (.t (Tr.path 27)) (.c (.bool true)) (.t (Tr.path 32))))), none, [Tr.path 27, Tr.path 32]⟩]) (
  .cond (.t (Tr.path 33)) (.seq (.reg [
     ⟨(some (Tr.path 4)), (some (.p (S.get (.c (.bool false))))), none, []⟩]) (
    .ret)) (.skip))) (
 .seq (.seq (.reg [
   ⟨(some (Tr.path 5)), (some (.p (S.get (.c (.int .i64 (-1)))))), none, []⟩]) (
  .block 0 (.loop c49_l1))) (
 .seq (.reg [
  ⟨(some (Tr.path 4)), (some (.p (S.get (.c (.bool true))))), none, []⟩]) (
 .ret))))⟩
theorem c49_eq : fnOf Try.prog 49 = some c49 := by kernel_rfl

noncomputable def c10_l0 : C := .seq (.seq (.reg [
      ⟨(some (Tr.path 31)), (some (.p (S.get (.t (Tr.path 9))))), none, [Tr.path 9]⟩,
      ⟨(some (Tr.path 32)), (some (.p (S.get (.t (Tr.path 1))))), none, [Tr.path 1]⟩,
      ⟨(some (Tr.path 33)), (some (.p (lenF (.t (Tr.path 32))))), none, [Tr.path 32]⟩,
      ⟨(some (Tr.path 34)), (some (.p (arF .lss (.t (Tr.path 31)) (.t (Tr.path 33))))), none, [Tr.path 31, Tr.path 33]⟩,
      ⟨(some (Tr.path 35)), (some (.p (S.get (.t (Tr.path 34))))), none, [Tr.path 34]⟩,
      ⟨(some (Tr.path 36)), (some (.p (S.get (.t (Tr.path 9))))), (some (some (Tr.path 35), true)), [Tr.path 9]⟩,
      ⟨(some (Tr.path 37)), (some (.p (arF .lss (.t (Tr.path 36)) (.c (.int .i64 60))))), (some (some (Tr.path 35), true)), [Tr.path 36]⟩,
      ⟨(some (Tr.path 38)), (some (.p (pickF (.t (Tr.path 35)) (.t (Tr.path 37)) (.c (.bool false))))), none, [Tr.path 35, Tr.path 37]⟩]) (
     .cond (.t (Tr.path 38)) (.skip) (.exit 0))) (
    .seq (.block 1 (.seq (.reg [
       ⟨(some (Tr.path 41)), (some (.p (S.get (.t (Tr.path 5))))), none, [Tr.path 5]⟩,
       ⟨(some (Tr.path 42)), (some (.p (S.get (.t (Tr.path 7))))), none, [Tr.path 7]⟩,
       ⟨(some (Tr.path 43)), (some (.p (S.get (.t (Tr.path 1))))), none, [Tr.path 1]⟩,
       ⟨(some (Tr.path 44)), (some (.p (S.get (.t (Tr.path 9))))), none, [Tr.path 9]⟩,
       ⟨(some (Tr.path 45)), (some (.p (iaddrSF (.t (Tr.path 43)) (.t (Tr.path 44)) 70))), none, [Tr.path 43, Tr.path 44]⟩,
       ⟨(some (Tr.path 46)), (some (.r (loadF (.t (Tr.path 45)) 70 .ag))), none, [Tr.path 45]⟩,
       ⟨(some (Tr.path 47)), (some (.c (callF (.c (.func (.func 47) [] [])) [(.t (Tr.path 41)), (.t (Tr.path 42)), (.t (Tr.path 46))]))), none, [Tr.path 41, Tr.path 42, Tr.path 46]⟩,
       ⟨(some (Tr.path 48)), (some (.p (unF .not (.t (Tr.path 47))))), none, [Tr.path 47]⟩]) (
      .cond (.t (Tr.path 48)) (.seq (.reg [
         ⟨(some (Tr.path 4)), (some (.p (S.get (.c (.bool false))))), none, []⟩]) (
        .ret)) (.skip)))) (
    .reg [
    ⟨(some (Tr.path 39)), (some (.p (S.get (.t (Tr.path 9))))), none, [Tr.path 9]⟩,
    ⟨(some (Tr.path 40)), (some (.p (arF .add (.t (Tr.path 39)) (.c (.int .i64 1))))), none, [Tr.path 39]⟩,
    ⟨(some (Tr.path 9)), (some (.p (S.get (.t (Tr.path 40))))), none, [Tr.path 40]⟩]))
/-- ashlar/ashlarlaw06.BenchPlays -/
noncomputable def c10 : CFn := ⟨[.tmp (Tr.path 4)],
 .seq (.reg [
  ⟨(some (Tr.path 4)), (some (.p (S.get (.c (.bool false))))), none, []⟩]) (
 .seq (.reg [
  ⟨(some (Tr.path 12)), (some (.p (S.get (.t (Tr.path 0))))), none, [Tr.path 0]⟩,
  ⟨(some (Tr.path 13)), (some (.c (callF (.c (.func (.func 45) [] [])) [(.t (Tr.path 12))]))), none, [Tr.path 12]⟩,
  ⟨(some (Tr.path 11)), (some (.p (S.get (.t (Tr.path 13))))), none, [Tr.path 13]⟩,
  ⟨(some (Tr.path 14)), (some (.p (extF (.t (Tr.path 11)) 0))), none, [Tr.path 11]⟩,
  ⟨(some (Tr.path 15)), (some (.p (extF (.t (Tr.path 11)) 1))), none, [Tr.path 11]⟩,
  ⟨(some (Tr.path 5)), (some (.p (S.get (.t (Tr.path 14))))), none, [Tr.path 14]⟩,
  ⟨(some (Tr.path 6)), (some (.p (S.get (.t (Tr.path 15))))), none, [Tr.path 15]⟩]) (
 .seq (.reg [
  ⟨(some (Tr.path 17)), (some (.p (S.get (.t (Tr.path 0))))), none, [Tr.path 0]⟩,
  ⟨(some (Tr.path 18)), (some (.c (callF (.c (.func (.func 46) [] [])) [(.t (Tr.path 17))]))), none, [Tr.path 17]⟩,
  ⟨(some (Tr.path 16)), (some (.p (S.get (.t (Tr.path 18))))), none, [Tr.path 18]⟩,
  ⟨(some (Tr.path 19)), (some (.p (extF (.t (Tr.path 16)) 0))), none, [Tr.path 16]⟩,
  ⟨(some (Tr.path 20)), (some (.p (extF (.t (Tr.path 16)) 1))), none, [Tr.path 16]⟩,
  ⟨(some (Tr.path 7)), (some (.p (S.get (.t (Tr.path 19))))), none, [Tr.path 19]⟩,
  ⟨(some (Tr.path 8)), (some (.p (S.get (.t (Tr.path 20))))), none, [Tr.path 20]⟩]) (
 .seq (.seq (.reg [
   ⟨(some (Tr.path 21)), (some (.p (S.get (.t (Tr.path 6))))), none, [Tr.path 6]⟩,
   ⟨(some (Tr.path 22)), (some (.p (S.get (.t (Tr.path 8))))), none, [Tr.path 8]⟩,
   ⟨(some (Tr.path 23)), (some (.p (eqcF true false [.int .i64] (.t (Tr.path 21)) (.t (Tr.path 22))))), none, [Tr.path 21, Tr.path 22]⟩]) (
  .cond (.t (Tr.path 23)) (.seq (.reg [
     ⟨(some (Tr.path 4)), (some (.p (S.get (.c (.bool false))))), none, []⟩]) (
    .ret)) (.skip))) (
 .seq (.seq (.reg [
   ⟨(some (Tr.path 24)), (some (.p (S.get (.t (Tr.path 6))))), none, [Tr.path 6]⟩,
   ⟨(some (Tr.path 25)), (some (.p (eqcF true false [.int .i64] (.t (Tr.path 24)) (.c (.int .i64 0))))), none, [Tr.path 24]⟩]) (
  .cond (.t (Tr.path 25)) (.seq (.reg [
     ⟨(some (Tr.path 26)), (some (.p (S.get (.t (Tr.path 5))))), none, [Tr.path 5]⟩,
     ⟨(some (Tr.path 27)), (some (.r (eqnF false .ptr (.t (Tr.path 26)) (.c (.ptr none))))), none, [Tr.path 26]⟩,
     ⟨(some (Tr.path 28)), (some (.p (S.get (.t (Tr.path 27))))), none, [Tr.path 27]⟩,
     ⟨(some (Tr.path 29)), (some (.c (callF (.c (.func (.func 36) [] [])) []))), (some (some (Tr.path 28), true)), []⟩,
     ⟨(some (Tr.path 30)), (some (.p (pickF (.t (Tr.path 28)) (.t (Tr.path 29)) (.c (.bool false))))), none, [Tr.path 28, Tr.path 29]⟩,
     ⟨(some (Tr.path 4)), (some (.p (S.get (.t (Tr.path 30))))), none, [Tr.path 30]⟩]) (
    .ret)) (.skip))) (
 .seq (.seq (.reg [
   ⟨(some (Tr.path 9)), (some (.p (S.get (.c (.int .i64 0))))), none, []⟩]) (
  .block 0 (.loop c10_l0))) (
 .seq (.reg [
  ⟨(some (Tr.path 49)), (some (.p (S.get (.t (Tr.path 5))))), none, [Tr.path 5]⟩,
  ⟨(some (Tr.path 50)), (some (.c (callF (.c (.func (.func 48) [] [])) [(.t (Tr.path 49))]))), none, [Tr.path 49]⟩,
  ⟨(some (Tr.path 10)), (some (.p (S.get (.t (Tr.path 50))))), none, [Tr.path 50]⟩]) (
 .seq (.seq (.reg [
   ⟨(some (Tr.path 51)), (some (.p (S.get (.t (Tr.path 10))))), none, [Tr.path 10]⟩,
   ⟨(some (Tr.path 52)), (some (.p (S.get (.t (Tr.path 7))))), none, [Tr.path 7]⟩,
   ⟨(some (Tr.path 53)), (some (.c (callF (.c (.func (.func 49) [] [])) [(.t (Tr.path 51)), (.t (Tr.path 52))]))), none, [Tr.path 51, Tr.path 52]⟩,
   ⟨(some (Tr.path 54)), (some (.p (unF .not (.t (Tr.path 53))))), none, [Tr.path 53]⟩,
   ⟨(some (Tr.path 55)), (some (.p (S.get (.t (Tr.path 54))))), none, [Tr.path 54]⟩,
   ⟨(some (Tr.path 56)), (some (.p (S.get (.t (Tr.path 10))))), (some (some (Tr.path 55), false)), [Tr.path 10]⟩,
   ⟨(some (Tr.path 57)), (some (.c (callF (.c (.func (.func 44) [] [])) [(.t (Tr.path 56)), (.c (.slice none 0 0 0))]))), (some (some (Tr.path 55), false)), [Tr.path 56]⟩,
   ⟨(some (Tr.path 58)), (some (.p (eqcF true false [.int .i64] (.t (Tr.path 57)) (.c (.int .i64 0))))), (some (some (Tr.path 55), false)), [Tr.path 57]⟩,
   ⟨(some (Tr.path 59)), (some (.p (pickF (.t (Tr.path 55)) (.c (.bool true)) (.t (Tr.path 58))))), none, [Tr.path 55, Tr.path 58]⟩,
   ⟨(some (Tr.path 60)), (some (.p (S.get (.t (Tr.path 59))))), none, [Tr.path 59]⟩,
   ⟨(some (Tr.path 61)), (some (.p (S.get (.t (Tr.path 10))))), (some (some (Tr.path 60), false)), [Tr.path 10]⟩,
   ⟨(some (Tr.path 62)), (some (.c (callF (.c (.func (.func 38) [] [])) [(.t (Tr.path 61)), (.c (.int .i64 0))]))), (some (some (Tr.path 60), false)), [Tr.path 61]⟩,
   ⟨(some (Tr.path 63)), (some (.p (eqcF true false [.int .i64] (.t (Tr.path 62)) (.c (.int .i64 0))))), (some (some (Tr.path 60), false)), [Tr.path 62]⟩,
   ⟨(some (Tr.path 64)), (some (.p (pickF (.t (Tr.path 60)) (.c (.bool true)) (.t (Tr.path 63))))), none, [Tr.path 60, Tr.path 63]⟩]) (
  .cond (.t (Tr.path 64)) (.seq (.reg [
     ⟨(some (Tr.path 4)), (some (.p (S.get (.c (.bool false))))), none, []⟩]) (
    .ret)) (.skip))) (
 .seq (.reg [
  ⟨(some (Tr.path 65)), (some (.p (S.get (.t (Tr.path 5))))), none, [Tr.path 5]⟩,
  ⟨(some (Tr.path 66)), (some (.p (S.get (.t (Tr.path 7))))), none, [Tr.path 7]⟩,
  ⟨(some (Tr.path 67)), (some (.c (callF (.c (.func (.func 49) [] [])) [(.t (Tr.path 65)), (.t (Tr.path 66))]))), none, [Tr.path 65, Tr.path 66]⟩,
  ⟨(some (Tr.path 68)), (some (.p (S.get (.t (Tr.path 67))))), none, [Tr.path 67]⟩,
  ⟨(some (Tr.path 69)), (some (.c (callF (.c (.func (.func 36) [] [])) []))), (some (some (Tr.path 68), true)), []⟩,
  ⟨(some (Tr.path 70)), (some (.p (pickF (.t (Tr.path 68)) (.t (Tr.path 69)) (.c (.bool false))))), none, [Tr.path 68, Tr.path 69]⟩,
  ⟨(some (Tr.path 4)), (some (.p (S.get (.t (Tr.path 70))))), none, [Tr.path 70]⟩]) (
 .ret)))))))))⟩
theorem c10_eq : fnOf Try.prog 10 = some c10 := by kernel_rfl


theorem sectors_nat {B : Bn} (hg : ∀ D ∈ B.l, Good D) (d : Int) : ∃ n : Nat, B.sectors d = (n : Int) ∧ n ≤ 512 := by
  by_cases e : B.tc d = 0
  · exact ⟨(B.dev d).S.length, if_pos e, (hg _ (tc_dev e)).len⟩
  · exact ⟨0, if_neg e, by decide⟩

theorem balike {H0 H : Heap} {b ds c es : Bk} {l k : List Dv} {B : Bn} (h : Duo H0 H b ds l c es k B) (hg : ∀ D ∈ B.l, Good D) (h17 : B.l.length ≤ 17) {lf : Nat} (hlf : 1000 < lf) (m : Nat) :
    ret (callS Try.prog S0 lf (m + 5) 49 [.ptr (some ⟨b, 0⟩), .ptr (some ⟨c, 0⟩)] H) fun v H' => v = .bool true ∧ Turns Z H H' := by
  have hne := h.ne
  have hlk : k.length = l.length := by rw [h.m.rep.len, h.r.rep.len]
  have hl17 : l.length ≤ 17 := by rw [h.m.rep.len]; exact h17
  have e98 := bdevices h.m.rep hne lf (m + 2)
  change callS Try.prog S0 lf (m + 4) 98 _ _ = _ at e98
  have e99 := rdevices h.r.rep lf (m + 3)
  change callS Try.prog S0 lf (m + 4) 99 _ _ = _ at e99
  rw [hlk] at e99
  have e34 : callS Try.prog S0 lf (m + 4) 34 [.ptr (some ⟨b, 0⟩)] H = _ := bdark h.m.rep.at' hne lf (m + 2)
  have e100 := rdark h.r.rep lf (m + 3)
  change callS Try.prog S0 lf (m + 4) 100 _ _ = _ at e100
  have e35 : callS Try.prog S0 lf (m + 4) 35 [.ptr (some ⟨b, 0⟩)] H = _ := bsteps h.m.rep.at' hne lf (m + 2)
  have e101 := rsteps h.r.rep lf (m + 3)
  change callS Try.prog S0 lf (m + 4) 101 _ _ = _ at e101
  have hinner : ∀ (d : Int) (t : T) (H1 : Heap), Duo H0 H1 b ds l c es k B → t.getP (Tr.path 0) = some (.ptr (some ⟨b, 0⟩)) → t.getP (Tr.path 1) = some (.ptr (some ⟨c, 0⟩)) → t.getP (Tr.path 5) = some (.int .i64 d) → t.getP (Tr.path 6) = some (.int .i64 0) →
      wp (loopF (runC (callS Try.prog S0 lf (m + 4)) lf c49_l0) lf ⟨t, H1, []⟩) fun x s => x = .ex 2 ∧ s.d = [] ∧ s.t.getP (Tr.path 0) = some (.ptr (some ⟨b, 0⟩)) ∧ s.t.getP (Tr.path 1) = some (.ptr (some ⟨c, 0⟩)) ∧ s.t.getP (Tr.path 5) = some (.int .i64 d) ∧ Turns Z H1 s.H := by
    intro d t H1 hD q0 q1 q5 q6
    obtain ⟨n, hn, hn5⟩ := sectors_nat hg d
    refine wp_loopF (fun r s => ∃ i, i + r = n ∧ s.d = [] ∧ s.t.getP (Tr.path 0) = some (.ptr (some ⟨b, 0⟩)) ∧ s.t.getP (Tr.path 1) = some (.ptr (some ⟨c, 0⟩)) ∧ s.t.getP (Tr.path 5) = some (.int .i64 d) ∧ s.t.getP (Tr.path 6) = some (.int .i64 ((i : Nat) : Int)) ∧ Turns Z H1 s.H) ?_ lf n _ ⟨0, by omega, rfl, q0, q1, q5, q6, Turns.refl Z H1⟩ (by omega)
    clear q0 q1 q5 q6 t
    rintro r ⟨t, HH, dd⟩ ⟨i, hi, rfl, q0, q1, q5, q6, hT⟩
    dsimp only at q0 q1 q5 q6 hT
    have hD' := hD.turns hT
    have e102 := rsectors hD'.r.rep d lf (m + 2)
    change callS Try.prog S0 lf (m + 4) 102 _ _ = _ at e102
    rw [hn] at e102
    cases r with
    | zero =>
      have hi : i = n := by omega
      subst hi
      have hz : ¬ (i < i) := Nat.lt_irrefl _
      simp only [c49_l0, q0, q1, q5, q6, e102, hz, Aa, Ab, Ad, Ae, Af, Ag, Ah, Ai, Aj, Ak, Al, Ao, Ap, Aq, Ar, Au, sO_p, sO_r, sO_m, sO_a, sO_c, Av, Aw, Ax, Ay, Az, sE_p, sE_r, sE_m, sE_a, sE_c, A0, A2, A3, A4, A5, A6, A7, A8, A9, Ba, Bb, Bc, Bd, Be, Bf, Bg, Bh, Bi, Bj, Bl, Bm, Bo, Bp, Bq, Br, Bs, Bt, Bu, Bv, Tr.getP_e, Bw, Bx, ↓reduceIte, Nat.reduceEqDiff, Nat.reduceAdd, Nat.reduceSub, Nat.reduceMul, Nat.reduceDiv, Nat.reduceMod, Nat.zero_add, Nat.add_zero, beq_self_eq_true, Nat.zero_ne_one, Nat.one_ne_zero, Nat.reduceLeDiff, Int.reduceBEq, constF, unF, unary,  pickF, nilcF, faddrF, fldF, iaddrSF, arF, Bz, B3, B4, B5, B6, B7, convF, extF, lenF, eqcF, eqnF, eqN, eqPtr, isNone, loadF, storeF, allocF, callF, gets, Option.map_some, Option.bind_some, B8, B9, Ca, Cb, Cc, nbeq, nble, Cd, Ce, Cf, Cg, Ch, Ci, Cj, Ck, Cl, Cm, Cn, Co, Cp, Cq, Cr, Cs, Ct, Cu, Cv, Cw, Cx, V.w, width, unc, cmpCells, Cy, Cz, C6, C7, C8, Da, undef, List.append_nil, List.nil_append, List.cons_append, Db, Dc, resultsV, result, tup, Dd, Bool.and_true, Bool.true_and, Bool.and_self, decide_true, decide_false, Bool.not_true, Bool.not_false, Bool.true_beq, Bool.false_beq, beq_iff_eq, reduceCtorEq, Nat.succ_eq_add_one, ptr0, Int.ofNat_eq_natCast, Int.ofNat_le, Int.ofNat_lt, Int.natCast_add, De, Df, Dg, Dh, Di, List.map_cons, List.map_nil, Dj, Heap.next_add, Heap.next_set, boxF, buildF, fill, bsliceF, fillRows, List.replicate_one, Dk, Dl, Dm, Dn, Dp, Dq, Dr, Ds, Dt, Du, Dw, Dx, Dy, Dz, D2, D3, D4, D5, D6, D7, D8, D9, Ea, Eb, Ec, appF, List.length_cons, List.length_nil]
      exact ⟨trivial, trivial, trivial, trivial, trivial, hT⟩
    | succ r =>
      have hin : i < n := by omega
      have hw : IntKind.i64.wrap ((i : Int) + 1) = (i : Int) + 1 := wrap_i64 (by omega)
      obtain ⟨v, K1, e1, rfl, t1⟩ := bsure_all hD'.m.rep hne hg d (i : Int) lf m
      have t1' := t1.trans (cell_turns K1 (B.sure d (i : Int)))
      have h1 := hD'.turns t1'
      obtain ⟨v, K2, e2, rfl, t2⟩ := rbsure h1.r.rep hg d (i : Int) hlf (m + 1)
      change callS Try.prog S0 lf (m + 4) 96 _ _ = _ at e2
      have t2' := t2.trans (cell_turns K2 (B.sure d (i : Int)))
      have h2 := h1.turns t2'
      obtain ⟨v, K3, e3, rfl, t3⟩ := bread_all h2.m.rep hne hg d (i : Int) hlf m
      have t3' := t3.trans (cell_turns K3 (B.read d (i : Int)))
      have h3 := h2.turns t3'
      obtain ⟨v, K4, e4, rfl, t4⟩ := rbread h3.r.rep hg d (i : Int) hlf (m + 1)
      change callS Try.prog S0 lf (m + 4) 89 _ _ = _ at e4
      have t4' := t4.trans (cell_turns K4 (B.read d (i : Int)))
      have d1 := load_of (((t2'.trans (t3'.trans t4')).same _ (cell_old K1 (B.sure d (i : Int))) id).trans (cell_get K1 (B.sure d (i : Int))))
      have d2 := load_of (((t3'.trans t4').same _ (cell_old K2 (B.sure d (i : Int))) id).trans (cell_get K2 (B.sure d (i : Int))))
      have d3 := load_of ((t4'.same _ (cell_old K3 (B.read d (i : Int))) id).trans (cell_get K3 (B.read d (i : Int))))
      have d4 := load_of (cell_get K4 (B.read d (i : Int)))
      have hTT := hT.trans (t1'.trans (t2'.trans (t3'.trans t4')))
      generalize B.sure d (i : Int) = X at e1 e2 e3 e4 d1 d2 d3 d4 hTT
      generalize B.read d (i : Int) = Y at e1 e2 e3 e4 d1 d2 d3 d4 hTT
      generalize B.uc d (i : Int) = x at e1 e2
      generalize B.rc d (i : Int) = y at e3 e4
      simp only [c49_l0, q0, q1, q5, q6, e102, hin, e1, e2, e3, e4, cell_fold, d1, d2, d3, d4, hw, Aa, Ab, Ad, Ae, Af, Ag, Ah, Ai, Aj, Ak, Al, Ao, Ap, Aq, Ar, Au, sO_p, sO_r, sO_m, sO_a, sO_c, Av, Aw, Ax, Ay, Az, sE_p, sE_r, sE_m, sE_a, sE_c, A0, A2, A3, A4, A5, A6, A7, A8, A9, Ba, Bb, Bc, Bd, Be, Bf, Bg, Bh, Bi, Bj, Bl, Bm, Bo, Bp, Bq, Br, Bs, Bt, Bu, Bv, Tr.getP_e, Bw, Bx, ↓reduceIte, Nat.reduceEqDiff, Nat.reduceAdd, Nat.reduceSub, Nat.reduceMul, Nat.reduceDiv, Nat.reduceMod, Nat.zero_add, Nat.add_zero, beq_self_eq_true, Nat.zero_ne_one, Nat.one_ne_zero, Nat.reduceLeDiff, Int.reduceBEq, constF, unF, unary,  pickF, nilcF, faddrF, fldF, iaddrSF, arF, Bz, B3, B4, B5, B6, B7, convF, extF, lenF, eqcF, eqnF, eqN, eqPtr, isNone, loadF, storeF, allocF, callF, gets, Option.map_some, Option.bind_some, B8, B9, Ca, Cb, Cc, nbeq, nble, Cd, Ce, Cf, Cg, Ch, Ci, Cj, Ck, Cl, Cm, Cn, Co, Cp, Cq, Cr, Cs, Ct, Cu, Cv, Cw, Cx, V.w, width, unc, cmpCells, Cy, Cz, C6, C7, C8, Da, undef, List.append_nil, List.nil_append, List.cons_append, Db, Dc, resultsV, result, tup, Dd, Bool.and_true, Bool.true_and, Bool.and_self, decide_true, decide_false, Bool.not_true, Bool.not_false, Bool.true_beq, Bool.false_beq, beq_iff_eq, reduceCtorEq, Nat.succ_eq_add_one, ptr0, Int.ofNat_eq_natCast, Int.ofNat_le, Int.ofNat_lt, Int.natCast_add, De, Df, Dg, Dh, Di, List.map_cons, List.map_nil, Dj, Heap.next_add, Heap.next_set, boxF, buildF, fill, bsliceF, fillRows, List.replicate_one, Dk, Dl, Dm, Dn, Dp, Dq, Dr, Ds, Dt, Du, Dw, Dx, Dy, Dz, D2, D3, D4, D5, D6, D7, D8, D9, Ea, Eb, Ec, appF, List.length_cons, List.length_nil]
      exact ⟨r, Nat.lt_succ_self r, i + 1, by omega, trivial, trivial, trivial, trivial, rfl, hTT⟩
  have houter : ∀ (t : T), t.getP (Tr.path 0) = some (.ptr (some ⟨b, 0⟩)) → t.getP (Tr.path 1) = some (.ptr (some ⟨c, 0⟩)) → t.getP (Tr.path 5) = some (.int .i64 (-1)) →
      wp (loopF (runC (callS Try.prog S0 lf (m + 4)) lf c49_l1) lf ⟨t, H, []⟩) fun x s => x = .ex 0 ∧ s.d = [] ∧ Turns Z H s.H := by
    intro t q0 q1 q5
    refine wp_loopF (fun r s => ∃ j d, j + r = l.length + 2 ∧ d = (j : Int) - 1 ∧ s.d = [] ∧ s.t.getP (Tr.path 0) = some (.ptr (some ⟨b, 0⟩)) ∧ s.t.getP (Tr.path 1) = some (.ptr (some ⟨c, 0⟩)) ∧ s.t.getP (Tr.path 5) = some (.int .i64 d) ∧ Turns Z H s.H) ?_ lf (l.length + 2) _ ⟨0, -1, by omega, by omega, rfl, q0, q1, q5, Turns.refl Z H⟩ (by omega)
    clear q0 q1 q5 t
    rintro r ⟨t, HH, dd⟩ ⟨j, d, hj, hd, rfl, q0, q1, q5, hT⟩
    dsimp only at q0 q1 q5 hT
    have hD' := h.turns hT
    have e99' := rdevices hD'.r.rep lf (m + 3)
    change callS Try.prog S0 lf (m + 4) 99 _ _ = _ at e99'
    rw [hlk] at e99'
    cases r with
    | zero =>
      have hz : ¬ (d ≤ (l.length : Int)) := by omega
      simp only [c49_l1, q0, q1, q5, e99', hz, Aa, Ab, Ad, Ae, Af, Ag, Ah, Ai, Aj, Ak, Al, Ao, Ap, Aq, Ar, Au, sO_p, sO_r, sO_m, sO_a, sO_c, Av, Aw, Ax, Ay, Az, sE_p, sE_r, sE_m, sE_a, sE_c, A0, A2, A3, A4, A5, A6, A7, A8, A9, Ba, Bb, Bc, Bd, Be, Bf, Bg, Bh, Bi, Bj, Bl, Bm, Bo, Bp, Bq, Br, Bs, Bt, Bu, Bv, Tr.getP_e, Bw, Bx, ↓reduceIte, Nat.reduceEqDiff, Nat.reduceAdd, Nat.reduceSub, Nat.reduceMul, Nat.reduceDiv, Nat.reduceMod, Nat.zero_add, Nat.add_zero, beq_self_eq_true, Nat.zero_ne_one, Nat.one_ne_zero, Nat.reduceLeDiff, Int.reduceBEq, constF, unF, unary,  pickF, nilcF, faddrF, fldF, iaddrSF, arF, Bz, B3, B4, B5, B6, B7, convF, extF, lenF, eqcF, eqnF, eqN, eqPtr, isNone, loadF, storeF, allocF, callF, gets, Option.map_some, Option.bind_some, B8, B9, Ca, Cb, Cc, nbeq, nble, Cd, Ce, Cf, Cg, Ch, Ci, Cj, Ck, Cl, Cm, Cn, Co, Cp, Cq, Cr, Cs, Ct, Cu, Cv, Cw, Cx, V.w, width, unc, cmpCells, Cy, Cz, C6, C7, C8, Da, undef, List.append_nil, List.nil_append, List.cons_append, Db, Dc, resultsV, result, tup, Dd, Bool.and_true, Bool.true_and, Bool.and_self, decide_true, decide_false, Bool.not_true, Bool.not_false, Bool.true_beq, Bool.false_beq, beq_iff_eq, reduceCtorEq, Nat.succ_eq_add_one, ptr0, Int.ofNat_eq_natCast, Int.ofNat_le, Int.ofNat_lt, Int.natCast_add, De, Df, Dg, Dh, Di, List.map_cons, List.map_nil, Dj, Heap.next_add, Heap.next_set, boxF, buildF, fill, bsliceF, fillRows, List.replicate_one, Dk, Dl, Dm, Dn, Dp, Dq, Dr, Ds, Dt, Du, Dw, Dx, Dy, Dz, D2, D3, D4, D5, D6, D7, D8, D9, Ea, Eb, Ec, appF, List.length_cons, List.length_nil]
      exact ⟨trivial, trivial, hT⟩
    | succ r =>
      have hz : d ≤ (l.length : Int) := by omega
      have hw : IntKind.i64.wrap (d + 1) = d + 1 := wrap_i64 (by omega)
      have e41 := bsectors_all hD'.m.rep hne hg d lf (m + 1)
      change callS Try.prog S0 lf (m + 4) 41 _ _ = _ at e41
      have e102 := rsectors hD'.r.rep d lf (m + 2)
      change callS Try.prog S0 lf (m + 4) 102 _ _ = _ at e102
      have e39 := bdead_all hD'.m.rep hne hg d lf (m + 1)
      change callS Try.prog S0 lf (m + 4) 39 _ _ = _ at e39
      have e103 := rdead hD'.r.rep d lf (m + 2)
      change callS Try.prog S0 lf (m + 4) 103 _ _ = _ at e103
      generalize B.sectors d = x at e41 e102
      generalize B.dead d = y at e39 e103
      simp only [c49_l1, q0, q1, q5, e99', hz, e41, e102, e39, e103, Aa, Ab, Ad, Ae, Af, Ag, Ah, Ai, Aj, Ak, Al, Ao, Ap, Aq, Ar, Au, sO_p, sO_r, sO_m, sO_a, sO_c, Av, Aw, Ax, Ay, Az, sE_p, sE_r, sE_m, sE_a, sE_c, A0, A2, A3, A4, A5, A6, A7, A8, A9, Ba, Bb, Bc, Bd, Be, Bf, Bg, Bh, Bi, Bj, Bl, Bm, Bo, Bp, Bq, Br, Bs, Bt, Bu, Bv, Tr.getP_e, Bw, Bx, ↓reduceIte, Nat.reduceEqDiff, Nat.reduceAdd, Nat.reduceSub, Nat.reduceMul, Nat.reduceDiv, Nat.reduceMod, Nat.zero_add, Nat.add_zero, beq_self_eq_true, Nat.zero_ne_one, Nat.one_ne_zero, Nat.reduceLeDiff, Int.reduceBEq, constF, unF, unary,  pickF, nilcF, faddrF, fldF, iaddrSF, arF, Bz, B3, B4, B5, B6, B7, convF, extF, lenF, eqcF, eqnF, eqN, eqPtr, isNone, loadF, storeF, allocF, callF, gets, Option.map_some, Option.bind_some, B8, B9, Ca, Cb, Cc, nbeq, nble, Cd, Ce, Cf, Cg, Ch, Ci, Cj, Ck, Cl, Cm, Cn, Co, Cp, Cq, Cr, Cs, Ct, Cu, Cv, Cw, Cx, V.w, width, unc, cmpCells, Cy, Cz, C6, C7, C8, Da, undef, List.append_nil, List.nil_append, List.cons_append, Db, Dc, resultsV, result, tup, Dd, Bool.and_true, Bool.true_and, Bool.and_self, decide_true, decide_false, Bool.not_true, Bool.not_false, Bool.true_beq, Bool.false_beq, beq_iff_eq, reduceCtorEq, Nat.succ_eq_add_one, ptr0, Int.ofNat_eq_natCast, Int.ofNat_le, Int.ofNat_lt, Int.natCast_add, De, Df, Dg, Dh, Di, List.map_cons, List.map_nil, Dj, Heap.next_add, Heap.next_set, boxF, buildF, fill, bsliceF, fillRows, List.replicate_one, Dk, Dl, Dm, Dn, Dp, Dq, Dr, Ds, Dt, Du, Dw, Dx, Dy, Dz, D2, D3, D4, D5, D6, D7, D8, D9, Ea, Eb, Ec, appF, List.length_cons, List.length_nil]
      refine wp_ctx (F := fun r => seqC _ _ _ (blockC _ (blockC _ r))) (hinner d _ HH hD' ?_ ?_ ?_ ?_) ?_
      · simp only [q0, q1, q5, Bv, Tr.getP_e, ↓reduceIte, Nat.reduceEqDiff, Nat.zero_ne_one, Nat.one_ne_zero, Bw, Bx, Nat.reduceAdd, Nat.zero_add, Int.ofNat_eq_natCast]
      · simp only [q0, q1, q5, Bv, Tr.getP_e, ↓reduceIte, Nat.reduceEqDiff, Nat.zero_ne_one, Nat.one_ne_zero, Bw, Bx, Nat.reduceAdd, Nat.zero_add, Int.ofNat_eq_natCast]
      · simp only [q0, q1, q5, Bv, Tr.getP_e, ↓reduceIte, Nat.reduceEqDiff, Nat.zero_ne_one, Nat.one_ne_zero, Bw, Bx, Nat.reduceAdd, Nat.zero_add, Int.ofNat_eq_natCast]
      · simp only [q0, q1, q5, Bv, Tr.getP_e, ↓reduceIte, Nat.reduceEqDiff, Nat.zero_ne_one, Nat.one_ne_zero, Bw, Bx, Nat.reduceAdd, Nat.zero_add, Int.ofNat_eq_natCast]
      clear q0 q1 q5 t
      rintro x ⟨t, H5, d'⟩ ⟨rfl, rfl, q0, q1, q5, t5⟩
      dsimp only at q0 q1 q5 t5
      simp only [q0, q1, q5, hw, Aa, Ab, Ad, Ae, Af, Ag, Ah, Ai, Aj, Ak, Al, Ao, Ap, Aq, Ar, Au, sO_p, sO_r, sO_m, sO_a, sO_c, Av, Aw, Ax, Ay, Az, sE_p, sE_r, sE_m, sE_a, sE_c, A0, A2, A3, A4, A5, A6, A7, A8, A9, Ba, Bb, Bc, Bd, Be, Bf, Bg, Bh, Bi, Bj, Bl, Bm, Bo, Bp, Bq, Br, Bs, Bt, Bu, Bv, Tr.getP_e, Bw, Bx, ↓reduceIte, Nat.reduceEqDiff, Nat.reduceAdd, Nat.reduceSub, Nat.reduceMul, Nat.reduceDiv, Nat.reduceMod, Nat.zero_add, Nat.add_zero, beq_self_eq_true, Nat.zero_ne_one, Nat.one_ne_zero, Nat.reduceLeDiff, Int.reduceBEq, constF, unF, unary,  pickF, nilcF, faddrF, fldF, iaddrSF, arF, Bz, B3, B4, B5, B6, B7, convF, extF, lenF, eqcF, eqnF, eqN, eqPtr, isNone, loadF, storeF, allocF, callF, gets, Option.map_some, Option.bind_some, B8, B9, Ca, Cb, Cc, nbeq, nble, Cd, Ce, Cf, Cg, Ch, Ci, Cj, Ck, Cl, Cm, Cn, Co, Cp, Cq, Cr, Cs, Ct, Cu, Cv, Cw, Cx, V.w, width, unc, cmpCells, Cy, Cz, C6, C7, C8, Da, undef, List.append_nil, List.nil_append, List.cons_append, Db, Dc, resultsV, result, tup, Dd, Bool.and_true, Bool.true_and, Bool.and_self, decide_true, decide_false, Bool.not_true, Bool.not_false, Bool.true_beq, Bool.false_beq, beq_iff_eq, reduceCtorEq, Nat.succ_eq_add_one, ptr0, Int.ofNat_eq_natCast, Int.ofNat_le, Int.ofNat_lt, Int.natCast_add, De, Df, Dg, Dh, Di, List.map_cons, List.map_nil, Dj, Heap.next_add, Heap.next_set, boxF, buildF, fill, bsliceF, fillRows, List.replicate_one, Dk, Dl, Dm, Dn, Dp, Dq, Dr, Ds, Dt, Du, Dw, Dx, Dy, Dz, D2, D3, D4, D5, D6, D7, D8, D9, Ea, Eb, Ec, appF, List.length_cons, List.length_nil]
      exact ⟨r, Nat.lt_succ_self r, j + 1, d + 1, by omega, by omega, trivial, trivial, trivial, rfl, hT.trans t5⟩
  refine ret_call rfl c49_eq ?_
  generalize B.dk = x at e34 e100
  generalize B.st = y at e35 e101
  simp only [c49, e98, e99, e34, e100, e35, e101, Aa, Ab, Ad, Ae, Af, Ag, Ah, Ai, Aj, Ak, Al, Ao, Ap, Aq, Ar, Au, sO_p, sO_r, sO_m, sO_a, sO_c, Av, Aw, Ax, Ay, Az, sE_p, sE_r, sE_m, sE_a, sE_c, A0, A2, A3, A4, A5, A6, A7, A8, A9, Ba, Bb, Bc, Bd, Be, Bf, Bg, Bh, Bi, Bj, Bl, Bm, Bo, Bp, Bq, Br, Bs, Bt, Bu, Bv, Tr.getP_e, Bw, Bx, ↓reduceIte, Nat.reduceEqDiff, Nat.reduceAdd, Nat.reduceSub, Nat.reduceMul, Nat.reduceDiv, Nat.reduceMod, Nat.zero_add, Nat.add_zero, beq_self_eq_true, Nat.zero_ne_one, Nat.one_ne_zero, Nat.reduceLeDiff, Int.reduceBEq, constF, unF, unary,  pickF, nilcF, faddrF, fldF, iaddrSF, arF, Bz, B3, B4, B5, B6, B7, convF, extF, lenF, eqcF, eqnF, eqN, eqPtr, isNone, loadF, storeF, allocF, callF, gets, Option.map_some, Option.bind_some, B8, B9, Ca, Cb, Cc, nbeq, nble, Cd, Ce, Cf, Cg, Ch, Ci, Cj, Ck, Cl, Cm, Cn, Co, Cp, Cq, Cr, Cs, Ct, Cu, Cv, Cw, Cx, V.w, width, unc, cmpCells, Cy, Cz, C6, C7, C8, Da, undef, List.append_nil, List.nil_append, List.cons_append, Db, Dc, resultsV, result, tup, Dd, Bool.and_true, Bool.true_and, Bool.and_self, decide_true, decide_false, Bool.not_true, Bool.not_false, Bool.true_beq, Bool.false_beq, beq_iff_eq, reduceCtorEq, Nat.succ_eq_add_one, ptr0, Int.ofNat_eq_natCast, Int.ofNat_le, Int.ofNat_lt, Int.natCast_add, De, Df, Dg, Dh, Di, List.map_cons, List.map_nil, Dj, Heap.next_add, Heap.next_set, boxF, buildF, fill, bsliceF, fillRows, List.replicate_one, Dk, Dl, Dm, Dn, Dp, Dq, Dr, Ds, Dt, Du, Dw, Dx, Dy, Dz, D2, D3, D4, D5, D6, D7, D8, D9, Ea, Eb, Ec, appF, List.length_cons, List.length_nil]
  refine wp_ctx (F := fun r => seqC _ _ _ (blockC _ r)) (houter _ ?_ ?_ ?_) ?_
  · simp only [Bv, Tr.getP_e, ↓reduceIte, Nat.reduceEqDiff, Nat.zero_ne_one, Nat.one_ne_zero, Bw, Bx, Nat.reduceAdd, Nat.zero_add, Int.ofNat_eq_natCast]
  · simp only [Bv, Tr.getP_e, ↓reduceIte, Nat.reduceEqDiff, Nat.zero_ne_one, Nat.one_ne_zero, Bw, Bx, Nat.reduceAdd, Nat.zero_add, Int.ofNat_eq_natCast]
  · simp only [Bv, Tr.getP_e, ↓reduceIte, Nat.reduceEqDiff, Nat.zero_ne_one, Nat.one_ne_zero, Bw, Bx, Nat.reduceAdd, Nat.zero_add, Int.ofNat_eq_natCast]
  rintro x ⟨t, H5, d'⟩ ⟨rfl, rfl, t5⟩
  dsimp only at t5
  simp only [Aa, Ab, Ad, Ae, Af, Ag, Ah, Ai, Aj, Ak, Al, Ao, Ap, Aq, Ar, Au, sO_p, sO_r, sO_m, sO_a, sO_c, Av, Aw, Ax, Ay, Az, sE_p, sE_r, sE_m, sE_a, sE_c, A0, A2, A3, A4, A5, A6, A7, A8, A9, Ba, Bb, Bc, Bd, Be, Bf, Bg, Bh, Bi, Bj, Bl, Bm, Bo, Bp, Bq, Br, Bs, Bt, Bu, Bv, Tr.getP_e, Bw, Bx, ↓reduceIte, Nat.reduceEqDiff, Nat.reduceAdd, Nat.reduceSub, Nat.reduceMul, Nat.reduceDiv, Nat.reduceMod, Nat.zero_add, Nat.add_zero, beq_self_eq_true, Nat.zero_ne_one, Nat.one_ne_zero, Nat.reduceLeDiff, Int.reduceBEq, constF, unF, unary,  pickF, nilcF, faddrF, fldF, iaddrSF, arF, Bz, B3, B4, B5, B6, B7, convF, extF, lenF, eqcF, eqnF, eqN, eqPtr, isNone, loadF, storeF, allocF, callF, gets, Option.map_some, Option.bind_some, B8, B9, Ca, Cb, Cc, nbeq, nble, Cd, Ce, Cf, Cg, Ch, Ci, Cj, Ck, Cl, Cm, Cn, Co, Cp, Cq, Cr, Cs, Ct, Cu, Cv, Cw, Cx, V.w, width, unc, cmpCells, Cy, Cz, C6, C7, C8, Da, undef, List.append_nil, List.nil_append, List.cons_append, Db, Dc, resultsV, result, tup, Dd, Bool.and_true, Bool.true_and, Bool.and_self, decide_true, decide_false, Bool.not_true, Bool.not_false, Bool.true_beq, Bool.false_beq, beq_iff_eq, reduceCtorEq, Nat.succ_eq_add_one, ptr0, Int.ofNat_eq_natCast, Int.ofNat_le, Int.ofNat_lt, Int.natCast_add, De, Df, Dg, Dh, Di, List.map_cons, List.map_nil, Dj, Heap.next_add, Heap.next_set, boxF, buildF, fill, bsliceF, fillRows, List.replicate_one, Dk, Dl, Dm, Dn, Dp, Dq, Dr, Ds, Dt, Du, Dw, Dx, Dy, Dz, D2, D3, D4, D5, D6, D7, D8, D9, Ea, Eb, Ec, appF, List.length_cons, List.length_nil]
  exact ⟨trivial, .inr trivial, _, rfl, rfl, t5⟩

theorem bplays_run (H : Heap) {pp : Option Ptr} {P : List Int} {pc : Nat} (hP : PicksAt H pp P Z) {lp : Option Ptr} {lc : Nat} {A : List BAct} (hA : BActsAt H lp A) {lf : Nat} (hlf : 1000 < lf) (m : Nat) :
    ret (callS Try.prog S0 lf (m + 8) 10 [.slice pp P.length pc 0, .slice lp A.length lc 0] H) fun v H' => v = .bool true ∧ Turns Z H H' := by
  obtain ⟨v1, H1, e1, t1, hv1⟩ := bnew_all H hP (pc := pc) (po := 0) hlf (m + 5)
  change callS Try.prog S0 lf (m + 7) 45 _ _ = _ at e1
  obtain ⟨v2, H2, e2, t2, hv2⟩ := rbnew_all H1 (hP.turns t1) (pc := pc) (po := 0) hlf (m + 5)
  change callS Try.prog S0 lf (m + 7) 46 _ _ = _ at e2
  refine ret_call rfl c10_eq ?_
  rcases hv1 with ⟨hbad, rfl⟩ | ⟨hok, b, ds, l, rfl, hR, hN⟩
  · rcases hv2 with ⟨_, rfl⟩ | ⟨hok, _⟩
    · have eL := lives_call lf (m + 6) H2
      change callS Try.prog S0 lf (m + 7) 36 [] H2 = _ at eL
      simp only [c10, e1, e2, eL, Aa, Ab, Ad, Ae, Af, Ag, Ah, Ai, Aj, Ak, Al, Ao, Ap, Aq, Ar, Au, sO_p, sO_r, sO_m, sO_a, sO_c, Av, Aw, Ax, Ay, Az, sE_p, sE_r, sE_m, sE_a, sE_c, A0, A2, A3, A4, A5, A6, A7, A8, A9, Ba, Bb, Bc, Bd, Be, Bf, Bg, Bh, Bi, Bj, Bl, Bm, Bo, Bp, Bq, Br, Bs, Bt, Bu, Bv, Tr.getP_e, Bw, Bx, ↓reduceIte, Nat.reduceEqDiff, Nat.reduceAdd, Nat.reduceSub, Nat.reduceMul, Nat.reduceDiv, Nat.reduceMod, Nat.zero_add, Nat.add_zero, beq_self_eq_true, Nat.zero_ne_one, Nat.one_ne_zero, Nat.reduceLeDiff, Int.reduceBEq, constF, unF, unary,  pickF, nilcF, faddrF, fldF, iaddrSF, arF, Bz, B3, B4, B5, B6, B7, convF, extF, lenF, eqcF, eqnF, eqN, eqPtr, isNone, loadF, storeF, allocF, callF, gets, Option.map_some, Option.bind_some, B8, B9, Ca, Cb, Cc, nbeq, nble, Cd, Ce, Cf, Cg, Ch, Ci, Cj, Ck, Cl, Cm, Cn, Co, Cp, Cq, Cr, Cs, Ct, Cu, Cv, Cw, Cx, V.w, width, unc, cmpCells, Cy, Cz, C6, C7, C8, Da, undef, List.append_nil, List.nil_append, List.cons_append, Db, Dc, resultsV, result, tup, Dd, Bool.and_true, Bool.true_and, Bool.and_self, decide_true, decide_false, Bool.not_true, Bool.not_false, Bool.true_beq, Bool.false_beq, beq_iff_eq, reduceCtorEq, Nat.succ_eq_add_one, ptr0, Int.ofNat_eq_natCast, Int.ofNat_le, Int.ofNat_lt, Int.natCast_add, De, Df, Dg, Dh, Di, List.map_cons, List.map_nil, Dj, Heap.next_add, Heap.next_set, boxF, buildF, fill, bsliceF, fillRows, List.replicate_one, Dk, Dl, Dm, Dn, Dp, Dq, Dr, Ds, Dt, Du, Dw, Dx, Dy, Dz, D2, D3, D4, D5, D6, D7, D8, D9, Ea, Eb, Ec, appF, List.length_cons, List.length_nil]
      exact ⟨trivial, .inr trivial, _, rfl, rfl, t1.trans t2⟩
    · exact absurd hok hbad
  · rcases hv2 with ⟨hbad, _⟩ | ⟨_, c, es, k, rfl, hS, hM⟩
    · exact absurd hok hbad
    · have hpos : 0 < (newB P).l.length := by show 0 < (P.map _).length; rw [List.length_map]; exact hok.1
      have h17 : (newB P).l.length ≤ 17 := by show (P.map _).length ≤ 17; rw [List.length_map]; exact hok.2.1
      have hD0 : Duo H H2 b ds l c es k (newB P) := ⟨⟨hR.turns t2, t1.trans t2, hN⟩, ⟨hS, t1.trans t2, fun x hx o => hM x hx (o.mono t1.next)⟩, fun x hx hc => hM x hc (hR.foot_old x hx), hpos⟩
      have ok0 := okNew hok
      generalize newB P = B0 at hD0 ok0 hpos h17
      have hloop : ∀ t : T, t.getP (Tr.path 1) = some (.slice lp A.length lc 0) → t.getP (Tr.path 5) = some (.ptr (some ⟨b, 0⟩)) → t.getP (Tr.path 7) = some (.ptr (some ⟨c, 0⟩)) → t.getP (Tr.path 9) = some (.int .i64 0) →
          wp (loopF (runC (callS Try.prog S0 lf (m + 7)) lf c10_l0) lf ⟨t, H2, []⟩) fun x s =>
            x = .ex 0 ∧ s.d = [] ∧ s.t.getP (Tr.path 5) = some (.ptr (some ⟨b, 0⟩)) ∧ s.t.getP (Tr.path 7) = some (.ptr (some ⟨c, 0⟩)) ∧ ∃ i l k B, i ≤ 60 ∧ Duo H s.H b ds l c es k B ∧ Bok i B ∧ B.l.length ≤ 17 := by
        intro t q1 q5 q7 q9
        refine wp_loopF (fun r s => ∃ i l k B, i + r = 60 ∧ s.d = [] ∧ s.t.getP (Tr.path 1) = some (.slice lp A.length lc 0) ∧ s.t.getP (Tr.path 5) = some (.ptr (some ⟨b, 0⟩)) ∧ s.t.getP (Tr.path 7) = some (.ptr (some ⟨c, 0⟩)) ∧ s.t.getP (Tr.path 9) = some (.int .i64 ((i : Nat) : Int)) ∧ Duo H s.H b ds l c es k B ∧ Bok i B ∧ B.l.length ≤ 17) ?_ lf 60 _ ⟨0, l, k, B0, rfl, rfl, q1, q5, q7, q9, hD0, ok0, h17⟩ (by omega)
        clear q1 q5 q7 q9 t hD0 ok0 h17 hpos
        rintro r ⟨t, HH, dd⟩ ⟨i, l, k, B, hi, rfl, q1, q5, q7, q9, hD, ok, h17⟩
        dsimp only at q1 q5 q7 q9 hD
        by_cases hiA : i < A.length
        · cases r with
          | zero =>
            have hi : i = 60 := by omega
            subst hi
            have hg : ¬ ((60 : Int) < 60) := by decide
            have q9 : t.getP (Tr.path 9) = some (.int .i64 60) := q9
            have hiA' : (60 : Int) < (A.length : Int) := by omega
            simp only [c10_l0, q1, q5, q7, q9, hiA', hg, Aa, Ab, Ad, Ae, Af, Ag, Ah, Ai, Aj, Ak, Al, Ao, Ap, Aq, Ar, Au, sO_p, sO_r, sO_m, sO_a, sO_c, Av, Aw, Ax, Ay, Az, sE_p, sE_r, sE_m, sE_a, sE_c, A0, A2, A3, A4, A5, A6, A7, A8, A9, Ba, Bb, Bc, Bd, Be, Bf, Bg, Bh, Bi, Bj, Bl, Bm, Bo, Bp, Bq, Br, Bs, Bt, Bu, Bv, Tr.getP_e, Bw, Bx, ↓reduceIte, Nat.reduceEqDiff, Nat.reduceAdd, Nat.reduceSub, Nat.reduceMul, Nat.reduceDiv, Nat.reduceMod, Nat.zero_add, Nat.add_zero, beq_self_eq_true, Nat.zero_ne_one, Nat.one_ne_zero, Nat.reduceLeDiff, Int.reduceBEq, constF, unF, unary,  pickF, nilcF, faddrF, fldF, iaddrSF, arF, Bz, B3, B4, B5, B6, B7, convF, extF, lenF, eqcF, eqnF, eqN, eqPtr, isNone, loadF, storeF, allocF, callF, gets, Option.map_some, Option.bind_some, B8, B9, Ca, Cb, Cc, nbeq, nble, Cd, Ce, Cf, Cg, Ch, Ci, Cj, Ck, Cl, Cm, Cn, Co, Cp, Cq, Cr, Cs, Ct, Cu, Cv, Cw, Cx, V.w, width, unc, cmpCells, Cy, Cz, C6, C7, C8, Da, undef, List.append_nil, List.nil_append, List.cons_append, Db, Dc, resultsV, result, tup, Dd, Bool.and_true, Bool.true_and, Bool.and_self, decide_true, decide_false, Bool.not_true, Bool.not_false, Bool.true_beq, Bool.false_beq, beq_iff_eq, reduceCtorEq, Nat.succ_eq_add_one, ptr0, Int.ofNat_eq_natCast, Int.ofNat_le, Int.ofNat_lt, Int.natCast_add, De, Df, Dg, Dh, Di, List.map_cons, List.map_nil, Dj, Heap.next_add, Heap.next_set, boxF, buildF, fill, bsliceF, fillRows, List.replicate_one, Dk, Dl, Dm, Dn, Dp, Dq, Dr, Ds, Dt, Du, Dw, Dx, Dy, Dz, D2, D3, D4, D5, D6, D7, D8, D9, Ea, Eb, Ec, appF, List.length_cons, List.length_nil]
            exact ⟨trivial, trivial, trivial, trivial, 60, l, k, B, Nat.le_refl _, hD, ok, h17⟩
          | succ r =>
            have h60 : (i : Int) < 60 := by omega
            have hi1 : i + 1 ≤ A.length := hiA
            obtain ⟨x, hpx, la⟩ := hA.load hD.m.t hiA
            have oka := hA.ok A[i] (List.getElem_mem _)
            generalize A[i] = a at la oka
            obtain ⟨v, H5, eb, rfl, l', k', B', hD', ok', hl'⟩ := bboth hD ok (by omega) h17 a oka hlf m
            change callS _ _ _ _ _ [_, _, .agg a.row] _ = _ at eb
            have hwr : IntKind.i64.wrap ((i : Int) + 1) = (i : Int) + 1 := wrap_i64 (by omega)
            rw [hpx] at q1
            have hwid : unc .ag a.row = some (.agg a.row) := rfl
            generalize a.row = R at la eb hwid
            simp only [c10_l0, q1, q5, q7, q9, hiA, h60, hi1, la, eb, hwr, Aa, Ab, Ad, Ae, Af, Ag, Ah, Ai, Aj, Ak, Al, Ao, Ap, Aq, Ar, Au, sO_p, sO_r, sO_m, sO_a, sO_c, Av, Aw, Ax, Ay, Az, sE_p, sE_r, sE_m, sE_a, sE_c, A0, A2, A3, A4, A5, A6, A7, A8, A9, Ba, Bb, Bc, Bd, Be, Bf, Bg, Bh, Bi, Bj, Bl, Bm, Bo, Bp, Bq, Br, Bs, Bt, Bu, Bv, Tr.getP_e, Bw, Bx, ↓reduceIte, Nat.reduceEqDiff, Nat.reduceAdd, Nat.reduceSub, Nat.reduceMul, Nat.reduceDiv, Nat.reduceMod, Nat.zero_add, Nat.add_zero, beq_self_eq_true, Nat.zero_ne_one, Nat.one_ne_zero, Nat.reduceLeDiff, Int.reduceBEq, constF, unF, unary,  pickF, nilcF, faddrF, fldF, iaddrSF, arF, Bz, B3, B4, B5, B6, B7, convF, extF, lenF, eqcF, eqnF, eqN, eqPtr, isNone, loadF, storeF, allocF, callF, gets, Option.map_some, Option.bind_some, B8, B9, Ca, Cb, Cc, nbeq, nble, Cd, Ce, Cf, Cg, Ch, Ci, Cj, Ck, Cl, Cm, Cn, Co, Cp, Cq, Cr, Cs, Ct, Cu, Cv, Cw, Cx, V.w, width, unc, cmpCells, Cy, Cz, C6, C7, C8, Da, undef, List.append_nil, List.nil_append, List.cons_append, Db, Dc, resultsV, result, tup, Dd, Bool.and_true, Bool.true_and, Bool.and_self, decide_true, decide_false, Bool.not_true, Bool.not_false, Bool.true_beq, Bool.false_beq, beq_iff_eq, reduceCtorEq, Nat.succ_eq_add_one, ptr0, Int.ofNat_eq_natCast, Int.ofNat_le, Int.ofNat_lt, Int.natCast_add, De, Df, Dg, Dh, Di, List.map_cons, List.map_nil, Dj, Heap.next_add, Heap.next_set, boxF, buildF, fill, bsliceF, fillRows, List.replicate_one, Dk, Dl, Dm, Dn, Dp, Dq, Dr, Ds, Dt, Du, Dw, Dx, Dy, Dz, D2, D3, D4, D5, D6, D7, D8, D9, Ea, Eb, Ec, appF, List.length_cons, List.length_nil]
            exact ⟨r, Nat.lt_succ_self r, i + 1, l', k', B', by omega, trivial, by rw [hpx], trivial, trivial, rfl, hD', ok', by rw [hl']; exact h17⟩
        · have hg : ¬ (i < A.length) := hiA
          simp only [c10_l0, q1, q5, q7, q9, hg, Aa, Ab, Ad, Ae, Af, Ag, Ah, Ai, Aj, Ak, Al, Ao, Ap, Aq, Ar, Au, sO_p, sO_r, sO_m, sO_a, sO_c, Av, Aw, Ax, Ay, Az, sE_p, sE_r, sE_m, sE_a, sE_c, A0, A2, A3, A4, A5, A6, A7, A8, A9, Ba, Bb, Bc, Bd, Be, Bf, Bg, Bh, Bi, Bj, Bl, Bm, Bo, Bp, Bq, Br, Bs, Bt, Bu, Bv, Tr.getP_e, Bw, Bx, ↓reduceIte, Nat.reduceEqDiff, Nat.reduceAdd, Nat.reduceSub, Nat.reduceMul, Nat.reduceDiv, Nat.reduceMod, Nat.zero_add, Nat.add_zero, beq_self_eq_true, Nat.zero_ne_one, Nat.one_ne_zero, Nat.reduceLeDiff, Int.reduceBEq, constF, unF, unary,  pickF, nilcF, faddrF, fldF, iaddrSF, arF, Bz, B3, B4, B5, B6, B7, convF, extF, lenF, eqcF, eqnF, eqN, eqPtr, isNone, loadF, storeF, allocF, callF, gets, Option.map_some, Option.bind_some, B8, B9, Ca, Cb, Cc, nbeq, nble, Cd, Ce, Cf, Cg, Ch, Ci, Cj, Ck, Cl, Cm, Cn, Co, Cp, Cq, Cr, Cs, Ct, Cu, Cv, Cw, Cx, V.w, width, unc, cmpCells, Cy, Cz, C6, C7, C8, Da, undef, List.append_nil, List.nil_append, List.cons_append, Db, Dc, resultsV, result, tup, Dd, Bool.and_true, Bool.true_and, Bool.and_self, decide_true, decide_false, Bool.not_true, Bool.not_false, Bool.true_beq, Bool.false_beq, beq_iff_eq, reduceCtorEq, Nat.succ_eq_add_one, ptr0, Int.ofNat_eq_natCast, Int.ofNat_le, Int.ofNat_lt, Int.natCast_add, De, Df, Dg, Dh, Di, List.map_cons, List.map_nil, Dj, Heap.next_add, Heap.next_set, boxF, buildF, fill, bsliceF, fillRows, List.replicate_one, Dk, Dl, Dm, Dn, Dp, Dq, Dr, Ds, Dt, Du, Dw, Dx, Dy, Dz, D2, D3, D4, D5, D6, D7, D8, D9, Ea, Eb, Ec, appF, List.length_cons, List.length_nil]
          exact ⟨trivial, trivial, trivial, trivial, i, l, k, B, by omega, hD, ok, h17⟩
      simp only [c10, e1, e2, Aa, Ab, Ad, Ae, Af, Ag, Ah, Ai, Aj, Ak, Al, Ao, Ap, Aq, Ar, Au, sO_p, sO_r, sO_m, sO_a, sO_c, Av, Aw, Ax, Ay, Az, sE_p, sE_r, sE_m, sE_a, sE_c, A0, A2, A3, A4, A5, A6, A7, A8, A9, Ba, Bb, Bc, Bd, Be, Bf, Bg, Bh, Bi, Bj, Bl, Bm, Bo, Bp, Bq, Br, Bs, Bt, Bu, Bv, Tr.getP_e, Bw, Bx, ↓reduceIte, Nat.reduceEqDiff, Nat.reduceAdd, Nat.reduceSub, Nat.reduceMul, Nat.reduceDiv, Nat.reduceMod, Nat.zero_add, Nat.add_zero, beq_self_eq_true, Nat.zero_ne_one, Nat.one_ne_zero, Nat.reduceLeDiff, Int.reduceBEq, constF, unF, unary,  pickF, nilcF, faddrF, fldF, iaddrSF, arF, Bz, B3, B4, B5, B6, B7, convF, extF, lenF, eqcF, eqnF, eqN, eqPtr, isNone, loadF, storeF, allocF, callF, gets, Option.map_some, Option.bind_some, B8, B9, Ca, Cb, Cc, nbeq, nble, Cd, Ce, Cf, Cg, Ch, Ci, Cj, Ck, Cl, Cm, Cn, Co, Cp, Cq, Cr, Cs, Ct, Cu, Cv, Cw, Cx, V.w, width, unc, cmpCells, Cy, Cz, C6, C7, C8, Da, undef, List.append_nil, List.nil_append, List.cons_append, Db, Dc, resultsV, result, tup, Dd, Bool.and_true, Bool.true_and, Bool.and_self, decide_true, decide_false, Bool.not_true, Bool.not_false, Bool.true_beq, Bool.false_beq, beq_iff_eq, reduceCtorEq, Nat.succ_eq_add_one, ptr0, Int.ofNat_eq_natCast, Int.ofNat_le, Int.ofNat_lt, Int.natCast_add, De, Df, Dg, Dh, Di, List.map_cons, List.map_nil, Dj, Heap.next_add, Heap.next_set, boxF, buildF, fill, bsliceF, fillRows, List.replicate_one, Dk, Dl, Dm, Dn, Dp, Dq, Dr, Ds, Dt, Du, Dw, Dx, Dy, Dz, D2, D3, D4, D5, D6, D7, D8, D9, Ea, Eb, Ec, appF, List.length_cons, List.length_nil]
      refine wp_ctx (F := fun r => seqC _ _ _ (blockC _ r)) (hloop _ ?_ ?_ ?_ ?_) ?_
      · simp only [Bv, Tr.getP_e, ↓reduceIte, Nat.reduceEqDiff, Nat.zero_ne_one, Nat.one_ne_zero, Bw, Bx, Nat.reduceAdd, Nat.zero_add, Int.ofNat_eq_natCast]
      · simp only [Bv, Tr.getP_e, ↓reduceIte, Nat.reduceEqDiff, Nat.zero_ne_one, Nat.one_ne_zero, Bw, Bx, Nat.reduceAdd, Nat.zero_add, Int.ofNat_eq_natCast]
      · simp only [Bv, Tr.getP_e, ↓reduceIte, Nat.reduceEqDiff, Nat.zero_ne_one, Nat.one_ne_zero, Bw, Bx, Nat.reduceAdd, Nat.zero_add, Int.ofNat_eq_natCast]
      · simp only [Bv, Tr.getP_e, ↓reduceIte, Nat.reduceEqDiff, Nat.zero_ne_one, Nat.one_ne_zero, Bw, Bx, Nat.reduceAdd, Nat.zero_add, Int.ofNat_eq_natCast]
      clear hloop hD0 ok0 h17 hpos hR hN hS hM e1 e2
      rintro x ⟨t, H3, d⟩ ⟨rfl, rfl, q5, q7, i, l, k, B, hi, hD, ok, h17⟩
      dsimp only at q5 q7 hD
      have gg := ok.good (by omega)
      have hl17 : l.length ≤ 17 := by rw [hD.m.rep.len]; exact h17
      obtain ⟨v, H4, e4, b', ds', l', rfl, hR', hN', t4⟩ := bcopy hD.m.rep hD.ne gg hl17 hlf (m + 4)
      change callS Try.prog S0 lf (m + 7) 48 _ _ = _ at e4
      have hDc : Duo H H4 b' ds' l' c es k B := ⟨⟨hR', hD.m.t.trans t4, fun x hx o => hN' x hx (o.mono hD.m.t.next)⟩, hD.r.turns t4, fun x hx hc => hN' x hx (hD.r.rep.foot_old x hc), hD.pos⟩
      obtain ⟨v, H5, e5, rfl, t5⟩ := balike hDc gg h17 hlf (m + 2)
      change callS Try.prog S0 lf (m + 7) 49 _ _ = _ at e5
      have hD5 := hDc.turns t5
      obtain ⟨v, H6, e6, rfl, l6, n6⟩ := bcrash_all hD5.m.rep hD5.ne gg (pp := none) (P := []) (pc := 0) ⟨fun e => absurd rfl e⟩ (Nat.le_refl _) hlf (by rw [hD5.m.rep.len]; exact h17) (m + 4)
      change callS Try.prog S0 lf (m + 7) 44 [_, .slice none 0 0 0] _ = _ at e6
      have gC := (ok.crash []).good (by omega)
      have hl6 : l6 ≠ [] := fun e => by
        have := n6.rep.len
        rw [e, crash_len] at this
        have := hD.pos
        simp at *; omega
      obtain ⟨v, H7, e7, rfl, l7, n7⟩ := bfail_all n6.rep hl6 gC 0 lf (m + 4)
      change callS Try.prog S0 lf (m + 7) 38 _ _ = _ at e7
      have htc : (B.crash []).tc 0 = 0 := by
        unfold Bn.tc tcode
        rw [crash_len, if_pos ⟨Int.le_refl _, by have := hD.pos; omega⟩]
      rw [htc] at e7
      have n67 := n6.trans n7
      have t45 := t4.trans t5
      have hfb : ∀ x, BFoot b ds l x → ¬ BFoot b' ds' l' x := fun x hx hc => hN' x hc (hD.m.rep.foot_old x hx)
      have hfc : ∀ x, BFoot c es k x → ¬ BFoot b' ds' l' x := fun x hx hc => hN' x hc (hD.r.rep.foot_old x hx)
      have hf0 : ∀ x, BFoot b' ds' l' x → ¬ H.Old x := fun x hx o => hN' x hx (o.mono hD.m.t.next)
      have hD7 : Duo H H7 b ds l c es k B := ⟨(hD.m.turns t45).turnsX n67.turns hfb hf0, (hD.r.turns t45).turnsX n67.turns hfc hf0, hD.dis, hD.pos⟩
      obtain ⟨v, H8, e8, rfl, t8⟩ := balike hD7 gg h17 hlf (m + 2)
      change callS Try.prog S0 lf (m + 7) 49 _ _ = _ at e8
      have eL := lives_call lf (m + 6) H8
      change callS Try.prog S0 lf (m + 7) 36 [] H8 = _ at eL
      simp only [q5, q7, e4, e5, e6, e7, e8, eL, Aa, Ab, Ad, Ae, Af, Ag, Ah, Ai, Aj, Ak, Al, Ao, Ap, Aq, Ar, Au, sO_p, sO_r, sO_m, sO_a, sO_c, Av, Aw, Ax, Ay, Az, sE_p, sE_r, sE_m, sE_a, sE_c, A0, A2, A3, A4, A5, A6, A7, A8, A9, Ba, Bb, Bc, Bd, Be, Bf, Bg, Bh, Bi, Bj, Bl, Bm, Bo, Bp, Bq, Br, Bs, Bt, Bu, Bv, Tr.getP_e, Bw, Bx, ↓reduceIte, Nat.reduceEqDiff, Nat.reduceAdd, Nat.reduceSub, Nat.reduceMul, Nat.reduceDiv, Nat.reduceMod, Nat.zero_add, Nat.add_zero, beq_self_eq_true, Nat.zero_ne_one, Nat.one_ne_zero, Nat.reduceLeDiff, Int.reduceBEq, constF, unF, unary,  pickF, nilcF, faddrF, fldF, iaddrSF, arF, Bz, B3, B4, B5, B6, B7, convF, extF, lenF, eqcF, eqnF, eqN, eqPtr, isNone, loadF, storeF, allocF, callF, gets, Option.map_some, Option.bind_some, B8, B9, Ca, Cb, Cc, nbeq, nble, Cd, Ce, Cf, Cg, Ch, Ci, Cj, Ck, Cl, Cm, Cn, Co, Cp, Cq, Cr, Cs, Ct, Cu, Cv, Cw, Cx, V.w, width, unc, cmpCells, Cy, Cz, C6, C7, C8, Da, undef, List.append_nil, List.nil_append, List.cons_append, Db, Dc, resultsV, result, tup, Dd, Bool.and_true, Bool.true_and, Bool.and_self, decide_true, decide_false, Bool.not_true, Bool.not_false, Bool.true_beq, Bool.false_beq, beq_iff_eq, reduceCtorEq, Nat.succ_eq_add_one, ptr0, Int.ofNat_eq_natCast, Int.ofNat_le, Int.ofNat_lt, Int.natCast_add, De, Df, Dg, Dh, Di, List.map_cons, List.map_nil, Dj, Heap.next_add, Heap.next_set, boxF, buildF, fill, bsliceF, fillRows, List.replicate_one, Dk, Dl, Dm, Dn, Dp, Dq, Dr, Ds, Dt, Du, Dw, Dx, Dy, Dz, D2, D3, D4, D5, D6, D7, D8, D9, Ea, Eb, Ec, appF, List.length_cons, List.length_nil]
      exact ⟨trivial, .inr trivial, _, rfl, rfl, hD7.m.t.trans t8⟩

end Go.Proofs.Ytcelngepfdchiaa.disk

