/-
  'BenchOwn': the acts that are done to both.
-/
import Derived.Test.YtcelngepfdchiaaOwn
set_option linter.unusedVariables false
set_option linter.unusedSectionVars false
set_option linter.unusedSimpArgs false
set_option maxRecDepth 10000
namespace Go.Proofs.Ytcelngepfdchiaa.disk
open Go.Am

noncomputable def c9_l0 : C := .seq (.seq (.reg [
          ⟨(some (Tr.path 154)), (some (.p (S.get (.t (Tr.path 18))))), none, [Tr.path 18]⟩,
          ⟨(some (Tr.path 155)), (some (.p (arF .lss (.t (Tr.path 154)) (.c (.int .i64 8))))), none, [Tr.path 154]⟩]) (
         .cond (.t (Tr.path 155)) (.skip) (.exit 7))) (
        .seq (.block 8 (.seq (.reg [
           ⟨(some (Tr.path 159)), (some (.p (S.get (.t (Tr.path 5))))), none, [Tr.path 5]⟩,
           ⟨(some (Tr.path 160)), (some (.p (S.get (.t (Tr.path 15))))), none, [Tr.path 15]⟩,
           ⟨(some (Tr.path 161)), (some (.p (S.get (.t (Tr.path 18))))), none, [Tr.path 18]⟩,
           ⟨(some (Tr.path 162)), (some (.c (callF (.c (.func (.func 40) [] [])) [(.t (Tr.path 159)), (.t (Tr.path 160)), (.t (Tr.path 161))]))), none, [Tr.path 159, Tr.path 160, Tr.path 161]⟩,
           ⟨(some (Tr.path 158)), (some (.p (S.get (.t (Tr.path 162))))), none, [Tr.path 162]⟩,
           ⟨(some (Tr.path 163)), (some (.p (extF (.t (Tr.path 158)) 0))), none, [Tr.path 158]⟩,
           ⟨(some (Tr.path 164)), (some (.p (extF (.t (Tr.path 158)) 1))), none, [Tr.path 158]⟩,
           ⟨(some (Tr.path 19)), (some (.m (allocF 64 [.blk 0]))), none, []⟩,
           ⟨none, (some (.a (storeF (.t (Tr.path 19)) (.t (Tr.path 163)) 64))), none, [Tr.path 19, Tr.path 163]⟩,
           ⟨(some (Tr.path 20)), (some (.p (S.get (.t (Tr.path 164))))), none, [Tr.path 164]⟩]) (
          .seq (.reg [
           ⟨(some (Tr.path 166)), (some (.p (S.get (.t (Tr.path 6))))), none, [Tr.path 6]⟩,
           ⟨(some (Tr.path 167)), (some (.p (S.get (.t (Tr.path 15))))), none, [Tr.path 15]⟩,
           ⟨(some (Tr.path 168)), (some (.p (iaddrSF (.t (Tr.path 166)) (.t (Tr.path 167)) 1))), none, [Tr.path 166, Tr.path 167]⟩,
           ⟨(some (Tr.path 169)), (some (.r (loadF (.t (Tr.path 168)) 1 .sc))), none, [Tr.path 168]⟩,
           ⟨(some (Tr.path 170)), (some (.p (S.get (.t (Tr.path 18))))), none, [Tr.path 18]⟩,
           ⟨(some (Tr.path 171)), (some (.c (callF (.c (.func (.func 17) [] [])) [(.t (Tr.path 169)), (.t (Tr.path 170))]))), none, [Tr.path 169, Tr.path 170]⟩,
           ⟨(some (Tr.path 165)), (some (.p (S.get (.t (Tr.path 171))))), none, [Tr.path 171]⟩,
           ⟨(some (Tr.path 172)), (some (.p (extF (.t (Tr.path 165)) 0))), none, [Tr.path 165]⟩,
           ⟨(some (Tr.path 173)), (some (.p (extF (.t (Tr.path 165)) 1))), none, [Tr.path 165]⟩,
           ⟨(some (Tr.path 21)), (some (.m (allocF 64 [.blk 0]))), none, []⟩,
           ⟨none, (some (.a (storeF (.t (Tr.path 21)) (.t (Tr.path 172)) 64))), none, [Tr.path 21, Tr.path 172]⟩,
           ⟨(some (Tr.path 22)), (some (.p (S.get (.t (Tr.path 173))))), none, [Tr.path 173]⟩]) (
          .seq (.reg [
           ⟨(some (Tr.path 174)), (some (.r (loadF (.t (Tr.path 19)) 64 .bk))), none, [Tr.path 19]⟩,
           ⟨(some (Tr.path 175)), (some (.r (loadF (.t (Tr.path 21)) 64 .bk))), none, [Tr.path 21]⟩,
           ⟨(some (Tr.path 176)), (some (.p (eqcF true true [.blk] (.t (Tr.path 174)) (.t (Tr.path 175))))), none, [Tr.path 174, Tr.path 175]⟩,
           ⟨(some (Tr.path 177)), (some (.p (S.get (.t (Tr.path 176))))), none, [Tr.path 176]⟩,
           ⟨(some (Tr.path 178)), (some (.p (S.get (.t (Tr.path 20))))), (some (some (Tr.path 177), false)), [Tr.path 20]⟩,
           ⟨(some (Tr.path 179)), (some (.p (S.get (.t (Tr.path 22))))), (some (some (Tr.path 177), false)), [Tr.path 22]⟩,
           ⟨(some (Tr.path 180)), (some (.p (eqcF true false [.int .i64] (.t (Tr.path 178)) (.t (Tr.path 179))))), (some (some (Tr.path 177), false)), [Tr.path 178, Tr.path 179]⟩,
           ⟨(some (Tr.path 181)), (some (.p (pickF (.t (Tr.path 177)) (.c (.bool true)) (.t (Tr.path 180))))), none, [Tr.path 177, Tr.path 180]⟩]) (
          .cond (.t (Tr.path 181)) (.seq (.reg [
             ⟨(some (Tr.path 4)), (some (.p (S.get (.c (.bool false))))), none, []⟩]) (
            .ret)) (.skip)))))) (
        .reg [
        ⟨(some (Tr.path 156)), (some (.p (S.get (.t (Tr.path 18))))), none, [Tr.path 18]⟩,
        ⟨(some (Tr.path 157)), (some (.p (arF .add (.t (Tr.path 156)) (.c (.int .i64 1))))), none, [Tr.path 156]⟩,
        ⟨(some (Tr.path 18)), (some (.p (S.get (.t (Tr.path 157))))), none, [Tr.path 157]⟩]))
noncomputable def c9_l1 : C := .seq (.seq (.reg [
      ⟨(some (Tr.path 126)), (some (.p (S.get (.t (Tr.path 15))))), none, [Tr.path 15]⟩,
      ⟨(some (Tr.path 127)), (some (.p (arF .lss (.t (Tr.path 126)) (.c (.int .i64 3))))), none, [Tr.path 126]⟩]) (
     .cond (.t (Tr.path 127)) (.skip) (.exit 5))) (
    .seq (.block 6 (.seq (.reg [
       ⟨(some (Tr.path 131)), (some (.p (S.get (.t (Tr.path 6))))), none, [Tr.path 6]⟩,
       ⟨(some (Tr.path 132)), (some (.p (S.get (.t (Tr.path 15))))), none, [Tr.path 15]⟩,
       ⟨(some (Tr.path 133)), (some (.p (iaddrSF (.t (Tr.path 131)) (.t (Tr.path 132)) 1))), none, [Tr.path 131, Tr.path 132]⟩,
       ⟨(some (Tr.path 134)), (some (.r (loadF (.t (Tr.path 133)) 1 .sc))), none, [Tr.path 133]⟩,
       ⟨(some (Tr.path 135)), (some (.p (S.get (.t (Tr.path 1))))), none, [Tr.path 1]⟩,
       ⟨(some (Tr.path 136)), (some (.c (callF (.c (.func (.func 19) [] [])) [(.t (Tr.path 134)), (.t (Tr.path 135))]))), none, [Tr.path 134, Tr.path 135]⟩,
       ⟨(some (Tr.path 130)), (some (.p (S.get (.t (Tr.path 136))))), none, [Tr.path 136]⟩,
       ⟨(some (Tr.path 137)), (some (.p (extF (.t (Tr.path 130)) 0))), none, [Tr.path 130]⟩,
       ⟨(some (Tr.path 138)), (some (.p (extF (.t (Tr.path 130)) 1))), none, [Tr.path 130]⟩,
       ⟨(some (Tr.path 16)), (some (.p (S.get (.t (Tr.path 137))))), none, [Tr.path 137]⟩,
       ⟨(some (Tr.path 17)), (some (.p (S.get (.t (Tr.path 138))))), none, [Tr.path 138]⟩]) (
      .seq (.seq (.reg [
        ⟨(some (Tr.path 139)), (some (.p (S.get (.t (Tr.path 17))))), none, [Tr.path 17]⟩,
        ⟨(some (Tr.path 140)), (some (.p (eqcF true false [.int .i64] (.t (Tr.path 139)) (.c (.int .i64 0))))), none, [Tr.path 139]⟩,
        ⟨(some (Tr.path 141)), (some (.p (S.get (.t (Tr.path 140))))), none, [Tr.path 140]⟩,
        ⟨(some (Tr.path 142)), (some (.p (S.get (.t (Tr.path 16))))), (some (some (Tr.path 141), false)), [Tr.path 16]⟩,
        ⟨(some (Tr.path 143)), (some (.p (arF .lss (.t (Tr.path 142)) (.c (.int .i64 0))))), (some (some (Tr.path 141), false)), [Tr.path 142]⟩,
        ⟨(some (Tr.path 144)), (some (.p (pickF (.t (Tr.path 141)) (.c (.bool true)) (.t (Tr.path 143))))), none, [Tr.path 141, Tr.path 143]⟩,
        ⟨(some (Tr.path 145)), (some (.p (S.get (.t (Tr.path 144))))), none, [Tr.path 144]⟩,
        ⟨(some (Tr.path 146)), (some (.p (S.get (.t (Tr.path 16))))), (some (some (Tr.path 145), false)), [Tr.path 16]⟩,
        ⟨(some (Tr.path 147)), (some (.p (S.get (.t (Tr.path 1))))), (some (some (Tr.path 145), false)), [Tr.path 1]⟩,
        ⟨(some (Tr.path 148)), (some (.p (lenF (.t (Tr.path 147))))), (some (some (Tr.path 145), false)), [Tr.path 147]⟩,
        ⟨(some (Tr.path 149)), (some (.p (arF .gtr (.t (Tr.path 146)) (.t (Tr.path 148))))), (some (some (Tr.path 145), false)), [Tr.path 146, Tr.path 148]⟩,
        ⟨(some (Tr.path 150)), (some (.p (pickF (.t (Tr.path 145)) (.c (.bool true)) (.t (Tr.path 149))))), none, [Tr.path 145, Tr.path 149]⟩]) (
       .cond (.t (Tr.path 150)) (.seq (.reg [
          ⟨(some (Tr.path 4)), (some (.p (S.get (.c (.bool false))))), none, []⟩]) (
         .ret)) (.skip))) (
      .seq (.reg [
       ⟨(some (Tr.path 151)), (some (.p (S.get (.t (Tr.path 1))))), none, [Tr.path 1]⟩,
       ⟨(some (Tr.path 152)), (some (.p (S.get (.t (Tr.path 16))))), none, [Tr.path 16]⟩,
       ⟨(some (Tr.path 153)), (some (.p (sliceF 1 (.t (Tr.path 151)) (some (.t (Tr.path 152))) none none))), none, [Tr.path 151, Tr.path 152]⟩,
       ⟨(some (Tr.path 1)), (some (.p (S.get (.t (Tr.path 153))))), none, [Tr.path 153]⟩]) (
      .seq (.reg [
       ⟨(some (Tr.path 18)), (some (.p (S.get (.c (.int .i64 0))))), none, []⟩]) (
      .block 7 (.loop c9_l0))))))) (
    .reg [
    ⟨(some (Tr.path 128)), (some (.p (S.get (.t (Tr.path 15))))), none, [Tr.path 15]⟩,
    ⟨(some (Tr.path 129)), (some (.p (arF .add (.t (Tr.path 128)) (.c (.int .i64 1))))), none, [Tr.path 128]⟩,
    ⟨(some (Tr.path 15)), (some (.p (S.get (.t (Tr.path 129))))), none, [Tr.path 129]⟩]))
noncomputable def c9_l2 : C := .seq (.seq (.reg [
      ⟨(some (Tr.path 38)), (some (.p (S.get (.t (Tr.path 10))))), none, [Tr.path 10]⟩,
      ⟨(some (Tr.path 39)), (some (.p (S.get (.t (Tr.path 0))))), none, [Tr.path 0]⟩,
      ⟨(some (Tr.path 40)), (some (.p (lenF (.t (Tr.path 39))))), none, [Tr.path 39]⟩,
      ⟨(some (Tr.path 41)), (some (.p (arF .lss (.t (Tr.path 38)) (.t (Tr.path 40))))), none, [Tr.path 38, Tr.path 40]⟩,
      ⟨(some (Tr.path 42)), (some (.p (S.get (.t (Tr.path 41))))), none, [Tr.path 41]⟩,
      ⟨(some (Tr.path 43)), (some (.p (S.get (.t (Tr.path 10))))), (some (some (Tr.path 42), true)), [Tr.path 10]⟩,
      ⟨(some (Tr.path 44)), (some (.p (arF .lss (.t (Tr.path 43)) (.c (.int .i64 60))))), (some (some (Tr.path 42), true)), [Tr.path 43]⟩,
      ⟨(some (Tr.path 45)), (some (.p (pickF (.t (Tr.path 42)) (.t (Tr.path 44)) (.c (.bool false))))), none, [Tr.path 42, Tr.path 44]⟩]) (
     .cond (.t (Tr.path 45)) (.skip) (.exit 2))) (
    .seq (.block 3 (.seq (.reg [
       ⟨(some (Tr.path 48)), (some (.p (S.get (.t (Tr.path 0))))), none, [Tr.path 0]⟩,
       ⟨(some (Tr.path 49)), (some (.p (S.get (.t (Tr.path 10))))), none, [Tr.path 10]⟩,
       ⟨(some (Tr.path 50)), (some (.p (iaddrSF (.t (Tr.path 48)) (.t (Tr.path 49)) 70))), none, [Tr.path 48, Tr.path 49]⟩,
       ⟨(some (Tr.path 51)), (some (.r (loadF (.t (Tr.path 50)) 70 .ag))), none, [Tr.path 50]⟩,
       ⟨(some (Tr.path 11)), (some (.m (allocF 70 [.int .i64 0, .int .i64 0, .int .i64 0, .int .i64 0, .int .u8 0, .blk 0, .slice none 0 0 0]))), none, []⟩,
       ⟨none, (some (.a (storeF (.t (Tr.path 11)) (.t (Tr.path 51)) 70))), none, [Tr.path 11, Tr.path 51]⟩]) (
      .seq (.reg [
       ⟨(some (Tr.path 52)), (some (.p (faddrF (.t (Tr.path 11)) 1))), none, [Tr.path 11]⟩,
       ⟨(some (Tr.path 53)), (some (.r (loadF (.t (Tr.path 52)) 1 .sc))), none, [Tr.path 52]⟩,
       ⟨(some (Tr.path 54)), (some (.p (convF .u64 (.t (Tr.path 53))))), none, [Tr.path 53]⟩,
       ⟨(some (Tr.path 55)), (some (.p (arF .rem (.t (Tr.path 54)) (.c (.int .u64 3))))), none, [Tr.path 54]⟩,
       ⟨(some (Tr.path 56)), (some (.p (convF .i64 (.t (Tr.path 55))))), none, [Tr.path 55]⟩,
       ⟨(some (Tr.path 12)), (some (.p (S.get (.t (Tr.path 56))))), none, [Tr.path 56]⟩]) (
      .seq (.reg [
       ⟨(some (Tr.path 13)), (some (.p (S.get (.c (.int .i64 0))))), none, []⟩,
       ⟨(some (Tr.path 14)), (some (.p (S.get (.c (.int .i64 0))))), none, []⟩]) (
      .seq (.seq (.reg [
        ⟨(some (Tr.path 57)), (some (.p (faddrF (.t (Tr.path 11)) 0))), none, [Tr.path 11]⟩,
        ⟨(some (Tr.path 58)), (some (.r (loadF (.t (Tr.path 57)) 1 .sc))), none, [Tr.path 57]⟩]) (
       .block 4 (.seq (.reg [
         ⟨(some (Tr.path 60)), (some (.p (eqcF false false [.int .i64] (.t (Tr.path 58)) (.c (.int .i64 0))))), none, [Tr.path 58]⟩,
         ⟨(some (Tr.path 59)), (some (.p (S.get (.t (Tr.path 60))))), none, [Tr.path 60]⟩]) (
        .cond (.t (Tr.path 59)) (.regD [
          ⟨(some (Tr.path 61)), (some (.p (S.get (.t (Tr.path 5))))), none, [Tr.path 5]⟩,
          ⟨(some (Tr.path 62)), (some (.p (S.get (.t (Tr.path 12))))), none, [Tr.path 12]⟩,
          ⟨(some (Tr.path 63)), (some (.p (faddrF (.t (Tr.path 11)) 2))), none, [Tr.path 11]⟩,
          ⟨(some (Tr.path 64)), (some (.r (loadF (.t (Tr.path 63)) 1 .sc))), none, [Tr.path 63]⟩,
          ⟨(some (Tr.path 65)), (some (.p (faddrF (.t (Tr.path 11)) 5))), none, [Tr.path 11]⟩,
          ⟨(some (Tr.path 66)), (some (.r (loadF (.t (Tr.path 65)) 64 .bk))), none, [Tr.path 65]⟩,
          ⟨(some (Tr.path 67)), (some (.c (callF (.c (.func (.func 33) [] [])) [(.t (Tr.path 61)), (.t (Tr.path 62)), (.t (Tr.path 64)), (.t (Tr.path 66))]))), none, [Tr.path 61, Tr.path 62, Tr.path 64, Tr.path 66]⟩,
          ⟨(some (Tr.path 68)), (some (.p (S.get (.t (Tr.path 6))))), none, [Tr.path 6]⟩,
          ⟨(some (Tr.path 69)), (some (.p (S.get (.t (Tr.path 12))))), none, [Tr.path 12]⟩,
          ⟨(some (Tr.path 70)), (some (.p (iaddrSF (.t (Tr.path 68)) (.t (Tr.path 69)) 1))), none, [Tr.path 68, Tr.path 69]⟩,
          ⟨(some (Tr.path 71)), (some (.r (loadF (.t (Tr.path 70)) 1 .sc))), none, [Tr.path 70]⟩,
          ⟨(some (Tr.path 72)), (some (.p (faddrF (.t (Tr.path 11)) 2))), none, [Tr.path 11]⟩,
          ⟨(some (Tr.path 73)), (some (.r (loadF (.t (Tr.path 72)) 1 .sc))), none, [Tr.path 72]⟩,
          ⟨(some (Tr.path 74)), (some (.p (faddrF (.t (Tr.path 11)) 5))), none, [Tr.path 11]⟩,
          ⟨(some (Tr.path 75)), (some (.r (loadF (.t (Tr.path 74)) 64 .bk))), none, [Tr.path 74]⟩,
          ⟨(some (Tr.path 76)), (some (.c (callF (.c (.func (.func 18) [] [])) [(.t (Tr.path 71)), (.t (Tr.path 73)), (.t (Tr.path 75))]))), none, [Tr.path 71, Tr.path 73, Tr.path 75]⟩,
          ⟨(some (Tr.path 13)), (some (.p (S.get (.t (Tr.path 67))))), none, [Tr.path 67]⟩,
          ⟨(some (Tr.path 14)), (some (.p (S.get (.t (Tr.path 76))))), none, [Tr.path 76]⟩] [0, 0, 0, 4, 0, 16, 63, 0, 0, 384, 896, 0, 2048, 0, 8192, 32767, 65535, 131071]) (.seq (.reg [
           ⟨(some (Tr.path 78)), (some (.p (eqcF false false [.int .i64] (.t (Tr.path 58)) (.c (.int .i64 2))))), none, [Tr.path 58]⟩,
           ⟨(some (Tr.path 77)), (some (.p (S.get (.t (Tr.path 78))))), none, [Tr.path 78]⟩]) (
          .cond (.t (Tr.path 77)) (.regD [
            ⟨(some (Tr.path 79)), (some (.p (S.get (.t (Tr.path 5))))), none, [Tr.path 5]⟩,
            ⟨(some (Tr.path 80)), (some (.p (S.get (.t (Tr.path 12))))), none, [Tr.path 12]⟩,
            ⟨(some (Tr.path 81)), (some (.c (callF (.c (.func (.func 32) [] [])) [(.t (Tr.path 79)), (.t (Tr.path 80))]))), none, [Tr.path 79, Tr.path 80]⟩,
            ⟨(some (Tr.path 82)), (some (.p (S.get (.t (Tr.path 6))))), none, [Tr.path 6]⟩,
            ⟨(some (Tr.path 83)), (some (.p (S.get (.t (Tr.path 12))))), none, [Tr.path 12]⟩,
            ⟨(some (Tr.path 84)), (some (.p (iaddrSF (.t (Tr.path 82)) (.t (Tr.path 83)) 1))), none, [Tr.path 82, Tr.path 83]⟩,
            ⟨(some (Tr.path 85)), (some (.r (loadF (.t (Tr.path 84)) 1 .sc))), none, [Tr.path 84]⟩,
            ⟨(some (Tr.path 86)), (some (.c (callF (.c (.func (.func 16) [] [])) [(.t (Tr.path 85))]))), none, [Tr.path 85]⟩,
            ⟨(some (Tr.path 13)), (some (.p (S.get (.t (Tr.path 81))))), none, [Tr.path 81]⟩,
            ⟨(some (Tr.path 14)), (some (.p (S.get (.t (Tr.path 86))))), none, [Tr.path 86]⟩] [0, 0, 3, 0, 0, 24, 56, 127, 255, 511]) (.seq (.reg [
             ⟨(some (Tr.path 88)), (some (.p (eqcF false false [.int .i64] (.t (Tr.path 58)) (.c (.int .i64 3))))), none, [Tr.path 58]⟩,
             ⟨(some (Tr.path 87)), (some (.p (S.get (.t (Tr.path 88))))), none, [Tr.path 88]⟩]) (
            .cond (.t (Tr.path 87)) (.regD [
              ⟨(some (Tr.path 89)), (some (.p (S.get (.t (Tr.path 5))))), none, [Tr.path 5]⟩,
              ⟨(some (Tr.path 90)), (some (.p (S.get (.t (Tr.path 12))))), none, [Tr.path 12]⟩,
              ⟨(some (Tr.path 91)), (some (.c (callF (.c (.func (.func 38) [] [])) [(.t (Tr.path 89)), (.t (Tr.path 90))]))), none, [Tr.path 89, Tr.path 90]⟩,
              ⟨(some (Tr.path 92)), (some (.p (S.get (.t (Tr.path 6))))), none, [Tr.path 6]⟩,
              ⟨(some (Tr.path 93)), (some (.p (S.get (.t (Tr.path 12))))), none, [Tr.path 12]⟩,
              ⟨(some (Tr.path 94)), (some (.p (iaddrSF (.t (Tr.path 92)) (.t (Tr.path 93)) 1))), none, [Tr.path 92, Tr.path 93]⟩,
              ⟨(some (Tr.path 95)), (some (.r (loadF (.t (Tr.path 94)) 1 .sc))), none, [Tr.path 94]⟩,
              ⟨(some (Tr.path 96)), (some (.c (callF (.c (.func (.func 42) [] [])) [(.t (Tr.path 95))]))), none, [Tr.path 95]⟩,
              ⟨(some (Tr.path 13)), (some (.p (S.get (.t (Tr.path 91))))), none, [Tr.path 91]⟩,
              ⟨(some (Tr.path 14)), (some (.p (S.get (.t (Tr.path 96))))), none, [Tr.path 96]⟩] [0, 0, 3, 0, 0, 24, 56, 127, 255, 511]) (.seq (.reg [
               ⟨(some (Tr.path 98)), (some (.p (eqcF false false [.int .i64] (.t (Tr.path 58)) (.c (.int .i64 8))))), none, [Tr.path 58]⟩,
               ⟨(some (Tr.path 97)), (some (.p (S.get (.t (Tr.path 98))))), none, [Tr.path 98]⟩]) (
              .cond (.t (Tr.path 97)) (.regD [
                ⟨(some (Tr.path 99)), (some (.p (S.get (.t (Tr.path 5))))), none, [Tr.path 5]⟩,
                ⟨(some (Tr.path 100)), (some (.p (S.get (.t (Tr.path 12))))), none, [Tr.path 12]⟩,
                ⟨(some (Tr.path 101)), (some (.p (faddrF (.t (Tr.path 11)) 2))), none, [Tr.path 11]⟩,
                ⟨(some (Tr.path 102)), (some (.r (loadF (.t (Tr.path 101)) 1 .sc))), none, [Tr.path 101]⟩,
                ⟨(some (Tr.path 103)), (some (.p (faddrF (.t (Tr.path 11)) 3))), none, [Tr.path 11]⟩,
                ⟨(some (Tr.path 104)), (some (.r (loadF (.t (Tr.path 103)) 1 .sc))), none, [Tr.path 103]⟩,
                ⟨(some (Tr.path 105)), (some (.p (faddrF (.t (Tr.path 11)) 4))), none, [Tr.path 11]⟩,
                ⟨(some (Tr.path 106)), (some (.r (loadF (.t (Tr.path 105)) 1 .sc))), none, [Tr.path 105]⟩,
                ⟨(some (Tr.path 107)), (some (.c (callF (.c (.func (.func 43) [] [])) [(.t (Tr.path 99)), (.t (Tr.path 100)), (.t (Tr.path 102)), (.t (Tr.path 104)), (.t (Tr.path 106))]))), none, [Tr.path 99, Tr.path 100, Tr.path 102, Tr.path 104, Tr.path 106]⟩,
                ⟨(some (Tr.path 108)), (some (.p (S.get (.t (Tr.path 6))))), none, [Tr.path 6]⟩,
                ⟨(some (Tr.path 109)), (some (.p (S.get (.t (Tr.path 12))))), none, [Tr.path 12]⟩,
                ⟨(some (Tr.path 110)), (some (.p (iaddrSF (.t (Tr.path 108)) (.t (Tr.path 109)) 1))), none, [Tr.path 108, Tr.path 109]⟩,
                ⟨(some (Tr.path 111)), (some (.r (loadF (.t (Tr.path 110)) 1 .sc))), none, [Tr.path 110]⟩,
                ⟨(some (Tr.path 112)), (some (.p (faddrF (.t (Tr.path 11)) 2))), none, [Tr.path 11]⟩,
                ⟨(some (Tr.path 113)), (some (.r (loadF (.t (Tr.path 112)) 1 .sc))), none, [Tr.path 112]⟩,
                ⟨(some (Tr.path 114)), (some (.p (faddrF (.t (Tr.path 11)) 3))), none, [Tr.path 11]⟩,
                ⟨(some (Tr.path 115)), (some (.r (loadF (.t (Tr.path 114)) 1 .sc))), none, [Tr.path 114]⟩,
                ⟨(some (Tr.path 116)), (some (.p (faddrF (.t (Tr.path 11)) 4))), none, [Tr.path 11]⟩,
                ⟨(some (Tr.path 117)), (some (.r (loadF (.t (Tr.path 116)) 1 .sc))), none, [Tr.path 116]⟩,
                ⟨(some (Tr.path 118)), (some (.c (callF (.c (.func (.func 24) [] [])) [(.t (Tr.path 111)), (.t (Tr.path 113)), (.t (Tr.path 115)), (.t (Tr.path 117))]))), none, [Tr.path 111, Tr.path 113, Tr.path 115, Tr.path 117]⟩,
                ⟨(some (Tr.path 13)), (some (.p (S.get (.t (Tr.path 107))))), none, [Tr.path 107]⟩,
                ⟨(some (Tr.path 14)), (some (.p (S.get (.t (Tr.path 118))))), none, [Tr.path 118]⟩] [0, 0, 0, 4, 0, 16, 0, 64, 255, 0, 0, 1536, 3584, 0, 8192, 0, 32768, 0, 131072, 524287, 1048575, 2097151]) (.skip))))))))))) (
      .seq (.reg [
       ⟨(some (Tr.path 119)), (some (.p (S.get (.t (Tr.path 13))))), none, [Tr.path 13]⟩,
       ⟨(some (Tr.path 120)), (some (.p (S.get (.t (Tr.path 14))))), none, [Tr.path 14]⟩,
       ⟨(some (Tr.path 121)), (some (.p (eqcF true false [.int .i64] (.t (Tr.path 119)) (.t (Tr.path 120))))), none, [Tr.path 119, Tr.path 120]⟩]) (
      .cond (.t (Tr.path 121)) (.seq (.reg [
         ⟨(some (Tr.path 4)), (some (.p (S.get (.c (.bool false))))), none, []⟩]) (
        .ret)) (.skip)))))))) (
    .reg [
    ⟨(some (Tr.path 46)), (some (.p (S.get (.t (Tr.path 10))))), none, [Tr.path 10]⟩,
    ⟨(some (Tr.path 47)), (some (.p (arF .add (.t (Tr.path 46)) (.c (.int .i64 1))))), none, [Tr.path 46]⟩,
    ⟨(some (Tr.path 10)), (some (.p (S.get (.t (Tr.path 47))))), none, [Tr.path 47]⟩]))
noncomputable def c9_l3 : C := .seq (.seq (.reg [
      ⟨(some (Tr.path 24)), (some (.p (S.get (.t (Tr.path 7))))), none, [Tr.path 7]⟩,
      ⟨(some (Tr.path 25)), (some (.p (arF .lss (.t (Tr.path 24)) (.c (.int .i64 3))))), none, [Tr.path 24]⟩]) (
     .cond (.t (Tr.path 25)) (.skip) (.exit 0))) (
    .seq (.block 1 (.seq (.reg [
       ⟨(some (Tr.path 29)), (some (.c (callF (.c (.func (.func 23) [] [])) [(.c (.int .i64 8))]))), none, []⟩,
       ⟨(some (Tr.path 28)), (some (.p (S.get (.t (Tr.path 29))))), none, [Tr.path 29]⟩,
       ⟨(some (Tr.path 30)), (some (.p (extF (.t (Tr.path 28)) 0))), none, [Tr.path 28]⟩,
       ⟨(some (Tr.path 31)), (some (.p (extF (.t (Tr.path 28)) 1))), none, [Tr.path 28]⟩,
       ⟨(some (Tr.path 8)), (some (.p (S.get (.t (Tr.path 30))))), none, [Tr.path 30]⟩,
       ⟨(some (Tr.path 9)), (some (.p (S.get (.t (Tr.path 31))))), none, [Tr.path 31]⟩]) (
      .seq (.seq (.reg [
        ⟨(some (Tr.path 32)), (some (.p (S.get (.t (Tr.path 9))))), none, [Tr.path 9]⟩,
        ⟨(some (Tr.path 33)), (some (.p (eqcF true false [.int .i64] (.t (Tr.path 32)) (.c (.int .i64 0))))), none, [Tr.path 32]⟩]) (
       .cond (.t (Tr.path 33)) (.seq (.reg [
          ⟨(some (Tr.path 4)), (some (.p (S.get (.c (.bool false))))), none, []⟩]) (
         .ret)) (.skip))) (
      .reg [
      ⟨(some (Tr.path 34)), (some (.p (S.get (.t (Tr.path 6))))), none, [Tr.path 6]⟩,
      ⟨(some (Tr.path 35)), (some (.p (S.get (.t (Tr.path 8))))), none, [Tr.path 8]⟩,
      ⟨(some (Tr.path 36)), (some (.m (bsliceF 1 1 [.ptr none] [(0, 1, (.t (Tr.path 35)))]))), none, [Tr.path 35]⟩,
      ⟨(some (Tr.path 37)), (some (.a (appF 1 8 (.t (Tr.path 34)) (.t (Tr.path 36))))), none, [Tr.path 34, Tr.path 36]⟩,
      ⟨(some (Tr.path 6)), (some (.p (S.get (.t (Tr.path 37))))), none, [Tr.path 37]⟩])))) (
    .reg [
    ⟨(some (Tr.path 26)), (some (.p (S.get (.t (Tr.path 7))))), none, [Tr.path 7]⟩,
    ⟨(some (Tr.path 27)), (some (.p (arF .add (.t (Tr.path 26)) (.c (.int .i64 1))))), none, [Tr.path 26]⟩,
    ⟨(some (Tr.path 7)), (some (.p (S.get (.t (Tr.path 27))))), none, [Tr.path 27]⟩]))
/-- ashlar/ashlarlaw06.BenchOwn -/
noncomputable def c9 : CFn := ⟨[.tmp (Tr.path 4)],
 .seq (.reg [
  ⟨(some (Tr.path 4)), (some (.p (S.get (.c (.bool false))))), none, []⟩]) (
 .seq (.reg [
  ⟨(some (Tr.path 23)), (some (.c (callF (.c (.func (.func 30) [] [])) []))), none, []⟩,
  ⟨(some (Tr.path 5)), (some (.p (S.get (.t (Tr.path 23))))), none, [Tr.path 23]⟩]) (
 .seq (.reg [
  ⟨(some (Tr.path 6)), (some (.p (S.get (.c (.slice none 0 0 0))))), none, []⟩]) (
 .seq (.seq (.reg [
   ⟨(some (Tr.path 7)), (some (.p (S.get (.c (.int .i64 0))))), none, []⟩]) (
  .block 0 (.loop c9_l3))) (
 .seq (.seq (.reg [
   ⟨(some (Tr.path 10)), (some (.p (S.get (.c (.int .i64 0))))), none, []⟩]) (
  .block 2 (.loop c9_l2))) (
 .seq (.seq (.reg [
   ⟨(some (Tr.path 122)), (some (.p (S.get (.t (Tr.path 5))))), none, [Tr.path 5]⟩,
   ⟨(some (Tr.path 123)), (some (.p (S.get (.t (Tr.path 1))))), none, [Tr.path 1]⟩,
   ⟨(some (Tr.path 124)), (some (.c (callF (.c (.func (.func 44) [] [])) [(.t (Tr.path 122)), (.t (Tr.path 123))]))), none, [Tr.path 122, Tr.path 123]⟩,
   ⟨(some (Tr.path 125)), (some (.p (eqcF true false [.int .i64] (.t (Tr.path 124)) (.c (.int .i64 0))))), none, [Tr.path 124]⟩]) (
  .cond (.t (Tr.path 125)) (.seq (.reg [
     ⟨(some (Tr.path 4)), (some (.p (S.get (.c (.bool false))))), none, []⟩]) (
    .ret)) (.skip))) (
 .seq (.seq (.reg [
   ⟨(some (Tr.path 15)), (some (.p (S.get (.c (.int .i64 0))))), none, []⟩]) (
  .block 5 (.loop c9_l1))) (
 .seq (.reg [
  ⟨(some (Tr.path 182)), (some (.c (callF (.c (.func (.func 36) [] [])) []))), none, []⟩,
  ⟨(some (Tr.path 4)), (some (.p (S.get (.t (Tr.path 182))))), none, [Tr.path 182]⟩]) (
 .ret))))))))⟩
theorem c9_eq : fnOf Try.prog 9 = some c9 := by kernel_rfl


noncomputable def actH (K : Heap) (a : BAct) : Heap := (K.add (.rows false 70 [[.int .i64 0, .int .i64 0, .int .i64 0, .int .i64 0, .int .u8 0, .blk 0, .slice none 0 0 0]])).set (.run K.next) (.rows false 70 [[.int .i64 a.o, .int .i64 a.d, .int .i64 a.n, .int .i64 a.j, .int .u8 (a.x : Int), .blk a.B, .slice a.pp a.P.length a.pc 0]])
theorem act_turns (K : Heap) (a : BAct) : Turns Z K (actH K a) := (Turns.add Z K _).setnew (Nat.le_refl _) _
theorem act_get (K : Heap) (a : BAct) : (actH K a).get (.run K.next) = some (.rows false 70 [a.row]) := by unfold actH; rw [Heap.get_set, if_pos rfl]; rfl
theorem act_old (K : Heap) (a : BAct) : (actH K a).Old (.run K.next) := by show _ < _; simp [actH]
theorem act_store (K : Heap) (a : BAct) : storeAt (K.add (.rows false 70 [[.int .i64 0, .int .i64 0, .int .i64 0, .int .i64 0, .int .u8 0, .blk 0, .slice none 0 0 0]])) ⟨.run K.next, 0⟩ [.int .i64 a.o, .int .i64 a.d, .int .i64 a.n, .int .i64 a.j, .int .u8 (a.x : Int), .blk a.B, .slice a.pp a.P.length a.pc 0] = some (actH K a) := by
  have h : (K.add (.rows false 70 [[.int .i64 0, .int .i64 0, .int .i64 0, .int .i64 0, .int .u8 0, .blk 0, .slice none 0 0 0]])).get (.run K.next) = some (.rows false 70 [[.int .i64 0, .int .i64 0, .int .i64 0, .int .i64 0, .int .u8 0, .blk 0, .slice none 0 0 0]]) := by rw [Heap.get_add, if_pos rfl]
  exact storeAt_eq h (r := [.int .i64 0, .int .i64 0, .int .i64 0, .int .i64 0, .int .u8 0, .blk 0, .slice none 0 0 0]) rfl rfl

theorem Own.loadP {H : Heap} {od : Bk} {lo : List Dv} (h : Own H od lo) {i : Nat} (hi : i < lo.length) : loadAt H ⟨od, i⟩ 1 = some [.ptr (some ⟨lo[i].b, 0⟩)] := by
  rw [loadAt_eq h.ptrs (r := [.ptr (some ⟨lo[i].b, 0⟩)]) (nth_of (by rw [Nat.div_one]; simp [ptrRows, hi])), Nat.mod_one]
  exact cut_hit _ _ rfl

/-- what holds of both behind i acts -/
structure Twins (H0 H : Heap) (b ds : Bk) (l : List Dv) (B : Bn) (od : Bk) (lo : List Dv) (i : Nat) : Prop where
  w : Twin H0 H b ds l B od lo
  eq : lo.map Dv.D = B.l
  ok : Bok i B
  lit : Lit B
  len : B.l.length = 3

theorem Twins.lo3 {H0 H : Heap} {b ds : Bk} {l : List Dv} {B : Bn} {od : Bk} {lo : List Dv} {i : Nat} (h : Twins H0 H b ds l B od lo i) : lo.length = 3 := by
  have := congrArg List.length h.eq
  rw [List.length_map, h.len] at this; exact this
theorem Twins.dev {H0 H : Heap} {b ds : Bk} {l : List Dv} {B : Bn} {od : Bk} {lo : List Dv} {i : Nat} (h : Twins H0 H b ds l B od lo i) {k : Nat} (hk : k < lo.length) : B.dev (k : Int) = lo[k].D := by
  unfold Bn.dev
  rw [← h.eq]
  simp [List.getD, hk]
theorem Twins.good {H0 H : Heap} {b ds : Bk} {l : List Dv} {B : Bn} {od : Bk} {lo : List Dv} {i : Nat} (h : Twins H0 H b ds l B od lo i) (hi : i ≤ 900) {k : Nat} (hk : k < lo.length) : Good lo[k].D := h.ok.good hi _ (by rw [← h.eq]; exact List.mem_map_of_mem (List.getElem_mem hk))
theorem Twins.ne {H0 H : Heap} {b ds : Bk} {l : List Dv} {B : Bn} {od : Bk} {lo : List Dv} {i : Nat} (h : Twins H0 H b ds l B od lo i) : l ≠ [] := h.w.m.ne (by rw [h.len]; decide)
theorem Twins.turns {H0 H H' : Heap} {b ds : Bk} {l : List Dv} {B : Bn} {od : Bk} {lo : List Dv} {i : Nat} (h : Twins H0 H b ds l B od lo i) (k : Turns Z H H') : Twins H0 H' b ds l B od lo i := ⟨h.w.turns k, h.eq, h.ok, h.lit, h.len⟩

theorem Twins.step {H0 H H1 H2 H3 : Heap} {b ds : Bk} {l l' : List Dv} {B B' : Bn} {od : Bk} {lo : List Dv} {i : Nat} (h : Twins H0 H b ds l B od lo i) {k : Nat} (hk : k < lo.length) (n : BNext H b ds 1 l H1 l' B') {y' : Lay} {D' : Dev} (e : Next H1 lo[k].b lo[k].y lo[k].D H2 y' D') (t : Turns Z H2 H3) (hl : B'.l = B.l.set k D') (hb : Bok (i + 1) B') (hL : Lit B') : Twins H0 H3 b ds l' B' od (lo.set k ⟨lo[k].b, y', D'⟩) (i + 1) :=
  ⟨((h.w.bench n).dev hk e).turns t, by rw [hl, List.map_set, h.eq], hb, hL, by rw [hl, List.length_set]; exact h.len⟩

theorem acts_loop {H0 : Heap} {b ds od : Bk} {lp : Option Ptr} {lc : Nat} {A : List BAct} (hA : BActsAt H0 lp A) {pv : V} {lf : Nat} (hlf : 1000 < lf) (m : Nat) {H1 : Heap} {l1 : List Dv} {B1 : Bn} {lo1 : List Dv} (hT : Twins H0 H1 b ds l1 B1 od lo1 0) (t : T) (q0 : t.getP (Tr.path 0) = some (.slice lp A.length lc 0)) (q1 : t.getP (Tr.path 1) = some pv) (q5 : t.getP (Tr.path 5) = some (.ptr (some ⟨b, 0⟩))) (q6 : t.getP (Tr.path 6) = some (.slice (some ⟨od, 0⟩) 3 3 1)) (q10 : t.getP (Tr.path 10) = some (.int .i64 0)) :
    wp (loopF (runC (callS Try.prog S0 lf (m + 6)) lf c9_l2) lf ⟨t, H1, []⟩) fun x s =>
      x = .ex 2 ∧ s.d = [] ∧ s.t.getP (Tr.path 1) = some pv ∧ s.t.getP (Tr.path 5) = some (.ptr (some ⟨b, 0⟩)) ∧ s.t.getP (Tr.path 6) = some (.slice (some ⟨od, 0⟩) 3 3 1) ∧ ∃ i l B lo, i ≤ 60 ∧ Twins H0 s.H b ds l B od lo i := by
  refine wp_loopF (fun r s => ∃ i l B lo, i + r = 60 ∧ s.d = [] ∧ s.t.getP (Tr.path 0) = some (.slice lp A.length lc 0) ∧ s.t.getP (Tr.path 1) = some pv ∧ s.t.getP (Tr.path 5) = some (.ptr (some ⟨b, 0⟩)) ∧ s.t.getP (Tr.path 6) = some (.slice (some ⟨od, 0⟩) 3 3 1) ∧ s.t.getP (Tr.path 10) = some (.int .i64 ((i : Nat) : Int)) ∧ Twins H0 s.H b ds l B od lo i) ?_ lf 60 _ ⟨0, l1, B1, lo1, rfl, rfl, q0, q1, q5, q6, q10, hT⟩ (by omega)
  clear hT q0 q1 q5 q6 q10 t
  rintro r ⟨t, HH, dd⟩ ⟨i, l, B, lo, hi, rfl, q0, q1, q5, q6, q10, hT⟩
  dsimp only at q0 q1 q5 q6 q10 hT
  by_cases hiA : i < A.length
  · cases r with
    | zero =>
      have hi : i = 60 := by omega
      subst hi
      have hg : ¬ ((60 : Int) < 60) := by decide
      have q10 : t.getP (Tr.path 10) = some (.int .i64 60) := q10
      have hiA' : (60 : Int) < (A.length : Int) := by omega
      simp only [c9_l2, q0, q1, q5, q6, q10, hiA', hg, sC_skip, sC_reg, sC_seq, sC_cond, sC_block, sC_exit, sC_scope, sC_ret, sC_regD, sI_nil, sI_none, sI_guard, guard_t, guard_f, want_b, want_u, sO_p, sO_r, sO_m, sO_a, sO_c, sD_nil, sD_none, sD_guard, guardD_t, guardD_f, sE_p, sE_r, sE_m, sE_a, sE_c, evQ_some, evR_some, evM_some, evA_some, evC_some, callD_some, contD_some, consD_some, setT_some, setT_none, narrow_nil, narrow_cons, narrowC_some, seq_n, seq_ret, seq_ex, block_n, block_ret, block_ex, cond_t, cond_f, afterV_some, afterM_some, afterA_some, afterC_some, callC_some, get_t, get_c, get_setP, Tr.getP_e, argsT_nil, argsT_cons, ↓reduceIte, Nat.reduceEqDiff, Nat.reduceAdd, Nat.reduceSub, Nat.reduceMul, Nat.reduceDiv, Nat.reduceMod, Nat.zero_add, Nat.add_zero, beq_self_eq_true, Nat.zero_ne_one, Nat.one_ne_zero, Nat.reduceLeDiff, Int.reduceBEq, constF, unF, unary,  pickF, nilcF, faddrF, fldF, iaddrSF, arF, arith_lss, arith_leq, arith_gtr, arith_geq, arith_add, arith_sub, convF, extF, lenF, eqcF, eqnF, eqN, eqPtr, isNone, loadF, storeF, allocF, callF, gets, Option.map_some, Option.bind_some, add_eq, mul_eq, sub_eq, div_eq, mod_eq, nbeq, nble, asBlk_int, flat_int, cells_int, asBlk_bool, flat_bool, cells_bool, asBlk_ptr, flat_ptr, cells_ptr, asBlk_slice, flat_slice, cells_slice, asBlk_map, flat_map, cells_map, asBlk_blk, flat_blk, cells_blk, cells_agg, flat_agg, asBlk_agg, V.w, width, unc, cmpCells, eqI_eq, eqB_eq, mkI_eq, asNat_int, asNat_zero, asNat_one, undef, List.append_nil, List.nil_append, List.cons_append, nth_zero, nth_succ, resultsV, result, tup, wp_some, Bool.and_true, Bool.true_and, Bool.and_self, decide_true, decide_false, Bool.not_true, Bool.not_false, Bool.true_beq, Bool.false_beq, beq_iff_eq, reduceCtorEq, Nat.succ_eq_add_one, ptr0, Int.ofNat_eq_natCast, Int.ofNat_le, Int.ofNat_lt, Int.natCast_add, store_new, store_new65, load_set65, load_set65', load_set, List.map_cons, List.map_nil, sC_loop, Heap.next_add, Heap.next_set, boxF, buildF, fill, bsliceF, fillRows, List.replicate_one, upd_zero, put_blk, cut_blk, cut_whole, put_hit_int, put_miss_int, cut_hit_int, cut_miss_int, put_hit_bool, put_miss_bool, cut_hit_bool, cut_miss_bool, put_hit_ptr, put_miss_ptr, cut_hit_ptr, cut_miss_ptr, put_hit_slice, put_miss_slice, cut_hit_slice, cut_miss_slice, put_hit_map, put_miss_map, cut_hit_map, cut_miss_map, load_add, appF, List.length_cons, List.length_nil]
      exact ⟨trivial, trivial, trivial, trivial, trivial, 60, l, B, lo, Nat.le_refl _, hT⟩
    | succ r =>
      have h60 : (i : Int) < 60 := by omega
      have hi1 : i + 1 ≤ A.length := hiA
      obtain ⟨xx, hpx, la0⟩ := hA.load hT.w.m.t hiA
      rw [hpx] at q0
      have oka := hA.ok A[i] (List.getElem_mem _)
      generalize A[i] = a at la0 oka
      have la : loadAt HH ⟨xx, i * 70⟩ 70 = some [.int .i64 a.o, .int .i64 a.d, .int .i64 a.n, .int .i64 a.j, .int .u8 (a.x : Int), .blk a.B, .slice a.pp a.P.length a.pc 0] := la0
      have sa := act_store HH a
      have gA := act_get HH a
      have oA := act_old HH a
      have hTA := hT.turns (act_turns HH a)
      have nA : ∀ c, BFoot b ds l c → c ≠ .run HH.next := fun c hc e => Heap.not_old (Nat.le_refl _) (by rw [← e]; exact hT.w.m.rep.foot_old c hc)
      generalize actH HH a = HA at sa gA oA hTA
      obtain ⟨a0, a1, a2, a3, a4, a5, a6⟩ := bact_loads gA
      have hms := mod_steps a.d (n := 3) (by decide) (by decide)
      change arith .rem (.int .u64 (IntKind.u64.wrap a.d)) (.int .u64 3) = _ at hms
      have hk := modN_lt a.d (n := 3) (by decide)
      generalize modN a.d 3 = k at hms hk
      have hwk : IntKind.i64.wrap (k : Int) = (k : Int) := wrap_i64 (by omega)
      have hw : IntKind.i64.wrap ((i : Int) + 1) = (i : Int) + 1 := wrap_i64 (by omega)
      have hkl : k < lo.length := by rw [hT.lo3]; exact hk
      have hkB : k < B.l.length := by rw [hT.len]; exact hk
      have hk1 : k + 1 ≤ 3 := hk
      have hdv := hTA.dev hkl
      have g := hTA.good (by omega) hkl
      have gg := hTA.ok.good (by omega)
      have hst : 0 ≤ B.st ∧ B.st ≤ 100000 := by have := hTA.ok.st; omega
      by_cases h0 : a.o = 0
      · have z0 : (a.o == 0) = true := by simp [h0]
        obtain ⟨f1, f2, f3⟩ := hTA.lit.write hkB a.n a.B
        rw [hdv] at f1 f2
        obtain ⟨v, K1, e1, rfl, l', n1⟩ := bwrite_all hTA.w.m.rep hTA.ne gg hTA.ok.ar hst (k : Int) a.n a.B hlf m
        change callS Try.prog S0 lf (m + 6) 33 _ _ = _ at e1
        rw [f1] at e1
        obtain ⟨b0, b1, b2, b3, b4, b5, b6⟩ := bact_loads ((n1.turns.same _ oA (fun hc => nA _ hc rfl)).trans gA)
        have w1 := hTA.w.bench n1
        obtain ⟨v, K2, e2, rfl, y', n2⟩ := write_all (w1.o.dev k hkl) g.ne (by have := g.le; omega) a.n a.B lf (m + 3)
        change callS Try.prog S0 lf (m + 6) 18 _ _ = _ at e2
        have lpA := hTA.w.o.loadP hkl
        have lp1 := w1.o.loadP hkl
        obtain ⟨q, hqd⟩ : ∃ q : List (Option V × Option V), q = [(loadF (.t (Tr.path 70)) 1 .sc (Tr.setP (Tr.path 70) (.ptr (some ⟨od, k⟩)) .e) HA, some (.ptr (some ⟨lo[k].b, 0⟩))), (loadF (.t (Tr.path 70)) 1 .sc (Tr.setP (Tr.path 70) (.ptr (some ⟨od, k⟩)) .e) K1, some (.ptr (some ⟨lo[k].b, 0⟩))),
          (loadF (.t (Tr.path 72)) 1 .sc (Tr.setP (Tr.path 72) (.ptr (some ⟨.run HH.next, 2⟩)) .e) HA, some (.int .i64 a.n)), (loadF (.t (Tr.path 72)) 1 .sc (Tr.setP (Tr.path 72) (.ptr (some ⟨.run HH.next, 2⟩)) .e) K1, some (.int .i64 a.n)),
          (loadF (.t (Tr.path 74)) 64 .bk (Tr.setP (Tr.path 74) (.ptr (some ⟨.run HH.next, 5⟩)) .e) HA, some (.blk a.B)), (loadF (.t (Tr.path 74)) 64 .bk (Tr.setP (Tr.path 74) (.ptr (some ⟨.run HH.next, 5⟩)) .e) K1, some (.blk a.B))] := ⟨_, rfl⟩
        have hq : ∀ p ∈ q, p.1 = p.2 := by
          rw [hqd]
          intro p hp
          simp only [List.mem_cons, List.not_mem_nil, or_false] at hp
          rcases hp with rfl | rfl | rfl | rfl | rfl | rfl <;> simp only [a2, a5, b2, b5, lpA, lp1, sC_skip, sC_reg, sC_seq, sC_cond, sC_block, sC_exit, sC_scope, sC_ret, sC_regD, sI_nil, sI_none, sI_guard, guard_t, guard_f, want_b, want_u, sO_p, sO_r, sO_m, sO_a, sO_c, sD_nil, sD_none, sD_guard, guardD_t, guardD_f, sE_p, sE_r, sE_m, sE_a, sE_c, evQ_some, evR_some, evM_some, evA_some, evC_some, callD_some, contD_some, consD_some, setT_some, setT_none, narrow_nil, narrow_cons, narrowC_some, seq_n, seq_ret, seq_ex, block_n, block_ret, block_ex, cond_t, cond_f, afterV_some, afterM_some, afterA_some, afterC_some, callC_some, get_t, get_c, get_setP, Tr.getP_e, argsT_nil, argsT_cons, ↓reduceIte, Nat.reduceEqDiff, Nat.reduceAdd, Nat.reduceSub, Nat.reduceMul, Nat.reduceDiv, Nat.reduceMod, Nat.zero_add, Nat.add_zero, beq_self_eq_true, Nat.zero_ne_one, Nat.one_ne_zero, Nat.reduceLeDiff, Int.reduceBEq, constF, unF, unary,  pickF, nilcF, faddrF, fldF, iaddrSF, arF, arith_lss, arith_leq, arith_gtr, arith_geq, arith_add, arith_sub, convF, extF, lenF, eqcF, eqnF, eqN, eqPtr, isNone, loadF, storeF, allocF, callF, gets, Option.map_some, Option.bind_some, add_eq, mul_eq, sub_eq, div_eq, mod_eq, nbeq, nble, asBlk_int, flat_int, cells_int, asBlk_bool, flat_bool, cells_bool, asBlk_ptr, flat_ptr, cells_ptr, asBlk_slice, flat_slice, cells_slice, asBlk_map, flat_map, cells_map, asBlk_blk, flat_blk, cells_blk, cells_agg, flat_agg, asBlk_agg, V.w, width, unc, cmpCells, eqI_eq, eqB_eq, mkI_eq, asNat_int, asNat_zero, asNat_one, undef, List.append_nil, List.nil_append, List.cons_append, nth_zero, nth_succ, resultsV, result, tup, wp_some, Bool.and_true, Bool.true_and, Bool.and_self, decide_true, decide_false, Bool.not_true, Bool.not_false, Bool.true_beq, Bool.false_beq, beq_iff_eq, reduceCtorEq, Nat.succ_eq_add_one, ptr0, Int.ofNat_eq_natCast, Int.ofNat_le, Int.ofNat_lt, Int.natCast_add, store_new, store_new65, load_set65, load_set65', load_set, List.map_cons, List.map_nil, sC_loop, Heap.next_add, Heap.next_set, boxF, buildF, fill, bsliceF, fillRows, List.replicate_one, upd_zero, put_blk, cut_blk, cut_whole, put_hit_int, put_miss_int, cut_hit_int, cut_miss_int, put_hit_bool, put_miss_bool, cut_hit_bool, cut_miss_bool, put_hit_ptr, put_miss_ptr, cut_hit_ptr, cut_miss_ptr, put_hit_slice, put_miss_slice, cut_hit_slice, cut_miss_slice, put_hit_map, put_miss_map, cut_hit_map, cut_miss_map, load_add, appF, List.length_cons, List.length_nil]
        have tf := (Turns.refl Z K2).owe hq
        have hT' := hTA.step hkl n1 n2 tf f2 (hTA.ok.write _ _ _) f3
        simp only [c9_l2, q0, q1, q5, q6, q10, hiA, h60, hi1, la, sa, a0, a1, a2, a5, hms, hwk, z0, e1, hk1, lp1, b2, b5, e2, Nat.mul_one, sC_skip, sC_reg, sC_seq, sC_cond, sC_block, sC_exit, sC_scope, sC_ret, sC_regD, sI_nil, sI_none, sI_guard, guard_t, guard_f, want_b, want_u, sO_p, sO_r, sO_m, sO_a, sO_c, sD_nil, sD_none, sD_guard, guardD_t, guardD_f, sE_p, sE_r, sE_m, sE_a, sE_c, evQ_some, evR_some, evM_some, evA_some, evC_some, callD_some, contD_some, consD_some, setT_some, setT_none, narrow_nil, narrow_cons, narrowC_some, seq_n, seq_ret, seq_ex, block_n, block_ret, block_ex, cond_t, cond_f, afterV_some, afterM_some, afterA_some, afterC_some, callC_some, get_t, get_c, get_setP, Tr.getP_e, argsT_nil, argsT_cons, ↓reduceIte, Nat.reduceEqDiff, Nat.reduceAdd, Nat.reduceSub, Nat.reduceMul, Nat.reduceDiv, Nat.reduceMod, Nat.zero_add, Nat.add_zero, beq_self_eq_true, Nat.zero_ne_one, Nat.one_ne_zero, Nat.reduceLeDiff, Int.reduceBEq, constF, unF, unary,  pickF, nilcF, faddrF, fldF, iaddrSF, arF, arith_lss, arith_leq, arith_gtr, arith_geq, arith_add, arith_sub, convF, extF, lenF, eqcF, eqnF, eqN, eqPtr, isNone, loadF, storeF, allocF, callF, gets, Option.map_some, Option.bind_some, add_eq, mul_eq, sub_eq, div_eq, mod_eq, nbeq, nble, asBlk_int, flat_int, cells_int, asBlk_bool, flat_bool, cells_bool, asBlk_ptr, flat_ptr, cells_ptr, asBlk_slice, flat_slice, cells_slice, asBlk_map, flat_map, cells_map, asBlk_blk, flat_blk, cells_blk, cells_agg, flat_agg, asBlk_agg, V.w, width, unc, cmpCells, eqI_eq, eqB_eq, mkI_eq, asNat_int, asNat_zero, asNat_one, undef, List.append_nil, List.nil_append, List.cons_append, nth_zero, nth_succ, resultsV, result, tup, wp_some, Bool.and_true, Bool.true_and, Bool.and_self, decide_true, decide_false, Bool.not_true, Bool.not_false, Bool.true_beq, Bool.false_beq, beq_iff_eq, reduceCtorEq, Nat.succ_eq_add_one, ptr0, Int.ofNat_eq_natCast, Int.ofNat_le, Int.ofNat_lt, Int.natCast_add, store_new, store_new65, load_set65, load_set65', load_set, List.map_cons, List.map_nil, sC_loop, Heap.next_add, Heap.next_set, boxF, buildF, fill, bsliceF, fillRows, List.replicate_one, upd_zero, put_blk, cut_blk, cut_whole, put_hit_int, put_miss_int, cut_hit_int, cut_miss_int, put_hit_bool, put_miss_bool, cut_hit_bool, cut_miss_bool, put_hit_ptr, put_miss_ptr, cut_hit_ptr, cut_miss_ptr, put_hit_slice, put_miss_slice, cut_hit_slice, cut_miss_slice, put_hit_map, put_miss_map, cut_hit_map, cut_miss_map, load_add, appF, List.length_cons, List.length_nil]
        rw [endD_q (q := q) (by kernel_rfl) (by rw [hqd]; kernel_rfl)]
        simp only [q0, q1, q5, q6, q10, hw, sC_skip, sC_reg, sC_seq, sC_cond, sC_block, sC_exit, sC_scope, sC_ret, sC_regD, sI_nil, sI_none, sI_guard, guard_t, guard_f, want_b, want_u, sO_p, sO_r, sO_m, sO_a, sO_c, sD_nil, sD_none, sD_guard, guardD_t, guardD_f, sE_p, sE_r, sE_m, sE_a, sE_c, evQ_some, evR_some, evM_some, evA_some, evC_some, callD_some, contD_some, consD_some, setT_some, setT_none, narrow_nil, narrow_cons, narrowC_some, seq_n, seq_ret, seq_ex, block_n, block_ret, block_ex, cond_t, cond_f, afterV_some, afterM_some, afterA_some, afterC_some, callC_some, get_t, get_c, get_setP, Tr.getP_e, argsT_nil, argsT_cons, ↓reduceIte, Nat.reduceEqDiff, Nat.reduceAdd, Nat.reduceSub, Nat.reduceMul, Nat.reduceDiv, Nat.reduceMod, Nat.zero_add, Nat.add_zero, beq_self_eq_true, Nat.zero_ne_one, Nat.one_ne_zero, Nat.reduceLeDiff, Int.reduceBEq, constF, unF, unary,  pickF, nilcF, faddrF, fldF, iaddrSF, arF, arith_lss, arith_leq, arith_gtr, arith_geq, arith_add, arith_sub, convF, extF, lenF, eqcF, eqnF, eqN, eqPtr, isNone, loadF, storeF, allocF, callF, gets, Option.map_some, Option.bind_some, add_eq, mul_eq, sub_eq, div_eq, mod_eq, nbeq, nble, asBlk_int, flat_int, cells_int, asBlk_bool, flat_bool, cells_bool, asBlk_ptr, flat_ptr, cells_ptr, asBlk_slice, flat_slice, cells_slice, asBlk_map, flat_map, cells_map, asBlk_blk, flat_blk, cells_blk, cells_agg, flat_agg, asBlk_agg, V.w, width, unc, cmpCells, eqI_eq, eqB_eq, mkI_eq, asNat_int, asNat_zero, asNat_one, undef, List.append_nil, List.nil_append, List.cons_append, nth_zero, nth_succ, resultsV, result, tup, wp_some, Bool.and_true, Bool.true_and, Bool.and_self, decide_true, decide_false, Bool.not_true, Bool.not_false, Bool.true_beq, Bool.false_beq, beq_iff_eq, reduceCtorEq, Nat.succ_eq_add_one, ptr0, Int.ofNat_eq_natCast, Int.ofNat_le, Int.ofNat_lt, Int.natCast_add, store_new, store_new65, load_set65, load_set65', load_set, List.map_cons, List.map_nil, sC_loop, Heap.next_add, Heap.next_set, boxF, buildF, fill, bsliceF, fillRows, List.replicate_one, upd_zero, put_blk, cut_blk, cut_whole, put_hit_int, put_miss_int, cut_hit_int, cut_miss_int, put_hit_bool, put_miss_bool, cut_hit_bool, cut_miss_bool, put_hit_ptr, put_miss_ptr, cut_hit_ptr, cut_miss_ptr, put_hit_slice, put_miss_slice, cut_hit_slice, cut_miss_slice, put_hit_map, put_miss_map, cut_hit_map, cut_miss_map, load_add, appF, List.length_cons, List.length_nil]
        exact ⟨r, Nat.lt_succ_self r, i + 1, l', _, _, by omega, trivial, by rw [hpx], trivial, trivial, trivial, rfl, hT'⟩
      · have z0 : (a.o == 0) = false := by simp; exact h0
        by_cases h2 : a.o = 2
        · have z2 : (a.o == 2) = true := by simp [h2]
          obtain ⟨f1, f2, f3⟩ := hTA.lit.flush hkB (by rw [hdv]; exact g.ne)
          rw [hdv] at f1 f2
          obtain ⟨v, K1, e1, rfl, l', n1⟩ := bflush_all hTA.w.m.rep hTA.ne gg hTA.ok.ar hst (k : Int) hlf (m + 1)
          change callS Try.prog S0 lf (m + 6) 32 _ _ = _ at e1
          rw [f1] at e1
          obtain ⟨b0, b1, b2, b3, b4, b5, b6⟩ := bact_loads ((n1.turns.same _ oA (fun hc => nA _ hc rfl)).trans gA)
          have w1 := hTA.w.bench n1
          obtain ⟨v, K2, e2, rfl, y', n2⟩ := flush_all (w1.o.dev k hkl) g.ne g.ok (by have := g.le; omega) (lf := lf) (by have := g.le; omega) (m + 3)
          change callS Try.prog S0 lf (m + 6) 16 _ _ = _ at e2
          have lpA := hTA.w.o.loadP hkl
          have lp1 := w1.o.loadP hkl
          obtain ⟨q, hqd⟩ : ∃ q : List (Option V × Option V), q = [(loadF (.t (Tr.path 84)) 1 .sc (Tr.setP (Tr.path 84) (.ptr (some ⟨od, k⟩)) .e) HA, some (.ptr (some ⟨lo[k].b, 0⟩))),
            (loadF (.t (Tr.path 84)) 1 .sc (Tr.setP (Tr.path 84) (.ptr (some ⟨od, k⟩)) .e) K1, some (.ptr (some ⟨lo[k].b, 0⟩)))] := ⟨_, rfl⟩
          have hq : ∀ p ∈ q, p.1 = p.2 := by
            rw [hqd]
            intro p hp
            simp only [List.mem_cons, List.not_mem_nil, or_false] at hp
            rcases hp with rfl | rfl <;> simp only [lpA, lp1, sC_skip, sC_reg, sC_seq, sC_cond, sC_block, sC_exit, sC_scope, sC_ret, sC_regD, sI_nil, sI_none, sI_guard, guard_t, guard_f, want_b, want_u, sO_p, sO_r, sO_m, sO_a, sO_c, sD_nil, sD_none, sD_guard, guardD_t, guardD_f, sE_p, sE_r, sE_m, sE_a, sE_c, evQ_some, evR_some, evM_some, evA_some, evC_some, callD_some, contD_some, consD_some, setT_some, setT_none, narrow_nil, narrow_cons, narrowC_some, seq_n, seq_ret, seq_ex, block_n, block_ret, block_ex, cond_t, cond_f, afterV_some, afterM_some, afterA_some, afterC_some, callC_some, get_t, get_c, get_setP, Tr.getP_e, argsT_nil, argsT_cons, ↓reduceIte, Nat.reduceEqDiff, Nat.reduceAdd, Nat.reduceSub, Nat.reduceMul, Nat.reduceDiv, Nat.reduceMod, Nat.zero_add, Nat.add_zero, beq_self_eq_true, Nat.zero_ne_one, Nat.one_ne_zero, Nat.reduceLeDiff, Int.reduceBEq, constF, unF, unary,  pickF, nilcF, faddrF, fldF, iaddrSF, arF, arith_lss, arith_leq, arith_gtr, arith_geq, arith_add, arith_sub, convF, extF, lenF, eqcF, eqnF, eqN, eqPtr, isNone, loadF, storeF, allocF, callF, gets, Option.map_some, Option.bind_some, add_eq, mul_eq, sub_eq, div_eq, mod_eq, nbeq, nble, asBlk_int, flat_int, cells_int, asBlk_bool, flat_bool, cells_bool, asBlk_ptr, flat_ptr, cells_ptr, asBlk_slice, flat_slice, cells_slice, asBlk_map, flat_map, cells_map, asBlk_blk, flat_blk, cells_blk, cells_agg, flat_agg, asBlk_agg, V.w, width, unc, cmpCells, eqI_eq, eqB_eq, mkI_eq, asNat_int, asNat_zero, asNat_one, undef, List.append_nil, List.nil_append, List.cons_append, nth_zero, nth_succ, resultsV, result, tup, wp_some, Bool.and_true, Bool.true_and, Bool.and_self, decide_true, decide_false, Bool.not_true, Bool.not_false, Bool.true_beq, Bool.false_beq, beq_iff_eq, reduceCtorEq, Nat.succ_eq_add_one, ptr0, Int.ofNat_eq_natCast, Int.ofNat_le, Int.ofNat_lt, Int.natCast_add, store_new, store_new65, load_set65, load_set65', load_set, List.map_cons, List.map_nil, sC_loop, Heap.next_add, Heap.next_set, boxF, buildF, fill, bsliceF, fillRows, List.replicate_one, upd_zero, put_blk, cut_blk, cut_whole, put_hit_int, put_miss_int, cut_hit_int, cut_miss_int, put_hit_bool, put_miss_bool, cut_hit_bool, cut_miss_bool, put_hit_ptr, put_miss_ptr, cut_hit_ptr, cut_miss_ptr, put_hit_slice, put_miss_slice, cut_hit_slice, cut_miss_slice, put_hit_map, put_miss_map, cut_hit_map, cut_miss_map, load_add, appF, List.length_cons, List.length_nil]
          have tf := (Turns.refl Z K2).owe hq
          have hT' := hTA.step hkl n1 n2 tf f2 (hTA.ok.flush _) f3
          simp only [c9_l2, q0, q1, q5, q6, q10, hiA, h60, hi1, la, sa, a0, a1, hms, hwk, z0, z2, e1, hk1, lp1, e2, Nat.mul_one, sC_skip, sC_reg, sC_seq, sC_cond, sC_block, sC_exit, sC_scope, sC_ret, sC_regD, sI_nil, sI_none, sI_guard, guard_t, guard_f, want_b, want_u, sO_p, sO_r, sO_m, sO_a, sO_c, sD_nil, sD_none, sD_guard, guardD_t, guardD_f, sE_p, sE_r, sE_m, sE_a, sE_c, evQ_some, evR_some, evM_some, evA_some, evC_some, callD_some, contD_some, consD_some, setT_some, setT_none, narrow_nil, narrow_cons, narrowC_some, seq_n, seq_ret, seq_ex, block_n, block_ret, block_ex, cond_t, cond_f, afterV_some, afterM_some, afterA_some, afterC_some, callC_some, get_t, get_c, get_setP, Tr.getP_e, argsT_nil, argsT_cons, ↓reduceIte, Nat.reduceEqDiff, Nat.reduceAdd, Nat.reduceSub, Nat.reduceMul, Nat.reduceDiv, Nat.reduceMod, Nat.zero_add, Nat.add_zero, beq_self_eq_true, Nat.zero_ne_one, Nat.one_ne_zero, Nat.reduceLeDiff, Int.reduceBEq, constF, unF, unary,  pickF, nilcF, faddrF, fldF, iaddrSF, arF, arith_lss, arith_leq, arith_gtr, arith_geq, arith_add, arith_sub, convF, extF, lenF, eqcF, eqnF, eqN, eqPtr, isNone, loadF, storeF, allocF, callF, gets, Option.map_some, Option.bind_some, add_eq, mul_eq, sub_eq, div_eq, mod_eq, nbeq, nble, asBlk_int, flat_int, cells_int, asBlk_bool, flat_bool, cells_bool, asBlk_ptr, flat_ptr, cells_ptr, asBlk_slice, flat_slice, cells_slice, asBlk_map, flat_map, cells_map, asBlk_blk, flat_blk, cells_blk, cells_agg, flat_agg, asBlk_agg, V.w, width, unc, cmpCells, eqI_eq, eqB_eq, mkI_eq, asNat_int, asNat_zero, asNat_one, undef, List.append_nil, List.nil_append, List.cons_append, nth_zero, nth_succ, resultsV, result, tup, wp_some, Bool.and_true, Bool.true_and, Bool.and_self, decide_true, decide_false, Bool.not_true, Bool.not_false, Bool.true_beq, Bool.false_beq, beq_iff_eq, reduceCtorEq, Nat.succ_eq_add_one, ptr0, Int.ofNat_eq_natCast, Int.ofNat_le, Int.ofNat_lt, Int.natCast_add, store_new, store_new65, load_set65, load_set65', load_set, List.map_cons, List.map_nil, sC_loop, Heap.next_add, Heap.next_set, boxF, buildF, fill, bsliceF, fillRows, List.replicate_one, upd_zero, put_blk, cut_blk, cut_whole, put_hit_int, put_miss_int, cut_hit_int, cut_miss_int, put_hit_bool, put_miss_bool, cut_hit_bool, cut_miss_bool, put_hit_ptr, put_miss_ptr, cut_hit_ptr, cut_miss_ptr, put_hit_slice, put_miss_slice, cut_hit_slice, cut_miss_slice, put_hit_map, put_miss_map, cut_hit_map, cut_miss_map, load_add, appF, List.length_cons, List.length_nil]
          rw [endD_q (q := q) (by kernel_rfl) (by rw [hqd]; kernel_rfl)]
          simp only [q0, q1, q5, q6, q10, hw, sC_skip, sC_reg, sC_seq, sC_cond, sC_block, sC_exit, sC_scope, sC_ret, sC_regD, sI_nil, sI_none, sI_guard, guard_t, guard_f, want_b, want_u, sO_p, sO_r, sO_m, sO_a, sO_c, sD_nil, sD_none, sD_guard, guardD_t, guardD_f, sE_p, sE_r, sE_m, sE_a, sE_c, evQ_some, evR_some, evM_some, evA_some, evC_some, callD_some, contD_some, consD_some, setT_some, setT_none, narrow_nil, narrow_cons, narrowC_some, seq_n, seq_ret, seq_ex, block_n, block_ret, block_ex, cond_t, cond_f, afterV_some, afterM_some, afterA_some, afterC_some, callC_some, get_t, get_c, get_setP, Tr.getP_e, argsT_nil, argsT_cons, ↓reduceIte, Nat.reduceEqDiff, Nat.reduceAdd, Nat.reduceSub, Nat.reduceMul, Nat.reduceDiv, Nat.reduceMod, Nat.zero_add, Nat.add_zero, beq_self_eq_true, Nat.zero_ne_one, Nat.one_ne_zero, Nat.reduceLeDiff, Int.reduceBEq, constF, unF, unary,  pickF, nilcF, faddrF, fldF, iaddrSF, arF, arith_lss, arith_leq, arith_gtr, arith_geq, arith_add, arith_sub, convF, extF, lenF, eqcF, eqnF, eqN, eqPtr, isNone, loadF, storeF, allocF, callF, gets, Option.map_some, Option.bind_some, add_eq, mul_eq, sub_eq, div_eq, mod_eq, nbeq, nble, asBlk_int, flat_int, cells_int, asBlk_bool, flat_bool, cells_bool, asBlk_ptr, flat_ptr, cells_ptr, asBlk_slice, flat_slice, cells_slice, asBlk_map, flat_map, cells_map, asBlk_blk, flat_blk, cells_blk, cells_agg, flat_agg, asBlk_agg, V.w, width, unc, cmpCells, eqI_eq, eqB_eq, mkI_eq, asNat_int, asNat_zero, asNat_one, undef, List.append_nil, List.nil_append, List.cons_append, nth_zero, nth_succ, resultsV, result, tup, wp_some, Bool.and_true, Bool.true_and, Bool.and_self, decide_true, decide_false, Bool.not_true, Bool.not_false, Bool.true_beq, Bool.false_beq, beq_iff_eq, reduceCtorEq, Nat.succ_eq_add_one, ptr0, Int.ofNat_eq_natCast, Int.ofNat_le, Int.ofNat_lt, Int.natCast_add, store_new, store_new65, load_set65, load_set65', load_set, List.map_cons, List.map_nil, sC_loop, Heap.next_add, Heap.next_set, boxF, buildF, fill, bsliceF, fillRows, List.replicate_one, upd_zero, put_blk, cut_blk, cut_whole, put_hit_int, put_miss_int, cut_hit_int, cut_miss_int, put_hit_bool, put_miss_bool, cut_hit_bool, cut_miss_bool, put_hit_ptr, put_miss_ptr, cut_hit_ptr, cut_miss_ptr, put_hit_slice, put_miss_slice, cut_hit_slice, cut_miss_slice, put_hit_map, put_miss_map, cut_hit_map, cut_miss_map, load_add, appF, List.length_cons, List.length_nil]
          exact ⟨r, Nat.lt_succ_self r, i + 1, l', _, _, by omega, trivial, by rw [hpx], trivial, trivial, trivial, rfl, hT'⟩
        · have z2 : (a.o == 2) = false := by simp; exact h2
          by_cases h3 : a.o = 3
          · have z3 : (a.o == 3) = true := by simp [h3]
            obtain ⟨f2, f3⟩ := hTA.lit.fail hkB
            have f1 := (hTA.lit.lc hkB).2
            rw [hdv] at f2
            obtain ⟨v, K1, e1, rfl, l', n1⟩ := bfail_all hTA.w.m.rep hTA.ne gg (k : Int) lf (m + 3)
            change callS Try.prog S0 lf (m + 6) 38 _ _ = _ at e1
            rw [f1] at e1
            obtain ⟨b0, b1, b2, b3, b4, b5, b6⟩ := bact_loads ((n1.turns.same _ oA (fun hc => nA _ hc rfl)).trans gA)
            have w1 := hTA.w.bench n1
            obtain ⟨v, K2, e2, rfl, y', n2⟩ := fail_ok (w1.o.dev k hkl) g.ne lf (m + 4)
            change callS Try.prog S0 lf (m + 6) 42 _ _ = _ at e2
            have lpA := hTA.w.o.loadP hkl
            have lp1 := w1.o.loadP hkl
            obtain ⟨q, hqd⟩ : ∃ q : List (Option V × Option V), q = [(loadF (.t (Tr.path 94)) 1 .sc (Tr.setP (Tr.path 94) (.ptr (some ⟨od, k⟩)) .e) HA, some (.ptr (some ⟨lo[k].b, 0⟩))),
              (loadF (.t (Tr.path 94)) 1 .sc (Tr.setP (Tr.path 94) (.ptr (some ⟨od, k⟩)) .e) K1, some (.ptr (some ⟨lo[k].b, 0⟩)))] := ⟨_, rfl⟩
            have hq : ∀ p ∈ q, p.1 = p.2 := by
              rw [hqd]
              intro p hp
              simp only [List.mem_cons, List.not_mem_nil, or_false] at hp
              rcases hp with rfl | rfl <;> simp only [lpA, lp1, sC_skip, sC_reg, sC_seq, sC_cond, sC_block, sC_exit, sC_scope, sC_ret, sC_regD, sI_nil, sI_none, sI_guard, guard_t, guard_f, want_b, want_u, sO_p, sO_r, sO_m, sO_a, sO_c, sD_nil, sD_none, sD_guard, guardD_t, guardD_f, sE_p, sE_r, sE_m, sE_a, sE_c, evQ_some, evR_some, evM_some, evA_some, evC_some, callD_some, contD_some, consD_some, setT_some, setT_none, narrow_nil, narrow_cons, narrowC_some, seq_n, seq_ret, seq_ex, block_n, block_ret, block_ex, cond_t, cond_f, afterV_some, afterM_some, afterA_some, afterC_some, callC_some, get_t, get_c, get_setP, Tr.getP_e, argsT_nil, argsT_cons, ↓reduceIte, Nat.reduceEqDiff, Nat.reduceAdd, Nat.reduceSub, Nat.reduceMul, Nat.reduceDiv, Nat.reduceMod, Nat.zero_add, Nat.add_zero, beq_self_eq_true, Nat.zero_ne_one, Nat.one_ne_zero, Nat.reduceLeDiff, Int.reduceBEq, constF, unF, unary,  pickF, nilcF, faddrF, fldF, iaddrSF, arF, arith_lss, arith_leq, arith_gtr, arith_geq, arith_add, arith_sub, convF, extF, lenF, eqcF, eqnF, eqN, eqPtr, isNone, loadF, storeF, allocF, callF, gets, Option.map_some, Option.bind_some, add_eq, mul_eq, sub_eq, div_eq, mod_eq, nbeq, nble, asBlk_int, flat_int, cells_int, asBlk_bool, flat_bool, cells_bool, asBlk_ptr, flat_ptr, cells_ptr, asBlk_slice, flat_slice, cells_slice, asBlk_map, flat_map, cells_map, asBlk_blk, flat_blk, cells_blk, cells_agg, flat_agg, asBlk_agg, V.w, width, unc, cmpCells, eqI_eq, eqB_eq, mkI_eq, asNat_int, asNat_zero, asNat_one, undef, List.append_nil, List.nil_append, List.cons_append, nth_zero, nth_succ, resultsV, result, tup, wp_some, Bool.and_true, Bool.true_and, Bool.and_self, decide_true, decide_false, Bool.not_true, Bool.not_false, Bool.true_beq, Bool.false_beq, beq_iff_eq, reduceCtorEq, Nat.succ_eq_add_one, ptr0, Int.ofNat_eq_natCast, Int.ofNat_le, Int.ofNat_lt, Int.natCast_add, store_new, store_new65, load_set65, load_set65', load_set, List.map_cons, List.map_nil, sC_loop, Heap.next_add, Heap.next_set, boxF, buildF, fill, bsliceF, fillRows, List.replicate_one, upd_zero, put_blk, cut_blk, cut_whole, put_hit_int, put_miss_int, cut_hit_int, cut_miss_int, put_hit_bool, put_miss_bool, cut_hit_bool, cut_miss_bool, put_hit_ptr, put_miss_ptr, cut_hit_ptr, cut_miss_ptr, put_hit_slice, put_miss_slice, cut_hit_slice, cut_miss_slice, put_hit_map, put_miss_map, cut_hit_map, cut_miss_map, load_add, appF, List.length_cons, List.length_nil]
            have tf := (Turns.refl Z K2).owe hq
            have hT' := hTA.step hkl n1 n2 tf f2 (hTA.ok.fail _) f3
            simp only [c9_l2, q0, q1, q5, q6, q10, hiA, h60, hi1, la, sa, a0, a1, hms, hwk, z0, z2, z3, e1, hk1, lp1, e2, Nat.mul_one, sC_skip, sC_reg, sC_seq, sC_cond, sC_block, sC_exit, sC_scope, sC_ret, sC_regD, sI_nil, sI_none, sI_guard, guard_t, guard_f, want_b, want_u, sO_p, sO_r, sO_m, sO_a, sO_c, sD_nil, sD_none, sD_guard, guardD_t, guardD_f, sE_p, sE_r, sE_m, sE_a, sE_c, evQ_some, evR_some, evM_some, evA_some, evC_some, callD_some, contD_some, consD_some, setT_some, setT_none, narrow_nil, narrow_cons, narrowC_some, seq_n, seq_ret, seq_ex, block_n, block_ret, block_ex, cond_t, cond_f, afterV_some, afterM_some, afterA_some, afterC_some, callC_some, get_t, get_c, get_setP, Tr.getP_e, argsT_nil, argsT_cons, ↓reduceIte, Nat.reduceEqDiff, Nat.reduceAdd, Nat.reduceSub, Nat.reduceMul, Nat.reduceDiv, Nat.reduceMod, Nat.zero_add, Nat.add_zero, beq_self_eq_true, Nat.zero_ne_one, Nat.one_ne_zero, Nat.reduceLeDiff, Int.reduceBEq, constF, unF, unary,  pickF, nilcF, faddrF, fldF, iaddrSF, arF, arith_lss, arith_leq, arith_gtr, arith_geq, arith_add, arith_sub, convF, extF, lenF, eqcF, eqnF, eqN, eqPtr, isNone, loadF, storeF, allocF, callF, gets, Option.map_some, Option.bind_some, add_eq, mul_eq, sub_eq, div_eq, mod_eq, nbeq, nble, asBlk_int, flat_int, cells_int, asBlk_bool, flat_bool, cells_bool, asBlk_ptr, flat_ptr, cells_ptr, asBlk_slice, flat_slice, cells_slice, asBlk_map, flat_map, cells_map, asBlk_blk, flat_blk, cells_blk, cells_agg, flat_agg, asBlk_agg, V.w, width, unc, cmpCells, eqI_eq, eqB_eq, mkI_eq, asNat_int, asNat_zero, asNat_one, undef, List.append_nil, List.nil_append, List.cons_append, nth_zero, nth_succ, resultsV, result, tup, wp_some, Bool.and_true, Bool.true_and, Bool.and_self, decide_true, decide_false, Bool.not_true, Bool.not_false, Bool.true_beq, Bool.false_beq, beq_iff_eq, reduceCtorEq, Nat.succ_eq_add_one, ptr0, Int.ofNat_eq_natCast, Int.ofNat_le, Int.ofNat_lt, Int.natCast_add, store_new, store_new65, load_set65, load_set65', load_set, List.map_cons, List.map_nil, sC_loop, Heap.next_add, Heap.next_set, boxF, buildF, fill, bsliceF, fillRows, List.replicate_one, upd_zero, put_blk, cut_blk, cut_whole, put_hit_int, put_miss_int, cut_hit_int, cut_miss_int, put_hit_bool, put_miss_bool, cut_hit_bool, cut_miss_bool, put_hit_ptr, put_miss_ptr, cut_hit_ptr, cut_miss_ptr, put_hit_slice, put_miss_slice, cut_hit_slice, cut_miss_slice, put_hit_map, put_miss_map, cut_hit_map, cut_miss_map, load_add, appF, List.length_cons, List.length_nil]
            rw [endD_q (q := q) (by kernel_rfl) (by rw [hqd]; kernel_rfl)]
            simp only [q0, q1, q5, q6, q10, hw, sC_skip, sC_reg, sC_seq, sC_cond, sC_block, sC_exit, sC_scope, sC_ret, sC_regD, sI_nil, sI_none, sI_guard, guard_t, guard_f, want_b, want_u, sO_p, sO_r, sO_m, sO_a, sO_c, sD_nil, sD_none, sD_guard, guardD_t, guardD_f, sE_p, sE_r, sE_m, sE_a, sE_c, evQ_some, evR_some, evM_some, evA_some, evC_some, callD_some, contD_some, consD_some, setT_some, setT_none, narrow_nil, narrow_cons, narrowC_some, seq_n, seq_ret, seq_ex, block_n, block_ret, block_ex, cond_t, cond_f, afterV_some, afterM_some, afterA_some, afterC_some, callC_some, get_t, get_c, get_setP, Tr.getP_e, argsT_nil, argsT_cons, ↓reduceIte, Nat.reduceEqDiff, Nat.reduceAdd, Nat.reduceSub, Nat.reduceMul, Nat.reduceDiv, Nat.reduceMod, Nat.zero_add, Nat.add_zero, beq_self_eq_true, Nat.zero_ne_one, Nat.one_ne_zero, Nat.reduceLeDiff, Int.reduceBEq, constF, unF, unary,  pickF, nilcF, faddrF, fldF, iaddrSF, arF, arith_lss, arith_leq, arith_gtr, arith_geq, arith_add, arith_sub, convF, extF, lenF, eqcF, eqnF, eqN, eqPtr, isNone, loadF, storeF, allocF, callF, gets, Option.map_some, Option.bind_some, add_eq, mul_eq, sub_eq, div_eq, mod_eq, nbeq, nble, asBlk_int, flat_int, cells_int, asBlk_bool, flat_bool, cells_bool, asBlk_ptr, flat_ptr, cells_ptr, asBlk_slice, flat_slice, cells_slice, asBlk_map, flat_map, cells_map, asBlk_blk, flat_blk, cells_blk, cells_agg, flat_agg, asBlk_agg, V.w, width, unc, cmpCells, eqI_eq, eqB_eq, mkI_eq, asNat_int, asNat_zero, asNat_one, undef, List.append_nil, List.nil_append, List.cons_append, nth_zero, nth_succ, resultsV, result, tup, wp_some, Bool.and_true, Bool.true_and, Bool.and_self, decide_true, decide_false, Bool.not_true, Bool.not_false, Bool.true_beq, Bool.false_beq, beq_iff_eq, reduceCtorEq, Nat.succ_eq_add_one, ptr0, Int.ofNat_eq_natCast, Int.ofNat_le, Int.ofNat_lt, Int.natCast_add, store_new, store_new65, load_set65, load_set65', load_set, List.map_cons, List.map_nil, sC_loop, Heap.next_add, Heap.next_set, boxF, buildF, fill, bsliceF, fillRows, List.replicate_one, upd_zero, put_blk, cut_blk, cut_whole, put_hit_int, put_miss_int, cut_hit_int, cut_miss_int, put_hit_bool, put_miss_bool, cut_hit_bool, cut_miss_bool, put_hit_ptr, put_miss_ptr, cut_hit_ptr, cut_miss_ptr, put_hit_slice, put_miss_slice, cut_hit_slice, cut_miss_slice, put_hit_map, put_miss_map, cut_hit_map, cut_miss_map, load_add, appF, List.length_cons, List.length_nil]
            exact ⟨r, Nat.lt_succ_self r, i + 1, l', _, _, by omega, trivial, by rw [hpx], trivial, trivial, trivial, rfl, hT'⟩
          · have z3 : (a.o == 3) = false := by simp; exact h3
            by_cases h8 : a.o = 8
            · have z8 : (a.o == 8) = true := by simp [h8]
              obtain ⟨f1, f2, f3⟩ := hTA.lit.rot hkB a.n a.j a.x
              rw [hdv] at f1 f2
              obtain ⟨v, K1, e1, rfl, l', n1⟩ := brot_all hTA.w.m.rep hTA.ne gg (k : Int) a.n a.j oka.x lf (m + 2)
              change callS Try.prog S0 lf (m + 6) 43 _ _ = _ at e1
              rw [f1] at e1
              obtain ⟨b0, b1, b2, b3, b4, b5, b6⟩ := bact_loads ((n1.turns.same _ oA (fun hc => nA _ hc rfl)).trans gA)
              have w1 := hTA.w.bench n1
              obtain ⟨v, K2, e2, rfl, y', n2⟩ := rot_all (w1.o.dev k hkl) g.ne a.n a.j oka.x lf (m + 3)
              change callS Try.prog S0 lf (m + 6) 24 _ _ = _ at e2
              have lpA := hTA.w.o.loadP hkl
              have lp1 := w1.o.loadP hkl
              obtain ⟨q, hqd⟩ : ∃ q : List (Option V × Option V), q = [(loadF (.t (Tr.path 110)) 1 .sc (Tr.setP (Tr.path 110) (.ptr (some ⟨od, k⟩)) .e) HA, some (.ptr (some ⟨lo[k].b, 0⟩))),
                (loadF (.t (Tr.path 110)) 1 .sc (Tr.setP (Tr.path 110) (.ptr (some ⟨od, k⟩)) .e) K1, some (.ptr (some ⟨lo[k].b, 0⟩))),
                (loadF (.t (Tr.path 112)) 1 .sc (Tr.setP (Tr.path 112) (.ptr (some ⟨.run HH.next, 2⟩)) .e) HA, some (.int .i64 a.n)),
                (loadF (.t (Tr.path 112)) 1 .sc (Tr.setP (Tr.path 112) (.ptr (some ⟨.run HH.next, 2⟩)) .e) K1, some (.int .i64 a.n)),
                (loadF (.t (Tr.path 114)) 1 .sc (Tr.setP (Tr.path 114) (.ptr (some ⟨.run HH.next, 3⟩)) .e) HA, some (.int .i64 a.j)),
                (loadF (.t (Tr.path 114)) 1 .sc (Tr.setP (Tr.path 114) (.ptr (some ⟨.run HH.next, 3⟩)) .e) K1, some (.int .i64 a.j)),
                (loadF (.t (Tr.path 116)) 1 .sc (Tr.setP (Tr.path 116) (.ptr (some ⟨.run HH.next, 4⟩)) .e) HA, some (.int .u8 (a.x : Int))),
                (loadF (.t (Tr.path 116)) 1 .sc (Tr.setP (Tr.path 116) (.ptr (some ⟨.run HH.next, 4⟩)) .e) K1, some (.int .u8 (a.x : Int)))] := ⟨_, rfl⟩
              have hq : ∀ p ∈ q, p.1 = p.2 := by
                rw [hqd]
                intro p hp
                simp only [List.mem_cons, List.not_mem_nil, or_false] at hp
                rcases hp with rfl | rfl | rfl | rfl | rfl | rfl | rfl | rfl <;> simp only [lpA, lp1, a2, a3, a4, b2, b3, b4, sC_skip, sC_reg, sC_seq, sC_cond, sC_block, sC_exit, sC_scope, sC_ret, sC_regD, sI_nil, sI_none, sI_guard, guard_t, guard_f, want_b, want_u, sO_p, sO_r, sO_m, sO_a, sO_c, sD_nil, sD_none, sD_guard, guardD_t, guardD_f, sE_p, sE_r, sE_m, sE_a, sE_c, evQ_some, evR_some, evM_some, evA_some, evC_some, callD_some, contD_some, consD_some, setT_some, setT_none, narrow_nil, narrow_cons, narrowC_some, seq_n, seq_ret, seq_ex, block_n, block_ret, block_ex, cond_t, cond_f, afterV_some, afterM_some, afterA_some, afterC_some, callC_some, get_t, get_c, get_setP, Tr.getP_e, argsT_nil, argsT_cons, ↓reduceIte, Nat.reduceEqDiff, Nat.reduceAdd, Nat.reduceSub, Nat.reduceMul, Nat.reduceDiv, Nat.reduceMod, Nat.zero_add, Nat.add_zero, beq_self_eq_true, Nat.zero_ne_one, Nat.one_ne_zero, Nat.reduceLeDiff, Int.reduceBEq, constF, unF, unary,  pickF, nilcF, faddrF, fldF, iaddrSF, arF, arith_lss, arith_leq, arith_gtr, arith_geq, arith_add, arith_sub, convF, extF, lenF, eqcF, eqnF, eqN, eqPtr, isNone, loadF, storeF, allocF, callF, gets, Option.map_some, Option.bind_some, add_eq, mul_eq, sub_eq, div_eq, mod_eq, nbeq, nble, asBlk_int, flat_int, cells_int, asBlk_bool, flat_bool, cells_bool, asBlk_ptr, flat_ptr, cells_ptr, asBlk_slice, flat_slice, cells_slice, asBlk_map, flat_map, cells_map, asBlk_blk, flat_blk, cells_blk, cells_agg, flat_agg, asBlk_agg, V.w, width, unc, cmpCells, eqI_eq, eqB_eq, mkI_eq, asNat_int, asNat_zero, asNat_one, undef, List.append_nil, List.nil_append, List.cons_append, nth_zero, nth_succ, resultsV, result, tup, wp_some, Bool.and_true, Bool.true_and, Bool.and_self, decide_true, decide_false, Bool.not_true, Bool.not_false, Bool.true_beq, Bool.false_beq, beq_iff_eq, reduceCtorEq, Nat.succ_eq_add_one, ptr0, Int.ofNat_eq_natCast, Int.ofNat_le, Int.ofNat_lt, Int.natCast_add, store_new, store_new65, load_set65, load_set65', load_set, List.map_cons, List.map_nil, sC_loop, Heap.next_add, Heap.next_set, boxF, buildF, fill, bsliceF, fillRows, List.replicate_one, upd_zero, put_blk, cut_blk, cut_whole, put_hit_int, put_miss_int, cut_hit_int, cut_miss_int, put_hit_bool, put_miss_bool, cut_hit_bool, cut_miss_bool, put_hit_ptr, put_miss_ptr, cut_hit_ptr, cut_miss_ptr, put_hit_slice, put_miss_slice, cut_hit_slice, cut_miss_slice, put_hit_map, put_miss_map, cut_hit_map, cut_miss_map, load_add, appF, List.length_cons, List.length_nil]
              have tf := (Turns.refl Z K2).owe hq
              have hT' := hTA.step hkl n1 n2 tf f2 (hTA.ok.rot _ _ _ _) f3
              simp only [c9_l2, q0, q1, q5, q6, q10, hiA, h60, hi1, la, sa, a0, a1, a2, a3, a4, b2, b3, b4, hms, hwk, z0, z2, z3, z8, e1, hk1, lp1, e2, Nat.mul_one, sC_skip, sC_reg, sC_seq, sC_cond, sC_block, sC_exit, sC_scope, sC_ret, sC_regD, sI_nil, sI_none, sI_guard, guard_t, guard_f, want_b, want_u, sO_p, sO_r, sO_m, sO_a, sO_c, sD_nil, sD_none, sD_guard, guardD_t, guardD_f, sE_p, sE_r, sE_m, sE_a, sE_c, evQ_some, evR_some, evM_some, evA_some, evC_some, callD_some, contD_some, consD_some, setT_some, setT_none, narrow_nil, narrow_cons, narrowC_some, seq_n, seq_ret, seq_ex, block_n, block_ret, block_ex, cond_t, cond_f, afterV_some, afterM_some, afterA_some, afterC_some, callC_some, get_t, get_c, get_setP, Tr.getP_e, argsT_nil, argsT_cons, ↓reduceIte, Nat.reduceEqDiff, Nat.reduceAdd, Nat.reduceSub, Nat.reduceMul, Nat.reduceDiv, Nat.reduceMod, Nat.zero_add, Nat.add_zero, beq_self_eq_true, Nat.zero_ne_one, Nat.one_ne_zero, Nat.reduceLeDiff, Int.reduceBEq, constF, unF, unary,  pickF, nilcF, faddrF, fldF, iaddrSF, arF, arith_lss, arith_leq, arith_gtr, arith_geq, arith_add, arith_sub, convF, extF, lenF, eqcF, eqnF, eqN, eqPtr, isNone, loadF, storeF, allocF, callF, gets, Option.map_some, Option.bind_some, add_eq, mul_eq, sub_eq, div_eq, mod_eq, nbeq, nble, asBlk_int, flat_int, cells_int, asBlk_bool, flat_bool, cells_bool, asBlk_ptr, flat_ptr, cells_ptr, asBlk_slice, flat_slice, cells_slice, asBlk_map, flat_map, cells_map, asBlk_blk, flat_blk, cells_blk, cells_agg, flat_agg, asBlk_agg, V.w, width, unc, cmpCells, eqI_eq, eqB_eq, mkI_eq, asNat_int, asNat_zero, asNat_one, undef, List.append_nil, List.nil_append, List.cons_append, nth_zero, nth_succ, resultsV, result, tup, wp_some, Bool.and_true, Bool.true_and, Bool.and_self, decide_true, decide_false, Bool.not_true, Bool.not_false, Bool.true_beq, Bool.false_beq, beq_iff_eq, reduceCtorEq, Nat.succ_eq_add_one, ptr0, Int.ofNat_eq_natCast, Int.ofNat_le, Int.ofNat_lt, Int.natCast_add, store_new, store_new65, load_set65, load_set65', load_set, List.map_cons, List.map_nil, sC_loop, Heap.next_add, Heap.next_set, boxF, buildF, fill, bsliceF, fillRows, List.replicate_one, upd_zero, put_blk, cut_blk, cut_whole, put_hit_int, put_miss_int, cut_hit_int, cut_miss_int, put_hit_bool, put_miss_bool, cut_hit_bool, cut_miss_bool, put_hit_ptr, put_miss_ptr, cut_hit_ptr, cut_miss_ptr, put_hit_slice, put_miss_slice, cut_hit_slice, cut_miss_slice, put_hit_map, put_miss_map, cut_hit_map, cut_miss_map, load_add, appF, List.length_cons, List.length_nil]
              rw [endD_q (q := q) (by kernel_rfl) (by rw [hqd]; kernel_rfl)]
              simp only [q0, q1, q5, q6, q10, hw, sC_skip, sC_reg, sC_seq, sC_cond, sC_block, sC_exit, sC_scope, sC_ret, sC_regD, sI_nil, sI_none, sI_guard, guard_t, guard_f, want_b, want_u, sO_p, sO_r, sO_m, sO_a, sO_c, sD_nil, sD_none, sD_guard, guardD_t, guardD_f, sE_p, sE_r, sE_m, sE_a, sE_c, evQ_some, evR_some, evM_some, evA_some, evC_some, callD_some, contD_some, consD_some, setT_some, setT_none, narrow_nil, narrow_cons, narrowC_some, seq_n, seq_ret, seq_ex, block_n, block_ret, block_ex, cond_t, cond_f, afterV_some, afterM_some, afterA_some, afterC_some, callC_some, get_t, get_c, get_setP, Tr.getP_e, argsT_nil, argsT_cons, ↓reduceIte, Nat.reduceEqDiff, Nat.reduceAdd, Nat.reduceSub, Nat.reduceMul, Nat.reduceDiv, Nat.reduceMod, Nat.zero_add, Nat.add_zero, beq_self_eq_true, Nat.zero_ne_one, Nat.one_ne_zero, Nat.reduceLeDiff, Int.reduceBEq, constF, unF, unary,  pickF, nilcF, faddrF, fldF, iaddrSF, arF, arith_lss, arith_leq, arith_gtr, arith_geq, arith_add, arith_sub, convF, extF, lenF, eqcF, eqnF, eqN, eqPtr, isNone, loadF, storeF, allocF, callF, gets, Option.map_some, Option.bind_some, add_eq, mul_eq, sub_eq, div_eq, mod_eq, nbeq, nble, asBlk_int, flat_int, cells_int, asBlk_bool, flat_bool, cells_bool, asBlk_ptr, flat_ptr, cells_ptr, asBlk_slice, flat_slice, cells_slice, asBlk_map, flat_map, cells_map, asBlk_blk, flat_blk, cells_blk, cells_agg, flat_agg, asBlk_agg, V.w, width, unc, cmpCells, eqI_eq, eqB_eq, mkI_eq, asNat_int, asNat_zero, asNat_one, undef, List.append_nil, List.nil_append, List.cons_append, nth_zero, nth_succ, resultsV, result, tup, wp_some, Bool.and_true, Bool.true_and, Bool.and_self, decide_true, decide_false, Bool.not_true, Bool.not_false, Bool.true_beq, Bool.false_beq, beq_iff_eq, reduceCtorEq, Nat.succ_eq_add_one, ptr0, Int.ofNat_eq_natCast, Int.ofNat_le, Int.ofNat_lt, Int.natCast_add, store_new, store_new65, load_set65, load_set65', load_set, List.map_cons, List.map_nil, sC_loop, Heap.next_add, Heap.next_set, boxF, buildF, fill, bsliceF, fillRows, List.replicate_one, upd_zero, put_blk, cut_blk, cut_whole, put_hit_int, put_miss_int, cut_hit_int, cut_miss_int, put_hit_bool, put_miss_bool, cut_hit_bool, cut_miss_bool, put_hit_ptr, put_miss_ptr, cut_hit_ptr, cut_miss_ptr, put_hit_slice, put_miss_slice, cut_hit_slice, cut_miss_slice, put_hit_map, put_miss_map, cut_hit_map, cut_miss_map, load_add, appF, List.length_cons, List.length_nil]
              exact ⟨r, Nat.lt_succ_self r, i + 1, l', _, _, by omega, trivial, by rw [hpx], trivial, trivial, trivial, rfl, hT'⟩
            · have z8 : (a.o == 8) = false := by simp; exact h8
              have hT' : Twins H0 HA b ds l B od lo (i + 1) := ⟨hTA.w, hTA.eq, hTA.ok.mono, hTA.lit, hTA.len⟩
              simp only [c9_l2, q0, q1, q5, q6, q10, hiA, h60, hi1, la, sa, a0, a1, hms, hwk, z0, z2, z3, z8, hw, sC_skip, sC_reg, sC_seq, sC_cond, sC_block, sC_exit, sC_scope, sC_ret, sC_regD, sI_nil, sI_none, sI_guard, guard_t, guard_f, want_b, want_u, sO_p, sO_r, sO_m, sO_a, sO_c, sD_nil, sD_none, sD_guard, guardD_t, guardD_f, sE_p, sE_r, sE_m, sE_a, sE_c, evQ_some, evR_some, evM_some, evA_some, evC_some, callD_some, contD_some, consD_some, setT_some, setT_none, narrow_nil, narrow_cons, narrowC_some, seq_n, seq_ret, seq_ex, block_n, block_ret, block_ex, cond_t, cond_f, afterV_some, afterM_some, afterA_some, afterC_some, callC_some, get_t, get_c, get_setP, Tr.getP_e, argsT_nil, argsT_cons, ↓reduceIte, Nat.reduceEqDiff, Nat.reduceAdd, Nat.reduceSub, Nat.reduceMul, Nat.reduceDiv, Nat.reduceMod, Nat.zero_add, Nat.add_zero, beq_self_eq_true, Nat.zero_ne_one, Nat.one_ne_zero, Nat.reduceLeDiff, Int.reduceBEq, constF, unF, unary,  pickF, nilcF, faddrF, fldF, iaddrSF, arF, arith_lss, arith_leq, arith_gtr, arith_geq, arith_add, arith_sub, convF, extF, lenF, eqcF, eqnF, eqN, eqPtr, isNone, loadF, storeF, allocF, callF, gets, Option.map_some, Option.bind_some, add_eq, mul_eq, sub_eq, div_eq, mod_eq, nbeq, nble, asBlk_int, flat_int, cells_int, asBlk_bool, flat_bool, cells_bool, asBlk_ptr, flat_ptr, cells_ptr, asBlk_slice, flat_slice, cells_slice, asBlk_map, flat_map, cells_map, asBlk_blk, flat_blk, cells_blk, cells_agg, flat_agg, asBlk_agg, V.w, width, unc, cmpCells, eqI_eq, eqB_eq, mkI_eq, asNat_int, asNat_zero, asNat_one, undef, List.append_nil, List.nil_append, List.cons_append, nth_zero, nth_succ, resultsV, result, tup, wp_some, Bool.and_true, Bool.true_and, Bool.and_self, decide_true, decide_false, Bool.not_true, Bool.not_false, Bool.true_beq, Bool.false_beq, beq_iff_eq, reduceCtorEq, Nat.succ_eq_add_one, ptr0, Int.ofNat_eq_natCast, Int.ofNat_le, Int.ofNat_lt, Int.natCast_add, store_new, store_new65, load_set65, load_set65', load_set, List.map_cons, List.map_nil, sC_loop, Heap.next_add, Heap.next_set, boxF, buildF, fill, bsliceF, fillRows, List.replicate_one, upd_zero, put_blk, cut_blk, cut_whole, put_hit_int, put_miss_int, cut_hit_int, cut_miss_int, put_hit_bool, put_miss_bool, cut_hit_bool, cut_miss_bool, put_hit_ptr, put_miss_ptr, cut_hit_ptr, cut_miss_ptr, put_hit_slice, put_miss_slice, cut_hit_slice, cut_miss_slice, put_hit_map, put_miss_map, cut_hit_map, cut_miss_map, load_add, appF, List.length_cons, List.length_nil]
              exact ⟨r, Nat.lt_succ_self r, i + 1, l, _, _, by omega, trivial, by rw [hpx], trivial, trivial, trivial, rfl, hT'⟩
  · have hg : ¬ (i < A.length) := hiA
    simp only [c9_l2, q0, q1, q5, q6, q10, hg, sC_skip, sC_reg, sC_seq, sC_cond, sC_block, sC_exit, sC_scope, sC_ret, sC_regD, sI_nil, sI_none, sI_guard, guard_t, guard_f, want_b, want_u, sO_p, sO_r, sO_m, sO_a, sO_c, sD_nil, sD_none, sD_guard, guardD_t, guardD_f, sE_p, sE_r, sE_m, sE_a, sE_c, evQ_some, evR_some, evM_some, evA_some, evC_some, callD_some, contD_some, consD_some, setT_some, setT_none, narrow_nil, narrow_cons, narrowC_some, seq_n, seq_ret, seq_ex, block_n, block_ret, block_ex, cond_t, cond_f, afterV_some, afterM_some, afterA_some, afterC_some, callC_some, get_t, get_c, get_setP, Tr.getP_e, argsT_nil, argsT_cons, ↓reduceIte, Nat.reduceEqDiff, Nat.reduceAdd, Nat.reduceSub, Nat.reduceMul, Nat.reduceDiv, Nat.reduceMod, Nat.zero_add, Nat.add_zero, beq_self_eq_true, Nat.zero_ne_one, Nat.one_ne_zero, Nat.reduceLeDiff, Int.reduceBEq, constF, unF, unary,  pickF, nilcF, faddrF, fldF, iaddrSF, arF, arith_lss, arith_leq, arith_gtr, arith_geq, arith_add, arith_sub, convF, extF, lenF, eqcF, eqnF, eqN, eqPtr, isNone, loadF, storeF, allocF, callF, gets, Option.map_some, Option.bind_some, add_eq, mul_eq, sub_eq, div_eq, mod_eq, nbeq, nble, asBlk_int, flat_int, cells_int, asBlk_bool, flat_bool, cells_bool, asBlk_ptr, flat_ptr, cells_ptr, asBlk_slice, flat_slice, cells_slice, asBlk_map, flat_map, cells_map, asBlk_blk, flat_blk, cells_blk, cells_agg, flat_agg, asBlk_agg, V.w, width, unc, cmpCells, eqI_eq, eqB_eq, mkI_eq, asNat_int, asNat_zero, asNat_one, undef, List.append_nil, List.nil_append, List.cons_append, nth_zero, nth_succ, resultsV, result, tup, wp_some, Bool.and_true, Bool.true_and, Bool.and_self, decide_true, decide_false, Bool.not_true, Bool.not_false, Bool.true_beq, Bool.false_beq, beq_iff_eq, reduceCtorEq, Nat.succ_eq_add_one, ptr0, Int.ofNat_eq_natCast, Int.ofNat_le, Int.ofNat_lt, Int.natCast_add, store_new, store_new65, load_set65, load_set65', load_set, List.map_cons, List.map_nil, sC_loop, Heap.next_add, Heap.next_set, boxF, buildF, fill, bsliceF, fillRows, List.replicate_one, upd_zero, put_blk, cut_blk, cut_whole, put_hit_int, put_miss_int, cut_hit_int, cut_miss_int, put_hit_bool, put_miss_bool, cut_hit_bool, cut_miss_bool, put_hit_ptr, put_miss_ptr, cut_hit_ptr, cut_miss_ptr, put_hit_slice, put_miss_slice, cut_hit_slice, cut_miss_slice, put_hit_map, put_miss_map, cut_hit_map, cut_miss_map, load_add, appF, List.length_cons, List.length_nil]
    exact ⟨trivial, trivial, trivial, trivial, trivial, i, l, B, lo, by omega, hT⟩

end Go.Proofs.Ytcelngepfdchiaa.disk

