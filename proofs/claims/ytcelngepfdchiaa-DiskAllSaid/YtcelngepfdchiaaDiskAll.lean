/-
  'DiskAll' holds: for every number of sectors and all writes, the law answers true, and its arguments read as they did. No condition.
-/
import Derived.Test.YtcelngepfdchiaaDisk6
set_option linter.unusedVariables false
set_option linter.unusedSimpArgs false
set_option maxRecDepth 10000
namespace Go.Proofs.Ytcelngepfdchiaa.disk
open Go.Am

noncomputable def c5_l0 : C := .seq (.seq (.reg [
      ⟨(some (Tr.path 115)), (some (.p (S.get (.t (Tr.path 19))))), none, [Tr.path 19]⟩,
      ⟨(some (Tr.path 116)), (some (.p (S.get (.t (Tr.path 8))))), none, [Tr.path 8]⟩,
      ⟨(some (Tr.path 117)), (some (.p (arF .lss (.t (Tr.path 115)) (.t (Tr.path 116))))), none, [Tr.path 115, Tr.path 116]⟩]) (
     .cond (.t (Tr.path 117)) (.skip) (.exit 2))) (
    .seq (.block 3 (.seq (.reg [
       ⟨(some (Tr.path 121)), (some (.p (S.get (.t (Tr.path 7))))), none, [Tr.path 7]⟩,
       ⟨(some (Tr.path 122)), (some (.p (S.get (.t (Tr.path 19))))), none, [Tr.path 19]⟩,
       ⟨(some (Tr.path 123)), (some (.c (callF (.c (.func (.func 17) [] [])) [(.t (Tr.path 121)), (.t (Tr.path 122))]))), none, [Tr.path 121, Tr.path 122]⟩,
       ⟨(some (Tr.path 120)), (some (.p (S.get (.t (Tr.path 123))))), none, [Tr.path 123]⟩,
       ⟨(some (Tr.path 124)), (some (.p (extF (.t (Tr.path 120)) 0))), none, [Tr.path 120]⟩,
       ⟨(some (Tr.path 125)), (some (.p (extF (.t (Tr.path 120)) 1))), none, [Tr.path 120]⟩,
       ⟨(some (Tr.path 20)), (some (.m (allocF 64 [.blk 0]))), none, []⟩,
       ⟨none, (some (.a (storeF (.t (Tr.path 20)) (.t (Tr.path 124)) 64))), none, [Tr.path 20, Tr.path 124]⟩,
       ⟨(some (Tr.path 21)), (some (.p (S.get (.t (Tr.path 125))))), none, [Tr.path 125]⟩]) (
      .seq (.reg [
       ⟨(some (Tr.path 127)), (some (.p (S.get (.t (Tr.path 13))))), none, [Tr.path 13]⟩,
       ⟨(some (Tr.path 128)), (some (.p (S.get (.t (Tr.path 19))))), none, [Tr.path 19]⟩,
       ⟨(some (Tr.path 129)), (some (.c (callF (.c (.func (.func 20) [] [])) [(.t (Tr.path 127)), (.t (Tr.path 128))]))), none, [Tr.path 127, Tr.path 128]⟩,
       ⟨(some (Tr.path 126)), (some (.p (S.get (.t (Tr.path 129))))), none, [Tr.path 129]⟩,
       ⟨(some (Tr.path 130)), (some (.p (extF (.t (Tr.path 126)) 0))), none, [Tr.path 126]⟩,
       ⟨(some (Tr.path 131)), (some (.p (extF (.t (Tr.path 126)) 1))), none, [Tr.path 126]⟩,
       ⟨(some (Tr.path 22)), (some (.m (allocF 64 [.blk 0]))), none, []⟩,
       ⟨none, (some (.a (storeF (.t (Tr.path 22)) (.t (Tr.path 130)) 64))), none, [Tr.path 22, Tr.path 130]⟩,
       ⟨(some (Tr.path 23)), (some (.p (S.get (.t (Tr.path 131))))), none, [Tr.path 131]⟩]) (
      .seq (.reg [
       ⟨(some (Tr.path 133)), (some (.p (S.get (.t (Tr.path 14))))), none, [Tr.path 14]⟩,
       ⟨(some (Tr.path 134)), (some (.p (S.get (.t (Tr.path 19))))), none, [Tr.path 19]⟩,
       ⟨(some (Tr.path 135)), (some (.c (callF (.c (.func (.func 20) [] [])) [(.t (Tr.path 133)), (.t (Tr.path 134))]))), none, [Tr.path 133, Tr.path 134]⟩,
       ⟨(some (Tr.path 132)), (some (.p (S.get (.t (Tr.path 135))))), none, [Tr.path 135]⟩,
       ⟨(some (Tr.path 136)), (some (.p (extF (.t (Tr.path 132)) 0))), none, [Tr.path 132]⟩,
       ⟨(some (Tr.path 137)), (some (.p (extF (.t (Tr.path 132)) 1))), none, [Tr.path 132]⟩,
       ⟨(some (Tr.path 24)), (some (.m (allocF 64 [.blk 0]))), none, []⟩,
       ⟨none, (some (.a (storeF (.t (Tr.path 24)) (.t (Tr.path 136)) 64))), none, [Tr.path 24, Tr.path 136]⟩,
       ⟨(some (Tr.path 25)), (some (.p (S.get (.t (Tr.path 137))))), none, [Tr.path 137]⟩]) (
      .seq (.reg [
       ⟨(some (Tr.path 139)), (some (.p (S.get (.t (Tr.path 10))))), none, [Tr.path 10]⟩,
       ⟨(some (Tr.path 140)), (some (.p (S.get (.t (Tr.path 19))))), none, [Tr.path 19]⟩,
       ⟨(some (Tr.path 141)), (some (.c (callF (.c (.func (.func 20) [] [])) [(.t (Tr.path 139)), (.t (Tr.path 140))]))), none, [Tr.path 139, Tr.path 140]⟩,
       ⟨(some (Tr.path 138)), (some (.p (S.get (.t (Tr.path 141))))), none, [Tr.path 141]⟩,
       ⟨(some (Tr.path 142)), (some (.p (extF (.t (Tr.path 138)) 0))), none, [Tr.path 138]⟩,
       ⟨(some (Tr.path 143)), (some (.p (extF (.t (Tr.path 138)) 1))), none, [Tr.path 138]⟩,
       ⟨(some (Tr.path 26)), (some (.m (allocF 64 [.blk 0]))), none, []⟩,
       ⟨none, (some (.a (storeF (.t (Tr.path 26)) (.t (Tr.path 142)) 64))), none, [Tr.path 26, Tr.path 142]⟩,
       ⟨(some (Tr.path 27)), (some (.p (S.get (.t (Tr.path 143))))), none, [Tr.path 143]⟩]) (
      .seq (.reg [
       ⟨(some (Tr.path 144)), (some (.r (loadF (.t (Tr.path 20)) 64 .bk))), none, [Tr.path 20]⟩,
       ⟨(some (Tr.path 145)), (some (.r (loadF (.t (Tr.path 22)) 64 .bk))), none, [Tr.path 22]⟩,
       ⟨(some (Tr.path 146)), (some (.p (eqcF true true [.blk] (.t (Tr.path 144)) (.t (Tr.path 145))))), none, [Tr.path 144, Tr.path 145]⟩,
       ⟨(some (Tr.path 147)), (some (.p (S.get (.t (Tr.path 146))))), none, [Tr.path 146]⟩,
       ⟨(some (Tr.path 148)), (some (.r (loadF (.t (Tr.path 24)) 64 .bk))), (some (some (Tr.path 147), false)), [Tr.path 24]⟩,
       ⟨(some (Tr.path 149)), (some (.r (loadF (.t (Tr.path 26)) 64 .bk))), (some (some (Tr.path 147), false)), [Tr.path 26]⟩,
       ⟨(some (Tr.path 150)), (some (.p (eqcF true true [.blk] (.t (Tr.path 148)) (.t (Tr.path 149))))), (some (some (Tr.path 147), false)), [Tr.path 148, Tr.path 149]⟩,
       ⟨(some (Tr.path 151)), (some (.p (pickF (.t (Tr.path 147)) (.c (.bool true)) (.t (Tr.path 150))))), none, [Tr.path 147, Tr.path 150]⟩,
       ⟨(some (Tr.path 152)), (some (.p (S.get (.t (Tr.path 151))))), none, [Tr.path 151]⟩,
       ⟨(some (Tr.path 153)), (some (.p (S.get (.t (Tr.path 27))))), (some (some (Tr.path 152), false)), [Tr.path 27]⟩,
       ⟨(some (Tr.path 154)), (some (.p (eqcF true false [.int .i64] (.t (Tr.path 153)) (.c (.int .i64 0))))), (some (some (Tr.path 152), false)), [Tr.path 153]⟩,
       ⟨(some (Tr.path 155)), (some (.p (pickF (.t (Tr.path 152)) (.c (.bool true)) (.t (Tr.path 154))))), none, [Tr.path 152, Tr.path 154]⟩]) (
      .cond (.t (Tr.path 155)) (.seq (.reg [
         ⟨(some (Tr.path 6)), (some (.p (S.get (.c (.bool false))))), none, []⟩]) (
        .ret)) (.skip)))))))) (
    .reg [
    ⟨(some (Tr.path 118)), (some (.p (S.get (.t (Tr.path 19))))), none, [Tr.path 19]⟩,
    ⟨(some (Tr.path 119)), (some (.p (arF .add (.t (Tr.path 118)) (.c (.int .i64 1))))), none, [Tr.path 118]⟩,
    ⟨(some (Tr.path 19)), (some (.p (S.get (.t (Tr.path 119))))), none, [Tr.path 119]⟩]))
noncomputable def c5_l1 : C := .seq (.seq (.reg [
      ⟨(some (Tr.path 44)), (some (.p (S.get (.t (Tr.path 12))))), none, [Tr.path 12]⟩,
      ⟨(some (Tr.path 45)), (some (.p (S.get (.t (Tr.path 2))))), none, [Tr.path 2]⟩,
      ⟨(some (Tr.path 46)), (some (.p (lenF (.t (Tr.path 45))))), none, [Tr.path 45]⟩,
      ⟨(some (Tr.path 47)), (some (.p (arF .lss (.t (Tr.path 44)) (.t (Tr.path 46))))), none, [Tr.path 44, Tr.path 46]⟩,
      ⟨(some (Tr.path 48)), (some (.p (S.get (.t (Tr.path 47))))), none, [Tr.path 47]⟩,
      ⟨(some (Tr.path 49)), (some (.p (S.get (.t (Tr.path 12))))), (some (some (Tr.path 48), true)), [Tr.path 12]⟩,
      ⟨(some (Tr.path 50)), (some (.p (arF .lss (.t (Tr.path 49)) (.c (.int .i64 40))))), (some (some (Tr.path 48), true)), [Tr.path 49]⟩,
      ⟨(some (Tr.path 51)), (some (.p (pickF (.t (Tr.path 48)) (.t (Tr.path 50)) (.c (.bool false))))), none, [Tr.path 48, Tr.path 50]⟩]) (
     .cond (.t (Tr.path 51)) (.skip) (.exit 0))) (
    .seq (.block 1 (.seq (.seq (.regD [
        ⟨(some (Tr.path 54)), (some (.p (S.get (.t (Tr.path 7))))), none, [Tr.path 7]⟩,
        ⟨(some (Tr.path 55)), (some (.p (S.get (.t (Tr.path 2))))), none, [Tr.path 2]⟩,
        ⟨(some (Tr.path 56)), (some (.p (S.get (.t (Tr.path 12))))), none, [Tr.path 12]⟩,
        ⟨(some (Tr.path 57)), (some (.p (iaddrSF (.t (Tr.path 55)) (.t (Tr.path 56)) 65))), none, [Tr.path 55, Tr.path 56]⟩,
        ⟨(some (Tr.path 58)), (some (.p (faddrF (.t (Tr.path 57)) 0))), none, [Tr.path 57]⟩,
        ⟨(some (Tr.path 59)), (some (.r (loadF (.t (Tr.path 58)) 1 .sc))), none, [Tr.path 58]⟩,
        ⟨(some (Tr.path 60)), (some (.p (convF .u64 (.t (Tr.path 59))))), none, [Tr.path 59]⟩,
        ⟨(some (Tr.path 61)), (some (.p (S.get (.t (Tr.path 8))))), none, [Tr.path 8]⟩,
        ⟨(some (Tr.path 62)), (some (.p (convF .u64 (.t (Tr.path 61))))), none, [Tr.path 61]⟩,
        ⟨(some (Tr.path 63)), (some (.p (arF .rem (.t (Tr.path 60)) (.t (Tr.path 62))))), none, [Tr.path 60, Tr.path 62]⟩,
        ⟨(some (Tr.path 64)), (some (.p (convF .i64 (.t (Tr.path 63))))), none, [Tr.path 63]⟩,
        ⟨(some (Tr.path 65)), (some (.p (S.get (.t (Tr.path 2))))), none, [Tr.path 2]⟩,
        ⟨(some (Tr.path 66)), (some (.p (S.get (.t (Tr.path 12))))), none, [Tr.path 12]⟩,
        ⟨(some (Tr.path 67)), (some (.p (iaddrSF (.t (Tr.path 65)) (.t (Tr.path 66)) 65))), none, [Tr.path 65, Tr.path 66]⟩,
        ⟨(some (Tr.path 68)), (some (.p (faddrF (.t (Tr.path 67)) 1))), none, [Tr.path 67]⟩,
        ⟨(some (Tr.path 69)), (some (.r (loadF (.t (Tr.path 68)) 64 .bk))), none, [Tr.path 68]⟩,
        ⟨(some (Tr.path 70)), (some (.c (callF (.c (.func (.func 18) [] [])) [(.t (Tr.path 54)), (.t (Tr.path 64)), (.t (Tr.path 69))]))), none, [Tr.path 54, Tr.path 64, Tr.path 69]⟩,
        ⟨(some (Tr.path 71)), (some (.p (eqcF true false [.int .i64] (.t (Tr.path 70)) (.c (.int .i64 0))))), none, [Tr.path 70]⟩] [0, 0, 0, 6, 14, 30, 62, 0, 128, 510, 1022, 0, 0, 6144, 14336, 30720, 65535, 131071]) (
       .cond (.t (Tr.path 71)) (.seq (.reg [
          ⟨(some (Tr.path 6)), (some (.p (S.get (.c (.bool false))))), none, []⟩]) (
         .ret)) (.skip))) (
      .reg [
      ⟨(some (Tr.path 72)), (some (.p (S.get (.t (Tr.path 11))))), none, [Tr.path 11]⟩,
      ⟨(some (Tr.path 73)), (some (.p (S.get (.t (Tr.path 12))))), none, [Tr.path 12]⟩,
      ⟨(some (Tr.path 74)), (some (.p (arF .add (.c (.int .i64 64)) (.t (Tr.path 73))))), none, [Tr.path 73]⟩,
      ⟨(some (Tr.path 75)), (some (.m (bsliceF 1 1 [.int .i64 0] [(0, 1, (.t (Tr.path 74)))]))), none, [Tr.path 74]⟩,
      ⟨(some (Tr.path 76)), (some (.a (appF 1 8 (.t (Tr.path 72)) (.t (Tr.path 75))))), none, [Tr.path 72, Tr.path 75]⟩,
      ⟨(some (Tr.path 11)), (some (.p (S.get (.t (Tr.path 76))))), none, [Tr.path 76]⟩]))) (
    .reg [
    ⟨(some (Tr.path 52)), (some (.p (S.get (.t (Tr.path 12))))), none, [Tr.path 12]⟩,
    ⟨(some (Tr.path 53)), (some (.p (arF .add (.t (Tr.path 52)) (.c (.int .i64 1))))), none, [Tr.path 52]⟩,
    ⟨(some (Tr.path 12)), (some (.p (S.get (.t (Tr.path 53))))), none, [Tr.path 53]⟩]))
/-- ashlar/ashlarlaw05.DiskAll -/
noncomputable def c5 : CFn := ⟨[.tmp (Tr.path 6)],
 .seq (.reg [
  ⟨(some (Tr.path 6)), (some (.p (S.get (.c (.bool false))))), none, []⟩]) (
 .seq (.reg [
  ⟨(some (Tr.path 29)), (some (.p (S.get (.t (Tr.path 0))))), none, [Tr.path 0]⟩,
  ⟨(some (Tr.path 30)), (some (.p (S.get (.t (Tr.path 1))))), none, [Tr.path 1]⟩,
  ⟨(some (Tr.path 31)), (some (.c (callF (.c (.func (.func 15) [] [])) [(.t (Tr.path 29)), (.t (Tr.path 30))]))), none, [Tr.path 29, Tr.path 30]⟩,
  ⟨(some (Tr.path 28)), (some (.p (S.get (.t (Tr.path 31))))), none, [Tr.path 31]⟩,
  ⟨(some (Tr.path 32)), (some (.p (extF (.t (Tr.path 28)) 0))), none, [Tr.path 28]⟩,
  ⟨(some (Tr.path 33)), (some (.p (extF (.t (Tr.path 28)) 1))), none, [Tr.path 28]⟩,
  ⟨(some (Tr.path 34)), (some (.p (extF (.t (Tr.path 28)) 2))), none, [Tr.path 28]⟩,
  ⟨(some (Tr.path 7)), (some (.p (S.get (.t (Tr.path 32))))), none, [Tr.path 32]⟩,
  ⟨(some (Tr.path 8)), (some (.p (S.get (.t (Tr.path 33))))), none, [Tr.path 33]⟩,
  ⟨(some (Tr.path 9)), (some (.p (S.get (.t (Tr.path 34))))), none, [Tr.path 34]⟩]) (
 .seq (.seq (.reg [
   ⟨(some (Tr.path 35)), (some (.p (S.get (.t (Tr.path 9))))), none, [Tr.path 9]⟩,
   ⟨(some (Tr.path 36)), (some (.p (unF .not (.t (Tr.path 35))))), none, [Tr.path 35]⟩,
   ⟨(some (Tr.path 37)), (some (.p (S.get (.t (Tr.path 36))))), none, [Tr.path 36]⟩,
   ⟨(some (Tr.path 38)), (some (.p (S.get (.t (Tr.path 7))))), (some (some (Tr.path 37), false)), [Tr.path 7]⟩,
   ⟨(some (Tr.path 39)), (some (.c (callF (.c (.func (.func 16) [] [])) [(.t (Tr.path 38))]))), (some (some (Tr.path 37), false)), [Tr.path 38]⟩,
   ⟨(some (Tr.path 40)), (some (.p (eqcF true false [.int .i64] (.t (Tr.path 39)) (.c (.int .i64 0))))), (some (some (Tr.path 37), false)), [Tr.path 39]⟩,
   ⟨(some (Tr.path 41)), (some (.p (pickF (.t (Tr.path 37)) (.c (.bool true)) (.t (Tr.path 40))))), none, [Tr.path 37, Tr.path 40]⟩]) (
  .cond (.t (Tr.path 41)) (.seq (.reg [
     ⟨(some (Tr.path 6)), (some (.p (S.get (.c (.bool false))))), none, []⟩]) (
    .ret)) (.skip))) (
 .seq (.reg [
  ⟨(some (Tr.path 42)), (some (.p (S.get (.t (Tr.path 7))))), none, [Tr.path 7]⟩,
  ⟨(some (Tr.path 43)), (some (.c (callF (.c (.func (.func 26) [] [])) [(.t (Tr.path 42))]))), none, [Tr.path 42]⟩,
  ⟨(some (Tr.path 10)), (some (.p (S.get (.t (Tr.path 43))))), none, [Tr.path 43]⟩]) (
 .seq (.reg [
  ⟨(some (Tr.path 11)), (some (.p (S.get (.c (.slice none 0 0 0))))), none, []⟩]) (
 .seq (.seq (.reg [
   ⟨(some (Tr.path 12)), (some (.p (S.get (.c (.int .i64 0))))), none, []⟩]) (
  .block 0 (.loop c5_l1))) (
 .seq (.reg [
  ⟨(some (Tr.path 77)), (some (.p (S.get (.t (Tr.path 7))))), none, [Tr.path 7]⟩,
  ⟨(some (Tr.path 78)), (some (.c (callF (.c (.func (.func 26) [] [])) [(.t (Tr.path 77))]))), none, [Tr.path 77]⟩,
  ⟨(some (Tr.path 13)), (some (.p (S.get (.t (Tr.path 78))))), none, [Tr.path 78]⟩]) (
 .seq (.reg [
  ⟨(some (Tr.path 79)), (some (.p (S.get (.t (Tr.path 7))))), none, [Tr.path 7]⟩,
  ⟨(some (Tr.path 80)), (some (.c (callF (.c (.func (.func 26) [] [])) [(.t (Tr.path 79))]))), none, [Tr.path 79]⟩,
  ⟨(some (Tr.path 14)), (some (.p (S.get (.t (Tr.path 80))))), none, [Tr.path 80]⟩]) (
 .seq (.reg [
  ⟨(some (Tr.path 82)), (some (.p (S.get (.t (Tr.path 13))))), none, [Tr.path 13]⟩,
  ⟨(some (Tr.path 83)), (some (.p (S.get (.t (Tr.path 11))))), none, [Tr.path 11]⟩,
  ⟨(some (Tr.path 84)), (some (.c (callF (.c (.func (.func 19) [] [])) [(.t (Tr.path 82)), (.t (Tr.path 83))]))), none, [Tr.path 82, Tr.path 83]⟩,
  ⟨(some (Tr.path 81)), (some (.p (S.get (.t (Tr.path 84))))), none, [Tr.path 84]⟩,
  ⟨(some (Tr.path 85)), (some (.p (extF (.t (Tr.path 81)) 0))), none, [Tr.path 81]⟩,
  ⟨(some (Tr.path 86)), (some (.p (extF (.t (Tr.path 81)) 1))), none, [Tr.path 81]⟩,
  ⟨(some (Tr.path 15)), (some (.p (S.get (.t (Tr.path 85))))), none, [Tr.path 85]⟩,
  ⟨(some (Tr.path 16)), (some (.p (S.get (.t (Tr.path 86))))), none, [Tr.path 86]⟩]) (
 .seq (.reg [
  ⟨(some (Tr.path 88)), (some (.p (S.get (.t (Tr.path 14))))), none, [Tr.path 14]⟩,
  ⟨(some (Tr.path 89)), (some (.c (callF (.c (.func (.func 19) [] [])) [(.t (Tr.path 88)), (.c (.slice none 0 0 0))]))), none, [Tr.path 88]⟩,
  ⟨(some (Tr.path 87)), (some (.p (S.get (.t (Tr.path 89))))), none, [Tr.path 89]⟩,
  ⟨(some (Tr.path 90)), (some (.p (extF (.t (Tr.path 87)) 0))), none, [Tr.path 87]⟩,
  ⟨(some (Tr.path 91)), (some (.p (extF (.t (Tr.path 87)) 1))), none, [Tr.path 87]⟩,
  ⟨(some (Tr.path 17)), (some (.p (S.get (.t (Tr.path 90))))), none, [Tr.path 90]⟩,
  ⟨(some (Tr.path 18)), (some (.p (S.get (.t (Tr.path 91))))), none, [Tr.path 91]⟩]) (
 .seq (.seq (.reg [
   ⟨(some (Tr.path 92)), (some (.p (S.get (.t (Tr.path 15))))), none, [Tr.path 15]⟩,
   ⟨(some (Tr.path 93)), (some (.p (S.get (.t (Tr.path 11))))), none, [Tr.path 11]⟩,
   ⟨(some (Tr.path 94)), (some (.p (lenF (.t (Tr.path 93))))), none, [Tr.path 93]⟩,
   ⟨(some (Tr.path 95)), (some (.p (eqcF true false [.int .i64] (.t (Tr.path 92)) (.t (Tr.path 94))))), none, [Tr.path 92, Tr.path 94]⟩,
   ⟨(some (Tr.path 96)), (some (.p (S.get (.t (Tr.path 95))))), none, [Tr.path 95]⟩,
   ⟨(some (Tr.path 97)), (some (.p (S.get (.t (Tr.path 17))))), (some (some (Tr.path 96), false)), [Tr.path 17]⟩,
   ⟨(some (Tr.path 98)), (some (.p (eqcF true false [.int .i64] (.t (Tr.path 97)) (.c (.int .i64 0))))), (some (some (Tr.path 96), false)), [Tr.path 97]⟩,
   ⟨(some (Tr.path 99)), (some (.p (pickF (.t (Tr.path 96)) (.c (.bool true)) (.t (Tr.path 98))))), none, [Tr.path 96, Tr.path 98]⟩,
   ⟨(some (Tr.path 100)), (some (.p (S.get (.t (Tr.path 99))))), none, [Tr.path 99]⟩,
   ⟨(some (Tr.path 101)), (some (.p (S.get (.t (Tr.path 16))))), (some (some (Tr.path 100), false)), [Tr.path 16]⟩,
   ⟨(some (Tr.path 102)), (some (.p (eqcF true false [.int .i64] (.t (Tr.path 101)) (.c (.int .i64 0))))), (some (some (Tr.path 100), false)), [Tr.path 101]⟩,
   ⟨(some (Tr.path 103)), (some (.p (pickF (.t (Tr.path 100)) (.c (.bool true)) (.t (Tr.path 102))))), none, [Tr.path 100, Tr.path 102]⟩,
   ⟨(some (Tr.path 104)), (some (.p (S.get (.t (Tr.path 103))))), none, [Tr.path 103]⟩,
   ⟨(some (Tr.path 105)), (some (.p (S.get (.t (Tr.path 18))))), (some (some (Tr.path 104), false)), [Tr.path 18]⟩,
   ⟨(some (Tr.path 106)), (some (.p (eqcF true false [.int .i64] (.t (Tr.path 105)) (.c (.int .i64 0))))), (some (some (Tr.path 104), false)), [Tr.path 105]⟩,
   ⟨(some (Tr.path 107)), (some (.p (pickF (.t (Tr.path 104)) (.c (.bool true)) (.t (Tr.path 106))))), none, [Tr.path 104, Tr.path 106]⟩,
   ⟨(some (Tr.path 108)), (some (.p (S.get (.t (Tr.path 107))))), none, [Tr.path 107]⟩,
   ⟨(some (Tr.path 109)), (some (.p (S.get (.t (Tr.path 7))))), (some (some (Tr.path 108), false)), [Tr.path 7]⟩,
   ⟨(some (Tr.path 110)), (some (.c (callF (.c (.func (.func 21) [] [])) [(.t (Tr.path 109))]))), (some (some (Tr.path 108), false)), [Tr.path 109]⟩,
   ⟨(some (Tr.path 111)), (some (.p (S.get (.t (Tr.path 11))))), (some (some (Tr.path 108), false)), [Tr.path 11]⟩,
   ⟨(some (Tr.path 112)), (some (.p (lenF (.t (Tr.path 111))))), (some (some (Tr.path 108), false)), [Tr.path 111]⟩,
   ⟨(some (Tr.path 113)), (some (.p (eqcF true false [.int .i64] (.t (Tr.path 110)) (.t (Tr.path 112))))), (some (some (Tr.path 108), false)), [Tr.path 110, Tr.path 112]⟩,
   ⟨(some (Tr.path 114)), (some (.p (pickF (.t (Tr.path 108)) (.c (.bool true)) (.t (Tr.path 113))))), none, [Tr.path 108, Tr.path 113]⟩]) (
  .cond (.t (Tr.path 114)) (.seq (.reg [
     ⟨(some (Tr.path 6)), (some (.p (S.get (.c (.bool false))))), none, []⟩]) (
    .ret)) (.skip))) (
 .seq (.seq (.reg [
   ⟨(some (Tr.path 19)), (some (.p (S.get (.c (.int .i64 0))))), none, []⟩]) (
  .block 2 (.loop c5_l0))) (
 .seq (.reg [
  ⟨(some (Tr.path 156)), (some (.c (callF (.c (.func (.func 22) [] [])) []))), none, []⟩,
  ⟨(some (Tr.path 6)), (some (.p (S.get (.t (Tr.path 156))))), none, [Tr.path 156]⟩]) (
 .ret)))))))))))))⟩
theorem c5_eq : fnOf Try.prog 5 = some c5 := by kernel_rfl


def lm (M : List (Int × Nat)) (n i : Nat) : List (Nat × Nat) := (M.take i).map fun w => (modN w.1 n, w.2)
def pk (i : Nat) : List Int := (List.range i).map fun (j : Nat) => 64 + (j : Int)
theorem pk_succ (i : Nat) : pk (i + 1) = pk i ++ [64 + (i : Int)] := by simp [pk, List.range_succ]
theorem pk_length (i : Nat) : (pk i).length = i := by simp [pk]
theorem lm_length {M : List (Int × Nat)} {n i : Nat} (h : i ≤ M.length) : (lm M n i).length = i := by simp [lm, Nat.min_eq_left h]
theorem lm_lt (M : List (Int × Nat)) {n : Nat} (hn : 0 < n) (i : Nat) : ∀ w ∈ lm M n i, w.1 < n := by
  intro w hw
  simp only [lm, List.mem_map] at hw
  obtain ⟨x, _, rfl⟩ := hw
  exact modN_lt x.1 hn
theorem lm_small {M : List (Int × Nat)} (h : ∀ w ∈ M, w.2 < 256 ^ 64) (n i : Nat) : SmallL (lm M n i) := by
  intro w hw
  simp only [lm, List.mem_map] at hw
  obtain ⟨x, hx, rfl⟩ := hw
  exact h x (List.mem_of_mem_take hx)

/-- the picks' block, beside the devices -/
structure Pk (H0 H : Heap) (p : Option Ptr) (o : Nat) (P : List Int) (X : Bk → Prop) : Prop where
  nil : P = [] → p = none ∧ o = 0
  has : P ≠ [] → ∃ c, p = some ⟨c, 0⟩ ∧ o = 1 ∧ H.Old c ∧ ¬ H0.Old c ∧ ¬ X c ∧ H.get c = some (.rows false 1 (rowsI P))
theorem Pk.turns {H0 H H' : Heap} {p : Option Ptr} {o : Nat} {P : List Int} {X Y : Bk → Prop} (h : Pk H0 H p o P X) (k : Turns Y H H') (hy : ∀ c, Y c → X c) {X' : Bk → Prop} (hx : ∀ c, X' c → X c ∨ ¬ H.Old c) : Pk H0 H' p o P X' :=
  ⟨h.nil, fun e => by
    obtain ⟨c, h1, h2, h3, h4, h5, h6⟩ := h.has e
    refine ⟨c, h1, h2, h3.mono k.next, h4, fun hc => ?_, (k.same c h3 (fun hc => h5 (hy c hc))).trans h6⟩
    rcases hx c hc with hc | hc
    · exact h5 hc
    · exact hc h3⟩
theorem Pk.picks {H0 H : Heap} {p : Option Ptr} {o : Nat} {P : List Int} {X : Bk → Prop} (h : Pk H0 H p o P X) {X' : Bk → Prop} (hx : ∀ c, X' c → ¬ H.Old c) {H' : Heap} (k : Turns Z H H') : PicksAt H' p P X' := ⟨fun e => by
  obtain ⟨c, h1, h2, h3, h4, h5, h6⟩ := h.has e
  refine ⟨c, false, rowsI P, h1, h3.mono k.next, fun hc => hx c hc h3, (k.same c h3 id).trans h6, fun i hi => by simp [rowsI, hi]⟩⟩

theorem Next.foot {H H' : Heap} {b : Bk} {y y' : Lay} {D D' : Dev} (k : Next H b y D H' y' D') : ∀ c, Foot b y' D' c → Foot b y D c ∨ ¬ H.Old c := by
  rintro c (rfl | rfl | ⟨hl, rfl⟩)
  · exact .inl (.inl rfl)
  · exact .inl (.inr (.inl k.s))
  · rcases k.l hl with ⟨h1, h2⟩ | h1
    · exact .inl (.inr (.inr ⟨h1, h2⟩))
    · exact .inr h1

theorem all_run (H : Heap) {s : Nat} (hs : s < 256) {lp mp : Option Ptr} {lc lo mc mo : Nat} {W M : List (Int × Nat)} (hW : WritesAt H lp W) (hM : WritesAt H mp M) (hWs : ∀ w ∈ W, w.2 < 256 ^ 64) (hMs : ∀ w ∈ M, w.2 < 256 ^ 64) {lf : Nat} (hlf : 1000 < lf) (m : Nat) :
    ret (callS Try.prog S0 lf (m + 5) 5 [.int .u8 (s : Int), .slice lp W.length lc lo, .slice mp M.length mc mo] H) fun v H' => v = .bool true ∧ Turns Z H H' := by
  obtain ⟨v1, H1, e1, b, y1, rfl, hD1, hF1, hT1⟩ := filled_ok H hs (lc := lc) (lo := lo) hW hlf m
  generalize hn : s % 16 + 1 = n at e1 hD1 hF1
  have hn0 : 0 < n := by omega
  have hn1 : n ≤ 16 := by omega
  have hL1 : (filledD n W 40).L.length ≤ 40 := by simp [filledD]; omega
  have hok1 : ∀ w ∈ (filledD n W 40).L, w.1 < (filledD n W 40).S.length := by
    intro w hw
    have := lm_lt W hn0 40 w hw
    simpa [filledD] using this
  have hS1 : (filledD n W 40).S ≠ [] := by simp [filledD]; omega
  obtain ⟨v2, H2, e2, rfl, hNx2⟩ := flush_ok hD1 hS1 rfl hok1 (by omega) (lf := lf) (by omega) (m + 1)
  change callS Try.prog S0 lf (m + 4) 16 [.ptr (some ⟨b, 0⟩)] H1 = _ at e2
  have hS2 : (flushS (filledD n W 40).S (filledD n W 40).L).length = n := by rw [flushS_length]; simp [filledD]
  have hSm : Small (flushS (filledD n W 40).S (filledD n W 40).L) := Small.flush (by
    intro x hx
    have : x = 0 := by simp [filledD] at hx; omega
    subst this; decide) (lm_small hWs n 40)
  have hF2 := hF1.next hT1.next hNx2
  have hT2 := hF1.turns hT1 hNx2
  have hD2 := hNx2.dev
  clear hNx2
  generalize ({ y1 with p := none, o := 0 } : Lay) = y2 at hD2 hF2
  generalize flushS (filledD n W 40).S (filledD n W 40).L = S2 at hS2 hSm hD2 hF2
  have hD2 : DevAt H2 b y2 ⟨S2, [], false⟩ := hD2
  have hF2 : Fresh H b y2 ⟨S2, [], false⟩ := hF2
  have hSne : S2 ≠ [] := fun e => by rw [e] at hS2; simp at hS2; omega
  obtain ⟨v3, H3, e3, bs, ys, rfl, hDs3, hFs3, hT23⟩ := copy_ok hD2 hSne (by show S2.length < _; omega) (by show (0 : Nat) < 1000000; decide) lf (m + 2)
  change callS Try.prog S0 lf (m + 4) 26 [.ptr (some ⟨b, 0⟩)] H2 = _ at e3
  have hD3 := hD2.turns hT23 id id (fun _ => id)
  have hSep3 : Sep b y2 ⟨S2, [], false⟩ bs ys ⟨S2, [], false⟩ := sep_fresh hD2 hFs3
  have hFs : Fresh H bs ys ⟨S2, [], false⟩ := ⟨fun o => hFs3.b (o.mono hT2.next), fun o => hFs3.s (o.mono hT2.next), fun e => absurd rfl e⟩
  have hT3 := hT2.trans hT23
  have hloop : ∀ t : T, t.getP (Tr.path 2) = some (.slice mp M.length mc mo) → t.getP (Tr.path 7) = some (.ptr (some ⟨b, 0⟩)) → t.getP (Tr.path 8) = some (.int .i64 (n : Int)) → t.getP (Tr.path 10) = some (.ptr (some ⟨bs, 0⟩)) → t.getP (Tr.path 11) = some (.slice none 0 0 0) → t.getP (Tr.path 12) = some (.int .i64 0) →
      wp (loopF (runC (callS Try.prog S0 lf (m + 4)) lf c5_l1) lf ⟨t, H3, []⟩) fun x s =>
        x = .ex 0 ∧ s.d = [] ∧ s.t.getP (Tr.path 7) = some (.ptr (some ⟨b, 0⟩)) ∧ s.t.getP (Tr.path 8) = some (.int .i64 (n : Int)) ∧ s.t.getP (Tr.path 10) = some (.ptr (some ⟨bs, 0⟩)) ∧
        ∃ i y pp po, i ≤ 40 ∧ i ≤ M.length ∧ s.t.getP (Tr.path 11) = some (.slice pp i i po) ∧ DevAt s.H b y ⟨S2, lm M n i, false⟩ ∧ DevAt s.H bs ys ⟨S2, [], false⟩ ∧ Fresh H b y ⟨S2, lm M n i, false⟩ ∧ Turns Z H s.H ∧ Sep b y ⟨S2, lm M n i, false⟩ bs ys ⟨S2, [], false⟩ ∧
        Pk H s.H pp po (pk i) (fun c => Foot b y ⟨S2, lm M n i, false⟩ c ∨ Foot bs ys ⟨S2, [], false⟩ c) := by
    intro t q2 q7 q8 q10 q11 q12
    refine wp_loopF (fun r s => ∃ i y pp po, i + r = 40 ∧ i ≤ M.length ∧ s.d = [] ∧ s.t.getP (Tr.path 2) = some (.slice mp M.length mc mo) ∧ s.t.getP (Tr.path 7) = some (.ptr (some ⟨b, 0⟩)) ∧ s.t.getP (Tr.path 8) = some (.int .i64 (n : Int)) ∧ s.t.getP (Tr.path 10) = some (.ptr (some ⟨bs, 0⟩)) ∧ s.t.getP (Tr.path 11) = some (.slice pp i i po) ∧ s.t.getP (Tr.path 12) = some (.int .i64 (i : Int)) ∧
      DevAt s.H b y ⟨S2, lm M n i, false⟩ ∧ DevAt s.H bs ys ⟨S2, [], false⟩ ∧ Fresh H b y ⟨S2, lm M n i, false⟩ ∧ Turns Z H s.H ∧ Sep b y ⟨S2, lm M n i, false⟩ bs ys ⟨S2, [], false⟩ ∧
      Pk H s.H pp po (pk i) (fun c => Foot b y ⟨S2, lm M n i, false⟩ c ∨ Foot bs ys ⟨S2, [], false⟩ c)) ?_ lf 40 _ ⟨0, y2, none, 0, rfl, Nat.zero_le _, rfl, q2, q7, q8, q10, q11, q12, hD3, hDs3, hF2, hT3, hSep3, fun _ => ⟨rfl, rfl⟩, fun e => absurd (by rfl) e⟩ (by omega)
    rintro r ⟨t, HH, d⟩ ⟨i, y, pp, po, hi, hiM, rfl, q2, q7, q8, q10, q11, q12, hD, hDs, hF, hT, hSp, hPk⟩
    dsimp only at q2 q7 q8 q10 q11 q12 hD hDs hF hT hPk
    by_cases hiM2 : i < M.length
    · cases r with
      | zero =>
        have hi : i = 40 := by omega
        subst hi
        have hg : ¬ ((40 : Int) < 40) := by decide
        have q12 : t.getP (Tr.path 12) = some (.int .i64 40) := q12
        have hiM' : (40 : Int) < (M.length : Int) := by omega
        simp only [c5_l1, q2, q7, q8, q10, q11, q12, hiM', hg, sC_skip, sC_reg, sC_seq, sC_cond, sC_block, sC_exit, sC_scope, sC_ret, sC_regD, sI_nil, sI_none, sI_guard, guard_t, guard_f, want_b, want_u, sO_p, sO_r, sO_m, sO_a, sO_c, sD_nil, sD_none, sD_guard, guardD_t, guardD_f, sE_p, sE_r, sE_m, sE_a, sE_c, evQ_some, evR_some, evM_some, evA_some, evC_some, callD_some, contD_some, consD_some, setT_some, setT_none, narrow_nil, narrow_cons, narrowC_some, seq_n, seq_ret, seq_ex, block_n, block_ret, block_ex, cond_t, cond_f, afterV_some, afterM_some, afterA_some, afterC_some, callC_some, get_t, get_c, get_setP, Tr.getP_e, argsT_nil, argsT_cons, ↓reduceIte, Nat.reduceEqDiff, Nat.reduceAdd, Nat.reduceSub, Nat.reduceMul, Nat.reduceDiv, Nat.reduceMod, Nat.zero_add, Nat.add_zero, beq_self_eq_true, Nat.zero_ne_one, Nat.one_ne_zero, Nat.reduceLeDiff, Int.reduceBEq, constF, unF, unary,  pickF, nilcF, faddrF, fldF, iaddrSF, arF, arith_lss, arith_leq, arith_gtr, arith_geq, arith_add, arith_sub, convF, extF, lenF, eqcF, eqnF, eqN, eqPtr, isNone, loadF, storeF, allocF, callF, gets, Option.map_some, Option.bind_some, add_eq, mul_eq, sub_eq, div_eq, mod_eq, nbeq, nble, asBlk_int, flat_int, cells_int, asBlk_bool, flat_bool, cells_bool, asBlk_ptr, flat_ptr, cells_ptr, asBlk_slice, flat_slice, cells_slice, asBlk_map, flat_map, cells_map, asBlk_blk, flat_blk, cells_blk, cells_agg, flat_agg, asBlk_agg, V.w, width, unc, cmpCells, eqI_eq, eqB_eq, mkI_eq, asNat_int, asNat_zero, asNat_one, undef, List.append_nil, List.nil_append, List.cons_append, nth_zero, nth_succ, resultsV, result, tup, wp_some, Bool.and_true, Bool.true_and, Bool.and_self, decide_true, decide_false, Bool.not_true, Bool.not_false, Bool.true_beq, Bool.false_beq, beq_iff_eq, reduceCtorEq, Nat.succ_eq_add_one, ptr0, Int.ofNat_eq_natCast, Int.ofNat_le, Int.ofNat_lt, Int.natCast_add, store_new, store_new65, load_set65, load_set65', load_set, List.map_cons, List.map_nil, sC_loop, Heap.next_add, Heap.next_set, boxF, buildF, fill, bsliceF, fillRows, List.replicate_one, upd_zero, put_blk, cut_blk, cut_whole, put_hit_int, put_miss_int, cut_hit_int, cut_miss_int, put_hit_bool, put_miss_bool, cut_hit_bool, cut_miss_bool, put_hit_ptr, put_miss_ptr, cut_hit_ptr, cut_miss_ptr, put_hit_slice, put_miss_slice, cut_hit_slice, cut_miss_slice, put_hit_map, put_miss_map, cut_hit_map, cut_miss_map, load_add, appF, List.length_cons, List.length_nil]
        exact ⟨trivial, trivial, trivial, trivial, trivial, 40, y, pp, po, Nat.le_refl _, hiM, rfl, hD, hDs, hF, hT, hSp, hPk⟩
      | succ r =>
        have h40 : (i : Int) < 40 := by omega
        have hi1 : i + 1 ≤ M.length := hiM2
        obtain ⟨x, hpx, l1, l2⟩ := (hM.turns hT).load hiM2
        rw [hpx] at q2
        have hms := mod_steps M[i].1 (n := n) (by omega) (by omega)
        have hmn := modN_lt M[i].1 (n := n) (by omega)
        have hwn : IntKind.u64.wrap ((n : Nat) : Int) = ((n : Nat) : Int) := wrap_u64 (by omega)
        have hwm : IntKind.i64.wrap ((modN M[i].1 n : Nat) : Int) = ((modN M[i].1 n : Nat) : Int) := wrap_i64 (by omega)
        have hw : IntKind.i64.wrap ((i : Int) + 1) = ((i + 1 : Nat) : Int) := by rw [wrap_i64 (by omega)]; rfl
        have hw2 : IntKind.i64.wrap (64 + (i : Int)) = (64 + (i : Int)) := wrap_i64 (by omega)
        obtain ⟨v, H5, ew, rfl, y', hNx⟩ := write_ok hD (n := modN M[i].1 n) (by show _ < S2.length; omega) rfl (by show (lm M n i).length < _; rw [lm_length hiM]; omega) M[i].2 lf (m + 1)
        change callS Try.prog S0 lf (m + 4) 18 [.ptr (some ⟨b, 0⟩), .int .i64 ((modN M[i].1 n : Nat) : Int), .blk M[i].2] HH = _ at ew
        have hlm : lm M n (i + 1) = lm M n i ++ [(modN M[i].1 n, M[i].2)] := by
          unfold lm; rw [List.take_succ_eq_append_getElem hiM2, List.map_append]; rfl
        have hNx : Next HH b y ⟨S2, lm M n i, false⟩ H5 y' ⟨S2, lm M n (i + 1), false⟩ := by rw [hlm]; exact hNx
        generalize hmm : modN M[i].1 n = mm at hms hmn hwm ew
        have hD5 := hNx.dev
        have hDs5 := hSp.dev hDs hNx.turns
        have hF5 := hF.next hT.next hNx
        have hT5 := hF.turns hT hNx
        have hSp5 := hSp.next hDs hNx
        have hPk5 : Pk H H5 pp po (pk i) (fun c => Foot b y' ⟨S2, lm M n (i + 1), false⟩ c ∨ Foot bs ys ⟨S2, [], false⟩ c) := hPk.turns hNx.turns (fun c hc => .inl hc) (fun c hc => by
          rcases hc with hc | hc
          · rcases hNx.foot c hc with hc | hc
            · exact .inl (.inl hc)
            · exact .inr hc
          · exact .inl (.inr hc))
        -- the pick
        have hPk6 := hPk5.turns (Turns.add Z H5 (.rows false 1 [[.int .i64 (64 + (i : Int))]])) (fun c hc => hc.elim) (fun c hc => .inl hc)
        have hD6 := hD5.turns (Turns.add Z H5 (.rows false 1 [[.int .i64 (64 + (i : Int))]])) id id (fun _ => id)
        have hDs6 := hDs5.turns (Turns.add Z H5 (.rows false 1 [[.int .i64 (64 + (i : Int))]])) id id (fun _ => id)
        have ha := app_int (H := H5.add (.rows false 1 [[.int .i64 (64 + (i : Int))]])) (x := .run H5.next) (n := (64 + (i : Int))) hPk6.nil (fun e => by
          obtain ⟨c, k1, k2, k3, k4, k5, k6⟩ := hPk6.has e
          exact ⟨c, k1, k2, k6⟩) (by rw [Heap.get_add, if_pos rfl]) (by rw [pk_length]; omega)
        rw [pk_length, ← pk_succ] at ha
        change appendV 1 8 _ _ _ = some (.slice (some ⟨.run (H5.next + 1), 0⟩) (i + 1) (i + 1) 1, _) at ha
        simp only [c5_l1, q2, q7, q8, q10, q11, q12, hiM2, h40, hi1, l1, l2, hms, hwn, hwm, hw, hw2, ew, sC_skip, sC_reg, sC_seq, sC_cond, sC_block, sC_exit, sC_scope, sC_ret, sC_regD, sI_nil, sI_none, sI_guard, guard_t, guard_f, want_b, want_u, sO_p, sO_r, sO_m, sO_a, sO_c, sD_nil, sD_none, sD_guard, guardD_t, guardD_f, sE_p, sE_r, sE_m, sE_a, sE_c, evQ_some, evR_some, evM_some, evA_some, evC_some, callD_some, contD_some, consD_some, setT_some, setT_none, narrow_nil, narrow_cons, narrowC_some, seq_n, seq_ret, seq_ex, block_n, block_ret, block_ex, cond_t, cond_f, afterV_some, afterM_some, afterA_some, afterC_some, callC_some, get_t, get_c, get_setP, Tr.getP_e, argsT_nil, argsT_cons, ↓reduceIte, Nat.reduceEqDiff, Nat.reduceAdd, Nat.reduceSub, Nat.reduceMul, Nat.reduceDiv, Nat.reduceMod, Nat.zero_add, Nat.add_zero, beq_self_eq_true, Nat.zero_ne_one, Nat.one_ne_zero, Nat.reduceLeDiff, Int.reduceBEq, constF, unF, unary,  pickF, nilcF, faddrF, fldF, iaddrSF, arF, arith_lss, arith_leq, arith_gtr, arith_geq, arith_add, arith_sub, convF, extF, lenF, eqcF, eqnF, eqN, eqPtr, isNone, loadF, storeF, allocF, callF, gets, Option.map_some, Option.bind_some, add_eq, mul_eq, sub_eq, div_eq, mod_eq, nbeq, nble, asBlk_int, flat_int, cells_int, asBlk_bool, flat_bool, cells_bool, asBlk_ptr, flat_ptr, cells_ptr, asBlk_slice, flat_slice, cells_slice, asBlk_map, flat_map, cells_map, asBlk_blk, flat_blk, cells_blk, cells_agg, flat_agg, asBlk_agg, V.w, width, unc, cmpCells, eqI_eq, eqB_eq, mkI_eq, asNat_int, asNat_zero, asNat_one, undef, List.append_nil, List.nil_append, List.cons_append, nth_zero, nth_succ, resultsV, result, tup, wp_some, Bool.and_true, Bool.true_and, Bool.and_self, decide_true, decide_false, Bool.not_true, Bool.not_false, Bool.true_beq, Bool.false_beq, beq_iff_eq, reduceCtorEq, Nat.succ_eq_add_one, ptr0, Int.ofNat_eq_natCast, Int.ofNat_le, Int.ofNat_lt, Int.natCast_add, store_new, store_new65, load_set65, load_set65', load_set, List.map_cons, List.map_nil, sC_loop, Heap.next_add, Heap.next_set, boxF, buildF, fill, bsliceF, fillRows, List.replicate_one, upd_zero, put_blk, cut_blk, cut_whole, put_hit_int, put_miss_int, cut_hit_int, cut_miss_int, put_hit_bool, put_miss_bool, cut_hit_bool, cut_miss_bool, put_hit_ptr, put_miss_ptr, cut_hit_ptr, cut_miss_ptr, put_hit_slice, put_miss_slice, cut_hit_slice, cut_miss_slice, put_hit_map, put_miss_map, cut_hit_map, cut_miss_map, load_add, appF, List.length_cons, List.length_nil]
        rw [endD_ok (by kernel_rfl) (by kernel_rfl)]
        simp only [q2, q7, q8, q10, q11, q12, hw, hw2, ha, sC_skip, sC_reg, sC_seq, sC_cond, sC_block, sC_exit, sC_scope, sC_ret, sC_regD, sI_nil, sI_none, sI_guard, guard_t, guard_f, want_b, want_u, sO_p, sO_r, sO_m, sO_a, sO_c, sD_nil, sD_none, sD_guard, guardD_t, guardD_f, sE_p, sE_r, sE_m, sE_a, sE_c, evQ_some, evR_some, evM_some, evA_some, evC_some, callD_some, contD_some, consD_some, setT_some, setT_none, narrow_nil, narrow_cons, narrowC_some, seq_n, seq_ret, seq_ex, block_n, block_ret, block_ex, cond_t, cond_f, afterV_some, afterM_some, afterA_some, afterC_some, callC_some, get_t, get_c, get_setP, Tr.getP_e, argsT_nil, argsT_cons, ↓reduceIte, Nat.reduceEqDiff, Nat.reduceAdd, Nat.reduceSub, Nat.reduceMul, Nat.reduceDiv, Nat.reduceMod, Nat.zero_add, Nat.add_zero, beq_self_eq_true, Nat.zero_ne_one, Nat.one_ne_zero, Nat.reduceLeDiff, Int.reduceBEq, constF, unF, unary,  pickF, nilcF, faddrF, fldF, iaddrSF, arF, arith_lss, arith_leq, arith_gtr, arith_geq, arith_add, arith_sub, convF, extF, lenF, eqcF, eqnF, eqN, eqPtr, isNone, loadF, storeF, allocF, callF, gets, Option.map_some, Option.bind_some, add_eq, mul_eq, sub_eq, div_eq, mod_eq, nbeq, nble, asBlk_int, flat_int, cells_int, asBlk_bool, flat_bool, cells_bool, asBlk_ptr, flat_ptr, cells_ptr, asBlk_slice, flat_slice, cells_slice, asBlk_map, flat_map, cells_map, asBlk_blk, flat_blk, cells_blk, cells_agg, flat_agg, asBlk_agg, V.w, width, unc, cmpCells, eqI_eq, eqB_eq, mkI_eq, asNat_int, asNat_zero, asNat_one, undef, List.append_nil, List.nil_append, List.cons_append, nth_zero, nth_succ, resultsV, result, tup, wp_some, Bool.and_true, Bool.true_and, Bool.and_self, decide_true, decide_false, Bool.not_true, Bool.not_false, Bool.true_beq, Bool.false_beq, beq_iff_eq, reduceCtorEq, Nat.succ_eq_add_one, ptr0, Int.ofNat_eq_natCast, Int.ofNat_le, Int.ofNat_lt, Int.natCast_add, store_new, store_new65, load_set65, load_set65', load_set, List.map_cons, List.map_nil, sC_loop, Heap.next_add, Heap.next_set, boxF, buildF, fill, bsliceF, fillRows, List.replicate_one, upd_zero, put_blk, cut_blk, cut_whole, put_hit_int, put_miss_int, cut_hit_int, cut_miss_int, put_hit_bool, put_miss_bool, cut_hit_bool, cut_miss_bool, put_hit_ptr, put_miss_ptr, cut_hit_ptr, cut_miss_ptr, put_hit_slice, put_miss_slice, cut_hit_slice, cut_miss_slice, put_hit_map, put_miss_map, cut_hit_map, cut_miss_map, load_add, appF, List.length_cons, List.length_nil]
        -- the old picks' block is given up, a new one made
        have hkT : Turns (fun c => ∃ o, pp = some ⟨c, o⟩) (H5.add (.rows false 1 [[.int .i64 (64 + (i : Int))]])) ((killP (H5.add (.rows false 1 [[.int .i64 (64 + (i : Int))]])) pp).add (.rows false 1 (rowsI (pk (i + 1))))) := by
          cases pp with
          | none => exact Turns.add _ _ _
          | some q => exact (Turns.set ⟨q.o, rfl⟩ _ _).addm _
        have hkn : ∀ c, (∃ o, pp = some ⟨c, o⟩) → ¬ (Foot b y' ⟨S2, lm M n (i + 1), false⟩ c ∨ Foot bs ys ⟨S2, [], false⟩ c) ∧ ¬ H.Old c := by
          rintro c ⟨o, hc⟩
          by_cases hP : pk i = []
          · rw [(hPk6.nil hP).1] at hc; cases hc
          · obtain ⟨c', k1, k2, k3, k4, k5, k6⟩ := hPk6.has hP
            rw [k1] at hc; cases hc
            exact ⟨k5, k4⟩
        have hD7 := hD6.turns hkT (fun e => (hkn _ e).1 (.inl (.inl rfl))) (fun e => (hkn _ e).1 (.inl (.inr (.inl rfl)))) (fun hl e => (hkn _ e).1 (.inl (.inr (.inr ⟨hl, rfl⟩))))
        have hDs7 := hDs6.turns hkT (fun e => (hkn _ e).1 (.inr (.inl rfl))) (fun e => (hkn _ e).1 (.inr (.inr (.inl rfl)))) (fun hl e => (hkn _ e).1 (.inr (.inr (.inr ⟨hl, rfl⟩))))
        have hT7 := Turns.after (hT5.addm _) hkT (fun c hc hx => ((hkn c hx).2 hc).elim)
        have hkn2 : (killP (H5.add (.rows false 1 [[.int .i64 (64 + (i : Int))]])) pp).next = H5.next + 1 := by cases pp <;> simp [killP]
        have hn5 := hT5.next
        refine ⟨r, Nat.lt_succ_self r, i + 1, y', some ⟨.run (H5.next + 1), 0⟩, 1, by omega, hi1, trivial, by rw [hpx], trivial, trivial, trivial, rfl, rfl, hD7, hDs7, hF5, hT7, hSp5, fun e => absurd e (by simp [pk]), fun _ => ⟨.run (H5.next + 1), rfl, rfl, ?_, Heap.not_old (by omega), ?_, ?_⟩⟩
        · show _ < _
          simp [hkn2]
        · rintro (hc | hc)
          · exact Heap.not_old (H := H5.add (.rows false 1 [[.int .i64 (64 + (i : Int))]])) (n := H5.next + 1) (by simp) (hD6.foot_old _ hc)
          · exact Heap.not_old (H := H5.add (.rows false 1 [[.int .i64 (64 + (i : Int))]])) (n := H5.next + 1) (by simp) (hDs6.foot_old _ hc)
        · rw [Heap.get_add, hkn2, if_pos rfl]
    · have hg : ¬ (i < M.length) := hiM2
      simp only [c5_l1, q2, q7, q8, q10, q11, q12, hg, sC_skip, sC_reg, sC_seq, sC_cond, sC_block, sC_exit, sC_scope, sC_ret, sC_regD, sI_nil, sI_none, sI_guard, guard_t, guard_f, want_b, want_u, sO_p, sO_r, sO_m, sO_a, sO_c, sD_nil, sD_none, sD_guard, guardD_t, guardD_f, sE_p, sE_r, sE_m, sE_a, sE_c, evQ_some, evR_some, evM_some, evA_some, evC_some, callD_some, contD_some, consD_some, setT_some, setT_none, narrow_nil, narrow_cons, narrowC_some, seq_n, seq_ret, seq_ex, block_n, block_ret, block_ex, cond_t, cond_f, afterV_some, afterM_some, afterA_some, afterC_some, callC_some, get_t, get_c, get_setP, Tr.getP_e, argsT_nil, argsT_cons, ↓reduceIte, Nat.reduceEqDiff, Nat.reduceAdd, Nat.reduceSub, Nat.reduceMul, Nat.reduceDiv, Nat.reduceMod, Nat.zero_add, Nat.add_zero, beq_self_eq_true, Nat.zero_ne_one, Nat.one_ne_zero, Nat.reduceLeDiff, Int.reduceBEq, constF, unF, unary,  pickF, nilcF, faddrF, fldF, iaddrSF, arF, arith_lss, arith_leq, arith_gtr, arith_geq, arith_add, arith_sub, convF, extF, lenF, eqcF, eqnF, eqN, eqPtr, isNone, loadF, storeF, allocF, callF, gets, Option.map_some, Option.bind_some, add_eq, mul_eq, sub_eq, div_eq, mod_eq, nbeq, nble, asBlk_int, flat_int, cells_int, asBlk_bool, flat_bool, cells_bool, asBlk_ptr, flat_ptr, cells_ptr, asBlk_slice, flat_slice, cells_slice, asBlk_map, flat_map, cells_map, asBlk_blk, flat_blk, cells_blk, cells_agg, flat_agg, asBlk_agg, V.w, width, unc, cmpCells, eqI_eq, eqB_eq, mkI_eq, asNat_int, asNat_zero, asNat_one, undef, List.append_nil, List.nil_append, List.cons_append, nth_zero, nth_succ, resultsV, result, tup, wp_some, Bool.and_true, Bool.true_and, Bool.and_self, decide_true, decide_false, Bool.not_true, Bool.not_false, Bool.true_beq, Bool.false_beq, beq_iff_eq, reduceCtorEq, Nat.succ_eq_add_one, ptr0, Int.ofNat_eq_natCast, Int.ofNat_le, Int.ofNat_lt, Int.natCast_add, store_new, store_new65, load_set65, load_set65', load_set, List.map_cons, List.map_nil, sC_loop, Heap.next_add, Heap.next_set, boxF, buildF, fill, bsliceF, fillRows, List.replicate_one, upd_zero, put_blk, cut_blk, cut_whole, put_hit_int, put_miss_int, cut_hit_int, cut_miss_int, put_hit_bool, put_miss_bool, cut_hit_bool, cut_miss_bool, put_hit_ptr, put_miss_ptr, cut_hit_ptr, cut_miss_ptr, put_hit_slice, put_miss_slice, cut_hit_slice, cut_miss_slice, put_hit_map, put_miss_map, cut_hit_map, cut_miss_map, load_add, appF, List.length_cons, List.length_nil]
      exact ⟨trivial, trivial, trivial, trivial, trivial, i, y, pp, po, by omega, hiM, rfl, hD, hDs, hF, hT, hSp, hPk⟩
  refine ret_call rfl c5_eq ?_
  simp only [c5, e1, e2, e3, sC_skip, sC_reg, sC_seq, sC_cond, sC_block, sC_exit, sC_scope, sC_ret, sC_regD, sI_nil, sI_none, sI_guard, guard_t, guard_f, want_b, want_u, sO_p, sO_r, sO_m, sO_a, sO_c, sD_nil, sD_none, sD_guard, guardD_t, guardD_f, sE_p, sE_r, sE_m, sE_a, sE_c, evQ_some, evR_some, evM_some, evA_some, evC_some, callD_some, contD_some, consD_some, setT_some, setT_none, narrow_nil, narrow_cons, narrowC_some, seq_n, seq_ret, seq_ex, block_n, block_ret, block_ex, cond_t, cond_f, afterV_some, afterM_some, afterA_some, afterC_some, callC_some, get_t, get_c, get_setP, Tr.getP_e, argsT_nil, argsT_cons, ↓reduceIte, Nat.reduceEqDiff, Nat.reduceAdd, Nat.reduceSub, Nat.reduceMul, Nat.reduceDiv, Nat.reduceMod, Nat.zero_add, Nat.add_zero, beq_self_eq_true, Nat.zero_ne_one, Nat.one_ne_zero, Nat.reduceLeDiff, Int.reduceBEq, constF, unF, unary,  pickF, nilcF, faddrF, fldF, iaddrSF, arF, arith_lss, arith_leq, arith_gtr, arith_geq, arith_add, arith_sub, convF, extF, lenF, eqcF, eqnF, eqN, eqPtr, isNone, loadF, storeF, allocF, callF, gets, Option.map_some, Option.bind_some, add_eq, mul_eq, sub_eq, div_eq, mod_eq, nbeq, nble, asBlk_int, flat_int, cells_int, asBlk_bool, flat_bool, cells_bool, asBlk_ptr, flat_ptr, cells_ptr, asBlk_slice, flat_slice, cells_slice, asBlk_map, flat_map, cells_map, asBlk_blk, flat_blk, cells_blk, cells_agg, flat_agg, asBlk_agg, V.w, width, unc, cmpCells, eqI_eq, eqB_eq, mkI_eq, asNat_int, asNat_zero, asNat_one, undef, List.append_nil, List.nil_append, List.cons_append, nth_zero, nth_succ, resultsV, result, tup, wp_some, Bool.and_true, Bool.true_and, Bool.and_self, decide_true, decide_false, Bool.not_true, Bool.not_false, Bool.true_beq, Bool.false_beq, beq_iff_eq, reduceCtorEq, Nat.succ_eq_add_one, ptr0, Int.ofNat_eq_natCast, Int.ofNat_le, Int.ofNat_lt, Int.natCast_add, store_new, store_new65, load_set65, load_set65', load_set, List.map_cons, List.map_nil, sC_loop, Heap.next_add, Heap.next_set, boxF, buildF, fill, bsliceF, fillRows, List.replicate_one, upd_zero, put_blk, cut_blk, cut_whole, put_hit_int, put_miss_int, cut_hit_int, cut_miss_int, put_hit_bool, put_miss_bool, cut_hit_bool, cut_miss_bool, put_hit_ptr, put_miss_ptr, cut_hit_ptr, cut_miss_ptr, put_hit_slice, put_miss_slice, cut_hit_slice, cut_miss_slice, put_hit_map, put_miss_map, cut_hit_map, cut_miss_map, load_add, appF, List.length_cons, List.length_nil]
  refine wp_ctx (F := fun r => seqC _ _ _ (blockC _ r)) (hloop _ ?_ ?_ ?_ ?_ ?_ ?_) ?_
  · simp only [sC_skip, sC_reg, sC_seq, sC_cond, sC_block, sC_exit, sC_scope, sC_ret, sC_regD, sI_nil, sI_none, sI_guard, guard_t, guard_f, want_b, want_u, sO_p, sO_r, sO_m, sO_a, sO_c, sD_nil, sD_none, sD_guard, guardD_t, guardD_f, sE_p, sE_r, sE_m, sE_a, sE_c, evQ_some, evR_some, evM_some, evA_some, evC_some, callD_some, contD_some, consD_some, setT_some, setT_none, narrow_nil, narrow_cons, narrowC_some, seq_n, seq_ret, seq_ex, block_n, block_ret, block_ex, cond_t, cond_f, afterV_some, afterM_some, afterA_some, afterC_some, callC_some, get_t, get_c, get_setP, Tr.getP_e, argsT_nil, argsT_cons, ↓reduceIte, Nat.reduceEqDiff, Nat.reduceAdd, Nat.reduceSub, Nat.reduceMul, Nat.reduceDiv, Nat.reduceMod, Nat.zero_add, Nat.add_zero, beq_self_eq_true, Nat.zero_ne_one, Nat.one_ne_zero, Nat.reduceLeDiff, Int.reduceBEq, constF, unF, unary,  pickF, nilcF, faddrF, fldF, iaddrSF, arF, arith_lss, arith_leq, arith_gtr, arith_geq, arith_add, arith_sub, convF, extF, lenF, eqcF, eqnF, eqN, eqPtr, isNone, loadF, storeF, allocF, callF, gets, Option.map_some, Option.bind_some, add_eq, mul_eq, sub_eq, div_eq, mod_eq, nbeq, nble, asBlk_int, flat_int, cells_int, asBlk_bool, flat_bool, cells_bool, asBlk_ptr, flat_ptr, cells_ptr, asBlk_slice, flat_slice, cells_slice, asBlk_map, flat_map, cells_map, asBlk_blk, flat_blk, cells_blk, cells_agg, flat_agg, asBlk_agg, V.w, width, unc, cmpCells, eqI_eq, eqB_eq, mkI_eq, asNat_int, asNat_zero, asNat_one, undef, List.append_nil, List.nil_append, List.cons_append, nth_zero, nth_succ, resultsV, result, tup, wp_some, Bool.and_true, Bool.true_and, Bool.and_self, decide_true, decide_false, Bool.not_true, Bool.not_false, Bool.true_beq, Bool.false_beq, beq_iff_eq, reduceCtorEq, Nat.succ_eq_add_one, ptr0, Int.ofNat_eq_natCast, Int.ofNat_le, Int.ofNat_lt, Int.natCast_add, store_new, store_new65, load_set65, load_set65', load_set, List.map_cons, List.map_nil, sC_loop, Heap.next_add, Heap.next_set, boxF, buildF, fill, bsliceF, fillRows, List.replicate_one, upd_zero, put_blk, cut_blk, cut_whole, put_hit_int, put_miss_int, cut_hit_int, cut_miss_int, put_hit_bool, put_miss_bool, cut_hit_bool, cut_miss_bool, put_hit_ptr, put_miss_ptr, cut_hit_ptr, cut_miss_ptr, put_hit_slice, put_miss_slice, cut_hit_slice, cut_miss_slice, put_hit_map, put_miss_map, cut_hit_map, cut_miss_map, load_add, appF, List.length_cons, List.length_nil]
  · simp only [sC_skip, sC_reg, sC_seq, sC_cond, sC_block, sC_exit, sC_scope, sC_ret, sC_regD, sI_nil, sI_none, sI_guard, guard_t, guard_f, want_b, want_u, sO_p, sO_r, sO_m, sO_a, sO_c, sD_nil, sD_none, sD_guard, guardD_t, guardD_f, sE_p, sE_r, sE_m, sE_a, sE_c, evQ_some, evR_some, evM_some, evA_some, evC_some, callD_some, contD_some, consD_some, setT_some, setT_none, narrow_nil, narrow_cons, narrowC_some, seq_n, seq_ret, seq_ex, block_n, block_ret, block_ex, cond_t, cond_f, afterV_some, afterM_some, afterA_some, afterC_some, callC_some, get_t, get_c, get_setP, Tr.getP_e, argsT_nil, argsT_cons, ↓reduceIte, Nat.reduceEqDiff, Nat.reduceAdd, Nat.reduceSub, Nat.reduceMul, Nat.reduceDiv, Nat.reduceMod, Nat.zero_add, Nat.add_zero, beq_self_eq_true, Nat.zero_ne_one, Nat.one_ne_zero, Nat.reduceLeDiff, Int.reduceBEq, constF, unF, unary,  pickF, nilcF, faddrF, fldF, iaddrSF, arF, arith_lss, arith_leq, arith_gtr, arith_geq, arith_add, arith_sub, convF, extF, lenF, eqcF, eqnF, eqN, eqPtr, isNone, loadF, storeF, allocF, callF, gets, Option.map_some, Option.bind_some, add_eq, mul_eq, sub_eq, div_eq, mod_eq, nbeq, nble, asBlk_int, flat_int, cells_int, asBlk_bool, flat_bool, cells_bool, asBlk_ptr, flat_ptr, cells_ptr, asBlk_slice, flat_slice, cells_slice, asBlk_map, flat_map, cells_map, asBlk_blk, flat_blk, cells_blk, cells_agg, flat_agg, asBlk_agg, V.w, width, unc, cmpCells, eqI_eq, eqB_eq, mkI_eq, asNat_int, asNat_zero, asNat_one, undef, List.append_nil, List.nil_append, List.cons_append, nth_zero, nth_succ, resultsV, result, tup, wp_some, Bool.and_true, Bool.true_and, Bool.and_self, decide_true, decide_false, Bool.not_true, Bool.not_false, Bool.true_beq, Bool.false_beq, beq_iff_eq, reduceCtorEq, Nat.succ_eq_add_one, ptr0, Int.ofNat_eq_natCast, Int.ofNat_le, Int.ofNat_lt, Int.natCast_add, store_new, store_new65, load_set65, load_set65', load_set, List.map_cons, List.map_nil, sC_loop, Heap.next_add, Heap.next_set, boxF, buildF, fill, bsliceF, fillRows, List.replicate_one, upd_zero, put_blk, cut_blk, cut_whole, put_hit_int, put_miss_int, cut_hit_int, cut_miss_int, put_hit_bool, put_miss_bool, cut_hit_bool, cut_miss_bool, put_hit_ptr, put_miss_ptr, cut_hit_ptr, cut_miss_ptr, put_hit_slice, put_miss_slice, cut_hit_slice, cut_miss_slice, put_hit_map, put_miss_map, cut_hit_map, cut_miss_map, load_add, appF, List.length_cons, List.length_nil]
  · simp only [sC_skip, sC_reg, sC_seq, sC_cond, sC_block, sC_exit, sC_scope, sC_ret, sC_regD, sI_nil, sI_none, sI_guard, guard_t, guard_f, want_b, want_u, sO_p, sO_r, sO_m, sO_a, sO_c, sD_nil, sD_none, sD_guard, guardD_t, guardD_f, sE_p, sE_r, sE_m, sE_a, sE_c, evQ_some, evR_some, evM_some, evA_some, evC_some, callD_some, contD_some, consD_some, setT_some, setT_none, narrow_nil, narrow_cons, narrowC_some, seq_n, seq_ret, seq_ex, block_n, block_ret, block_ex, cond_t, cond_f, afterV_some, afterM_some, afterA_some, afterC_some, callC_some, get_t, get_c, get_setP, Tr.getP_e, argsT_nil, argsT_cons, ↓reduceIte, Nat.reduceEqDiff, Nat.reduceAdd, Nat.reduceSub, Nat.reduceMul, Nat.reduceDiv, Nat.reduceMod, Nat.zero_add, Nat.add_zero, beq_self_eq_true, Nat.zero_ne_one, Nat.one_ne_zero, Nat.reduceLeDiff, Int.reduceBEq, constF, unF, unary,  pickF, nilcF, faddrF, fldF, iaddrSF, arF, arith_lss, arith_leq, arith_gtr, arith_geq, arith_add, arith_sub, convF, extF, lenF, eqcF, eqnF, eqN, eqPtr, isNone, loadF, storeF, allocF, callF, gets, Option.map_some, Option.bind_some, add_eq, mul_eq, sub_eq, div_eq, mod_eq, nbeq, nble, asBlk_int, flat_int, cells_int, asBlk_bool, flat_bool, cells_bool, asBlk_ptr, flat_ptr, cells_ptr, asBlk_slice, flat_slice, cells_slice, asBlk_map, flat_map, cells_map, asBlk_blk, flat_blk, cells_blk, cells_agg, flat_agg, asBlk_agg, V.w, width, unc, cmpCells, eqI_eq, eqB_eq, mkI_eq, asNat_int, asNat_zero, asNat_one, undef, List.append_nil, List.nil_append, List.cons_append, nth_zero, nth_succ, resultsV, result, tup, wp_some, Bool.and_true, Bool.true_and, Bool.and_self, decide_true, decide_false, Bool.not_true, Bool.not_false, Bool.true_beq, Bool.false_beq, beq_iff_eq, reduceCtorEq, Nat.succ_eq_add_one, ptr0, Int.ofNat_eq_natCast, Int.ofNat_le, Int.ofNat_lt, Int.natCast_add, store_new, store_new65, load_set65, load_set65', load_set, List.map_cons, List.map_nil, sC_loop, Heap.next_add, Heap.next_set, boxF, buildF, fill, bsliceF, fillRows, List.replicate_one, upd_zero, put_blk, cut_blk, cut_whole, put_hit_int, put_miss_int, cut_hit_int, cut_miss_int, put_hit_bool, put_miss_bool, cut_hit_bool, cut_miss_bool, put_hit_ptr, put_miss_ptr, cut_hit_ptr, cut_miss_ptr, put_hit_slice, put_miss_slice, cut_hit_slice, cut_miss_slice, put_hit_map, put_miss_map, cut_hit_map, cut_miss_map, load_add, appF, List.length_cons, List.length_nil]
  · simp only [sC_skip, sC_reg, sC_seq, sC_cond, sC_block, sC_exit, sC_scope, sC_ret, sC_regD, sI_nil, sI_none, sI_guard, guard_t, guard_f, want_b, want_u, sO_p, sO_r, sO_m, sO_a, sO_c, sD_nil, sD_none, sD_guard, guardD_t, guardD_f, sE_p, sE_r, sE_m, sE_a, sE_c, evQ_some, evR_some, evM_some, evA_some, evC_some, callD_some, contD_some, consD_some, setT_some, setT_none, narrow_nil, narrow_cons, narrowC_some, seq_n, seq_ret, seq_ex, block_n, block_ret, block_ex, cond_t, cond_f, afterV_some, afterM_some, afterA_some, afterC_some, callC_some, get_t, get_c, get_setP, Tr.getP_e, argsT_nil, argsT_cons, ↓reduceIte, Nat.reduceEqDiff, Nat.reduceAdd, Nat.reduceSub, Nat.reduceMul, Nat.reduceDiv, Nat.reduceMod, Nat.zero_add, Nat.add_zero, beq_self_eq_true, Nat.zero_ne_one, Nat.one_ne_zero, Nat.reduceLeDiff, Int.reduceBEq, constF, unF, unary,  pickF, nilcF, faddrF, fldF, iaddrSF, arF, arith_lss, arith_leq, arith_gtr, arith_geq, arith_add, arith_sub, convF, extF, lenF, eqcF, eqnF, eqN, eqPtr, isNone, loadF, storeF, allocF, callF, gets, Option.map_some, Option.bind_some, add_eq, mul_eq, sub_eq, div_eq, mod_eq, nbeq, nble, asBlk_int, flat_int, cells_int, asBlk_bool, flat_bool, cells_bool, asBlk_ptr, flat_ptr, cells_ptr, asBlk_slice, flat_slice, cells_slice, asBlk_map, flat_map, cells_map, asBlk_blk, flat_blk, cells_blk, cells_agg, flat_agg, asBlk_agg, V.w, width, unc, cmpCells, eqI_eq, eqB_eq, mkI_eq, asNat_int, asNat_zero, asNat_one, undef, List.append_nil, List.nil_append, List.cons_append, nth_zero, nth_succ, resultsV, result, tup, wp_some, Bool.and_true, Bool.true_and, Bool.and_self, decide_true, decide_false, Bool.not_true, Bool.not_false, Bool.true_beq, Bool.false_beq, beq_iff_eq, reduceCtorEq, Nat.succ_eq_add_one, ptr0, Int.ofNat_eq_natCast, Int.ofNat_le, Int.ofNat_lt, Int.natCast_add, store_new, store_new65, load_set65, load_set65', load_set, List.map_cons, List.map_nil, sC_loop, Heap.next_add, Heap.next_set, boxF, buildF, fill, bsliceF, fillRows, List.replicate_one, upd_zero, put_blk, cut_blk, cut_whole, put_hit_int, put_miss_int, cut_hit_int, cut_miss_int, put_hit_bool, put_miss_bool, cut_hit_bool, cut_miss_bool, put_hit_ptr, put_miss_ptr, cut_hit_ptr, cut_miss_ptr, put_hit_slice, put_miss_slice, cut_hit_slice, cut_miss_slice, put_hit_map, put_miss_map, cut_hit_map, cut_miss_map, load_add, appF, List.length_cons, List.length_nil]
  · simp only [sC_skip, sC_reg, sC_seq, sC_cond, sC_block, sC_exit, sC_scope, sC_ret, sC_regD, sI_nil, sI_none, sI_guard, guard_t, guard_f, want_b, want_u, sO_p, sO_r, sO_m, sO_a, sO_c, sD_nil, sD_none, sD_guard, guardD_t, guardD_f, sE_p, sE_r, sE_m, sE_a, sE_c, evQ_some, evR_some, evM_some, evA_some, evC_some, callD_some, contD_some, consD_some, setT_some, setT_none, narrow_nil, narrow_cons, narrowC_some, seq_n, seq_ret, seq_ex, block_n, block_ret, block_ex, cond_t, cond_f, afterV_some, afterM_some, afterA_some, afterC_some, callC_some, get_t, get_c, get_setP, Tr.getP_e, argsT_nil, argsT_cons, ↓reduceIte, Nat.reduceEqDiff, Nat.reduceAdd, Nat.reduceSub, Nat.reduceMul, Nat.reduceDiv, Nat.reduceMod, Nat.zero_add, Nat.add_zero, beq_self_eq_true, Nat.zero_ne_one, Nat.one_ne_zero, Nat.reduceLeDiff, Int.reduceBEq, constF, unF, unary,  pickF, nilcF, faddrF, fldF, iaddrSF, arF, arith_lss, arith_leq, arith_gtr, arith_geq, arith_add, arith_sub, convF, extF, lenF, eqcF, eqnF, eqN, eqPtr, isNone, loadF, storeF, allocF, callF, gets, Option.map_some, Option.bind_some, add_eq, mul_eq, sub_eq, div_eq, mod_eq, nbeq, nble, asBlk_int, flat_int, cells_int, asBlk_bool, flat_bool, cells_bool, asBlk_ptr, flat_ptr, cells_ptr, asBlk_slice, flat_slice, cells_slice, asBlk_map, flat_map, cells_map, asBlk_blk, flat_blk, cells_blk, cells_agg, flat_agg, asBlk_agg, V.w, width, unc, cmpCells, eqI_eq, eqB_eq, mkI_eq, asNat_int, asNat_zero, asNat_one, undef, List.append_nil, List.nil_append, List.cons_append, nth_zero, nth_succ, resultsV, result, tup, wp_some, Bool.and_true, Bool.true_and, Bool.and_self, decide_true, decide_false, Bool.not_true, Bool.not_false, Bool.true_beq, Bool.false_beq, beq_iff_eq, reduceCtorEq, Nat.succ_eq_add_one, ptr0, Int.ofNat_eq_natCast, Int.ofNat_le, Int.ofNat_lt, Int.natCast_add, store_new, store_new65, load_set65, load_set65', load_set, List.map_cons, List.map_nil, sC_loop, Heap.next_add, Heap.next_set, boxF, buildF, fill, bsliceF, fillRows, List.replicate_one, upd_zero, put_blk, cut_blk, cut_whole, put_hit_int, put_miss_int, cut_hit_int, cut_miss_int, put_hit_bool, put_miss_bool, cut_hit_bool, cut_miss_bool, put_hit_ptr, put_miss_ptr, cut_hit_ptr, cut_miss_ptr, put_hit_slice, put_miss_slice, cut_hit_slice, cut_miss_slice, put_hit_map, put_miss_map, cut_hit_map, cut_miss_map, load_add, appF, List.length_cons, List.length_nil]
  · simp only [sC_skip, sC_reg, sC_seq, sC_cond, sC_block, sC_exit, sC_scope, sC_ret, sC_regD, sI_nil, sI_none, sI_guard, guard_t, guard_f, want_b, want_u, sO_p, sO_r, sO_m, sO_a, sO_c, sD_nil, sD_none, sD_guard, guardD_t, guardD_f, sE_p, sE_r, sE_m, sE_a, sE_c, evQ_some, evR_some, evM_some, evA_some, evC_some, callD_some, contD_some, consD_some, setT_some, setT_none, narrow_nil, narrow_cons, narrowC_some, seq_n, seq_ret, seq_ex, block_n, block_ret, block_ex, cond_t, cond_f, afterV_some, afterM_some, afterA_some, afterC_some, callC_some, get_t, get_c, get_setP, Tr.getP_e, argsT_nil, argsT_cons, ↓reduceIte, Nat.reduceEqDiff, Nat.reduceAdd, Nat.reduceSub, Nat.reduceMul, Nat.reduceDiv, Nat.reduceMod, Nat.zero_add, Nat.add_zero, beq_self_eq_true, Nat.zero_ne_one, Nat.one_ne_zero, Nat.reduceLeDiff, Int.reduceBEq, constF, unF, unary,  pickF, nilcF, faddrF, fldF, iaddrSF, arF, arith_lss, arith_leq, arith_gtr, arith_geq, arith_add, arith_sub, convF, extF, lenF, eqcF, eqnF, eqN, eqPtr, isNone, loadF, storeF, allocF, callF, gets, Option.map_some, Option.bind_some, add_eq, mul_eq, sub_eq, div_eq, mod_eq, nbeq, nble, asBlk_int, flat_int, cells_int, asBlk_bool, flat_bool, cells_bool, asBlk_ptr, flat_ptr, cells_ptr, asBlk_slice, flat_slice, cells_slice, asBlk_map, flat_map, cells_map, asBlk_blk, flat_blk, cells_blk, cells_agg, flat_agg, asBlk_agg, V.w, width, unc, cmpCells, eqI_eq, eqB_eq, mkI_eq, asNat_int, asNat_zero, asNat_one, undef, List.append_nil, List.nil_append, List.cons_append, nth_zero, nth_succ, resultsV, result, tup, wp_some, Bool.and_true, Bool.true_and, Bool.and_self, decide_true, decide_false, Bool.not_true, Bool.not_false, Bool.true_beq, Bool.false_beq, beq_iff_eq, reduceCtorEq, Nat.succ_eq_add_one, ptr0, Int.ofNat_eq_natCast, Int.ofNat_le, Int.ofNat_lt, Int.natCast_add, store_new, store_new65, load_set65, load_set65', load_set, List.map_cons, List.map_nil, sC_loop, Heap.next_add, Heap.next_set, boxF, buildF, fill, bsliceF, fillRows, List.replicate_one, upd_zero, put_blk, cut_blk, cut_whole, put_hit_int, put_miss_int, cut_hit_int, cut_miss_int, put_hit_bool, put_miss_bool, cut_hit_bool, cut_miss_bool, put_hit_ptr, put_miss_ptr, cut_hit_ptr, cut_miss_ptr, put_hit_slice, put_miss_slice, cut_hit_slice, cut_miss_slice, put_hit_map, put_miss_map, cut_hit_map, cut_miss_map, load_add, appF, List.length_cons, List.length_nil]
  rintro x ⟨t, H5, d⟩ ⟨rfl, rfl, q7, q8, q10, i, y, pp, po, hi40, hiM, q11, hD5, hDs5, hF5, hT5, hSp5, hPk5⟩
  dsimp only at q7 q8 q10 q11 hD5 hDs5 hF5 hT5 hPk5
  have hLl : (lm M n i).length = i := lm_length hiM
  have hLn : ∀ w ∈ lm M n i, w.1 < S2.length := fun w hw => by rw [hS2]; exact lm_lt M hn0 i w hw
  have hLs : SmallL (lm M n i) := lm_small hMs n i
  generalize lm M n i = L at hD5 hF5 hSp5 hPk5 hLl hLn hLs
  -- the copies
  obtain ⟨v6, H6, e6, bk, yk, rfl, hDk6, hFk6, hT56⟩ := copy_ok hD5 hSne (by show S2.length < _; omega) (by show L.length < _; omega) lf (m + 2)
  change callS Try.prog S0 lf (m + 4) 26 [.ptr (some ⟨b, 0⟩)] H5 = _ at e6
  have hD6 := hD5.turns hT56 id id (fun _ => id)
  have hDs6 := hDs5.turns hT56 id id (fun _ => id)
  obtain ⟨v7, H7, e7, bl, yl, rfl, hDl7, hFl7, hT67⟩ := copy_ok hD6 hSne (by show S2.length < _; omega) (by show L.length < _; omega) lf (m + 2)
  change callS Try.prog S0 lf (m + 4) 26 [.ptr (some ⟨b, 0⟩)] H6 = _ at e7
  have hD7 := hD6.turns hT67 id id (fun _ => id)
  have hDs7 := hDs6.turns hT67 id id (fun _ => id)
  have hDk7 := hDk6.turns hT67 id id (fun _ => id)
  have sk1 : Sep bk yk ⟨S2, L, false⟩ b y ⟨S2, L, false⟩ := (sep_fresh hD5 hFk6).symm
  have sk2 : Sep bk yk ⟨S2, L, false⟩ bs ys ⟨S2, [], false⟩ := (sep_fresh hDs5 hFk6).symm
  have sk3 : Sep bk yk ⟨S2, L, false⟩ bl yl ⟨S2, L, false⟩ := sep_fresh hDk6 hFl7
  have sl1 : Sep bl yl ⟨S2, L, false⟩ b y ⟨S2, L, false⟩ := (sep_fresh hD6 hFl7).symm
  have sl2 : Sep bl yl ⟨S2, L, false⟩ bs ys ⟨S2, [], false⟩ := (sep_fresh hDs6 hFl7).symm
  have hT7 := (hT5.trans hT56).trans hT67
  have hFk : Fresh H bk yk ⟨S2, L, false⟩ := ⟨fun o => hFk6.b (o.mono hT5.next), fun o => hFk6.s (o.mono hT5.next), fun e o => hFk6.l e (o.mono hT5.next)⟩
  have hFl : Fresh H bl yl ⟨S2, L, false⟩ := ⟨fun o => hFl7.b (o.mono (hT5.trans hT56).next), fun o => hFl7.s (o.mono (hT5.trans hT56).next), fun e o => hFl7.l e (o.mono (hT5.trans hT56).next)⟩
  -- one keeps all
  have hPk7 := hPk5.picks (X' := Foot bk yk ⟨S2, L, false⟩) hFk6.foot (hT56.trans hT67)
  have hPl : (pk i).length = i := pk_length i
  obtain ⟨v8, H8, e8, rfl, hN8⟩ := crash_ok hDk7 hSne hLn (by show L.length < _; omega) (pc := i) (po := po) hPk7 (lf := lf) (by show L.length + 1 < lf; omega) (m + 2)
  rw [hPl] at e8
  change callS Try.prog S0 lf (m + 4) 19 [.ptr (some ⟨bk, 0⟩), .slice pp i i po] H7 = some (.v (.tuple [.int .i64 ((min L.length i : Nat) : Int), .int .i64 0]), H8) at e8
  have hmin : min L.length i = i := by omega
  rw [hmin] at e8
  have hcr : crashS S2 (L.zip (pk i)) = flushS S2 L := crash_all hSm hLs (by rw [hPl]; omega) (fun p hp => by
    simp only [pk, List.mem_map] at hp
    obtain ⟨j, _, rfl⟩ := hp
    exact clamp64 j)
  have hD8 := sk1.dev hD7 hN8.turns
  have hDs8 := sk2.dev hDs7 hN8.turns
  have hDl8 := sk3.dev hDl7 hN8.turns
  have hT8 := hFk.turns hT7 hN8
  have sl3 : Sep bl yl ⟨S2, L, false⟩ bk { yk with p := none, o := 0 } ⟨crashS S2 (L.zip (pk i)), [], false⟩ := (sk3.next hDl7 hN8).symm
  have hDk8 : DevAt H8 bk { yk with p := none, o := 0 } ⟨crashS S2 (L.zip (pk i)), [], false⟩ := hN8.dev
  rw [hcr] at sl3 hDk8
  -- the other none
  obtain ⟨v9, H9, e9, rfl, hN9⟩ := crash_ok hDl8 hSne hLn (by show L.length < _; omega) (pp := none) (P := []) (pc := 0) (po := 0) ⟨fun e => absurd rfl e⟩ (lf := lf) (by show L.length + 1 < lf; omega) (m + 2)
  change callS Try.prog S0 lf (m + 4) 19 [.ptr (some ⟨bl, 0⟩), .slice none 0 0 0] H8 = some (.v (.tuple [.int .i64 ((min L.length 0 : Nat) : Int), .int .i64 0]), H9) at e9
  rw [Nat.min_zero] at e9
  change callS Try.prog S0 lf (m + 4) 19 [.ptr (some ⟨bl, 0⟩), .slice none 0 0 0] H8 = some (.v (.tuple [.int .i64 0, .int .i64 0]), H9) at e9
  have hzn : L.zip ([] : List Int) = [] := List.zip_nil_right
  have hD9 := sl1.dev hD8 hN9.turns
  have hDs9 := sl2.dev hDs8 hN9.turns
  have hDk9 := sl3.dev hDk8 hN9.turns
  have hT9 := hFl.turns hT8 hN9
  have hDl9 : DevAt H9 bl { yl with p := none, o := 0 } ⟨crashS S2 (L.zip ([] : List Int)), [], false⟩ := hN9.dev
  rw [hzn] at hDl9
  have hDl9 : DevAt H9 bl { yl with p := none, o := 0 } ⟨S2, [], false⟩ := hDl9
  obtain ⟨vA, HA, eA, rfl, hHA⟩ := loose_ok hD9 hSne lf (m + 2)
  subst hHA
  change callS Try.prog S0 lf (m + 4) 21 [.ptr (some ⟨b, 0⟩)] HA = some (.v (.int .i64 (L.length : Int)), HA) at eA
  rw [hLl] at eA
  clear hN8 hN9
  generalize ({ yk with p := none, o := 0 } : Lay) = yk at hDk9
  generalize ({ yl with p := none, o := 0 } : Lay) = yl at hDl9
  have hloop2 : ∀ t : T, t.getP (Tr.path 7) = some (.ptr (some ⟨b, 0⟩)) → t.getP (Tr.path 8) = some (.int .i64 (n : Int)) → t.getP (Tr.path 10) = some (.ptr (some ⟨bs, 0⟩)) → t.getP (Tr.path 13) = some (.ptr (some ⟨bk, 0⟩)) → t.getP (Tr.path 14) = some (.ptr (some ⟨bl, 0⟩)) → t.getP (Tr.path 19) = some (.int .i64 0) →
      wp (loopF (runC (callS Try.prog S0 lf (m + 4)) lf c5_l0) lf ⟨t, HA, []⟩) fun x s => x = .ex 2 ∧ s.d = [] ∧ Turns Z H s.H := by
    intro t q7 q8 q10 q13 q14 q19
    refine wp_loopF (fun r s => ∃ j, j + r = n ∧ s.d = [] ∧ s.t.getP (Tr.path 7) = some (.ptr (some ⟨b, 0⟩)) ∧ s.t.getP (Tr.path 8) = some (.int .i64 (n : Int)) ∧ s.t.getP (Tr.path 10) = some (.ptr (some ⟨bs, 0⟩)) ∧ s.t.getP (Tr.path 13) = some (.ptr (some ⟨bk, 0⟩)) ∧ s.t.getP (Tr.path 14) = some (.ptr (some ⟨bl, 0⟩)) ∧ s.t.getP (Tr.path 19) = some (.int .i64 (j : Int)) ∧ Turns Z HA s.H) ?_ lf n _ ⟨0, by simp, rfl, q7, q8, q10, q13, q14, q19, Turns.refl _ _⟩ (by omega)
    rintro r ⟨t, HH, d⟩ ⟨j, hj, rfl, q7, q8, q10, q13, q14, q19, hT⟩
    dsimp only at q7 q8 q10 q13 q14 q19 hT
    cases r with
    | zero =>
      have hj : j = n := by omega
      subst hj
      have hg : ¬ (j < j) := Nat.lt_irrefl _
      simp only [c5_l0, q7, q8, q10, q13, q14, q19, hg, sC_skip, sC_reg, sC_seq, sC_cond, sC_block, sC_exit, sC_scope, sC_ret, sC_regD, sI_nil, sI_none, sI_guard, guard_t, guard_f, want_b, want_u, sO_p, sO_r, sO_m, sO_a, sO_c, sD_nil, sD_none, sD_guard, guardD_t, guardD_f, sE_p, sE_r, sE_m, sE_a, sE_c, evQ_some, evR_some, evM_some, evA_some, evC_some, callD_some, contD_some, consD_some, setT_some, setT_none, narrow_nil, narrow_cons, narrowC_some, seq_n, seq_ret, seq_ex, block_n, block_ret, block_ex, cond_t, cond_f, afterV_some, afterM_some, afterA_some, afterC_some, callC_some, get_t, get_c, get_setP, Tr.getP_e, argsT_nil, argsT_cons, ↓reduceIte, Nat.reduceEqDiff, Nat.reduceAdd, Nat.reduceSub, Nat.reduceMul, Nat.reduceDiv, Nat.reduceMod, Nat.zero_add, Nat.add_zero, beq_self_eq_true, Nat.zero_ne_one, Nat.one_ne_zero, Nat.reduceLeDiff, Int.reduceBEq, constF, unF, unary,  pickF, nilcF, faddrF, fldF, iaddrSF, arF, arith_lss, arith_leq, arith_gtr, arith_geq, arith_add, arith_sub, convF, extF, lenF, eqcF, eqnF, eqN, eqPtr, isNone, loadF, storeF, allocF, callF, gets, Option.map_some, Option.bind_some, add_eq, mul_eq, sub_eq, div_eq, mod_eq, nbeq, nble, asBlk_int, flat_int, cells_int, asBlk_bool, flat_bool, cells_bool, asBlk_ptr, flat_ptr, cells_ptr, asBlk_slice, flat_slice, cells_slice, asBlk_map, flat_map, cells_map, asBlk_blk, flat_blk, cells_blk, cells_agg, flat_agg, asBlk_agg, V.w, width, unc, cmpCells, eqI_eq, eqB_eq, mkI_eq, asNat_int, asNat_zero, asNat_one, undef, List.append_nil, List.nil_append, List.cons_append, nth_zero, nth_succ, resultsV, result, tup, wp_some, Bool.and_true, Bool.true_and, Bool.and_self, decide_true, decide_false, Bool.not_true, Bool.not_false, Bool.true_beq, Bool.false_beq, beq_iff_eq, reduceCtorEq, Nat.succ_eq_add_one, ptr0, Int.ofNat_eq_natCast, Int.ofNat_le, Int.ofNat_lt, Int.natCast_add, store_new, store_new65, load_set65, load_set65', load_set, List.map_cons, List.map_nil, sC_loop, Heap.next_add, Heap.next_set, boxF, buildF, fill, bsliceF, fillRows, List.replicate_one, upd_zero, put_blk, cut_blk, cut_whole, put_hit_int, put_miss_int, cut_hit_int, cut_miss_int, put_hit_bool, put_miss_bool, cut_hit_bool, cut_miss_bool, put_hit_ptr, put_miss_ptr, cut_hit_ptr, cut_miss_ptr, put_hit_slice, put_miss_slice, cut_hit_slice, cut_miss_slice, put_hit_map, put_miss_map, cut_hit_map, cut_miss_map, load_add, appF, List.length_cons, List.length_nil]
      exact ⟨trivial, trivial, hT9.trans hT⟩
    | succ r =>
      have hjn : j < n := by omega
      have hjS : j < S2.length := by omega
      have hw : IntKind.i64.wrap ((j : Int) + 1) = ((j + 1 : Nat) : Int) := by rw [wrap_i64 (by omega)]; rfl
      have hfl : (flushS S2 L).length = n := by rw [flushS_length, hS2]
      -- the device
      obtain ⟨w1, K1, k1, rfl, u1⟩ := read_ok (hD9.turns hT id id (fun _ => id)) (n := j) hjS rfl (lf := lf) (by show L.length + 1 < lf; omega) (by show L.length < _; omega) (m + 1)
      rw [read_flush hLn] at k1
      change callS Try.prog S0 lf (m + 4) 17 [.ptr (some ⟨b, 0⟩), .int .i64 (j : Int)] HH = some (.v (.tuple [.blk ((flushS S2 L).getD j 0), .int .i64 0]), K1) at k1
      generalize hx : (flushS S2 L).getD j 0 = X at k1
      have u1' := (hT.trans u1).trans (cell_turns K1 X)
      -- the one that kept all
      obtain ⟨w2, K2, k2, rfl, u2⟩ := sure_ok (hDk9.turns u1' id id (fun _ => id)) (n := j) (by show j < (flushS S2 L).length; omega) rfl lf (m + 1)
      have hx2 : (flushS S2 L)[j]'(by omega) = X := by rw [← hx, getD_lt (by omega)]
      change callS Try.prog S0 lf (m + 4) 20 [.ptr (some ⟨bk, 0⟩), .int .i64 (j : Int)] (cellH K1 X) = some (.v (.tuple [.blk ((flushS S2 L)[j]'(by omega)), .int .i64 0]), K2) at k2
      rw [hx2] at k2
      have u2' := (u1'.trans u2).trans (cell_turns K2 X)
      -- the one that kept none
      obtain ⟨w3, K3, k3, rfl, u3⟩ := sure_ok (hDl9.turns u2' id id (fun _ => id)) (n := j) hjS rfl lf (m + 1)
      change callS Try.prog S0 lf (m + 4) 20 [.ptr (some ⟨bl, 0⟩), .int .i64 (j : Int)] (cellH K2 X) = some (.v (.tuple [.blk (S2[j]'hjS), .int .i64 0]), K3) at k3
      generalize hy : S2[j]'hjS = Y at k3
      have u3' := (u2'.trans u3).trans (cell_turns K3 Y)
      -- what was sure
      obtain ⟨w4, K4, k4, rfl, u4⟩ := sure_ok (hDs9.turns u3' id id (fun _ => id)) (n := j) hjS rfl lf (m + 1)
      change callS Try.prog S0 lf (m + 4) 20 [.ptr (some ⟨bs, 0⟩), .int .i64 (j : Int)] (cellH K3 Y) = some (.v (.tuple [.blk (S2[j]'hjS), .int .i64 0]), K4) at k4
      rw [hy] at k4
      have u4' := (u3'.trans u4).trans (cell_turns K4 Y)
      have t34 : Turns Z (cellH K3 Y) (cellH K4 Y) := u4.trans (cell_turns K4 Y)
      have t24 : Turns Z (cellH K2 X) (cellH K4 Y) := (u3.trans (cell_turns K3 Y)).trans t34
      have t14 : Turns Z (cellH K1 X) (cellH K4 Y) := (u2.trans (cell_turns K2 X)).trans t24
      have d1 := load_of ((t14.same _ (cell_old K1 X) id).trans (cell_get K1 X))
      have d2 := load_of ((t24.same _ (cell_old K2 X) id).trans (cell_get K2 X))
      have d3 := load_of ((t34.same _ (cell_old K3 Y) id).trans (cell_get K3 Y))
      have d4 := load_of (cell_get K4 Y)
      simp only [c5_l0, q7, q8, q10, q13, q14, q19, hjn, k1, cell_fold, k2, k3, k4, sC_skip, sC_reg, sC_seq, sC_cond, sC_block, sC_exit, sC_scope, sC_ret, sC_regD, sI_nil, sI_none, sI_guard, guard_t, guard_f, want_b, want_u, sO_p, sO_r, sO_m, sO_a, sO_c, sD_nil, sD_none, sD_guard, guardD_t, guardD_f, sE_p, sE_r, sE_m, sE_a, sE_c, evQ_some, evR_some, evM_some, evA_some, evC_some, callD_some, contD_some, consD_some, setT_some, setT_none, narrow_nil, narrow_cons, narrowC_some, seq_n, seq_ret, seq_ex, block_n, block_ret, block_ex, cond_t, cond_f, afterV_some, afterM_some, afterA_some, afterC_some, callC_some, get_t, get_c, get_setP, Tr.getP_e, argsT_nil, argsT_cons, ↓reduceIte, Nat.reduceEqDiff, Nat.reduceAdd, Nat.reduceSub, Nat.reduceMul, Nat.reduceDiv, Nat.reduceMod, Nat.zero_add, Nat.add_zero, beq_self_eq_true, Nat.zero_ne_one, Nat.one_ne_zero, Nat.reduceLeDiff, Int.reduceBEq, constF, unF, unary,  pickF, nilcF, faddrF, fldF, iaddrSF, arF, arith_lss, arith_leq, arith_gtr, arith_geq, arith_add, arith_sub, convF, extF, lenF, eqcF, eqnF, eqN, eqPtr, isNone, loadF, storeF, allocF, callF, gets, Option.map_some, Option.bind_some, add_eq, mul_eq, sub_eq, div_eq, mod_eq, nbeq, nble, asBlk_int, flat_int, cells_int, asBlk_bool, flat_bool, cells_bool, asBlk_ptr, flat_ptr, cells_ptr, asBlk_slice, flat_slice, cells_slice, asBlk_map, flat_map, cells_map, asBlk_blk, flat_blk, cells_blk, cells_agg, flat_agg, asBlk_agg, V.w, width, unc, cmpCells, eqI_eq, eqB_eq, mkI_eq, asNat_int, asNat_zero, asNat_one, undef, List.append_nil, List.nil_append, List.cons_append, nth_zero, nth_succ, resultsV, result, tup, wp_some, Bool.and_true, Bool.true_and, Bool.and_self, decide_true, decide_false, Bool.not_true, Bool.not_false, Bool.true_beq, Bool.false_beq, beq_iff_eq, reduceCtorEq, Nat.succ_eq_add_one, ptr0, Int.ofNat_eq_natCast, Int.ofNat_le, Int.ofNat_lt, Int.natCast_add, store_new, store_new65, load_set65, load_set65', load_set, List.map_cons, List.map_nil, sC_loop, Heap.next_add, Heap.next_set, boxF, buildF, fill, bsliceF, fillRows, List.replicate_one, upd_zero, put_blk, cut_blk, cut_whole, put_hit_int, put_miss_int, cut_hit_int, cut_miss_int, put_hit_bool, put_miss_bool, cut_hit_bool, cut_miss_bool, put_hit_ptr, put_miss_ptr, cut_hit_ptr, cut_miss_ptr, put_hit_slice, put_miss_slice, cut_hit_slice, cut_miss_slice, put_hit_map, put_miss_map, cut_hit_map, cut_miss_map, load_add, appF, List.length_cons, List.length_nil]
      simp only [d1, d2, d3, d4, hw, q7, q8, q10, q13, q14, q19, sC_skip, sC_reg, sC_seq, sC_cond, sC_block, sC_exit, sC_scope, sC_ret, sC_regD, sI_nil, sI_none, sI_guard, guard_t, guard_f, want_b, want_u, sO_p, sO_r, sO_m, sO_a, sO_c, sD_nil, sD_none, sD_guard, guardD_t, guardD_f, sE_p, sE_r, sE_m, sE_a, sE_c, evQ_some, evR_some, evM_some, evA_some, evC_some, callD_some, contD_some, consD_some, setT_some, setT_none, narrow_nil, narrow_cons, narrowC_some, seq_n, seq_ret, seq_ex, block_n, block_ret, block_ex, cond_t, cond_f, afterV_some, afterM_some, afterA_some, afterC_some, callC_some, get_t, get_c, get_setP, Tr.getP_e, argsT_nil, argsT_cons, ↓reduceIte, Nat.reduceEqDiff, Nat.reduceAdd, Nat.reduceSub, Nat.reduceMul, Nat.reduceDiv, Nat.reduceMod, Nat.zero_add, Nat.add_zero, beq_self_eq_true, Nat.zero_ne_one, Nat.one_ne_zero, Nat.reduceLeDiff, Int.reduceBEq, constF, unF, unary,  pickF, nilcF, faddrF, fldF, iaddrSF, arF, arith_lss, arith_leq, arith_gtr, arith_geq, arith_add, arith_sub, convF, extF, lenF, eqcF, eqnF, eqN, eqPtr, isNone, loadF, storeF, allocF, callF, gets, Option.map_some, Option.bind_some, add_eq, mul_eq, sub_eq, div_eq, mod_eq, nbeq, nble, asBlk_int, flat_int, cells_int, asBlk_bool, flat_bool, cells_bool, asBlk_ptr, flat_ptr, cells_ptr, asBlk_slice, flat_slice, cells_slice, asBlk_map, flat_map, cells_map, asBlk_blk, flat_blk, cells_blk, cells_agg, flat_agg, asBlk_agg, V.w, width, unc, cmpCells, eqI_eq, eqB_eq, mkI_eq, asNat_int, asNat_zero, asNat_one, undef, List.append_nil, List.nil_append, List.cons_append, nth_zero, nth_succ, resultsV, result, tup, wp_some, Bool.and_true, Bool.true_and, Bool.and_self, decide_true, decide_false, Bool.not_true, Bool.not_false, Bool.true_beq, Bool.false_beq, beq_iff_eq, reduceCtorEq, Nat.succ_eq_add_one, ptr0, Int.ofNat_eq_natCast, Int.ofNat_le, Int.ofNat_lt, Int.natCast_add, store_new, store_new65, load_set65, load_set65', load_set, List.map_cons, List.map_nil, sC_loop, Heap.next_add, Heap.next_set, boxF, buildF, fill, bsliceF, fillRows, List.replicate_one, upd_zero, put_blk, cut_blk, cut_whole, put_hit_int, put_miss_int, cut_hit_int, cut_miss_int, put_hit_bool, put_miss_bool, cut_hit_bool, cut_miss_bool, put_hit_ptr, put_miss_ptr, cut_hit_ptr, cut_miss_ptr, put_hit_slice, put_miss_slice, cut_hit_slice, cut_miss_slice, put_hit_map, put_miss_map, cut_hit_map, cut_miss_map, load_add, appF, List.length_cons, List.length_nil]
      exact ⟨r, Nat.lt_succ_self r, j + 1, by omega, trivial, trivial, trivial, trivial, trivial, trivial, rfl, u4'⟩
  simp only [q7, q8, q10, q11, e6, e7, e8, e9, eA, sC_skip, sC_reg, sC_seq, sC_cond, sC_block, sC_exit, sC_scope, sC_ret, sC_regD, sI_nil, sI_none, sI_guard, guard_t, guard_f, want_b, want_u, sO_p, sO_r, sO_m, sO_a, sO_c, sD_nil, sD_none, sD_guard, guardD_t, guardD_f, sE_p, sE_r, sE_m, sE_a, sE_c, evQ_some, evR_some, evM_some, evA_some, evC_some, callD_some, contD_some, consD_some, setT_some, setT_none, narrow_nil, narrow_cons, narrowC_some, seq_n, seq_ret, seq_ex, block_n, block_ret, block_ex, cond_t, cond_f, afterV_some, afterM_some, afterA_some, afterC_some, callC_some, get_t, get_c, get_setP, Tr.getP_e, argsT_nil, argsT_cons, ↓reduceIte, Nat.reduceEqDiff, Nat.reduceAdd, Nat.reduceSub, Nat.reduceMul, Nat.reduceDiv, Nat.reduceMod, Nat.zero_add, Nat.add_zero, beq_self_eq_true, Nat.zero_ne_one, Nat.one_ne_zero, Nat.reduceLeDiff, Int.reduceBEq, constF, unF, unary,  pickF, nilcF, faddrF, fldF, iaddrSF, arF, arith_lss, arith_leq, arith_gtr, arith_geq, arith_add, arith_sub, convF, extF, lenF, eqcF, eqnF, eqN, eqPtr, isNone, loadF, storeF, allocF, callF, gets, Option.map_some, Option.bind_some, add_eq, mul_eq, sub_eq, div_eq, mod_eq, nbeq, nble, asBlk_int, flat_int, cells_int, asBlk_bool, flat_bool, cells_bool, asBlk_ptr, flat_ptr, cells_ptr, asBlk_slice, flat_slice, cells_slice, asBlk_map, flat_map, cells_map, asBlk_blk, flat_blk, cells_blk, cells_agg, flat_agg, asBlk_agg, V.w, width, unc, cmpCells, eqI_eq, eqB_eq, mkI_eq, asNat_int, asNat_zero, asNat_one, undef, List.append_nil, List.nil_append, List.cons_append, nth_zero, nth_succ, resultsV, result, tup, wp_some, Bool.and_true, Bool.true_and, Bool.and_self, decide_true, decide_false, Bool.not_true, Bool.not_false, Bool.true_beq, Bool.false_beq, beq_iff_eq, reduceCtorEq, Nat.succ_eq_add_one, ptr0, Int.ofNat_eq_natCast, Int.ofNat_le, Int.ofNat_lt, Int.natCast_add, store_new, store_new65, load_set65, load_set65', load_set, List.map_cons, List.map_nil, sC_loop, Heap.next_add, Heap.next_set, boxF, buildF, fill, bsliceF, fillRows, List.replicate_one, upd_zero, put_blk, cut_blk, cut_whole, put_hit_int, put_miss_int, cut_hit_int, cut_miss_int, put_hit_bool, put_miss_bool, cut_hit_bool, cut_miss_bool, put_hit_ptr, put_miss_ptr, cut_hit_ptr, cut_miss_ptr, put_hit_slice, put_miss_slice, cut_hit_slice, cut_miss_slice, put_hit_map, put_miss_map, cut_hit_map, cut_miss_map, load_add, appF, List.length_cons, List.length_nil]
  refine wp_ctx (F := fun r => seqC _ _ _ (blockC _ r)) (hloop2 _ ?_ ?_ ?_ ?_ ?_ ?_) ?_
  · simp only [q7, q8, q10, q11, sC_skip, sC_reg, sC_seq, sC_cond, sC_block, sC_exit, sC_scope, sC_ret, sC_regD, sI_nil, sI_none, sI_guard, guard_t, guard_f, want_b, want_u, sO_p, sO_r, sO_m, sO_a, sO_c, sD_nil, sD_none, sD_guard, guardD_t, guardD_f, sE_p, sE_r, sE_m, sE_a, sE_c, evQ_some, evR_some, evM_some, evA_some, evC_some, callD_some, contD_some, consD_some, setT_some, setT_none, narrow_nil, narrow_cons, narrowC_some, seq_n, seq_ret, seq_ex, block_n, block_ret, block_ex, cond_t, cond_f, afterV_some, afterM_some, afterA_some, afterC_some, callC_some, get_t, get_c, get_setP, Tr.getP_e, argsT_nil, argsT_cons, ↓reduceIte, Nat.reduceEqDiff, Nat.reduceAdd, Nat.reduceSub, Nat.reduceMul, Nat.reduceDiv, Nat.reduceMod, Nat.zero_add, Nat.add_zero, beq_self_eq_true, Nat.zero_ne_one, Nat.one_ne_zero, Nat.reduceLeDiff, Int.reduceBEq, constF, unF, unary,  pickF, nilcF, faddrF, fldF, iaddrSF, arF, arith_lss, arith_leq, arith_gtr, arith_geq, arith_add, arith_sub, convF, extF, lenF, eqcF, eqnF, eqN, eqPtr, isNone, loadF, storeF, allocF, callF, gets, Option.map_some, Option.bind_some, add_eq, mul_eq, sub_eq, div_eq, mod_eq, nbeq, nble, asBlk_int, flat_int, cells_int, asBlk_bool, flat_bool, cells_bool, asBlk_ptr, flat_ptr, cells_ptr, asBlk_slice, flat_slice, cells_slice, asBlk_map, flat_map, cells_map, asBlk_blk, flat_blk, cells_blk, cells_agg, flat_agg, asBlk_agg, V.w, width, unc, cmpCells, eqI_eq, eqB_eq, mkI_eq, asNat_int, asNat_zero, asNat_one, undef, List.append_nil, List.nil_append, List.cons_append, nth_zero, nth_succ, resultsV, result, tup, wp_some, Bool.and_true, Bool.true_and, Bool.and_self, decide_true, decide_false, Bool.not_true, Bool.not_false, Bool.true_beq, Bool.false_beq, beq_iff_eq, reduceCtorEq, Nat.succ_eq_add_one, ptr0, Int.ofNat_eq_natCast, Int.ofNat_le, Int.ofNat_lt, Int.natCast_add, store_new, store_new65, load_set65, load_set65', load_set, List.map_cons, List.map_nil, sC_loop, Heap.next_add, Heap.next_set, boxF, buildF, fill, bsliceF, fillRows, List.replicate_one, upd_zero, put_blk, cut_blk, cut_whole, put_hit_int, put_miss_int, cut_hit_int, cut_miss_int, put_hit_bool, put_miss_bool, cut_hit_bool, cut_miss_bool, put_hit_ptr, put_miss_ptr, cut_hit_ptr, cut_miss_ptr, put_hit_slice, put_miss_slice, cut_hit_slice, cut_miss_slice, put_hit_map, put_miss_map, cut_hit_map, cut_miss_map, load_add, appF, List.length_cons, List.length_nil]
  · simp only [q7, q8, q10, q11, sC_skip, sC_reg, sC_seq, sC_cond, sC_block, sC_exit, sC_scope, sC_ret, sC_regD, sI_nil, sI_none, sI_guard, guard_t, guard_f, want_b, want_u, sO_p, sO_r, sO_m, sO_a, sO_c, sD_nil, sD_none, sD_guard, guardD_t, guardD_f, sE_p, sE_r, sE_m, sE_a, sE_c, evQ_some, evR_some, evM_some, evA_some, evC_some, callD_some, contD_some, consD_some, setT_some, setT_none, narrow_nil, narrow_cons, narrowC_some, seq_n, seq_ret, seq_ex, block_n, block_ret, block_ex, cond_t, cond_f, afterV_some, afterM_some, afterA_some, afterC_some, callC_some, get_t, get_c, get_setP, Tr.getP_e, argsT_nil, argsT_cons, ↓reduceIte, Nat.reduceEqDiff, Nat.reduceAdd, Nat.reduceSub, Nat.reduceMul, Nat.reduceDiv, Nat.reduceMod, Nat.zero_add, Nat.add_zero, beq_self_eq_true, Nat.zero_ne_one, Nat.one_ne_zero, Nat.reduceLeDiff, Int.reduceBEq, constF, unF, unary,  pickF, nilcF, faddrF, fldF, iaddrSF, arF, arith_lss, arith_leq, arith_gtr, arith_geq, arith_add, arith_sub, convF, extF, lenF, eqcF, eqnF, eqN, eqPtr, isNone, loadF, storeF, allocF, callF, gets, Option.map_some, Option.bind_some, add_eq, mul_eq, sub_eq, div_eq, mod_eq, nbeq, nble, asBlk_int, flat_int, cells_int, asBlk_bool, flat_bool, cells_bool, asBlk_ptr, flat_ptr, cells_ptr, asBlk_slice, flat_slice, cells_slice, asBlk_map, flat_map, cells_map, asBlk_blk, flat_blk, cells_blk, cells_agg, flat_agg, asBlk_agg, V.w, width, unc, cmpCells, eqI_eq, eqB_eq, mkI_eq, asNat_int, asNat_zero, asNat_one, undef, List.append_nil, List.nil_append, List.cons_append, nth_zero, nth_succ, resultsV, result, tup, wp_some, Bool.and_true, Bool.true_and, Bool.and_self, decide_true, decide_false, Bool.not_true, Bool.not_false, Bool.true_beq, Bool.false_beq, beq_iff_eq, reduceCtorEq, Nat.succ_eq_add_one, ptr0, Int.ofNat_eq_natCast, Int.ofNat_le, Int.ofNat_lt, Int.natCast_add, store_new, store_new65, load_set65, load_set65', load_set, List.map_cons, List.map_nil, sC_loop, Heap.next_add, Heap.next_set, boxF, buildF, fill, bsliceF, fillRows, List.replicate_one, upd_zero, put_blk, cut_blk, cut_whole, put_hit_int, put_miss_int, cut_hit_int, cut_miss_int, put_hit_bool, put_miss_bool, cut_hit_bool, cut_miss_bool, put_hit_ptr, put_miss_ptr, cut_hit_ptr, cut_miss_ptr, put_hit_slice, put_miss_slice, cut_hit_slice, cut_miss_slice, put_hit_map, put_miss_map, cut_hit_map, cut_miss_map, load_add, appF, List.length_cons, List.length_nil]
  · simp only [q7, q8, q10, q11, sC_skip, sC_reg, sC_seq, sC_cond, sC_block, sC_exit, sC_scope, sC_ret, sC_regD, sI_nil, sI_none, sI_guard, guard_t, guard_f, want_b, want_u, sO_p, sO_r, sO_m, sO_a, sO_c, sD_nil, sD_none, sD_guard, guardD_t, guardD_f, sE_p, sE_r, sE_m, sE_a, sE_c, evQ_some, evR_some, evM_some, evA_some, evC_some, callD_some, contD_some, consD_some, setT_some, setT_none, narrow_nil, narrow_cons, narrowC_some, seq_n, seq_ret, seq_ex, block_n, block_ret, block_ex, cond_t, cond_f, afterV_some, afterM_some, afterA_some, afterC_some, callC_some, get_t, get_c, get_setP, Tr.getP_e, argsT_nil, argsT_cons, ↓reduceIte, Nat.reduceEqDiff, Nat.reduceAdd, Nat.reduceSub, Nat.reduceMul, Nat.reduceDiv, Nat.reduceMod, Nat.zero_add, Nat.add_zero, beq_self_eq_true, Nat.zero_ne_one, Nat.one_ne_zero, Nat.reduceLeDiff, Int.reduceBEq, constF, unF, unary,  pickF, nilcF, faddrF, fldF, iaddrSF, arF, arith_lss, arith_leq, arith_gtr, arith_geq, arith_add, arith_sub, convF, extF, lenF, eqcF, eqnF, eqN, eqPtr, isNone, loadF, storeF, allocF, callF, gets, Option.map_some, Option.bind_some, add_eq, mul_eq, sub_eq, div_eq, mod_eq, nbeq, nble, asBlk_int, flat_int, cells_int, asBlk_bool, flat_bool, cells_bool, asBlk_ptr, flat_ptr, cells_ptr, asBlk_slice, flat_slice, cells_slice, asBlk_map, flat_map, cells_map, asBlk_blk, flat_blk, cells_blk, cells_agg, flat_agg, asBlk_agg, V.w, width, unc, cmpCells, eqI_eq, eqB_eq, mkI_eq, asNat_int, asNat_zero, asNat_one, undef, List.append_nil, List.nil_append, List.cons_append, nth_zero, nth_succ, resultsV, result, tup, wp_some, Bool.and_true, Bool.true_and, Bool.and_self, decide_true, decide_false, Bool.not_true, Bool.not_false, Bool.true_beq, Bool.false_beq, beq_iff_eq, reduceCtorEq, Nat.succ_eq_add_one, ptr0, Int.ofNat_eq_natCast, Int.ofNat_le, Int.ofNat_lt, Int.natCast_add, store_new, store_new65, load_set65, load_set65', load_set, List.map_cons, List.map_nil, sC_loop, Heap.next_add, Heap.next_set, boxF, buildF, fill, bsliceF, fillRows, List.replicate_one, upd_zero, put_blk, cut_blk, cut_whole, put_hit_int, put_miss_int, cut_hit_int, cut_miss_int, put_hit_bool, put_miss_bool, cut_hit_bool, cut_miss_bool, put_hit_ptr, put_miss_ptr, cut_hit_ptr, cut_miss_ptr, put_hit_slice, put_miss_slice, cut_hit_slice, cut_miss_slice, put_hit_map, put_miss_map, cut_hit_map, cut_miss_map, load_add, appF, List.length_cons, List.length_nil]
  · simp only [q7, q8, q10, q11, sC_skip, sC_reg, sC_seq, sC_cond, sC_block, sC_exit, sC_scope, sC_ret, sC_regD, sI_nil, sI_none, sI_guard, guard_t, guard_f, want_b, want_u, sO_p, sO_r, sO_m, sO_a, sO_c, sD_nil, sD_none, sD_guard, guardD_t, guardD_f, sE_p, sE_r, sE_m, sE_a, sE_c, evQ_some, evR_some, evM_some, evA_some, evC_some, callD_some, contD_some, consD_some, setT_some, setT_none, narrow_nil, narrow_cons, narrowC_some, seq_n, seq_ret, seq_ex, block_n, block_ret, block_ex, cond_t, cond_f, afterV_some, afterM_some, afterA_some, afterC_some, callC_some, get_t, get_c, get_setP, Tr.getP_e, argsT_nil, argsT_cons, ↓reduceIte, Nat.reduceEqDiff, Nat.reduceAdd, Nat.reduceSub, Nat.reduceMul, Nat.reduceDiv, Nat.reduceMod, Nat.zero_add, Nat.add_zero, beq_self_eq_true, Nat.zero_ne_one, Nat.one_ne_zero, Nat.reduceLeDiff, Int.reduceBEq, constF, unF, unary,  pickF, nilcF, faddrF, fldF, iaddrSF, arF, arith_lss, arith_leq, arith_gtr, arith_geq, arith_add, arith_sub, convF, extF, lenF, eqcF, eqnF, eqN, eqPtr, isNone, loadF, storeF, allocF, callF, gets, Option.map_some, Option.bind_some, add_eq, mul_eq, sub_eq, div_eq, mod_eq, nbeq, nble, asBlk_int, flat_int, cells_int, asBlk_bool, flat_bool, cells_bool, asBlk_ptr, flat_ptr, cells_ptr, asBlk_slice, flat_slice, cells_slice, asBlk_map, flat_map, cells_map, asBlk_blk, flat_blk, cells_blk, cells_agg, flat_agg, asBlk_agg, V.w, width, unc, cmpCells, eqI_eq, eqB_eq, mkI_eq, asNat_int, asNat_zero, asNat_one, undef, List.append_nil, List.nil_append, List.cons_append, nth_zero, nth_succ, resultsV, result, tup, wp_some, Bool.and_true, Bool.true_and, Bool.and_self, decide_true, decide_false, Bool.not_true, Bool.not_false, Bool.true_beq, Bool.false_beq, beq_iff_eq, reduceCtorEq, Nat.succ_eq_add_one, ptr0, Int.ofNat_eq_natCast, Int.ofNat_le, Int.ofNat_lt, Int.natCast_add, store_new, store_new65, load_set65, load_set65', load_set, List.map_cons, List.map_nil, sC_loop, Heap.next_add, Heap.next_set, boxF, buildF, fill, bsliceF, fillRows, List.replicate_one, upd_zero, put_blk, cut_blk, cut_whole, put_hit_int, put_miss_int, cut_hit_int, cut_miss_int, put_hit_bool, put_miss_bool, cut_hit_bool, cut_miss_bool, put_hit_ptr, put_miss_ptr, cut_hit_ptr, cut_miss_ptr, put_hit_slice, put_miss_slice, cut_hit_slice, cut_miss_slice, put_hit_map, put_miss_map, cut_hit_map, cut_miss_map, load_add, appF, List.length_cons, List.length_nil]
  · simp only [q7, q8, q10, q11, sC_skip, sC_reg, sC_seq, sC_cond, sC_block, sC_exit, sC_scope, sC_ret, sC_regD, sI_nil, sI_none, sI_guard, guard_t, guard_f, want_b, want_u, sO_p, sO_r, sO_m, sO_a, sO_c, sD_nil, sD_none, sD_guard, guardD_t, guardD_f, sE_p, sE_r, sE_m, sE_a, sE_c, evQ_some, evR_some, evM_some, evA_some, evC_some, callD_some, contD_some, consD_some, setT_some, setT_none, narrow_nil, narrow_cons, narrowC_some, seq_n, seq_ret, seq_ex, block_n, block_ret, block_ex, cond_t, cond_f, afterV_some, afterM_some, afterA_some, afterC_some, callC_some, get_t, get_c, get_setP, Tr.getP_e, argsT_nil, argsT_cons, ↓reduceIte, Nat.reduceEqDiff, Nat.reduceAdd, Nat.reduceSub, Nat.reduceMul, Nat.reduceDiv, Nat.reduceMod, Nat.zero_add, Nat.add_zero, beq_self_eq_true, Nat.zero_ne_one, Nat.one_ne_zero, Nat.reduceLeDiff, Int.reduceBEq, constF, unF, unary,  pickF, nilcF, faddrF, fldF, iaddrSF, arF, arith_lss, arith_leq, arith_gtr, arith_geq, arith_add, arith_sub, convF, extF, lenF, eqcF, eqnF, eqN, eqPtr, isNone, loadF, storeF, allocF, callF, gets, Option.map_some, Option.bind_some, add_eq, mul_eq, sub_eq, div_eq, mod_eq, nbeq, nble, asBlk_int, flat_int, cells_int, asBlk_bool, flat_bool, cells_bool, asBlk_ptr, flat_ptr, cells_ptr, asBlk_slice, flat_slice, cells_slice, asBlk_map, flat_map, cells_map, asBlk_blk, flat_blk, cells_blk, cells_agg, flat_agg, asBlk_agg, V.w, width, unc, cmpCells, eqI_eq, eqB_eq, mkI_eq, asNat_int, asNat_zero, asNat_one, undef, List.append_nil, List.nil_append, List.cons_append, nth_zero, nth_succ, resultsV, result, tup, wp_some, Bool.and_true, Bool.true_and, Bool.and_self, decide_true, decide_false, Bool.not_true, Bool.not_false, Bool.true_beq, Bool.false_beq, beq_iff_eq, reduceCtorEq, Nat.succ_eq_add_one, ptr0, Int.ofNat_eq_natCast, Int.ofNat_le, Int.ofNat_lt, Int.natCast_add, store_new, store_new65, load_set65, load_set65', load_set, List.map_cons, List.map_nil, sC_loop, Heap.next_add, Heap.next_set, boxF, buildF, fill, bsliceF, fillRows, List.replicate_one, upd_zero, put_blk, cut_blk, cut_whole, put_hit_int, put_miss_int, cut_hit_int, cut_miss_int, put_hit_bool, put_miss_bool, cut_hit_bool, cut_miss_bool, put_hit_ptr, put_miss_ptr, cut_hit_ptr, cut_miss_ptr, put_hit_slice, put_miss_slice, cut_hit_slice, cut_miss_slice, put_hit_map, put_miss_map, cut_hit_map, cut_miss_map, load_add, appF, List.length_cons, List.length_nil]
  · simp only [q7, q8, q10, q11, sC_skip, sC_reg, sC_seq, sC_cond, sC_block, sC_exit, sC_scope, sC_ret, sC_regD, sI_nil, sI_none, sI_guard, guard_t, guard_f, want_b, want_u, sO_p, sO_r, sO_m, sO_a, sO_c, sD_nil, sD_none, sD_guard, guardD_t, guardD_f, sE_p, sE_r, sE_m, sE_a, sE_c, evQ_some, evR_some, evM_some, evA_some, evC_some, callD_some, contD_some, consD_some, setT_some, setT_none, narrow_nil, narrow_cons, narrowC_some, seq_n, seq_ret, seq_ex, block_n, block_ret, block_ex, cond_t, cond_f, afterV_some, afterM_some, afterA_some, afterC_some, callC_some, get_t, get_c, get_setP, Tr.getP_e, argsT_nil, argsT_cons, ↓reduceIte, Nat.reduceEqDiff, Nat.reduceAdd, Nat.reduceSub, Nat.reduceMul, Nat.reduceDiv, Nat.reduceMod, Nat.zero_add, Nat.add_zero, beq_self_eq_true, Nat.zero_ne_one, Nat.one_ne_zero, Nat.reduceLeDiff, Int.reduceBEq, constF, unF, unary,  pickF, nilcF, faddrF, fldF, iaddrSF, arF, arith_lss, arith_leq, arith_gtr, arith_geq, arith_add, arith_sub, convF, extF, lenF, eqcF, eqnF, eqN, eqPtr, isNone, loadF, storeF, allocF, callF, gets, Option.map_some, Option.bind_some, add_eq, mul_eq, sub_eq, div_eq, mod_eq, nbeq, nble, asBlk_int, flat_int, cells_int, asBlk_bool, flat_bool, cells_bool, asBlk_ptr, flat_ptr, cells_ptr, asBlk_slice, flat_slice, cells_slice, asBlk_map, flat_map, cells_map, asBlk_blk, flat_blk, cells_blk, cells_agg, flat_agg, asBlk_agg, V.w, width, unc, cmpCells, eqI_eq, eqB_eq, mkI_eq, asNat_int, asNat_zero, asNat_one, undef, List.append_nil, List.nil_append, List.cons_append, nth_zero, nth_succ, resultsV, result, tup, wp_some, Bool.and_true, Bool.true_and, Bool.and_self, decide_true, decide_false, Bool.not_true, Bool.not_false, Bool.true_beq, Bool.false_beq, beq_iff_eq, reduceCtorEq, Nat.succ_eq_add_one, ptr0, Int.ofNat_eq_natCast, Int.ofNat_le, Int.ofNat_lt, Int.natCast_add, store_new, store_new65, load_set65, load_set65', load_set, List.map_cons, List.map_nil, sC_loop, Heap.next_add, Heap.next_set, boxF, buildF, fill, bsliceF, fillRows, List.replicate_one, upd_zero, put_blk, cut_blk, cut_whole, put_hit_int, put_miss_int, cut_hit_int, cut_miss_int, put_hit_bool, put_miss_bool, cut_hit_bool, cut_miss_bool, put_hit_ptr, put_miss_ptr, cut_hit_ptr, cut_miss_ptr, put_hit_slice, put_miss_slice, cut_hit_slice, cut_miss_slice, put_hit_map, put_miss_map, cut_hit_map, cut_miss_map, load_add, appF, List.length_cons, List.length_nil]
  rintro x ⟨t, HZ, d⟩ ⟨rfl, rfl, hTZ⟩
  dsimp only at hTZ
  have eL := lives_call lf (m + 3) HZ
  change callS Try.prog S0 lf (m + 4) 22 [] HZ = _ at eL
  simp only [eL, sC_skip, sC_reg, sC_seq, sC_cond, sC_block, sC_exit, sC_scope, sC_ret, sC_regD, sI_nil, sI_none, sI_guard, guard_t, guard_f, want_b, want_u, sO_p, sO_r, sO_m, sO_a, sO_c, sD_nil, sD_none, sD_guard, guardD_t, guardD_f, sE_p, sE_r, sE_m, sE_a, sE_c, evQ_some, evR_some, evM_some, evA_some, evC_some, callD_some, contD_some, consD_some, setT_some, setT_none, narrow_nil, narrow_cons, narrowC_some, seq_n, seq_ret, seq_ex, block_n, block_ret, block_ex, cond_t, cond_f, afterV_some, afterM_some, afterA_some, afterC_some, callC_some, get_t, get_c, get_setP, Tr.getP_e, argsT_nil, argsT_cons, ↓reduceIte, Nat.reduceEqDiff, Nat.reduceAdd, Nat.reduceSub, Nat.reduceMul, Nat.reduceDiv, Nat.reduceMod, Nat.zero_add, Nat.add_zero, beq_self_eq_true, Nat.zero_ne_one, Nat.one_ne_zero, Nat.reduceLeDiff, Int.reduceBEq, constF, unF, unary,  pickF, nilcF, faddrF, fldF, iaddrSF, arF, arith_lss, arith_leq, arith_gtr, arith_geq, arith_add, arith_sub, convF, extF, lenF, eqcF, eqnF, eqN, eqPtr, isNone, loadF, storeF, allocF, callF, gets, Option.map_some, Option.bind_some, add_eq, mul_eq, sub_eq, div_eq, mod_eq, nbeq, nble, asBlk_int, flat_int, cells_int, asBlk_bool, flat_bool, cells_bool, asBlk_ptr, flat_ptr, cells_ptr, asBlk_slice, flat_slice, cells_slice, asBlk_map, flat_map, cells_map, asBlk_blk, flat_blk, cells_blk, cells_agg, flat_agg, asBlk_agg, V.w, width, unc, cmpCells, eqI_eq, eqB_eq, mkI_eq, asNat_int, asNat_zero, asNat_one, undef, List.append_nil, List.nil_append, List.cons_append, nth_zero, nth_succ, resultsV, result, tup, wp_some, Bool.and_true, Bool.true_and, Bool.and_self, decide_true, decide_false, Bool.not_true, Bool.not_false, Bool.true_beq, Bool.false_beq, beq_iff_eq, reduceCtorEq, Nat.succ_eq_add_one, ptr0, Int.ofNat_eq_natCast, Int.ofNat_le, Int.ofNat_lt, Int.natCast_add, store_new, store_new65, load_set65, load_set65', load_set, List.map_cons, List.map_nil, sC_loop, Heap.next_add, Heap.next_set, boxF, buildF, fill, bsliceF, fillRows, List.replicate_one, upd_zero, put_blk, cut_blk, cut_whole, put_hit_int, put_miss_int, cut_hit_int, cut_miss_int, put_hit_bool, put_miss_bool, cut_hit_bool, cut_miss_bool, put_hit_ptr, put_miss_ptr, cut_hit_ptr, cut_miss_ptr, put_hit_slice, put_miss_slice, cut_hit_slice, cut_miss_slice, put_hit_map, put_miss_map, cut_hit_map, cut_miss_map, load_add, appF, List.length_cons, List.length_nil]
  exact ⟨trivial, .inr trivial, _, rfl, rfl, hTZ⟩

end Go.Proofs.Ytcelngepfdchiaa.disk

