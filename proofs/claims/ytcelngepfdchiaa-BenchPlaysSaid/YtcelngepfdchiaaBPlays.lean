/-
  A bench and the document's one: an act that is done to both.
-/
import Derived.Test.YtcelngepfdchiaaBActs
import Derived.Test.YtcelngepfdchiaaRef7
import Derived.Test.YtcelngepfdchiaaBench8
set_option linter.unusedVariables false
set_option linter.unusedSectionVars false
set_option linter.unusedSimpArgs false
set_option maxRecDepth 10000
namespace Go.Proofs.Ytcelngepfdchiaa.disk
open Go.Am

/-- ashlar/ashlarlaw06.both -/
noncomputable def c47 : CFn := ⟨[.tmp (Tr.path 6)],
 .seq (.reg [
  ⟨(some (Tr.path 5)), (some (.m (boxF 70 (.t (Tr.path 2))))), none, [Tr.path 2]⟩,
  ⟨(some (Tr.path 6)), (some (.p (S.get (.c (.bool false))))), none, []⟩]) (
 .seq (.seq (.reg [
   ⟨(some (Tr.path 15)), (some (.p (faddrF (.t (Tr.path 5)) 0))), none, [Tr.path 5]⟩,
   ⟨(some (Tr.path 16)), (some (.r (loadF (.t (Tr.path 15)) 1 .sc))), none, [Tr.path 15]⟩]) (
  .block 0 (.seq (.reg [
    ⟨(some (Tr.path 18)), (some (.p (eqcF false false [.int .i64] (.t (Tr.path 16)) (.c (.int .i64 0))))), none, [Tr.path 16]⟩,
    ⟨(some (Tr.path 17)), (some (.p (S.get (.t (Tr.path 18))))), none, [Tr.path 18]⟩]) (
   .cond (.t (Tr.path 17)) (.seq (.regD [
      ⟨(some (Tr.path 19)), (some (.p (S.get (.t (Tr.path 0))))), none, [Tr.path 0]⟩,
      ⟨(some (Tr.path 20)), (some (.p (faddrF (.t (Tr.path 5)) 1))), none, [Tr.path 5]⟩,
      ⟨(some (Tr.path 21)), (some (.r (loadF (.t (Tr.path 20)) 1 .sc))), none, [Tr.path 20]⟩,
      ⟨(some (Tr.path 22)), (some (.p (faddrF (.t (Tr.path 5)) 2))), none, [Tr.path 5]⟩,
      ⟨(some (Tr.path 23)), (some (.r (loadF (.t (Tr.path 22)) 1 .sc))), none, [Tr.path 22]⟩,
      ⟨(some (Tr.path 24)), (some (.p (faddrF (.t (Tr.path 5)) 5))), none, [Tr.path 5]⟩,
      ⟨(some (Tr.path 25)), (some (.r (loadF (.t (Tr.path 24)) 64 .bk))), none, [Tr.path 24]⟩,
      ⟨(some (Tr.path 26)), (some (.c (callF (.c (.func (.func 33) [] [])) [(.t (Tr.path 19)), (.t (Tr.path 21)), (.t (Tr.path 23)), (.t (Tr.path 25))]))), none, [Tr.path 19, Tr.path 21, Tr.path 23, Tr.path 25]⟩,
      ⟨(some (Tr.path 27)), (some (.p (S.get (.t (Tr.path 1))))), none, [Tr.path 1]⟩,
      ⟨(some (Tr.path 28)), (some (.p (faddrF (.t (Tr.path 5)) 1))), none, [Tr.path 5]⟩,
      ⟨(some (Tr.path 29)), (some (.r (loadF (.t (Tr.path 28)) 1 .sc))), none, [Tr.path 28]⟩,
      ⟨(some (Tr.path 30)), (some (.p (faddrF (.t (Tr.path 5)) 2))), none, [Tr.path 5]⟩,
      ⟨(some (Tr.path 31)), (some (.r (loadF (.t (Tr.path 30)) 1 .sc))), none, [Tr.path 30]⟩,
      ⟨(some (Tr.path 32)), (some (.p (faddrF (.t (Tr.path 5)) 5))), none, [Tr.path 5]⟩,
      ⟨(some (Tr.path 33)), (some (.r (loadF (.t (Tr.path 32)) 64 .bk))), none, [Tr.path 32]⟩,
      ⟨(some (Tr.path 34)), (some (.c (callF (.c (.func (.func 88) [] [])) [(.t (Tr.path 27)), (.t (Tr.path 29)), (.t (Tr.path 31)), (.t (Tr.path 33))]))), none, [Tr.path 27, Tr.path 29, Tr.path 31, Tr.path 33]⟩,
      ⟨(some (Tr.path 35)), (some (.p (eqcF false false [.int .i64] (.t (Tr.path 26)) (.t (Tr.path 34))))), none, [Tr.path 26, Tr.path 34]⟩,
      ⟨(some (Tr.path 6)), (some (.p (S.get (.t (Tr.path 35))))), none, [Tr.path 35]⟩] [0, 0, 2, 0, 8, 0, 32, 127, 0, 0, 512, 0, 2048, 0, 8192, 32767, 65535, 131071]) (
     .ret)) (.seq (.reg [
      ⟨(some (Tr.path 37)), (some (.p (eqcF false false [.int .i64] (.t (Tr.path 16)) (.c (.int .i64 1))))), none, [Tr.path 16]⟩,
      ⟨(some (Tr.path 36)), (some (.p (S.get (.t (Tr.path 37))))), none, [Tr.path 37]⟩]) (
     .cond (.t (Tr.path 36)) (.seq (.reg [
        ⟨(some (Tr.path 39)), (some (.p (S.get (.t (Tr.path 0))))), none, [Tr.path 0]⟩,
        ⟨(some (Tr.path 40)), (some (.p (faddrF (.t (Tr.path 5)) 1))), none, [Tr.path 5]⟩,
        ⟨(some (Tr.path 41)), (some (.r (loadF (.t (Tr.path 40)) 1 .sc))), none, [Tr.path 40]⟩,
        ⟨(some (Tr.path 42)), (some (.p (faddrF (.t (Tr.path 5)) 2))), none, [Tr.path 5]⟩,
        ⟨(some (Tr.path 43)), (some (.r (loadF (.t (Tr.path 42)) 1 .sc))), none, [Tr.path 42]⟩,
        ⟨(some (Tr.path 44)), (some (.c (callF (.c (.func (.func 40) [] [])) [(.t (Tr.path 39)), (.t (Tr.path 41)), (.t (Tr.path 43))]))), none, [Tr.path 39, Tr.path 41, Tr.path 43]⟩,
        ⟨(some (Tr.path 38)), (some (.p (S.get (.t (Tr.path 44))))), none, [Tr.path 44]⟩,
        ⟨(some (Tr.path 45)), (some (.p (extF (.t (Tr.path 38)) 0))), none, [Tr.path 38]⟩,
        ⟨(some (Tr.path 46)), (some (.p (extF (.t (Tr.path 38)) 1))), none, [Tr.path 38]⟩,
        ⟨(some (Tr.path 7)), (some (.m (allocF 64 [.blk 0]))), none, []⟩,
        ⟨none, (some (.a (storeF (.t (Tr.path 7)) (.t (Tr.path 45)) 64))), none, [Tr.path 7, Tr.path 45]⟩,
        ⟨(some (Tr.path 8)), (some (.p (S.get (.t (Tr.path 46))))), none, [Tr.path 46]⟩]) (
       .seq (.reg [
        ⟨(some (Tr.path 48)), (some (.p (S.get (.t (Tr.path 1))))), none, [Tr.path 1]⟩,
        ⟨(some (Tr.path 49)), (some (.p (faddrF (.t (Tr.path 5)) 1))), none, [Tr.path 5]⟩,
        ⟨(some (Tr.path 50)), (some (.r (loadF (.t (Tr.path 49)) 1 .sc))), none, [Tr.path 49]⟩,
        ⟨(some (Tr.path 51)), (some (.p (faddrF (.t (Tr.path 5)) 2))), none, [Tr.path 5]⟩,
        ⟨(some (Tr.path 52)), (some (.r (loadF (.t (Tr.path 51)) 1 .sc))), none, [Tr.path 51]⟩,
        ⟨(some (Tr.path 53)), (some (.c (callF (.c (.func (.func 89) [] [])) [(.t (Tr.path 48)), (.t (Tr.path 50)), (.t (Tr.path 52))]))), none, [Tr.path 48, Tr.path 50, Tr.path 52]⟩,
        ⟨(some (Tr.path 47)), (some (.p (S.get (.t (Tr.path 53))))), none, [Tr.path 53]⟩,
        ⟨(some (Tr.path 54)), (some (.p (extF (.t (Tr.path 47)) 0))), none, [Tr.path 47]⟩,
        ⟨(some (Tr.path 55)), (some (.p (extF (.t (Tr.path 47)) 1))), none, [Tr.path 47]⟩,
        ⟨(some (Tr.path 9)), (some (.m (allocF 64 [.blk 0]))), none, []⟩,
        ⟨none, (some (.a (storeF (.t (Tr.path 9)) (.t (Tr.path 54)) 64))), none, [Tr.path 9, Tr.path 54]⟩,
        ⟨(some (Tr.path 10)), (some (.p (S.get (.t (Tr.path 55))))), none, [Tr.path 55]⟩]) (
       .seq (.reg [
        ⟨(some (Tr.path 56)), (some (.r (loadF (.t (Tr.path 7)) 64 .bk))), none, [Tr.path 7]⟩,
        ⟨(some (Tr.path 57)), (some (.r (loadF (.t (Tr.path 9)) 64 .bk))), none, [Tr.path 9]⟩,
        ⟨(some (Tr.path 58)), (some (.p (eqcF false true [.blk] (.t (Tr.path 56)) (.t (Tr.path 57))))), none, [Tr.path 56, Tr.path 57]⟩,
        ⟨(some (Tr.path 59)), (some (.p (S.get (.t (Tr.path 58))))), none, [Tr.path 58]⟩,
        ⟨(some (Tr.path 60)), (some (.p (S.get (.t (Tr.path 8))))), (some (some (Tr.path 59), true)), [Tr.path 8]⟩,
        ⟨(some (Tr.path 61)), (some (.p (S.get (.t (Tr.path 10))))), (some (some (Tr.path 59), true)), [Tr.path 10]⟩,
        ⟨(some (Tr.path 62)), (some (.p (eqcF false false [.int .i64] (.t (Tr.path 60)) (.t (Tr.path 61))))), (some (some (Tr.path 59), true)), [Tr.path 60, Tr.path 61]⟩,
        ⟨(some (Tr.path 63)), (some (.p (pickF (.t (Tr.path 59)) (.t (Tr.path 62)) (.c (.bool false))))), none, [Tr.path 59, Tr.path 62]⟩,
        ⟨(some (Tr.path 6)), (some (.p (S.get (.t (Tr.path 63))))), none, [Tr.path 63]⟩]) (
       .ret)))) (.seq (.reg [
        ⟨(some (Tr.path 65)), (some (.p (eqcF false false [.int .i64] (.t (Tr.path 16)) (.c (.int .i64 2))))), none, [Tr.path 16]⟩,
        ⟨(some (Tr.path 64)), (some (.p (S.get (.t (Tr.path 65))))), none, [Tr.path 65]⟩]) (
       .cond (.t (Tr.path 64)) (.seq (.regD [
          ⟨(some (Tr.path 66)), (some (.p (S.get (.t (Tr.path 0))))), none, [Tr.path 0]⟩,
          ⟨(some (Tr.path 67)), (some (.p (faddrF (.t (Tr.path 5)) 1))), none, [Tr.path 5]⟩,
          ⟨(some (Tr.path 68)), (some (.r (loadF (.t (Tr.path 67)) 1 .sc))), none, [Tr.path 67]⟩,
          ⟨(some (Tr.path 69)), (some (.c (callF (.c (.func (.func 32) [] [])) [(.t (Tr.path 66)), (.t (Tr.path 68))]))), none, [Tr.path 66, Tr.path 68]⟩,
          ⟨(some (Tr.path 70)), (some (.p (S.get (.t (Tr.path 1))))), none, [Tr.path 1]⟩,
          ⟨(some (Tr.path 71)), (some (.p (faddrF (.t (Tr.path 5)) 1))), none, [Tr.path 5]⟩,
          ⟨(some (Tr.path 72)), (some (.r (loadF (.t (Tr.path 71)) 1 .sc))), none, [Tr.path 71]⟩,
          ⟨(some (Tr.path 73)), (some (.c (callF (.c (.func (.func 90) [] [])) [(.t (Tr.path 70)), (.t (Tr.path 72))]))), none, [Tr.path 70, Tr.path 72]⟩,
          ⟨(some (Tr.path 74)), (some (.p (eqcF false false [.int .i64] (.t (Tr.path 69)) (.t (Tr.path 73))))), none, [Tr.path 69, Tr.path 73]⟩,
          ⟨(some (Tr.path 6)), (some (.p (S.get (.t (Tr.path 74))))), none, [Tr.path 74]⟩] [0, 0, 2, 7, 0, 0, 32, 127, 255, 511]) (
         .ret)) (.seq (.reg [
          ⟨(some (Tr.path 76)), (some (.p (eqcF false false [.int .i64] (.t (Tr.path 16)) (.c (.int .i64 3))))), none, [Tr.path 16]⟩,
          ⟨(some (Tr.path 75)), (some (.p (S.get (.t (Tr.path 76))))), none, [Tr.path 76]⟩]) (
         .cond (.t (Tr.path 75)) (.seq (.regD [
            ⟨(some (Tr.path 77)), (some (.p (S.get (.t (Tr.path 0))))), none, [Tr.path 0]⟩,
            ⟨(some (Tr.path 78)), (some (.p (faddrF (.t (Tr.path 5)) 1))), none, [Tr.path 5]⟩,
            ⟨(some (Tr.path 79)), (some (.r (loadF (.t (Tr.path 78)) 1 .sc))), none, [Tr.path 78]⟩,
            ⟨(some (Tr.path 80)), (some (.c (callF (.c (.func (.func 38) [] [])) [(.t (Tr.path 77)), (.t (Tr.path 79))]))), none, [Tr.path 77, Tr.path 79]⟩,
            ⟨(some (Tr.path 81)), (some (.p (S.get (.t (Tr.path 1))))), none, [Tr.path 1]⟩,
            ⟨(some (Tr.path 82)), (some (.p (faddrF (.t (Tr.path 5)) 1))), none, [Tr.path 5]⟩,
            ⟨(some (Tr.path 83)), (some (.r (loadF (.t (Tr.path 82)) 1 .sc))), none, [Tr.path 82]⟩,
            ⟨(some (Tr.path 84)), (some (.c (callF (.c (.func (.func 91) [] [])) [(.t (Tr.path 81)), (.t (Tr.path 83))]))), none, [Tr.path 81, Tr.path 83]⟩,
            ⟨(some (Tr.path 85)), (some (.p (eqcF false false [.int .i64] (.t (Tr.path 80)) (.t (Tr.path 84))))), none, [Tr.path 80, Tr.path 84]⟩,
            ⟨(some (Tr.path 6)), (some (.p (S.get (.t (Tr.path 85))))), none, [Tr.path 85]⟩] [0, 0, 2, 7, 0, 0, 32, 127, 255, 511]) (
           .ret)) (.seq (.reg [
            ⟨(some (Tr.path 87)), (some (.p (eqcF false false [.int .i64] (.t (Tr.path 16)) (.c (.int .i64 4))))), none, [Tr.path 16]⟩,
            ⟨(some (Tr.path 86)), (some (.p (S.get (.t (Tr.path 87))))), none, [Tr.path 87]⟩]) (
           .cond (.t (Tr.path 86)) (.seq (.regD [
              ⟨(some (Tr.path 88)), (some (.p (S.get (.t (Tr.path 0))))), none, [Tr.path 0]⟩,
              ⟨(some (Tr.path 89)), (some (.p (faddrF (.t (Tr.path 5)) 1))), none, [Tr.path 5]⟩,
              ⟨(some (Tr.path 90)), (some (.r (loadF (.t (Tr.path 89)) 1 .sc))), none, [Tr.path 89]⟩,
              ⟨(some (Tr.path 91)), (some (.c (callF (.c (.func (.func 37) [] [])) [(.t (Tr.path 88)), (.t (Tr.path 90))]))), none, [Tr.path 88, Tr.path 90]⟩,
              ⟨(some (Tr.path 92)), (some (.p (S.get (.t (Tr.path 1))))), none, [Tr.path 1]⟩,
              ⟨(some (Tr.path 93)), (some (.p (faddrF (.t (Tr.path 5)) 1))), none, [Tr.path 5]⟩,
              ⟨(some (Tr.path 94)), (some (.r (loadF (.t (Tr.path 93)) 1 .sc))), none, [Tr.path 93]⟩,
              ⟨(some (Tr.path 95)), (some (.c (callF (.c (.func (.func 92) [] [])) [(.t (Tr.path 92)), (.t (Tr.path 94))]))), none, [Tr.path 92, Tr.path 94]⟩,
              ⟨(some (Tr.path 96)), (some (.p (eqcF false false [.int .i64] (.t (Tr.path 91)) (.t (Tr.path 95))))), none, [Tr.path 91, Tr.path 95]⟩,
              ⟨(some (Tr.path 6)), (some (.p (S.get (.t (Tr.path 96))))), none, [Tr.path 96]⟩] [0, 0, 2, 7, 0, 0, 32, 127, 255, 511]) (
             .ret)) (.seq (.reg [
              ⟨(some (Tr.path 98)), (some (.p (eqcF false false [.int .i64] (.t (Tr.path 16)) (.c (.int .i64 5))))), none, [Tr.path 16]⟩,
              ⟨(some (Tr.path 97)), (some (.p (S.get (.t (Tr.path 98))))), none, [Tr.path 98]⟩]) (
             .cond (.t (Tr.path 97)) (.seq (.regD [
                ⟨(some (Tr.path 99)), (some (.p (S.get (.t (Tr.path 0))))), none, [Tr.path 0]⟩,
                ⟨(some (Tr.path 100)), (some (.p (faddrF (.t (Tr.path 5)) 2))), none, [Tr.path 5]⟩,
                ⟨(some (Tr.path 101)), (some (.r (loadF (.t (Tr.path 100)) 1 .sc))), none, [Tr.path 100]⟩,
                ⟨(some (Tr.path 102)), (some (.c (callF (.c (.func (.func 31) [] [])) [(.t (Tr.path 99)), (.t (Tr.path 101))]))), none, [Tr.path 99, Tr.path 101]⟩,
                ⟨(some (Tr.path 103)), (some (.p (S.get (.t (Tr.path 1))))), none, [Tr.path 1]⟩,
                ⟨(some (Tr.path 104)), (some (.p (faddrF (.t (Tr.path 5)) 2))), none, [Tr.path 5]⟩,
                ⟨(some (Tr.path 105)), (some (.r (loadF (.t (Tr.path 104)) 1 .sc))), none, [Tr.path 104]⟩,
                ⟨(some (Tr.path 106)), (some (.c (callF (.c (.func (.func 93) [] [])) [(.t (Tr.path 103)), (.t (Tr.path 105))]))), none, [Tr.path 103, Tr.path 105]⟩,
                ⟨(some (Tr.path 107)), (some (.p (eqcF false false [.int .i64] (.t (Tr.path 102)) (.t (Tr.path 106))))), none, [Tr.path 102, Tr.path 106]⟩,
                ⟨(some (Tr.path 6)), (some (.p (S.get (.t (Tr.path 107))))), none, [Tr.path 107]⟩] [0, 0, 2, 7, 0, 0, 32, 127, 255, 511]) (
               .ret)) (.seq (.reg [
                ⟨(some (Tr.path 109)), (some (.p (eqcF false false [.int .i64] (.t (Tr.path 16)) (.c (.int .i64 6))))), none, [Tr.path 16]⟩,
                ⟨(some (Tr.path 108)), (some (.p (S.get (.t (Tr.path 109))))), none, [Tr.path 109]⟩]) (
               .cond (.t (Tr.path 108)) (.seq (.regD [
                  ⟨(some (Tr.path 110)), (some (.p (S.get (.t (Tr.path 0))))), none, [Tr.path 0]⟩,
                  ⟨(some (Tr.path 111)), (some (.p (faddrF (.t (Tr.path 5)) 69))), none, [Tr.path 5]⟩,
                  ⟨(some (Tr.path 112)), (some (.r (loadF (.t (Tr.path 111)) 1 .sc))), none, [Tr.path 111]⟩,
                  ⟨(some (Tr.path 113)), (some (.c (callF (.c (.func (.func 44) [] [])) [(.t (Tr.path 110)), (.t (Tr.path 112))]))), none, [Tr.path 110, Tr.path 112]⟩,
                  ⟨(some (Tr.path 114)), (some (.p (S.get (.t (Tr.path 1))))), none, [Tr.path 1]⟩,
                  ⟨(some (Tr.path 115)), (some (.p (faddrF (.t (Tr.path 5)) 69))), none, [Tr.path 5]⟩,
                  ⟨(some (Tr.path 116)), (some (.r (loadF (.t (Tr.path 115)) 1 .sc))), none, [Tr.path 115]⟩,
                  ⟨(some (Tr.path 117)), (some (.c (callF (.c (.func (.func 94) [] [])) [(.t (Tr.path 114)), (.t (Tr.path 116))]))), none, [Tr.path 114, Tr.path 116]⟩,
                  ⟨(some (Tr.path 118)), (some (.p (eqcF false false [.int .i64] (.t (Tr.path 113)) (.t (Tr.path 117))))), none, [Tr.path 113, Tr.path 117]⟩,
                  ⟨(some (Tr.path 6)), (some (.p (S.get (.t (Tr.path 118))))), none, [Tr.path 118]⟩] [0, 0, 2, 7, 0, 0, 32, 127, 255, 511]) (
                 .ret)) (.seq (.reg [
                  ⟨(some (Tr.path 120)), (some (.p (eqcF false false [.int .i64] (.t (Tr.path 16)) (.c (.int .i64 7))))), none, [Tr.path 16]⟩,
                  ⟨(some (Tr.path 119)), (some (.p (S.get (.t (Tr.path 120))))), none, [Tr.path 120]⟩]) (
                 .cond (.t (Tr.path 119)) (.seq (.reg [
                    ⟨(some (Tr.path 122)), (some (.p (S.get (.t (Tr.path 0))))), none, [Tr.path 0]⟩,
                    ⟨(some (Tr.path 123)), (some (.p (faddrF (.t (Tr.path 5)) 1))), none, [Tr.path 5]⟩,
                    ⟨(some (Tr.path 124)), (some (.r (loadF (.t (Tr.path 123)) 1 .sc))), none, [Tr.path 123]⟩,
                    ⟨(some (Tr.path 125)), (some (.p (faddrF (.t (Tr.path 5)) 2))), none, [Tr.path 5]⟩,
                    ⟨(some (Tr.path 126)), (some (.r (loadF (.t (Tr.path 125)) 1 .sc))), none, [Tr.path 125]⟩,
                    ⟨(some (Tr.path 127)), (some (.c (callF (.c (.func (.func 95) [] [])) [(.t (Tr.path 122)), (.t (Tr.path 124)), (.t (Tr.path 126))]))), none, [Tr.path 122, Tr.path 124, Tr.path 126]⟩,
                    ⟨(some (Tr.path 121)), (some (.p (S.get (.t (Tr.path 127))))), none, [Tr.path 127]⟩,
                    ⟨(some (Tr.path 128)), (some (.p (extF (.t (Tr.path 121)) 0))), none, [Tr.path 121]⟩,
                    ⟨(some (Tr.path 129)), (some (.p (extF (.t (Tr.path 121)) 1))), none, [Tr.path 121]⟩,
                    ⟨(some (Tr.path 11)), (some (.m (allocF 64 [.blk 0]))), none, []⟩,
                    ⟨none, (some (.a (storeF (.t (Tr.path 11)) (.t (Tr.path 128)) 64))), none, [Tr.path 11, Tr.path 128]⟩,
                    ⟨(some (Tr.path 12)), (some (.p (S.get (.t (Tr.path 129))))), none, [Tr.path 129]⟩]) (
                   .seq (.reg [
                    ⟨(some (Tr.path 131)), (some (.p (S.get (.t (Tr.path 1))))), none, [Tr.path 1]⟩,
                    ⟨(some (Tr.path 132)), (some (.p (faddrF (.t (Tr.path 5)) 1))), none, [Tr.path 5]⟩,
                    ⟨(some (Tr.path 133)), (some (.r (loadF (.t (Tr.path 132)) 1 .sc))), none, [Tr.path 132]⟩,
                    ⟨(some (Tr.path 134)), (some (.p (faddrF (.t (Tr.path 5)) 2))), none, [Tr.path 5]⟩,
                    ⟨(some (Tr.path 135)), (some (.r (loadF (.t (Tr.path 134)) 1 .sc))), none, [Tr.path 134]⟩,
                    ⟨(some (Tr.path 136)), (some (.c (callF (.c (.func (.func 96) [] [])) [(.t (Tr.path 131)), (.t (Tr.path 133)), (.t (Tr.path 135))]))), none, [Tr.path 131, Tr.path 133, Tr.path 135]⟩,
                    ⟨(some (Tr.path 130)), (some (.p (S.get (.t (Tr.path 136))))), none, [Tr.path 136]⟩,
                    ⟨(some (Tr.path 137)), (some (.p (extF (.t (Tr.path 130)) 0))), none, [Tr.path 130]⟩,
                    ⟨(some (Tr.path 138)), (some (.p (extF (.t (Tr.path 130)) 1))), none, [Tr.path 130]⟩,
                    ⟨(some (Tr.path 13)), (some (.m (allocF 64 [.blk 0]))), none, []⟩,
                    ⟨none, (some (.a (storeF (.t (Tr.path 13)) (.t (Tr.path 137)) 64))), none, [Tr.path 13, Tr.path 137]⟩,
                    ⟨(some (Tr.path 14)), (some (.p (S.get (.t (Tr.path 138))))), none, [Tr.path 138]⟩]) (
                   .seq (.reg [
                    ⟨(some (Tr.path 139)), (some (.r (loadF (.t (Tr.path 11)) 64 .bk))), none, [Tr.path 11]⟩,
                    ⟨(some (Tr.path 140)), (some (.r (loadF (.t (Tr.path 13)) 64 .bk))), none, [Tr.path 13]⟩,
                    ⟨(some (Tr.path 141)), (some (.p (eqcF false true [.blk] (.t (Tr.path 139)) (.t (Tr.path 140))))), none, [Tr.path 139, Tr.path 140]⟩,
                    ⟨(some (Tr.path 142)), (some (.p (S.get (.t (Tr.path 141))))), none, [Tr.path 141]⟩,
                    ⟨(some (Tr.path 143)), (some (.p (S.get (.t (Tr.path 12))))), (some (some (Tr.path 142), true)), [Tr.path 12]⟩,
                    ⟨(some (Tr.path 144)), (some (.p (S.get (.t (Tr.path 14))))), (some (some (Tr.path 142), true)), [Tr.path 14]⟩,
                    ⟨(some (Tr.path 145)), (some (.p (eqcF false false [.int .i64] (.t (Tr.path 143)) (.t (Tr.path 144))))), (some (some (Tr.path 142), true)), [Tr.path 143, Tr.path 144]⟩,
                    ⟨(some (Tr.path 146)), (some (.p (pickF (.t (Tr.path 142)) (.t (Tr.path 145)) (.c (.bool false))))), none, [Tr.path 142, Tr.path 145]⟩,
                    ⟨(some (Tr.path 6)), (some (.p (S.get (.t (Tr.path 146))))), none, [Tr.path 146]⟩]) (
                   .ret)))) (.skip))))))))))))))))))) (
 .seq (.regD [
  ⟨(some (Tr.path 147)), (some (.p (S.get (.t (Tr.path 0))))), none, [Tr.path 0]⟩,
  ⟨(some (Tr.path 148)), (some (.p (faddrF (.t (Tr.path 5)) 1))), none, [Tr.path 5]⟩,
  ⟨(some (Tr.path 149)), (some (.r (loadF (.t (Tr.path 148)) 1 .sc))), none, [Tr.path 148]⟩,
  ⟨(some (Tr.path 150)), (some (.p (faddrF (.t (Tr.path 5)) 2))), none, [Tr.path 5]⟩,
  ⟨(some (Tr.path 151)), (some (.r (loadF (.t (Tr.path 150)) 1 .sc))), none, [Tr.path 150]⟩,
  ⟨(some (Tr.path 152)), (some (.p (faddrF (.t (Tr.path 5)) 3))), none, [Tr.path 5]⟩,
  ⟨(some (Tr.path 153)), (some (.r (loadF (.t (Tr.path 152)) 1 .sc))), none, [Tr.path 152]⟩,
  ⟨(some (Tr.path 154)), (some (.p (faddrF (.t (Tr.path 5)) 4))), none, [Tr.path 5]⟩,
  ⟨(some (Tr.path 155)), (some (.r (loadF (.t (Tr.path 154)) 1 .sc))), none, [Tr.path 154]⟩,
  ⟨(some (Tr.path 156)), (some (.c (callF (.c (.func (.func 43) [] [])) [(.t (Tr.path 147)), (.t (Tr.path 149)), (.t (Tr.path 151)), (.t (Tr.path 153)), (.t (Tr.path 155))]))), none, [Tr.path 147, Tr.path 149, Tr.path 151, Tr.path 153, Tr.path 155]⟩,
  ⟨(some (Tr.path 157)), (some (.p (S.get (.t (Tr.path 1))))), none, [Tr.path 1]⟩,
  ⟨(some (Tr.path 158)), (some (.p (faddrF (.t (Tr.path 5)) 1))), none, [Tr.path 5]⟩,
  ⟨(some (Tr.path 159)), (some (.r (loadF (.t (Tr.path 158)) 1 .sc))), none, [Tr.path 158]⟩,
  ⟨(some (Tr.path 160)), (some (.p (faddrF (.t (Tr.path 5)) 2))), none, [Tr.path 5]⟩,
  ⟨(some (Tr.path 161)), (some (.r (loadF (.t (Tr.path 160)) 1 .sc))), none, [Tr.path 160]⟩,
  ⟨(some (Tr.path 162)), (some (.p (faddrF (.t (Tr.path 5)) 3))), none, [Tr.path 5]⟩,
  ⟨(some (Tr.path 163)), (some (.r (loadF (.t (Tr.path 162)) 1 .sc))), none, [Tr.path 162]⟩,
  ⟨(some (Tr.path 164)), (some (.p (faddrF (.t (Tr.path 5)) 4))), none, [Tr.path 5]⟩,
  ⟨(some (Tr.path 165)), (some (.r (loadF (.t (Tr.path 164)) 1 .sc))), none, [Tr.path 164]⟩,
  ⟨(some (Tr.path 166)), (some (.c (callF (.c (.func (.func 97) [] [])) [(.t (Tr.path 157)), (.t (Tr.path 159)), (.t (Tr.path 161)), (.t (Tr.path 163)), (.t (Tr.path 165))]))), none, [Tr.path 157, Tr.path 159, Tr.path 161, Tr.path 163, Tr.path 165]⟩,
  ⟨(some (Tr.path 167)), (some (.p (eqcF false false [.int .i64] (.t (Tr.path 156)) (.t (Tr.path 166))))), none, [Tr.path 156, Tr.path 166]⟩,
  ⟨(some (Tr.path 6)), (some (.p (S.get (.t (Tr.path 167))))), none, [Tr.path 167]⟩] [0, 0, 2, 0, 8, 0, 32, 0, 128, 511, 0, 0, 2048, 0, 8192, 0, 32768, 0, 131072, 524287, 1048575, 2097151]) (
 .ret)))⟩
theorem c47_eq : fnOf Try.prog 47 = some c47 := by kernel_rfl


structure Duo (H0 H : Heap) (b ds : Bk) (l : List Dv) (c es : Bk) (k : List Dv) (B : Bn) : Prop where
  m : Mine false H0 H b ds 1 l B
  r : Mine true H0 H c es 1 k B
  dis : ∀ x, BFoot b ds l x → ¬ BFoot c es k x
  pos : 0 < B.l.length

theorem Duo.ne {H0 H : Heap} {b ds c es : Bk} {l k : List Dv} {B : Bn} (h : Duo H0 H b ds l c es k B) : l ≠ [] := h.m.ne h.pos
theorem Duo.turns {H0 H H' : Heap} {b ds c es : Bk} {l k : List Dv} {B : Bn} (h : Duo H0 H b ds l c es k B) (t : Turns Z H H') : Duo H0 H' b ds l c es k B := ⟨h.m.turns t, h.r.turns t, h.dis, h.pos⟩
theorem Duo.r1 {H0 H H1 : Heap} {b ds c es : Bk} {l l' k : List Dv} {B B' : Bn} (h : Duo H0 H b ds l c es k B) (n : BNext H b ds 1 l H1 l' B') : Mine true H0 H1 c es 1 k B := h.r.turnsX n.turns (fun x hx hb => h.dis x hb hx) (fun x hx => h.m.new x hx)
theorem Duo.step {H0 H H1 H2 H3 : Heap} {b ds c es : Bk} {l l' k k' : List Dv} {B B' : Bn} (h : Duo H0 H b ds l c es k B) (n : BNext H b ds 1 l H1 l' B') (t : Turns Z H1 H2) (e : RNext true H2 c es 1 k H3 k' B') (hp : B'.l.length = B.l.length) : Duo H0 H3 b ds l' c es k' B' := by
  have m1 := (h.m.next n).turns t
  have d1 : ∀ x, BFoot b ds l' x → ¬ BFoot c es k x := fun x hx hc => by
    rcases n.foot x hx with hx | hx
    · exact h.dis x hx hc
    · exact hx (h.r.rep.foot_old x hc)
  have r2 := (h.r1 n).turns t
  refine ⟨m1.turnsX e.turns (fun x hx hc => d1 x hx hc) (fun x hx => r2.new x hx), r2.next e, fun x hx hc => ?_, ?_⟩
  · rcases e.foot x hc with hc | hc
    · exact d1 x hx hc
    · exact hc (m1.rep.foot_old x hx)
  · rw [hp]; exact h.pos

theorem bboth {H0 H : Heap} {b ds c es : Bk} {l k : List Dv} {B : Bn} (h : Duo H0 H b ds l c es k B) {j : Nat} (ok : Bok j B) (hj : j ≤ 60) (h17 : B.l.length ≤ 17) (a : BAct) (oka : a.ok H0) {lf : Nat} (hlf : 1000 < lf) (m : Nat) :
    ret (callS Try.prog S0 lf (m + 7) 47 [.ptr (some ⟨b, 0⟩), .ptr (some ⟨c, 0⟩), .agg [.int .i64 a.o, .int .i64 a.d, .int .i64 a.n, .int .i64 a.j, .int .u8 (a.x : Int), .blk a.B, .slice a.pp a.P.length a.pc 0]] H) fun v H' => v = .bool true ∧ ∃ l' k' B', Duo H0 H' b ds l' c es k' B' ∧ Bok (j + 1) B' ∧ B'.l.length = B.l.length := by
  have tA := Turns.add Z H (.rows false 70 [[.int .i64 a.o, .int .i64 a.d, .int .i64 a.n, .int .i64 a.j, .int .u8 (a.x : Int), .blk a.B, .slice a.pp a.P.length a.pc 0]])
  have gA : (H.add (.rows false 70 [[.int .i64 a.o, .int .i64 a.d, .int .i64 a.n, .int .i64 a.j, .int .u8 (a.x : Int), .blk a.B, .slice a.pp a.P.length a.pc 0]])).get (.run H.next) = some (.rows false 70 [a.row]) := by rw [Heap.get_add, if_pos rfl]; rfl
  have oA : (H.add (.rows false 70 [[.int .i64 a.o, .int .i64 a.d, .int .i64 a.n, .int .i64 a.j, .int .u8 (a.x : Int), .blk a.B, .slice a.pp a.P.length a.pc 0]])).Old (.run H.next) := by show _ < _; simp
  have hA := h.turns tA
  have nA : ∀ x, BFoot b ds l x → x ≠ .run H.next := fun x hx e => Heap.not_old (Nat.le_refl _) (by rw [← e]; exact h.m.rep.foot_old x hx)
  obtain ⟨a0, a1, a2, a3, a4, a5, a6⟩ := bact_loads gA
  generalize hHA : H.add (.rows false 70 [[.int .i64 a.o, .int .i64 a.d, .int .i64 a.n, .int .i64 a.j, .int .u8 (a.x : Int), .blk a.B, .slice a.pp a.P.length a.pc 0]]) = HA at tA gA oA hA a0 a1 a2 a3 a4 a5 a6
  have gg := ok.good (by omega)
  have hst : 0 ≤ B.st ∧ B.st ≤ 100000 := by have := ok.st; omega
  have hA17 : l.length ≤ 17 := by rw [h.m.rep.len]; exact h17
  have hA17' : k.length ≤ 17 := by rw [h.r.rep.len]; exact h17
  refine ret_call rfl c47_eq ?_
  simp only [c47, Aa, Ab, Ad, Ae, Af, Ag, Ah, Ai, Aj, Ak, Al, Ao, Ap, Aq, Ar, Au, sO_p, sO_r, sO_m, sO_a, sO_c, Av, Aw, Ax, Ay, Az, sE_p, sE_r, sE_m, sE_a, sE_c, A0, A2, A3, A4, A5, A6, A7, A8, A9, Ba, Bb, Bc, Bd, Be, Bf, Bg, Bh, Bi, Bj, Bl, Bm, Bo, Bp, Bq, Br, Bs, Bt, Bu, Bv, Tr.getP_e, Bw, Bx, ↓reduceIte, Nat.reduceEqDiff, Nat.reduceAdd, Nat.reduceSub, Nat.reduceMul, Nat.reduceDiv, Nat.reduceMod, Nat.zero_add, Nat.add_zero, beq_self_eq_true, Nat.zero_ne_one, Nat.one_ne_zero, Nat.reduceLeDiff, Int.reduceBEq, constF, unF, unary,  pickF, nilcF, faddrF, fldF, iaddrSF, arF, Bz, B3, B4, B5, B6, B7, convF, extF, lenF, eqcF, eqnF, eqN, eqPtr, isNone, loadF, storeF, allocF, callF, gets, Option.map_some, Option.bind_some, B8, B9, Ca, Cb, Cc, nbeq, nble, Cd, Ce, Cf, Cg, Ch, Ci, Cj, Ck, Cl, Cm, Cn, Co, Cp, Cq, Cr, Cs, Ct, Cu, Cv, Cw, Cx, V.w, width, unc, cmpCells, Cy, Cz, C6, C7, C8, Da, undef, List.append_nil, List.nil_append, List.cons_append, Db, Dc, resultsV, result, tup, Dd, Bool.and_true, Bool.true_and, Bool.and_self, decide_true, decide_false, Bool.not_true, Bool.not_false, Bool.true_beq, Bool.false_beq, beq_iff_eq, reduceCtorEq, Nat.succ_eq_add_one, ptr0, Int.ofNat_eq_natCast, Int.ofNat_le, Int.ofNat_lt, Int.natCast_add, De, Df, Dg, Dh, Di, List.map_cons, List.map_nil, Dj, Heap.next_add, Heap.next_set, boxF, buildF, fill, bsliceF, fillRows, List.replicate_one, Dk, Dl, Dm, Dn, Dp, Dq, Dr, Ds, Dt, Du, Dw, Dx, Dy, Dz, D2, D3, D4, D5, D6, D7, D8, D9, Ea, Eb, Ec, appF, List.length_cons, List.length_nil]
  rw [hHA]
  by_cases h0 : a.o = 0
  · have z0 : (a.o == 0) = true := by simp [h0]
    obtain ⟨v, K1, e1, rfl, l', n1⟩ := bwrite_all hA.m.rep hA.ne gg ok.ar hst a.d a.n a.B hlf m
    change callS Try.prog S0 lf (m + 6) 33 _ _ = _ at e1
    obtain ⟨b0, b1, b2, b3, b4, b5, b6⟩ := bact_loads ((n1.turns.same _ oA (fun hc => nA _ hc rfl)).trans gA)
    have r1 := hA.r1 n1
    obtain ⟨v, K2, e2, rfl, k', n2⟩ := rbwrite r1.rep gg ok.ar hst a.d a.n a.B hlf (m + 3)
    change callS Try.prog S0 lf (m + 6) 88 _ _ = _ at e2
    obtain ⟨q, hqd⟩ : ∃ q : List (Option V × Option V), q = [(loadF (.t (Tr.path 28)) 1 .sc (Tr.setP (Tr.path 28) (.ptr (some ⟨.run H.next, 1⟩)) .e) HA, some (.int .i64 a.d)),
      (loadF (.t (Tr.path 28)) 1 .sc (Tr.setP (Tr.path 28) (.ptr (some ⟨.run H.next, 1⟩)) .e) K1, some (.int .i64 a.d)),
      (loadF (.t (Tr.path 30)) 1 .sc (Tr.setP (Tr.path 30) (.ptr (some ⟨.run H.next, 2⟩)) .e) HA, some (.int .i64 a.n)),
      (loadF (.t (Tr.path 30)) 1 .sc (Tr.setP (Tr.path 30) (.ptr (some ⟨.run H.next, 2⟩)) .e) K1, some (.int .i64 a.n)),
      (loadF (.t (Tr.path 32)) 64 .bk (Tr.setP (Tr.path 32) (.ptr (some ⟨.run H.next, 5⟩)) .e) HA, some (.blk a.B)),
      (loadF (.t (Tr.path 32)) 64 .bk (Tr.setP (Tr.path 32) (.ptr (some ⟨.run H.next, 5⟩)) .e) K1, some (.blk a.B))] := ⟨_, rfl⟩
    have hq : ∀ p ∈ q, p.1 = p.2 := by
      rw [hqd]
      intro p hp
      simp only [List.mem_cons, List.not_mem_nil, or_false] at hp
      rcases hp with rfl | rfl | rfl | rfl | rfl | rfl <;> simp only [a1, b1, a2, b2, a5, b5, Aa, Ab, Ad, Ae, Af, Ag, Ah, Ai, Aj, Ak, Al, Ao, Ap, Aq, Ar, Au, sO_p, sO_r, sO_m, sO_a, sO_c, Av, Aw, Ax, Ay, Az, sE_p, sE_r, sE_m, sE_a, sE_c, A0, A2, A3, A4, A5, A6, A7, A8, A9, Ba, Bb, Bc, Bd, Be, Bf, Bg, Bh, Bi, Bj, Bl, Bm, Bo, Bp, Bq, Br, Bs, Bt, Bu, Bv, Tr.getP_e, Bw, Bx, ↓reduceIte, Nat.reduceEqDiff, Nat.reduceAdd, Nat.reduceSub, Nat.reduceMul, Nat.reduceDiv, Nat.reduceMod, Nat.zero_add, Nat.add_zero, beq_self_eq_true, Nat.zero_ne_one, Nat.one_ne_zero, Nat.reduceLeDiff, Int.reduceBEq, constF, unF, unary,  pickF, nilcF, faddrF, fldF, iaddrSF, arF, Bz, B3, B4, B5, B6, B7, convF, extF, lenF, eqcF, eqnF, eqN, eqPtr, isNone, loadF, storeF, allocF, callF, gets, Option.map_some, Option.bind_some, B8, B9, Ca, Cb, Cc, nbeq, nble, Cd, Ce, Cf, Cg, Ch, Ci, Cj, Ck, Cl, Cm, Cn, Co, Cp, Cq, Cr, Cs, Ct, Cu, Cv, Cw, Cx, V.w, width, unc, cmpCells, Cy, Cz, C6, C7, C8, Da, undef, List.append_nil, List.nil_append, List.cons_append, Db, Dc, resultsV, result, tup, Dd, Bool.and_true, Bool.true_and, Bool.and_self, decide_true, decide_false, Bool.not_true, Bool.not_false, Bool.true_beq, Bool.false_beq, beq_iff_eq, reduceCtorEq, Nat.succ_eq_add_one, ptr0, Int.ofNat_eq_natCast, Int.ofNat_le, Int.ofNat_lt, Int.natCast_add, De, Df, Dg, Dh, Di, List.map_cons, List.map_nil, Dj, Heap.next_add, Heap.next_set, boxF, buildF, fill, bsliceF, fillRows, List.replicate_one, Dk, Dl, Dm, Dn, Dp, Dq, Dr, Ds, Dt, Du, Dw, Dx, Dy, Dz, D2, D3, D4, D5, D6, D7, D8, D9, Ea, Eb, Ec, appF, List.length_cons, List.length_nil]
    have tf := (Turns.refl Z K2).owe hq
    have hD := (hA.step n1 (Turns.refl Z K1) n2 (write_len _ _ _ _)).turns tf
    simp only [a0, z0, a1, a2, a5, b1, b2, b5, e1, e2, Aa, Ab, Ad, Ae, Af, Ag, Ah, Ai, Aj, Ak, Al, Ao, Ap, Aq, Ar, Au, sO_p, sO_r, sO_m, sO_a, sO_c, Av, Aw, Ax, Ay, Az, sE_p, sE_r, sE_m, sE_a, sE_c, A0, A2, A3, A4, A5, A6, A7, A8, A9, Ba, Bb, Bc, Bd, Be, Bf, Bg, Bh, Bi, Bj, Bl, Bm, Bo, Bp, Bq, Br, Bs, Bt, Bu, Bv, Tr.getP_e, Bw, Bx, ↓reduceIte, Nat.reduceEqDiff, Nat.reduceAdd, Nat.reduceSub, Nat.reduceMul, Nat.reduceDiv, Nat.reduceMod, Nat.zero_add, Nat.add_zero, beq_self_eq_true, Nat.zero_ne_one, Nat.one_ne_zero, Nat.reduceLeDiff, Int.reduceBEq, constF, unF, unary,  pickF, nilcF, faddrF, fldF, iaddrSF, arF, Bz, B3, B4, B5, B6, B7, convF, extF, lenF, eqcF, eqnF, eqN, eqPtr, isNone, loadF, storeF, allocF, callF, gets, Option.map_some, Option.bind_some, B8, B9, Ca, Cb, Cc, nbeq, nble, Cd, Ce, Cf, Cg, Ch, Ci, Cj, Ck, Cl, Cm, Cn, Co, Cp, Cq, Cr, Cs, Ct, Cu, Cv, Cw, Cx, V.w, width, unc, cmpCells, Cy, Cz, C6, C7, C8, Da, undef, List.append_nil, List.nil_append, List.cons_append, Db, Dc, resultsV, result, tup, Dd, Bool.and_true, Bool.true_and, Bool.and_self, decide_true, decide_false, Bool.not_true, Bool.not_false, Bool.true_beq, Bool.false_beq, beq_iff_eq, reduceCtorEq, Nat.succ_eq_add_one, ptr0, Int.ofNat_eq_natCast, Int.ofNat_le, Int.ofNat_lt, Int.natCast_add, De, Df, Dg, Dh, Di, List.map_cons, List.map_nil, Dj, Heap.next_add, Heap.next_set, boxF, buildF, fill, bsliceF, fillRows, List.replicate_one, Dk, Dl, Dm, Dn, Dp, Dq, Dr, Ds, Dt, Du, Dw, Dx, Dy, Dz, D2, D3, D4, D5, D6, D7, D8, D9, Ea, Eb, Ec, appF, List.length_cons, List.length_nil]
    rw [endD_q (q := q) (by kernel_rfl) (by rw [hqd]; kernel_rfl)]
    simp only [Aa, Ab, Ad, Ae, Af, Ag, Ah, Ai, Aj, Ak, Al, Ao, Ap, Aq, Ar, Au, sO_p, sO_r, sO_m, sO_a, sO_c, Av, Aw, Ax, Ay, Az, sE_p, sE_r, sE_m, sE_a, sE_c, A0, A2, A3, A4, A5, A6, A7, A8, A9, Ba, Bb, Bc, Bd, Be, Bf, Bg, Bh, Bi, Bj, Bl, Bm, Bo, Bp, Bq, Br, Bs, Bt, Bu, Bv, Tr.getP_e, Bw, Bx, ↓reduceIte, Nat.reduceEqDiff, Nat.reduceAdd, Nat.reduceSub, Nat.reduceMul, Nat.reduceDiv, Nat.reduceMod, Nat.zero_add, Nat.add_zero, beq_self_eq_true, Nat.zero_ne_one, Nat.one_ne_zero, Nat.reduceLeDiff, Int.reduceBEq, constF, unF, unary,  pickF, nilcF, faddrF, fldF, iaddrSF, arF, Bz, B3, B4, B5, B6, B7, convF, extF, lenF, eqcF, eqnF, eqN, eqPtr, isNone, loadF, storeF, allocF, callF, gets, Option.map_some, Option.bind_some, B8, B9, Ca, Cb, Cc, nbeq, nble, Cd, Ce, Cf, Cg, Ch, Ci, Cj, Ck, Cl, Cm, Cn, Co, Cp, Cq, Cr, Cs, Ct, Cu, Cv, Cw, Cx, V.w, width, unc, cmpCells, Cy, Cz, C6, C7, C8, Da, undef, List.append_nil, List.nil_append, List.cons_append, Db, Dc, resultsV, result, tup, Dd, Bool.and_true, Bool.true_and, Bool.and_self, decide_true, decide_false, Bool.not_true, Bool.not_false, Bool.true_beq, Bool.false_beq, beq_iff_eq, reduceCtorEq, Nat.succ_eq_add_one, ptr0, Int.ofNat_eq_natCast, Int.ofNat_le, Int.ofNat_lt, Int.natCast_add, De, Df, Dg, Dh, Di, List.map_cons, List.map_nil, Dj, Heap.next_add, Heap.next_set, boxF, buildF, fill, bsliceF, fillRows, List.replicate_one, Dk, Dl, Dm, Dn, Dp, Dq, Dr, Ds, Dt, Du, Dw, Dx, Dy, Dz, D2, D3, D4, D5, D6, D7, D8, D9, Ea, Eb, Ec, appF, List.length_cons, List.length_nil]
    exact ⟨trivial, .inr trivial, _, rfl, rfl, _, _, _, hD, ok.write _ _ _, write_len _ _ _ _⟩
  · have z0 : (a.o == 0) = false := by simp; exact h0
    by_cases h1 : a.o = 1
    · have z1 : (a.o == 1) = true := by simp [h1]
      obtain ⟨v, K1, e1, rfl, t1⟩ := bread_all hA.m.rep hA.ne gg a.d a.n hlf (m + 2)
      change callS Try.prog S0 lf (m + 6) 40 _ _ = _ at e1
      have t1' := t1.trans (cell_turns K1 (B.read a.d a.n))
      obtain ⟨b0, b1, b2, b3, b4, b5, b6⟩ := bact_loads ((t1'.same _ oA id).trans gA)
      have h1 := hA.turns t1'
      obtain ⟨v, K2, e2, rfl, t2⟩ := rbread h1.r.rep gg a.d a.n hlf (m + 3)
      change callS Try.prog S0 lf (m + 6) 89 _ _ = _ at e2
      have t2' := t2.trans (cell_turns K2 (B.read a.d a.n))
      have d1 := load_of ((t2'.same _ (cell_old K1 (B.read a.d a.n)) id).trans (cell_get K1 (B.read a.d a.n)))
      have d2 := load_of (cell_get K2 (B.read a.d a.n))
      have hD := h1.turns t2'
      simp only [a0, z0, z1, a1, a2, b1, b2, e1, e2, cell_fold, d1, d2, Aa, Ab, Ad, Ae, Af, Ag, Ah, Ai, Aj, Ak, Al, Ao, Ap, Aq, Ar, Au, sO_p, sO_r, sO_m, sO_a, sO_c, Av, Aw, Ax, Ay, Az, sE_p, sE_r, sE_m, sE_a, sE_c, A0, A2, A3, A4, A5, A6, A7, A8, A9, Ba, Bb, Bc, Bd, Be, Bf, Bg, Bh, Bi, Bj, Bl, Bm, Bo, Bp, Bq, Br, Bs, Bt, Bu, Bv, Tr.getP_e, Bw, Bx, ↓reduceIte, Nat.reduceEqDiff, Nat.reduceAdd, Nat.reduceSub, Nat.reduceMul, Nat.reduceDiv, Nat.reduceMod, Nat.zero_add, Nat.add_zero, beq_self_eq_true, Nat.zero_ne_one, Nat.one_ne_zero, Nat.reduceLeDiff, Int.reduceBEq, constF, unF, unary,  pickF, nilcF, faddrF, fldF, iaddrSF, arF, Bz, B3, B4, B5, B6, B7, convF, extF, lenF, eqcF, eqnF, eqN, eqPtr, isNone, loadF, storeF, allocF, callF, gets, Option.map_some, Option.bind_some, B8, B9, Ca, Cb, Cc, nbeq, nble, Cd, Ce, Cf, Cg, Ch, Ci, Cj, Ck, Cl, Cm, Cn, Co, Cp, Cq, Cr, Cs, Ct, Cu, Cv, Cw, Cx, V.w, width, unc, cmpCells, Cy, Cz, C6, C7, C8, Da, undef, List.append_nil, List.nil_append, List.cons_append, Db, Dc, resultsV, result, tup, Dd, Bool.and_true, Bool.true_and, Bool.and_self, decide_true, decide_false, Bool.not_true, Bool.not_false, Bool.true_beq, Bool.false_beq, beq_iff_eq, reduceCtorEq, Nat.succ_eq_add_one, ptr0, Int.ofNat_eq_natCast, Int.ofNat_le, Int.ofNat_lt, Int.natCast_add, De, Df, Dg, Dh, Di, List.map_cons, List.map_nil, Dj, Heap.next_add, Heap.next_set, boxF, buildF, fill, bsliceF, fillRows, List.replicate_one, Dk, Dl, Dm, Dn, Dp, Dq, Dr, Ds, Dt, Du, Dw, Dx, Dy, Dz, D2, D3, D4, D5, D6, D7, D8, D9, Ea, Eb, Ec, appF, List.length_cons, List.length_nil]
      exact ⟨trivial, .inr trivial, _, rfl, rfl, _, _, _, hD, ok.mono, rfl⟩
    · have z1 : (a.o == 1) = false := by simp; exact h1
      by_cases h2 : a.o = 2
      · have z2 : (a.o == 2) = true := by simp [h2]
        obtain ⟨v, K1, e1, rfl, l', n1⟩ := bflush_all hA.m.rep hA.ne gg ok.ar hst a.d hlf (m + 1)
        change callS Try.prog S0 lf (m + 6) 32 _ _ = _ at e1
        obtain ⟨b0, b1, b2, b3, b4, b5, b6⟩ := bact_loads ((n1.turns.same _ oA (fun hc => nA _ hc rfl)).trans gA)
        have r1 := hA.r1 n1
        obtain ⟨v, K2, e2, rfl, k', n2⟩ := rbflush r1.rep gg ok.ar hst a.d hlf (m + 3)
        change callS Try.prog S0 lf (m + 6) 90 _ _ = _ at e2
        obtain ⟨q, hqd⟩ : ∃ q : List (Option V × Option V), q = [(loadF (.t (Tr.path 71)) 1 .sc (Tr.setP (Tr.path 71) (.ptr (some ⟨.run H.next, 1⟩)) .e) HA, some (.int .i64 a.d)),
          (loadF (.t (Tr.path 71)) 1 .sc (Tr.setP (Tr.path 71) (.ptr (some ⟨.run H.next, 1⟩)) .e) K1, some (.int .i64 a.d))] := ⟨_, rfl⟩
        have hq : ∀ p ∈ q, p.1 = p.2 := by
          rw [hqd]
          intro p hp
          simp only [List.mem_cons, List.not_mem_nil, or_false] at hp
          rcases hp with rfl | rfl <;> simp only [a1, b1, Aa, Ab, Ad, Ae, Af, Ag, Ah, Ai, Aj, Ak, Al, Ao, Ap, Aq, Ar, Au, sO_p, sO_r, sO_m, sO_a, sO_c, Av, Aw, Ax, Ay, Az, sE_p, sE_r, sE_m, sE_a, sE_c, A0, A2, A3, A4, A5, A6, A7, A8, A9, Ba, Bb, Bc, Bd, Be, Bf, Bg, Bh, Bi, Bj, Bl, Bm, Bo, Bp, Bq, Br, Bs, Bt, Bu, Bv, Tr.getP_e, Bw, Bx, ↓reduceIte, Nat.reduceEqDiff, Nat.reduceAdd, Nat.reduceSub, Nat.reduceMul, Nat.reduceDiv, Nat.reduceMod, Nat.zero_add, Nat.add_zero, beq_self_eq_true, Nat.zero_ne_one, Nat.one_ne_zero, Nat.reduceLeDiff, Int.reduceBEq, constF, unF, unary,  pickF, nilcF, faddrF, fldF, iaddrSF, arF, Bz, B3, B4, B5, B6, B7, convF, extF, lenF, eqcF, eqnF, eqN, eqPtr, isNone, loadF, storeF, allocF, callF, gets, Option.map_some, Option.bind_some, B8, B9, Ca, Cb, Cc, nbeq, nble, Cd, Ce, Cf, Cg, Ch, Ci, Cj, Ck, Cl, Cm, Cn, Co, Cp, Cq, Cr, Cs, Ct, Cu, Cv, Cw, Cx, V.w, width, unc, cmpCells, Cy, Cz, C6, C7, C8, Da, undef, List.append_nil, List.nil_append, List.cons_append, Db, Dc, resultsV, result, tup, Dd, Bool.and_true, Bool.true_and, Bool.and_self, decide_true, decide_false, Bool.not_true, Bool.not_false, Bool.true_beq, Bool.false_beq, beq_iff_eq, reduceCtorEq, Nat.succ_eq_add_one, ptr0, Int.ofNat_eq_natCast, Int.ofNat_le, Int.ofNat_lt, Int.natCast_add, De, Df, Dg, Dh, Di, List.map_cons, List.map_nil, Dj, Heap.next_add, Heap.next_set, boxF, buildF, fill, bsliceF, fillRows, List.replicate_one, Dk, Dl, Dm, Dn, Dp, Dq, Dr, Ds, Dt, Du, Dw, Dx, Dy, Dz, D2, D3, D4, D5, D6, D7, D8, D9, Ea, Eb, Ec, appF, List.length_cons, List.length_nil]
        have tf := (Turns.refl Z K2).owe hq
        have hD := (hA.step n1 (Turns.refl Z K1) n2 (flush_len _ _)).turns tf
        simp only [a0, z0, z1, z2, a1, b1, e1, e2, Aa, Ab, Ad, Ae, Af, Ag, Ah, Ai, Aj, Ak, Al, Ao, Ap, Aq, Ar, Au, sO_p, sO_r, sO_m, sO_a, sO_c, Av, Aw, Ax, Ay, Az, sE_p, sE_r, sE_m, sE_a, sE_c, A0, A2, A3, A4, A5, A6, A7, A8, A9, Ba, Bb, Bc, Bd, Be, Bf, Bg, Bh, Bi, Bj, Bl, Bm, Bo, Bp, Bq, Br, Bs, Bt, Bu, Bv, Tr.getP_e, Bw, Bx, ↓reduceIte, Nat.reduceEqDiff, Nat.reduceAdd, Nat.reduceSub, Nat.reduceMul, Nat.reduceDiv, Nat.reduceMod, Nat.zero_add, Nat.add_zero, beq_self_eq_true, Nat.zero_ne_one, Nat.one_ne_zero, Nat.reduceLeDiff, Int.reduceBEq, constF, unF, unary,  pickF, nilcF, faddrF, fldF, iaddrSF, arF, Bz, B3, B4, B5, B6, B7, convF, extF, lenF, eqcF, eqnF, eqN, eqPtr, isNone, loadF, storeF, allocF, callF, gets, Option.map_some, Option.bind_some, B8, B9, Ca, Cb, Cc, nbeq, nble, Cd, Ce, Cf, Cg, Ch, Ci, Cj, Ck, Cl, Cm, Cn, Co, Cp, Cq, Cr, Cs, Ct, Cu, Cv, Cw, Cx, V.w, width, unc, cmpCells, Cy, Cz, C6, C7, C8, Da, undef, List.append_nil, List.nil_append, List.cons_append, Db, Dc, resultsV, result, tup, Dd, Bool.and_true, Bool.true_and, Bool.and_self, decide_true, decide_false, Bool.not_true, Bool.not_false, Bool.true_beq, Bool.false_beq, beq_iff_eq, reduceCtorEq, Nat.succ_eq_add_one, ptr0, Int.ofNat_eq_natCast, Int.ofNat_le, Int.ofNat_lt, Int.natCast_add, De, Df, Dg, Dh, Di, List.map_cons, List.map_nil, Dj, Heap.next_add, Heap.next_set, boxF, buildF, fill, bsliceF, fillRows, List.replicate_one, Dk, Dl, Dm, Dn, Dp, Dq, Dr, Ds, Dt, Du, Dw, Dx, Dy, Dz, D2, D3, D4, D5, D6, D7, D8, D9, Ea, Eb, Ec, appF, List.length_cons, List.length_nil]
        rw [endD_q (q := q) (by kernel_rfl) (by rw [hqd]; kernel_rfl)]
        simp only [Aa, Ab, Ad, Ae, Af, Ag, Ah, Ai, Aj, Ak, Al, Ao, Ap, Aq, Ar, Au, sO_p, sO_r, sO_m, sO_a, sO_c, Av, Aw, Ax, Ay, Az, sE_p, sE_r, sE_m, sE_a, sE_c, A0, A2, A3, A4, A5, A6, A7, A8, A9, Ba, Bb, Bc, Bd, Be, Bf, Bg, Bh, Bi, Bj, Bl, Bm, Bo, Bp, Bq, Br, Bs, Bt, Bu, Bv, Tr.getP_e, Bw, Bx, ↓reduceIte, Nat.reduceEqDiff, Nat.reduceAdd, Nat.reduceSub, Nat.reduceMul, Nat.reduceDiv, Nat.reduceMod, Nat.zero_add, Nat.add_zero, beq_self_eq_true, Nat.zero_ne_one, Nat.one_ne_zero, Nat.reduceLeDiff, Int.reduceBEq, constF, unF, unary,  pickF, nilcF, faddrF, fldF, iaddrSF, arF, Bz, B3, B4, B5, B6, B7, convF, extF, lenF, eqcF, eqnF, eqN, eqPtr, isNone, loadF, storeF, allocF, callF, gets, Option.map_some, Option.bind_some, B8, B9, Ca, Cb, Cc, nbeq, nble, Cd, Ce, Cf, Cg, Ch, Ci, Cj, Ck, Cl, Cm, Cn, Co, Cp, Cq, Cr, Cs, Ct, Cu, Cv, Cw, Cx, V.w, width, unc, cmpCells, Cy, Cz, C6, C7, C8, Da, undef, List.append_nil, List.nil_append, List.cons_append, Db, Dc, resultsV, result, tup, Dd, Bool.and_true, Bool.true_and, Bool.and_self, decide_true, decide_false, Bool.not_true, Bool.not_false, Bool.true_beq, Bool.false_beq, beq_iff_eq, reduceCtorEq, Nat.succ_eq_add_one, ptr0, Int.ofNat_eq_natCast, Int.ofNat_le, Int.ofNat_lt, Int.natCast_add, De, Df, Dg, Dh, Di, List.map_cons, List.map_nil, Dj, Heap.next_add, Heap.next_set, boxF, buildF, fill, bsliceF, fillRows, List.replicate_one, Dk, Dl, Dm, Dn, Dp, Dq, Dr, Ds, Dt, Du, Dw, Dx, Dy, Dz, D2, D3, D4, D5, D6, D7, D8, D9, Ea, Eb, Ec, appF, List.length_cons, List.length_nil]
        exact ⟨trivial, .inr trivial, _, rfl, rfl, _, _, _, hD, ok.flush _, flush_len _ _⟩
      · have z2 : (a.o == 2) = false := by simp; exact h2
        by_cases h3 : a.o = 3
        · have z3 : (a.o == 3) = true := by simp [h3]
          obtain ⟨v, K1, e1, rfl, l', n1⟩ := bfail_all hA.m.rep hA.ne gg a.d lf (m + 3)
          change callS Try.prog S0 lf (m + 6) 38 _ _ = _ at e1
          obtain ⟨b0, b1, b2, b3, b4, b5, b6⟩ := bact_loads ((n1.turns.same _ oA (fun hc => nA _ hc rfl)).trans gA)
          have r1 := hA.r1 n1
          obtain ⟨v, K2, e2, rfl, k', n2⟩ := rbfail r1.rep gg a.d lf (m + 4)
          change callS Try.prog S0 lf (m + 6) 91 _ _ = _ at e2
          obtain ⟨q, hqd⟩ : ∃ q : List (Option V × Option V), q = [(loadF (.t (Tr.path 82)) 1 .sc (Tr.setP (Tr.path 82) (.ptr (some ⟨.run H.next, 1⟩)) .e) HA, some (.int .i64 a.d)),
            (loadF (.t (Tr.path 82)) 1 .sc (Tr.setP (Tr.path 82) (.ptr (some ⟨.run H.next, 1⟩)) .e) K1, some (.int .i64 a.d))] := ⟨_, rfl⟩
          have hq : ∀ p ∈ q, p.1 = p.2 := by
            rw [hqd]
            intro p hp
            simp only [List.mem_cons, List.not_mem_nil, or_false] at hp
            rcases hp with rfl | rfl <;> simp only [a1, b1, Aa, Ab, Ad, Ae, Af, Ag, Ah, Ai, Aj, Ak, Al, Ao, Ap, Aq, Ar, Au, sO_p, sO_r, sO_m, sO_a, sO_c, Av, Aw, Ax, Ay, Az, sE_p, sE_r, sE_m, sE_a, sE_c, A0, A2, A3, A4, A5, A6, A7, A8, A9, Ba, Bb, Bc, Bd, Be, Bf, Bg, Bh, Bi, Bj, Bl, Bm, Bo, Bp, Bq, Br, Bs, Bt, Bu, Bv, Tr.getP_e, Bw, Bx, ↓reduceIte, Nat.reduceEqDiff, Nat.reduceAdd, Nat.reduceSub, Nat.reduceMul, Nat.reduceDiv, Nat.reduceMod, Nat.zero_add, Nat.add_zero, beq_self_eq_true, Nat.zero_ne_one, Nat.one_ne_zero, Nat.reduceLeDiff, Int.reduceBEq, constF, unF, unary,  pickF, nilcF, faddrF, fldF, iaddrSF, arF, Bz, B3, B4, B5, B6, B7, convF, extF, lenF, eqcF, eqnF, eqN, eqPtr, isNone, loadF, storeF, allocF, callF, gets, Option.map_some, Option.bind_some, B8, B9, Ca, Cb, Cc, nbeq, nble, Cd, Ce, Cf, Cg, Ch, Ci, Cj, Ck, Cl, Cm, Cn, Co, Cp, Cq, Cr, Cs, Ct, Cu, Cv, Cw, Cx, V.w, width, unc, cmpCells, Cy, Cz, C6, C7, C8, Da, undef, List.append_nil, List.nil_append, List.cons_append, Db, Dc, resultsV, result, tup, Dd, Bool.and_true, Bool.true_and, Bool.and_self, decide_true, decide_false, Bool.not_true, Bool.not_false, Bool.true_beq, Bool.false_beq, beq_iff_eq, reduceCtorEq, Nat.succ_eq_add_one, ptr0, Int.ofNat_eq_natCast, Int.ofNat_le, Int.ofNat_lt, Int.natCast_add, De, Df, Dg, Dh, Di, List.map_cons, List.map_nil, Dj, Heap.next_add, Heap.next_set, boxF, buildF, fill, bsliceF, fillRows, List.replicate_one, Dk, Dl, Dm, Dn, Dp, Dq, Dr, Ds, Dt, Du, Dw, Dx, Dy, Dz, D2, D3, D4, D5, D6, D7, D8, D9, Ea, Eb, Ec, appF, List.length_cons, List.length_nil]
          have tf := (Turns.refl Z K2).owe hq
          have hD := (hA.step n1 (Turns.refl Z K1) n2 (fail_len _ _)).turns tf
          simp only [a0, z0, z1, z2, z3, a1, b1, e1, e2, Aa, Ab, Ad, Ae, Af, Ag, Ah, Ai, Aj, Ak, Al, Ao, Ap, Aq, Ar, Au, sO_p, sO_r, sO_m, sO_a, sO_c, Av, Aw, Ax, Ay, Az, sE_p, sE_r, sE_m, sE_a, sE_c, A0, A2, A3, A4, A5, A6, A7, A8, A9, Ba, Bb, Bc, Bd, Be, Bf, Bg, Bh, Bi, Bj, Bl, Bm, Bo, Bp, Bq, Br, Bs, Bt, Bu, Bv, Tr.getP_e, Bw, Bx, ↓reduceIte, Nat.reduceEqDiff, Nat.reduceAdd, Nat.reduceSub, Nat.reduceMul, Nat.reduceDiv, Nat.reduceMod, Nat.zero_add, Nat.add_zero, beq_self_eq_true, Nat.zero_ne_one, Nat.one_ne_zero, Nat.reduceLeDiff, Int.reduceBEq, constF, unF, unary,  pickF, nilcF, faddrF, fldF, iaddrSF, arF, Bz, B3, B4, B5, B6, B7, convF, extF, lenF, eqcF, eqnF, eqN, eqPtr, isNone, loadF, storeF, allocF, callF, gets, Option.map_some, Option.bind_some, B8, B9, Ca, Cb, Cc, nbeq, nble, Cd, Ce, Cf, Cg, Ch, Ci, Cj, Ck, Cl, Cm, Cn, Co, Cp, Cq, Cr, Cs, Ct, Cu, Cv, Cw, Cx, V.w, width, unc, cmpCells, Cy, Cz, C6, C7, C8, Da, undef, List.append_nil, List.nil_append, List.cons_append, Db, Dc, resultsV, result, tup, Dd, Bool.and_true, Bool.true_and, Bool.and_self, decide_true, decide_false, Bool.not_true, Bool.not_false, Bool.true_beq, Bool.false_beq, beq_iff_eq, reduceCtorEq, Nat.succ_eq_add_one, ptr0, Int.ofNat_eq_natCast, Int.ofNat_le, Int.ofNat_lt, Int.natCast_add, De, Df, Dg, Dh, Di, List.map_cons, List.map_nil, Dj, Heap.next_add, Heap.next_set, boxF, buildF, fill, bsliceF, fillRows, List.replicate_one, Dk, Dl, Dm, Dn, Dp, Dq, Dr, Ds, Dt, Du, Dw, Dx, Dy, Dz, D2, D3, D4, D5, D6, D7, D8, D9, Ea, Eb, Ec, appF, List.length_cons, List.length_nil]
          rw [endD_q (q := q) (by kernel_rfl) (by rw [hqd]; kernel_rfl)]
          simp only [Aa, Ab, Ad, Ae, Af, Ag, Ah, Ai, Aj, Ak, Al, Ao, Ap, Aq, Ar, Au, sO_p, sO_r, sO_m, sO_a, sO_c, Av, Aw, Ax, Ay, Az, sE_p, sE_r, sE_m, sE_a, sE_c, A0, A2, A3, A4, A5, A6, A7, A8, A9, Ba, Bb, Bc, Bd, Be, Bf, Bg, Bh, Bi, Bj, Bl, Bm, Bo, Bp, Bq, Br, Bs, Bt, Bu, Bv, Tr.getP_e, Bw, Bx, ↓reduceIte, Nat.reduceEqDiff, Nat.reduceAdd, Nat.reduceSub, Nat.reduceMul, Nat.reduceDiv, Nat.reduceMod, Nat.zero_add, Nat.add_zero, beq_self_eq_true, Nat.zero_ne_one, Nat.one_ne_zero, Nat.reduceLeDiff, Int.reduceBEq, constF, unF, unary,  pickF, nilcF, faddrF, fldF, iaddrSF, arF, Bz, B3, B4, B5, B6, B7, convF, extF, lenF, eqcF, eqnF, eqN, eqPtr, isNone, loadF, storeF, allocF, callF, gets, Option.map_some, Option.bind_some, B8, B9, Ca, Cb, Cc, nbeq, nble, Cd, Ce, Cf, Cg, Ch, Ci, Cj, Ck, Cl, Cm, Cn, Co, Cp, Cq, Cr, Cs, Ct, Cu, Cv, Cw, Cx, V.w, width, unc, cmpCells, Cy, Cz, C6, C7, C8, Da, undef, List.append_nil, List.nil_append, List.cons_append, Db, Dc, resultsV, result, tup, Dd, Bool.and_true, Bool.true_and, Bool.and_self, decide_true, decide_false, Bool.not_true, Bool.not_false, Bool.true_beq, Bool.false_beq, beq_iff_eq, reduceCtorEq, Nat.succ_eq_add_one, ptr0, Int.ofNat_eq_natCast, Int.ofNat_le, Int.ofNat_lt, Int.natCast_add, De, Df, Dg, Dh, Di, List.map_cons, List.map_nil, Dj, Heap.next_add, Heap.next_set, boxF, buildF, fill, bsliceF, fillRows, List.replicate_one, Dk, Dl, Dm, Dn, Dp, Dq, Dr, Ds, Dt, Du, Dw, Dx, Dy, Dz, D2, D3, D4, D5, D6, D7, D8, D9, Ea, Eb, Ec, appF, List.length_cons, List.length_nil]
          exact ⟨trivial, .inr trivial, _, rfl, rfl, _, _, _, hD, ok.fail _, fail_len _ _⟩
        · have z3 : (a.o == 3) = false := by simp; exact h3
          by_cases h4 : a.o = 4
          · have z4 : (a.o == 4) = true := by simp [h4]
            obtain ⟨v, K1, e1, rfl, l', n1⟩ := binsert_all hA.m.rep hA.ne gg a.d lf (m + 2)
            change callS Try.prog S0 lf (m + 6) 37 _ _ = _ at e1
            obtain ⟨b0, b1, b2, b3, b4, b5, b6⟩ := bact_loads ((n1.turns.same _ oA (fun hc => nA _ hc rfl)).trans gA)
            have r1 := hA.r1 n1
            obtain ⟨v, K2, e2, rfl, k', n2⟩ := rbinsert r1.rep gg a.d lf (m + 3)
            change callS Try.prog S0 lf (m + 6) 92 _ _ = _ at e2
            obtain ⟨q, hqd⟩ : ∃ q : List (Option V × Option V), q = [(loadF (.t (Tr.path 93)) 1 .sc (Tr.setP (Tr.path 93) (.ptr (some ⟨.run H.next, 1⟩)) .e) HA, some (.int .i64 a.d)),
              (loadF (.t (Tr.path 93)) 1 .sc (Tr.setP (Tr.path 93) (.ptr (some ⟨.run H.next, 1⟩)) .e) K1, some (.int .i64 a.d))] := ⟨_, rfl⟩
            have hq : ∀ p ∈ q, p.1 = p.2 := by
              rw [hqd]
              intro p hp
              simp only [List.mem_cons, List.not_mem_nil, or_false] at hp
              rcases hp with rfl | rfl <;> simp only [a1, b1, Aa, Ab, Ad, Ae, Af, Ag, Ah, Ai, Aj, Ak, Al, Ao, Ap, Aq, Ar, Au, sO_p, sO_r, sO_m, sO_a, sO_c, Av, Aw, Ax, Ay, Az, sE_p, sE_r, sE_m, sE_a, sE_c, A0, A2, A3, A4, A5, A6, A7, A8, A9, Ba, Bb, Bc, Bd, Be, Bf, Bg, Bh, Bi, Bj, Bl, Bm, Bo, Bp, Bq, Br, Bs, Bt, Bu, Bv, Tr.getP_e, Bw, Bx, ↓reduceIte, Nat.reduceEqDiff, Nat.reduceAdd, Nat.reduceSub, Nat.reduceMul, Nat.reduceDiv, Nat.reduceMod, Nat.zero_add, Nat.add_zero, beq_self_eq_true, Nat.zero_ne_one, Nat.one_ne_zero, Nat.reduceLeDiff, Int.reduceBEq, constF, unF, unary,  pickF, nilcF, faddrF, fldF, iaddrSF, arF, Bz, B3, B4, B5, B6, B7, convF, extF, lenF, eqcF, eqnF, eqN, eqPtr, isNone, loadF, storeF, allocF, callF, gets, Option.map_some, Option.bind_some, B8, B9, Ca, Cb, Cc, nbeq, nble, Cd, Ce, Cf, Cg, Ch, Ci, Cj, Ck, Cl, Cm, Cn, Co, Cp, Cq, Cr, Cs, Ct, Cu, Cv, Cw, Cx, V.w, width, unc, cmpCells, Cy, Cz, C6, C7, C8, Da, undef, List.append_nil, List.nil_append, List.cons_append, Db, Dc, resultsV, result, tup, Dd, Bool.and_true, Bool.true_and, Bool.and_self, decide_true, decide_false, Bool.not_true, Bool.not_false, Bool.true_beq, Bool.false_beq, beq_iff_eq, reduceCtorEq, Nat.succ_eq_add_one, ptr0, Int.ofNat_eq_natCast, Int.ofNat_le, Int.ofNat_lt, Int.natCast_add, De, Df, Dg, Dh, Di, List.map_cons, List.map_nil, Dj, Heap.next_add, Heap.next_set, boxF, buildF, fill, bsliceF, fillRows, List.replicate_one, Dk, Dl, Dm, Dn, Dp, Dq, Dr, Ds, Dt, Du, Dw, Dx, Dy, Dz, D2, D3, D4, D5, D6, D7, D8, D9, Ea, Eb, Ec, appF, List.length_cons, List.length_nil]
            have tf := (Turns.refl Z K2).owe hq
            have hD := (hA.step n1 (Turns.refl Z K1) n2 (insert_len _ _)).turns tf
            simp only [a0, z0, z1, z2, z3, z4, a1, b1, e1, e2, Aa, Ab, Ad, Ae, Af, Ag, Ah, Ai, Aj, Ak, Al, Ao, Ap, Aq, Ar, Au, sO_p, sO_r, sO_m, sO_a, sO_c, Av, Aw, Ax, Ay, Az, sE_p, sE_r, sE_m, sE_a, sE_c, A0, A2, A3, A4, A5, A6, A7, A8, A9, Ba, Bb, Bc, Bd, Be, Bf, Bg, Bh, Bi, Bj, Bl, Bm, Bo, Bp, Bq, Br, Bs, Bt, Bu, Bv, Tr.getP_e, Bw, Bx, ↓reduceIte, Nat.reduceEqDiff, Nat.reduceAdd, Nat.reduceSub, Nat.reduceMul, Nat.reduceDiv, Nat.reduceMod, Nat.zero_add, Nat.add_zero, beq_self_eq_true, Nat.zero_ne_one, Nat.one_ne_zero, Nat.reduceLeDiff, Int.reduceBEq, constF, unF, unary,  pickF, nilcF, faddrF, fldF, iaddrSF, arF, Bz, B3, B4, B5, B6, B7, convF, extF, lenF, eqcF, eqnF, eqN, eqPtr, isNone, loadF, storeF, allocF, callF, gets, Option.map_some, Option.bind_some, B8, B9, Ca, Cb, Cc, nbeq, nble, Cd, Ce, Cf, Cg, Ch, Ci, Cj, Ck, Cl, Cm, Cn, Co, Cp, Cq, Cr, Cs, Ct, Cu, Cv, Cw, Cx, V.w, width, unc, cmpCells, Cy, Cz, C6, C7, C8, Da, undef, List.append_nil, List.nil_append, List.cons_append, Db, Dc, resultsV, result, tup, Dd, Bool.and_true, Bool.true_and, Bool.and_self, decide_true, decide_false, Bool.not_true, Bool.not_false, Bool.true_beq, Bool.false_beq, beq_iff_eq, reduceCtorEq, Nat.succ_eq_add_one, ptr0, Int.ofNat_eq_natCast, Int.ofNat_le, Int.ofNat_lt, Int.natCast_add, De, Df, Dg, Dh, Di, List.map_cons, List.map_nil, Dj, Heap.next_add, Heap.next_set, boxF, buildF, fill, bsliceF, fillRows, List.replicate_one, Dk, Dl, Dm, Dn, Dp, Dq, Dr, Ds, Dt, Du, Dw, Dx, Dy, Dz, D2, D3, D4, D5, D6, D7, D8, D9, Ea, Eb, Ec, appF, List.length_cons, List.length_nil]
            rw [endD_q (q := q) (by kernel_rfl) (by rw [hqd]; kernel_rfl)]
            simp only [Aa, Ab, Ad, Ae, Af, Ag, Ah, Ai, Aj, Ak, Al, Ao, Ap, Aq, Ar, Au, sO_p, sO_r, sO_m, sO_a, sO_c, Av, Aw, Ax, Ay, Az, sE_p, sE_r, sE_m, sE_a, sE_c, A0, A2, A3, A4, A5, A6, A7, A8, A9, Ba, Bb, Bc, Bd, Be, Bf, Bg, Bh, Bi, Bj, Bl, Bm, Bo, Bp, Bq, Br, Bs, Bt, Bu, Bv, Tr.getP_e, Bw, Bx, ↓reduceIte, Nat.reduceEqDiff, Nat.reduceAdd, Nat.reduceSub, Nat.reduceMul, Nat.reduceDiv, Nat.reduceMod, Nat.zero_add, Nat.add_zero, beq_self_eq_true, Nat.zero_ne_one, Nat.one_ne_zero, Nat.reduceLeDiff, Int.reduceBEq, constF, unF, unary,  pickF, nilcF, faddrF, fldF, iaddrSF, arF, Bz, B3, B4, B5, B6, B7, convF, extF, lenF, eqcF, eqnF, eqN, eqPtr, isNone, loadF, storeF, allocF, callF, gets, Option.map_some, Option.bind_some, B8, B9, Ca, Cb, Cc, nbeq, nble, Cd, Ce, Cf, Cg, Ch, Ci, Cj, Ck, Cl, Cm, Cn, Co, Cp, Cq, Cr, Cs, Ct, Cu, Cv, Cw, Cx, V.w, width, unc, cmpCells, Cy, Cz, C6, C7, C8, Da, undef, List.append_nil, List.nil_append, List.cons_append, Db, Dc, resultsV, result, tup, Dd, Bool.and_true, Bool.true_and, Bool.and_self, decide_true, decide_false, Bool.not_true, Bool.not_false, Bool.true_beq, Bool.false_beq, beq_iff_eq, reduceCtorEq, Nat.succ_eq_add_one, ptr0, Int.ofNat_eq_natCast, Int.ofNat_le, Int.ofNat_lt, Int.natCast_add, De, Df, Dg, Dh, Di, List.map_cons, List.map_nil, Dj, Heap.next_add, Heap.next_set, boxF, buildF, fill, bsliceF, fillRows, List.replicate_one, Dk, Dl, Dm, Dn, Dp, Dq, Dr, Ds, Dt, Du, Dw, Dx, Dy, Dz, D2, D3, D4, D5, D6, D7, D8, D9, Ea, Eb, Ec, appF, List.length_cons, List.length_nil]
            exact ⟨trivial, .inr trivial, _, rfl, rfl, _, _, _, hD, ok.insert _, insert_len _ _⟩
          · have z4 : (a.o == 4) = false := by simp; exact h4
            by_cases h5 : a.o = 5
            · have z5 : (a.o == 5) = true := by simp [h5]
              obtain ⟨v, K1, e1, rfl, n1⟩ := barm_all hA.m.rep hA.ne gg a.n lf (m + 4)
              change callS Try.prog S0 lf (m + 6) 31 _ _ = _ at e1
              obtain ⟨b0, b1, b2, b3, b4, b5, b6⟩ := bact_loads ((n1.turns.same _ oA (fun hc => nA _ hc rfl)).trans gA)
              have r1 := hA.r1 n1
              obtain ⟨v, K2, e2, rfl, n2⟩ := rarm r1.rep a.n lf (m + 5)
              change callS Try.prog S0 lf (m + 6) 93 _ _ = _ at e2
              obtain ⟨q, hqd⟩ : ∃ q : List (Option V × Option V), q = [(loadF (.t (Tr.path 104)) 1 .sc (Tr.setP (Tr.path 104) (.ptr (some ⟨.run H.next, 2⟩)) .e) HA, some (.int .i64 a.n)),
                (loadF (.t (Tr.path 104)) 1 .sc (Tr.setP (Tr.path 104) (.ptr (some ⟨.run H.next, 2⟩)) .e) K1, some (.int .i64 a.n))] := ⟨_, rfl⟩
              have hq : ∀ p ∈ q, p.1 = p.2 := by
                rw [hqd]
                intro p hp
                simp only [List.mem_cons, List.not_mem_nil, or_false] at hp
                rcases hp with rfl | rfl <;> simp only [a2, b2, Aa, Ab, Ad, Ae, Af, Ag, Ah, Ai, Aj, Ak, Al, Ao, Ap, Aq, Ar, Au, sO_p, sO_r, sO_m, sO_a, sO_c, Av, Aw, Ax, Ay, Az, sE_p, sE_r, sE_m, sE_a, sE_c, A0, A2, A3, A4, A5, A6, A7, A8, A9, Ba, Bb, Bc, Bd, Be, Bf, Bg, Bh, Bi, Bj, Bl, Bm, Bo, Bp, Bq, Br, Bs, Bt, Bu, Bv, Tr.getP_e, Bw, Bx, ↓reduceIte, Nat.reduceEqDiff, Nat.reduceAdd, Nat.reduceSub, Nat.reduceMul, Nat.reduceDiv, Nat.reduceMod, Nat.zero_add, Nat.add_zero, beq_self_eq_true, Nat.zero_ne_one, Nat.one_ne_zero, Nat.reduceLeDiff, Int.reduceBEq, constF, unF, unary,  pickF, nilcF, faddrF, fldF, iaddrSF, arF, Bz, B3, B4, B5, B6, B7, convF, extF, lenF, eqcF, eqnF, eqN, eqPtr, isNone, loadF, storeF, allocF, callF, gets, Option.map_some, Option.bind_some, B8, B9, Ca, Cb, Cc, nbeq, nble, Cd, Ce, Cf, Cg, Ch, Ci, Cj, Ck, Cl, Cm, Cn, Co, Cp, Cq, Cr, Cs, Ct, Cu, Cv, Cw, Cx, V.w, width, unc, cmpCells, Cy, Cz, C6, C7, C8, Da, undef, List.append_nil, List.nil_append, List.cons_append, Db, Dc, resultsV, result, tup, Dd, Bool.and_true, Bool.true_and, Bool.and_self, decide_true, decide_false, Bool.not_true, Bool.not_false, Bool.true_beq, Bool.false_beq, beq_iff_eq, reduceCtorEq, Nat.succ_eq_add_one, ptr0, Int.ofNat_eq_natCast, Int.ofNat_le, Int.ofNat_lt, Int.natCast_add, De, Df, Dg, Dh, Di, List.map_cons, List.map_nil, Dj, Heap.next_add, Heap.next_set, boxF, buildF, fill, bsliceF, fillRows, List.replicate_one, Dk, Dl, Dm, Dn, Dp, Dq, Dr, Ds, Dt, Du, Dw, Dx, Dy, Dz, D2, D3, D4, D5, D6, D7, D8, D9, Ea, Eb, Ec, appF, List.length_cons, List.length_nil]
              have tf := (Turns.refl Z K2).owe hq
              have hD := (hA.step n1 (Turns.refl Z K1) n2 (arm_len _ _)).turns tf
              simp only [a0, z0, z1, z2, z3, z4, z5, a2, b2, e1, e2, Aa, Ab, Ad, Ae, Af, Ag, Ah, Ai, Aj, Ak, Al, Ao, Ap, Aq, Ar, Au, sO_p, sO_r, sO_m, sO_a, sO_c, Av, Aw, Ax, Ay, Az, sE_p, sE_r, sE_m, sE_a, sE_c, A0, A2, A3, A4, A5, A6, A7, A8, A9, Ba, Bb, Bc, Bd, Be, Bf, Bg, Bh, Bi, Bj, Bl, Bm, Bo, Bp, Bq, Br, Bs, Bt, Bu, Bv, Tr.getP_e, Bw, Bx, ↓reduceIte, Nat.reduceEqDiff, Nat.reduceAdd, Nat.reduceSub, Nat.reduceMul, Nat.reduceDiv, Nat.reduceMod, Nat.zero_add, Nat.add_zero, beq_self_eq_true, Nat.zero_ne_one, Nat.one_ne_zero, Nat.reduceLeDiff, Int.reduceBEq, constF, unF, unary,  pickF, nilcF, faddrF, fldF, iaddrSF, arF, Bz, B3, B4, B5, B6, B7, convF, extF, lenF, eqcF, eqnF, eqN, eqPtr, isNone, loadF, storeF, allocF, callF, gets, Option.map_some, Option.bind_some, B8, B9, Ca, Cb, Cc, nbeq, nble, Cd, Ce, Cf, Cg, Ch, Ci, Cj, Ck, Cl, Cm, Cn, Co, Cp, Cq, Cr, Cs, Ct, Cu, Cv, Cw, Cx, V.w, width, unc, cmpCells, Cy, Cz, C6, C7, C8, Da, undef, List.append_nil, List.nil_append, List.cons_append, Db, Dc, resultsV, result, tup, Dd, Bool.and_true, Bool.true_and, Bool.and_self, decide_true, decide_false, Bool.not_true, Bool.not_false, Bool.true_beq, Bool.false_beq, beq_iff_eq, reduceCtorEq, Nat.succ_eq_add_one, ptr0, Int.ofNat_eq_natCast, Int.ofNat_le, Int.ofNat_lt, Int.natCast_add, De, Df, Dg, Dh, Di, List.map_cons, List.map_nil, Dj, Heap.next_add, Heap.next_set, boxF, buildF, fill, bsliceF, fillRows, List.replicate_one, Dk, Dl, Dm, Dn, Dp, Dq, Dr, Ds, Dt, Du, Dw, Dx, Dy, Dz, D2, D3, D4, D5, D6, D7, D8, D9, Ea, Eb, Ec, appF, List.length_cons, List.length_nil]
              rw [endD_q (q := q) (by kernel_rfl) (by rw [hqd]; kernel_rfl)]
              simp only [Aa, Ab, Ad, Ae, Af, Ag, Ah, Ai, Aj, Ak, Al, Ao, Ap, Aq, Ar, Au, sO_p, sO_r, sO_m, sO_a, sO_c, Av, Aw, Ax, Ay, Az, sE_p, sE_r, sE_m, sE_a, sE_c, A0, A2, A3, A4, A5, A6, A7, A8, A9, Ba, Bb, Bc, Bd, Be, Bf, Bg, Bh, Bi, Bj, Bl, Bm, Bo, Bp, Bq, Br, Bs, Bt, Bu, Bv, Tr.getP_e, Bw, Bx, ↓reduceIte, Nat.reduceEqDiff, Nat.reduceAdd, Nat.reduceSub, Nat.reduceMul, Nat.reduceDiv, Nat.reduceMod, Nat.zero_add, Nat.add_zero, beq_self_eq_true, Nat.zero_ne_one, Nat.one_ne_zero, Nat.reduceLeDiff, Int.reduceBEq, constF, unF, unary,  pickF, nilcF, faddrF, fldF, iaddrSF, arF, Bz, B3, B4, B5, B6, B7, convF, extF, lenF, eqcF, eqnF, eqN, eqPtr, isNone, loadF, storeF, allocF, callF, gets, Option.map_some, Option.bind_some, B8, B9, Ca, Cb, Cc, nbeq, nble, Cd, Ce, Cf, Cg, Ch, Ci, Cj, Ck, Cl, Cm, Cn, Co, Cp, Cq, Cr, Cs, Ct, Cu, Cv, Cw, Cx, V.w, width, unc, cmpCells, Cy, Cz, C6, C7, C8, Da, undef, List.append_nil, List.nil_append, List.cons_append, Db, Dc, resultsV, result, tup, Dd, Bool.and_true, Bool.true_and, Bool.and_self, decide_true, decide_false, Bool.not_true, Bool.not_false, Bool.true_beq, Bool.false_beq, beq_iff_eq, reduceCtorEq, Nat.succ_eq_add_one, ptr0, Int.ofNat_eq_natCast, Int.ofNat_le, Int.ofNat_lt, Int.natCast_add, De, Df, Dg, Dh, Di, List.map_cons, List.map_nil, Dj, Heap.next_add, Heap.next_set, boxF, buildF, fill, bsliceF, fillRows, List.replicate_one, Dk, Dl, Dm, Dn, Dp, Dq, Dr, Ds, Dt, Du, Dw, Dx, Dy, Dz, D2, D3, D4, D5, D6, D7, D8, D9, Ea, Eb, Ec, appF, List.length_cons, List.length_nil]
              exact ⟨trivial, .inr trivial, _, rfl, rfl, _, _, _, hD, ok.arm oka.n, arm_len _ _⟩
            · have z5 : (a.o == 5) = false := by simp; exact h5
              by_cases h6 : a.o = 6
              · have z6 : (a.o == 6) = true := by simp [h6]
                obtain ⟨v, K1, e1, rfl, l', n1⟩ := bcrash_all hA.m.rep hA.ne gg (pc := a.pc) (oka.pk.at' hA.m.t hA.m.new) oka.pc hlf hA17 (m + 3)
                change callS Try.prog S0 lf (m + 6) 44 _ _ = _ at e1
                obtain ⟨b0, b1, b2, b3, b4, b5, b6⟩ := bact_loads ((n1.turns.same _ oA (fun hc => nA _ hc rfl)).trans gA)
                have r1 := hA.r1 n1
                obtain ⟨v, K2, e2, rfl, k', n2⟩ := rbcrash_all r1.rep gg (pc := a.pc) (oka.pk.at' r1.t r1.new) oka.pc hlf hA17' (m + 3)
                change callS Try.prog S0 lf (m + 6) 94 _ _ = _ at e2
                obtain ⟨q, hqd⟩ : ∃ q : List (Option V × Option V), q = [(loadF (.t (Tr.path 115)) 1 .sc (Tr.setP (Tr.path 115) (.ptr (some ⟨.run H.next, 69⟩)) .e) HA, some (.slice a.pp a.P.length a.pc 0)),
                  (loadF (.t (Tr.path 115)) 1 .sc (Tr.setP (Tr.path 115) (.ptr (some ⟨.run H.next, 69⟩)) .e) K1, some (.slice a.pp a.P.length a.pc 0))] := ⟨_, rfl⟩
                have hq : ∀ p ∈ q, p.1 = p.2 := by
                  rw [hqd]
                  intro p hp
                  simp only [List.mem_cons, List.not_mem_nil, or_false] at hp
                  rcases hp with rfl | rfl <;> simp only [a6, b6, Aa, Ab, Ad, Ae, Af, Ag, Ah, Ai, Aj, Ak, Al, Ao, Ap, Aq, Ar, Au, sO_p, sO_r, sO_m, sO_a, sO_c, Av, Aw, Ax, Ay, Az, sE_p, sE_r, sE_m, sE_a, sE_c, A0, A2, A3, A4, A5, A6, A7, A8, A9, Ba, Bb, Bc, Bd, Be, Bf, Bg, Bh, Bi, Bj, Bl, Bm, Bo, Bp, Bq, Br, Bs, Bt, Bu, Bv, Tr.getP_e, Bw, Bx, ↓reduceIte, Nat.reduceEqDiff, Nat.reduceAdd, Nat.reduceSub, Nat.reduceMul, Nat.reduceDiv, Nat.reduceMod, Nat.zero_add, Nat.add_zero, beq_self_eq_true, Nat.zero_ne_one, Nat.one_ne_zero, Nat.reduceLeDiff, Int.reduceBEq, constF, unF, unary,  pickF, nilcF, faddrF, fldF, iaddrSF, arF, Bz, B3, B4, B5, B6, B7, convF, extF, lenF, eqcF, eqnF, eqN, eqPtr, isNone, loadF, storeF, allocF, callF, gets, Option.map_some, Option.bind_some, B8, B9, Ca, Cb, Cc, nbeq, nble, Cd, Ce, Cf, Cg, Ch, Ci, Cj, Ck, Cl, Cm, Cn, Co, Cp, Cq, Cr, Cs, Ct, Cu, Cv, Cw, Cx, V.w, width, unc, cmpCells, Cy, Cz, C6, C7, C8, Da, undef, List.append_nil, List.nil_append, List.cons_append, Db, Dc, resultsV, result, tup, Dd, Bool.and_true, Bool.true_and, Bool.and_self, decide_true, decide_false, Bool.not_true, Bool.not_false, Bool.true_beq, Bool.false_beq, beq_iff_eq, reduceCtorEq, Nat.succ_eq_add_one, ptr0, Int.ofNat_eq_natCast, Int.ofNat_le, Int.ofNat_lt, Int.natCast_add, De, Df, Dg, Dh, Di, List.map_cons, List.map_nil, Dj, Heap.next_add, Heap.next_set, boxF, buildF, fill, bsliceF, fillRows, List.replicate_one, Dk, Dl, Dm, Dn, Dp, Dq, Dr, Ds, Dt, Du, Dw, Dx, Dy, Dz, D2, D3, D4, D5, D6, D7, D8, D9, Ea, Eb, Ec, appF, List.length_cons, List.length_nil]
                have tf := (Turns.refl Z K2).owe hq
                have hD := (hA.step n1 (Turns.refl Z K1) n2 (crash_len _ _)).turns tf
                simp only [a0, z0, z1, z2, z3, z4, z5, z6, a6, b6, e1, e2, Aa, Ab, Ad, Ae, Af, Ag, Ah, Ai, Aj, Ak, Al, Ao, Ap, Aq, Ar, Au, sO_p, sO_r, sO_m, sO_a, sO_c, Av, Aw, Ax, Ay, Az, sE_p, sE_r, sE_m, sE_a, sE_c, A0, A2, A3, A4, A5, A6, A7, A8, A9, Ba, Bb, Bc, Bd, Be, Bf, Bg, Bh, Bi, Bj, Bl, Bm, Bo, Bp, Bq, Br, Bs, Bt, Bu, Bv, Tr.getP_e, Bw, Bx, ↓reduceIte, Nat.reduceEqDiff, Nat.reduceAdd, Nat.reduceSub, Nat.reduceMul, Nat.reduceDiv, Nat.reduceMod, Nat.zero_add, Nat.add_zero, beq_self_eq_true, Nat.zero_ne_one, Nat.one_ne_zero, Nat.reduceLeDiff, Int.reduceBEq, constF, unF, unary,  pickF, nilcF, faddrF, fldF, iaddrSF, arF, Bz, B3, B4, B5, B6, B7, convF, extF, lenF, eqcF, eqnF, eqN, eqPtr, isNone, loadF, storeF, allocF, callF, gets, Option.map_some, Option.bind_some, B8, B9, Ca, Cb, Cc, nbeq, nble, Cd, Ce, Cf, Cg, Ch, Ci, Cj, Ck, Cl, Cm, Cn, Co, Cp, Cq, Cr, Cs, Ct, Cu, Cv, Cw, Cx, V.w, width, unc, cmpCells, Cy, Cz, C6, C7, C8, Da, undef, List.append_nil, List.nil_append, List.cons_append, Db, Dc, resultsV, result, tup, Dd, Bool.and_true, Bool.true_and, Bool.and_self, decide_true, decide_false, Bool.not_true, Bool.not_false, Bool.true_beq, Bool.false_beq, beq_iff_eq, reduceCtorEq, Nat.succ_eq_add_one, ptr0, Int.ofNat_eq_natCast, Int.ofNat_le, Int.ofNat_lt, Int.natCast_add, De, Df, Dg, Dh, Di, List.map_cons, List.map_nil, Dj, Heap.next_add, Heap.next_set, boxF, buildF, fill, bsliceF, fillRows, List.replicate_one, Dk, Dl, Dm, Dn, Dp, Dq, Dr, Ds, Dt, Du, Dw, Dx, Dy, Dz, D2, D3, D4, D5, D6, D7, D8, D9, Ea, Eb, Ec, appF, List.length_cons, List.length_nil]
                rw [endD_q (q := q) (by kernel_rfl) (by rw [hqd]; kernel_rfl)]
                simp only [Aa, Ab, Ad, Ae, Af, Ag, Ah, Ai, Aj, Ak, Al, Ao, Ap, Aq, Ar, Au, sO_p, sO_r, sO_m, sO_a, sO_c, Av, Aw, Ax, Ay, Az, sE_p, sE_r, sE_m, sE_a, sE_c, A0, A2, A3, A4, A5, A6, A7, A8, A9, Ba, Bb, Bc, Bd, Be, Bf, Bg, Bh, Bi, Bj, Bl, Bm, Bo, Bp, Bq, Br, Bs, Bt, Bu, Bv, Tr.getP_e, Bw, Bx, ↓reduceIte, Nat.reduceEqDiff, Nat.reduceAdd, Nat.reduceSub, Nat.reduceMul, Nat.reduceDiv, Nat.reduceMod, Nat.zero_add, Nat.add_zero, beq_self_eq_true, Nat.zero_ne_one, Nat.one_ne_zero, Nat.reduceLeDiff, Int.reduceBEq, constF, unF, unary,  pickF, nilcF, faddrF, fldF, iaddrSF, arF, Bz, B3, B4, B5, B6, B7, convF, extF, lenF, eqcF, eqnF, eqN, eqPtr, isNone, loadF, storeF, allocF, callF, gets, Option.map_some, Option.bind_some, B8, B9, Ca, Cb, Cc, nbeq, nble, Cd, Ce, Cf, Cg, Ch, Ci, Cj, Ck, Cl, Cm, Cn, Co, Cp, Cq, Cr, Cs, Ct, Cu, Cv, Cw, Cx, V.w, width, unc, cmpCells, Cy, Cz, C6, C7, C8, Da, undef, List.append_nil, List.nil_append, List.cons_append, Db, Dc, resultsV, result, tup, Dd, Bool.and_true, Bool.true_and, Bool.and_self, decide_true, decide_false, Bool.not_true, Bool.not_false, Bool.true_beq, Bool.false_beq, beq_iff_eq, reduceCtorEq, Nat.succ_eq_add_one, ptr0, Int.ofNat_eq_natCast, Int.ofNat_le, Int.ofNat_lt, Int.natCast_add, De, Df, Dg, Dh, Di, List.map_cons, List.map_nil, Dj, Heap.next_add, Heap.next_set, boxF, buildF, fill, bsliceF, fillRows, List.replicate_one, Dk, Dl, Dm, Dn, Dp, Dq, Dr, Ds, Dt, Du, Dw, Dx, Dy, Dz, D2, D3, D4, D5, D6, D7, D8, D9, Ea, Eb, Ec, appF, List.length_cons, List.length_nil]
                exact ⟨trivial, .inr trivial, _, rfl, rfl, _, _, _, hD, ok.crash _, crash_len _ _⟩
              · have z6 : (a.o == 6) = false := by simp; exact h6
                by_cases h7 : a.o = 7
                · have z7 : (a.o == 7) = true := by simp [h7]
                  obtain ⟨v, K1, e1, rfl, t1⟩ := bsure_all hA.m.rep hA.ne gg a.d a.n lf (m + 2)
                  change callS Try.prog S0 lf (m + 6) 95 _ _ = _ at e1
                  have t1' := t1.trans (cell_turns K1 (B.sure a.d a.n))
                  obtain ⟨b0, b1, b2, b3, b4, b5, b6⟩ := bact_loads ((t1'.same _ oA id).trans gA)
                  have h1 := hA.turns t1'
                  obtain ⟨v, K2, e2, rfl, t2⟩ := rbsure h1.r.rep gg a.d a.n hlf (m + 3)
                  change callS Try.prog S0 lf (m + 6) 96 _ _ = _ at e2
                  have t2' := t2.trans (cell_turns K2 (B.sure a.d a.n))
                  have d1 := load_of ((t2'.same _ (cell_old K1 (B.sure a.d a.n)) id).trans (cell_get K1 (B.sure a.d a.n)))
                  have d2 := load_of (cell_get K2 (B.sure a.d a.n))
                  have hD := h1.turns t2'
                  simp only [a0, z0, z1, z2, z3, z4, z5, z6, z7, a1, a2, b1, b2, e1, e2, cell_fold, d1, d2, Aa, Ab, Ad, Ae, Af, Ag, Ah, Ai, Aj, Ak, Al, Ao, Ap, Aq, Ar, Au, sO_p, sO_r, sO_m, sO_a, sO_c, Av, Aw, Ax, Ay, Az, sE_p, sE_r, sE_m, sE_a, sE_c, A0, A2, A3, A4, A5, A6, A7, A8, A9, Ba, Bb, Bc, Bd, Be, Bf, Bg, Bh, Bi, Bj, Bl, Bm, Bo, Bp, Bq, Br, Bs, Bt, Bu, Bv, Tr.getP_e, Bw, Bx, ↓reduceIte, Nat.reduceEqDiff, Nat.reduceAdd, Nat.reduceSub, Nat.reduceMul, Nat.reduceDiv, Nat.reduceMod, Nat.zero_add, Nat.add_zero, beq_self_eq_true, Nat.zero_ne_one, Nat.one_ne_zero, Nat.reduceLeDiff, Int.reduceBEq, constF, unF, unary,  pickF, nilcF, faddrF, fldF, iaddrSF, arF, Bz, B3, B4, B5, B6, B7, convF, extF, lenF, eqcF, eqnF, eqN, eqPtr, isNone, loadF, storeF, allocF, callF, gets, Option.map_some, Option.bind_some, B8, B9, Ca, Cb, Cc, nbeq, nble, Cd, Ce, Cf, Cg, Ch, Ci, Cj, Ck, Cl, Cm, Cn, Co, Cp, Cq, Cr, Cs, Ct, Cu, Cv, Cw, Cx, V.w, width, unc, cmpCells, Cy, Cz, C6, C7, C8, Da, undef, List.append_nil, List.nil_append, List.cons_append, Db, Dc, resultsV, result, tup, Dd, Bool.and_true, Bool.true_and, Bool.and_self, decide_true, decide_false, Bool.not_true, Bool.not_false, Bool.true_beq, Bool.false_beq, beq_iff_eq, reduceCtorEq, Nat.succ_eq_add_one, ptr0, Int.ofNat_eq_natCast, Int.ofNat_le, Int.ofNat_lt, Int.natCast_add, De, Df, Dg, Dh, Di, List.map_cons, List.map_nil, Dj, Heap.next_add, Heap.next_set, boxF, buildF, fill, bsliceF, fillRows, List.replicate_one, Dk, Dl, Dm, Dn, Dp, Dq, Dr, Ds, Dt, Du, Dw, Dx, Dy, Dz, D2, D3, D4, D5, D6, D7, D8, D9, Ea, Eb, Ec, appF, List.length_cons, List.length_nil]
                  exact ⟨trivial, .inr trivial, _, rfl, rfl, _, _, _, hD, ok.mono, rfl⟩
                · have z7 : (a.o == 7) = false := by simp; exact h7
                  obtain ⟨v, K1, e1, rfl, l', n1⟩ := brot_all hA.m.rep hA.ne gg a.d a.n a.j oka.x lf (m + 2)
                  change callS Try.prog S0 lf (m + 6) 43 _ _ = _ at e1
                  obtain ⟨b0, b1, b2, b3, b4, b5, b6⟩ := bact_loads ((n1.turns.same _ oA (fun hc => nA _ hc rfl)).trans gA)
                  have r1 := hA.r1 n1
                  obtain ⟨v, K2, e2, rfl, k', n2⟩ := rbrot r1.rep gg a.d a.n a.j oka.x lf (m + 4)
                  change callS Try.prog S0 lf (m + 6) 97 _ _ = _ at e2
                  obtain ⟨q, hqd⟩ : ∃ q : List (Option V × Option V), q = [(loadF (.t (Tr.path 158)) 1 .sc (Tr.setP (Tr.path 158) (.ptr (some ⟨.run H.next, 1⟩)) .e) HA, some (.int .i64 a.d)),
                    (loadF (.t (Tr.path 158)) 1 .sc (Tr.setP (Tr.path 158) (.ptr (some ⟨.run H.next, 1⟩)) .e) K1, some (.int .i64 a.d)),
                    (loadF (.t (Tr.path 160)) 1 .sc (Tr.setP (Tr.path 160) (.ptr (some ⟨.run H.next, 2⟩)) .e) HA, some (.int .i64 a.n)),
                    (loadF (.t (Tr.path 160)) 1 .sc (Tr.setP (Tr.path 160) (.ptr (some ⟨.run H.next, 2⟩)) .e) K1, some (.int .i64 a.n)),
                    (loadF (.t (Tr.path 162)) 1 .sc (Tr.setP (Tr.path 162) (.ptr (some ⟨.run H.next, 3⟩)) .e) HA, some (.int .i64 a.j)),
                    (loadF (.t (Tr.path 162)) 1 .sc (Tr.setP (Tr.path 162) (.ptr (some ⟨.run H.next, 3⟩)) .e) K1, some (.int .i64 a.j)),
                    (loadF (.t (Tr.path 164)) 1 .sc (Tr.setP (Tr.path 164) (.ptr (some ⟨.run H.next, 4⟩)) .e) HA, some (.int .u8 (a.x : Int))),
                    (loadF (.t (Tr.path 164)) 1 .sc (Tr.setP (Tr.path 164) (.ptr (some ⟨.run H.next, 4⟩)) .e) K1, some (.int .u8 (a.x : Int)))] := ⟨_, rfl⟩
                  have hq : ∀ p ∈ q, p.1 = p.2 := by
                    rw [hqd]
                    intro p hp
                    simp only [List.mem_cons, List.not_mem_nil, or_false] at hp
                    rcases hp with rfl | rfl | rfl | rfl | rfl | rfl | rfl | rfl <;> simp only [a1, b1, a2, b2, a3, b3, a4, b4, Aa, Ab, Ad, Ae, Af, Ag, Ah, Ai, Aj, Ak, Al, Ao, Ap, Aq, Ar, Au, sO_p, sO_r, sO_m, sO_a, sO_c, Av, Aw, Ax, Ay, Az, sE_p, sE_r, sE_m, sE_a, sE_c, A0, A2, A3, A4, A5, A6, A7, A8, A9, Ba, Bb, Bc, Bd, Be, Bf, Bg, Bh, Bi, Bj, Bl, Bm, Bo, Bp, Bq, Br, Bs, Bt, Bu, Bv, Tr.getP_e, Bw, Bx, ↓reduceIte, Nat.reduceEqDiff, Nat.reduceAdd, Nat.reduceSub, Nat.reduceMul, Nat.reduceDiv, Nat.reduceMod, Nat.zero_add, Nat.add_zero, beq_self_eq_true, Nat.zero_ne_one, Nat.one_ne_zero, Nat.reduceLeDiff, Int.reduceBEq, constF, unF, unary,  pickF, nilcF, faddrF, fldF, iaddrSF, arF, Bz, B3, B4, B5, B6, B7, convF, extF, lenF, eqcF, eqnF, eqN, eqPtr, isNone, loadF, storeF, allocF, callF, gets, Option.map_some, Option.bind_some, B8, B9, Ca, Cb, Cc, nbeq, nble, Cd, Ce, Cf, Cg, Ch, Ci, Cj, Ck, Cl, Cm, Cn, Co, Cp, Cq, Cr, Cs, Ct, Cu, Cv, Cw, Cx, V.w, width, unc, cmpCells, Cy, Cz, C6, C7, C8, Da, undef, List.append_nil, List.nil_append, List.cons_append, Db, Dc, resultsV, result, tup, Dd, Bool.and_true, Bool.true_and, Bool.and_self, decide_true, decide_false, Bool.not_true, Bool.not_false, Bool.true_beq, Bool.false_beq, beq_iff_eq, reduceCtorEq, Nat.succ_eq_add_one, ptr0, Int.ofNat_eq_natCast, Int.ofNat_le, Int.ofNat_lt, Int.natCast_add, De, Df, Dg, Dh, Di, List.map_cons, List.map_nil, Dj, Heap.next_add, Heap.next_set, boxF, buildF, fill, bsliceF, fillRows, List.replicate_one, Dk, Dl, Dm, Dn, Dp, Dq, Dr, Ds, Dt, Du, Dw, Dx, Dy, Dz, D2, D3, D4, D5, D6, D7, D8, D9, Ea, Eb, Ec, appF, List.length_cons, List.length_nil]
                  have tf := (Turns.refl Z K2).owe hq
                  have hD := (hA.step n1 (Turns.refl Z K1) n2 (rot_len _ _ _ _ _)).turns tf
                  simp only [a0, z0, z1, z2, z3, z4, z5, z6, z7, a1, a2, a3, a4, b1, b2, b3, b4, e1, e2, Aa, Ab, Ad, Ae, Af, Ag, Ah, Ai, Aj, Ak, Al, Ao, Ap, Aq, Ar, Au, sO_p, sO_r, sO_m, sO_a, sO_c, Av, Aw, Ax, Ay, Az, sE_p, sE_r, sE_m, sE_a, sE_c, A0, A2, A3, A4, A5, A6, A7, A8, A9, Ba, Bb, Bc, Bd, Be, Bf, Bg, Bh, Bi, Bj, Bl, Bm, Bo, Bp, Bq, Br, Bs, Bt, Bu, Bv, Tr.getP_e, Bw, Bx, ↓reduceIte, Nat.reduceEqDiff, Nat.reduceAdd, Nat.reduceSub, Nat.reduceMul, Nat.reduceDiv, Nat.reduceMod, Nat.zero_add, Nat.add_zero, beq_self_eq_true, Nat.zero_ne_one, Nat.one_ne_zero, Nat.reduceLeDiff, Int.reduceBEq, constF, unF, unary,  pickF, nilcF, faddrF, fldF, iaddrSF, arF, Bz, B3, B4, B5, B6, B7, convF, extF, lenF, eqcF, eqnF, eqN, eqPtr, isNone, loadF, storeF, allocF, callF, gets, Option.map_some, Option.bind_some, B8, B9, Ca, Cb, Cc, nbeq, nble, Cd, Ce, Cf, Cg, Ch, Ci, Cj, Ck, Cl, Cm, Cn, Co, Cp, Cq, Cr, Cs, Ct, Cu, Cv, Cw, Cx, V.w, width, unc, cmpCells, Cy, Cz, C6, C7, C8, Da, undef, List.append_nil, List.nil_append, List.cons_append, Db, Dc, resultsV, result, tup, Dd, Bool.and_true, Bool.true_and, Bool.and_self, decide_true, decide_false, Bool.not_true, Bool.not_false, Bool.true_beq, Bool.false_beq, beq_iff_eq, reduceCtorEq, Nat.succ_eq_add_one, ptr0, Int.ofNat_eq_natCast, Int.ofNat_le, Int.ofNat_lt, Int.natCast_add, De, Df, Dg, Dh, Di, List.map_cons, List.map_nil, Dj, Heap.next_add, Heap.next_set, boxF, buildF, fill, bsliceF, fillRows, List.replicate_one, Dk, Dl, Dm, Dn, Dp, Dq, Dr, Ds, Dt, Du, Dw, Dx, Dy, Dz, D2, D3, D4, D5, D6, D7, D8, D9, Ea, Eb, Ec, appF, List.length_cons, List.length_nil]
                  rw [endD_q (q := q) (by kernel_rfl) (by rw [hqd]; kernel_rfl)]
                  simp only [Aa, Ab, Ad, Ae, Af, Ag, Ah, Ai, Aj, Ak, Al, Ao, Ap, Aq, Ar, Au, sO_p, sO_r, sO_m, sO_a, sO_c, Av, Aw, Ax, Ay, Az, sE_p, sE_r, sE_m, sE_a, sE_c, A0, A2, A3, A4, A5, A6, A7, A8, A9, Ba, Bb, Bc, Bd, Be, Bf, Bg, Bh, Bi, Bj, Bl, Bm, Bo, Bp, Bq, Br, Bs, Bt, Bu, Bv, Tr.getP_e, Bw, Bx, ↓reduceIte, Nat.reduceEqDiff, Nat.reduceAdd, Nat.reduceSub, Nat.reduceMul, Nat.reduceDiv, Nat.reduceMod, Nat.zero_add, Nat.add_zero, beq_self_eq_true, Nat.zero_ne_one, Nat.one_ne_zero, Nat.reduceLeDiff, Int.reduceBEq, constF, unF, unary,  pickF, nilcF, faddrF, fldF, iaddrSF, arF, Bz, B3, B4, B5, B6, B7, convF, extF, lenF, eqcF, eqnF, eqN, eqPtr, isNone, loadF, storeF, allocF, callF, gets, Option.map_some, Option.bind_some, B8, B9, Ca, Cb, Cc, nbeq, nble, Cd, Ce, Cf, Cg, Ch, Ci, Cj, Ck, Cl, Cm, Cn, Co, Cp, Cq, Cr, Cs, Ct, Cu, Cv, Cw, Cx, V.w, width, unc, cmpCells, Cy, Cz, C6, C7, C8, Da, undef, List.append_nil, List.nil_append, List.cons_append, Db, Dc, resultsV, result, tup, Dd, Bool.and_true, Bool.true_and, Bool.and_self, decide_true, decide_false, Bool.not_true, Bool.not_false, Bool.true_beq, Bool.false_beq, beq_iff_eq, reduceCtorEq, Nat.succ_eq_add_one, ptr0, Int.ofNat_eq_natCast, Int.ofNat_le, Int.ofNat_lt, Int.natCast_add, De, Df, Dg, Dh, Di, List.map_cons, List.map_nil, Dj, Heap.next_add, Heap.next_set, boxF, buildF, fill, bsliceF, fillRows, List.replicate_one, Dk, Dl, Dm, Dn, Dp, Dq, Dr, Ds, Dt, Du, Dw, Dx, Dy, Dz, D2, D3, D4, D5, D6, D7, D8, D9, Ea, Eb, Ec, appF, List.length_cons, List.length_nil]
                  exact ⟨trivial, .inr trivial, _, rfl, rfl, _, _, _, hD, ok.rot _ _ _ _, rot_len _ _ _ _ _⟩

end Go.Proofs.Ytcelngepfdchiaa.disk

