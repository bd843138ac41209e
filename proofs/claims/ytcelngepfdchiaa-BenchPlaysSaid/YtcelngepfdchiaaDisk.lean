/-
  A device in the machine's heap: what each of its methods does.
-/
import Derived.Test.YtcelngepfdchiaaProg
import Derived.Test.YtcelngepfdchiaaAmSym2
set_option linter.unusedVariables false
set_option linter.unusedSimpArgs false
set_option maxRecDepth 10000
namespace Go.Proofs.Ytcelngepfdchiaa.disk
open Go.Am

/-- (*ashlar/disk.Disk).asked -/
noncomputable def c70 : CFn := ⟨[.tmp (Tr.path 4)],
 .seq (.reg [
  ⟨(some (Tr.path 4)), (some (.p (S.get (.c (.int .i64 0))))), none, []⟩]) (
 .seq (.block 0 (.seq (.reg [
    ⟨(some (Tr.path 6)), (some (.p (S.get (.t (Tr.path 0))))), none, [Tr.path 0]⟩,
    ⟨(some (Tr.path 7)), (some (.c (callF (.c (.func (.func 71) [] [])) [(.t (Tr.path 6))]))), none, [Tr.path 6]⟩,
    ⟨(some (Tr.path 5)), (some (.p (S.get (.t (Tr.path 7))))), none, [Tr.path 7]⟩]) (
   .cond (.t (Tr.path 5)) (.seq (.reg [
      ⟨(some (Tr.path 4)), (some (.p (S.get (.c (.int .i64 1))))), none, []⟩]) (
     .ret)) (.seq (.reg [
      ⟨(some (Tr.path 9)), (some (.p (S.get (.t (Tr.path 1))))), none, [Tr.path 1]⟩,
      ⟨(some (Tr.path 10)), (some (.p (arF .lss (.t (Tr.path 9)) (.c (.int .i64 0))))), none, [Tr.path 9]⟩,
      ⟨(some (Tr.path 11)), (some (.p (S.get (.t (Tr.path 10))))), none, [Tr.path 10]⟩,
      ⟨(some (Tr.path 12)), (some (.p (S.get (.t (Tr.path 1))))), (some (some (Tr.path 11), false)), [Tr.path 1]⟩,
      ⟨(some (Tr.path 13)), (some (.p (S.get (.t (Tr.path 0))))), (some (some (Tr.path 11), false)), [Tr.path 0]⟩,
      ⟨(some (Tr.path 14)), (some (.p (nilcF (.t (Tr.path 13))))), (some (some (Tr.path 11), false)), [Tr.path 13]⟩,
      ⟨(some (Tr.path 15)), (some (.p (faddrF (.t (Tr.path 14)) 0))), (some (some (Tr.path 11), false)), [Tr.path 14]⟩,
      ⟨(some (Tr.path 16)), (some (.r (loadF (.t (Tr.path 15)) 1 .sc))), (some (some (Tr.path 11), false)), [Tr.path 15]⟩,
      ⟨(some (Tr.path 17)), (some (.p (lenF (.t (Tr.path 16))))), (some (some (Tr.path 11), false)), [Tr.path 16]⟩,
      ⟨(some (Tr.path 18)), (some (.p (arF .geq (.t (Tr.path 12)) (.t (Tr.path 17))))), (some (some (Tr.path 11), false)), [Tr.path 12, Tr.path 17]⟩,
      ⟨(some (Tr.path 19)), (some (.p (pickF (.t (Tr.path 11)) (.c (.bool true)) (.t (Tr.path 18))))), none, [Tr.path 11, Tr.path 18]⟩,
      ⟨(some (Tr.path 8)), (some (.p (S.get (.t (Tr.path 19))))), none, [Tr.path 19]⟩]) (
     .cond (.t (Tr.path 8)) (.seq (.reg [
        ⟨(some (Tr.path 4)), (some (.p (S.get (.c (.int .i64 2))))), none, []⟩]) (
       .ret)) (.seq (.reg [
        ⟨(some (Tr.path 21)), (some (.p (S.get (.t (Tr.path 0))))), none, [Tr.path 0]⟩,
        ⟨(some (Tr.path 22)), (some (.p (nilcF (.t (Tr.path 21))))), none, [Tr.path 21]⟩,
        ⟨(some (Tr.path 23)), (some (.p (faddrF (.t (Tr.path 22)) 2))), none, [Tr.path 22]⟩,
        ⟨(some (Tr.path 24)), (some (.r (loadF (.t (Tr.path 23)) 1 .sc))), none, [Tr.path 23]⟩,
        ⟨(some (Tr.path 20)), (some (.p (S.get (.t (Tr.path 24))))), none, [Tr.path 24]⟩]) (
       .cond (.t (Tr.path 20)) (.seq (.reg [
          ⟨(some (Tr.path 4)), (some (.p (S.get (.c (.int .i64 9))))), none, []⟩]) (
         .ret)) (.skip)))))))) (
 .seq (.reg [
  ⟨(some (Tr.path 4)), (some (.p (S.get (.c (.int .i64 0))))), none, []⟩]) (
 .ret)))⟩
theorem c70_eq : fnOf Try.prog 70 = some c70 := by kernel_rfl

/-- (*ashlar/disk.Disk).none -/
noncomputable def c71 : CFn := ⟨[.tmp (Tr.path 2)],
 .seq (.reg [
  ⟨(some (Tr.path 2)), (some (.p (S.get (.c (.bool false))))), none, []⟩]) (
 .seq (.reg [
  ⟨(some (Tr.path 3)), (some (.p (S.get (.t (Tr.path 0))))), none, [Tr.path 0]⟩,
  ⟨(some (Tr.path 4)), (some (.r (eqnF false .ptr (.t (Tr.path 3)) (.c (.ptr none))))), none, [Tr.path 3]⟩,
  ⟨(some (Tr.path 5)), (some (.p (S.get (.t (Tr.path 4))))), none, [Tr.path 4]⟩,
  ⟨(some (Tr.path 6)), (some (.p (S.get (.t (Tr.path 0))))), (some (some (Tr.path 5), false)), [Tr.path 0]⟩,
  ⟨(some (Tr.path 7)), (some (.p (nilcF (.t (Tr.path 6))))), (some (some (Tr.path 5), false)), [Tr.path 6]⟩,
  ⟨(some (Tr.path 8)), (some (.p (faddrF (.t (Tr.path 7)) 0))), (some (some (Tr.path 5), false)), [Tr.path 7]⟩,
  ⟨(some (Tr.path 9)), (some (.r (loadF (.t (Tr.path 8)) 1 .sc))), (some (some (Tr.path 5), false)), [Tr.path 8]⟩,
  ⟨(some (Tr.path 10)), (some (.p (lenF (.t (Tr.path 9))))), (some (some (Tr.path 5), false)), [Tr.path 9]⟩,
  ⟨(some (Tr.path 11)), (some (.p (eqcF false false [.int .i64] (.t (Tr.path 10)) (.c (.int .i64 0))))), (some (some (Tr.path 5), false)), [Tr.path 10]⟩,
  ⟨(some (Tr.path 12)), (some (.p (pickF (.t (Tr.path 5)) (.c (.bool true)) (.t (Tr.path 11))))), none, [Tr.path 5, Tr.path 11]⟩,
  ⟨(some (Tr.path 2)), (some (.p (S.get (.t (Tr.path 12))))), none, [Tr.path 12]⟩]) (
 .ret))⟩
theorem c71_eq : fnOf Try.prog 71 = some c71 := by kernel_rfl

/-- (*ashlar/disk.Disk).Sure -/
noncomputable def c20 : CFn := ⟨[.cell (Tr.path 4) 64 .bk, .tmp (Tr.path 5)],
 .seq (.reg [
  ⟨(some (Tr.path 4)), (some (.m (allocF 64 [.blk 0]))), none, []⟩,
  ⟨(some (Tr.path 5)), (some (.p (S.get (.c (.int .i64 0))))), none, []⟩]) (
 .seq (.seq (.reg [
   ⟨(some (Tr.path 7)), (some (.p (S.get (.t (Tr.path 0))))), none, [Tr.path 0]⟩,
   ⟨(some (Tr.path 8)), (some (.p (S.get (.t (Tr.path 1))))), none, [Tr.path 1]⟩,
   ⟨(some (Tr.path 9)), (some (.c (callF (.c (.func (.func 70) [] [])) [(.t (Tr.path 7)), (.t (Tr.path 8))]))), none, [Tr.path 7, Tr.path 8]⟩,
   ⟨(some (Tr.path 6)), (some (.p (S.get (.t (Tr.path 9))))), none, [Tr.path 9]⟩]) (
  .seq (.reg [
   ⟨(some (Tr.path 10)), (some (.p (S.get (.t (Tr.path 6))))), none, [Tr.path 6]⟩,
   ⟨(some (Tr.path 11)), (some (.p (eqcF true false [.int .i64] (.t (Tr.path 10)) (.c (.int .i64 0))))), none, [Tr.path 10]⟩]) (
  .cond (.t (Tr.path 11)) (.seq (.reg [
     ⟨(some (Tr.path 12)), (some (.p (buildF [.blk 0] .bk []))), none, []⟩,
     ⟨(some (Tr.path 13)), (some (.p (S.get (.t (Tr.path 6))))), none, [Tr.path 6]⟩,
     ⟨none, (some (.a (storeF (.t (Tr.path 4)) (.t (Tr.path 12)) 64))), none, [Tr.path 4, Tr.path 12]⟩,
     ⟨(some (Tr.path 5)), (some (.p (S.get (.t (Tr.path 13))))), none, [Tr.path 13]⟩]) (
    .ret)) (.skip)))) (
 .seq (.reg [
  ⟨(some (Tr.path 14)), (some (.p (S.get (.t (Tr.path 0))))), none, [Tr.path 0]⟩,
  ⟨(some (Tr.path 15)), (some (.p (nilcF (.t (Tr.path 14))))), none, [Tr.path 14]⟩,
  ⟨(some (Tr.path 16)), (some (.p (faddrF (.t (Tr.path 15)) 0))), none, [Tr.path 15]⟩,
  ⟨(some (Tr.path 17)), (some (.r (loadF (.t (Tr.path 16)) 1 .sc))), none, [Tr.path 16]⟩,
  ⟨(some (Tr.path 18)), (some (.p (S.get (.t (Tr.path 1))))), none, [Tr.path 1]⟩,
  ⟨(some (Tr.path 19)), (some (.p (iaddrSF (.t (Tr.path 17)) (.t (Tr.path 18)) 64))), none, [Tr.path 17, Tr.path 18]⟩,
  ⟨(some (Tr.path 20)), (some (.r (loadF (.t (Tr.path 19)) 64 .bk))), none, [Tr.path 19]⟩,
  ⟨none, (some (.a (storeF (.t (Tr.path 4)) (.t (Tr.path 20)) 64))), none, [Tr.path 4, Tr.path 20]⟩,
  ⟨(some (Tr.path 5)), (some (.p (S.get (.c (.int .i64 0))))), none, []⟩]) (
 .ret)))⟩
theorem c20_eq : fnOf Try.prog 20 = some c20 := by kernel_rfl

noncomputable def c17_l0 : C := .seq (.seq (.reg [
      ⟨(some (Tr.path 21)), (some (.p (S.get (.t (Tr.path 7))))), none, [Tr.path 7]⟩,
      ⟨(some (Tr.path 22)), (some (.p (arF .geq (.t (Tr.path 21)) (.c (.int .i64 0))))), none, [Tr.path 21]⟩]) (
     .cond (.t (Tr.path 22)) (.skip) (.exit 0))) (
    .seq (.block 1 (.seq (.reg [
       ⟨(some (Tr.path 25)), (some (.p (S.get (.t (Tr.path 0))))), none, [Tr.path 0]⟩,
       ⟨(some (Tr.path 26)), (some (.p (nilcF (.t (Tr.path 25))))), none, [Tr.path 25]⟩,
       ⟨(some (Tr.path 27)), (some (.p (faddrF (.t (Tr.path 26)) 1))), none, [Tr.path 26]⟩,
       ⟨(some (Tr.path 28)), (some (.r (loadF (.t (Tr.path 27)) 1 .sc))), none, [Tr.path 27]⟩,
       ⟨(some (Tr.path 29)), (some (.p (S.get (.t (Tr.path 7))))), none, [Tr.path 7]⟩,
       ⟨(some (Tr.path 30)), (some (.p (iaddrSF (.t (Tr.path 28)) (.t (Tr.path 29)) 65))), none, [Tr.path 28, Tr.path 29]⟩,
       ⟨(some (Tr.path 31)), (some (.p (faddrF (.t (Tr.path 30)) 0))), none, [Tr.path 30]⟩,
       ⟨(some (Tr.path 32)), (some (.r (loadF (.t (Tr.path 31)) 1 .sc))), none, [Tr.path 31]⟩,
       ⟨(some (Tr.path 33)), (some (.p (S.get (.t (Tr.path 1))))), none, [Tr.path 1]⟩,
       ⟨(some (Tr.path 34)), (some (.p (eqcF false false [.int .i64] (.t (Tr.path 32)) (.t (Tr.path 33))))), none, [Tr.path 32, Tr.path 33]⟩]) (
      .cond (.t (Tr.path 34)) (.seq (.reg [
         ⟨(some (Tr.path 35)), (some (.p (S.get (.t (Tr.path 0))))), none, [Tr.path 0]⟩,
         ⟨(some (Tr.path 36)), (some (.p (nilcF (.t (Tr.path 35))))), none, [Tr.path 35]⟩,
         ⟨(some (Tr.path 37)), (some (.p (faddrF (.t (Tr.path 36)) 1))), none, [Tr.path 36]⟩,
         ⟨(some (Tr.path 38)), (some (.r (loadF (.t (Tr.path 37)) 1 .sc))), none, [Tr.path 37]⟩,
         ⟨(some (Tr.path 39)), (some (.p (S.get (.t (Tr.path 7))))), none, [Tr.path 7]⟩,
         ⟨(some (Tr.path 40)), (some (.p (iaddrSF (.t (Tr.path 38)) (.t (Tr.path 39)) 65))), none, [Tr.path 38, Tr.path 39]⟩,
         ⟨(some (Tr.path 41)), (some (.p (faddrF (.t (Tr.path 40)) 1))), none, [Tr.path 40]⟩,
         ⟨(some (Tr.path 42)), (some (.r (loadF (.t (Tr.path 41)) 64 .bk))), none, [Tr.path 41]⟩,
         ⟨none, (some (.a (storeF (.t (Tr.path 4)) (.t (Tr.path 42)) 64))), none, [Tr.path 4, Tr.path 42]⟩,
         ⟨(some (Tr.path 5)), (some (.p (S.get (.c (.int .i64 0))))), none, []⟩]) (
        .ret)) (.skip)))) (
    .reg [
    ⟨(some (Tr.path 23)), (some (.p (S.get (.t (Tr.path 7))))), none, [Tr.path 7]⟩,
    ⟨(some (Tr.path 24)), (some (.p (arF .sub (.t (Tr.path 23)) (.c (.int .i64 1))))), none, [Tr.path 23]⟩,
    ⟨(some (Tr.path 7)), (some (.p (S.get (.t (Tr.path 24))))), none, [Tr.path 24]⟩]))
/-- (*ashlar/disk.Disk).Read -/
noncomputable def c17 : CFn := ⟨[.cell (Tr.path 4) 64 .bk, .tmp (Tr.path 5)],
 .seq (.reg [
  ⟨(some (Tr.path 4)), (some (.m (allocF 64 [.blk 0]))), none, []⟩,
  ⟨(some (Tr.path 5)), (some (.p (S.get (.c (.int .i64 0))))), none, []⟩]) (
 .seq (.seq (.reg [
   ⟨(some (Tr.path 8)), (some (.p (S.get (.t (Tr.path 0))))), none, [Tr.path 0]⟩,
   ⟨(some (Tr.path 9)), (some (.p (S.get (.t (Tr.path 1))))), none, [Tr.path 1]⟩,
   ⟨(some (Tr.path 10)), (some (.c (callF (.c (.func (.func 70) [] [])) [(.t (Tr.path 8)), (.t (Tr.path 9))]))), none, [Tr.path 8, Tr.path 9]⟩,
   ⟨(some (Tr.path 6)), (some (.p (S.get (.t (Tr.path 10))))), none, [Tr.path 10]⟩]) (
  .seq (.reg [
   ⟨(some (Tr.path 11)), (some (.p (S.get (.t (Tr.path 6))))), none, [Tr.path 6]⟩,
   ⟨(some (Tr.path 12)), (some (.p (eqcF true false [.int .i64] (.t (Tr.path 11)) (.c (.int .i64 0))))), none, [Tr.path 11]⟩]) (
  .cond (.t (Tr.path 12)) (.seq (.reg [
     ⟨(some (Tr.path 13)), (some (.p (buildF [.blk 0] .bk []))), none, []⟩,
     ⟨(some (Tr.path 14)), (some (.p (S.get (.t (Tr.path 6))))), none, [Tr.path 6]⟩,
     ⟨none, (some (.a (storeF (.t (Tr.path 4)) (.t (Tr.path 13)) 64))), none, [Tr.path 4, Tr.path 13]⟩,
     ⟨(some (Tr.path 5)), (some (.p (S.get (.t (Tr.path 14))))), none, [Tr.path 14]⟩]) (
    .ret)) (.skip)))) (
 .seq (.seq (.reg [
   ⟨(some (Tr.path 15)), (some (.p (S.get (.t (Tr.path 0))))), none, [Tr.path 0]⟩,
   ⟨(some (Tr.path 16)), (some (.p (nilcF (.t (Tr.path 15))))), none, [Tr.path 15]⟩,
   ⟨(some (Tr.path 17)), (some (.p (faddrF (.t (Tr.path 16)) 1))), none, [Tr.path 16]⟩,
   ⟨(some (Tr.path 18)), (some (.r (loadF (.t (Tr.path 17)) 1 .sc))), none, [Tr.path 17]⟩,
   ⟨(some (Tr.path 19)), (some (.p (lenF (.t (Tr.path 18))))), none, [Tr.path 18]⟩,
   ⟨(some (Tr.path 20)), (some (.p (arF .sub (.t (Tr.path 19)) (.c (.int .i64 1))))), none, [Tr.path 19]⟩,
   ⟨(some (Tr.path 7)), (some (.p (S.get (.t (Tr.path 20))))), none, [Tr.path 20]⟩]) (
  .block 0 (.loop c17_l0))) (
 .seq (.reg [
  ⟨(some (Tr.path 43)), (some (.p (S.get (.t (Tr.path 0))))), none, [Tr.path 0]⟩,
  ⟨(some (Tr.path 44)), (some (.p (nilcF (.t (Tr.path 43))))), none, [Tr.path 43]⟩,
  ⟨(some (Tr.path 45)), (some (.p (faddrF (.t (Tr.path 44)) 0))), none, [Tr.path 44]⟩,
  ⟨(some (Tr.path 46)), (some (.r (loadF (.t (Tr.path 45)) 1 .sc))), none, [Tr.path 45]⟩,
  ⟨(some (Tr.path 47)), (some (.p (S.get (.t (Tr.path 1))))), none, [Tr.path 1]⟩,
  ⟨(some (Tr.path 48)), (some (.p (iaddrSF (.t (Tr.path 46)) (.t (Tr.path 47)) 64))), none, [Tr.path 46, Tr.path 47]⟩,
  ⟨(some (Tr.path 49)), (some (.r (loadF (.t (Tr.path 48)) 64 .bk))), none, [Tr.path 48]⟩,
  ⟨none, (some (.a (storeF (.t (Tr.path 4)) (.t (Tr.path 49)) 64))), none, [Tr.path 4, Tr.path 49]⟩,
  ⟨(some (Tr.path 5)), (some (.p (S.get (.c (.int .i64 0))))), none, []⟩]) (
 .ret))))⟩
theorem c17_eq : fnOf Try.prog 17 = some c17 := by kernel_rfl

/-- (*ashlar/disk.Disk).Write -/
noncomputable def c18 : CFn := ⟨[.tmp (Tr.path 6)],
 .seq (.reg [
  ⟨(some (Tr.path 5)), (some (.m (boxF 64 (.t (Tr.path 2))))), none, [Tr.path 2]⟩,
  ⟨(some (Tr.path 6)), (some (.p (S.get (.c (.int .i64 0))))), none, []⟩]) (
 .seq (.reg [
  ⟨(some (Tr.path 8)), (some (.p (S.get (.t (Tr.path 0))))), none, [Tr.path 0]⟩,
  ⟨(some (Tr.path 9)), (some (.p (S.get (.t (Tr.path 1))))), none, [Tr.path 1]⟩,
  ⟨(some (Tr.path 10)), (some (.c (callF (.c (.func (.func 70) [] [])) [(.t (Tr.path 8)), (.t (Tr.path 9))]))), none, [Tr.path 8, Tr.path 9]⟩,
  ⟨(some (Tr.path 7)), (some (.p (S.get (.t (Tr.path 10))))), none, [Tr.path 10]⟩]) (
 .seq (.seq (.reg [
   ⟨(some (Tr.path 11)), (some (.p (S.get (.t (Tr.path 7))))), none, [Tr.path 7]⟩,
   ⟨(some (Tr.path 12)), (some (.p (eqcF false false [.int .i64] (.t (Tr.path 11)) (.c (.int .i64 0))))), none, [Tr.path 11]⟩]) (
  .cond (.t (Tr.path 12)) (.regD [
    ⟨(some (Tr.path 13)), (some (.p (S.get (.t (Tr.path 0))))), none, [Tr.path 0]⟩,
    ⟨(some (Tr.path 14)), (some (.p (S.get (.t (Tr.path 0))))), none, [Tr.path 0]⟩,
    ⟨(some (Tr.path 15)), (some (.p (nilcF (.t (Tr.path 14))))), none, [Tr.path 14]⟩,
    ⟨(some (Tr.path 16)), (some (.p (faddrF (.t (Tr.path 15)) 1))), none, [Tr.path 15]⟩,
    ⟨(some (Tr.path 17)), (some (.r (loadF (.t (Tr.path 16)) 1 .sc))), none, [Tr.path 16]⟩,
    ⟨(some (Tr.path 18)), (some (.p (S.get (.t (Tr.path 1))))), none, [Tr.path 1]⟩,
    ⟨(some (Tr.path 19)), (some (.r (loadF (.t (Tr.path 5)) 64 .bk))), none, [Tr.path 5]⟩,
    ⟨(some (Tr.path 20)), (some (.p (buildF [.int .i64 0, .blk 0] .ag [(0, 1, (.t (Tr.path 18))), (1, 64, (.t (Tr.path 19)))]))), none, [Tr.path 18, Tr.path 19]⟩,
    ⟨(some (Tr.path 21)), (some (.m (bsliceF 1 65 [.int .i64 0, .blk 0] [(0, 65, (.t (Tr.path 20)))]))), none, [Tr.path 20]⟩,
    ⟨(some (Tr.path 22)), (some (.a (appF 65 72 (.t (Tr.path 17)) (.t (Tr.path 21))))), none, [Tr.path 17, Tr.path 21]⟩,
    ⟨(some (Tr.path 23)), (some (.p (nilcF (.t (Tr.path 13))))), none, [Tr.path 13]⟩,
    ⟨(some (Tr.path 24)), (some (.p (faddrF (.t (Tr.path 23)) 1))), none, [Tr.path 23]⟩,
    ⟨none, (some (.a (storeF (.t (Tr.path 24)) (.t (Tr.path 22)) 1))), none, [Tr.path 24, Tr.path 22]⟩] [0, 0, 2, 6, 14, 0, 0, 96, 224, 510, 1023, 2047, 4095]) (.skip))) (
 .seq (.reg [
  ⟨(some (Tr.path 25)), (some (.p (S.get (.t (Tr.path 7))))), none, [Tr.path 7]⟩,
  ⟨(some (Tr.path 6)), (some (.p (S.get (.t (Tr.path 25))))), none, [Tr.path 25]⟩]) (
 .ret))))⟩
theorem c18_eq : fnOf Try.prog 18 = some c18 := by kernel_rfl

noncomputable def c16_l0 : C := .seq (.reg [
     ⟨(some (Tr.path 17)), (some (.p (arF .lss (.t (Tr.path 16)) (.t (Tr.path 15))))), none, [Tr.path 16, Tr.path 15]⟩]) (
    .seq (.cond (.t (Tr.path 17)) (.skip) (.exit 0)) (
    .seq (.block 1 (.seq (.reg [
       ⟨(some (Tr.path 18)), (some (.p (iaddrSF (.t (Tr.path 14)) (.t (Tr.path 16)) 65))), none, [Tr.path 14, Tr.path 16]⟩,
       ⟨(some (Tr.path 19)), (some (.r (loadF (.t (Tr.path 18)) 65 .ag))), none, [Tr.path 18]⟩,
       ⟨(some (Tr.path 5)), (some (.m (allocF 65 [.int .i64 0, .blk 0]))), none, []⟩,
       ⟨none, (some (.a (storeF (.t (Tr.path 5)) (.t (Tr.path 19)) 65))), none, [Tr.path 5, Tr.path 19]⟩]) (
      .regD [
      ⟨(some (Tr.path 20)), (some (.p (S.get (.t (Tr.path 0))))), none, [Tr.path 0]⟩,
      ⟨(some (Tr.path 21)), (some (.p (nilcF (.t (Tr.path 20))))), none, [Tr.path 20]⟩,
      ⟨(some (Tr.path 22)), (some (.p (faddrF (.t (Tr.path 21)) 0))), none, [Tr.path 21]⟩,
      ⟨(some (Tr.path 23)), (some (.r (loadF (.t (Tr.path 22)) 1 .sc))), none, [Tr.path 22]⟩,
      ⟨(some (Tr.path 24)), (some (.p (faddrF (.t (Tr.path 5)) 0))), none, [Tr.path 5]⟩,
      ⟨(some (Tr.path 25)), (some (.r (loadF (.t (Tr.path 24)) 1 .sc))), none, [Tr.path 24]⟩,
      ⟨(some (Tr.path 26)), (some (.p (faddrF (.t (Tr.path 5)) 1))), none, [Tr.path 5]⟩,
      ⟨(some (Tr.path 27)), (some (.r (loadF (.t (Tr.path 26)) 64 .bk))), none, [Tr.path 26]⟩,
      ⟨(some (Tr.path 28)), (some (.p (iaddrSF (.t (Tr.path 23)) (.t (Tr.path 25)) 64))), none, [Tr.path 23, Tr.path 25]⟩,
      ⟨none, (some (.a (storeF (.t (Tr.path 28)) (.t (Tr.path 27)) 64))), none, [Tr.path 28, Tr.path 27]⟩] [0, 1, 3, 7, 0, 16, 0, 64, 255, 511]))) (
    .reg [
    ⟨(some (Tr.path 29)), (some (.p (arF .add (.t (Tr.path 16)) (.c (.int .i64 1))))), none, [Tr.path 16]⟩,
    ⟨(some (Tr.path 16)), (some (.p (S.get (.t (Tr.path 29))))), none, [Tr.path 29]⟩])))
/-- (*ashlar/disk.Disk).Flush -/
noncomputable def c16 : CFn := ⟨[.tmp (Tr.path 2)],
 .seq (.reg [
  ⟨(some (Tr.path 2)), (some (.p (S.get (.c (.int .i64 0))))), none, []⟩]) (
 .seq (.reg [
  ⟨(some (Tr.path 6)), (some (.p (S.get (.t (Tr.path 0))))), none, [Tr.path 0]⟩,
  ⟨(some (Tr.path 7)), (some (.c (callF (.c (.func (.func 70) [] [])) [(.t (Tr.path 6)), (.c (.int .i64 0))]))), none, [Tr.path 6]⟩,
  ⟨(some (Tr.path 3)), (some (.p (S.get (.t (Tr.path 7))))), none, [Tr.path 7]⟩]) (
 .seq (.seq (.reg [
   ⟨(some (Tr.path 8)), (some (.p (S.get (.t (Tr.path 3))))), none, [Tr.path 3]⟩,
   ⟨(some (Tr.path 9)), (some (.p (eqcF true false [.int .i64] (.t (Tr.path 8)) (.c (.int .i64 0))))), none, [Tr.path 8]⟩]) (
  .cond (.t (Tr.path 9)) (.seq (.reg [
     ⟨(some (Tr.path 10)), (some (.p (S.get (.t (Tr.path 3))))), none, [Tr.path 3]⟩,
     ⟨(some (Tr.path 2)), (some (.p (S.get (.t (Tr.path 10))))), none, [Tr.path 10]⟩]) (
    .ret)) (.skip))) (
 .seq (.seq (.reg [
   ⟨(some (Tr.path 11)), (some (.p (S.get (.t (Tr.path 0))))), none, [Tr.path 0]⟩,
   ⟨(some (Tr.path 12)), (some (.p (nilcF (.t (Tr.path 11))))), none, [Tr.path 11]⟩,
   ⟨(some (Tr.path 13)), (some (.p (faddrF (.t (Tr.path 12)) 1))), none, [Tr.path 12]⟩,
   ⟨(some (Tr.path 14)), (some (.r (loadF (.t (Tr.path 13)) 1 .sc))), none, [Tr.path 13]⟩,
   ⟨(some (Tr.path 15)), (some (.p (lenF (.t (Tr.path 14))))), none, [Tr.path 14]⟩,
   ⟨(some (Tr.path 16)), (some (.p (S.get (.c (.int .i64 0))))), none, []⟩]) (
  .block 0 (.loop c16_l0))) (
 .seq (.reg [
  ⟨(some (Tr.path 30)), (some (.p (S.get (.t (Tr.path 0))))), none, [Tr.path 0]⟩,
  ⟨(some (Tr.path 31)), (some (.p (nilcF (.t (Tr.path 30))))), none, [Tr.path 30]⟩,
  ⟨(some (Tr.path 32)), (some (.p (faddrF (.t (Tr.path 31)) 1))), none, [Tr.path 31]⟩,
  ⟨none, (some (.a (storeF (.t (Tr.path 32)) (.c (.slice none 0 0 0)) 1))), none, [Tr.path 32]⟩]) (
 .seq (.reg [
  ⟨(some (Tr.path 2)), (some (.p (S.get (.c (.int .i64 0))))), none, []⟩]) (
 .ret))))))⟩
theorem c16_eq : fnOf Try.prog 16 = some c16 := by kernel_rfl

noncomputable def c19_l0 : C := .seq (.reg [
     ⟨(some (Tr.path 28)), (some (.p (arF .lss (.t (Tr.path 27)) (.t (Tr.path 26))))), none, [Tr.path 27, Tr.path 26]⟩]) (
    .seq (.cond (.t (Tr.path 28)) (.skip) (.exit 0)) (
    .seq (.block 1 (.seq (.reg [
       ⟨(some (Tr.path 29)), (some (.p (S.get (.t (Tr.path 27))))), none, [Tr.path 27]⟩,
       ⟨(some (Tr.path 30)), (some (.p (iaddrSF (.t (Tr.path 25)) (.t (Tr.path 27)) 65))), none, [Tr.path 25, Tr.path 27]⟩,
       ⟨(some (Tr.path 31)), (some (.r (loadF (.t (Tr.path 30)) 65 .ag))), none, [Tr.path 30]⟩,
       ⟨(some (Tr.path 8)), (some (.m (allocF 65 [.int .i64 0, .blk 0]))), none, []⟩,
       ⟨(some (Tr.path 7)), (some (.p (S.get (.t (Tr.path 29))))), none, [Tr.path 29]⟩,
       ⟨none, (some (.a (storeF (.t (Tr.path 8)) (.t (Tr.path 31)) 65))), none, [Tr.path 8, Tr.path 31]⟩]) (
      .seq (.reg [
       ⟨(some (Tr.path 32)), (some (.p (S.get (.t (Tr.path 1))))), none, [Tr.path 1]⟩,
       ⟨(some (Tr.path 33)), (some (.p (S.get (.t (Tr.path 7))))), none, [Tr.path 7]⟩,
       ⟨(some (Tr.path 34)), (some (.p (iaddrSF (.t (Tr.path 32)) (.t (Tr.path 33)) 1))), none, [Tr.path 32, Tr.path 33]⟩,
       ⟨(some (Tr.path 35)), (some (.r (loadF (.t (Tr.path 34)) 1 .sc))), none, [Tr.path 34]⟩,
       ⟨(some (Tr.path 36)), (some (.p (foldF max2 [(.t (Tr.path 35)), (.c (.int .i64 0))]))), none, [Tr.path 35]⟩,
       ⟨(some (Tr.path 37)), (some (.p (foldF min2 [(.t (Tr.path 36)), (.c (.int .i64 64))]))), none, [Tr.path 36]⟩,
       ⟨(some (Tr.path 9)), (some (.p (S.get (.t (Tr.path 37))))), none, [Tr.path 37]⟩]) (
      .regD [
      ⟨(some (Tr.path 38)), (some (.p (S.get (.t (Tr.path 0))))), none, [Tr.path 0]⟩,
      ⟨(some (Tr.path 39)), (some (.p (nilcF (.t (Tr.path 38))))), none, [Tr.path 38]⟩,
      ⟨(some (Tr.path 40)), (some (.p (faddrF (.t (Tr.path 39)) 0))), none, [Tr.path 39]⟩,
      ⟨(some (Tr.path 41)), (some (.r (loadF (.t (Tr.path 40)) 1 .sc))), none, [Tr.path 40]⟩,
      ⟨(some (Tr.path 42)), (some (.p (faddrF (.t (Tr.path 8)) 0))), none, [Tr.path 8]⟩,
      ⟨(some (Tr.path 43)), (some (.r (loadF (.t (Tr.path 42)) 1 .sc))), none, [Tr.path 42]⟩,
      ⟨(some (Tr.path 44)), (some (.p (iaddrSF (.t (Tr.path 41)) (.t (Tr.path 43)) 64))), none, [Tr.path 41, Tr.path 43]⟩,
      ⟨(some (Tr.path 45)), (some (.p (S.get (.t (Tr.path 9))))), none, [Tr.path 9]⟩,
      ⟨(some (Tr.path 46)), (some (.p (sliceAF 64 1 (.t (Tr.path 44)) none (some (.t (Tr.path 45))) none))), none, [Tr.path 44, Tr.path 45]⟩,
      ⟨(some (Tr.path 47)), (some (.p (faddrF (.t (Tr.path 8)) 1))), none, [Tr.path 8]⟩,
      ⟨(some (Tr.path 48)), (some (.p (S.get (.t (Tr.path 9))))), none, [Tr.path 9]⟩,
      ⟨(some (Tr.path 49)), (some (.p (sliceAF 64 1 (.t (Tr.path 47)) none (some (.t (Tr.path 48))) none))), none, [Tr.path 47, Tr.path 48]⟩,
      ⟨(some (Tr.path 50)), (some (.a (cpyF 1 (.t (Tr.path 46)) (.t (Tr.path 49))))), none, [Tr.path 46, Tr.path 49]⟩] [0, 1, 3, 7, 0, 16, 63, 0, 255, 0, 0, 1536, 4095])))) (
    .reg [
    ⟨(some (Tr.path 51)), (some (.p (arF .add (.t (Tr.path 27)) (.c (.int .i64 1))))), none, [Tr.path 27]⟩,
    ⟨(some (Tr.path 27)), (some (.p (S.get (.t (Tr.path 51))))), none, [Tr.path 51]⟩])))
/-- (*ashlar/disk.Disk).Crash -/
noncomputable def c19 : CFn := ⟨[.tmp (Tr.path 4), .tmp (Tr.path 5)],
 .seq (.reg [
  ⟨(some (Tr.path 4)), (some (.p (S.get (.c (.int .i64 0))))), none, []⟩,
  ⟨(some (Tr.path 5)), (some (.p (S.get (.c (.int .i64 0))))), none, []⟩]) (
 .seq (.seq (.reg [
   ⟨(some (Tr.path 10)), (some (.p (S.get (.t (Tr.path 0))))), none, [Tr.path 0]⟩,
   ⟨(some (Tr.path 11)), (some (.c (callF (.c (.func (.func 71) [] [])) [(.t (Tr.path 10))]))), none, [Tr.path 10]⟩]) (
  .cond (.t (Tr.path 11)) (.seq (.reg [
     ⟨(some (Tr.path 4)), (some (.p (S.get (.c (.int .i64 0))))), none, []⟩,
     ⟨(some (Tr.path 5)), (some (.p (S.get (.c (.int .i64 1))))), none, []⟩]) (
    .ret)) (.skip))) (
 .seq (.reg [
  ⟨(some (Tr.path 12)), (some (.p (S.get (.t (Tr.path 0))))), none, [Tr.path 0]⟩,
  ⟨(some (Tr.path 13)), (some (.p (nilcF (.t (Tr.path 12))))), none, [Tr.path 12]⟩,
  ⟨(some (Tr.path 14)), (some (.p (faddrF (.t (Tr.path 13)) 1))), none, [Tr.path 13]⟩,
  ⟨(some (Tr.path 15)), (some (.r (loadF (.t (Tr.path 14)) 1 .sc))), none, [Tr.path 14]⟩,
  ⟨(some (Tr.path 16)), (some (.p (lenF (.t (Tr.path 15))))), none, [Tr.path 15]⟩,
  ⟨(some (Tr.path 17)), (some (.p (S.get (.t (Tr.path 1))))), none, [Tr.path 1]⟩,
  ⟨(some (Tr.path 18)), (some (.p (lenF (.t (Tr.path 17))))), none, [Tr.path 17]⟩,
  ⟨(some (Tr.path 19)), (some (.p (foldF min2 [(.t (Tr.path 16)), (.t (Tr.path 18))]))), none, [Tr.path 16, Tr.path 18]⟩,
  ⟨(some (Tr.path 6)), (some (.p (S.get (.t (Tr.path 19))))), none, [Tr.path 19]⟩]) (
 .seq (.seq (.reg [
   ⟨(some (Tr.path 20)), (some (.p (S.get (.t (Tr.path 0))))), none, [Tr.path 0]⟩,
   ⟨(some (Tr.path 21)), (some (.p (nilcF (.t (Tr.path 20))))), none, [Tr.path 20]⟩,
   ⟨(some (Tr.path 22)), (some (.p (faddrF (.t (Tr.path 21)) 1))), none, [Tr.path 21]⟩,
   ⟨(some (Tr.path 23)), (some (.r (loadF (.t (Tr.path 22)) 1 .sc))), none, [Tr.path 22]⟩,
   ⟨(some (Tr.path 24)), (some (.p (S.get (.t (Tr.path 6))))), none, [Tr.path 6]⟩,
   ⟨(some (Tr.path 25)), (some (.p (sliceF 65 (.t (Tr.path 23)) none (some (.t (Tr.path 24))) none))), none, [Tr.path 23, Tr.path 24]⟩,
   ⟨(some (Tr.path 26)), (some (.p (lenF (.t (Tr.path 25))))), none, [Tr.path 25]⟩,
   ⟨(some (Tr.path 27)), (some (.p (S.get (.c (.int .i64 0))))), none, []⟩]) (
  .block 0 (.loop c19_l0))) (
 .seq (.reg [
  ⟨(some (Tr.path 52)), (some (.p (S.get (.t (Tr.path 0))))), none, [Tr.path 0]⟩,
  ⟨(some (Tr.path 53)), (some (.p (nilcF (.t (Tr.path 52))))), none, [Tr.path 52]⟩,
  ⟨(some (Tr.path 54)), (some (.p (faddrF (.t (Tr.path 53)) 1))), none, [Tr.path 53]⟩,
  ⟨none, (some (.a (storeF (.t (Tr.path 54)) (.c (.slice none 0 0 0)) 1))), none, [Tr.path 54]⟩]) (
 .seq (.reg [
  ⟨(some (Tr.path 55)), (some (.p (S.get (.t (Tr.path 6))))), none, [Tr.path 6]⟩,
  ⟨(some (Tr.path 4)), (some (.p (S.get (.t (Tr.path 55))))), none, [Tr.path 55]⟩,
  ⟨(some (Tr.path 5)), (some (.p (S.get (.c (.int .i64 0))))), none, []⟩]) (
 .ret))))))⟩
theorem c19_eq : fnOf Try.prog 19 = some c19 := by kernel_rfl

/-- ashlar/disk.New -/
noncomputable def c23 : CFn := ⟨[.tmp (Tr.path 2), .tmp (Tr.path 3)],
 .seq (.reg [
  ⟨(some (Tr.path 2)), (some (.p (S.get (.c (.ptr none))))), none, []⟩,
  ⟨(some (Tr.path 3)), (some (.p (S.get (.c (.int .i64 0))))), none, []⟩]) (
 .seq (.seq (.reg [
   ⟨(some (Tr.path 4)), (some (.p (S.get (.t (Tr.path 0))))), none, [Tr.path 0]⟩,
   ⟨(some (Tr.path 5)), (some (.p (arF .lss (.t (Tr.path 4)) (.c (.int .i64 1))))), none, [Tr.path 4]⟩,
   ⟨(some (Tr.path 6)), (some (.p (S.get (.t (Tr.path 5))))), none, [Tr.path 5]⟩,
   ⟨(some (Tr.path 7)), (some (.p (S.get (.t (Tr.path 0))))), (some (some (Tr.path 6), false)), [Tr.path 0]⟩,
   ⟨(some (Tr.path 8)), (some (.p (arF .gtr (.t (Tr.path 7)) (.c (.int .i64 512))))), (some (some (Tr.path 6), false)), [Tr.path 7]⟩,
   ⟨(some (Tr.path 9)), (some (.p (pickF (.t (Tr.path 6)) (.c (.bool true)) (.t (Tr.path 8))))), none, [Tr.path 6, Tr.path 8]⟩]) (
  .cond (.t (Tr.path 9)) (.seq (.reg [
     ⟨(some (Tr.path 2)), (some (.p (S.get (.c (.ptr none))))), none, []⟩,
     ⟨(some (Tr.path 3)), (some (.p (S.get (.c (.int .i64 2))))), none, []⟩]) (
    .ret)) (.skip))) (
 .seq (.reg [
  ⟨(some (Tr.path 10)), (some (.p (S.get (.t (Tr.path 0))))), none, [Tr.path 0]⟩,
  ⟨(some (Tr.path 11)), (some (.m (mksliceF 64 64 [.blk 0] (.t (Tr.path 10)) (.t (Tr.path 10))))), none, [Tr.path 10, Tr.path 10]⟩,
  ⟨(some (Tr.path 12)), (some (.p (buildF [.slice none 0 0 0, .slice none 0 0 0, .bool false] .ag [(0, 1, (.t (Tr.path 11)))]))), none, [Tr.path 11]⟩,
  ⟨(some (Tr.path 13)), (some (.m (boxF 3 (.t (Tr.path 12))))), none, [Tr.path 12]⟩,
  ⟨(some (Tr.path 2)), (some (.p (S.get (.t (Tr.path 13))))), none, [Tr.path 13]⟩,
  ⟨(some (Tr.path 3)), (some (.p (S.get (.c (.int .i64 0))))), none, []⟩]) (
 .ret)))⟩
theorem c23_eq : fnOf Try.prog 23 = some c23 := by kernel_rfl


def sureRows (S : List Nat) : List (List V) := S.map fun x => [.blk x]
def looseRows (L : List (Nat × Nat)) : List (List V) := L.map fun w => [.int .i64 (w.1 : Int), .blk w.2]
structure Dev where
  S : List Nat
  L : List (Nat × Nat)
  dead : Bool
structure Lay where
  s : Bk
  so : Nat
  l : Bk
  p : Option Ptr
  o : Nat
structure DevAt (H : Heap) (b : Bk) (y : Lay) (D : Dev) : Prop where
  own : H.get b = some (.rows false 3 [[.slice (some ⟨y.s, 0⟩) D.S.length D.S.length y.so, .slice y.p D.L.length D.L.length y.o, .bool D.dead]])
  sure : H.get y.s = some (.rows false 64 (sureRows D.S))
  nil : D.L = [] → y.p = none ∧ y.o = 0
  loose : D.L ≠ [] → y.p = some ⟨y.l, 0⟩ ∧ y.o = 65 ∧ H.get y.l = some (.rows false 65 (looseRows D.L))
  old : H.Old b ∧ H.Old y.s ∧ (D.L ≠ [] → H.Old y.l)
  ne : b ≠ y.s ∧ (D.L ≠ [] → b ≠ y.l ∧ y.s ≠ y.l)

theorem DevAt.turns {H H' : Heap} {b : Bk} {y : Lay} {D : Dev} (h : DevAt H b y D) {X : Bk → Prop} (k : Turns X H H') (h1 : ¬ X b) (h2 : ¬ X y.s) (h3 : D.L ≠ [] → ¬ X y.l) : DevAt H' b y D := by
  obtain ⟨o1, o2, o3⟩ := h.old
  exact ⟨(k.same b o1 h1).trans h.own, (k.same y.s o2 h2).trans h.sure, h.nil, fun e => ⟨(h.loose e).1, (h.loose e).2.1, (k.same y.l (o3 e) (h3 e)).trans (h.loose e).2.2⟩, ⟨o1.mono k.next, o2.mono k.next, fun e => (o3 e).mono k.next⟩, h.ne⟩

section
variable {H : Heap} {b : Bk} {y : Lay} {D : Dev} (h : DevAt H b y D)
include h
theorem load0 : loadAt H ⟨b, 0⟩ 1 = some [.slice (some ⟨y.s, 0⟩) D.S.length D.S.length y.so] := by
  rw [loadAt_eq h.own rfl]; exact cut_hit _ _ rfl
theorem load1 : loadAt H ⟨b, 1⟩ 1 = some [.slice y.p D.L.length D.L.length y.o] := by
  rw [loadAt_eq h.own (by exact rfl), show 1 % 3 = 0 + 1 from rfl, cut_miss (n := 0) _ _ _ (by rfl)]; exact cut_hit _ _ rfl
theorem load2 : loadAt H ⟨b, 2⟩ 1 = some [.bool D.dead] := by
  rw [loadAt_eq h.own (by exact rfl), show 2 % 3 = 1 + 1 from rfl, cut_miss (n := 0) _ _ _ (by rfl), show 1 = 0 + 1 from rfl, cut_miss (n := 0) _ _ _ (by rfl)]; exact cut_hit _ _ rfl
theorem loadS {n : Nat} (hn : n < D.S.length) : loadAt H ⟨y.s, n * 64⟩ 64 = some [.blk D.S[n]] := by
  rw [loadAt_eq h.sure (r := [.blk D.S[n]]) (nth_of (by simp [sureRows, hn])), Nat.mul_mod_left]
  exact Dm _ _
end

def Z : Bk → Prop := fun _ => False
abbrev S0 : CallT := sumT 36

theorem none_ret {H : Heap} {b : Bk} {y : Lay} {D : Dev} (h : DevAt H b y D) (hS : D.S ≠ []) (lf m : Nat) : ret (callS Try.prog S0 lf (m + 1) 71 [.ptr (some ⟨b, 0⟩)] H) fun v H' => v = .bool false ∧ H' = H := by
  have h0 := load0 h
  have hlen : D.S.length ≠ 0 := by simpa using hS
  refine ret_call rfl c71_eq ?_
  simp only [c71, h0, Aa, Ab, Ad, Ae, Af, Ag, Ah, Ai, Aj, Ak, Al, Ao, Ap, Aq, Ar, Au, sO_p, sO_r, sO_m, sO_a, sO_c, Av, Aw, Ax, Ay, Az, sE_p, sE_r, sE_m, sE_a, sE_c, A0, A2, A3, A4, A5, A6, A7, A8, A9, Ba, Bb, Bc, Bd, Be, Bf, Bg, Bh, Bi, Bj, Bl, Bm, Bo, Bp, Bq, Br, Bs, Bt, Bu, Bv, Tr.getP_e, Bw, Bx, ↓reduceIte, Nat.reduceEqDiff, Nat.reduceAdd, Nat.reduceSub, Nat.reduceMul, Nat.reduceDiv, Nat.reduceMod, Nat.zero_add, Nat.add_zero, beq_self_eq_true, Nat.zero_ne_one, Nat.one_ne_zero, Nat.reduceLeDiff, Int.reduceBEq, constF, unF, unary,  pickF, nilcF, faddrF, fldF, iaddrSF, arF, Bz, B3, B4, B5, B6, B7, convF, extF, lenF, eqcF, eqnF, eqN, eqPtr, isNone, loadF, storeF, allocF, callF, gets, Option.map_some, Option.bind_some, B8, B9, Ca, Cb, Cc, nbeq, nble, Cd, Ce, Cf, Cg, Ch, Ci, Cj, Ck, Cl, Cm, Cn, Co, Cp, Cq, Cr, Cs, Ct, Cu, Cv, Cw, Cx, V.w, width, unc, cmpCells, Cy, Cz, C6, C7, C8, Da, undef, List.append_nil, List.nil_append, List.cons_append, Db, Dc, resultsV, result, tup, Dd, Bool.and_true, Bool.true_and, Bool.and_self, decide_true, decide_false, Bool.not_true, Bool.not_false, Bool.true_beq, Bool.false_beq, beq_iff_eq, reduceCtorEq, Nat.succ_eq_add_one, ptr0, Int.ofNat_eq_natCast, Int.ofNat_le, Int.ofNat_lt, Int.natCast_add, De, Df, Dg, Dh, Di, List.map_cons, List.map_nil, Dj, Heap.next_add, Heap.next_set, boxF, buildF, fill, bsliceF, fillRows, List.replicate_one, Dk, Dl, Dm, Dn, Dp, Dq, Dr, Ds, Dt, Du, Dw, Dx, Dy, Dz, D2, D3, D4, D5, D6, D7, D8, D9, Ea, Eb, Ec, appF, List.length_cons, List.length_nil]
  simp [hS]

theorem asked_ok {H : Heap} {b : Bk} {y : Lay} {D : Dev} (h : DevAt H b y D) {n : Nat} (hn : n < D.S.length) (hd : D.dead = false) (lf m : Nat) : ret (callS Try.prog S0 lf (m + 2) 70 [.ptr (some ⟨b, 0⟩), .int .i64 (n : Int)] H) fun v H' => v = .int .i64 0 ∧ H' = H := by
  have h0 := load0 h
  have h2 := load2 h
  have hS : D.S ≠ [] := fun e => by rw [e] at hn; simp at hn
  have hlt : ¬ ((n : Int) < 0) := by omega
  have hge : ¬ (D.S.length ≤ n) := by omega
  refine ret_call rfl c70_eq ?_
  obtain ⟨v, H1, e, rfl, rfl⟩ := none_ret h hS lf m
  simp only [c70, e, h0, h2, hd, hlt, hge, Aa, Ab, Ad, Ae, Af, Ag, Ah, Ai, Aj, Ak, Al, Ao, Ap, Aq, Ar, Au, sO_p, sO_r, sO_m, sO_a, sO_c, Av, Aw, Ax, Ay, Az, sE_p, sE_r, sE_m, sE_a, sE_c, A0, A2, A3, A4, A5, A6, A7, A8, A9, Ba, Bb, Bc, Bd, Be, Bf, Bg, Bh, Bi, Bj, Bl, Bm, Bo, Bp, Bq, Br, Bs, Bt, Bu, Bv, Tr.getP_e, Bw, Bx, ↓reduceIte, Nat.reduceEqDiff, Nat.reduceAdd, Nat.reduceSub, Nat.reduceMul, Nat.reduceDiv, Nat.reduceMod, Nat.zero_add, Nat.add_zero, beq_self_eq_true, Nat.zero_ne_one, Nat.one_ne_zero, Nat.reduceLeDiff, Int.reduceBEq, constF, unF, unary,  pickF, nilcF, faddrF, fldF, iaddrSF, arF, Bz, B3, B4, B5, B6, B7, convF, extF, lenF, eqcF, eqnF, eqN, eqPtr, isNone, loadF, storeF, allocF, callF, gets, Option.map_some, Option.bind_some, B8, B9, Ca, Cb, Cc, nbeq, nble, Cd, Ce, Cf, Cg, Ch, Ci, Cj, Ck, Cl, Cm, Cn, Co, Cp, Cq, Cr, Cs, Ct, Cu, Cv, Cw, Cx, V.w, width, unc, cmpCells, Cy, Cz, C6, C7, C8, Da, undef, List.append_nil, List.nil_append, List.cons_append, Db, Dc, resultsV, result, tup, Dd, Bool.and_true, Bool.true_and, Bool.and_self, decide_true, decide_false, Bool.not_true, Bool.not_false, Bool.true_beq, Bool.false_beq, beq_iff_eq, reduceCtorEq, Nat.succ_eq_add_one, ptr0, Int.ofNat_eq_natCast, Int.ofNat_le, Int.ofNat_lt, Int.natCast_add, De, Df, Dg, Dh, Di, List.map_cons, List.map_nil, Dj, Heap.next_add, Heap.next_set, boxF, buildF, fill, bsliceF, fillRows, List.replicate_one, Dk, Dl, Dm, Dn, Dp, Dq, Dr, Ds, Dt, Du, Dw, Dx, Dy, Dz, D2, D3, D4, D5, D6, D7, D8, D9, Ea, Eb, Ec, appF, List.length_cons, List.length_nil]
  simp

theorem sure_ok {H : Heap} {b : Bk} {y : Lay} {D : Dev} (h : DevAt H b y D) {n : Nat} (hn : n < D.S.length) (hd : D.dead = false) (lf m : Nat) : ret (callS Try.prog S0 lf (m + 3) 20 [.ptr (some ⟨b, 0⟩), .int .i64 (n : Int)] H) fun v H' => v = .tuple [.blk D.S[n], .int .i64 0] ∧ Turns Z H H' := by
  have t1 := Turns.add Z H (.rows false 64 [[.blk 0]])
  have h' := h.turns t1 id id (fun _ => id)
  have h0 := load0 h'
  have hs := loadS h' hn
  have hn1 : n + 1 ≤ D.S.length := hn
  refine ret_call rfl c20_eq ?_
  obtain ⟨v, H1, e, rfl, e1⟩ := asked_ok h' hn hd lf m
  subst e1
  simp only [c20, e, h0, hs, hn1, Aa, Ab, Ad, Ae, Af, Ag, Ah, Ai, Aj, Ak, Al, Ao, Ap, Aq, Ar, Au, sO_p, sO_r, sO_m, sO_a, sO_c, Av, Aw, Ax, Ay, Az, sE_p, sE_r, sE_m, sE_a, sE_c, A0, A2, A3, A4, A5, A6, A7, A8, A9, Ba, Bb, Bc, Bd, Be, Bf, Bg, Bh, Bi, Bj, Bl, Bm, Bo, Bp, Bq, Br, Bs, Bt, Bu, Bv, Tr.getP_e, Bw, Bx, ↓reduceIte, Nat.reduceEqDiff, Nat.reduceAdd, Nat.reduceSub, Nat.reduceMul, Nat.reduceDiv, Nat.reduceMod, Nat.zero_add, Nat.add_zero, beq_self_eq_true, Nat.zero_ne_one, Nat.one_ne_zero, Nat.reduceLeDiff, Int.reduceBEq, constF, unF, unary,  pickF, nilcF, faddrF, fldF, iaddrSF, arF, Bz, B3, B4, B5, B6, B7, convF, extF, lenF, eqcF, eqnF, eqN, eqPtr, isNone, loadF, storeF, allocF, callF, gets, Option.map_some, Option.bind_some, B8, B9, Ca, Cb, Cc, nbeq, nble, Cd, Ce, Cf, Cg, Ch, Ci, Cj, Ck, Cl, Cm, Cn, Co, Cp, Cq, Cr, Cs, Ct, Cu, Cv, Cw, Cx, V.w, width, unc, cmpCells, Cy, Cz, C6, C7, C8, Da, undef, List.append_nil, List.nil_append, List.cons_append, Db, Dc, resultsV, result, tup, Dd, Bool.and_true, Bool.true_and, Bool.and_self, decide_true, decide_false, Bool.not_true, Bool.not_false, Bool.true_beq, Bool.false_beq, beq_iff_eq, reduceCtorEq, Nat.succ_eq_add_one, ptr0, Int.ofNat_eq_natCast, Int.ofNat_le, Int.ofNat_lt, Int.natCast_add, De, Df, Dg, Dh, Di, List.map_cons, List.map_nil, Dj, Heap.next_add, Heap.next_set, boxF, buildF, fill, bsliceF, fillRows, List.replicate_one, Dk, Dl, Dm, Dn, Dp, Dq, Dr, Ds, Dt, Du, Dw, Dx, Dy, Dz, D2, D3, D4, D5, D6, D7, D8, D9, Ea, Eb, Ec, appF, List.length_cons, List.length_nil]
  simp
  exact t1.setnew (Nat.le_refl _) _

/-- what was written last to a sector -/
def look : List (Nat × Nat) → Nat → Option Nat
  | [], _ => none
  | w :: l, n => match look l n with
    | some x => some x
    | none => if w.1 = n then some w.2 else none

theorem look_none : ∀ {l : List (Nat × Nat)} {n : Nat}, (∀ w ∈ l, w.1 ≠ n) → look l n = none
  | [], n, _ => rfl
  | w :: l, n, h => by
    unfold look
    rw [look_none (fun v hv => h v (List.mem_cons_of_mem _ hv))]
    exact if_neg (h w (List.mem_cons_self ..))
theorem look_at : ∀ {l : List (Nat × Nat)} {n k : Nat} (hk : k < l.length), l[k].1 = n → (∀ j, (hj : j < l.length) → k < j → l[j].1 ≠ n) → look l n = some l[k].2
  | w :: l, n, 0, hk, h1, h2 => by
    unfold look
    rw [look_none (fun v hv => by
      obtain ⟨j, hj, rfl⟩ := List.getElem_of_mem hv
      exact h2 (j + 1) (by simpa using hj) (by omega))]
    exact if_pos h1
  | w :: l, n, k + 1, hk, h1, h2 => by
    unfold look
    rw [look_at (l := l) (k := k) (by simpa using hk) h1 (fun j hj hlt => h2 (j + 1) (by simpa using hj) (by omega))]
    rfl

noncomputable def readN (D : Dev) (n : Nat) : Nat := match look D.L n with
  | some x => x
  | none => D.S.getD n 0

section
variable {H : Heap} {b : Bk} {y : Lay} {D : Dev} (h : DevAt H b y D)
include h
theorem loadL1 {k : Nat} (hk : k < D.L.length) : loadAt H ⟨y.l, k * 65⟩ 1 = some [.int .i64 (D.L[k].1 : Int)] := by
  have hne : D.L ≠ [] := fun e => by rw [e] at hk; simp at hk
  rw [loadAt_eq (h.loose hne).2.2 (r := [.int .i64 (D.L[k].1 : Int), .blk D.L[k].2]) (nth_of (by simp [looseRows, hk])), Nat.mul_mod_left]
  exact cut_hit _ _ rfl
theorem loadL2 {k : Nat} (hk : k < D.L.length) : loadAt H ⟨y.l, k * 65 + 1⟩ 64 = some [.blk D.L[k].2] := by
  have hne : D.L ≠ [] := fun e => by rw [e] at hk; simp at hk
  have e1 : (k * 65 + 1) / 65 = k := by omega
  have e2 : (k * 65 + 1) % 65 = 0 + 1 := by omega
  rw [loadAt_eq (h.loose hne).2.2 (r := [.int .i64 (D.L[k].1 : Int), .blk D.L[k].2]) (nth_of (by rw [e1]; simp [looseRows, hk])), e2, cut_miss (n := 63) _ _ _ (by rfl)]
  exact Dm _ _
end

theorem read_ok {H : Heap} {b : Bk} {y : Lay} {D : Dev} (h : DevAt H b y D) {n : Nat} (hn : n < D.S.length) (hd : D.dead = false) {lf : Nat} (hlf : D.L.length + 1 < lf) (hmax : D.L.length < 1000000) (m : Nat) : ret (callS Try.prog S0 lf (m + 3) 17 [.ptr (some ⟨b, 0⟩), .int .i64 (n : Int)] H) fun v H' => v = .tuple [.blk (readN D n), .int .i64 0] ∧ Turns Z H H' := by
  have t1 := Turns.add Z H (.rows false 64 [[.blk 0]])
  have h' := h.turns t1 id id (fun _ => id)
  have h0 := load0 h'
  have h1 := load1 h'
  have hs := loadS h' hn
  have hn1 : n + 1 ≤ D.S.length := hn
  refine ret_call rfl c17_eq ?_
  obtain ⟨v, H1, e, rfl, e1⟩ := asked_ok h' hn hd lf m
  subst e1
  have hloop : ∀ t : T, t.getP (Tr.path 0) = some (.ptr (some ⟨b, 0⟩)) → t.getP (Tr.path 1) = some (.int .i64 (n : Int)) → t.getP (Tr.path 4) = some (.ptr (some ⟨.run H.next, 0⟩)) → t.getP (Tr.path 7) = some (.int .i64 ((D.L.length : Int) - 1)) →
      wp (loopF (runC (callS Try.prog S0 lf (m + 2)) lf c17_l0) lf ⟨t, H.add (.rows false 64 [[.blk 0]]), []⟩) fun x s =>
        (x = .ex 0 ∧ look D.L n = none ∧ s.H = H.add (.rows false 64 [[.blk 0]]) ∧ s.d = [] ∧ s.t.getP (Tr.path 0) = some (.ptr (some ⟨b, 0⟩)) ∧ s.t.getP (Tr.path 1) = some (.int .i64 (n : Int)) ∧ s.t.getP (Tr.path 4) = some (.ptr (some ⟨.run H.next, 0⟩))) ∨
        (x = .ret ∧ ∃ v, look D.L n = some v ∧ s.H = (H.add (.rows false 64 [[.blk 0]])).set (.run H.next) (.rows false 64 [[.blk v]]) ∧ s.d = [] ∧ s.t.getP (Tr.path 4) = some (.ptr (some ⟨.run H.next, 0⟩)) ∧ s.t.getP (Tr.path 5) = some (.int .i64 0)) := by
    intro t q0 q1 q4 q7
    refine wp_loopF (fun k s => k ≤ D.L.length ∧ s.H = H.add (.rows false 64 [[.blk 0]]) ∧ s.d = [] ∧ s.t.getP (Tr.path 0) = some (.ptr (some ⟨b, 0⟩)) ∧ s.t.getP (Tr.path 1) = some (.int .i64 (n : Int)) ∧ s.t.getP (Tr.path 4) = some (.ptr (some ⟨.run H.next, 0⟩)) ∧ s.t.getP (Tr.path 7) = some (.int .i64 ((k : Int) - 1)) ∧ ∀ j, (hj : j < D.L.length) → k ≤ j → D.L[j].1 ≠ n) ?_ lf D.L.length _ ⟨Nat.le_refl _, rfl, rfl, q0, q1, q4, q7, fun j hj hk => absurd hj (by omega)⟩ (by omega)
    rintro k ⟨t, HH, d⟩ ⟨hk, rfl, rfl, q0, q1, q4, q7, hall⟩
    dsimp only at q0 q1 q4 q7
    cases k with
    | zero =>
      have hg : ¬ ((0 : Int) ≤ ((0 : Nat) : Int) - 1) := by decide
      have hl : look D.L n = none := look_none (by intro w hw; obtain ⟨j, hj, rfl⟩ := List.getElem_of_mem hw; exact hall j hj (by omega))
      simp only [c17_l0, q0, q1, q4, q7, hg, hl, Aa, Ab, Ad, Ae, Af, Ag, Ah, Ai, Aj, Ak, Al, Ao, Ap, Aq, Ar, Au, sO_p, sO_r, sO_m, sO_a, sO_c, Av, Aw, Ax, Ay, Az, sE_p, sE_r, sE_m, sE_a, sE_c, A0, A2, A3, A4, A5, A6, A7, A8, A9, Ba, Bb, Bc, Bd, Be, Bf, Bg, Bh, Bi, Bj, Bl, Bm, Bo, Bp, Bq, Br, Bs, Bt, Bu, Bv, Tr.getP_e, Bw, Bx, ↓reduceIte, Nat.reduceEqDiff, Nat.reduceAdd, Nat.reduceSub, Nat.reduceMul, Nat.reduceDiv, Nat.reduceMod, Nat.zero_add, Nat.add_zero, beq_self_eq_true, Nat.zero_ne_one, Nat.one_ne_zero, Nat.reduceLeDiff, Int.reduceBEq, constF, unF, unary,  pickF, nilcF, faddrF, fldF, iaddrSF, arF, Bz, B3, B4, B5, B6, B7, convF, extF, lenF, eqcF, eqnF, eqN, eqPtr, isNone, loadF, storeF, allocF, callF, gets, Option.map_some, Option.bind_some, B8, B9, Ca, Cb, Cc, nbeq, nble, Cd, Ce, Cf, Cg, Ch, Ci, Cj, Ck, Cl, Cm, Cn, Co, Cp, Cq, Cr, Cs, Ct, Cu, Cv, Cw, Cx, V.w, width, unc, cmpCells, Cy, Cz, C6, C7, C8, Da, undef, List.append_nil, List.nil_append, List.cons_append, Db, Dc, resultsV, result, tup, Dd, Bool.and_true, Bool.true_and, Bool.and_self, decide_true, decide_false, Bool.not_true, Bool.not_false, Bool.true_beq, Bool.false_beq, beq_iff_eq, reduceCtorEq, Nat.succ_eq_add_one, ptr0, Int.ofNat_eq_natCast, Int.ofNat_le, Int.ofNat_lt, Int.natCast_add, De, Df, Dg, Dh, Di, List.map_cons, List.map_nil, Dj, Heap.next_add, Heap.next_set, boxF, buildF, fill, bsliceF, fillRows, List.replicate_one, Dk, Dl, Dm, Dn, Dp, Dq, Dr, Ds, Dt, Du, Dw, Dx, Dy, Dz, D2, D3, D4, D5, D6, D7, D8, D9, Ea, Eb, Ec, appF, List.length_cons, List.length_nil]
      simp
    | succ k =>
      have hk' : k < D.L.length := hk
      have hp := (h.loose (fun e => by rw [e] at hk'; simp at hk')).1
      have l1 := loadL1 h' hk'
      have l2 := loadL2 h' hk'
      have hg : ((k + 1 : Nat) : Int) - 1 = (k : Int) := by omega
      rw [hg] at q7
      have hge : (0 : Int) ≤ (k : Int) := by omega
      have hw : IntKind.i64.wrap ((k : Int) - 1) = (k : Int) - 1 := wrap_i64 (by omega)
      by_cases hx : D.L[k].1 = n
      · have hl : look D.L n = some D.L[k].2 := look_at hk' hx (fun j hj hlt => hall j hj hlt)
        simp only [c17_l0, q0, q1, q4, q7, hge, h1, hp, l1, l2, hk, hx, hw, hl, Aa, Ab, Ad, Ae, Af, Ag, Ah, Ai, Aj, Ak, Al, Ao, Ap, Aq, Ar, Au, sO_p, sO_r, sO_m, sO_a, sO_c, Av, Aw, Ax, Ay, Az, sE_p, sE_r, sE_m, sE_a, sE_c, A0, A2, A3, A4, A5, A6, A7, A8, A9, Ba, Bb, Bc, Bd, Be, Bf, Bg, Bh, Bi, Bj, Bl, Bm, Bo, Bp, Bq, Br, Bs, Bt, Bu, Bv, Tr.getP_e, Bw, Bx, ↓reduceIte, Nat.reduceEqDiff, Nat.reduceAdd, Nat.reduceSub, Nat.reduceMul, Nat.reduceDiv, Nat.reduceMod, Nat.zero_add, Nat.add_zero, beq_self_eq_true, Nat.zero_ne_one, Nat.one_ne_zero, Nat.reduceLeDiff, Int.reduceBEq, constF, unF, unary,  pickF, nilcF, faddrF, fldF, iaddrSF, arF, Bz, B3, B4, B5, B6, B7, convF, extF, lenF, eqcF, eqnF, eqN, eqPtr, isNone, loadF, storeF, allocF, callF, gets, Option.map_some, Option.bind_some, B8, B9, Ca, Cb, Cc, nbeq, nble, Cd, Ce, Cf, Cg, Ch, Ci, Cj, Ck, Cl, Cm, Cn, Co, Cp, Cq, Cr, Cs, Ct, Cu, Cv, Cw, Cx, V.w, width, unc, cmpCells, Cy, Cz, C6, C7, C8, Da, undef, List.append_nil, List.nil_append, List.cons_append, Db, Dc, resultsV, result, tup, Dd, Bool.and_true, Bool.true_and, Bool.and_self, decide_true, decide_false, Bool.not_true, Bool.not_false, Bool.true_beq, Bool.false_beq, beq_iff_eq, reduceCtorEq, Nat.succ_eq_add_one, ptr0, Int.ofNat_eq_natCast, Int.ofNat_le, Int.ofNat_lt, Int.natCast_add, De, Df, Dg, Dh, Di, List.map_cons, List.map_nil, Dj, Heap.next_add, Heap.next_set, boxF, buildF, fill, bsliceF, fillRows, List.replicate_one, Dk, Dl, Dm, Dn, Dp, Dq, Dr, Ds, Dt, Du, Dw, Dx, Dy, Dz, D2, D3, D4, D5, D6, D7, D8, D9, Ea, Eb, Ec, appF, List.length_cons, List.length_nil]
        simp
      · have hx' : (((D.L[k].1 : Nat) : Int) == (n : Int)) = false := by simp; omega
        simp only [c17_l0, q0, q1, q4, q7, hge, h1, hp, l1, l2, hk, hx', hw, Aa, Ab, Ad, Ae, Af, Ag, Ah, Ai, Aj, Ak, Al, Ao, Ap, Aq, Ar, Au, sO_p, sO_r, sO_m, sO_a, sO_c, Av, Aw, Ax, Ay, Az, sE_p, sE_r, sE_m, sE_a, sE_c, A0, A2, A3, A4, A5, A6, A7, A8, A9, Ba, Bb, Bc, Bd, Be, Bf, Bg, Bh, Bi, Bj, Bl, Bm, Bo, Bp, Bq, Br, Bs, Bt, Bu, Bv, Tr.getP_e, Bw, Bx, ↓reduceIte, Nat.reduceEqDiff, Nat.reduceAdd, Nat.reduceSub, Nat.reduceMul, Nat.reduceDiv, Nat.reduceMod, Nat.zero_add, Nat.add_zero, beq_self_eq_true, Nat.zero_ne_one, Nat.one_ne_zero, Nat.reduceLeDiff, Int.reduceBEq, constF, unF, unary,  pickF, nilcF, faddrF, fldF, iaddrSF, arF, Bz, B3, B4, B5, B6, B7, convF, extF, lenF, eqcF, eqnF, eqN, eqPtr, isNone, loadF, storeF, allocF, callF, gets, Option.map_some, Option.bind_some, B8, B9, Ca, Cb, Cc, nbeq, nble, Cd, Ce, Cf, Cg, Ch, Ci, Cj, Ck, Cl, Cm, Cn, Co, Cp, Cq, Cr, Cs, Ct, Cu, Cv, Cw, Cx, V.w, width, unc, cmpCells, Cy, Cz, C6, C7, C8, Da, undef, List.append_nil, List.nil_append, List.cons_append, Db, Dc, resultsV, result, tup, Dd, Bool.and_true, Bool.true_and, Bool.and_self, decide_true, decide_false, Bool.not_true, Bool.not_false, Bool.true_beq, Bool.false_beq, beq_iff_eq, reduceCtorEq, Nat.succ_eq_add_one, ptr0, Int.ofNat_eq_natCast, Int.ofNat_le, Int.ofNat_lt, Int.natCast_add, De, Df, Dg, Dh, Di, List.map_cons, List.map_nil, Dj, Heap.next_add, Heap.next_set, boxF, buildF, fill, bsliceF, fillRows, List.replicate_one, Dk, Dl, Dm, Dn, Dp, Dq, Dr, Ds, Dt, Du, Dw, Dx, Dy, Dz, D2, D3, D4, D5, D6, D7, D8, D9, Ea, Eb, Ec, appF, List.length_cons, List.length_nil]
        refine ⟨k, Nat.lt_succ_self k, by omega, trivial, trivial, trivial, trivial, trivial, rfl, fun j hj hkj => ?_⟩
        by_cases e : j = k
        · subst e; exact hx
        · exact hall j hj (by omega)
  have hw : IntKind.i64.wrap ((D.L.length : Int) - 1) = (D.L.length : Int) - 1 := wrap_i64 (by omega)
  simp only [c17, e, h0, h1, hs, hn1, hw, Aa, Ab, Ad, Ae, Af, Ag, Ah, Ai, Aj, Ak, Al, Ao, Ap, Aq, Ar, Au, sO_p, sO_r, sO_m, sO_a, sO_c, Av, Aw, Ax, Ay, Az, sE_p, sE_r, sE_m, sE_a, sE_c, A0, A2, A3, A4, A5, A6, A7, A8, A9, Ba, Bb, Bc, Bd, Be, Bf, Bg, Bh, Bi, Bj, Bl, Bm, Bo, Bp, Bq, Br, Bs, Bt, Bu, Bv, Tr.getP_e, Bw, Bx, ↓reduceIte, Nat.reduceEqDiff, Nat.reduceAdd, Nat.reduceSub, Nat.reduceMul, Nat.reduceDiv, Nat.reduceMod, Nat.zero_add, Nat.add_zero, beq_self_eq_true, Nat.zero_ne_one, Nat.one_ne_zero, Nat.reduceLeDiff, Int.reduceBEq, constF, unF, unary,  pickF, nilcF, faddrF, fldF, iaddrSF, arF, Bz, B3, B4, B5, B6, B7, convF, extF, lenF, eqcF, eqnF, eqN, eqPtr, isNone, loadF, storeF, allocF, callF, gets, Option.map_some, Option.bind_some, B8, B9, Ca, Cb, Cc, nbeq, nble, Cd, Ce, Cf, Cg, Ch, Ci, Cj, Ck, Cl, Cm, Cn, Co, Cp, Cq, Cr, Cs, Ct, Cu, Cv, Cw, Cx, V.w, width, unc, cmpCells, Cy, Cz, C6, C7, C8, Da, undef, List.append_nil, List.nil_append, List.cons_append, Db, Dc, resultsV, result, tup, Dd, Bool.and_true, Bool.true_and, Bool.and_self, decide_true, decide_false, Bool.not_true, Bool.not_false, Bool.true_beq, Bool.false_beq, beq_iff_eq, reduceCtorEq, Nat.succ_eq_add_one, ptr0, Int.ofNat_eq_natCast, Int.ofNat_le, Int.ofNat_lt, Int.natCast_add, De, Df, Dg, Dh, Di, List.map_cons, List.map_nil, Dj, Heap.next_add, Heap.next_set, boxF, buildF, fill, bsliceF, fillRows, List.replicate_one, Dk, Dl, Dm, Dn, Dp, Dq, Dr, Ds, Dt, Du, Dw, Dx, Dy, Dz, D2, D3, D4, D5, D6, D7, D8, D9, Ea, Eb, Ec, appF, List.length_cons, List.length_nil]
  refine wp_ctx (F := fun r => seqC _ _ _ (blockC _ r)) (hloop _ ?_ ?_ ?_ ?_) ?_
  · simp only [Bv, Tr.getP_e, ↓reduceIte, Nat.reduceEqDiff, Nat.zero_ne_one, Nat.one_ne_zero, Bw, Bx, Nat.reduceAdd, Nat.zero_add, Int.ofNat_eq_natCast]
  · simp only [Bv, Tr.getP_e, ↓reduceIte, Nat.reduceEqDiff, Nat.zero_ne_one, Nat.one_ne_zero, Bw, Bx, Nat.reduceAdd, Nat.zero_add, Int.ofNat_eq_natCast]
  · simp only [Bv, Tr.getP_e, ↓reduceIte, Nat.reduceEqDiff, Nat.zero_ne_one, Nat.one_ne_zero, Bw, Bx, Nat.reduceAdd, Nat.zero_add, Int.ofNat_eq_natCast]
  · simp only [Bv, Tr.getP_e, ↓reduceIte, Nat.reduceEqDiff, Nat.zero_ne_one, Nat.one_ne_zero, Bw, Bx, Nat.reduceAdd, Nat.zero_add, Int.ofNat_eq_natCast]
  rintro x ⟨t, HH, d⟩ (⟨rfl, hlk, rfl, rfl, q0, q1, q4⟩ | ⟨rfl, v, hlk, rfl, rfl, q4, q5⟩)
  · dsimp only at q0 q1 q4
    simp only [c17, q0, q1, q4, h0, hs, hn1, Aa, Ab, Ad, Ae, Af, Ag, Ah, Ai, Aj, Ak, Al, Ao, Ap, Aq, Ar, Au, sO_p, sO_r, sO_m, sO_a, sO_c, Av, Aw, Ax, Ay, Az, sE_p, sE_r, sE_m, sE_a, sE_c, A0, A2, A3, A4, A5, A6, A7, A8, A9, Ba, Bb, Bc, Bd, Be, Bf, Bg, Bh, Bi, Bj, Bl, Bm, Bo, Bp, Bq, Br, Bs, Bt, Bu, Bv, Tr.getP_e, Bw, Bx, ↓reduceIte, Nat.reduceEqDiff, Nat.reduceAdd, Nat.reduceSub, Nat.reduceMul, Nat.reduceDiv, Nat.reduceMod, Nat.zero_add, Nat.add_zero, beq_self_eq_true, Nat.zero_ne_one, Nat.one_ne_zero, Nat.reduceLeDiff, Int.reduceBEq, constF, unF, unary,  pickF, nilcF, faddrF, fldF, iaddrSF, arF, Bz, B3, B4, B5, B6, B7, convF, extF, lenF, eqcF, eqnF, eqN, eqPtr, isNone, loadF, storeF, allocF, callF, gets, Option.map_some, Option.bind_some, B8, B9, Ca, Cb, Cc, nbeq, nble, Cd, Ce, Cf, Cg, Ch, Ci, Cj, Ck, Cl, Cm, Cn, Co, Cp, Cq, Cr, Cs, Ct, Cu, Cv, Cw, Cx, V.w, width, unc, cmpCells, Cy, Cz, C6, C7, C8, Da, undef, List.append_nil, List.nil_append, List.cons_append, Db, Dc, resultsV, result, tup, Dd, Bool.and_true, Bool.true_and, Bool.and_self, decide_true, decide_false, Bool.not_true, Bool.not_false, Bool.true_beq, Bool.false_beq, beq_iff_eq, reduceCtorEq, Nat.succ_eq_add_one, ptr0, Int.ofNat_eq_natCast, Int.ofNat_le, Int.ofNat_lt, Int.natCast_add, De, Df, Dg, Dh, Di, List.map_cons, List.map_nil, Dj, Heap.next_add, Heap.next_set, boxF, buildF, fill, bsliceF, fillRows, List.replicate_one, Dk, Dl, Dm, Dn, Dp, Dq, Dr, Ds, Dt, Du, Dw, Dx, Dy, Dz, D2, D3, D4, D5, D6, D7, D8, D9, Ea, Eb, Ec, appF, List.length_cons, List.length_nil]
    simp
    exact ⟨by simp [readN, hlk, hn], t1.setnew (Nat.le_refl _) _⟩
  · dsimp only at q4 q5
    simp only [q4, q5, Aa, Ab, Ad, Ae, Af, Ag, Ah, Ai, Aj, Ak, Al, Ao, Ap, Aq, Ar, Au, sO_p, sO_r, sO_m, sO_a, sO_c, Av, Aw, Ax, Ay, Az, sE_p, sE_r, sE_m, sE_a, sE_c, A0, A2, A3, A4, A5, A6, A7, A8, A9, Ba, Bb, Bc, Bd, Be, Bf, Bg, Bh, Bi, Bj, Bl, Bm, Bo, Bp, Bq, Br, Bs, Bt, Bu, Bv, Tr.getP_e, Bw, Bx, ↓reduceIte, Nat.reduceEqDiff, Nat.reduceAdd, Nat.reduceSub, Nat.reduceMul, Nat.reduceDiv, Nat.reduceMod, Nat.zero_add, Nat.add_zero, beq_self_eq_true, Nat.zero_ne_one, Nat.one_ne_zero, Nat.reduceLeDiff, Int.reduceBEq, constF, unF, unary,  pickF, nilcF, faddrF, fldF, iaddrSF, arF, Bz, B3, B4, B5, B6, B7, convF, extF, lenF, eqcF, eqnF, eqN, eqPtr, isNone, loadF, storeF, allocF, callF, gets, Option.map_some, Option.bind_some, B8, B9, Ca, Cb, Cc, nbeq, nble, Cd, Ce, Cf, Cg, Ch, Ci, Cj, Ck, Cl, Cm, Cn, Co, Cp, Cq, Cr, Cs, Ct, Cu, Cv, Cw, Cx, V.w, width, unc, cmpCells, Cy, Cz, C6, C7, C8, Da, undef, List.append_nil, List.nil_append, List.cons_append, Db, Dc, resultsV, result, tup, Dd, Bool.and_true, Bool.true_and, Bool.and_self, decide_true, decide_false, Bool.not_true, Bool.not_false, Bool.true_beq, Bool.false_beq, beq_iff_eq, reduceCtorEq, Nat.succ_eq_add_one, ptr0, Int.ofNat_eq_natCast, Int.ofNat_le, Int.ofNat_lt, Int.natCast_add, De, Df, Dg, Dh, Di, List.map_cons, List.map_nil, Dj, Heap.next_add, Heap.next_set, boxF, buildF, fill, bsliceF, fillRows, List.replicate_one, Dk, Dl, Dm, Dn, Dp, Dq, Dr, Ds, Dt, Du, Dw, Dx, Dy, Dz, D2, D3, D4, D5, D6, D7, D8, D9, Ea, Eb, Ec, appF, List.length_cons, List.length_nil]
    simp
    exact ⟨by simp [readN, hlk], t1.setnew (Nat.le_refl _) _⟩

def Foot (b : Bk) (y : Lay) (D : Dev) : Bk → Prop := fun c => c = b ∨ c = y.s ∨ (D.L ≠ [] ∧ c = y.l)

/-- a device behind a method that turned it -/
structure Next (H : Heap) (b : Bk) (y : Lay) (D : Dev) (H' : Heap) (y' : Lay) (D' : Dev) : Prop where
  dev : DevAt H' b y' D'
  turns : Turns (Foot b y D) H H'
  s : y'.s = y.s
  l : D'.L ≠ [] → (D.L ≠ [] ∧ y'.l = y.l) ∨ ¬ H.Old y'.l

noncomputable def killed (H : Heap) (y : Lay) (D : Dev) : Heap := match D.L with
  | [] => H
  | _ :: _ => H.set y.l .dead

theorem app_dev {H : Heap} {b : Bk} {y : Lay} {D : Dev} (h : DevAt H b y D) (hmax : D.L.length < 1000000) {x : Bk} {n B : Nat} (hx : H.get x = some (.rows false 65 [[.int .i64 (n : Int), .blk B]])) :
    appendV 65 72 H (.slice y.p D.L.length D.L.length y.o) (.slice (some ⟨x, 0⟩) 1 1 0) = some (.slice (some ⟨.run H.next, 0⟩) (D.L.length + 1) (D.L.length + 1) 65, (killed H y D).add (.rows false 65 (looseRows (D.L ++ [(n, B)])))) := by
  have he : elems H x 65 1 0 = some [[.int .i64 (n : Int), .blk B]] := by
    simp only [elems]
    rw [loadAt_eq hx (r := [.int .i64 (n : Int), .blk B]) rfl, Dn]
    rfl
  by_cases hL : D.L = []
  · obtain ⟨hp, ho⟩ := h.nil hL
    rw [hp, ho]
    simp only [appendV, lenOf, nbeq, nble, firstE, he, killed, hL]
    simp [elems, looseRows]
  · obtain ⟨hp, ho, hg⟩ := h.loose hL
    rw [hp, ho]
    have hk : killed H y D = H.set y.l .dead := by unfold killed; cases hD : D.L with
      | nil => exact absurd hD hL
      | cons w l => rfl
    have hlen : (looseRows D.L).length = D.L.length := by simp [looseRows]
    simp only [appendV, lenOf, nbeq, nble, firstE, he, hg, hk]
    have e1 : (D.L.length + 1) * 72 ≤ 1099511627776 := by omega
    have e2 : D.L.length + 1 ≤ 1099511627776 := by omega
    simp [B9, B8, Cb, e1, e2, hlen, looseRows]

theorem killed_next (H : Heap) (y : Lay) (D : Dev) : (killed H y D).next = H.next := by unfold killed; cases D.L <;> rfl
theorem killed_get {H : Heap} {y : Lay} {D : Dev} {c : Bk} (hc : D.L ≠ [] → c ≠ y.l) : (killed H y D).get c = H.get c := by
  unfold killed
  cases hD : D.L with
  | nil => rfl
  | cons w l => exact (Heap.get_set ..).trans (if_neg (hc (by rw [hD]; exact List.cons_ne_nil _ _)))
theorem killed_turns (H : Heap) (b : Bk) (y : Lay) (D : Dev) : Turns (Foot b y D) H (killed H y D) := by
  unfold killed
  cases hD : D.L with
  | nil => exact Turns.refl _ _
  | cons w l => exact Turns.set (.inr (.inr ⟨by rw [hD]; exact List.cons_ne_nil _ _, rfl⟩)) _ _

theorem put_own (a c d v : V) (ha : a.asBlk = none) (hc : c.asBlk = none) (hv : v.flat = true) : put [a, c, d] 1 [v] = some [a, v, d] := by
  rw [show 1 = 0 + 1 from rfl, put_miss _ _ _ _ _ ha, put_hit _ _ _ hc hv]; rfl

theorem write_ok {H : Heap} {b : Bk} {y : Lay} {D : Dev} (h : DevAt H b y D) {n : Nat} (hn : n < D.S.length) (hd : D.dead = false) (hmax : D.L.length < 1000000) (B : Nat) (lf m : Nat) :
    ret (callS Try.prog S0 lf (m + 3) 18 [.ptr (some ⟨b, 0⟩), .int .i64 (n : Int), .blk B] H) fun v H' => v = .int .i64 0 ∧ ∃ y', Next H b y D H' y' { D with L := D.L ++ [(n, B)] } := by
  have t1 := Turns.add Z H (.rows false 64 [[.blk B]])
  have h' := h.turns t1 id id (fun _ => id)
  have t2 := t1.addm (.rows false 65 [[.int .i64 (n : Int), .blk B]])
  have h'' := h.turns t2 id id (fun _ => id)
  have l1 := load1 h'
  have hx : ((H.add (.rows false 64 [[.blk B]])).add (.rows false 65 [[.int .i64 (n : Int), .blk B]])).get (.run (H.next + 1)) = some (.rows false 65 [[.int .i64 (n : Int), .blk B]]) := by
    rw [Heap.get_add, if_pos (by simp)]
  have ha := app_dev h'' hmax hx
  refine ret_call rfl c18_eq ?_
  obtain ⟨v, H1, e, rfl, e1⟩ := asked_ok h' hn hd lf m
  subst e1
  have hst : storeAt ((killed ((H.add (.rows false 64 [[.blk B]])).add (.rows false 65 [[.int .i64 (n : Int), .blk B]])) y D).add (.rows false 65 (looseRows (D.L ++ [(n, B)])))) ⟨b, 1⟩ [.slice (some ⟨.run (H.next + 1 + 1), 0⟩) (D.L.length + 1) (D.L.length + 1) 65] = some (((killed ((H.add (.rows false 64 [[.blk B]])).add (.rows false 65 [[.int .i64 (n : Int), .blk B]])) y D).add (.rows false 65 (looseRows (D.L ++ [(n, B)])))).set b (.rows false 3 [[.slice (some ⟨y.s, 0⟩) D.S.length D.S.length y.so, .slice (some ⟨.run (H.next + 1 + 1), 0⟩) (D.L.length + 1) (D.L.length + 1) 65, .bool D.dead]])) := by
    have hg : ((killed ((H.add (.rows false 64 [[.blk B]])).add (.rows false 65 [[.int .i64 (n : Int), .blk B]])) y D).add (.rows false 65 (looseRows (D.L ++ [(n, B)])))).get b = some (.rows false 3 [[.slice (some ⟨y.s, 0⟩) D.S.length D.S.length y.so, .slice y.p D.L.length D.L.length y.o, .bool D.dead]]) := by
      rw [Heap.get_add, if_neg (fun e : b = _ => Heap.not_old (Nat.le_refl _) (by rw [← killed_next _ y D, ← e]; exact h''.old.1)), killed_get (fun hL => (h.ne.2 hL).1), h''.own]
    exact storeAt_eq hg (r := [.slice (some ⟨y.s, 0⟩) D.S.length D.S.length y.so, .slice y.p D.L.length D.L.length y.o, .bool D.dead]) rfl (put_own _ _ _ _ rfl rfl rfl)
  simp only [c18, e, l1, ha, hst, Aa, Ab, Ad, Ae, Af, Ag, Ah, Ai, Aj, Ak, Al, Ao, Ap, Aq, Ar, Au, sO_p, sO_r, sO_m, sO_a, sO_c, Av, Aw, Ax, Ay, Az, sE_p, sE_r, sE_m, sE_a, sE_c, A0, A2, A3, A4, A5, A6, A7, A8, A9, Ba, Bb, Bc, Bd, Be, Bf, Bg, Bh, Bi, Bj, Bl, Bm, Bo, Bp, Bq, Br, Bs, Bt, Bu, Bv, Tr.getP_e, Bw, Bx, ↓reduceIte, Nat.reduceEqDiff, Nat.reduceAdd, Nat.reduceSub, Nat.reduceMul, Nat.reduceDiv, Nat.reduceMod, Nat.zero_add, Nat.add_zero, beq_self_eq_true, Nat.zero_ne_one, Nat.one_ne_zero, Nat.reduceLeDiff, Int.reduceBEq, constF, unF, unary,  pickF, nilcF, faddrF, fldF, iaddrSF, arF, Bz, B3, B4, B5, B6, B7, convF, extF, lenF, eqcF, eqnF, eqN, eqPtr, isNone, loadF, storeF, allocF, callF, gets, Option.map_some, Option.bind_some, B8, B9, Ca, Cb, Cc, nbeq, nble, Cd, Ce, Cf, Cg, Ch, Ci, Cj, Ck, Cl, Cm, Cn, Co, Cp, Cq, Cr, Cs, Ct, Cu, Cv, Cw, Cx, V.w, width, unc, cmpCells, Cy, Cz, C6, C7, C8, Da, undef, List.append_nil, List.nil_append, List.cons_append, Db, Dc, resultsV, result, tup, Dd, Bool.and_true, Bool.true_and, Bool.and_self, decide_true, decide_false, Bool.not_true, Bool.not_false, Bool.true_beq, Bool.false_beq, beq_iff_eq, reduceCtorEq, Nat.succ_eq_add_one, ptr0, Int.ofNat_eq_natCast, Int.ofNat_le, Int.ofNat_lt, Int.natCast_add, De, Df, Dg, Dh, Di, List.map_cons, List.map_nil, Dj, Heap.next_add, Heap.next_set, boxF, buildF, fill, bsliceF, fillRows, List.replicate_one, Dk, Dl, Dm, Dn, Dp, Dq, Dr, Ds, Dt, Du, Dw, Dx, Dy, Dz, D2, D3, D4, D5, D6, D7, D8, D9, Ea, Eb, Ec, appF, List.length_cons, List.length_nil]
  rw [endD_ok (by kernel_rfl) (by kernel_rfl)]
  simp only [Aa, Ab, Ad, Ae, Af, Ag, Ah, Ai, Aj, Ak, Al, Ao, Ap, Aq, Ar, Au, sO_p, sO_r, sO_m, sO_a, sO_c, Av, Aw, Ax, Ay, Az, sE_p, sE_r, sE_m, sE_a, sE_c, A0, A2, A3, A4, A5, A6, A7, A8, A9, Ba, Bb, Bc, Bd, Be, Bf, Bg, Bh, Bi, Bj, Bl, Bm, Bo, Bp, Bq, Br, Bs, Bt, Bu, Bv, Tr.getP_e, Bw, Bx, ↓reduceIte, Nat.reduceEqDiff, Nat.reduceAdd, Nat.reduceSub, Nat.reduceMul, Nat.reduceDiv, Nat.reduceMod, Nat.zero_add, Nat.add_zero, beq_self_eq_true, Nat.zero_ne_one, Nat.one_ne_zero, Nat.reduceLeDiff, Int.reduceBEq, constF, unF, unary,  pickF, nilcF, faddrF, fldF, iaddrSF, arF, Bz, B3, B4, B5, B6, B7, convF, extF, lenF, eqcF, eqnF, eqN, eqPtr, isNone, loadF, storeF, allocF, callF, gets, Option.map_some, Option.bind_some, B8, B9, Ca, Cb, Cc, nbeq, nble, Cd, Ce, Cf, Cg, Ch, Ci, Cj, Ck, Cl, Cm, Cn, Co, Cp, Cq, Cr, Cs, Ct, Cu, Cv, Cw, Cx, V.w, width, unc, cmpCells, Cy, Cz, C6, C7, C8, Da, undef, List.append_nil, List.nil_append, List.cons_append, Db, Dc, resultsV, result, tup, Dd, Bool.and_true, Bool.true_and, Bool.and_self, decide_true, decide_false, Bool.not_true, Bool.not_false, Bool.true_beq, Bool.false_beq, beq_iff_eq, reduceCtorEq, Nat.succ_eq_add_one, ptr0, Int.ofNat_eq_natCast, Int.ofNat_le, Int.ofNat_lt, Int.natCast_add, De, Df, Dg, Dh, Di, List.map_cons, List.map_nil, Dj, Heap.next_add, Heap.next_set, boxF, buildF, fill, bsliceF, fillRows, List.replicate_one, Dk, Dl, Dm, Dn, Dp, Dq, Dr, Ds, Dt, Du, Dw, Dx, Dy, Dz, D2, D3, D4, D5, D6, D7, D8, D9, Ea, Eb, Ec, appF, List.length_cons, List.length_nil]
  refine ⟨trivial, .inr trivial, _, rfl, rfl, ⟨y.s, y.so, .run (H.next + 1 + 1), some ⟨.run (H.next + 1 + 1), 0⟩, 65⟩, ?_⟩
  have hn2 : ((H.add (.rows false 64 [[.blk B]])).add (.rows false 65 [[.int .i64 (n : Int), .blk B]])).next = H.next + 1 + 1 := by simp
  have hnew : ∀ c, H.Old c → c ≠ .run (H.next + 1 + 1) := fun c hc e => Heap.not_old (H := H) (n := H.next + 1 + 1) (by omega) (e ▸ hc)
  obtain ⟨o1, o2, o3⟩ := h.old
  refine ⟨⟨?_, ?_, fun hL => absurd hL (by simp), fun _ => ⟨rfl, rfl, ?_⟩, ⟨?_, ?_, fun _ => ?_⟩, h.ne.1, fun _ => ⟨hnew _ o1, hnew _ o2⟩⟩, ?_, rfl, fun _ => .inr (Heap.not_old (by omega))⟩
  · rw [Heap.get_set, if_pos rfl]; simp
  · rw [Heap.get_set, if_neg (Ne.symm h.ne.1), Heap.get_add, killed_next, hn2, if_neg (hnew _ o2), killed_get (fun hL => (h.ne.2 hL).2)]
    exact h''.sure
  · rw [Heap.get_set, if_neg (fun e => hnew _ o1 e.symm), Heap.get_add, killed_next, hn2, if_pos rfl]
  · exact o1.mono (by simp [killed_next]; omega)
  · exact o2.mono (by simp [killed_next]; omega)
  · show _ < _
    simp [killed_next]
  · exact (((t2.wide (fun c hc => hc.elim)).trans (killed_turns _ b y D)).addm _).setm (.inl rfl) _

theorem DevAt.setS {H : Heap} {b : Bk} {y : Lay} {D : Dev} (h : DevAt H b y D) {S' : List Nat} (hl : S'.length = D.S.length) : DevAt (H.set y.s (.rows false 64 (sureRows S'))) b y { D with S := S' } := by
  refine ⟨?_, ?_, h.nil, fun e => ⟨(h.loose e).1, (h.loose e).2.1, ?_⟩, ?_, h.ne⟩
  · rw [Heap.get_set, if_neg h.ne.1, h.own, hl]
  · rw [Heap.get_set, if_pos rfl]
  · rw [Heap.get_set, if_neg (Ne.symm (h.ne.2 e).2)]; exact (h.loose e).2.2
  · simpa using h.old

theorem DevAt.clear {H : Heap} {b : Bk} {y : Lay} {D : Dev} (h : DevAt H b y D) (dead : Bool) : DevAt (H.set b (.rows false 3 [[.slice (some ⟨y.s, 0⟩) D.S.length D.S.length y.so, .slice none 0 0 0, .bool dead]])) b { y with p := none, o := 0 } { D with L := [], dead := dead } := by
  refine ⟨?_, ?_, fun _ => ⟨rfl, rfl⟩, fun e => absurd rfl e, ⟨?_, ?_, fun e => absurd rfl e⟩, h.ne.1, fun e => absurd rfl e⟩
  · rw [Heap.get_set, if_pos rfl]; rfl
  · rw [Heap.get_set, if_neg (Ne.symm h.ne.1)]; exact h.sure
  · simpa using h.old.1
  · simpa using h.old.2.1

section
variable {H : Heap} {b : Bk} {y : Lay} {D : Dev} (h : DevAt H b y D)
include h
theorem loadLw {k : Nat} (hk : k < D.L.length) : loadAt H ⟨y.l, k * 65⟩ 65 = some [.int .i64 (D.L[k].1 : Int), .blk D.L[k].2] := by
  have hne : D.L ≠ [] := fun e => by rw [e] at hk; simp at hk
  rw [loadAt_eq (h.loose hne).2.2 (r := [.int .i64 (D.L[k].1 : Int), .blk D.L[k].2]) (nth_of (by simp [looseRows, hk])), Nat.mul_mod_left]
  rfl
theorem storeS {n : Nat} (hn : n < D.S.length) (B : Nat) : storeAt H ⟨y.s, n * 64⟩ [.blk B] = some (H.set y.s (.rows false 64 (sureRows (D.S.set n B)))) := by
  rw [storeAt_eq h.sure (r := [.blk D.S[n]]) (r' := [.blk B]) (nth_of (by simp [sureRows, hn])) (by rw [Nat.mul_mod_left]; exact Dl _ _ _)]
  simp [sureRows, List.map_set]
theorem storeNil : storeAt H ⟨b, 1⟩ [.slice none 0 0 0] = some (H.set b (.rows false 3 [[.slice (some ⟨y.s, 0⟩) D.S.length D.S.length y.so, .slice none 0 0 0, .bool D.dead]])) :=
  storeAt_eq h.own (r := [.slice (some ⟨y.s, 0⟩) D.S.length D.S.length y.so, .slice y.p D.L.length D.L.length y.o, .bool D.dead]) rfl (put_own _ _ _ _ rfl rfl rfl)
end

def flushS (S : List Nat) (L : List (Nat × Nat)) : List Nat := L.foldl (fun S w => S.set w.1 w.2) S
theorem flushS_length : ∀ (L : List (Nat × Nat)) (S : List Nat), (flushS S L).length = S.length
  | [], S => rfl
  | w :: L, S => (flushS_length L (S.set w.1 w.2)).trans (by simp)
theorem flushS_take {L : List (Nat × Nat)} {i : Nat} (hi : i < L.length) (S : List Nat) : flushS S (L.take (i + 1)) = (flushS S (L.take i)).set L[i].1 L[i].2 := by
  unfold flushS
  rw [List.take_succ_eq_append_getElem hi, List.foldl_append]; rfl

theorem flush_ok {H : Heap} {b : Bk} {y : Lay} {D : Dev} (h : DevAt H b y D) (hS : D.S ≠ []) (hd : D.dead = false) (hok : ∀ w ∈ D.L, w.1 < D.S.length) (hmax : D.L.length < 1000000) {lf : Nat} (hlf : D.L.length + 1 < lf) (m : Nat) :
    ret (callS Try.prog S0 lf (m + 3) 16 [.ptr (some ⟨b, 0⟩)] H) fun v H' => v = .int .i64 0 ∧ Next H b y D H' { y with p := none, o := 0 } { D with S := flushS D.S D.L, L := [] } := by
  have l1 := load1 h
  have hpos : 0 < D.S.length := by cases hc : D.S with
    | nil => exact absurd hc hS
    | cons a l => simp
  refine ret_call rfl c16_eq ?_
  obtain ⟨v, H1, e, rfl, e1⟩ := asked_ok h (n := 0) hpos hd lf m
  subst e1
  change callS Try.prog S0 lf (m + 2) 70 [.ptr (some ⟨b, 0⟩), .int .i64 0] H1 = _ at e
  have hloop : ∀ t : T, t.getP (Tr.path 0) = some (.ptr (some ⟨b, 0⟩)) → t.getP (Tr.path 14) = some (.slice y.p D.L.length D.L.length y.o) → t.getP (Tr.path 15) = some (.int .i64 (D.L.length : Int)) → t.getP (Tr.path 16) = some (.int .i64 0) →
      wp (loopF (runC (callS Try.prog S0 lf (m + 2)) lf c16_l0) lf ⟨t, H1, []⟩) fun x s =>
        x = .ex 0 ∧ s.d = [] ∧ s.t.getP (Tr.path 0) = some (.ptr (some ⟨b, 0⟩)) ∧ DevAt s.H b y { D with S := flushS D.S D.L } ∧ Turns (Foot b y D) H1 s.H := by
    intro t q0 q14 q15 q16
    refine wp_loopF (fun k s => ∃ i, i + k = D.L.length ∧ s.d = [] ∧ s.t.getP (Tr.path 0) = some (.ptr (some ⟨b, 0⟩)) ∧ s.t.getP (Tr.path 14) = some (.slice y.p D.L.length D.L.length y.o) ∧ s.t.getP (Tr.path 15) = some (.int .i64 (D.L.length : Int)) ∧ s.t.getP (Tr.path 16) = some (.int .i64 (i : Int)) ∧ DevAt s.H b y { D with S := flushS D.S (D.L.take i) } ∧ Turns (Foot b y D) H1 s.H) ?_ lf D.L.length _ ⟨0, by simp, rfl, q0, q14, q15, q16, h, Turns.refl _ _⟩ (by omega)
    rintro k ⟨t, HH, d⟩ ⟨i, hi, rfl, q0, q14, q15, q16, hD, hT⟩
    dsimp only at q0 q14 q15 q16 hD hT
    cases k with
    | zero =>
      have hi : i = D.L.length := by omega
      subst hi
      rw [List.take_length] at hD
      have hg : ¬ (D.L.length < D.L.length) := Nat.lt_irrefl _
      simp only [c16_l0, q0, q14, q15, q16, hg, Aa, Ab, Ad, Ae, Af, Ag, Ah, Ai, Aj, Ak, Al, Ao, Ap, Aq, Ar, Au, sO_p, sO_r, sO_m, sO_a, sO_c, Av, Aw, Ax, Ay, Az, sE_p, sE_r, sE_m, sE_a, sE_c, A0, A2, A3, A4, A5, A6, A7, A8, A9, Ba, Bb, Bc, Bd, Be, Bf, Bg, Bh, Bi, Bj, Bl, Bm, Bo, Bp, Bq, Br, Bs, Bt, Bu, Bv, Tr.getP_e, Bw, Bx, ↓reduceIte, Nat.reduceEqDiff, Nat.reduceAdd, Nat.reduceSub, Nat.reduceMul, Nat.reduceDiv, Nat.reduceMod, Nat.zero_add, Nat.add_zero, beq_self_eq_true, Nat.zero_ne_one, Nat.one_ne_zero, Nat.reduceLeDiff, Int.reduceBEq, constF, unF, unary,  pickF, nilcF, faddrF, fldF, iaddrSF, arF, Bz, B3, B4, B5, B6, B7, convF, extF, lenF, eqcF, eqnF, eqN, eqPtr, isNone, loadF, storeF, allocF, callF, gets, Option.map_some, Option.bind_some, B8, B9, Ca, Cb, Cc, nbeq, nble, Cd, Ce, Cf, Cg, Ch, Ci, Cj, Ck, Cl, Cm, Cn, Co, Cp, Cq, Cr, Cs, Ct, Cu, Cv, Cw, Cx, V.w, width, unc, cmpCells, Cy, Cz, C6, C7, C8, Da, undef, List.append_nil, List.nil_append, List.cons_append, Db, Dc, resultsV, result, tup, Dd, Bool.and_true, Bool.true_and, Bool.and_self, decide_true, decide_false, Bool.not_true, Bool.not_false, Bool.true_beq, Bool.false_beq, beq_iff_eq, reduceCtorEq, Nat.succ_eq_add_one, ptr0, Int.ofNat_eq_natCast, Int.ofNat_le, Int.ofNat_lt, Int.natCast_add, De, Df, Dg, Dh, Di, List.map_cons, List.map_nil, Dj, Heap.next_add, Heap.next_set, boxF, buildF, fill, bsliceF, fillRows, List.replicate_one, Dk, Dl, Dm, Dn, Dp, Dq, Dr, Ds, Dt, Du, Dw, Dx, Dy, Dz, D2, D3, D4, D5, D6, D7, D8, D9, Ea, Eb, Ec, appF, List.length_cons, List.length_nil]
      exact ⟨trivial, trivial, trivial, hD, hT⟩
    | succ k =>
      have hi' : i < D.L.length := by omega
      have hi1 : i + 1 ≤ D.L.length := hi'
      have hp := (h.loose (fun e => by rw [e] at hi'; simp at hi')).1
      have lw := loadLw hD hi'
      have hK := hD.turns ((Turns.add Z HH (.rows false 65 [[.int .i64 0, .blk 0]])).setnew (Nat.le_refl _) (.rows false 65 [[.int .i64 (D.L[i].1 : Int), .blk D.L[i].2]])) id id (fun _ => id)
      have hn : D.L[i].1 < (flushS D.S (D.L.take i)).length := by rw [flushS_length]; exact hok _ (List.getElem_mem _)
      have hn1 : D.L[i].1 + 1 ≤ (flushS D.S (D.L.take i)).length := hn
      have l0 := load0 hK
      have st := storeS hK hn D.L[i].2
      have hw : IntKind.i64.wrap ((i : Int) + 1) = ((i + 1 : Nat) : Int) := by rw [wrap_i64 (by omega)]; rfl
      rw [hp] at q14
      simp only [c16_l0, q0, q14, q15, q16, hi', hi1, hn1, lw, l0, st, hw, Aa, Ab, Ad, Ae, Af, Ag, Ah, Ai, Aj, Ak, Al, Ao, Ap, Aq, Ar, Au, sO_p, sO_r, sO_m, sO_a, sO_c, Av, Aw, Ax, Ay, Az, sE_p, sE_r, sE_m, sE_a, sE_c, A0, A2, A3, A4, A5, A6, A7, A8, A9, Ba, Bb, Bc, Bd, Be, Bf, Bg, Bh, Bi, Bj, Bl, Bm, Bo, Bp, Bq, Br, Bs, Bt, Bu, Bv, Tr.getP_e, Bw, Bx, ↓reduceIte, Nat.reduceEqDiff, Nat.reduceAdd, Nat.reduceSub, Nat.reduceMul, Nat.reduceDiv, Nat.reduceMod, Nat.zero_add, Nat.add_zero, beq_self_eq_true, Nat.zero_ne_one, Nat.one_ne_zero, Nat.reduceLeDiff, Int.reduceBEq, constF, unF, unary,  pickF, nilcF, faddrF, fldF, iaddrSF, arF, Bz, B3, B4, B5, B6, B7, convF, extF, lenF, eqcF, eqnF, eqN, eqPtr, isNone, loadF, storeF, allocF, callF, gets, Option.map_some, Option.bind_some, B8, B9, Ca, Cb, Cc, nbeq, nble, Cd, Ce, Cf, Cg, Ch, Ci, Cj, Ck, Cl, Cm, Cn, Co, Cp, Cq, Cr, Cs, Ct, Cu, Cv, Cw, Cx, V.w, width, unc, cmpCells, Cy, Cz, C6, C7, C8, Da, undef, List.append_nil, List.nil_append, List.cons_append, Db, Dc, resultsV, result, tup, Dd, Bool.and_true, Bool.true_and, Bool.and_self, decide_true, decide_false, Bool.not_true, Bool.not_false, Bool.true_beq, Bool.false_beq, beq_iff_eq, reduceCtorEq, Nat.succ_eq_add_one, ptr0, Int.ofNat_eq_natCast, Int.ofNat_le, Int.ofNat_lt, Int.natCast_add, De, Df, Dg, Dh, Di, List.map_cons, List.map_nil, Dj, Heap.next_add, Heap.next_set, boxF, buildF, fill, bsliceF, fillRows, List.replicate_one, Dk, Dl, Dm, Dn, Dp, Dq, Dr, Ds, Dt, Du, Dw, Dx, Dy, Dz, D2, D3, D4, D5, D6, D7, D8, D9, Ea, Eb, Ec, appF, List.length_cons, List.length_nil]
      rw [endD_ok (by kernel_rfl) (by kernel_rfl)]
      simp only [q0, q14, q15, q16, hw, Aa, Ab, Ad, Ae, Af, Ag, Ah, Ai, Aj, Ak, Al, Ao, Ap, Aq, Ar, Au, sO_p, sO_r, sO_m, sO_a, sO_c, Av, Aw, Ax, Ay, Az, sE_p, sE_r, sE_m, sE_a, sE_c, A0, A2, A3, A4, A5, A6, A7, A8, A9, Ba, Bb, Bc, Bd, Be, Bf, Bg, Bh, Bi, Bj, Bl, Bm, Bo, Bp, Bq, Br, Bs, Bt, Bu, Bv, Tr.getP_e, Bw, Bx, ↓reduceIte, Nat.reduceEqDiff, Nat.reduceAdd, Nat.reduceSub, Nat.reduceMul, Nat.reduceDiv, Nat.reduceMod, Nat.zero_add, Nat.add_zero, beq_self_eq_true, Nat.zero_ne_one, Nat.one_ne_zero, Nat.reduceLeDiff, Int.reduceBEq, constF, unF, unary,  pickF, nilcF, faddrF, fldF, iaddrSF, arF, Bz, B3, B4, B5, B6, B7, convF, extF, lenF, eqcF, eqnF, eqN, eqPtr, isNone, loadF, storeF, allocF, callF, gets, Option.map_some, Option.bind_some, B8, B9, Ca, Cb, Cc, nbeq, nble, Cd, Ce, Cf, Cg, Ch, Ci, Cj, Ck, Cl, Cm, Cn, Co, Cp, Cq, Cr, Cs, Ct, Cu, Cv, Cw, Cx, V.w, width, unc, cmpCells, Cy, Cz, C6, C7, C8, Da, undef, List.append_nil, List.nil_append, List.cons_append, Db, Dc, resultsV, result, tup, Dd, Bool.and_true, Bool.true_and, Bool.and_self, decide_true, decide_false, Bool.not_true, Bool.not_false, Bool.true_beq, Bool.false_beq, beq_iff_eq, reduceCtorEq, Nat.succ_eq_add_one, ptr0, Int.ofNat_eq_natCast, Int.ofNat_le, Int.ofNat_lt, Int.natCast_add, De, Df, Dg, Dh, Di, List.map_cons, List.map_nil, Dj, Heap.next_add, Heap.next_set, boxF, buildF, fill, bsliceF, fillRows, List.replicate_one, Dk, Dl, Dm, Dn, Dp, Dq, Dr, Ds, Dt, Du, Dw, Dx, Dy, Dz, D2, D3, D4, D5, D6, D7, D8, D9, Ea, Eb, Ec, appF, List.length_cons, List.length_nil]
      refine ⟨k, Nat.lt_succ_self k, i + 1, by omega, trivial, trivial, by rw [hp], trivial, rfl, ?_, ((hT.addm _).setnew hT.next _).setm (.inr (.inl rfl)) _⟩
      rw [flushS_take hi']
      exact hK.setS (by simp)
  simp only [c16, e, l1, Aa, Ab, Ad, Ae, Af, Ag, Ah, Ai, Aj, Ak, Al, Ao, Ap, Aq, Ar, Au, sO_p, sO_r, sO_m, sO_a, sO_c, Av, Aw, Ax, Ay, Az, sE_p, sE_r, sE_m, sE_a, sE_c, A0, A2, A3, A4, A5, A6, A7, A8, A9, Ba, Bb, Bc, Bd, Be, Bf, Bg, Bh, Bi, Bj, Bl, Bm, Bo, Bp, Bq, Br, Bs, Bt, Bu, Bv, Tr.getP_e, Bw, Bx, ↓reduceIte, Nat.reduceEqDiff, Nat.reduceAdd, Nat.reduceSub, Nat.reduceMul, Nat.reduceDiv, Nat.reduceMod, Nat.zero_add, Nat.add_zero, beq_self_eq_true, Nat.zero_ne_one, Nat.one_ne_zero, Nat.reduceLeDiff, Int.reduceBEq, constF, unF, unary,  pickF, nilcF, faddrF, fldF, iaddrSF, arF, Bz, B3, B4, B5, B6, B7, convF, extF, lenF, eqcF, eqnF, eqN, eqPtr, isNone, loadF, storeF, allocF, callF, gets, Option.map_some, Option.bind_some, B8, B9, Ca, Cb, Cc, nbeq, nble, Cd, Ce, Cf, Cg, Ch, Ci, Cj, Ck, Cl, Cm, Cn, Co, Cp, Cq, Cr, Cs, Ct, Cu, Cv, Cw, Cx, V.w, width, unc, cmpCells, Cy, Cz, C6, C7, C8, Da, undef, List.append_nil, List.nil_append, List.cons_append, Db, Dc, resultsV, result, tup, Dd, Bool.and_true, Bool.true_and, Bool.and_self, decide_true, decide_false, Bool.not_true, Bool.not_false, Bool.true_beq, Bool.false_beq, beq_iff_eq, reduceCtorEq, Nat.succ_eq_add_one, ptr0, Int.ofNat_eq_natCast, Int.ofNat_le, Int.ofNat_lt, Int.natCast_add, De, Df, Dg, Dh, Di, List.map_cons, List.map_nil, Dj, Heap.next_add, Heap.next_set, boxF, buildF, fill, bsliceF, fillRows, List.replicate_one, Dk, Dl, Dm, Dn, Dp, Dq, Dr, Ds, Dt, Du, Dw, Dx, Dy, Dz, D2, D3, D4, D5, D6, D7, D8, D9, Ea, Eb, Ec, appF, List.length_cons, List.length_nil]
  refine wp_ctx (F := fun r => seqC _ _ _ (blockC _ r)) (hloop _ ?_ ?_ ?_ ?_) ?_
  · simp only [Bv, Tr.getP_e, ↓reduceIte, Nat.reduceEqDiff, Nat.zero_ne_one, Nat.one_ne_zero, Bw, Bx, Nat.reduceAdd, Nat.zero_add, Int.ofNat_eq_natCast]
  · simp only [Bv, Tr.getP_e, ↓reduceIte, Nat.reduceEqDiff, Nat.zero_ne_one, Nat.one_ne_zero, Bw, Bx, Nat.reduceAdd, Nat.zero_add, Int.ofNat_eq_natCast]
  · simp only [Bv, Tr.getP_e, ↓reduceIte, Nat.reduceEqDiff, Nat.zero_ne_one, Nat.one_ne_zero, Bw, Bx, Nat.reduceAdd, Nat.zero_add, Int.ofNat_eq_natCast]
  · simp only [Bv, Tr.getP_e, ↓reduceIte, Nat.reduceEqDiff, Nat.zero_ne_one, Nat.one_ne_zero, Bw, Bx, Nat.reduceAdd, Nat.zero_add, Int.ofNat_eq_natCast]
  rintro x ⟨t, HH, d⟩ ⟨rfl, rfl, q0, hD, hT⟩
  dsimp only at q0 hD hT
  have st := storeNil hD
  simp only [q0, st, Aa, Ab, Ad, Ae, Af, Ag, Ah, Ai, Aj, Ak, Al, Ao, Ap, Aq, Ar, Au, sO_p, sO_r, sO_m, sO_a, sO_c, Av, Aw, Ax, Ay, Az, sE_p, sE_r, sE_m, sE_a, sE_c, A0, A2, A3, A4, A5, A6, A7, A8, A9, Ba, Bb, Bc, Bd, Be, Bf, Bg, Bh, Bi, Bj, Bl, Bm, Bo, Bp, Bq, Br, Bs, Bt, Bu, Bv, Tr.getP_e, Bw, Bx, ↓reduceIte, Nat.reduceEqDiff, Nat.reduceAdd, Nat.reduceSub, Nat.reduceMul, Nat.reduceDiv, Nat.reduceMod, Nat.zero_add, Nat.add_zero, beq_self_eq_true, Nat.zero_ne_one, Nat.one_ne_zero, Nat.reduceLeDiff, Int.reduceBEq, constF, unF, unary,  pickF, nilcF, faddrF, fldF, iaddrSF, arF, Bz, B3, B4, B5, B6, B7, convF, extF, lenF, eqcF, eqnF, eqN, eqPtr, isNone, loadF, storeF, allocF, callF, gets, Option.map_some, Option.bind_some, B8, B9, Ca, Cb, Cc, nbeq, nble, Cd, Ce, Cf, Cg, Ch, Ci, Cj, Ck, Cl, Cm, Cn, Co, Cp, Cq, Cr, Cs, Ct, Cu, Cv, Cw, Cx, V.w, width, unc, cmpCells, Cy, Cz, C6, C7, C8, Da, undef, List.append_nil, List.nil_append, List.cons_append, Db, Dc, resultsV, result, tup, Dd, Bool.and_true, Bool.true_and, Bool.and_self, decide_true, decide_false, Bool.not_true, Bool.not_false, Bool.true_beq, Bool.false_beq, beq_iff_eq, reduceCtorEq, Nat.succ_eq_add_one, ptr0, Int.ofNat_eq_natCast, Int.ofNat_le, Int.ofNat_lt, Int.natCast_add, De, Df, Dg, Dh, Di, List.map_cons, List.map_nil, Dj, Heap.next_add, Heap.next_set, boxF, buildF, fill, bsliceF, fillRows, List.replicate_one, Dk, Dl, Dm, Dn, Dp, Dq, Dr, Ds, Dt, Du, Dw, Dx, Dy, Dz, D2, D3, D4, D5, D6, D7, D8, D9, Ea, Eb, Ec, appF, List.length_cons, List.length_nil]
  exact ⟨trivial, .inr trivial, _, rfl, rfl, hD.clear D.dead, hT.setm (.inl rfl) _, rfl, fun e => absurd rfl e⟩

end Go.Proofs.Ytcelngepfdchiaa.disk

