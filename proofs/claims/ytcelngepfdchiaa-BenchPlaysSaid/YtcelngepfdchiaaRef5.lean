/-
  The document's device (ashlarref05) in the machine's heap: it lies as a device does, and does what a device does.
-/
import Derived.Test.YtcelngepfdchiaaDisk7
set_option linter.unusedVariables false
set_option linter.unusedSimpArgs false
set_option maxRecDepth 10000
namespace Go.Proofs.Ytcelngepfdchiaa.disk
open Go.Am

/-- ashlar/ashlarref05.New -/
noncomputable def c27 : CFn := ⟨[.tmp (Tr.path 2), .tmp (Tr.path 3)],
 .seq (.reg [
  ⟨(some (Tr.path 2)), (some (.p (S.get (.c (.ptr none))))), none, []⟩,
  ⟨(some (Tr.path 3)), (some (.p (S.get (.c (.int .i64 0))))), none, []⟩]) (
 .seq (.seq (.reg [
   ⟨(some (Tr.path 4)), (some (.p (S.get (.t (Tr.path 0))))), none, [Tr.path 0]⟩,
   ⟨(some (Tr.path 5)), (some (.p (arF .lss (.t (Tr.path 4)) (.c (.int .i64 1))))), none, [Tr.path 4]⟩,
   ⟨(some (Tr.path 6)), (some (.p (S.get (.t (Tr.path 5))))), none, [Tr.path 5]⟩,
   ⟨(some (Tr.path 7)), (some (.p (S.get (.t (Tr.path 0))))), (some (some (Tr.path 6), false)), [Tr.path 0]⟩,
   ⟨(some (Tr.path 8)), (some (.p (arF .gtr (.t (Tr.path 7)) (.c (.int .i64 512))))), (some (some (Tr.path 6), false)), [Tr.path 7]⟩,
   ⟨(some (Tr.path 9)), (some (.p (pickF (.t (Tr.path 6)) (.c (.bool true)) (.t (Tr.path 8))))), none, [Tr.path 6, Tr.path 8]⟩]) (
  .cond (.t (Tr.path 9)) (.seq (.reg [
     ⟨(some (Tr.path 2)), (some (.p (S.get (.c (.ptr none))))), none, []⟩,
     ⟨(some (Tr.path 3)), (some (.p (S.get (.c (.int .i64 2))))), none, []⟩]) (
    .ret)) (.skip))) (
 .seq (.reg [
  ⟨(some (Tr.path 10)), (some (.p (S.get (.t (Tr.path 0))))), none, [Tr.path 0]⟩,
  ⟨(some (Tr.path 11)), (some (.m (mksliceF 64 64 [.blk 0] (.t (Tr.path 10)) (.t (Tr.path 10))))), none, [Tr.path 10, Tr.path 10]⟩,
  ⟨(some (Tr.path 12)), (some (.p (buildF [.slice none 0 0 0, .slice none 0 0 0, .bool false] .ag [(0, 1, (.t (Tr.path 11)))]))), none, [Tr.path 11]⟩,
  ⟨(some (Tr.path 13)), (some (.m (boxF 3 (.t (Tr.path 12))))), none, [Tr.path 12]⟩,
  ⟨(some (Tr.path 2)), (some (.p (S.get (.t (Tr.path 13))))), none, [Tr.path 13]⟩,
  ⟨(some (Tr.path 3)), (some (.p (S.get (.c (.int .i64 0))))), none, []⟩]) (
 .ret)))⟩
theorem c27_eq : fnOf Try.prog 27 = some c27 := by kernel_rfl

/-- (*ashlar/ashlarref05.Disk).Asks -/
noncomputable def c131 : CFn := ⟨[.tmp (Tr.path 4)],
 .seq (.reg [
  ⟨(some (Tr.path 4)), (some (.p (S.get (.c (.int .i64 0))))), none, []⟩]) (
 .seq (.seq (.reg [
   ⟨(some (Tr.path 5)), (some (.p (S.get (.t (Tr.path 1))))), none, [Tr.path 1]⟩,
   ⟨(some (Tr.path 6)), (some (.p (arF .lss (.t (Tr.path 5)) (.c (.int .i64 0))))), none, [Tr.path 5]⟩,
   ⟨(some (Tr.path 7)), (some (.p (S.get (.t (Tr.path 6))))), none, [Tr.path 6]⟩,
   ⟨(some (Tr.path 8)), (some (.p (S.get (.t (Tr.path 1))))), (some (some (Tr.path 7), false)), [Tr.path 1]⟩,
   ⟨(some (Tr.path 9)), (some (.p (S.get (.t (Tr.path 0))))), (some (some (Tr.path 7), false)), [Tr.path 0]⟩,
   ⟨(some (Tr.path 10)), (some (.p (nilcF (.t (Tr.path 9))))), (some (some (Tr.path 7), false)), [Tr.path 9]⟩,
   ⟨(some (Tr.path 11)), (some (.p (faddrF (.t (Tr.path 10)) 0))), (some (some (Tr.path 7), false)), [Tr.path 10]⟩,
   ⟨(some (Tr.path 12)), (some (.r (loadF (.t (Tr.path 11)) 1 .sc))), (some (some (Tr.path 7), false)), [Tr.path 11]⟩,
   ⟨(some (Tr.path 13)), (some (.p (lenF (.t (Tr.path 12))))), (some (some (Tr.path 7), false)), [Tr.path 12]⟩,
   ⟨(some (Tr.path 14)), (some (.p (arF .geq (.t (Tr.path 8)) (.t (Tr.path 13))))), (some (some (Tr.path 7), false)), [Tr.path 8, Tr.path 13]⟩,
   ⟨(some (Tr.path 15)), (some (.p (pickF (.t (Tr.path 7)) (.c (.bool true)) (.t (Tr.path 14))))), none, [Tr.path 7, Tr.path 14]⟩]) (
  .cond (.t (Tr.path 15)) (.seq (.reg [
     ⟨(some (Tr.path 4)), (some (.p (S.get (.c (.int .i64 2))))), none, []⟩]) (
    .ret)) (.skip))) (
 .seq (.seq (.reg [
   ⟨(some (Tr.path 16)), (some (.p (S.get (.t (Tr.path 0))))), none, [Tr.path 0]⟩,
   ⟨(some (Tr.path 17)), (some (.p (nilcF (.t (Tr.path 16))))), none, [Tr.path 16]⟩,
   ⟨(some (Tr.path 18)), (some (.p (faddrF (.t (Tr.path 17)) 2))), none, [Tr.path 17]⟩,
   ⟨(some (Tr.path 19)), (some (.r (loadF (.t (Tr.path 18)) 1 .sc))), none, [Tr.path 18]⟩]) (
  .cond (.t (Tr.path 19)) (.seq (.reg [
     ⟨(some (Tr.path 4)), (some (.p (S.get (.c (.int .i64 9))))), none, []⟩]) (
    .ret)) (.skip))) (
 .seq (.reg [
  ⟨(some (Tr.path 4)), (some (.p (S.get (.c (.int .i64 0))))), none, []⟩]) (
 .ret))))⟩
theorem c131_eq : fnOf Try.prog 131 = some c131 := by kernel_rfl

/-- (*ashlar/ashlarref05.Disk).Write -/
noncomputable def c74 : CFn := ⟨[.tmp (Tr.path 6)],
 .seq (.reg [
  ⟨(some (Tr.path 5)), (some (.m (boxF 64 (.t (Tr.path 2))))), none, [Tr.path 2]⟩,
  ⟨(some (Tr.path 6)), (some (.p (S.get (.c (.int .i64 0))))), none, []⟩]) (
 .seq (.reg [
  ⟨(some (Tr.path 8)), (some (.p (S.get (.t (Tr.path 0))))), none, [Tr.path 0]⟩,
  ⟨(some (Tr.path 9)), (some (.p (S.get (.t (Tr.path 1))))), none, [Tr.path 1]⟩,
  ⟨(some (Tr.path 10)), (some (.c (callF (.c (.func (.func 131) [] [])) [(.t (Tr.path 8)), (.t (Tr.path 9))]))), none, [Tr.path 8, Tr.path 9]⟩,
  ⟨(some (Tr.path 7)), (some (.p (S.get (.t (Tr.path 10))))), none, [Tr.path 10]⟩]) (
 .seq (.seq (.reg [
   ⟨(some (Tr.path 11)), (some (.p (S.get (.t (Tr.path 7))))), none, [Tr.path 7]⟩,
   ⟨(some (Tr.path 12)), (some (.p (eqcF true false [.int .i64] (.t (Tr.path 11)) (.c (.int .i64 0))))), none, [Tr.path 11]⟩]) (
  .cond (.t (Tr.path 12)) (.seq (.reg [
     ⟨(some (Tr.path 13)), (some (.p (S.get (.t (Tr.path 7))))), none, [Tr.path 7]⟩,
     ⟨(some (Tr.path 6)), (some (.p (S.get (.t (Tr.path 13))))), none, [Tr.path 13]⟩]) (
    .ret)) (.skip))) (
 .seq (.regD [
  ⟨(some (Tr.path 14)), (some (.p (S.get (.t (Tr.path 0))))), none, [Tr.path 0]⟩,
  ⟨(some (Tr.path 15)), (some (.p (S.get (.t (Tr.path 0))))), none, [Tr.path 0]⟩,
  ⟨(some (Tr.path 16)), (some (.p (nilcF (.t (Tr.path 15))))), none, [Tr.path 15]⟩,
  ⟨(some (Tr.path 17)), (some (.p (faddrF (.t (Tr.path 16)) 1))), none, [Tr.path 16]⟩,
  ⟨(some (Tr.path 18)), (some (.r (loadF (.t (Tr.path 17)) 1 .sc))), none, [Tr.path 17]⟩,
  ⟨(some (Tr.path 19)), (some (.p (S.get (.t (Tr.path 1))))), none, [Tr.path 1]⟩,
  ⟨(some (Tr.path 20)), (some (.r (loadF (.t (Tr.path 5)) 64 .bk))), none, [Tr.path 5]⟩,
  ⟨(some (Tr.path 21)), (some (.p (buildF [.int .i64 0, .blk 0] .ag [(0, 1, (.t (Tr.path 19))), (1, 64, (.t (Tr.path 20)))]))), none, [Tr.path 19, Tr.path 20]⟩,
  ⟨(some (Tr.path 22)), (some (.m (bsliceF 1 65 [.int .i64 0, .blk 0] [(0, 65, (.t (Tr.path 21)))]))), none, [Tr.path 21]⟩,
  ⟨(some (Tr.path 23)), (some (.a (appF 65 72 (.t (Tr.path 18)) (.t (Tr.path 22))))), none, [Tr.path 18, Tr.path 22]⟩,
  ⟨(some (Tr.path 24)), (some (.p (nilcF (.t (Tr.path 14))))), none, [Tr.path 14]⟩,
  ⟨(some (Tr.path 25)), (some (.p (faddrF (.t (Tr.path 24)) 1))), none, [Tr.path 24]⟩,
  ⟨none, (some (.a (storeF (.t (Tr.path 25)) (.t (Tr.path 23)) 1))), none, [Tr.path 25, Tr.path 23]⟩] [0, 0, 2, 6, 14, 0, 0, 96, 224, 510, 1023, 2047, 4095]) (
 .seq (.reg [
  ⟨(some (Tr.path 6)), (some (.p (S.get (.c (.int .i64 0))))), none, []⟩]) (
 .ret)))))⟩
theorem c74_eq : fnOf Try.prog 74 = some c74 := by kernel_rfl

noncomputable def c75_l0 : C := .seq (.seq (.reg [
      ⟨(some (Tr.path 23)), (some (.p (S.get (.t (Tr.path 8))))), none, [Tr.path 8]⟩,
      ⟨(some (Tr.path 24)), (some (.p (S.get (.t (Tr.path 0))))), none, [Tr.path 0]⟩,
      ⟨(some (Tr.path 25)), (some (.p (nilcF (.t (Tr.path 24))))), none, [Tr.path 24]⟩,
      ⟨(some (Tr.path 26)), (some (.p (faddrF (.t (Tr.path 25)) 1))), none, [Tr.path 25]⟩,
      ⟨(some (Tr.path 27)), (some (.r (loadF (.t (Tr.path 26)) 1 .sc))), none, [Tr.path 26]⟩,
      ⟨(some (Tr.path 28)), (some (.p (lenF (.t (Tr.path 27))))), none, [Tr.path 27]⟩,
      ⟨(some (Tr.path 29)), (some (.p (arF .lss (.t (Tr.path 23)) (.t (Tr.path 28))))), none, [Tr.path 23, Tr.path 28]⟩]) (
     .cond (.t (Tr.path 29)) (.skip) (.exit 0))) (
    .seq (.block 1 (.seq (.reg [
       ⟨(some (Tr.path 32)), (some (.p (S.get (.t (Tr.path 0))))), none, [Tr.path 0]⟩,
       ⟨(some (Tr.path 33)), (some (.p (nilcF (.t (Tr.path 32))))), none, [Tr.path 32]⟩,
       ⟨(some (Tr.path 34)), (some (.p (faddrF (.t (Tr.path 33)) 1))), none, [Tr.path 33]⟩,
       ⟨(some (Tr.path 35)), (some (.r (loadF (.t (Tr.path 34)) 1 .sc))), none, [Tr.path 34]⟩,
       ⟨(some (Tr.path 36)), (some (.p (S.get (.t (Tr.path 8))))), none, [Tr.path 8]⟩,
       ⟨(some (Tr.path 37)), (some (.p (iaddrSF (.t (Tr.path 35)) (.t (Tr.path 36)) 65))), none, [Tr.path 35, Tr.path 36]⟩,
       ⟨(some (Tr.path 38)), (some (.p (faddrF (.t (Tr.path 37)) 0))), none, [Tr.path 37]⟩,
       ⟨(some (Tr.path 39)), (some (.r (loadF (.t (Tr.path 38)) 1 .sc))), none, [Tr.path 38]⟩,
       ⟨(some (Tr.path 40)), (some (.p (S.get (.t (Tr.path 1))))), none, [Tr.path 1]⟩,
       ⟨(some (Tr.path 41)), (some (.p (eqcF false false [.int .i64] (.t (Tr.path 39)) (.t (Tr.path 40))))), none, [Tr.path 39, Tr.path 40]⟩]) (
      .cond (.t (Tr.path 41)) (.reg [
        ⟨(some (Tr.path 42)), (some (.p (S.get (.t (Tr.path 0))))), none, [Tr.path 0]⟩,
        ⟨(some (Tr.path 43)), (some (.p (nilcF (.t (Tr.path 42))))), none, [Tr.path 42]⟩,
        ⟨(some (Tr.path 44)), (some (.p (faddrF (.t (Tr.path 43)) 1))), none, [Tr.path 43]⟩,
        ⟨(some (Tr.path 45)), (some (.r (loadF (.t (Tr.path 44)) 1 .sc))), none, [Tr.path 44]⟩,
        ⟨(some (Tr.path 46)), (some (.p (S.get (.t (Tr.path 8))))), none, [Tr.path 8]⟩,
        ⟨(some (Tr.path 47)), (some (.p (iaddrSF (.t (Tr.path 45)) (.t (Tr.path 46)) 65))), none, [Tr.path 45, Tr.path 46]⟩,
        ⟨(some (Tr.path 48)), (some (.p (faddrF (.t (Tr.path 47)) 1))), none, [Tr.path 47]⟩,
        ⟨(some (Tr.path 49)), (some (.r (loadF (.t (Tr.path 48)) 64 .bk))), none, [Tr.path 48]⟩,
        ⟨none, (some (.a (storeF (.t (Tr.path 7)) (.t (Tr.path 49)) 64))), none, [Tr.path 7, Tr.path 49]⟩]) (.skip)))) (
    .reg [
    ⟨(some (Tr.path 30)), (some (.p (S.get (.t (Tr.path 8))))), none, [Tr.path 8]⟩,
    ⟨(some (Tr.path 31)), (some (.p (arF .add (.t (Tr.path 30)) (.c (.int .i64 1))))), none, [Tr.path 30]⟩,
    ⟨(some (Tr.path 8)), (some (.p (S.get (.t (Tr.path 31))))), none, [Tr.path 31]⟩]))
/-- (*ashlar/ashlarref05.Disk).Read -/
noncomputable def c75 : CFn := ⟨[.cell (Tr.path 4) 64 .bk, .tmp (Tr.path 5)],
 .seq (.reg [
  ⟨(some (Tr.path 4)), (some (.m (allocF 64 [.blk 0]))), none, []⟩,
  ⟨(some (Tr.path 5)), (some (.p (S.get (.c (.int .i64 0))))), none, []⟩]) (
 .seq (.reg [
  ⟨(some (Tr.path 9)), (some (.p (S.get (.t (Tr.path 0))))), none, [Tr.path 0]⟩,
  ⟨(some (Tr.path 10)), (some (.p (S.get (.t (Tr.path 1))))), none, [Tr.path 1]⟩,
  ⟨(some (Tr.path 11)), (some (.c (callF (.c (.func (.func 131) [] [])) [(.t (Tr.path 9)), (.t (Tr.path 10))]))), none, [Tr.path 9, Tr.path 10]⟩,
  ⟨(some (Tr.path 6)), (some (.p (S.get (.t (Tr.path 11))))), none, [Tr.path 11]⟩]) (
 .seq (.seq (.reg [
   ⟨(some (Tr.path 12)), (some (.p (S.get (.t (Tr.path 6))))), none, [Tr.path 6]⟩,
   ⟨(some (Tr.path 13)), (some (.p (eqcF true false [.int .i64] (.t (Tr.path 12)) (.c (.int .i64 0))))), none, [Tr.path 12]⟩]) (
  .cond (.t (Tr.path 13)) (.seq (.reg [
     ⟨(some (Tr.path 14)), (some (.p (buildF [.blk 0] .bk []))), none, []⟩,
     ⟨(some (Tr.path 15)), (some (.p (S.get (.t (Tr.path 6))))), none, [Tr.path 6]⟩,
     ⟨none, (some (.a (storeF (.t (Tr.path 4)) (.t (Tr.path 14)) 64))), none, [Tr.path 4, Tr.path 14]⟩,
     ⟨(some (Tr.path 5)), (some (.p (S.get (.t (Tr.path 15))))), none, [Tr.path 15]⟩]) (
    .ret)) (.skip))) (
 .seq (.reg [
  ⟨(some (Tr.path 16)), (some (.p (S.get (.t (Tr.path 0))))), none, [Tr.path 0]⟩,
  ⟨(some (Tr.path 17)), (some (.p (nilcF (.t (Tr.path 16))))), none, [Tr.path 16]⟩,
  ⟨(some (Tr.path 18)), (some (.p (faddrF (.t (Tr.path 17)) 0))), none, [Tr.path 17]⟩,
  ⟨(some (Tr.path 19)), (some (.r (loadF (.t (Tr.path 18)) 1 .sc))), none, [Tr.path 18]⟩,
  ⟨(some (Tr.path 20)), (some (.p (S.get (.t (Tr.path 1))))), none, [Tr.path 1]⟩,
  ⟨(some (Tr.path 21)), (some (.p (iaddrSF (.t (Tr.path 19)) (.t (Tr.path 20)) 64))), none, [Tr.path 19, Tr.path 20]⟩,
  ⟨(some (Tr.path 22)), (some (.r (loadF (.t (Tr.path 21)) 64 .bk))), none, [Tr.path 21]⟩,
  ⟨(some (Tr.path 7)), (some (.m (allocF 64 [.blk 0]))), none, []⟩,
  ⟨none, (some (.a (storeF (.t (Tr.path 7)) (.t (Tr.path 22)) 64))), none, [Tr.path 7, Tr.path 22]⟩]) (
 .seq (.seq (.reg [
   ⟨(some (Tr.path 8)), (some (.p (S.get (.c (.int .i64 0))))), none, []⟩]) (
  .block 0 (.loop c75_l0))) (
 .seq (.reg [
  ⟨(some (Tr.path 50)), (some (.r (loadF (.t (Tr.path 7)) 64 .bk))), none, [Tr.path 7]⟩,
  ⟨none, (some (.a (storeF (.t (Tr.path 4)) (.t (Tr.path 50)) 64))), none, [Tr.path 4, Tr.path 50]⟩,
  ⟨(some (Tr.path 5)), (some (.p (S.get (.c (.int .i64 0))))), none, []⟩]) (
 .ret))))))⟩
theorem c75_eq : fnOf Try.prog 75 = some c75 := by kernel_rfl

noncomputable def c76_l0 : C := .seq (.seq (.reg [
      ⟨(some (Tr.path 8)), (some (.p (S.get (.t (Tr.path 3))))), none, [Tr.path 3]⟩,
      ⟨(some (Tr.path 9)), (some (.p (S.get (.t (Tr.path 0))))), none, [Tr.path 0]⟩,
      ⟨(some (Tr.path 10)), (some (.p (nilcF (.t (Tr.path 9))))), none, [Tr.path 9]⟩,
      ⟨(some (Tr.path 11)), (some (.p (faddrF (.t (Tr.path 10)) 1))), none, [Tr.path 10]⟩,
      ⟨(some (Tr.path 12)), (some (.r (loadF (.t (Tr.path 11)) 1 .sc))), none, [Tr.path 11]⟩,
      ⟨(some (Tr.path 13)), (some (.p (lenF (.t (Tr.path 12))))), none, [Tr.path 12]⟩,
      ⟨(some (Tr.path 14)), (some (.p (arF .lss (.t (Tr.path 8)) (.t (Tr.path 13))))), none, [Tr.path 8, Tr.path 13]⟩]) (
     .cond (.t (Tr.path 14)) (.skip) (.exit 0))) (
    .seq (.block 1 (.regD [
      ⟨(some (Tr.path 17)), (some (.p (S.get (.t (Tr.path 0))))), none, [Tr.path 0]⟩,
      ⟨(some (Tr.path 18)), (some (.p (nilcF (.t (Tr.path 17))))), none, [Tr.path 17]⟩,
      ⟨(some (Tr.path 19)), (some (.p (faddrF (.t (Tr.path 18)) 0))), none, [Tr.path 18]⟩,
      ⟨(some (Tr.path 20)), (some (.r (loadF (.t (Tr.path 19)) 1 .sc))), none, [Tr.path 19]⟩,
      ⟨(some (Tr.path 21)), (some (.p (S.get (.t (Tr.path 0))))), none, [Tr.path 0]⟩,
      ⟨(some (Tr.path 22)), (some (.p (nilcF (.t (Tr.path 21))))), none, [Tr.path 21]⟩,
      ⟨(some (Tr.path 23)), (some (.p (faddrF (.t (Tr.path 22)) 1))), none, [Tr.path 22]⟩,
      ⟨(some (Tr.path 24)), (some (.r (loadF (.t (Tr.path 23)) 1 .sc))), none, [Tr.path 23]⟩,
      ⟨(some (Tr.path 25)), (some (.p (S.get (.t (Tr.path 3))))), none, [Tr.path 3]⟩,
      ⟨(some (Tr.path 26)), (some (.p (iaddrSF (.t (Tr.path 24)) (.t (Tr.path 25)) 65))), none, [Tr.path 24, Tr.path 25]⟩,
      ⟨(some (Tr.path 27)), (some (.p (faddrF (.t (Tr.path 26)) 0))), none, [Tr.path 26]⟩,
      ⟨(some (Tr.path 28)), (some (.r (loadF (.t (Tr.path 27)) 1 .sc))), none, [Tr.path 27]⟩,
      ⟨(some (Tr.path 29)), (some (.p (S.get (.t (Tr.path 0))))), none, [Tr.path 0]⟩,
      ⟨(some (Tr.path 30)), (some (.p (nilcF (.t (Tr.path 29))))), none, [Tr.path 29]⟩,
      ⟨(some (Tr.path 31)), (some (.p (faddrF (.t (Tr.path 30)) 1))), none, [Tr.path 30]⟩,
      ⟨(some (Tr.path 32)), (some (.r (loadF (.t (Tr.path 31)) 1 .sc))), none, [Tr.path 31]⟩,
      ⟨(some (Tr.path 33)), (some (.p (S.get (.t (Tr.path 3))))), none, [Tr.path 3]⟩,
      ⟨(some (Tr.path 34)), (some (.p (iaddrSF (.t (Tr.path 32)) (.t (Tr.path 33)) 65))), none, [Tr.path 32, Tr.path 33]⟩,
      ⟨(some (Tr.path 35)), (some (.p (faddrF (.t (Tr.path 34)) 1))), none, [Tr.path 34]⟩,
      ⟨(some (Tr.path 36)), (some (.r (loadF (.t (Tr.path 35)) 64 .bk))), none, [Tr.path 35]⟩,
      ⟨(some (Tr.path 37)), (some (.p (iaddrSF (.t (Tr.path 20)) (.t (Tr.path 28)) 64))), none, [Tr.path 20, Tr.path 28]⟩,
      ⟨none, (some (.a (storeF (.t (Tr.path 37)) (.t (Tr.path 36)) 64))), none, [Tr.path 37, Tr.path 36]⟩] [0, 1, 3, 7, 0, 16, 48, 112, 0, 496, 1008, 2032, 0, 4096, 12288, 28672, 0, 126976, 258048, 520192, 1048575, 2097151])) (
    .reg [
    ⟨(some (Tr.path 15)), (some (.p (S.get (.t (Tr.path 3))))), none, [Tr.path 3]⟩,
    ⟨(some (Tr.path 16)), (some (.p (arF .add (.t (Tr.path 15)) (.c (.int .i64 1))))), none, [Tr.path 15]⟩,
    ⟨(some (Tr.path 3)), (some (.p (S.get (.t (Tr.path 16))))), none, [Tr.path 16]⟩]))
/-- (*ashlar/ashlarref05.Disk).Flush -/
noncomputable def c76 : CFn := ⟨[.tmp (Tr.path 2)],
 .seq (.reg [
  ⟨(some (Tr.path 2)), (some (.p (S.get (.c (.int .i64 0))))), none, []⟩]) (
 .seq (.seq (.reg [
   ⟨(some (Tr.path 4)), (some (.p (S.get (.t (Tr.path 0))))), none, [Tr.path 0]⟩,
   ⟨(some (Tr.path 5)), (some (.p (nilcF (.t (Tr.path 4))))), none, [Tr.path 4]⟩,
   ⟨(some (Tr.path 6)), (some (.p (faddrF (.t (Tr.path 5)) 2))), none, [Tr.path 5]⟩,
   ⟨(some (Tr.path 7)), (some (.r (loadF (.t (Tr.path 6)) 1 .sc))), none, [Tr.path 6]⟩]) (
  .cond (.t (Tr.path 7)) (.seq (.reg [
     ⟨(some (Tr.path 2)), (some (.p (S.get (.c (.int .i64 9))))), none, []⟩]) (
    .ret)) (.skip))) (
 .seq (.seq (.reg [
   ⟨(some (Tr.path 3)), (some (.p (S.get (.c (.int .i64 0))))), none, []⟩]) (
  .block 0 (.loop c76_l0))) (
 .seq (.reg [
  ⟨(some (Tr.path 38)), (some (.p (S.get (.t (Tr.path 0))))), none, [Tr.path 0]⟩,
  ⟨(some (Tr.path 39)), (some (.p (nilcF (.t (Tr.path 38))))), none, [Tr.path 38]⟩,
  ⟨(some (Tr.path 40)), (some (.p (faddrF (.t (Tr.path 39)) 1))), none, [Tr.path 39]⟩,
  ⟨none, (some (.a (storeF (.t (Tr.path 40)) (.c (.slice none 0 0 0)) 1))), none, [Tr.path 40]⟩]) (
 .seq (.reg [
  ⟨(some (Tr.path 2)), (some (.p (S.get (.c (.int .i64 0))))), none, []⟩]) (
 .ret)))))⟩
theorem c76_eq : fnOf Try.prog 76 = some c76 := by kernel_rfl

/-- (*ashlar/ashlarref05.Disk).Sure -/
noncomputable def c77 : CFn := ⟨[.cell (Tr.path 4) 64 .bk, .tmp (Tr.path 5)],
 .seq (.reg [
  ⟨(some (Tr.path 4)), (some (.m (allocF 64 [.blk 0]))), none, []⟩,
  ⟨(some (Tr.path 5)), (some (.p (S.get (.c (.int .i64 0))))), none, []⟩]) (
 .seq (.reg [
  ⟨(some (Tr.path 7)), (some (.p (S.get (.t (Tr.path 0))))), none, [Tr.path 0]⟩,
  ⟨(some (Tr.path 8)), (some (.p (S.get (.t (Tr.path 1))))), none, [Tr.path 1]⟩,
  ⟨(some (Tr.path 9)), (some (.c (callF (.c (.func (.func 131) [] [])) [(.t (Tr.path 7)), (.t (Tr.path 8))]))), none, [Tr.path 7, Tr.path 8]⟩,
  ⟨(some (Tr.path 6)), (some (.p (S.get (.t (Tr.path 9))))), none, [Tr.path 9]⟩]) (
 .seq (.seq (.reg [
   ⟨(some (Tr.path 10)), (some (.p (S.get (.t (Tr.path 6))))), none, [Tr.path 6]⟩,
   ⟨(some (Tr.path 11)), (some (.p (eqcF true false [.int .i64] (.t (Tr.path 10)) (.c (.int .i64 0))))), none, [Tr.path 10]⟩]) (
  .cond (.t (Tr.path 11)) (.seq (.reg [
     ⟨(some (Tr.path 12)), (some (.p (buildF [.blk 0] .bk []))), none, []⟩,
     ⟨(some (Tr.path 13)), (some (.p (S.get (.t (Tr.path 6))))), none, [Tr.path 6]⟩,
     ⟨none, (some (.a (storeF (.t (Tr.path 4)) (.t (Tr.path 12)) 64))), none, [Tr.path 4, Tr.path 12]⟩,
     ⟨(some (Tr.path 5)), (some (.p (S.get (.t (Tr.path 13))))), none, [Tr.path 13]⟩]) (
    .ret)) (.skip))) (
 .seq (.reg [
  ⟨(some (Tr.path 14)), (some (.p (S.get (.t (Tr.path 0))))), none, [Tr.path 0]⟩,
  ⟨(some (Tr.path 15)), (some (.p (nilcF (.t (Tr.path 14))))), none, [Tr.path 14]⟩,
  ⟨(some (Tr.path 16)), (some (.p (faddrF (.t (Tr.path 15)) 0))), none, [Tr.path 15]⟩,
  ⟨(some (Tr.path 17)), (some (.r (loadF (.t (Tr.path 16)) 1 .sc))), none, [Tr.path 16]⟩,
  ⟨(some (Tr.path 18)), (some (.p (S.get (.t (Tr.path 1))))), none, [Tr.path 1]⟩,
  ⟨(some (Tr.path 19)), (some (.p (iaddrSF (.t (Tr.path 17)) (.t (Tr.path 18)) 64))), none, [Tr.path 17, Tr.path 18]⟩,
  ⟨(some (Tr.path 20)), (some (.r (loadF (.t (Tr.path 19)) 64 .bk))), none, [Tr.path 19]⟩,
  ⟨none, (some (.a (storeF (.t (Tr.path 4)) (.t (Tr.path 20)) 64))), none, [Tr.path 4, Tr.path 20]⟩,
  ⟨(some (Tr.path 5)), (some (.p (S.get (.c (.int .i64 0))))), none, []⟩]) (
 .ret))))⟩
theorem c77_eq : fnOf Try.prog 77 = some c77 := by kernel_rfl

/-- (*ashlar/ashlarref05.Disk).Rot -/
noncomputable def c78 : CFn := ⟨[.tmp (Tr.path 8)],
 .seq (.reg [
  ⟨(some (Tr.path 8)), (some (.p (S.get (.c (.int .i64 0))))), none, []⟩]) (
 .seq (.seq (.reg [
   ⟨(some (Tr.path 9)), (some (.p (S.get (.t (Tr.path 1))))), none, [Tr.path 1]⟩,
   ⟨(some (Tr.path 10)), (some (.p (arF .lss (.t (Tr.path 9)) (.c (.int .i64 0))))), none, [Tr.path 9]⟩,
   ⟨(some (Tr.path 11)), (some (.p (S.get (.t (Tr.path 10))))), none, [Tr.path 10]⟩,
   ⟨(some (Tr.path 12)), (some (.p (S.get (.t (Tr.path 1))))), (some (some (Tr.path 11), false)), [Tr.path 1]⟩,
   ⟨(some (Tr.path 13)), (some (.p (S.get (.t (Tr.path 0))))), (some (some (Tr.path 11), false)), [Tr.path 0]⟩,
   ⟨(some (Tr.path 14)), (some (.p (nilcF (.t (Tr.path 13))))), (some (some (Tr.path 11), false)), [Tr.path 13]⟩,
   ⟨(some (Tr.path 15)), (some (.p (faddrF (.t (Tr.path 14)) 0))), (some (some (Tr.path 11), false)), [Tr.path 14]⟩,
   ⟨(some (Tr.path 16)), (some (.r (loadF (.t (Tr.path 15)) 1 .sc))), (some (some (Tr.path 11), false)), [Tr.path 15]⟩,
   ⟨(some (Tr.path 17)), (some (.p (lenF (.t (Tr.path 16))))), (some (some (Tr.path 11), false)), [Tr.path 16]⟩,
   ⟨(some (Tr.path 18)), (some (.p (arF .geq (.t (Tr.path 12)) (.t (Tr.path 17))))), (some (some (Tr.path 11), false)), [Tr.path 12, Tr.path 17]⟩,
   ⟨(some (Tr.path 19)), (some (.p (pickF (.t (Tr.path 11)) (.c (.bool true)) (.t (Tr.path 18))))), none, [Tr.path 11, Tr.path 18]⟩,
   ⟨(some (Tr.path 20)), (some (.p (S.get (.t (Tr.path 19))))), none, [Tr.path 19]⟩,
   ⟨(some (Tr.path 21)), (some (.p (S.get (.t (Tr.path 2))))), (some (some (Tr.path 20), false)), [Tr.path 2]⟩,
   ⟨(some (Tr.path 22)), (some (.p (arF .lss (.t (Tr.path 21)) (.c (.int .i64 0))))), (some (some (Tr.path 20), false)), [Tr.path 21]⟩,
   ⟨(some (Tr.path 23)), (some (.p (pickF (.t (Tr.path 20)) (.c (.bool true)) (.t (Tr.path 22))))), none, [Tr.path 20, Tr.path 22]⟩,
   ⟨(some (Tr.path 24)), (some (.p (S.get (.t (Tr.path 23))))), none, [Tr.path 23]⟩,
   ⟨(some (Tr.path 25)), (some (.p (S.get (.t (Tr.path 2))))), (some (some (Tr.path 24), false)), [Tr.path 2]⟩,
   ⟨(some (Tr.path 26)), (some (.p (arF .geq (.t (Tr.path 25)) (.c (.int .i64 64))))), (some (some (Tr.path 24), false)), [Tr.path 25]⟩,
   ⟨(some (Tr.path 27)), (some (.p (pickF (.t (Tr.path 24)) (.c (.bool true)) (.t (Tr.path 26))))), none, [Tr.path 24, Tr.path 26]⟩]) (
  .cond (.t (Tr.path 27)) (.seq (.reg [
     ⟨(some (Tr.path 8)), (some (.p (S.get (.c (.int .i64 2))))), none, []⟩]) (
    .ret)) (.skip))) (
 .seq (.seq (.reg [
   ⟨(some (Tr.path 28)), (some (.p (S.get (.t (Tr.path 0))))), none, [Tr.path 0]⟩,
   ⟨(some (Tr.path 29)), (some (.p (nilcF (.t (Tr.path 28))))), none, [Tr.path 28]⟩,
   ⟨(some (Tr.path 30)), (some (.p (faddrF (.t (Tr.path 29)) 2))), none, [Tr.path 29]⟩,
   ⟨(some (Tr.path 31)), (some (.r (loadF (.t (Tr.path 30)) 1 .sc))), none, [Tr.path 30]⟩]) (
  .cond (.t (Tr.path 31)) (.seq (.reg [
     ⟨(some (Tr.path 8)), (some (.p (S.get (.c (.int .i64 9))))), none, []⟩]) (
    .ret)) (.skip))) (
 .seq (.regD [
  ⟨(some (Tr.path 32)), (some (.p (S.get (.t (Tr.path 0))))), none, [Tr.path 0]⟩,
  ⟨(some (Tr.path 33)), (some (.p (nilcF (.t (Tr.path 32))))), none, [Tr.path 32]⟩,
  ⟨(some (Tr.path 34)), (some (.p (faddrF (.t (Tr.path 33)) 0))), none, [Tr.path 33]⟩,
  ⟨(some (Tr.path 35)), (some (.r (loadF (.t (Tr.path 34)) 1 .sc))), none, [Tr.path 34]⟩,
  ⟨(some (Tr.path 36)), (some (.p (S.get (.t (Tr.path 1))))), none, [Tr.path 1]⟩,
  ⟨(some (Tr.path 37)), (some (.p (S.get (.t (Tr.path 2))))), none, [Tr.path 2]⟩,
  ⟨(some (Tr.path 38)), (some (.p (S.get (.t (Tr.path 0))))), none, [Tr.path 0]⟩,
  ⟨(some (Tr.path 39)), (some (.p (nilcF (.t (Tr.path 38))))), none, [Tr.path 38]⟩,
  ⟨(some (Tr.path 40)), (some (.p (faddrF (.t (Tr.path 39)) 0))), none, [Tr.path 39]⟩,
  ⟨(some (Tr.path 41)), (some (.r (loadF (.t (Tr.path 40)) 1 .sc))), none, [Tr.path 40]⟩,
  ⟨(some (Tr.path 42)), (some (.p (S.get (.t (Tr.path 1))))), none, [Tr.path 1]⟩,
  ⟨(some (Tr.path 43)), (some (.p (S.get (.t (Tr.path 2))))), none, [Tr.path 2]⟩,
  ⟨(some (Tr.path 44)), (some (.p (iaddrSF (.t (Tr.path 41)) (.t (Tr.path 42)) 64))), none, [Tr.path 41, Tr.path 42]⟩,
  ⟨(some (Tr.path 45)), (some (.p (iaddrAF (.t (Tr.path 44)) (.t (Tr.path 43)) 64 1))), none, [Tr.path 44, Tr.path 43]⟩,
  ⟨(some (Tr.path 46)), (some (.r (loadF (.t (Tr.path 45)) 1 .sc))), none, [Tr.path 45]⟩,
  ⟨(some (Tr.path 47)), (some (.p (S.get (.t (Tr.path 3))))), none, [Tr.path 3]⟩,
  ⟨(some (Tr.path 48)), (some (.p (arF .xor (.t (Tr.path 46)) (.t (Tr.path 47))))), none, [Tr.path 46, Tr.path 47]⟩,
  ⟨(some (Tr.path 49)), (some (.p (iaddrSF (.t (Tr.path 35)) (.t (Tr.path 36)) 64))), none, [Tr.path 35, Tr.path 36]⟩,
  ⟨(some (Tr.path 50)), (some (.p (iaddrAF (.t (Tr.path 49)) (.t (Tr.path 37)) 64 1))), none, [Tr.path 49, Tr.path 37]⟩,
  ⟨none, (some (.a (storeF (.t (Tr.path 50)) (.t (Tr.path 48)) 1))), none, [Tr.path 50, Tr.path 48]⟩] [0, 1, 3, 7, 0, 0, 0, 64, 192, 448, 0, 0, 1984, 8128, 16320, 0, 65472, 31, 262143, 524287]) (
 .seq (.reg [
  ⟨(some (Tr.path 8)), (some (.p (S.get (.c (.int .i64 0))))), none, []⟩]) (
 .ret)))))⟩
theorem c78_eq : fnOf Try.prog 78 = some c78 := by kernel_rfl

noncomputable def c79_l0 : C := .seq (.seq (.reg [
      ⟨(some (Tr.path 8)), (some (.p (S.get (.t (Tr.path 6))))), none, [Tr.path 6]⟩,
      ⟨(some (Tr.path 9)), (some (.p (S.get (.t (Tr.path 0))))), none, [Tr.path 0]⟩,
      ⟨(some (Tr.path 10)), (some (.p (nilcF (.t (Tr.path 9))))), none, [Tr.path 9]⟩,
      ⟨(some (Tr.path 11)), (some (.p (faddrF (.t (Tr.path 10)) 1))), none, [Tr.path 10]⟩,
      ⟨(some (Tr.path 12)), (some (.r (loadF (.t (Tr.path 11)) 1 .sc))), none, [Tr.path 11]⟩,
      ⟨(some (Tr.path 13)), (some (.p (lenF (.t (Tr.path 12))))), none, [Tr.path 12]⟩,
      ⟨(some (Tr.path 14)), (some (.p (arF .lss (.t (Tr.path 8)) (.t (Tr.path 13))))), none, [Tr.path 8, Tr.path 13]⟩]) (
     .cond (.t (Tr.path 14)) (.skip) (.exit 0))) (
    .seq (.block 1 (.seq (.reg [
       ⟨(some (Tr.path 7)), (some (.p (S.get (.c (.int .i64 0))))), none, []⟩]) (
      .seq (.seq (.reg [
        ⟨(some (Tr.path 17)), (some (.p (S.get (.t (Tr.path 6))))), none, [Tr.path 6]⟩,
        ⟨(some (Tr.path 18)), (some (.p (S.get (.t (Tr.path 1))))), none, [Tr.path 1]⟩,
        ⟨(some (Tr.path 19)), (some (.p (lenF (.t (Tr.path 18))))), none, [Tr.path 18]⟩,
        ⟨(some (Tr.path 20)), (some (.p (arF .lss (.t (Tr.path 17)) (.t (Tr.path 19))))), none, [Tr.path 17, Tr.path 19]⟩]) (
       .cond (.t (Tr.path 20)) (.seq (.reg [
          ⟨(some (Tr.path 21)), (some (.p (S.get (.t (Tr.path 1))))), none, [Tr.path 1]⟩,
          ⟨(some (Tr.path 22)), (some (.p (S.get (.t (Tr.path 6))))), none, [Tr.path 6]⟩,
          ⟨(some (Tr.path 23)), (some (.p (iaddrSF (.t (Tr.path 21)) (.t (Tr.path 22)) 1))), none, [Tr.path 21, Tr.path 22]⟩,
          ⟨(some (Tr.path 24)), (some (.r (loadF (.t (Tr.path 23)) 1 .sc))), none, [Tr.path 23]⟩,
          ⟨(some (Tr.path 7)), (some (.p (S.get (.t (Tr.path 24))))), none, [Tr.path 24]⟩]) (
         .reg [
         ⟨(some (Tr.path 25)), (some (.p (S.get (.t (Tr.path 5))))), none, [Tr.path 5]⟩,
         ⟨(some (Tr.path 26)), (some (.p (arF .add (.t (Tr.path 25)) (.c (.int .i64 1))))), none, [Tr.path 25]⟩,
         ⟨(some (Tr.path 5)), (some (.p (S.get (.t (Tr.path 26))))), none, [Tr.path 26]⟩])) (.skip))) (
      .regD [
      ⟨(some (Tr.path 27)), (some (.p (S.get (.t (Tr.path 0))))), none, [Tr.path 0]⟩,
      ⟨(some (Tr.path 28)), (some (.p (nilcF (.t (Tr.path 27))))), none, [Tr.path 27]⟩,
      ⟨(some (Tr.path 29)), (some (.p (faddrF (.t (Tr.path 28)) 0))), none, [Tr.path 28]⟩,
      ⟨(some (Tr.path 30)), (some (.r (loadF (.t (Tr.path 29)) 1 .sc))), none, [Tr.path 29]⟩,
      ⟨(some (Tr.path 31)), (some (.p (S.get (.t (Tr.path 0))))), none, [Tr.path 0]⟩,
      ⟨(some (Tr.path 32)), (some (.p (nilcF (.t (Tr.path 31))))), none, [Tr.path 31]⟩,
      ⟨(some (Tr.path 33)), (some (.p (faddrF (.t (Tr.path 32)) 1))), none, [Tr.path 32]⟩,
      ⟨(some (Tr.path 34)), (some (.r (loadF (.t (Tr.path 33)) 1 .sc))), none, [Tr.path 33]⟩,
      ⟨(some (Tr.path 35)), (some (.p (S.get (.t (Tr.path 6))))), none, [Tr.path 6]⟩,
      ⟨(some (Tr.path 36)), (some (.p (iaddrSF (.t (Tr.path 34)) (.t (Tr.path 35)) 65))), none, [Tr.path 34, Tr.path 35]⟩,
      ⟨(some (Tr.path 37)), (some (.p (faddrF (.t (Tr.path 36)) 0))), none, [Tr.path 36]⟩,
      ⟨(some (Tr.path 38)), (some (.r (loadF (.t (Tr.path 37)) 1 .sc))), none, [Tr.path 37]⟩,
      ⟨(some (Tr.path 39)), (some (.p (S.get (.t (Tr.path 0))))), none, [Tr.path 0]⟩,
      ⟨(some (Tr.path 40)), (some (.p (nilcF (.t (Tr.path 39))))), none, [Tr.path 39]⟩,
      ⟨(some (Tr.path 41)), (some (.p (faddrF (.t (Tr.path 40)) 0))), none, [Tr.path 40]⟩,
      ⟨(some (Tr.path 42)), (some (.r (loadF (.t (Tr.path 41)) 1 .sc))), none, [Tr.path 41]⟩,
      ⟨(some (Tr.path 43)), (some (.p (S.get (.t (Tr.path 0))))), none, [Tr.path 0]⟩,
      ⟨(some (Tr.path 44)), (some (.p (nilcF (.t (Tr.path 43))))), none, [Tr.path 43]⟩,
      ⟨(some (Tr.path 45)), (some (.p (faddrF (.t (Tr.path 44)) 1))), none, [Tr.path 44]⟩,
      ⟨(some (Tr.path 46)), (some (.r (loadF (.t (Tr.path 45)) 1 .sc))), none, [Tr.path 45]⟩,
      ⟨(some (Tr.path 47)), (some (.p (S.get (.t (Tr.path 6))))), none, [Tr.path 6]⟩,
      ⟨(some (Tr.path 48)), (some (.p (iaddrSF (.t (Tr.path 46)) (.t (Tr.path 47)) 65))), none, [Tr.path 46, Tr.path 47]⟩,
      ⟨(some (Tr.path 49)), (some (.p (faddrF (.t (Tr.path 48)) 0))), none, [Tr.path 48]⟩,
      ⟨(some (Tr.path 50)), (some (.r (loadF (.t (Tr.path 49)) 1 .sc))), none, [Tr.path 49]⟩,
      ⟨(some (Tr.path 51)), (some (.p (iaddrSF (.t (Tr.path 42)) (.t (Tr.path 50)) 64))), none, [Tr.path 42, Tr.path 50]⟩,
      ⟨(some (Tr.path 52)), (some (.r (loadF (.t (Tr.path 51)) 64 .bk))), none, [Tr.path 51]⟩,
      ⟨(some (Tr.path 53)), (some (.p (S.get (.t (Tr.path 0))))), none, [Tr.path 0]⟩,
      ⟨(some (Tr.path 54)), (some (.p (nilcF (.t (Tr.path 53))))), none, [Tr.path 53]⟩,
      ⟨(some (Tr.path 55)), (some (.p (faddrF (.t (Tr.path 54)) 1))), none, [Tr.path 54]⟩,
      ⟨(some (Tr.path 56)), (some (.r (loadF (.t (Tr.path 55)) 1 .sc))), none, [Tr.path 55]⟩,
      ⟨(some (Tr.path 57)), (some (.p (S.get (.t (Tr.path 6))))), none, [Tr.path 6]⟩,
      ⟨(some (Tr.path 58)), (some (.p (iaddrSF (.t (Tr.path 56)) (.t (Tr.path 57)) 65))), none, [Tr.path 56, Tr.path 57]⟩,
      ⟨(some (Tr.path 59)), (some (.p (faddrF (.t (Tr.path 58)) 1))), none, [Tr.path 58]⟩,
      ⟨(some (Tr.path 60)), (some (.r (loadF (.t (Tr.path 59)) 64 .bk))), none, [Tr.path 59]⟩,
      ⟨(some (Tr.path 61)), (some (.p (S.get (.t (Tr.path 7))))), none, [Tr.path 7]⟩,
      ⟨(some (Tr.path 62)), (some (.c (callF (.c (.func (.func 25) [] [])) [(.t (Tr.path 52)), (.t (Tr.path 60)), (.t (Tr.path 61))]))), none, [Tr.path 52, Tr.path 60, Tr.path 61]⟩,
      ⟨(some (Tr.path 63)), (some (.p (iaddrSF (.t (Tr.path 30)) (.t (Tr.path 38)) 64))), none, [Tr.path 30, Tr.path 38]⟩,
      ⟨none, (some (.a (storeF (.t (Tr.path 63)) (.t (Tr.path 62)) 64))), none, [Tr.path 63, Tr.path 62]⟩] [0, 1, 3, 7, 0, 16, 48, 112, 0, 496, 1008, 2032, 0, 4096, 12288, 28672, 0, 65536, 196608, 458752, 0, 2031616, 4128768, 8323072, 16773120, 33550336, 0, 67108864, 201326592, 469762048, 0, 2080374784, 4227858432, 8522825728, 0, 34359734272, 68719476735, 137438953471])))) (
    .reg [
    ⟨(some (Tr.path 15)), (some (.p (S.get (.t (Tr.path 6))))), none, [Tr.path 6]⟩,
    ⟨(some (Tr.path 16)), (some (.p (arF .add (.t (Tr.path 15)) (.c (.int .i64 1))))), none, [Tr.path 15]⟩,
    ⟨(some (Tr.path 6)), (some (.p (S.get (.t (Tr.path 16))))), none, [Tr.path 16]⟩]))
/-- (*ashlar/ashlarref05.Disk).Crash -/
noncomputable def c79 : CFn := ⟨[.tmp (Tr.path 4)],
 .seq (.reg [
  ⟨(some (Tr.path 4)), (some (.p (S.get (.c (.int .i64 0))))), none, []⟩]) (
 .seq (.reg [
  ⟨(some (Tr.path 5)), (some (.p (S.get (.c (.int .i64 0))))), none, []⟩]) (
 .seq (.seq (.reg [
   ⟨(some (Tr.path 6)), (some (.p (S.get (.c (.int .i64 0))))), none, []⟩]) (
  .block 0 (.loop c79_l0))) (
 .seq (.reg [
  ⟨(some (Tr.path 64)), (some (.p (S.get (.t (Tr.path 0))))), none, [Tr.path 0]⟩,
  ⟨(some (Tr.path 65)), (some (.p (nilcF (.t (Tr.path 64))))), none, [Tr.path 64]⟩,
  ⟨(some (Tr.path 66)), (some (.p (faddrF (.t (Tr.path 65)) 1))), none, [Tr.path 65]⟩,
  ⟨none, (some (.a (storeF (.t (Tr.path 66)) (.c (.slice none 0 0 0)) 1))), none, [Tr.path 66]⟩]) (
 .seq (.reg [
  ⟨(some (Tr.path 67)), (some (.p (S.get (.t (Tr.path 5))))), none, [Tr.path 5]⟩,
  ⟨(some (Tr.path 4)), (some (.p (S.get (.t (Tr.path 67))))), none, [Tr.path 67]⟩]) (
 .ret)))))⟩
theorem c79_eq : fnOf Try.prog 79 = some c79 := by kernel_rfl

/-- (*ashlar/ashlarref05.Disk).Fail -/
noncomputable def c80 : CFn := ⟨[],
 .seq (.reg [
  ⟨(some (Tr.path 2)), (some (.p (S.get (.t (Tr.path 0))))), none, [Tr.path 0]⟩,
  ⟨(some (Tr.path 3)), (some (.p (nilcF (.t (Tr.path 2))))), none, [Tr.path 2]⟩,
  ⟨(some (Tr.path 4)), (some (.p (faddrF (.t (Tr.path 3)) 2))), none, [Tr.path 3]⟩,
  ⟨none, (some (.a (storeF (.t (Tr.path 4)) (.c (.bool true)) 1))), none, [Tr.path 4]⟩]) (
 .reg [
 ⟨(some (Tr.path 5)), (some (.p (S.get (.t (Tr.path 0))))), none, [Tr.path 0]⟩,
 ⟨(some (Tr.path 6)), (some (.p (nilcF (.t (Tr.path 5))))), none, [Tr.path 5]⟩,
 ⟨(some (Tr.path 7)), (some (.p (faddrF (.t (Tr.path 6)) 1))), none, [Tr.path 6]⟩,
 ⟨none, (some (.a (storeF (.t (Tr.path 7)) (.c (.slice none 0 0 0)) 1))), none, [Tr.path 7]⟩])⟩
theorem c80_eq : fnOf Try.prog 80 = some c80 := by kernel_rfl


theorem rnew_ok (H : Heap) {n : Nat} (h1 : 1 ≤ n) (h2 : n ≤ 512) (lf m : Nat) : ret (callS Try.prog S0 lf (m + 1) 27 [.int .i64 (n : Int)] H) fun v H' => v = .tuple [.ptr (some ⟨.run (H.next + 1), 0⟩), .int .i64 0] ∧
    DevAt H' (.run (H.next + 1)) ⟨.run H.next, 0, .run H.next, none, 0⟩ ⟨List.replicate n 0, [], false⟩ ∧ Turns Z H H' := by
  have g1 : ¬ ((n : Int) < 1) := by omega
  have g2 : ¬ (512 < (n : Int)) := by omega
  have g3 : n ≤ n := Nat.le_refl _
  have g4 : n * 64 ≤ 1099511627776 := by omega
  have g4' : 64 * n ≤ 1099511627776 := by omega
  have g5 : n ≤ 1099511627776 := by omega
  refine ret_call rfl c27_eq ?_
  simp only [c27, g1, g2, g3, g4, g4', g5, mksliceF, Aa, Ab, Ad, Ae, Af, Ag, Ah, Ai, Aj, Ak, Al, Ao, Ap, Aq, Ar, Au, sO_p, sO_r, sO_m, sO_a, sO_c, Av, Aw, Ax, Ay, Az, sE_p, sE_r, sE_m, sE_a, sE_c, A0, A2, A3, A4, A5, A6, A7, A8, A9, Ba, Bb, Bc, Bd, Be, Bf, Bg, Bh, Bi, Bj, Bl, Bm, Bo, Bp, Bq, Br, Bs, Bt, Bu, Bv, Tr.getP_e, Bw, Bx, ↓reduceIte, Nat.reduceEqDiff, Nat.reduceAdd, Nat.reduceSub, Nat.reduceMul, Nat.reduceDiv, Nat.reduceMod, Nat.zero_add, Nat.add_zero, beq_self_eq_true, Nat.zero_ne_one, Nat.one_ne_zero, Nat.reduceLeDiff, Int.reduceBEq, constF, unF, unary,  pickF, nilcF, faddrF, fldF, iaddrSF, arF, Bz, B3, B4, B5, B6, B7, convF, extF, lenF, eqcF, eqnF, eqN, eqPtr, isNone, loadF, storeF, allocF, callF, gets, Option.map_some, Option.bind_some, B8, B9, Ca, Cb, Cc, nbeq, nble, Cd, Ce, Cf, Cg, Ch, Ci, Cj, Ck, Cl, Cm, Cn, Co, Cp, Cq, Cr, Cs, Ct, Cu, Cv, Cw, Cx, V.w, width, unc, cmpCells, Cy, Cz, C6, C7, C8, Da, undef, List.append_nil, List.nil_append, List.cons_append, Db, Dc, resultsV, result, tup, Dd, Bool.and_true, Bool.true_and, Bool.and_self, decide_true, decide_false, Bool.not_true, Bool.not_false, Bool.true_beq, Bool.false_beq, beq_iff_eq, reduceCtorEq, Nat.succ_eq_add_one, ptr0, Int.ofNat_eq_natCast, Int.ofNat_le, Int.ofNat_lt, Int.natCast_add, De, Df, Dg, Dh, Di, List.map_cons, List.map_nil, Dj, Heap.next_add, Heap.next_set, boxF, buildF, fill, bsliceF, fillRows, List.replicate_one, Dk, Dl, Dm, Dn, Dp, Dq, Dr, Ds, Dt, Du, Dw, Dx, Dy, Dz, D2, D3, D4, D5, D6, D7, D8, D9, Ea, Eb, Ec, appF, List.length_cons, List.length_nil]
  refine ⟨trivial, .inr trivial, _, rfl, rfl, ?_, ((Turns.refl Z H).addm _).addm _⟩
  refine ⟨?_, ?_, fun _ => ⟨rfl, rfl⟩, fun e => absurd rfl e, ⟨?_, ?_, fun e => absurd rfl e⟩, by simp, fun e => absurd rfl e⟩
  · rw [Heap.get_add, if_pos (by simp)]; simp
  · rw [Heap.get_add, if_neg (by simp), Heap.get_add, if_pos rfl]
    simp [sureRows]
  · show _ < _
    first | (simp; done) | (simp; omega)
  · show _ < _
    first | (simp; done) | (simp; omega)

theorem rnew_err (H : Heap) {n : Int} (h : n < 1 ∨ 512 < n) (lf m : Nat) : callS Try.prog S0 lf (m + 1) 27 [.int .i64 n] H = some (.v (.tuple [.ptr none, .int .i64 2]), H) := by
  obtain ⟨v, H', e, rfl, rfl⟩ : ret (callS Try.prog S0 lf (m + 1) 27 [.int .i64 n] H) fun v H' => v = .tuple [.ptr none, .int .i64 2] ∧ H' = H := by
    refine ret_call rfl c27_eq ?_
    by_cases h1 : n < 1
    · simp only [c27, h1, Aa, Ab, Ad, Ae, Af, Ag, Ah, Ai, Aj, Ak, Al, Ao, Ap, Aq, Ar, Au, sO_p, sO_r, sO_m, sO_a, sO_c, Av, Aw, Ax, Ay, Az, sE_p, sE_r, sE_m, sE_a, sE_c, A0, A2, A3, A4, A5, A6, A7, A8, A9, Ba, Bb, Bc, Bd, Be, Bf, Bg, Bh, Bi, Bj, Bl, Bm, Bo, Bp, Bq, Br, Bs, Bt, Bu, Bv, Tr.getP_e, Bw, Bx, ↓reduceIte, Nat.reduceEqDiff, Nat.reduceAdd, Nat.reduceSub, Nat.reduceMul, Nat.reduceDiv, Nat.reduceMod, Nat.zero_add, Nat.add_zero, beq_self_eq_true, Nat.zero_ne_one, Nat.one_ne_zero, Nat.reduceLeDiff, Int.reduceBEq, constF, unF, unary,  pickF, nilcF, faddrF, fldF, iaddrSF, arF, Bz, B3, B4, B5, B6, B7, convF, extF, lenF, eqcF, eqnF, eqN, eqPtr, isNone, loadF, storeF, allocF, callF, gets, Option.map_some, Option.bind_some, B8, B9, Ca, Cb, Cc, nbeq, nble, Cd, Ce, Cf, Cg, Ch, Ci, Cj, Ck, Cl, Cm, Cn, Co, Cp, Cq, Cr, Cs, Ct, Cu, Cv, Cw, Cx, V.w, width, unc, cmpCells, Cy, Cz, C6, C7, C8, Da, undef, List.append_nil, List.nil_append, List.cons_append, Db, Dc, resultsV, result, tup, Dd, Bool.and_true, Bool.true_and, Bool.and_self, decide_true, decide_false, Bool.not_true, Bool.not_false, Bool.true_beq, Bool.false_beq, beq_iff_eq, reduceCtorEq, Nat.succ_eq_add_one, ptr0, Int.ofNat_eq_natCast, Int.ofNat_le, Int.ofNat_lt, Int.natCast_add, De, Df, Dg, Dh, Di, List.map_cons, List.map_nil, Dj, Heap.next_add, Heap.next_set, boxF, buildF, fill, bsliceF, fillRows, List.replicate_one, Dk, Dl, Dm, Dn, Dp, Dq, Dr, Ds, Dt, Du, Dw, Dx, Dy, Dz, D2, D3, D4, D5, D6, D7, D8, D9, Ea, Eb, Ec, appF, List.length_cons, List.length_nil]
      exact ⟨trivial, .inr trivial, _, rfl, rfl, trivial⟩
    · have h2 : 512 < n := by omega
      simp only [c27, h1, h2, Aa, Ab, Ad, Ae, Af, Ag, Ah, Ai, Aj, Ak, Al, Ao, Ap, Aq, Ar, Au, sO_p, sO_r, sO_m, sO_a, sO_c, Av, Aw, Ax, Ay, Az, sE_p, sE_r, sE_m, sE_a, sE_c, A0, A2, A3, A4, A5, A6, A7, A8, A9, Ba, Bb, Bc, Bd, Be, Bf, Bg, Bh, Bi, Bj, Bl, Bm, Bo, Bp, Bq, Br, Bs, Bt, Bu, Bv, Tr.getP_e, Bw, Bx, ↓reduceIte, Nat.reduceEqDiff, Nat.reduceAdd, Nat.reduceSub, Nat.reduceMul, Nat.reduceDiv, Nat.reduceMod, Nat.zero_add, Nat.add_zero, beq_self_eq_true, Nat.zero_ne_one, Nat.one_ne_zero, Nat.reduceLeDiff, Int.reduceBEq, constF, unF, unary,  pickF, nilcF, faddrF, fldF, iaddrSF, arF, Bz, B3, B4, B5, B6, B7, convF, extF, lenF, eqcF, eqnF, eqN, eqPtr, isNone, loadF, storeF, allocF, callF, gets, Option.map_some, Option.bind_some, B8, B9, Ca, Cb, Cc, nbeq, nble, Cd, Ce, Cf, Cg, Ch, Ci, Cj, Ck, Cl, Cm, Cn, Co, Cp, Cq, Cr, Cs, Ct, Cu, Cv, Cw, Cx, V.w, width, unc, cmpCells, Cy, Cz, C6, C7, C8, Da, undef, List.append_nil, List.nil_append, List.cons_append, Db, Dc, resultsV, result, tup, Dd, Bool.and_true, Bool.true_and, Bool.and_self, decide_true, decide_false, Bool.not_true, Bool.not_false, Bool.true_beq, Bool.false_beq, beq_iff_eq, reduceCtorEq, Nat.succ_eq_add_one, ptr0, Int.ofNat_eq_natCast, Int.ofNat_le, Int.ofNat_lt, Int.natCast_add, De, Df, Dg, Dh, Di, List.map_cons, List.map_nil, Dj, Heap.next_add, Heap.next_set, boxF, buildF, fill, bsliceF, fillRows, List.replicate_one, Dk, Dl, Dm, Dn, Dp, Dq, Dr, Ds, Dt, Du, Dw, Dx, Dy, Dz, D2, D3, D4, D5, D6, D7, D8, D9, Ea, Eb, Ec, appF, List.length_cons, List.length_nil]
      exact ⟨trivial, .inr trivial, _, rfl, rfl, trivial⟩
  exact e

theorem asks_code {H : Heap} {b : Bk} {y : Lay} {D : Dev} (h : DevAt H b y D) (n : Int) (lf m : Nat) : ret (callS Try.prog S0 lf (m + 1) 131 [.ptr (some ⟨b, 0⟩), .int .i64 n] H) fun v H' => v = .int .i64 (code D n) ∧ H' = H := by
  have h0 := load0 h
  have h2 := load2 h
  refine ret_call rfl c131_eq ?_
  by_cases hlt : n < 0
  · rw [code_out (.inl hlt)]
    simp only [c131, h0, h2, hlt, Aa, Ab, Ad, Ae, Af, Ag, Ah, Ai, Aj, Ak, Al, Ao, Ap, Aq, Ar, Au, sO_p, sO_r, sO_m, sO_a, sO_c, Av, Aw, Ax, Ay, Az, sE_p, sE_r, sE_m, sE_a, sE_c, A0, A2, A3, A4, A5, A6, A7, A8, A9, Ba, Bb, Bc, Bd, Be, Bf, Bg, Bh, Bi, Bj, Bl, Bm, Bo, Bp, Bq, Br, Bs, Bt, Bu, Bv, Tr.getP_e, Bw, Bx, ↓reduceIte, Nat.reduceEqDiff, Nat.reduceAdd, Nat.reduceSub, Nat.reduceMul, Nat.reduceDiv, Nat.reduceMod, Nat.zero_add, Nat.add_zero, beq_self_eq_true, Nat.zero_ne_one, Nat.one_ne_zero, Nat.reduceLeDiff, Int.reduceBEq, constF, unF, unary,  pickF, nilcF, faddrF, fldF, iaddrSF, arF, Bz, B3, B4, B5, B6, B7, convF, extF, lenF, eqcF, eqnF, eqN, eqPtr, isNone, loadF, storeF, allocF, callF, gets, Option.map_some, Option.bind_some, B8, B9, Ca, Cb, Cc, nbeq, nble, Cd, Ce, Cf, Cg, Ch, Ci, Cj, Ck, Cl, Cm, Cn, Co, Cp, Cq, Cr, Cs, Ct, Cu, Cv, Cw, Cx, V.w, width, unc, cmpCells, Cy, Cz, C6, C7, C8, Da, undef, List.append_nil, List.nil_append, List.cons_append, Db, Dc, resultsV, result, tup, Dd, Bool.and_true, Bool.true_and, Bool.and_self, decide_true, decide_false, Bool.not_true, Bool.not_false, Bool.true_beq, Bool.false_beq, beq_iff_eq, reduceCtorEq, Nat.succ_eq_add_one, ptr0, Int.ofNat_eq_natCast, Int.ofNat_le, Int.ofNat_lt, Int.natCast_add, De, Df, Dg, Dh, Di, List.map_cons, List.map_nil, Dj, Heap.next_add, Heap.next_set, boxF, buildF, fill, bsliceF, fillRows, List.replicate_one, Dk, Dl, Dm, Dn, Dp, Dq, Dr, Ds, Dt, Du, Dw, Dx, Dy, Dz, D2, D3, D4, D5, D6, D7, D8, D9, Ea, Eb, Ec, appF, List.length_cons, List.length_nil]
    simp
  · by_cases hge : (D.S.length : Int) ≤ n
    · rw [code_out (.inr hge)]
      simp only [c131, h0, h2, hlt, hge, Aa, Ab, Ad, Ae, Af, Ag, Ah, Ai, Aj, Ak, Al, Ao, Ap, Aq, Ar, Au, sO_p, sO_r, sO_m, sO_a, sO_c, Av, Aw, Ax, Ay, Az, sE_p, sE_r, sE_m, sE_a, sE_c, A0, A2, A3, A4, A5, A6, A7, A8, A9, Ba, Bb, Bc, Bd, Be, Bf, Bg, Bh, Bi, Bj, Bl, Bm, Bo, Bp, Bq, Br, Bs, Bt, Bu, Bv, Tr.getP_e, Bw, Bx, ↓reduceIte, Nat.reduceEqDiff, Nat.reduceAdd, Nat.reduceSub, Nat.reduceMul, Nat.reduceDiv, Nat.reduceMod, Nat.zero_add, Nat.add_zero, beq_self_eq_true, Nat.zero_ne_one, Nat.one_ne_zero, Nat.reduceLeDiff, Int.reduceBEq, constF, unF, unary,  pickF, nilcF, faddrF, fldF, iaddrSF, arF, Bz, B3, B4, B5, B6, B7, convF, extF, lenF, eqcF, eqnF, eqN, eqPtr, isNone, loadF, storeF, allocF, callF, gets, Option.map_some, Option.bind_some, B8, B9, Ca, Cb, Cc, nbeq, nble, Cd, Ce, Cf, Cg, Ch, Ci, Cj, Ck, Cl, Cm, Cn, Co, Cp, Cq, Cr, Cs, Ct, Cu, Cv, Cw, Cx, V.w, width, unc, cmpCells, Cy, Cz, C6, C7, C8, Da, undef, List.append_nil, List.nil_append, List.cons_append, Db, Dc, resultsV, result, tup, Dd, Bool.and_true, Bool.true_and, Bool.and_self, decide_true, decide_false, Bool.not_true, Bool.not_false, Bool.true_beq, Bool.false_beq, beq_iff_eq, reduceCtorEq, Nat.succ_eq_add_one, ptr0, Int.ofNat_eq_natCast, Int.ofNat_le, Int.ofNat_lt, Int.natCast_add, De, Df, Dg, Dh, Di, List.map_cons, List.map_nil, Dj, Heap.next_add, Heap.next_set, boxF, buildF, fill, bsliceF, fillRows, List.replicate_one, Dk, Dl, Dm, Dn, Dp, Dq, Dr, Ds, Dt, Du, Dw, Dx, Dy, Dz, D2, D3, D4, D5, D6, D7, D8, D9, Ea, Eb, Ec, appF, List.length_cons, List.length_nil]
      simp
    · cases hd : D.dead with
      | true =>
        rw [code_dead (by omega) hd]
        simp only [c131, h0, h2, hd, hlt, hge, Aa, Ab, Ad, Ae, Af, Ag, Ah, Ai, Aj, Ak, Al, Ao, Ap, Aq, Ar, Au, sO_p, sO_r, sO_m, sO_a, sO_c, Av, Aw, Ax, Ay, Az, sE_p, sE_r, sE_m, sE_a, sE_c, A0, A2, A3, A4, A5, A6, A7, A8, A9, Ba, Bb, Bc, Bd, Be, Bf, Bg, Bh, Bi, Bj, Bl, Bm, Bo, Bp, Bq, Br, Bs, Bt, Bu, Bv, Tr.getP_e, Bw, Bx, ↓reduceIte, Nat.reduceEqDiff, Nat.reduceAdd, Nat.reduceSub, Nat.reduceMul, Nat.reduceDiv, Nat.reduceMod, Nat.zero_add, Nat.add_zero, beq_self_eq_true, Nat.zero_ne_one, Nat.one_ne_zero, Nat.reduceLeDiff, Int.reduceBEq, constF, unF, unary,  pickF, nilcF, faddrF, fldF, iaddrSF, arF, Bz, B3, B4, B5, B6, B7, convF, extF, lenF, eqcF, eqnF, eqN, eqPtr, isNone, loadF, storeF, allocF, callF, gets, Option.map_some, Option.bind_some, B8, B9, Ca, Cb, Cc, nbeq, nble, Cd, Ce, Cf, Cg, Ch, Ci, Cj, Ck, Cl, Cm, Cn, Co, Cp, Cq, Cr, Cs, Ct, Cu, Cv, Cw, Cx, V.w, width, unc, cmpCells, Cy, Cz, C6, C7, C8, Da, undef, List.append_nil, List.nil_append, List.cons_append, Db, Dc, resultsV, result, tup, Dd, Bool.and_true, Bool.true_and, Bool.and_self, decide_true, decide_false, Bool.not_true, Bool.not_false, Bool.true_beq, Bool.false_beq, beq_iff_eq, reduceCtorEq, Nat.succ_eq_add_one, ptr0, Int.ofNat_eq_natCast, Int.ofNat_le, Int.ofNat_lt, Int.natCast_add, De, Df, Dg, Dh, Di, List.map_cons, List.map_nil, Dj, Heap.next_add, Heap.next_set, boxF, buildF, fill, bsliceF, fillRows, List.replicate_one, Dk, Dl, Dm, Dn, Dp, Dq, Dr, Ds, Dt, Du, Dw, Dx, Dy, Dz, D2, D3, D4, D5, D6, D7, D8, D9, Ea, Eb, Ec, appF, List.length_cons, List.length_nil]
        simp
      | false =>
        rw [code_ok (by omega) hd]
        simp only [c131, h0, h2, hd, hlt, hge, Aa, Ab, Ad, Ae, Af, Ag, Ah, Ai, Aj, Ak, Al, Ao, Ap, Aq, Ar, Au, sO_p, sO_r, sO_m, sO_a, sO_c, Av, Aw, Ax, Ay, Az, sE_p, sE_r, sE_m, sE_a, sE_c, A0, A2, A3, A4, A5, A6, A7, A8, A9, Ba, Bb, Bc, Bd, Be, Bf, Bg, Bh, Bi, Bj, Bl, Bm, Bo, Bp, Bq, Br, Bs, Bt, Bu, Bv, Tr.getP_e, Bw, Bx, ↓reduceIte, Nat.reduceEqDiff, Nat.reduceAdd, Nat.reduceSub, Nat.reduceMul, Nat.reduceDiv, Nat.reduceMod, Nat.zero_add, Nat.add_zero, beq_self_eq_true, Nat.zero_ne_one, Nat.one_ne_zero, Nat.reduceLeDiff, Int.reduceBEq, constF, unF, unary,  pickF, nilcF, faddrF, fldF, iaddrSF, arF, Bz, B3, B4, B5, B6, B7, convF, extF, lenF, eqcF, eqnF, eqN, eqPtr, isNone, loadF, storeF, allocF, callF, gets, Option.map_some, Option.bind_some, B8, B9, Ca, Cb, Cc, nbeq, nble, Cd, Ce, Cf, Cg, Ch, Ci, Cj, Ck, Cl, Cm, Cn, Co, Cp, Cq, Cr, Cs, Ct, Cu, Cv, Cw, Cx, V.w, width, unc, cmpCells, Cy, Cz, C6, C7, C8, Da, undef, List.append_nil, List.nil_append, List.cons_append, Db, Dc, resultsV, result, tup, Dd, Bool.and_true, Bool.true_and, Bool.and_self, decide_true, decide_false, Bool.not_true, Bool.not_false, Bool.true_beq, Bool.false_beq, beq_iff_eq, reduceCtorEq, Nat.succ_eq_add_one, ptr0, Int.ofNat_eq_natCast, Int.ofNat_le, Int.ofNat_lt, Int.natCast_add, De, Df, Dg, Dh, Di, List.map_cons, List.map_nil, Dj, Heap.next_add, Heap.next_set, boxF, buildF, fill, bsliceF, fillRows, List.replicate_one, Dk, Dl, Dm, Dn, Dp, Dq, Dr, Ds, Dt, Du, Dw, Dx, Dy, Dz, D2, D3, D4, D5, D6, D7, D8, D9, Ea, Eb, Ec, appF, List.length_cons, List.length_nil]
        simp

theorem rwrite_all {H : Heap} {b : Bk} {y : Lay} {D : Dev} (h : DevAt H b y D) (hmax : D.L.length < 1000000) (n : Int) (B : Nat) (lf m : Nat) :
    ret (callS Try.prog S0 lf (m + 2) 74 [.ptr (some ⟨b, 0⟩), .int .i64 n, .blk B] H) fun v H' => v = .int .i64 (code D n) ∧ ∃ y', Next H b y D H' y' (D.write n B) := by
  have t1 := Turns.add Z H (.rows false 64 [[.blk B]])
  have h' := h.turns t1 id id (fun _ => id)
  have err : ∀ z : Int, z = 2 ∨ z = 9 → code D n = z → ret (callS Try.prog S0 lf (m + 2) 74 [.ptr (some ⟨b, 0⟩), .int .i64 n, .blk B] H) fun v H' => v = .int .i64 (code D n) ∧ ∃ y', Next H b y D H' y' (D.write n B) := by
    intro z hz hc
    have hw : D.write n B = D := if_neg (by rw [hc]; omega)
    have hz0 : (z == 0) = false := by simp; omega
    refine ret_call rfl c74_eq ?_
    obtain ⟨v, H1, e, rfl, e1⟩ := asks_code h' n lf m
    subst e1
    rw [hc] at e
    simp only [c74, e, hz0, Aa, Ab, Ad, Ae, Af, Ag, Ah, Ai, Aj, Ak, Al, Ao, Ap, Aq, Ar, Au, sO_p, sO_r, sO_m, sO_a, sO_c, Av, Aw, Ax, Ay, Az, sE_p, sE_r, sE_m, sE_a, sE_c, A0, A2, A3, A4, A5, A6, A7, A8, A9, Ba, Bb, Bc, Bd, Be, Bf, Bg, Bh, Bi, Bj, Bl, Bm, Bo, Bp, Bq, Br, Bs, Bt, Bu, Bv, Tr.getP_e, Bw, Bx, ↓reduceIte, Nat.reduceEqDiff, Nat.reduceAdd, Nat.reduceSub, Nat.reduceMul, Nat.reduceDiv, Nat.reduceMod, Nat.zero_add, Nat.add_zero, beq_self_eq_true, Nat.zero_ne_one, Nat.one_ne_zero, Nat.reduceLeDiff, Int.reduceBEq, constF, unF, unary,  pickF, nilcF, faddrF, fldF, iaddrSF, arF, Bz, B3, B4, B5, B6, B7, convF, extF, lenF, eqcF, eqnF, eqN, eqPtr, isNone, loadF, storeF, allocF, callF, gets, Option.map_some, Option.bind_some, B8, B9, Ca, Cb, Cc, nbeq, nble, Cd, Ce, Cf, Cg, Ch, Ci, Cj, Ck, Cl, Cm, Cn, Co, Cp, Cq, Cr, Cs, Ct, Cu, Cv, Cw, Cx, V.w, width, unc, cmpCells, Cy, Cz, C6, C7, C8, Da, undef, List.append_nil, List.nil_append, List.cons_append, Db, Dc, resultsV, result, tup, Dd, Bool.and_true, Bool.true_and, Bool.and_self, decide_true, decide_false, Bool.not_true, Bool.not_false, Bool.true_beq, Bool.false_beq, beq_iff_eq, reduceCtorEq, Nat.succ_eq_add_one, ptr0, Int.ofNat_eq_natCast, Int.ofNat_le, Int.ofNat_lt, Int.natCast_add, De, Df, Dg, Dh, Di, List.map_cons, List.map_nil, Dj, Heap.next_add, Heap.next_set, boxF, buildF, fill, bsliceF, fillRows, List.replicate_one, Dk, Dl, Dm, Dn, Dp, Dq, Dr, Ds, Dt, Du, Dw, Dx, Dy, Dz, D2, D3, D4, D5, D6, D7, D8, D9, Ea, Eb, Ec, appF, List.length_cons, List.length_nil]
    rw [hw, hc]
    exact ⟨trivial, .inr trivial, _, rfl, rfl, y, Next.idle h t1⟩
  rcases code_cases D n with ⟨k, rfl, hk, hd, hc⟩ | hc | hc
  · rw [hc]
    have hw : D.write (k : Int) B = { D with L := D.L ++ [(k, B)] } := if_pos hc
    rw [hw]
    have t2 := t1.addm (.rows false 65 [[.int .i64 (k : Int), .blk B]])
    have h'' := h.turns t2 id id (fun _ => id)
    have l1 := load1 h'
    have hx : ((H.add (.rows false 64 [[.blk B]])).add (.rows false 65 [[.int .i64 (k : Int), .blk B]])).get (.run (H.next + 1)) = some (.rows false 65 [[.int .i64 (k : Int), .blk B]]) := by
      rw [Heap.get_add, if_pos (by simp)]
    have ha := app_dev h'' hmax hx
    refine ret_call rfl c74_eq ?_
    obtain ⟨v, H1, e, rfl, e1⟩ := asks_code h' (k : Int) lf m
    subst e1
    rw [hc] at e
    have hst : storeAt ((killed ((H.add (.rows false 64 [[.blk B]])).add (.rows false 65 [[.int .i64 (k : Int), .blk B]])) y D).add (.rows false 65 (looseRows (D.L ++ [(k, B)])))) ⟨b, 1⟩ [.slice (some ⟨.run (H.next + 1 + 1), 0⟩) (D.L.length + 1) (D.L.length + 1) 65] = some (((killed ((H.add (.rows false 64 [[.blk B]])).add (.rows false 65 [[.int .i64 (k : Int), .blk B]])) y D).add (.rows false 65 (looseRows (D.L ++ [(k, B)])))).set b (.rows false 3 [[.slice (some ⟨y.s, 0⟩) D.S.length D.S.length y.so, .slice (some ⟨.run (H.next + 1 + 1), 0⟩) (D.L.length + 1) (D.L.length + 1) 65, .bool D.dead]])) := by
      have hg : ((killed ((H.add (.rows false 64 [[.blk B]])).add (.rows false 65 [[.int .i64 (k : Int), .blk B]])) y D).add (.rows false 65 (looseRows (D.L ++ [(k, B)])))).get b = some (.rows false 3 [[.slice (some ⟨y.s, 0⟩) D.S.length D.S.length y.so, .slice y.p D.L.length D.L.length y.o, .bool D.dead]]) := by
        rw [Heap.get_add, if_neg (fun e : b = _ => Heap.not_old (Nat.le_refl _) (by rw [← killed_next _ y D, ← e]; exact h''.old.1)), killed_get (fun hL => (h.ne.2 hL).1), h''.own]
      exact storeAt_eq hg (r := [.slice (some ⟨y.s, 0⟩) D.S.length D.S.length y.so, .slice y.p D.L.length D.L.length y.o, .bool D.dead]) rfl (put_own _ _ _ _ rfl rfl rfl)
    simp only [c74, e, l1, ha, hst, Aa, Ab, Ad, Ae, Af, Ag, Ah, Ai, Aj, Ak, Al, Ao, Ap, Aq, Ar, Au, sO_p, sO_r, sO_m, sO_a, sO_c, Av, Aw, Ax, Ay, Az, sE_p, sE_r, sE_m, sE_a, sE_c, A0, A2, A3, A4, A5, A6, A7, A8, A9, Ba, Bb, Bc, Bd, Be, Bf, Bg, Bh, Bi, Bj, Bl, Bm, Bo, Bp, Bq, Br, Bs, Bt, Bu, Bv, Tr.getP_e, Bw, Bx, ↓reduceIte, Nat.reduceEqDiff, Nat.reduceAdd, Nat.reduceSub, Nat.reduceMul, Nat.reduceDiv, Nat.reduceMod, Nat.zero_add, Nat.add_zero, beq_self_eq_true, Nat.zero_ne_one, Nat.one_ne_zero, Nat.reduceLeDiff, Int.reduceBEq, constF, unF, unary,  pickF, nilcF, faddrF, fldF, iaddrSF, arF, Bz, B3, B4, B5, B6, B7, convF, extF, lenF, eqcF, eqnF, eqN, eqPtr, isNone, loadF, storeF, allocF, callF, gets, Option.map_some, Option.bind_some, B8, B9, Ca, Cb, Cc, nbeq, nble, Cd, Ce, Cf, Cg, Ch, Ci, Cj, Ck, Cl, Cm, Cn, Co, Cp, Cq, Cr, Cs, Ct, Cu, Cv, Cw, Cx, V.w, width, unc, cmpCells, Cy, Cz, C6, C7, C8, Da, undef, List.append_nil, List.nil_append, List.cons_append, Db, Dc, resultsV, result, tup, Dd, Bool.and_true, Bool.true_and, Bool.and_self, decide_true, decide_false, Bool.not_true, Bool.not_false, Bool.true_beq, Bool.false_beq, beq_iff_eq, reduceCtorEq, Nat.succ_eq_add_one, ptr0, Int.ofNat_eq_natCast, Int.ofNat_le, Int.ofNat_lt, Int.natCast_add, De, Df, Dg, Dh, Di, List.map_cons, List.map_nil, Dj, Heap.next_add, Heap.next_set, boxF, buildF, fill, bsliceF, fillRows, List.replicate_one, Dk, Dl, Dm, Dn, Dp, Dq, Dr, Ds, Dt, Du, Dw, Dx, Dy, Dz, D2, D3, D4, D5, D6, D7, D8, D9, Ea, Eb, Ec, appF, List.length_cons, List.length_nil]
    rw [endD_ok (by kernel_rfl) (by kernel_rfl)]
    simp only [Aa, Ab, Ad, Ae, Af, Ag, Ah, Ai, Aj, Ak, Al, Ao, Ap, Aq, Ar, Au, sO_p, sO_r, sO_m, sO_a, sO_c, Av, Aw, Ax, Ay, Az, sE_p, sE_r, sE_m, sE_a, sE_c, A0, A2, A3, A4, A5, A6, A7, A8, A9, Ba, Bb, Bc, Bd, Be, Bf, Bg, Bh, Bi, Bj, Bl, Bm, Bo, Bp, Bq, Br, Bs, Bt, Bu, Bv, Tr.getP_e, Bw, Bx, ↓reduceIte, Nat.reduceEqDiff, Nat.reduceAdd, Nat.reduceSub, Nat.reduceMul, Nat.reduceDiv, Nat.reduceMod, Nat.zero_add, Nat.add_zero, beq_self_eq_true, Nat.zero_ne_one, Nat.one_ne_zero, Nat.reduceLeDiff, Int.reduceBEq, constF, unF, unary,  pickF, nilcF, faddrF, fldF, iaddrSF, arF, Bz, B3, B4, B5, B6, B7, convF, extF, lenF, eqcF, eqnF, eqN, eqPtr, isNone, loadF, storeF, allocF, callF, gets, Option.map_some, Option.bind_some, B8, B9, Ca, Cb, Cc, nbeq, nble, Cd, Ce, Cf, Cg, Ch, Ci, Cj, Ck, Cl, Cm, Cn, Co, Cp, Cq, Cr, Cs, Ct, Cu, Cv, Cw, Cx, V.w, width, unc, cmpCells, Cy, Cz, C6, C7, C8, Da, undef, List.append_nil, List.nil_append, List.cons_append, Db, Dc, resultsV, result, tup, Dd, Bool.and_true, Bool.true_and, Bool.and_self, decide_true, decide_false, Bool.not_true, Bool.not_false, Bool.true_beq, Bool.false_beq, beq_iff_eq, reduceCtorEq, Nat.succ_eq_add_one, ptr0, Int.ofNat_eq_natCast, Int.ofNat_le, Int.ofNat_lt, Int.natCast_add, De, Df, Dg, Dh, Di, List.map_cons, List.map_nil, Dj, Heap.next_add, Heap.next_set, boxF, buildF, fill, bsliceF, fillRows, List.replicate_one, Dk, Dl, Dm, Dn, Dp, Dq, Dr, Ds, Dt, Du, Dw, Dx, Dy, Dz, D2, D3, D4, D5, D6, D7, D8, D9, Ea, Eb, Ec, appF, List.length_cons, List.length_nil]
    refine ⟨trivial, .inr trivial, _, rfl, rfl, ⟨y.s, y.so, .run (H.next + 1 + 1), some ⟨.run (H.next + 1 + 1), 0⟩, 65⟩, ?_⟩
    have hn2 : ((H.add (.rows false 64 [[.blk B]])).add (.rows false 65 [[.int .i64 (k : Int), .blk B]])).next = H.next + 1 + 1 := by simp
    have hnew : ∀ c, H.Old c → c ≠ .run (H.next + 1 + 1) := fun c hc e => Heap.not_old (H := H) (n := H.next + 1 + 1) (by omega) (e ▸ hc)
    obtain ⟨o1, o2, o3⟩ := h.old
    refine ⟨⟨?_, ?_, fun hL => absurd hL (by simp), fun _ => ⟨rfl, rfl, ?_⟩, ⟨?_, ?_, fun _ => ?_⟩, h.ne.1, fun _ => ⟨hnew _ o1, hnew _ o2⟩⟩, ?_, rfl, fun _ => .inr (Heap.not_old (by omega))⟩
    · rw [Heap.get_set, if_pos rfl]; simp
    · rw [Heap.get_set, if_neg (Ne.symm h.ne.1), Heap.get_add, killed_next, hn2, if_neg (hnew _ o2), killed_get (fun hL => (h.ne.2 hL).2)]
      exact h''.sure
    · rw [Heap.get_set, if_neg (fun e => hnew _ o1 e.symm), Heap.get_add, killed_next, hn2, if_pos rfl]
    · exact o1.mono (by simp [killed_next]; omega)
    · exact o2.mono (by simp [killed_next]; omega)
    · show _ < _
      simp [killed_next]
    · exact (((t2.wide (fun c hc => hc.elim)).trans (killed_turns _ b y D)).addm _).setm (.inl rfl) _
  · exact err 2 (.inl rfl) hc
  · exact err 9 (.inr rfl) hc

theorem rsure_all {H : Heap} {b : Bk} {y : Lay} {D : Dev} (h : DevAt H b y D) (n : Int) (lf m : Nat) :
    ret (callS Try.prog S0 lf (m + 2) 77 [.ptr (some ⟨b, 0⟩), .int .i64 n] H) fun v H' => v = .tuple [.blk (D.sure n), .int .i64 (code D n)] ∧ Turns Z H H' := by
  have t1 := Turns.add Z H (.rows false 64 [[.blk 0]])
  have h' := h.turns t1 id id (fun _ => id)
  have err : ∀ z : Int, z = 2 ∨ z = 9 → code D n = z → ret (callS Try.prog S0 lf (m + 2) 77 [.ptr (some ⟨b, 0⟩), .int .i64 n] H) fun v H' => v = .tuple [.blk (D.sure n), .int .i64 (code D n)] ∧ Turns Z H H' := by
    intro z hz hc
    have hw : D.sure n = 0 := if_neg (by rw [hc]; omega)
    have hz0 : (z == 0) = false := by simp; omega
    refine ret_call rfl c77_eq ?_
    obtain ⟨v, H1, e, rfl, e1⟩ := asks_code h' n lf m
    subst e1
    rw [hc] at e
    simp only [c77, e, hz0, Aa, Ab, Ad, Ae, Af, Ag, Ah, Ai, Aj, Ak, Al, Ao, Ap, Aq, Ar, Au, sO_p, sO_r, sO_m, sO_a, sO_c, Av, Aw, Ax, Ay, Az, sE_p, sE_r, sE_m, sE_a, sE_c, A0, A2, A3, A4, A5, A6, A7, A8, A9, Ba, Bb, Bc, Bd, Be, Bf, Bg, Bh, Bi, Bj, Bl, Bm, Bo, Bp, Bq, Br, Bs, Bt, Bu, Bv, Tr.getP_e, Bw, Bx, ↓reduceIte, Nat.reduceEqDiff, Nat.reduceAdd, Nat.reduceSub, Nat.reduceMul, Nat.reduceDiv, Nat.reduceMod, Nat.zero_add, Nat.add_zero, beq_self_eq_true, Nat.zero_ne_one, Nat.one_ne_zero, Nat.reduceLeDiff, Int.reduceBEq, constF, unF, unary,  pickF, nilcF, faddrF, fldF, iaddrSF, arF, Bz, B3, B4, B5, B6, B7, convF, extF, lenF, eqcF, eqnF, eqN, eqPtr, isNone, loadF, storeF, allocF, callF, gets, Option.map_some, Option.bind_some, B8, B9, Ca, Cb, Cc, nbeq, nble, Cd, Ce, Cf, Cg, Ch, Ci, Cj, Ck, Cl, Cm, Cn, Co, Cp, Cq, Cr, Cs, Ct, Cu, Cv, Cw, Cx, V.w, width, unc, cmpCells, Cy, Cz, C6, C7, C8, Da, undef, List.append_nil, List.nil_append, List.cons_append, Db, Dc, resultsV, result, tup, Dd, Bool.and_true, Bool.true_and, Bool.and_self, decide_true, decide_false, Bool.not_true, Bool.not_false, Bool.true_beq, Bool.false_beq, beq_iff_eq, reduceCtorEq, Nat.succ_eq_add_one, ptr0, Int.ofNat_eq_natCast, Int.ofNat_le, Int.ofNat_lt, Int.natCast_add, De, Df, Dg, Dh, Di, List.map_cons, List.map_nil, Dj, Heap.next_add, Heap.next_set, boxF, buildF, fill, bsliceF, fillRows, List.replicate_one, Dk, Dl, Dm, Dn, Dp, Dq, Dr, Ds, Dt, Du, Dw, Dx, Dy, Dz, D2, D3, D4, D5, D6, D7, D8, D9, Ea, Eb, Ec, appF, List.length_cons, List.length_nil]
    rw [hw, hc]
    exact ⟨trivial, .inr trivial, _, rfl, rfl, t1.setnew (Nat.le_refl _) _⟩
  rcases code_cases D n with ⟨k, rfl, hk, hd, hc⟩ | hc | hc
  · have hw : D.sure (k : Int) = D.S[k] := by unfold Dev.sure; rw [if_pos hc]; exact getD_lt hk
    rw [hc, hw]
    have h0 := load0 h'
    have hs := loadS h' hk
    have hn1 : k + 1 ≤ D.S.length := hk
    refine ret_call rfl c77_eq ?_
    obtain ⟨v, H1, e, rfl, e1⟩ := asks_code h' (k : Int) lf m
    subst e1
    rw [hc] at e
    simp only [c77, e, h0, hs, hn1, Aa, Ab, Ad, Ae, Af, Ag, Ah, Ai, Aj, Ak, Al, Ao, Ap, Aq, Ar, Au, sO_p, sO_r, sO_m, sO_a, sO_c, Av, Aw, Ax, Ay, Az, sE_p, sE_r, sE_m, sE_a, sE_c, A0, A2, A3, A4, A5, A6, A7, A8, A9, Ba, Bb, Bc, Bd, Be, Bf, Bg, Bh, Bi, Bj, Bl, Bm, Bo, Bp, Bq, Br, Bs, Bt, Bu, Bv, Tr.getP_e, Bw, Bx, ↓reduceIte, Nat.reduceEqDiff, Nat.reduceAdd, Nat.reduceSub, Nat.reduceMul, Nat.reduceDiv, Nat.reduceMod, Nat.zero_add, Nat.add_zero, beq_self_eq_true, Nat.zero_ne_one, Nat.one_ne_zero, Nat.reduceLeDiff, Int.reduceBEq, constF, unF, unary,  pickF, nilcF, faddrF, fldF, iaddrSF, arF, Bz, B3, B4, B5, B6, B7, convF, extF, lenF, eqcF, eqnF, eqN, eqPtr, isNone, loadF, storeF, allocF, callF, gets, Option.map_some, Option.bind_some, B8, B9, Ca, Cb, Cc, nbeq, nble, Cd, Ce, Cf, Cg, Ch, Ci, Cj, Ck, Cl, Cm, Cn, Co, Cp, Cq, Cr, Cs, Ct, Cu, Cv, Cw, Cx, V.w, width, unc, cmpCells, Cy, Cz, C6, C7, C8, Da, undef, List.append_nil, List.nil_append, List.cons_append, Db, Dc, resultsV, result, tup, Dd, Bool.and_true, Bool.true_and, Bool.and_self, decide_true, decide_false, Bool.not_true, Bool.not_false, Bool.true_beq, Bool.false_beq, beq_iff_eq, reduceCtorEq, Nat.succ_eq_add_one, ptr0, Int.ofNat_eq_natCast, Int.ofNat_le, Int.ofNat_lt, Int.natCast_add, De, Df, Dg, Dh, Di, List.map_cons, List.map_nil, Dj, Heap.next_add, Heap.next_set, boxF, buildF, fill, bsliceF, fillRows, List.replicate_one, Dk, Dl, Dm, Dn, Dp, Dq, Dr, Ds, Dt, Du, Dw, Dx, Dy, Dz, D2, D3, D4, D5, D6, D7, D8, D9, Ea, Eb, Ec, appF, List.length_cons, List.length_nil]
    exact ⟨trivial, .inr trivial, _, rfl, rfl, t1.setnew (Nat.le_refl _) _⟩
  · exact err 2 (.inl rfl) hc
  · exact err 9 (.inr rfl) hc

theorem rfail_ok {H : Heap} {b : Bk} {y : Lay} {D : Dev} (h : DevAt H b y D) (lf m : Nat) : ret (callS Try.prog S0 lf (m + 1) 80 [.ptr (some ⟨b, 0⟩)] H) fun v H' => ∃ y', Next H b y D H' y' D.fail := by
  refine ret_call rfl c80_eq ?_
  obtain ⟨o1, o2, s1, s2, hN⟩ := fail_next h
  simp only [c80, s1, s2, Aa, Ab, Ad, Ae, Af, Ag, Ah, Ai, Aj, Ak, Al, Ao, Ap, Aq, Ar, Au, sO_p, sO_r, sO_m, sO_a, sO_c, Av, Aw, Ax, Ay, Az, sE_p, sE_r, sE_m, sE_a, sE_c, A0, A2, A3, A4, A5, A6, A7, A8, A9, Ba, Bb, Bc, Bd, Be, Bf, Bg, Bh, Bi, Bj, Bl, Bm, Bo, Bp, Bq, Br, Bs, Bt, Bu, Bv, Tr.getP_e, Bw, Bx, ↓reduceIte, Nat.reduceEqDiff, Nat.reduceAdd, Nat.reduceSub, Nat.reduceMul, Nat.reduceDiv, Nat.reduceMod, Nat.zero_add, Nat.add_zero, beq_self_eq_true, Nat.zero_ne_one, Nat.one_ne_zero, Nat.reduceLeDiff, Int.reduceBEq, constF, unF, unary,  pickF, nilcF, faddrF, fldF, iaddrSF, arF, Bz, B3, B4, B5, B6, B7, convF, extF, lenF, eqcF, eqnF, eqN, eqPtr, isNone, loadF, storeF, allocF, callF, gets, Option.map_some, Option.bind_some, B8, B9, Ca, Cb, Cc, nbeq, nble, Cd, Ce, Cf, Cg, Ch, Ci, Cj, Ck, Cl, Cm, Cn, Co, Cp, Cq, Cr, Cs, Ct, Cu, Cv, Cw, Cx, V.w, width, unc, cmpCells, Cy, Cz, C6, C7, C8, Da, undef, List.append_nil, List.nil_append, List.cons_append, Db, Dc, resultsV, result, tup, Dd, Bool.and_true, Bool.true_and, Bool.and_self, decide_true, decide_false, Bool.not_true, Bool.not_false, Bool.true_beq, Bool.false_beq, beq_iff_eq, reduceCtorEq, Nat.succ_eq_add_one, ptr0, Int.ofNat_eq_natCast, Int.ofNat_le, Int.ofNat_lt, Int.natCast_add, De, Df, Dg, Dh, Di, List.map_cons, List.map_nil, Dj, Heap.next_add, Heap.next_set, boxF, buildF, fill, bsliceF, fillRows, List.replicate_one, Dk, Dl, Dm, Dn, Dp, Dq, Dr, Ds, Dt, Du, Dw, Dx, Dy, Dz, D2, D3, D4, D5, D6, D7, D8, D9, Ea, Eb, Ec, appF, List.length_cons, List.length_nil]
  exact ⟨trivial, .inl trivial, _, rfl, _, hN⟩

theorem rrot_all {H : Heap} {b : Bk} {y : Lay} {D : Dev} (h : DevAt H b y D) (n j : Int) {by' : Nat} (hb : by' < 256) (lf m : Nat) :
    ret (callS Try.prog S0 lf (m + 1) 78 [.ptr (some ⟨b, 0⟩), .int .i64 n, .int .i64 j, .int .u8 (by' : Int)] H) fun v H' => v = .int .i64 (rcode D n j) ∧ ∃ y', Next H b y D H' y' (D.rot n j by') := by
  have h0 := load0 h
  have h2 := load2 h
  refine ret_call rfl c78_eq ?_
  by_cases hout : n < 0 ∨ (D.S.length : Int) ≤ n
  · have e1 : rcode D n j = 2 := if_pos (.inl (code_out hout))
    have e2 : D.rot n j by' = D := if_neg (by rw [e1]; decide)
    rw [e1, e2]
    by_cases hlt : n < 0
    · simp only [c78, h0, h2, hlt, Aa, Ab, Ad, Ae, Af, Ag, Ah, Ai, Aj, Ak, Al, Ao, Ap, Aq, Ar, Au, sO_p, sO_r, sO_m, sO_a, sO_c, Av, Aw, Ax, Ay, Az, sE_p, sE_r, sE_m, sE_a, sE_c, A0, A2, A3, A4, A5, A6, A7, A8, A9, Ba, Bb, Bc, Bd, Be, Bf, Bg, Bh, Bi, Bj, Bl, Bm, Bo, Bp, Bq, Br, Bs, Bt, Bu, Bv, Tr.getP_e, Bw, Bx, ↓reduceIte, Nat.reduceEqDiff, Nat.reduceAdd, Nat.reduceSub, Nat.reduceMul, Nat.reduceDiv, Nat.reduceMod, Nat.zero_add, Nat.add_zero, beq_self_eq_true, Nat.zero_ne_one, Nat.one_ne_zero, Nat.reduceLeDiff, Int.reduceBEq, constF, unF, unary,  pickF, nilcF, faddrF, fldF, iaddrSF, arF, Bz, B3, B4, B5, B6, B7, convF, extF, lenF, eqcF, eqnF, eqN, eqPtr, isNone, loadF, storeF, allocF, callF, gets, Option.map_some, Option.bind_some, B8, B9, Ca, Cb, Cc, nbeq, nble, Cd, Ce, Cf, Cg, Ch, Ci, Cj, Ck, Cl, Cm, Cn, Co, Cp, Cq, Cr, Cs, Ct, Cu, Cv, Cw, Cx, V.w, width, unc, cmpCells, Cy, Cz, C6, C7, C8, Da, undef, List.append_nil, List.nil_append, List.cons_append, Db, Dc, resultsV, result, tup, Dd, Bool.and_true, Bool.true_and, Bool.and_self, decide_true, decide_false, Bool.not_true, Bool.not_false, Bool.true_beq, Bool.false_beq, beq_iff_eq, reduceCtorEq, Nat.succ_eq_add_one, ptr0, Int.ofNat_eq_natCast, Int.ofNat_le, Int.ofNat_lt, Int.natCast_add, De, Df, Dg, Dh, Di, List.map_cons, List.map_nil, Dj, Heap.next_add, Heap.next_set, boxF, buildF, fill, bsliceF, fillRows, List.replicate_one, Dk, Dl, Dm, Dn, Dp, Dq, Dr, Ds, Dt, Du, Dw, Dx, Dy, Dz, D2, D3, D4, D5, D6, D7, D8, D9, Ea, Eb, Ec, appF, List.length_cons, List.length_nil]
      exact ⟨trivial, .inr trivial, _, rfl, rfl, y, Next.idle h (Turns.refl _ _)⟩
    · have hge : (D.S.length : Int) ≤ n := by omega
      simp only [c78, h0, h2, hlt, hge, Aa, Ab, Ad, Ae, Af, Ag, Ah, Ai, Aj, Ak, Al, Ao, Ap, Aq, Ar, Au, sO_p, sO_r, sO_m, sO_a, sO_c, Av, Aw, Ax, Ay, Az, sE_p, sE_r, sE_m, sE_a, sE_c, A0, A2, A3, A4, A5, A6, A7, A8, A9, Ba, Bb, Bc, Bd, Be, Bf, Bg, Bh, Bi, Bj, Bl, Bm, Bo, Bp, Bq, Br, Bs, Bt, Bu, Bv, Tr.getP_e, Bw, Bx, ↓reduceIte, Nat.reduceEqDiff, Nat.reduceAdd, Nat.reduceSub, Nat.reduceMul, Nat.reduceDiv, Nat.reduceMod, Nat.zero_add, Nat.add_zero, beq_self_eq_true, Nat.zero_ne_one, Nat.one_ne_zero, Nat.reduceLeDiff, Int.reduceBEq, constF, unF, unary,  pickF, nilcF, faddrF, fldF, iaddrSF, arF, Bz, B3, B4, B5, B6, B7, convF, extF, lenF, eqcF, eqnF, eqN, eqPtr, isNone, loadF, storeF, allocF, callF, gets, Option.map_some, Option.bind_some, B8, B9, Ca, Cb, Cc, nbeq, nble, Cd, Ce, Cf, Cg, Ch, Ci, Cj, Ck, Cl, Cm, Cn, Co, Cp, Cq, Cr, Cs, Ct, Cu, Cv, Cw, Cx, V.w, width, unc, cmpCells, Cy, Cz, C6, C7, C8, Da, undef, List.append_nil, List.nil_append, List.cons_append, Db, Dc, resultsV, result, tup, Dd, Bool.and_true, Bool.true_and, Bool.and_self, decide_true, decide_false, Bool.not_true, Bool.not_false, Bool.true_beq, Bool.false_beq, beq_iff_eq, reduceCtorEq, Nat.succ_eq_add_one, ptr0, Int.ofNat_eq_natCast, Int.ofNat_le, Int.ofNat_lt, Int.natCast_add, De, Df, Dg, Dh, Di, List.map_cons, List.map_nil, Dj, Heap.next_add, Heap.next_set, boxF, buildF, fill, bsliceF, fillRows, List.replicate_one, Dk, Dl, Dm, Dn, Dp, Dq, Dr, Ds, Dt, Du, Dw, Dx, Dy, Dz, D2, D3, D4, D5, D6, D7, D8, D9, Ea, Eb, Ec, appF, List.length_cons, List.length_nil]
      exact ⟨trivial, .inr trivial, _, rfl, rfl, y, Next.idle h (Turns.refl _ _)⟩
  · have hlt : ¬ (n < 0) := by omega
    have hge : ¬ ((D.S.length : Int) ≤ n) := by omega
    by_cases hj : j < 0 ∨ 64 ≤ j
    · have e1 : rcode D n j = 2 := if_pos (.inr hj)
      have e2 : D.rot n j by' = D := if_neg (by rw [e1]; decide)
      rw [e1, e2]
      by_cases hj0 : j < 0
      · simp only [c78, h0, h2, hlt, hge, hj0, Aa, Ab, Ad, Ae, Af, Ag, Ah, Ai, Aj, Ak, Al, Ao, Ap, Aq, Ar, Au, sO_p, sO_r, sO_m, sO_a, sO_c, Av, Aw, Ax, Ay, Az, sE_p, sE_r, sE_m, sE_a, sE_c, A0, A2, A3, A4, A5, A6, A7, A8, A9, Ba, Bb, Bc, Bd, Be, Bf, Bg, Bh, Bi, Bj, Bl, Bm, Bo, Bp, Bq, Br, Bs, Bt, Bu, Bv, Tr.getP_e, Bw, Bx, ↓reduceIte, Nat.reduceEqDiff, Nat.reduceAdd, Nat.reduceSub, Nat.reduceMul, Nat.reduceDiv, Nat.reduceMod, Nat.zero_add, Nat.add_zero, beq_self_eq_true, Nat.zero_ne_one, Nat.one_ne_zero, Nat.reduceLeDiff, Int.reduceBEq, constF, unF, unary,  pickF, nilcF, faddrF, fldF, iaddrSF, arF, Bz, B3, B4, B5, B6, B7, convF, extF, lenF, eqcF, eqnF, eqN, eqPtr, isNone, loadF, storeF, allocF, callF, gets, Option.map_some, Option.bind_some, B8, B9, Ca, Cb, Cc, nbeq, nble, Cd, Ce, Cf, Cg, Ch, Ci, Cj, Ck, Cl, Cm, Cn, Co, Cp, Cq, Cr, Cs, Ct, Cu, Cv, Cw, Cx, V.w, width, unc, cmpCells, Cy, Cz, C6, C7, C8, Da, undef, List.append_nil, List.nil_append, List.cons_append, Db, Dc, resultsV, result, tup, Dd, Bool.and_true, Bool.true_and, Bool.and_self, decide_true, decide_false, Bool.not_true, Bool.not_false, Bool.true_beq, Bool.false_beq, beq_iff_eq, reduceCtorEq, Nat.succ_eq_add_one, ptr0, Int.ofNat_eq_natCast, Int.ofNat_le, Int.ofNat_lt, Int.natCast_add, De, Df, Dg, Dh, Di, List.map_cons, List.map_nil, Dj, Heap.next_add, Heap.next_set, boxF, buildF, fill, bsliceF, fillRows, List.replicate_one, Dk, Dl, Dm, Dn, Dp, Dq, Dr, Ds, Dt, Du, Dw, Dx, Dy, Dz, D2, D3, D4, D5, D6, D7, D8, D9, Ea, Eb, Ec, appF, List.length_cons, List.length_nil]
        exact ⟨trivial, .inr trivial, _, rfl, rfl, y, Next.idle h (Turns.refl _ _)⟩
      · have hj1 : (64 : Int) ≤ j := by omega
        simp only [c78, h0, h2, hlt, hge, hj0, hj1, Aa, Ab, Ad, Ae, Af, Ag, Ah, Ai, Aj, Ak, Al, Ao, Ap, Aq, Ar, Au, sO_p, sO_r, sO_m, sO_a, sO_c, Av, Aw, Ax, Ay, Az, sE_p, sE_r, sE_m, sE_a, sE_c, A0, A2, A3, A4, A5, A6, A7, A8, A9, Ba, Bb, Bc, Bd, Be, Bf, Bg, Bh, Bi, Bj, Bl, Bm, Bo, Bp, Bq, Br, Bs, Bt, Bu, Bv, Tr.getP_e, Bw, Bx, ↓reduceIte, Nat.reduceEqDiff, Nat.reduceAdd, Nat.reduceSub, Nat.reduceMul, Nat.reduceDiv, Nat.reduceMod, Nat.zero_add, Nat.add_zero, beq_self_eq_true, Nat.zero_ne_one, Nat.one_ne_zero, Nat.reduceLeDiff, Int.reduceBEq, constF, unF, unary,  pickF, nilcF, faddrF, fldF, iaddrSF, arF, Bz, B3, B4, B5, B6, B7, convF, extF, lenF, eqcF, eqnF, eqN, eqPtr, isNone, loadF, storeF, allocF, callF, gets, Option.map_some, Option.bind_some, B8, B9, Ca, Cb, Cc, nbeq, nble, Cd, Ce, Cf, Cg, Ch, Ci, Cj, Ck, Cl, Cm, Cn, Co, Cp, Cq, Cr, Cs, Ct, Cu, Cv, Cw, Cx, V.w, width, unc, cmpCells, Cy, Cz, C6, C7, C8, Da, undef, List.append_nil, List.nil_append, List.cons_append, Db, Dc, resultsV, result, tup, Dd, Bool.and_true, Bool.true_and, Bool.and_self, decide_true, decide_false, Bool.not_true, Bool.not_false, Bool.true_beq, Bool.false_beq, beq_iff_eq, reduceCtorEq, Nat.succ_eq_add_one, ptr0, Int.ofNat_eq_natCast, Int.ofNat_le, Int.ofNat_lt, Int.natCast_add, De, Df, Dg, Dh, Di, List.map_cons, List.map_nil, Dj, Heap.next_add, Heap.next_set, boxF, buildF, fill, bsliceF, fillRows, List.replicate_one, Dk, Dl, Dm, Dn, Dp, Dq, Dr, Ds, Dt, Du, Dw, Dx, Dy, Dz, D2, D3, D4, D5, D6, D7, D8, D9, Ea, Eb, Ec, appF, List.length_cons, List.length_nil]
        exact ⟨trivial, .inr trivial, _, rfl, rfl, y, Next.idle h (Turns.refl _ _)⟩
    · obtain ⟨q, rfl⟩ : ∃ q : Nat, j = (q : Int) := ⟨j.toNat, by omega⟩
      obtain ⟨k, rfl⟩ : ∃ k : Nat, n = (k : Int) := ⟨n.toNat, by omega⟩
      have hq : q < 64 := by omega
      have hk : k < D.S.length := by omega
      have g1 : ¬ ((q : Int) < 0) := by omega
      have g2 : ¬ ((64 : Int) ≤ (q : Int)) := by omega
      have hge' : ¬ (D.S.length ≤ k) := by omega
      cases hd : D.dead with
      | true =>
        have hc := code_dead hout hd
        have e1 : rcode D (k : Int) (q : Int) = 9 := by unfold rcode; rw [if_neg (by rw [hc]; omega), hc]
        have e2 : D.rot (k : Int) (q : Int) by' = D := if_neg (by rw [e1]; decide)
        rw [e1, e2]
        simp only [c78, h0, h2, hd, hlt, hge', g1, g2, Aa, Ab, Ad, Ae, Af, Ag, Ah, Ai, Aj, Ak, Al, Ao, Ap, Aq, Ar, Au, sO_p, sO_r, sO_m, sO_a, sO_c, Av, Aw, Ax, Ay, Az, sE_p, sE_r, sE_m, sE_a, sE_c, A0, A2, A3, A4, A5, A6, A7, A8, A9, Ba, Bb, Bc, Bd, Be, Bf, Bg, Bh, Bi, Bj, Bl, Bm, Bo, Bp, Bq, Br, Bs, Bt, Bu, Bv, Tr.getP_e, Bw, Bx, ↓reduceIte, Nat.reduceEqDiff, Nat.reduceAdd, Nat.reduceSub, Nat.reduceMul, Nat.reduceDiv, Nat.reduceMod, Nat.zero_add, Nat.add_zero, beq_self_eq_true, Nat.zero_ne_one, Nat.one_ne_zero, Nat.reduceLeDiff, Int.reduceBEq, constF, unF, unary,  pickF, nilcF, faddrF, fldF, iaddrSF, arF, Bz, B3, B4, B5, B6, B7, convF, extF, lenF, eqcF, eqnF, eqN, eqPtr, isNone, loadF, storeF, allocF, callF, gets, Option.map_some, Option.bind_some, B8, B9, Ca, Cb, Cc, nbeq, nble, Cd, Ce, Cf, Cg, Ch, Ci, Cj, Ck, Cl, Cm, Cn, Co, Cp, Cq, Cr, Cs, Ct, Cu, Cv, Cw, Cx, V.w, width, unc, cmpCells, Cy, Cz, C6, C7, C8, Da, undef, List.append_nil, List.nil_append, List.cons_append, Db, Dc, resultsV, result, tup, Dd, Bool.and_true, Bool.true_and, Bool.and_self, decide_true, decide_false, Bool.not_true, Bool.not_false, Bool.true_beq, Bool.false_beq, beq_iff_eq, reduceCtorEq, Nat.succ_eq_add_one, ptr0, Int.ofNat_eq_natCast, Int.ofNat_le, Int.ofNat_lt, Int.natCast_add, De, Df, Dg, Dh, Di, List.map_cons, List.map_nil, Dj, Heap.next_add, Heap.next_set, boxF, buildF, fill, bsliceF, fillRows, List.replicate_one, Dk, Dl, Dm, Dn, Dp, Dq, Dr, Ds, Dt, Du, Dw, Dx, Dy, Dz, D2, D3, D4, D5, D6, D7, D8, D9, Ea, Eb, Ec, appF, List.length_cons, List.length_nil]
        exact ⟨trivial, .inr trivial, _, rfl, rfl, y, Next.idle h (Turns.refl _ _)⟩
      | false =>
        have hc := code_ok hout hd
        have e1 : rcode D (k : Int) (q : Int) = 0 := by unfold rcode; rw [if_neg (by rw [hc]; omega), hc]
        have e2 : D.rot (k : Int) (q : Int) by' = { D with S := D.S.set k (rotN D.S[k] q by') } := by
          unfold Dev.rot; rw [if_pos e1, Int.toNat_natCast, Int.toNat_natCast, getD_lt hk]
        rw [e1, e2]
        have lb := load_byte h hk hq
        have hx := xor_u8 (byte_lt D.S[k] q) hb
        have st : storeAt H ⟨y.s, k * 64 + q⟩ [.int .u8 ((xo8 (byte D.S[k] q) by' : Nat) : Int)] = _ := store_byte h hk hq (xo8_lt (byte_lt _ _) hb)
        have g3 : k + 1 ≤ D.S.length := hk
        have g4 : q + 1 ≤ 64 := hq
        simp only [c78, h0, h2, hd, hlt, hge', g1, g2, lb, hx, st, g3, g4, iaddrAF, Nat.mul_one, Aa, Ab, Ad, Ae, Af, Ag, Ah, Ai, Aj, Ak, Al, Ao, Ap, Aq, Ar, Au, sO_p, sO_r, sO_m, sO_a, sO_c, Av, Aw, Ax, Ay, Az, sE_p, sE_r, sE_m, sE_a, sE_c, A0, A2, A3, A4, A5, A6, A7, A8, A9, Ba, Bb, Bc, Bd, Be, Bf, Bg, Bh, Bi, Bj, Bl, Bm, Bo, Bp, Bq, Br, Bs, Bt, Bu, Bv, Tr.getP_e, Bw, Bx, ↓reduceIte, Nat.reduceEqDiff, Nat.reduceAdd, Nat.reduceSub, Nat.reduceMul, Nat.reduceDiv, Nat.reduceMod, Nat.zero_add, Nat.add_zero, beq_self_eq_true, Nat.zero_ne_one, Nat.one_ne_zero, Nat.reduceLeDiff, Int.reduceBEq, constF, unF, unary,  pickF, nilcF, faddrF, fldF, iaddrSF, arF, Bz, B3, B4, B5, B6, B7, convF, extF, lenF, eqcF, eqnF, eqN, eqPtr, isNone, loadF, storeF, allocF, callF, gets, Option.map_some, Option.bind_some, B8, B9, Ca, Cb, Cc, nbeq, nble, Cd, Ce, Cf, Cg, Ch, Ci, Cj, Ck, Cl, Cm, Cn, Co, Cp, Cq, Cr, Cs, Ct, Cu, Cv, Cw, Cx, V.w, width, unc, cmpCells, Cy, Cz, C6, C7, C8, Da, undef, List.append_nil, List.nil_append, List.cons_append, Db, Dc, resultsV, result, tup, Dd, Bool.and_true, Bool.true_and, Bool.and_self, decide_true, decide_false, Bool.not_true, Bool.not_false, Bool.true_beq, Bool.false_beq, beq_iff_eq, reduceCtorEq, Nat.succ_eq_add_one, ptr0, Int.ofNat_eq_natCast, Int.ofNat_le, Int.ofNat_lt, Int.natCast_add, De, Df, Dg, Dh, Di, List.map_cons, List.map_nil, Dj, Heap.next_add, Heap.next_set, boxF, buildF, fill, bsliceF, fillRows, List.replicate_one, Dk, Dl, Dm, Dn, Dp, Dq, Dr, Ds, Dt, Du, Dw, Dx, Dy, Dz, D2, D3, D4, D5, D6, D7, D8, D9, Ea, Eb, Ec, appF, List.length_cons, List.length_nil]
        rw [endD_ok (by kernel_rfl) (by kernel_rfl)]
        simp only [Aa, Ab, Ad, Ae, Af, Ag, Ah, Ai, Aj, Ak, Al, Ao, Ap, Aq, Ar, Au, sO_p, sO_r, sO_m, sO_a, sO_c, Av, Aw, Ax, Ay, Az, sE_p, sE_r, sE_m, sE_a, sE_c, A0, A2, A3, A4, A5, A6, A7, A8, A9, Ba, Bb, Bc, Bd, Be, Bf, Bg, Bh, Bi, Bj, Bl, Bm, Bo, Bp, Bq, Br, Bs, Bt, Bu, Bv, Tr.getP_e, Bw, Bx, ↓reduceIte, Nat.reduceEqDiff, Nat.reduceAdd, Nat.reduceSub, Nat.reduceMul, Nat.reduceDiv, Nat.reduceMod, Nat.zero_add, Nat.add_zero, beq_self_eq_true, Nat.zero_ne_one, Nat.one_ne_zero, Nat.reduceLeDiff, Int.reduceBEq, constF, unF, unary,  pickF, nilcF, faddrF, fldF, iaddrSF, arF, Bz, B3, B4, B5, B6, B7, convF, extF, lenF, eqcF, eqnF, eqN, eqPtr, isNone, loadF, storeF, allocF, callF, gets, Option.map_some, Option.bind_some, B8, B9, Ca, Cb, Cc, nbeq, nble, Cd, Ce, Cf, Cg, Ch, Ci, Cj, Ck, Cl, Cm, Cn, Co, Cp, Cq, Cr, Cs, Ct, Cu, Cv, Cw, Cx, V.w, width, unc, cmpCells, Cy, Cz, C6, C7, C8, Da, undef, List.append_nil, List.nil_append, List.cons_append, Db, Dc, resultsV, result, tup, Dd, Bool.and_true, Bool.true_and, Bool.and_self, decide_true, decide_false, Bool.not_true, Bool.not_false, Bool.true_beq, Bool.false_beq, beq_iff_eq, reduceCtorEq, Nat.succ_eq_add_one, ptr0, Int.ofNat_eq_natCast, Int.ofNat_le, Int.ofNat_lt, Int.natCast_add, De, Df, Dg, Dh, Di, List.map_cons, List.map_nil, Dj, Heap.next_add, Heap.next_set, boxF, buildF, fill, bsliceF, fillRows, List.replicate_one, Dk, Dl, Dm, Dn, Dp, Dq, Dr, Ds, Dt, Du, Dw, Dx, Dy, Dz, D2, D3, D4, D5, D6, D7, D8, D9, Ea, Eb, Ec, appF, List.length_cons, List.length_nil]
        exact ⟨trivial, .inr trivial, _, rfl, rfl, y, (by have h9 := h.setS (S' := D.S.set k (rotN D.S[k] q by')) (by simp); rw [hd] at h9; exact h9), Turns.set (.inr (.inl rfl)) _ _, rfl, fun e => .inl ⟨e, rfl⟩⟩

end Go.Proofs.Ytcelngepfdchiaa.disk

