/-
  The document's bench in the machine's heap: whatever is asked of whatever device.
-/
import Derived.Test.YtcelngepfdchiaaBench7
import Derived.Test.YtcelngepfdchiaaRef5b
set_option linter.unusedVariables false
set_option linter.unusedSectionVars false
set_option linter.unusedSimpArgs false
set_option maxRecDepth 10000
namespace Go.Proofs.Ytcelngepfdchiaa.disk
open Go.Am

/-- (*ashlar/ashlarref06.Bench).Write -/
noncomputable def c88 : CFn := ⟨[.tmp (Tr.path 8)],
 .seq (.reg [
  ⟨(some (Tr.path 7)), (some (.m (boxF 64 (.t (Tr.path 3))))), none, [Tr.path 3]⟩,
  ⟨(some (Tr.path 8)), (some (.p (S.get (.c (.int .i64 0))))), none, []⟩]) (
 .seq (.reg [
  ⟨(some (Tr.path 10)), (some (.p (S.get (.t (Tr.path 0))))), none, [Tr.path 0]⟩,
  ⟨(some (Tr.path 11)), (some (.p (S.get (.t (Tr.path 1))))), none, [Tr.path 1]⟩,
  ⟨(some (Tr.path 12)), (some (.c (callF (.c (.func (.func 133) [] [])) [(.t (Tr.path 10)), (.t (Tr.path 11))]))), none, [Tr.path 10, Tr.path 11]⟩,
  ⟨(some (Tr.path 9)), (some (.p (S.get (.t (Tr.path 12))))), none, [Tr.path 12]⟩]) (
 .seq (.seq (.reg [
   ⟨(some (Tr.path 13)), (some (.p (S.get (.t (Tr.path 9))))), none, [Tr.path 9]⟩,
   ⟨(some (Tr.path 14)), (some (.p (eqcF true false [.int .i64] (.t (Tr.path 13)) (.c (.int .i64 0))))), none, [Tr.path 13]⟩]) (
  .cond (.t (Tr.path 14)) (.seq (.reg [
     ⟨(some (Tr.path 15)), (some (.p (S.get (.t (Tr.path 9))))), none, [Tr.path 9]⟩,
     ⟨(some (Tr.path 8)), (some (.p (S.get (.t (Tr.path 15))))), none, [Tr.path 15]⟩]) (
    .ret)) (.skip))) (
 .seq (.reg [
  ⟨(some (Tr.path 16)), (some (.p (S.get (.t (Tr.path 0))))), none, [Tr.path 0]⟩,
  ⟨(some (Tr.path 17)), (some (.p (nilcF (.t (Tr.path 16))))), none, [Tr.path 16]⟩,
  ⟨(some (Tr.path 18)), (some (.p (faddrF (.t (Tr.path 17)) 0))), none, [Tr.path 17]⟩,
  ⟨(some (Tr.path 19)), (some (.r (loadF (.t (Tr.path 18)) 1 .sc))), none, [Tr.path 18]⟩,
  ⟨(some (Tr.path 20)), (some (.p (S.get (.t (Tr.path 1))))), none, [Tr.path 1]⟩,
  ⟨(some (Tr.path 21)), (some (.p (iaddrSF (.t (Tr.path 19)) (.t (Tr.path 20)) 1))), none, [Tr.path 19, Tr.path 20]⟩,
  ⟨(some (Tr.path 22)), (some (.r (loadF (.t (Tr.path 21)) 1 .sc))), none, [Tr.path 21]⟩,
  ⟨(some (Tr.path 23)), (some (.p (S.get (.t (Tr.path 2))))), none, [Tr.path 2]⟩,
  ⟨(some (Tr.path 24)), (some (.c (callF (.c (.func (.func 131) [] [])) [(.t (Tr.path 22)), (.t (Tr.path 23))]))), none, [Tr.path 22, Tr.path 23]⟩,
  ⟨(some (Tr.path 9)), (some (.p (S.get (.t (Tr.path 24))))), none, [Tr.path 24]⟩]) (
 .seq (.seq (.reg [
   ⟨(some (Tr.path 25)), (some (.p (S.get (.t (Tr.path 9))))), none, [Tr.path 9]⟩,
   ⟨(some (Tr.path 26)), (some (.p (eqcF true false [.int .i64] (.t (Tr.path 25)) (.c (.int .i64 0))))), none, [Tr.path 25]⟩]) (
  .cond (.t (Tr.path 26)) (.seq (.reg [
     ⟨(some (Tr.path 27)), (some (.p (S.get (.t (Tr.path 9))))), none, [Tr.path 9]⟩,
     ⟨(some (Tr.path 8)), (some (.p (S.get (.t (Tr.path 27))))), none, [Tr.path 27]⟩]) (
    .ret)) (.skip))) (
 .seq (.reg [
  ⟨(some (Tr.path 28)), (some (.p (S.get (.t (Tr.path 0))))), none, [Tr.path 0]⟩,
  ⟨(some (Tr.path 29)), (some (.c (callF (.c (.func (.func 134) [] [])) [(.t (Tr.path 28))]))), none, [Tr.path 28]⟩,
  ⟨(some (Tr.path 9)), (some (.p (S.get (.t (Tr.path 29))))), none, [Tr.path 29]⟩]) (
 .seq (.seq (.reg [
   ⟨(some (Tr.path 30)), (some (.p (S.get (.t (Tr.path 9))))), none, [Tr.path 9]⟩,
   ⟨(some (Tr.path 31)), (some (.p (eqcF true false [.int .i64] (.t (Tr.path 30)) (.c (.int .i64 0))))), none, [Tr.path 30]⟩]) (
  .cond (.t (Tr.path 31)) (.seq (.reg [
     ⟨(some (Tr.path 32)), (some (.p (S.get (.t (Tr.path 9))))), none, [Tr.path 9]⟩,
     ⟨(some (Tr.path 8)), (some (.p (S.get (.t (Tr.path 32))))), none, [Tr.path 32]⟩]) (
    .ret)) (.skip))) (
 .seq (.regD [
  ⟨(some (Tr.path 33)), (some (.p (S.get (.t (Tr.path 0))))), none, [Tr.path 0]⟩,
  ⟨(some (Tr.path 34)), (some (.p (nilcF (.t (Tr.path 33))))), none, [Tr.path 33]⟩,
  ⟨(some (Tr.path 35)), (some (.p (faddrF (.t (Tr.path 34)) 0))), none, [Tr.path 34]⟩,
  ⟨(some (Tr.path 36)), (some (.r (loadF (.t (Tr.path 35)) 1 .sc))), none, [Tr.path 35]⟩,
  ⟨(some (Tr.path 37)), (some (.p (S.get (.t (Tr.path 1))))), none, [Tr.path 1]⟩,
  ⟨(some (Tr.path 38)), (some (.p (iaddrSF (.t (Tr.path 36)) (.t (Tr.path 37)) 1))), none, [Tr.path 36, Tr.path 37]⟩,
  ⟨(some (Tr.path 39)), (some (.r (loadF (.t (Tr.path 38)) 1 .sc))), none, [Tr.path 38]⟩,
  ⟨(some (Tr.path 40)), (some (.p (S.get (.t (Tr.path 2))))), none, [Tr.path 2]⟩,
  ⟨(some (Tr.path 41)), (some (.r (loadF (.t (Tr.path 7)) 64 .bk))), none, [Tr.path 7]⟩,
  ⟨(some (Tr.path 42)), (some (.c (callF (.c (.func (.func 74) [] [])) [(.t (Tr.path 39)), (.t (Tr.path 40)), (.t (Tr.path 41))]))), none, [Tr.path 39, Tr.path 40, Tr.path 41]⟩,
  ⟨(some (Tr.path 8)), (some (.p (S.get (.t (Tr.path 42))))), none, [Tr.path 42]⟩] [0, 1, 3, 7, 0, 31, 63, 0, 0, 511, 1023]) (
 .ret))))))))⟩
theorem c88_eq : fnOf Try.prog 88 = some c88 := by kernel_rfl

/-- (*ashlar/ashlarref06.Bench).Read -/
noncomputable def c89 : CFn := ⟨[.cell (Tr.path 6) 64 .bk, .tmp (Tr.path 7)],
 .seq (.reg [
  ⟨(some (Tr.path 6)), (some (.m (allocF 64 [.blk 0]))), none, []⟩,
  ⟨(some (Tr.path 7)), (some (.p (S.get (.c (.int .i64 0))))), none, []⟩]) (
 .seq (.reg [
  ⟨(some (Tr.path 9)), (some (.p (S.get (.t (Tr.path 0))))), none, [Tr.path 0]⟩,
  ⟨(some (Tr.path 10)), (some (.p (S.get (.t (Tr.path 1))))), none, [Tr.path 1]⟩,
  ⟨(some (Tr.path 11)), (some (.c (callF (.c (.func (.func 133) [] [])) [(.t (Tr.path 9)), (.t (Tr.path 10))]))), none, [Tr.path 9, Tr.path 10]⟩,
  ⟨(some (Tr.path 8)), (some (.p (S.get (.t (Tr.path 11))))), none, [Tr.path 11]⟩]) (
 .seq (.seq (.reg [
   ⟨(some (Tr.path 12)), (some (.p (S.get (.t (Tr.path 8))))), none, [Tr.path 8]⟩,
   ⟨(some (Tr.path 13)), (some (.p (eqcF true false [.int .i64] (.t (Tr.path 12)) (.c (.int .i64 0))))), none, [Tr.path 12]⟩]) (
  .cond (.t (Tr.path 13)) (.seq (.reg [
     ⟨(some (Tr.path 14)), (some (.p (buildF [.blk 0] .bk []))), none, []⟩,
     ⟨(some (Tr.path 15)), (some (.p (S.get (.t (Tr.path 8))))), none, [Tr.path 8]⟩,
     ⟨none, (some (.a (storeF (.t (Tr.path 6)) (.t (Tr.path 14)) 64))), none, [Tr.path 6, Tr.path 14]⟩,
     ⟨(some (Tr.path 7)), (some (.p (S.get (.t (Tr.path 15))))), none, [Tr.path 15]⟩]) (
    .ret)) (.skip))) (
 .seq (.reg [
  ⟨(some (Tr.path 16)), (some (.p (S.get (.t (Tr.path 0))))), none, [Tr.path 0]⟩,
  ⟨(some (Tr.path 17)), (some (.p (nilcF (.t (Tr.path 16))))), none, [Tr.path 16]⟩,
  ⟨(some (Tr.path 18)), (some (.p (faddrF (.t (Tr.path 17)) 0))), none, [Tr.path 17]⟩,
  ⟨(some (Tr.path 19)), (some (.r (loadF (.t (Tr.path 18)) 1 .sc))), none, [Tr.path 18]⟩,
  ⟨(some (Tr.path 20)), (some (.p (S.get (.t (Tr.path 1))))), none, [Tr.path 1]⟩,
  ⟨(some (Tr.path 21)), (some (.p (iaddrSF (.t (Tr.path 19)) (.t (Tr.path 20)) 1))), none, [Tr.path 19, Tr.path 20]⟩,
  ⟨(some (Tr.path 22)), (some (.r (loadF (.t (Tr.path 21)) 1 .sc))), none, [Tr.path 21]⟩,
  ⟨(some (Tr.path 23)), (some (.p (S.get (.t (Tr.path 2))))), none, [Tr.path 2]⟩,
  ⟨(some (Tr.path 24)), (some (.c (callF (.c (.func (.func 75) [] [])) [(.t (Tr.path 22)), (.t (Tr.path 23))]))), none, [Tr.path 22, Tr.path 23]⟩,
  ⟨(some (Tr.path 25)), (some (.p (extF (.t (Tr.path 24)) 0))), none, [Tr.path 24]⟩,
  ⟨(some (Tr.path 26)), (some (.p (extF (.t (Tr.path 24)) 1))), none, [Tr.path 24]⟩,
  ⟨none, (some (.a (storeF (.t (Tr.path 6)) (.t (Tr.path 25)) 64))), none, [Tr.path 6, Tr.path 25]⟩,
  ⟨(some (Tr.path 7)), (some (.p (S.get (.t (Tr.path 26))))), none, [Tr.path 26]⟩]) (
 .ret))))⟩
theorem c89_eq : fnOf Try.prog 89 = some c89 := by kernel_rfl

/-- (*ashlar/ashlarref06.Bench).Flush -/
noncomputable def c90 : CFn := ⟨[.tmp (Tr.path 4)],
 .seq (.reg [
  ⟨(some (Tr.path 4)), (some (.p (S.get (.c (.int .i64 0))))), none, []⟩]) (
 .seq (.reg [
  ⟨(some (Tr.path 6)), (some (.p (S.get (.t (Tr.path 0))))), none, [Tr.path 0]⟩,
  ⟨(some (Tr.path 7)), (some (.p (S.get (.t (Tr.path 1))))), none, [Tr.path 1]⟩,
  ⟨(some (Tr.path 8)), (some (.c (callF (.c (.func (.func 133) [] [])) [(.t (Tr.path 6)), (.t (Tr.path 7))]))), none, [Tr.path 6, Tr.path 7]⟩,
  ⟨(some (Tr.path 5)), (some (.p (S.get (.t (Tr.path 8))))), none, [Tr.path 8]⟩]) (
 .seq (.seq (.reg [
   ⟨(some (Tr.path 9)), (some (.p (S.get (.t (Tr.path 5))))), none, [Tr.path 5]⟩,
   ⟨(some (Tr.path 10)), (some (.p (eqcF true false [.int .i64] (.t (Tr.path 9)) (.c (.int .i64 0))))), none, [Tr.path 9]⟩]) (
  .cond (.t (Tr.path 10)) (.seq (.reg [
     ⟨(some (Tr.path 11)), (some (.p (S.get (.t (Tr.path 5))))), none, [Tr.path 5]⟩,
     ⟨(some (Tr.path 4)), (some (.p (S.get (.t (Tr.path 11))))), none, [Tr.path 11]⟩]) (
    .ret)) (.skip))) (
 .seq (.seq (.reg [
   ⟨(some (Tr.path 12)), (some (.p (S.get (.t (Tr.path 0))))), none, [Tr.path 0]⟩,
   ⟨(some (Tr.path 13)), (some (.p (nilcF (.t (Tr.path 12))))), none, [Tr.path 12]⟩,
   ⟨(some (Tr.path 14)), (some (.p (faddrF (.t (Tr.path 13)) 0))), none, [Tr.path 13]⟩,
   ⟨(some (Tr.path 15)), (some (.r (loadF (.t (Tr.path 14)) 1 .sc))), none, [Tr.path 14]⟩,
   ⟨(some (Tr.path 16)), (some (.p (S.get (.t (Tr.path 1))))), none, [Tr.path 1]⟩,
   ⟨(some (Tr.path 17)), (some (.p (iaddrSF (.t (Tr.path 15)) (.t (Tr.path 16)) 1))), none, [Tr.path 15, Tr.path 16]⟩,
   ⟨(some (Tr.path 18)), (some (.r (loadF (.t (Tr.path 17)) 1 .sc))), none, [Tr.path 17]⟩,
   ⟨(some (Tr.path 19)), (some (.p (nilcF (.t (Tr.path 18))))), none, [Tr.path 18]⟩,
   ⟨(some (Tr.path 20)), (some (.p (faddrF (.t (Tr.path 19)) 2))), none, [Tr.path 19]⟩,
   ⟨(some (Tr.path 21)), (some (.r (loadF (.t (Tr.path 20)) 1 .sc))), none, [Tr.path 20]⟩]) (
  .cond (.t (Tr.path 21)) (.seq (.reg [
     ⟨(some (Tr.path 4)), (some (.p (S.get (.c (.int .i64 9))))), none, []⟩]) (
    .ret)) (.skip))) (
 .seq (.reg [
  ⟨(some (Tr.path 22)), (some (.p (S.get (.t (Tr.path 0))))), none, [Tr.path 0]⟩,
  ⟨(some (Tr.path 23)), (some (.c (callF (.c (.func (.func 134) [] [])) [(.t (Tr.path 22))]))), none, [Tr.path 22]⟩,
  ⟨(some (Tr.path 5)), (some (.p (S.get (.t (Tr.path 23))))), none, [Tr.path 23]⟩]) (
 .seq (.seq (.reg [
   ⟨(some (Tr.path 24)), (some (.p (S.get (.t (Tr.path 5))))), none, [Tr.path 5]⟩,
   ⟨(some (Tr.path 25)), (some (.p (eqcF true false [.int .i64] (.t (Tr.path 24)) (.c (.int .i64 0))))), none, [Tr.path 24]⟩]) (
  .cond (.t (Tr.path 25)) (.seq (.reg [
     ⟨(some (Tr.path 26)), (some (.p (S.get (.t (Tr.path 5))))), none, [Tr.path 5]⟩,
     ⟨(some (Tr.path 4)), (some (.p (S.get (.t (Tr.path 26))))), none, [Tr.path 26]⟩]) (
    .ret)) (.skip))) (
 .seq (.reg [
  ⟨(some (Tr.path 27)), (some (.p (S.get (.t (Tr.path 0))))), none, [Tr.path 0]⟩,
  ⟨(some (Tr.path 28)), (some (.p (nilcF (.t (Tr.path 27))))), none, [Tr.path 27]⟩,
  ⟨(some (Tr.path 29)), (some (.p (faddrF (.t (Tr.path 28)) 0))), none, [Tr.path 28]⟩,
  ⟨(some (Tr.path 30)), (some (.r (loadF (.t (Tr.path 29)) 1 .sc))), none, [Tr.path 29]⟩,
  ⟨(some (Tr.path 31)), (some (.p (S.get (.t (Tr.path 1))))), none, [Tr.path 1]⟩,
  ⟨(some (Tr.path 32)), (some (.p (iaddrSF (.t (Tr.path 30)) (.t (Tr.path 31)) 1))), none, [Tr.path 30, Tr.path 31]⟩,
  ⟨(some (Tr.path 33)), (some (.r (loadF (.t (Tr.path 32)) 1 .sc))), none, [Tr.path 32]⟩,
  ⟨(some (Tr.path 34)), (some (.c (callF (.c (.func (.func 76) [] [])) [(.t (Tr.path 33))]))), none, [Tr.path 33]⟩,
  ⟨(some (Tr.path 4)), (some (.p (S.get (.t (Tr.path 34))))), none, [Tr.path 34]⟩]) (
 .ret)))))))⟩
theorem c90_eq : fnOf Try.prog 90 = some c90 := by kernel_rfl

/-- (*ashlar/ashlarref06.Bench).Fail -/
noncomputable def c91 : CFn := ⟨[.tmp (Tr.path 4)],
 .seq (.reg [
  ⟨(some (Tr.path 4)), (some (.p (S.get (.c (.int .i64 0))))), none, []⟩]) (
 .seq (.seq (.reg [
   ⟨(some (Tr.path 5)), (some (.p (S.get (.t (Tr.path 0))))), none, [Tr.path 0]⟩,
   ⟨(some (Tr.path 6)), (some (.p (S.get (.t (Tr.path 1))))), none, [Tr.path 1]⟩,
   ⟨(some (Tr.path 7)), (some (.c (callF (.c (.func (.func 135) [] [])) [(.t (Tr.path 5)), (.t (Tr.path 6))]))), none, [Tr.path 5, Tr.path 6]⟩,
   ⟨(some (Tr.path 8)), (some (.p (unF .not (.t (Tr.path 7))))), none, [Tr.path 7]⟩]) (
  .cond (.t (Tr.path 8)) (.seq (.reg [
     ⟨(some (Tr.path 4)), (some (.p (S.get (.c (.int .i64 2))))), none, []⟩]) (
    .ret)) (.skip))) (
 .seq (.reg [
  ⟨(some (Tr.path 9)), (some (.p (S.get (.t (Tr.path 0))))), none, [Tr.path 0]⟩,
  ⟨(some (Tr.path 10)), (some (.p (nilcF (.t (Tr.path 9))))), none, [Tr.path 9]⟩,
  ⟨(some (Tr.path 11)), (some (.p (faddrF (.t (Tr.path 10)) 0))), none, [Tr.path 10]⟩,
  ⟨(some (Tr.path 12)), (some (.r (loadF (.t (Tr.path 11)) 1 .sc))), none, [Tr.path 11]⟩,
  ⟨(some (Tr.path 13)), (some (.p (S.get (.t (Tr.path 1))))), none, [Tr.path 1]⟩,
  ⟨(some (Tr.path 14)), (some (.p (iaddrSF (.t (Tr.path 12)) (.t (Tr.path 13)) 1))), none, [Tr.path 12, Tr.path 13]⟩,
  ⟨(some (Tr.path 15)), (some (.r (loadF (.t (Tr.path 14)) 1 .sc))), none, [Tr.path 14]⟩,
  ⟨(some (Tr.path 16)), (some (.c (callF (.c (.func (.func 80) [] [])) [(.t (Tr.path 15))]))), none, [Tr.path 15]⟩]) (
 .seq (.reg [
  ⟨(some (Tr.path 4)), (some (.p (S.get (.c (.int .i64 0))))), none, []⟩]) (
 .ret))))⟩
theorem c91_eq : fnOf Try.prog 91 = some c91 := by kernel_rfl

/-- (*ashlar/ashlarref06.Bench).Insert -/
noncomputable def c92 : CFn := ⟨[.tmp (Tr.path 4)],
 .seq (.reg [
  ⟨(some (Tr.path 4)), (some (.p (S.get (.c (.int .i64 0))))), none, []⟩]) (
 .seq (.reg [
  ⟨(some (Tr.path 8)), (some (.p (S.get (.t (Tr.path 0))))), none, [Tr.path 0]⟩,
  ⟨(some (Tr.path 9)), (some (.p (S.get (.t (Tr.path 1))))), none, [Tr.path 1]⟩,
  ⟨(some (Tr.path 10)), (some (.c (callF (.c (.func (.func 133) [] [])) [(.t (Tr.path 8)), (.t (Tr.path 9))]))), none, [Tr.path 8, Tr.path 9]⟩,
  ⟨(some (Tr.path 5)), (some (.p (S.get (.t (Tr.path 10))))), none, [Tr.path 10]⟩]) (
 .seq (.seq (.reg [
   ⟨(some (Tr.path 11)), (some (.p (S.get (.t (Tr.path 5))))), none, [Tr.path 5]⟩,
   ⟨(some (Tr.path 12)), (some (.p (eqcF true false [.int .i64] (.t (Tr.path 11)) (.c (.int .i64 0))))), none, [Tr.path 11]⟩]) (
  .cond (.t (Tr.path 12)) (.seq (.reg [
     ⟨(some (Tr.path 13)), (some (.p (S.get (.t (Tr.path 5))))), none, [Tr.path 5]⟩,
     ⟨(some (Tr.path 4)), (some (.p (S.get (.t (Tr.path 13))))), none, [Tr.path 13]⟩]) (
    .ret)) (.skip))) (
 .seq (.seq (.reg [
   ⟨(some (Tr.path 14)), (some (.p (S.get (.t (Tr.path 0))))), none, [Tr.path 0]⟩,
   ⟨(some (Tr.path 15)), (some (.p (nilcF (.t (Tr.path 14))))), none, [Tr.path 14]⟩,
   ⟨(some (Tr.path 16)), (some (.p (faddrF (.t (Tr.path 15)) 0))), none, [Tr.path 15]⟩,
   ⟨(some (Tr.path 17)), (some (.r (loadF (.t (Tr.path 16)) 1 .sc))), none, [Tr.path 16]⟩,
   ⟨(some (Tr.path 18)), (some (.p (S.get (.t (Tr.path 1))))), none, [Tr.path 1]⟩,
   ⟨(some (Tr.path 19)), (some (.p (iaddrSF (.t (Tr.path 17)) (.t (Tr.path 18)) 1))), none, [Tr.path 17, Tr.path 18]⟩,
   ⟨(some (Tr.path 20)), (some (.r (loadF (.t (Tr.path 19)) 1 .sc))), none, [Tr.path 19]⟩,
   ⟨(some (Tr.path 21)), (some (.p (nilcF (.t (Tr.path 20))))), none, [Tr.path 20]⟩,
   ⟨(some (Tr.path 22)), (some (.p (faddrF (.t (Tr.path 21)) 2))), none, [Tr.path 21]⟩,
   ⟨(some (Tr.path 23)), (some (.r (loadF (.t (Tr.path 22)) 1 .sc))), none, [Tr.path 22]⟩,
   ⟨(some (Tr.path 24)), (some (.p (unF .not (.t (Tr.path 23))))), none, [Tr.path 23]⟩]) (
  .cond (.t (Tr.path 24)) (.seq (.reg [
     ⟨(some (Tr.path 4)), (some (.p (S.get (.c (.int .i64 17))))), none, []⟩]) (
    .ret)) (.skip))) (
 .seq (.reg [
  ⟨(some (Tr.path 26)), (some (.p (S.get (.t (Tr.path 0))))), none, [Tr.path 0]⟩,
  ⟨(some (Tr.path 27)), (some (.p (nilcF (.t (Tr.path 26))))), none, [Tr.path 26]⟩,
  ⟨(some (Tr.path 28)), (some (.p (faddrF (.t (Tr.path 27)) 0))), none, [Tr.path 27]⟩,
  ⟨(some (Tr.path 29)), (some (.r (loadF (.t (Tr.path 28)) 1 .sc))), none, [Tr.path 28]⟩,
  ⟨(some (Tr.path 30)), (some (.p (S.get (.t (Tr.path 1))))), none, [Tr.path 1]⟩,
  ⟨(some (Tr.path 31)), (some (.p (iaddrSF (.t (Tr.path 29)) (.t (Tr.path 30)) 1))), none, [Tr.path 29, Tr.path 30]⟩,
  ⟨(some (Tr.path 32)), (some (.r (loadF (.t (Tr.path 31)) 1 .sc))), none, [Tr.path 31]⟩,
  ⟨(some (Tr.path 33)), (some (.p (nilcF (.t (Tr.path 32))))), none, [Tr.path 32]⟩,
  ⟨(some (Tr.path 34)), (some (.p (faddrF (.t (Tr.path 33)) 0))), none, [Tr.path 33]⟩,
  ⟨(some (Tr.path 35)), (some (.r (loadF (.t (Tr.path 34)) 1 .sc))), none, [Tr.path 34]⟩,
  ⟨(some (Tr.path 36)), (some (.p (lenF (.t (Tr.path 35))))), none, [Tr.path 35]⟩,
  ⟨(some (Tr.path 37)), (some (.c (callF (.c (.func (.func 27) [] [])) [(.t (Tr.path 36))]))), none, [Tr.path 36]⟩,
  ⟨(some (Tr.path 25)), (some (.p (S.get (.t (Tr.path 37))))), none, [Tr.path 37]⟩,
  ⟨(some (Tr.path 38)), (some (.p (extF (.t (Tr.path 25)) 0))), none, [Tr.path 25]⟩,
  ⟨(some (Tr.path 39)), (some (.p (extF (.t (Tr.path 25)) 1))), none, [Tr.path 25]⟩,
  ⟨(some (Tr.path 6)), (some (.p (S.get (.t (Tr.path 38))))), none, [Tr.path 38]⟩,
  ⟨(some (Tr.path 7)), (some (.p (S.get (.t (Tr.path 39))))), none, [Tr.path 39]⟩]) (
 .seq (.reg [
  ⟨(some (Tr.path 40)), (some (.p (S.get (.t (Tr.path 0))))), none, [Tr.path 0]⟩,
  ⟨(some (Tr.path 41)), (some (.p (nilcF (.t (Tr.path 40))))), none, [Tr.path 40]⟩,
  ⟨(some (Tr.path 42)), (some (.p (faddrF (.t (Tr.path 41)) 0))), none, [Tr.path 41]⟩,
  ⟨(some (Tr.path 43)), (some (.r (loadF (.t (Tr.path 42)) 1 .sc))), none, [Tr.path 42]⟩,
  ⟨(some (Tr.path 44)), (some (.p (S.get (.t (Tr.path 1))))), none, [Tr.path 1]⟩,
  ⟨(some (Tr.path 45)), (some (.p (S.get (.t (Tr.path 6))))), none, [Tr.path 6]⟩,
  ⟨(some (Tr.path 46)), (some (.p (iaddrSF (.t (Tr.path 43)) (.t (Tr.path 44)) 1))), none, [Tr.path 43, Tr.path 44]⟩,
  ⟨none, (some (.a (storeF (.t (Tr.path 46)) (.t (Tr.path 45)) 1))), none, [Tr.path 46, Tr.path 45]⟩]) (
 .seq (.reg [
  ⟨(some (Tr.path 4)), (some (.p (S.get (.c (.int .i64 0))))), none, []⟩]) (
 .ret)))))))⟩
theorem c92_eq : fnOf Try.prog 92 = some c92 := by kernel_rfl

/-- (*ashlar/ashlarref06.Bench).Arm -/
noncomputable def c93 : CFn := ⟨[.tmp (Tr.path 4)],
 .seq (.reg [
  ⟨(some (Tr.path 4)), (some (.p (S.get (.c (.int .i64 0))))), none, []⟩]) (
 .seq (.seq (.reg [
   ⟨(some (Tr.path 5)), (some (.p (S.get (.t (Tr.path 0))))), none, [Tr.path 0]⟩,
   ⟨(some (Tr.path 6)), (some (.p (nilcF (.t (Tr.path 5))))), none, [Tr.path 5]⟩,
   ⟨(some (Tr.path 7)), (some (.p (faddrF (.t (Tr.path 6)) 2))), none, [Tr.path 6]⟩,
   ⟨(some (Tr.path 8)), (some (.r (loadF (.t (Tr.path 7)) 1 .sc))), none, [Tr.path 7]⟩]) (
  .cond (.t (Tr.path 8)) (.seq (.reg [
     ⟨(some (Tr.path 4)), (some (.p (S.get (.c (.int .i64 8))))), none, []⟩]) (
    .ret)) (.skip))) (
 .seq (.seq (.reg [
   ⟨(some (Tr.path 9)), (some (.p (S.get (.t (Tr.path 1))))), none, [Tr.path 1]⟩,
   ⟨(some (Tr.path 10)), (some (.p (arF .lss (.t (Tr.path 9)) (.c (.int .i64 0))))), none, [Tr.path 9]⟩]) (
  .cond (.t (Tr.path 10)) (.seq (.reg [
     ⟨(some (Tr.path 4)), (some (.p (S.get (.c (.int .i64 2))))), none, []⟩]) (
    .ret)) (.skip))) (
 .seq (.reg [
  ⟨(some (Tr.path 11)), (some (.p (S.get (.t (Tr.path 0))))), none, [Tr.path 0]⟩,
  ⟨(some (Tr.path 12)), (some (.p (S.get (.t (Tr.path 1))))), none, [Tr.path 1]⟩,
  ⟨(some (Tr.path 13)), (some (.p (nilcF (.t (Tr.path 11))))), none, [Tr.path 11]⟩,
  ⟨(some (Tr.path 14)), (some (.p (faddrF (.t (Tr.path 13)) 1))), none, [Tr.path 13]⟩,
  ⟨none, (some (.a (storeF (.t (Tr.path 14)) (.t (Tr.path 12)) 1))), none, [Tr.path 14, Tr.path 12]⟩]) (
 .seq (.reg [
  ⟨(some (Tr.path 4)), (some (.p (S.get (.c (.int .i64 0))))), none, []⟩]) (
 .ret)))))⟩
theorem c93_eq : fnOf Try.prog 93 = some c93 := by kernel_rfl

noncomputable def c94_l0 : C := .seq (.seq (.reg [
      ⟨(some (Tr.path 6)), (some (.p (S.get (.t (Tr.path 5))))), none, [Tr.path 5]⟩,
      ⟨(some (Tr.path 7)), (some (.p (S.get (.t (Tr.path 0))))), none, [Tr.path 0]⟩,
      ⟨(some (Tr.path 8)), (some (.p (nilcF (.t (Tr.path 7))))), none, [Tr.path 7]⟩,
      ⟨(some (Tr.path 9)), (some (.p (faddrF (.t (Tr.path 8)) 0))), none, [Tr.path 8]⟩,
      ⟨(some (Tr.path 10)), (some (.r (loadF (.t (Tr.path 9)) 1 .sc))), none, [Tr.path 9]⟩,
      ⟨(some (Tr.path 11)), (some (.p (lenF (.t (Tr.path 10))))), none, [Tr.path 10]⟩,
      ⟨(some (Tr.path 12)), (some (.p (arF .lss (.t (Tr.path 6)) (.t (Tr.path 11))))), none, [Tr.path 6, Tr.path 11]⟩]) (
     .cond (.t (Tr.path 12)) (.skip) (.exit 0))) (
    .seq (.block 1 (.reg [
      ⟨(some (Tr.path 15)), (some (.p (S.get (.t (Tr.path 1))))), none, [Tr.path 1]⟩,
      ⟨(some (Tr.path 16)), (some (.p (S.get (.t (Tr.path 0))))), none, [Tr.path 0]⟩,
      ⟨(some (Tr.path 17)), (some (.p (nilcF (.t (Tr.path 16))))), none, [Tr.path 16]⟩,
      ⟨(some (Tr.path 18)), (some (.p (faddrF (.t (Tr.path 17)) 0))), none, [Tr.path 17]⟩,
      ⟨(some (Tr.path 19)), (some (.r (loadF (.t (Tr.path 18)) 1 .sc))), none, [Tr.path 18]⟩,
      ⟨(some (Tr.path 20)), (some (.p (S.get (.t (Tr.path 5))))), none, [Tr.path 5]⟩,
      ⟨(some (Tr.path 21)), (some (.p (iaddrSF (.t (Tr.path 19)) (.t (Tr.path 20)) 1))), none, [Tr.path 19, Tr.path 20]⟩,
      ⟨(some (Tr.path 22)), (some (.r (loadF (.t (Tr.path 21)) 1 .sc))), none, [Tr.path 21]⟩,
      ⟨(some (Tr.path 23)), (some (.p (S.get (.t (Tr.path 1))))), none, [Tr.path 1]⟩,
      ⟨(some (Tr.path 24)), (some (.c (callF (.c (.func (.func 79) [] [])) [(.t (Tr.path 22)), (.t (Tr.path 23))]))), none, [Tr.path 22, Tr.path 23]⟩,
      ⟨(some (Tr.path 25)), (some (.p (sliceF 1 (.t (Tr.path 15)) (some (.t (Tr.path 24))) none none))), none, [Tr.path 15, Tr.path 24]⟩,
      ⟨(some (Tr.path 1)), (some (.p (S.get (.t (Tr.path 25))))), none, [Tr.path 25]⟩])) (
    .reg [
    ⟨(some (Tr.path 13)), (some (.p (S.get (.t (Tr.path 5))))), none, [Tr.path 5]⟩,
    ⟨(some (Tr.path 14)), (some (.p (arF .add (.t (Tr.path 13)) (.c (.int .i64 1))))), none, [Tr.path 13]⟩,
    ⟨(some (Tr.path 5)), (some (.p (S.get (.t (Tr.path 14))))), none, [Tr.path 14]⟩]))
/-- (*ashlar/ashlarref06.Bench).Crash -/
noncomputable def c94 : CFn := ⟨[.tmp (Tr.path 4)],
 .seq (.reg [
  ⟨(some (Tr.path 4)), (some (.p (S.get (.c (.int .i64 0))))), none, []⟩]) (
 .seq (.seq (.reg [
   ⟨(some (Tr.path 5)), (some (.p (S.get (.c (.int .i64 0))))), none, []⟩]) (
  .block 0 (.loop c94_l0))) (
 .seq (.reg [
  ⟨(some (Tr.path 26)), (some (.p (S.get (.t (Tr.path 0))))), none, [Tr.path 0]⟩,
  ⟨(some (Tr.path 27)), (some (.p (nilcF (.t (Tr.path 26))))), none, [Tr.path 26]⟩,
  ⟨(some (Tr.path 28)), (some (.p (faddrF (.t (Tr.path 27)) 1))), none, [Tr.path 27]⟩,
  ⟨none, (some (.a (storeF (.t (Tr.path 28)) (.c (.int .i64 0)) 1))), none, [Tr.path 28]⟩]) (
 .seq (.reg [
  ⟨(some (Tr.path 29)), (some (.p (S.get (.t (Tr.path 0))))), none, [Tr.path 0]⟩,
  ⟨(some (Tr.path 30)), (some (.p (nilcF (.t (Tr.path 29))))), none, [Tr.path 29]⟩,
  ⟨(some (Tr.path 31)), (some (.p (faddrF (.t (Tr.path 30)) 2))), none, [Tr.path 30]⟩,
  ⟨none, (some (.a (storeF (.t (Tr.path 31)) (.c (.bool false)) 1))), none, [Tr.path 31]⟩]) (
 .seq (.reg [
  ⟨(some (Tr.path 4)), (some (.p (S.get (.c (.int .i64 0))))), none, []⟩]) (
 .ret)))))⟩
theorem c94_eq : fnOf Try.prog 94 = some c94 := by kernel_rfl

/-- (*ashlar/ashlarref06.Bench).Sure -/
noncomputable def c96 : CFn := ⟨[.cell (Tr.path 6) 64 .bk, .tmp (Tr.path 7)],
 .seq (.reg [
  ⟨(some (Tr.path 6)), (some (.m (allocF 64 [.blk 0]))), none, []⟩,
  ⟨(some (Tr.path 7)), (some (.p (S.get (.c (.int .i64 0))))), none, []⟩]) (
 .seq (.seq (.reg [
   ⟨(some (Tr.path 8)), (some (.p (S.get (.t (Tr.path 0))))), none, [Tr.path 0]⟩,
   ⟨(some (Tr.path 9)), (some (.p (S.get (.t (Tr.path 1))))), none, [Tr.path 1]⟩,
   ⟨(some (Tr.path 10)), (some (.c (callF (.c (.func (.func 135) [] [])) [(.t (Tr.path 8)), (.t (Tr.path 9))]))), none, [Tr.path 8, Tr.path 9]⟩,
   ⟨(some (Tr.path 11)), (some (.p (unF .not (.t (Tr.path 10))))), none, [Tr.path 10]⟩]) (
  .cond (.t (Tr.path 11)) (.seq (.reg [
     ⟨(some (Tr.path 12)), (some (.p (buildF [.blk 0] .bk []))), none, []⟩,
     ⟨none, (some (.a (storeF (.t (Tr.path 6)) (.t (Tr.path 12)) 64))), none, [Tr.path 6, Tr.path 12]⟩,
     ⟨(some (Tr.path 7)), (some (.p (S.get (.c (.int .i64 2))))), none, []⟩]) (
    .ret)) (.skip))) (
 .seq (.reg [
  ⟨(some (Tr.path 13)), (some (.p (S.get (.t (Tr.path 0))))), none, [Tr.path 0]⟩,
  ⟨(some (Tr.path 14)), (some (.p (nilcF (.t (Tr.path 13))))), none, [Tr.path 13]⟩,
  ⟨(some (Tr.path 15)), (some (.p (faddrF (.t (Tr.path 14)) 0))), none, [Tr.path 14]⟩,
  ⟨(some (Tr.path 16)), (some (.r (loadF (.t (Tr.path 15)) 1 .sc))), none, [Tr.path 15]⟩,
  ⟨(some (Tr.path 17)), (some (.p (S.get (.t (Tr.path 1))))), none, [Tr.path 1]⟩,
  ⟨(some (Tr.path 18)), (some (.p (iaddrSF (.t (Tr.path 16)) (.t (Tr.path 17)) 1))), none, [Tr.path 16, Tr.path 17]⟩,
  ⟨(some (Tr.path 19)), (some (.r (loadF (.t (Tr.path 18)) 1 .sc))), none, [Tr.path 18]⟩,
  ⟨(some (Tr.path 20)), (some (.p (S.get (.t (Tr.path 2))))), none, [Tr.path 2]⟩,
  ⟨(some (Tr.path 21)), (some (.c (callF (.c (.func (.func 77) [] [])) [(.t (Tr.path 19)), (.t (Tr.path 20))]))), none, [Tr.path 19, Tr.path 20]⟩,
  ⟨(some (Tr.path 22)), (some (.p (extF (.t (Tr.path 21)) 0))), none, [Tr.path 21]⟩,
  ⟨(some (Tr.path 23)), (some (.p (extF (.t (Tr.path 21)) 1))), none, [Tr.path 21]⟩,
  ⟨none, (some (.a (storeF (.t (Tr.path 6)) (.t (Tr.path 22)) 64))), none, [Tr.path 6, Tr.path 22]⟩,
  ⟨(some (Tr.path 7)), (some (.p (S.get (.t (Tr.path 23))))), none, [Tr.path 23]⟩]) (
 .ret)))⟩
theorem c96_eq : fnOf Try.prog 96 = some c96 := by kernel_rfl

/-- (*ashlar/ashlarref06.Bench).Rot -/
noncomputable def c97 : CFn := ⟨[.tmp (Tr.path 10)],
 .seq (.reg [
  ⟨(some (Tr.path 10)), (some (.p (S.get (.c (.int .i64 0))))), none, []⟩]) (
 .seq (.seq (.reg [
   ⟨(some (Tr.path 11)), (some (.p (S.get (.t (Tr.path 0))))), none, [Tr.path 0]⟩,
   ⟨(some (Tr.path 12)), (some (.p (S.get (.t (Tr.path 1))))), none, [Tr.path 1]⟩,
   ⟨(some (Tr.path 13)), (some (.c (callF (.c (.func (.func 135) [] [])) [(.t (Tr.path 11)), (.t (Tr.path 12))]))), none, [Tr.path 11, Tr.path 12]⟩,
   ⟨(some (Tr.path 14)), (some (.p (unF .not (.t (Tr.path 13))))), none, [Tr.path 13]⟩]) (
  .cond (.t (Tr.path 14)) (.seq (.reg [
     ⟨(some (Tr.path 10)), (some (.p (S.get (.c (.int .i64 2))))), none, []⟩]) (
    .ret)) (.skip))) (
 .seq (.reg [
  ⟨(some (Tr.path 15)), (some (.p (S.get (.t (Tr.path 0))))), none, [Tr.path 0]⟩,
  ⟨(some (Tr.path 16)), (some (.p (nilcF (.t (Tr.path 15))))), none, [Tr.path 15]⟩,
  ⟨(some (Tr.path 17)), (some (.p (faddrF (.t (Tr.path 16)) 0))), none, [Tr.path 16]⟩,
  ⟨(some (Tr.path 18)), (some (.r (loadF (.t (Tr.path 17)) 1 .sc))), none, [Tr.path 17]⟩,
  ⟨(some (Tr.path 19)), (some (.p (S.get (.t (Tr.path 1))))), none, [Tr.path 1]⟩,
  ⟨(some (Tr.path 20)), (some (.p (iaddrSF (.t (Tr.path 18)) (.t (Tr.path 19)) 1))), none, [Tr.path 18, Tr.path 19]⟩,
  ⟨(some (Tr.path 21)), (some (.r (loadF (.t (Tr.path 20)) 1 .sc))), none, [Tr.path 20]⟩,
  ⟨(some (Tr.path 22)), (some (.p (S.get (.t (Tr.path 2))))), none, [Tr.path 2]⟩,
  ⟨(some (Tr.path 23)), (some (.p (S.get (.t (Tr.path 3))))), none, [Tr.path 3]⟩,
  ⟨(some (Tr.path 24)), (some (.p (S.get (.t (Tr.path 4))))), none, [Tr.path 4]⟩,
  ⟨(some (Tr.path 25)), (some (.c (callF (.c (.func (.func 78) [] [])) [(.t (Tr.path 21)), (.t (Tr.path 22)), (.t (Tr.path 23)), (.t (Tr.path 24))]))), none, [Tr.path 21, Tr.path 22, Tr.path 23, Tr.path 24]⟩,
  ⟨(some (Tr.path 10)), (some (.p (S.get (.t (Tr.path 25))))), none, [Tr.path 25]⟩]) (
 .ret)))⟩
theorem c97_eq : fnOf Try.prog 97 = some c97 := by kernel_rfl

/-- (*ashlar/ashlarref06.Bench).Devices -/
noncomputable def c99 : CFn := ⟨[.tmp (Tr.path 2)],
 .seq (.reg [
  ⟨(some (Tr.path 2)), (some (.p (S.get (.c (.int .i64 0))))), none, []⟩]) (
 .seq (.reg [
  ⟨(some (Tr.path 3)), (some (.p (S.get (.t (Tr.path 0))))), none, [Tr.path 0]⟩,
  ⟨(some (Tr.path 4)), (some (.p (nilcF (.t (Tr.path 3))))), none, [Tr.path 3]⟩,
  ⟨(some (Tr.path 5)), (some (.p (faddrF (.t (Tr.path 4)) 0))), none, [Tr.path 4]⟩,
  ⟨(some (Tr.path 6)), (some (.r (loadF (.t (Tr.path 5)) 1 .sc))), none, [Tr.path 5]⟩,
  ⟨(some (Tr.path 7)), (some (.p (lenF (.t (Tr.path 6))))), none, [Tr.path 6]⟩,
  ⟨(some (Tr.path 2)), (some (.p (S.get (.t (Tr.path 7))))), none, [Tr.path 7]⟩]) (
 .ret))⟩
theorem c99_eq : fnOf Try.prog 99 = some c99 := by kernel_rfl

/-- (*ashlar/ashlarref06.Bench).Dark -/
noncomputable def c100 : CFn := ⟨[.tmp (Tr.path 2)],
 .seq (.reg [
  ⟨(some (Tr.path 2)), (some (.p (S.get (.c (.bool false))))), none, []⟩]) (
 .seq (.reg [
  ⟨(some (Tr.path 3)), (some (.p (S.get (.t (Tr.path 0))))), none, [Tr.path 0]⟩,
  ⟨(some (Tr.path 4)), (some (.p (nilcF (.t (Tr.path 3))))), none, [Tr.path 3]⟩,
  ⟨(some (Tr.path 5)), (some (.p (faddrF (.t (Tr.path 4)) 2))), none, [Tr.path 4]⟩,
  ⟨(some (Tr.path 6)), (some (.r (loadF (.t (Tr.path 5)) 1 .sc))), none, [Tr.path 5]⟩,
  ⟨(some (Tr.path 2)), (some (.p (S.get (.t (Tr.path 6))))), none, [Tr.path 6]⟩]) (
 .ret))⟩
theorem c100_eq : fnOf Try.prog 100 = some c100 := by kernel_rfl

/-- (*ashlar/ashlarref06.Bench).Steps -/
noncomputable def c101 : CFn := ⟨[.tmp (Tr.path 2)],
 .seq (.reg [
  ⟨(some (Tr.path 2)), (some (.p (S.get (.c (.int .i64 0))))), none, []⟩]) (
 .seq (.reg [
  ⟨(some (Tr.path 3)), (some (.p (S.get (.t (Tr.path 0))))), none, [Tr.path 0]⟩,
  ⟨(some (Tr.path 4)), (some (.p (nilcF (.t (Tr.path 3))))), none, [Tr.path 3]⟩,
  ⟨(some (Tr.path 5)), (some (.p (faddrF (.t (Tr.path 4)) 3))), none, [Tr.path 4]⟩,
  ⟨(some (Tr.path 6)), (some (.r (loadF (.t (Tr.path 5)) 1 .sc))), none, [Tr.path 5]⟩,
  ⟨(some (Tr.path 2)), (some (.p (S.get (.t (Tr.path 6))))), none, [Tr.path 6]⟩]) (
 .ret))⟩
theorem c101_eq : fnOf Try.prog 101 = some c101 := by kernel_rfl

/-- (*ashlar/ashlarref06.Bench).Sectors -/
noncomputable def c102 : CFn := ⟨[.tmp (Tr.path 4)],
 .seq (.reg [
  ⟨(some (Tr.path 4)), (some (.p (S.get (.c (.int .i64 0))))), none, []⟩]) (
 .seq (.seq (.reg [
   ⟨(some (Tr.path 5)), (some (.p (S.get (.t (Tr.path 0))))), none, [Tr.path 0]⟩,
   ⟨(some (Tr.path 6)), (some (.p (S.get (.t (Tr.path 1))))), none, [Tr.path 1]⟩,
   ⟨(some (Tr.path 7)), (some (.c (callF (.c (.func (.func 135) [] [])) [(.t (Tr.path 5)), (.t (Tr.path 6))]))), none, [Tr.path 5, Tr.path 6]⟩,
   ⟨(some (Tr.path 8)), (some (.p (unF .not (.t (Tr.path 7))))), none, [Tr.path 7]⟩]) (
  .cond (.t (Tr.path 8)) (.seq (.reg [
     ⟨(some (Tr.path 4)), (some (.p (S.get (.c (.int .i64 0))))), none, []⟩]) (
    .ret)) (.skip))) (
 .seq (.reg [
  ⟨(some (Tr.path 9)), (some (.p (S.get (.t (Tr.path 0))))), none, [Tr.path 0]⟩,
  ⟨(some (Tr.path 10)), (some (.p (nilcF (.t (Tr.path 9))))), none, [Tr.path 9]⟩,
  ⟨(some (Tr.path 11)), (some (.p (faddrF (.t (Tr.path 10)) 0))), none, [Tr.path 10]⟩,
  ⟨(some (Tr.path 12)), (some (.r (loadF (.t (Tr.path 11)) 1 .sc))), none, [Tr.path 11]⟩,
  ⟨(some (Tr.path 13)), (some (.p (S.get (.t (Tr.path 1))))), none, [Tr.path 1]⟩,
  ⟨(some (Tr.path 14)), (some (.p (iaddrSF (.t (Tr.path 12)) (.t (Tr.path 13)) 1))), none, [Tr.path 12, Tr.path 13]⟩,
  ⟨(some (Tr.path 15)), (some (.r (loadF (.t (Tr.path 14)) 1 .sc))), none, [Tr.path 14]⟩,
  ⟨(some (Tr.path 16)), (some (.p (nilcF (.t (Tr.path 15))))), none, [Tr.path 15]⟩,
  ⟨(some (Tr.path 17)), (some (.p (faddrF (.t (Tr.path 16)) 0))), none, [Tr.path 16]⟩,
  ⟨(some (Tr.path 18)), (some (.r (loadF (.t (Tr.path 17)) 1 .sc))), none, [Tr.path 17]⟩,
  ⟨(some (Tr.path 19)), (some (.p (lenF (.t (Tr.path 18))))), none, [Tr.path 18]⟩,
  ⟨(some (Tr.path 4)), (some (.p (S.get (.t (Tr.path 19))))), none, [Tr.path 19]⟩]) (
 .ret)))⟩
theorem c102_eq : fnOf Try.prog 102 = some c102 := by kernel_rfl

/-- (*ashlar/ashlarref06.Bench).Dead -/
noncomputable def c103 : CFn := ⟨[.tmp (Tr.path 4)],
 .seq (.reg [
  ⟨(some (Tr.path 4)), (some (.p (S.get (.c (.bool false))))), none, []⟩]) (
 .seq (.reg [
  ⟨(some (Tr.path 5)), (some (.p (S.get (.t (Tr.path 0))))), none, [Tr.path 0]⟩,
  ⟨(some (Tr.path 6)), (some (.p (S.get (.t (Tr.path 1))))), none, [Tr.path 1]⟩,
  ⟨(some (Tr.path 7)), (some (.c (callF (.c (.func (.func 135) [] [])) [(.t (Tr.path 5)), (.t (Tr.path 6))]))), none, [Tr.path 5, Tr.path 6]⟩,
  ⟨(some (Tr.path 8)), (some (.p (S.get (.t (Tr.path 7))))), none, [Tr.path 7]⟩,
  ⟨(some (Tr.path 9)), (some (.p (S.get (.t (Tr.path 0))))), (some (some (Tr.path 8), true)), [Tr.path 0]⟩,
  ⟨(some (Tr.path 10)), (some (.p (nilcF (.t (Tr.path 9))))), (some (some (Tr.path 8), true)), [Tr.path 9]⟩,
  ⟨(some (Tr.path 11)), (some (.p (faddrF (.t (Tr.path 10)) 0))), (some (some (Tr.path 8), true)), [Tr.path 10]⟩,
  ⟨(some (Tr.path 12)), (some (.r (loadF (.t (Tr.path 11)) 1 .sc))), (some (some (Tr.path 8), true)), [Tr.path 11]⟩,
  ⟨(some (Tr.path 13)), (some (.p (S.get (.t (Tr.path 1))))), (some (some (Tr.path 8), true)), [Tr.path 1]⟩,
  ⟨(some (Tr.path 14)), (some (.p (iaddrSF (.t (Tr.path 12)) (.t (Tr.path 13)) 1))), (some (some (Tr.path 8), true)), [Tr.path 12, Tr.path 13]⟩,
  ⟨(some (Tr.path 15)), (some (.r (loadF (.t (Tr.path 14)) 1 .sc))), (some (some (Tr.path 8), true)), [Tr.path 14]⟩,
  ⟨(some (Tr.path 16)), (some (.p (nilcF (.t (Tr.path 15))))), (some (some (Tr.path 8), true)), [Tr.path 15]⟩,
  ⟨(some (Tr.path 17)), (some (.p (faddrF (.t (Tr.path 16)) 2))), (some (some (Tr.path 8), true)), [Tr.path 16]⟩,
  ⟨(some (Tr.path 18)), (some (.r (loadF (.t (Tr.path 17)) 1 .sc))), (some (some (Tr.path 8), true)), [Tr.path 17]⟩,
  ⟨(some (Tr.path 19)), (some (.p (pickF (.t (Tr.path 8)) (.t (Tr.path 18)) (.c (.bool false))))), none, [Tr.path 8, Tr.path 18]⟩,
  ⟨(some (Tr.path 4)), (some (.p (S.get (.t (Tr.path 19))))), none, [Tr.path 19]⟩]) (
 .ret))⟩
theorem c103_eq : fnOf Try.prog 103 = some c103 := by kernel_rfl

/-- (*ashlar/ashlarref06.Bench).asks -/
noncomputable def c133 : CFn := ⟨[.tmp (Tr.path 4)],
 .seq (.reg [
  ⟨(some (Tr.path 4)), (some (.p (S.get (.c (.int .i64 0))))), none, []⟩]) (
 .seq (.seq (.reg [
   ⟨(some (Tr.path 5)), (some (.p (S.get (.t (Tr.path 0))))), none, [Tr.path 0]⟩,
   ⟨(some (Tr.path 6)), (some (.p (nilcF (.t (Tr.path 5))))), none, [Tr.path 5]⟩,
   ⟨(some (Tr.path 7)), (some (.p (faddrF (.t (Tr.path 6)) 2))), none, [Tr.path 6]⟩,
   ⟨(some (Tr.path 8)), (some (.r (loadF (.t (Tr.path 7)) 1 .sc))), none, [Tr.path 7]⟩]) (
  .cond (.t (Tr.path 8)) (.seq (.reg [
     ⟨(some (Tr.path 4)), (some (.p (S.get (.c (.int .i64 8))))), none, []⟩]) (
    .ret)) (.skip))) (
 .seq (.seq (.reg [
   ⟨(some (Tr.path 9)), (some (.p (S.get (.t (Tr.path 0))))), none, [Tr.path 0]⟩,
   ⟨(some (Tr.path 10)), (some (.p (S.get (.t (Tr.path 1))))), none, [Tr.path 1]⟩,
   ⟨(some (Tr.path 11)), (some (.c (callF (.c (.func (.func 135) [] [])) [(.t (Tr.path 9)), (.t (Tr.path 10))]))), none, [Tr.path 9, Tr.path 10]⟩,
   ⟨(some (Tr.path 12)), (some (.p (unF .not (.t (Tr.path 11))))), none, [Tr.path 11]⟩]) (
  .cond (.t (Tr.path 12)) (.seq (.reg [
     ⟨(some (Tr.path 4)), (some (.p (S.get (.c (.int .i64 2))))), none, []⟩]) (
    .ret)) (.skip))) (
 .seq (.reg [
  ⟨(some (Tr.path 4)), (some (.p (S.get (.c (.int .i64 0))))), none, []⟩]) (
 .ret))))⟩
theorem c133_eq : fnOf Try.prog 133 = some c133 := by kernel_rfl

/-- (*ashlar/ashlarref06.Bench).step -/
noncomputable def c134 : CFn := ⟨[.tmp (Tr.path 2)],
 .seq (.reg [
  ⟨(some (Tr.path 2)), (some (.p (S.get (.c (.int .i64 0))))), none, []⟩]) (
 .seq (.seq (.reg [
   ⟨(some (Tr.path 3)), (some (.p (S.get (.t (Tr.path 0))))), none, [Tr.path 0]⟩,
   ⟨(some (Tr.path 4)), (some (.p (nilcF (.t (Tr.path 3))))), none, [Tr.path 3]⟩,
   ⟨(some (Tr.path 5)), (some (.p (faddrF (.t (Tr.path 4)) 1))), none, [Tr.path 4]⟩,
   ⟨(some (Tr.path 6)), (some (.r (loadF (.t (Tr.path 5)) 1 .sc))), none, [Tr.path 5]⟩,
   ⟨(some (Tr.path 7)), (some (.p (eqcF false false [.int .i64] (.t (Tr.path 6)) (.c (.int .i64 1))))), none, [Tr.path 6]⟩]) (
  .cond (.t (Tr.path 7)) (.seq (.reg [
     ⟨(some (Tr.path 8)), (some (.p (S.get (.t (Tr.path 0))))), none, [Tr.path 0]⟩,
     ⟨(some (Tr.path 9)), (some (.p (nilcF (.t (Tr.path 8))))), none, [Tr.path 8]⟩,
     ⟨(some (Tr.path 10)), (some (.p (faddrF (.t (Tr.path 9)) 2))), none, [Tr.path 9]⟩,
     ⟨none, (some (.a (storeF (.t (Tr.path 10)) (.c (.bool true)) 1))), none, [Tr.path 10]⟩]) (
    .seq (.reg [
     ⟨(some (Tr.path 2)), (some (.p (S.get (.c (.int .i64 8))))), none, []⟩]) (
    .ret))) (.skip))) (
 .seq (.seq (.reg [
   ⟨(some (Tr.path 11)), (some (.p (S.get (.t (Tr.path 0))))), none, [Tr.path 0]⟩,
   ⟨(some (Tr.path 12)), (some (.p (nilcF (.t (Tr.path 11))))), none, [Tr.path 11]⟩,
   ⟨(some (Tr.path 13)), (some (.p (faddrF (.t (Tr.path 12)) 1))), none, [Tr.path 12]⟩,
   ⟨(some (Tr.path 14)), (some (.r (loadF (.t (Tr.path 13)) 1 .sc))), none, [Tr.path 13]⟩,
   ⟨(some (Tr.path 15)), (some (.p (arF .gtr (.t (Tr.path 14)) (.c (.int .i64 1))))), none, [Tr.path 14]⟩]) (
  .cond (.t (Tr.path 15)) (.reg [
    ⟨(some (Tr.path 16)), (some (.p (S.get (.t (Tr.path 0))))), none, [Tr.path 0]⟩,
    ⟨(some (Tr.path 17)), (some (.p (nilcF (.t (Tr.path 16))))), none, [Tr.path 16]⟩,
    ⟨(some (Tr.path 18)), (some (.p (faddrF (.t (Tr.path 17)) 1))), none, [Tr.path 17]⟩,
    ⟨(some (Tr.path 19)), (some (.r (loadF (.t (Tr.path 18)) 1 .sc))), none, [Tr.path 18]⟩,
    ⟨(some (Tr.path 20)), (some (.p (arF .sub (.t (Tr.path 19)) (.c (.int .i64 1))))), none, [Tr.path 19]⟩,
    ⟨(some (Tr.path 21)), (some (.p (nilcF (.t (Tr.path 16))))), none, [Tr.path 16]⟩,
    ⟨(some (Tr.path 22)), (some (.p (faddrF (.t (Tr.path 21)) 1))), none, [Tr.path 21]⟩,
    ⟨none, (some (.a (storeF (.t (Tr.path 22)) (.t (Tr.path 20)) 1))), none, [Tr.path 22, Tr.path 20]⟩]) (.skip))) (
 .seq (.reg [
  ⟨(some (Tr.path 23)), (some (.p (S.get (.t (Tr.path 0))))), none, [Tr.path 0]⟩,
  ⟨(some (Tr.path 24)), (some (.p (nilcF (.t (Tr.path 23))))), none, [Tr.path 23]⟩,
  ⟨(some (Tr.path 25)), (some (.p (faddrF (.t (Tr.path 24)) 3))), none, [Tr.path 24]⟩,
  ⟨(some (Tr.path 26)), (some (.r (loadF (.t (Tr.path 25)) 1 .sc))), none, [Tr.path 25]⟩,
  ⟨(some (Tr.path 27)), (some (.p (arF .add (.t (Tr.path 26)) (.c (.int .i64 1))))), none, [Tr.path 26]⟩,
  ⟨(some (Tr.path 28)), (some (.p (nilcF (.t (Tr.path 23))))), none, [Tr.path 23]⟩,
  ⟨(some (Tr.path 29)), (some (.p (faddrF (.t (Tr.path 28)) 3))), none, [Tr.path 28]⟩,
  ⟨none, (some (.a (storeF (.t (Tr.path 29)) (.t (Tr.path 27)) 1))), none, [Tr.path 29, Tr.path 27]⟩]) (
 .seq (.reg [
  ⟨(some (Tr.path 2)), (some (.p (S.get (.c (.int .i64 0))))), none, []⟩]) (
 .ret)))))⟩
theorem c134_eq : fnOf Try.prog 134 = some c134 := by kernel_rfl

/-- (*ashlar/ashlarref06.Bench).Has -/
noncomputable def c135 : CFn := ⟨[.tmp (Tr.path 4)],
 .seq (.reg [
  ⟨(some (Tr.path 4)), (some (.p (S.get (.c (.bool false))))), none, []⟩]) (
 .seq (.reg [
  ⟨(some (Tr.path 5)), (some (.p (S.get (.t (Tr.path 1))))), none, [Tr.path 1]⟩,
  ⟨(some (Tr.path 6)), (some (.p (arF .geq (.t (Tr.path 5)) (.c (.int .i64 0))))), none, [Tr.path 5]⟩,
  ⟨(some (Tr.path 7)), (some (.p (S.get (.t (Tr.path 6))))), none, [Tr.path 6]⟩,
  ⟨(some (Tr.path 8)), (some (.p (S.get (.t (Tr.path 1))))), (some (some (Tr.path 7), true)), [Tr.path 1]⟩,
  ⟨(some (Tr.path 9)), (some (.p (S.get (.t (Tr.path 0))))), (some (some (Tr.path 7), true)), [Tr.path 0]⟩,
  ⟨(some (Tr.path 10)), (some (.p (nilcF (.t (Tr.path 9))))), (some (some (Tr.path 7), true)), [Tr.path 9]⟩,
  ⟨(some (Tr.path 11)), (some (.p (faddrF (.t (Tr.path 10)) 0))), (some (some (Tr.path 7), true)), [Tr.path 10]⟩,
  ⟨(some (Tr.path 12)), (some (.r (loadF (.t (Tr.path 11)) 1 .sc))), (some (some (Tr.path 7), true)), [Tr.path 11]⟩,
  ⟨(some (Tr.path 13)), (some (.p (lenF (.t (Tr.path 12))))), (some (some (Tr.path 7), true)), [Tr.path 12]⟩,
  ⟨(some (Tr.path 14)), (some (.p (arF .lss (.t (Tr.path 8)) (.t (Tr.path 13))))), (some (some (Tr.path 7), true)), [Tr.path 8, Tr.path 13]⟩,
  ⟨(some (Tr.path 15)), (some (.p (pickF (.t (Tr.path 7)) (.t (Tr.path 14)) (.c (.bool false))))), none, [Tr.path 7, Tr.path 14]⟩,
  ⟨(some (Tr.path 4)), (some (.p (S.get (.t (Tr.path 15))))), none, [Tr.path 15]⟩]) (
 .ret))⟩
theorem c135_eq : fnOf Try.prog 135 = some c135 := by kernel_rfl


theorem Rep.own' {H : Heap} {b ds : Bk} {so : Nat} {l : List Dv} {B : Bn} (h : Rep true H b ds so l B) : H.get b = some (.rows false 4 [[.slice (some ⟨ds, 0⟩) l.length l.length so, .int .i64 B.ar, .bool B.dk, .int .i64 B.st]]) := h.row.own

theorem Rep.loadPtr {r : Bool} {H : Heap} {b ds : Bk} {so : Nat} {l : List Dv} {B : Bn} (h : Rep r H b ds so l B) {i : Nat} (hi : i < l.length) : loadAt H ⟨ds, i⟩ 1 = some [.ptr (some ⟨l[i].b, 0⟩)] := by
  rw [loadAt_eq h.row.ptrs (r := [.ptr (some ⟨l[i].b, 0⟩)]) (nth_of (by rw [Nat.div_one]; simp [hi])), Nat.mod_one]
  exact cut_hit _ _ rfl

theorem Rep.put' {H : Heap} {b ds : Bk} {so : Nat} {l : List Dv} {B : Bn} (h : Rep true H b ds so l B) (st ar : Int) (dk : Bool) : RNext true H b ds so l (H.set b (.rows false 4 [[.slice (some ⟨ds, 0⟩) l.length l.length so, .int .i64 ar, .bool dk, .int .i64 st]])) l ⟨B.l, st, ar, dk⟩ :=
  ⟨⟨h.row.put _ _ _, h.map⟩, Turns.set (X := BFoot b ds l) (.inl rfl) _ _, fun c hc => .inl hc⟩

section
variable {H : Heap} {b ds : Bk} {so : Nat} {l : List Dv} {B : Bn} (h : Rep true H b ds so l B)
include h
theorem rload0 : loadAt H ⟨b, 0⟩ 1 = some [.slice (some ⟨ds, 0⟩) l.length l.length so] := by rw [loadAt_eq h.own' (by exact rfl)]; rfl
theorem rload1 : loadAt H ⟨b, 1⟩ 1 = some [.int .i64 B.ar] := by rw [loadAt_eq h.own' (by exact rfl)]; rfl
theorem rload2 : loadAt H ⟨b, 2⟩ 1 = some [.bool B.dk] := by rw [loadAt_eq h.own' (by exact rfl)]; rfl
theorem rload3 : loadAt H ⟨b, 3⟩ 1 = some [.int .i64 B.st] := by rw [loadAt_eq h.own' (by exact rfl)]; rfl
theorem rstore1 (x : Int) : storeAt H ⟨b, 1⟩ [.int .i64 x] = some (H.set b (.rows false 4 [[.slice (some ⟨ds, 0⟩) l.length l.length so, .int .i64 x, .bool B.dk, .int .i64 B.st]])) := storeAt_eq h.own' (r := [.slice (some ⟨ds, 0⟩) l.length l.length so, .int .i64 B.ar, .bool B.dk, .int .i64 B.st]) rfl rfl
theorem rstore2 (x : Bool) : storeAt H ⟨b, 2⟩ [.bool x] = some (H.set b (.rows false 4 [[.slice (some ⟨ds, 0⟩) l.length l.length so, .int .i64 B.ar, .bool x, .int .i64 B.st]])) := storeAt_eq h.own' (r := [.slice (some ⟨ds, 0⟩) l.length l.length so, .int .i64 B.ar, .bool B.dk, .int .i64 B.st]) rfl rfl
theorem rstore3 (x : Int) : storeAt H ⟨b, 3⟩ [.int .i64 x] = some (H.set b (.rows false 4 [[.slice (some ⟨ds, 0⟩) l.length l.length so, .int .i64 B.ar, .bool B.dk, .int .i64 x]])) := storeAt_eq h.own' (r := [.slice (some ⟨ds, 0⟩) l.length l.length so, .int .i64 B.ar, .bool B.dk, .int .i64 B.st]) rfl rfl

theorem rhas (d : Int) (lf m : Nat) : callS Try.prog S0 lf (m + 1) 135 [.ptr (some ⟨b, 0⟩), .int .i64 d] H = some (.v (.bool (B.tc d == 0)), H) := by
  have l0 := rload0 h
  obtain ⟨v, H', e, rfl, rfl⟩ : ret (callS Try.prog S0 lf (m + 1) 135 [.ptr (some ⟨b, 0⟩), .int .i64 d] H) fun v H' => v = .bool (B.tc d == 0) ∧ H' = H := by
    refine ret_call rfl c135_eq ?_
    by_cases g0 : 0 ≤ d
    · by_cases g1 : d < (l.length : Int)
      · have e : B.tc d = 0 := by unfold Bn.tc tcode; rw [← h.len, if_pos ⟨g0, g1⟩]
        rw [e]
        simp only [c135, l0, g0, g1, Aa, Ab, Ad, Ae, Af, Ag, Ah, Ai, Aj, Ak, Al, Ao, Ap, Aq, Ar, Au, sO_p, sO_r, sO_m, sO_a, sO_c, Av, Aw, Ax, Ay, Az, sE_p, sE_r, sE_m, sE_a, sE_c, A0, A2, A3, A4, A5, A6, A7, A8, A9, Ba, Bb, Bc, Bd, Be, Bf, Bg, Bh, Bi, Bj, Bl, Bm, Bo, Bp, Bq, Br, Bs, Bt, Bu, Bv, Tr.getP_e, Bw, Bx, ↓reduceIte, Nat.reduceEqDiff, Nat.reduceAdd, Nat.reduceSub, Nat.reduceMul, Nat.reduceDiv, Nat.reduceMod, Nat.zero_add, Nat.add_zero, beq_self_eq_true, Nat.zero_ne_one, Nat.one_ne_zero, Nat.reduceLeDiff, Int.reduceBEq, constF, unF, unary,  pickF, nilcF, faddrF, fldF, iaddrSF, arF, Bz, B3, B4, B5, B6, B7, convF, extF, lenF, eqcF, eqnF, eqN, eqPtr, isNone, loadF, storeF, allocF, callF, gets, Option.map_some, Option.bind_some, B8, B9, Ca, Cb, Cc, nbeq, nble, Cd, Ce, Cf, Cg, Ch, Ci, Cj, Ck, Cl, Cm, Cn, Co, Cp, Cq, Cr, Cs, Ct, Cu, Cv, Cw, Cx, V.w, width, unc, cmpCells, Cy, Cz, C6, C7, C8, Da, undef, List.append_nil, List.nil_append, List.cons_append, Db, Dc, resultsV, result, tup, Dd, Bool.and_true, Bool.true_and, Bool.and_self, decide_true, decide_false, Bool.not_true, Bool.not_false, Bool.true_beq, Bool.false_beq, beq_iff_eq, reduceCtorEq, Nat.succ_eq_add_one, ptr0, Int.ofNat_eq_natCast, Int.ofNat_le, Int.ofNat_lt, Int.natCast_add, De, Df, Dg, Dh, Di, List.map_cons, List.map_nil, Dj, Heap.next_add, Heap.next_set, boxF, buildF, fill, bsliceF, fillRows, List.replicate_one, Dk, Dl, Dm, Dn, Dp, Dq, Dr, Ds, Dt, Du, Dw, Dx, Dy, Dz, D2, D3, D4, D5, D6, D7, D8, D9, Ea, Eb, Ec, appF, List.length_cons, List.length_nil]
        exact ⟨trivial, .inr trivial, _, rfl, rfl, trivial⟩
      · have e : B.tc d = 2 := by unfold Bn.tc tcode; rw [← h.len, if_neg (fun e => g1 e.2)]
        rw [e]
        simp only [c135, l0, g0, g1, Aa, Ab, Ad, Ae, Af, Ag, Ah, Ai, Aj, Ak, Al, Ao, Ap, Aq, Ar, Au, sO_p, sO_r, sO_m, sO_a, sO_c, Av, Aw, Ax, Ay, Az, sE_p, sE_r, sE_m, sE_a, sE_c, A0, A2, A3, A4, A5, A6, A7, A8, A9, Ba, Bb, Bc, Bd, Be, Bf, Bg, Bh, Bi, Bj, Bl, Bm, Bo, Bp, Bq, Br, Bs, Bt, Bu, Bv, Tr.getP_e, Bw, Bx, ↓reduceIte, Nat.reduceEqDiff, Nat.reduceAdd, Nat.reduceSub, Nat.reduceMul, Nat.reduceDiv, Nat.reduceMod, Nat.zero_add, Nat.add_zero, beq_self_eq_true, Nat.zero_ne_one, Nat.one_ne_zero, Nat.reduceLeDiff, Int.reduceBEq, constF, unF, unary,  pickF, nilcF, faddrF, fldF, iaddrSF, arF, Bz, B3, B4, B5, B6, B7, convF, extF, lenF, eqcF, eqnF, eqN, eqPtr, isNone, loadF, storeF, allocF, callF, gets, Option.map_some, Option.bind_some, B8, B9, Ca, Cb, Cc, nbeq, nble, Cd, Ce, Cf, Cg, Ch, Ci, Cj, Ck, Cl, Cm, Cn, Co, Cp, Cq, Cr, Cs, Ct, Cu, Cv, Cw, Cx, V.w, width, unc, cmpCells, Cy, Cz, C6, C7, C8, Da, undef, List.append_nil, List.nil_append, List.cons_append, Db, Dc, resultsV, result, tup, Dd, Bool.and_true, Bool.true_and, Bool.and_self, decide_true, decide_false, Bool.not_true, Bool.not_false, Bool.true_beq, Bool.false_beq, beq_iff_eq, reduceCtorEq, Nat.succ_eq_add_one, ptr0, Int.ofNat_eq_natCast, Int.ofNat_le, Int.ofNat_lt, Int.natCast_add, De, Df, Dg, Dh, Di, List.map_cons, List.map_nil, Dj, Heap.next_add, Heap.next_set, boxF, buildF, fill, bsliceF, fillRows, List.replicate_one, Dk, Dl, Dm, Dn, Dp, Dq, Dr, Ds, Dt, Du, Dw, Dx, Dy, Dz, D2, D3, D4, D5, D6, D7, D8, D9, Ea, Eb, Ec, appF, List.length_cons, List.length_nil]
        exact ⟨trivial, .inr trivial, _, rfl, rfl, trivial⟩
    · have e : B.tc d = 2 := by unfold Bn.tc tcode; rw [← h.len, if_neg (fun e => g0 e.1)]
      rw [e]
      simp only [c135, l0, g0, Aa, Ab, Ad, Ae, Af, Ag, Ah, Ai, Aj, Ak, Al, Ao, Ap, Aq, Ar, Au, sO_p, sO_r, sO_m, sO_a, sO_c, Av, Aw, Ax, Ay, Az, sE_p, sE_r, sE_m, sE_a, sE_c, A0, A2, A3, A4, A5, A6, A7, A8, A9, Ba, Bb, Bc, Bd, Be, Bf, Bg, Bh, Bi, Bj, Bl, Bm, Bo, Bp, Bq, Br, Bs, Bt, Bu, Bv, Tr.getP_e, Bw, Bx, ↓reduceIte, Nat.reduceEqDiff, Nat.reduceAdd, Nat.reduceSub, Nat.reduceMul, Nat.reduceDiv, Nat.reduceMod, Nat.zero_add, Nat.add_zero, beq_self_eq_true, Nat.zero_ne_one, Nat.one_ne_zero, Nat.reduceLeDiff, Int.reduceBEq, constF, unF, unary,  pickF, nilcF, faddrF, fldF, iaddrSF, arF, Bz, B3, B4, B5, B6, B7, convF, extF, lenF, eqcF, eqnF, eqN, eqPtr, isNone, loadF, storeF, allocF, callF, gets, Option.map_some, Option.bind_some, B8, B9, Ca, Cb, Cc, nbeq, nble, Cd, Ce, Cf, Cg, Ch, Ci, Cj, Ck, Cl, Cm, Cn, Co, Cp, Cq, Cr, Cs, Ct, Cu, Cv, Cw, Cx, V.w, width, unc, cmpCells, Cy, Cz, C6, C7, C8, Da, undef, List.append_nil, List.nil_append, List.cons_append, Db, Dc, resultsV, result, tup, Dd, Bool.and_true, Bool.true_and, Bool.and_self, decide_true, decide_false, Bool.not_true, Bool.not_false, Bool.true_beq, Bool.false_beq, beq_iff_eq, reduceCtorEq, Nat.succ_eq_add_one, ptr0, Int.ofNat_eq_natCast, Int.ofNat_le, Int.ofNat_lt, Int.natCast_add, De, Df, Dg, Dh, Di, List.map_cons, List.map_nil, Dj, Heap.next_add, Heap.next_set, boxF, buildF, fill, bsliceF, fillRows, List.replicate_one, Dk, Dl, Dm, Dn, Dp, Dq, Dr, Ds, Dt, Du, Dw, Dx, Dy, Dz, D2, D3, D4, D5, D6, D7, D8, D9, Ea, Eb, Ec, appF, List.length_cons, List.length_nil]
      exact ⟨trivial, .inr trivial, _, rfl, rfl, trivial⟩
  exact e

theorem rasks (d : Int) (lf m : Nat) : callS Try.prog S0 lf (m + 2) 133 [.ptr (some ⟨b, 0⟩), .int .i64 d] H = some (.v (.int .i64 (B.lc d)), H) := by
  have l2 := rload2 h
  have e1 := rhas h d lf m
  obtain ⟨v, H', e, rfl, rfl⟩ : ret (callS Try.prog S0 lf (m + 2) 133 [.ptr (some ⟨b, 0⟩), .int .i64 d] H) fun v H' => v = .int .i64 (B.lc d) ∧ H' = H := by
    refine ret_call rfl c133_eq ?_
    cases hdk : B.dk with
    | true =>
      rw [hdk] at l2
      rw [show B.lc d = 8 from if_pos hdk]
      simp only [c133, l2, Aa, Ab, Ad, Ae, Af, Ag, Ah, Ai, Aj, Ak, Al, Ao, Ap, Aq, Ar, Au, sO_p, sO_r, sO_m, sO_a, sO_c, Av, Aw, Ax, Ay, Az, sE_p, sE_r, sE_m, sE_a, sE_c, A0, A2, A3, A4, A5, A6, A7, A8, A9, Ba, Bb, Bc, Bd, Be, Bf, Bg, Bh, Bi, Bj, Bl, Bm, Bo, Bp, Bq, Br, Bs, Bt, Bu, Bv, Tr.getP_e, Bw, Bx, ↓reduceIte, Nat.reduceEqDiff, Nat.reduceAdd, Nat.reduceSub, Nat.reduceMul, Nat.reduceDiv, Nat.reduceMod, Nat.zero_add, Nat.add_zero, beq_self_eq_true, Nat.zero_ne_one, Nat.one_ne_zero, Nat.reduceLeDiff, Int.reduceBEq, constF, unF, unary,  pickF, nilcF, faddrF, fldF, iaddrSF, arF, Bz, B3, B4, B5, B6, B7, convF, extF, lenF, eqcF, eqnF, eqN, eqPtr, isNone, loadF, storeF, allocF, callF, gets, Option.map_some, Option.bind_some, B8, B9, Ca, Cb, Cc, nbeq, nble, Cd, Ce, Cf, Cg, Ch, Ci, Cj, Ck, Cl, Cm, Cn, Co, Cp, Cq, Cr, Cs, Ct, Cu, Cv, Cw, Cx, V.w, width, unc, cmpCells, Cy, Cz, C6, C7, C8, Da, undef, List.append_nil, List.nil_append, List.cons_append, Db, Dc, resultsV, result, tup, Dd, Bool.and_true, Bool.true_and, Bool.and_self, decide_true, decide_false, Bool.not_true, Bool.not_false, Bool.true_beq, Bool.false_beq, beq_iff_eq, reduceCtorEq, Nat.succ_eq_add_one, ptr0, Int.ofNat_eq_natCast, Int.ofNat_le, Int.ofNat_lt, Int.natCast_add, De, Df, Dg, Dh, Di, List.map_cons, List.map_nil, Dj, Heap.next_add, Heap.next_set, boxF, buildF, fill, bsliceF, fillRows, List.replicate_one, Dk, Dl, Dm, Dn, Dp, Dq, Dr, Ds, Dt, Du, Dw, Dx, Dy, Dz, D2, D3, D4, D5, D6, D7, D8, D9, Ea, Eb, Ec, appF, List.length_cons, List.length_nil]
      exact ⟨trivial, .inr trivial, _, rfl, rfl, trivial⟩
    | false =>
      rw [hdk] at l2
      rw [show B.lc d = B.tc d from if_neg (by rw [hdk]; decide)]
      rcases h.has d with ⟨i, hi, rfl, e, _⟩ | e
      · rw [e] at e1 ⊢
        simp only [c133, l2, e1, Aa, Ab, Ad, Ae, Af, Ag, Ah, Ai, Aj, Ak, Al, Ao, Ap, Aq, Ar, Au, sO_p, sO_r, sO_m, sO_a, sO_c, Av, Aw, Ax, Ay, Az, sE_p, sE_r, sE_m, sE_a, sE_c, A0, A2, A3, A4, A5, A6, A7, A8, A9, Ba, Bb, Bc, Bd, Be, Bf, Bg, Bh, Bi, Bj, Bl, Bm, Bo, Bp, Bq, Br, Bs, Bt, Bu, Bv, Tr.getP_e, Bw, Bx, ↓reduceIte, Nat.reduceEqDiff, Nat.reduceAdd, Nat.reduceSub, Nat.reduceMul, Nat.reduceDiv, Nat.reduceMod, Nat.zero_add, Nat.add_zero, beq_self_eq_true, Nat.zero_ne_one, Nat.one_ne_zero, Nat.reduceLeDiff, Int.reduceBEq, constF, unF, unary,  pickF, nilcF, faddrF, fldF, iaddrSF, arF, Bz, B3, B4, B5, B6, B7, convF, extF, lenF, eqcF, eqnF, eqN, eqPtr, isNone, loadF, storeF, allocF, callF, gets, Option.map_some, Option.bind_some, B8, B9, Ca, Cb, Cc, nbeq, nble, Cd, Ce, Cf, Cg, Ch, Ci, Cj, Ck, Cl, Cm, Cn, Co, Cp, Cq, Cr, Cs, Ct, Cu, Cv, Cw, Cx, V.w, width, unc, cmpCells, Cy, Cz, C6, C7, C8, Da, undef, List.append_nil, List.nil_append, List.cons_append, Db, Dc, resultsV, result, tup, Dd, Bool.and_true, Bool.true_and, Bool.and_self, decide_true, decide_false, Bool.not_true, Bool.not_false, Bool.true_beq, Bool.false_beq, beq_iff_eq, reduceCtorEq, Nat.succ_eq_add_one, ptr0, Int.ofNat_eq_natCast, Int.ofNat_le, Int.ofNat_lt, Int.natCast_add, De, Df, Dg, Dh, Di, List.map_cons, List.map_nil, Dj, Heap.next_add, Heap.next_set, boxF, buildF, fill, bsliceF, fillRows, List.replicate_one, Dk, Dl, Dm, Dn, Dp, Dq, Dr, Ds, Dt, Du, Dw, Dx, Dy, Dz, D2, D3, D4, D5, D6, D7, D8, D9, Ea, Eb, Ec, appF, List.length_cons, List.length_nil]
        exact ⟨trivial, .inr trivial, _, rfl, rfl, trivial⟩
      · rw [e] at e1 ⊢
        have z : ((2 : Int) == 0) = false := rfl
        rw [z] at e1
        simp only [c133, l2, e1, Aa, Ab, Ad, Ae, Af, Ag, Ah, Ai, Aj, Ak, Al, Ao, Ap, Aq, Ar, Au, sO_p, sO_r, sO_m, sO_a, sO_c, Av, Aw, Ax, Ay, Az, sE_p, sE_r, sE_m, sE_a, sE_c, A0, A2, A3, A4, A5, A6, A7, A8, A9, Ba, Bb, Bc, Bd, Be, Bf, Bg, Bh, Bi, Bj, Bl, Bm, Bo, Bp, Bq, Br, Bs, Bt, Bu, Bv, Tr.getP_e, Bw, Bx, ↓reduceIte, Nat.reduceEqDiff, Nat.reduceAdd, Nat.reduceSub, Nat.reduceMul, Nat.reduceDiv, Nat.reduceMod, Nat.zero_add, Nat.add_zero, beq_self_eq_true, Nat.zero_ne_one, Nat.one_ne_zero, Nat.reduceLeDiff, Int.reduceBEq, constF, unF, unary,  pickF, nilcF, faddrF, fldF, iaddrSF, arF, Bz, B3, B4, B5, B6, B7, convF, extF, lenF, eqcF, eqnF, eqN, eqPtr, isNone, loadF, storeF, allocF, callF, gets, Option.map_some, Option.bind_some, B8, B9, Ca, Cb, Cc, nbeq, nble, Cd, Ce, Cf, Cg, Ch, Ci, Cj, Ck, Cl, Cm, Cn, Co, Cp, Cq, Cr, Cs, Ct, Cu, Cv, Cw, Cx, V.w, width, unc, cmpCells, Cy, Cz, C6, C7, C8, Da, undef, List.append_nil, List.nil_append, List.cons_append, Db, Dc, resultsV, result, tup, Dd, Bool.and_true, Bool.true_and, Bool.and_self, decide_true, decide_false, Bool.not_true, Bool.not_false, Bool.true_beq, Bool.false_beq, beq_iff_eq, reduceCtorEq, Nat.succ_eq_add_one, ptr0, Int.ofNat_eq_natCast, Int.ofNat_le, Int.ofNat_lt, Int.natCast_add, De, Df, Dg, Dh, Di, List.map_cons, List.map_nil, Dj, Heap.next_add, Heap.next_set, boxF, buildF, fill, bsliceF, fillRows, List.replicate_one, Dk, Dl, Dm, Dn, Dp, Dq, Dr, Ds, Dt, Du, Dw, Dx, Dy, Dz, D2, D3, D4, D5, D6, D7, D8, D9, Ea, Eb, Ec, appF, List.length_cons, List.length_nil]
        exact ⟨trivial, .inr trivial, _, rfl, rfl, trivial⟩
  exact e

theorem rdevices (lf m : Nat) : callS Try.prog S0 lf (m + 1) 99 [.ptr (some ⟨b, 0⟩)] H = some (.v (.int .i64 (l.length : Int)), H) := by
  have l0 := rload0 h
  obtain ⟨v, H', e, rfl, rfl⟩ : ret (callS Try.prog S0 lf (m + 1) 99 [.ptr (some ⟨b, 0⟩)] H) fun v H' => v = .int .i64 (l.length : Int) ∧ H' = H := by
    refine ret_call rfl c99_eq ?_
    simp only [c99, l0, Aa, Ab, Ad, Ae, Af, Ag, Ah, Ai, Aj, Ak, Al, Ao, Ap, Aq, Ar, Au, sO_p, sO_r, sO_m, sO_a, sO_c, Av, Aw, Ax, Ay, Az, sE_p, sE_r, sE_m, sE_a, sE_c, A0, A2, A3, A4, A5, A6, A7, A8, A9, Ba, Bb, Bc, Bd, Be, Bf, Bg, Bh, Bi, Bj, Bl, Bm, Bo, Bp, Bq, Br, Bs, Bt, Bu, Bv, Tr.getP_e, Bw, Bx, ↓reduceIte, Nat.reduceEqDiff, Nat.reduceAdd, Nat.reduceSub, Nat.reduceMul, Nat.reduceDiv, Nat.reduceMod, Nat.zero_add, Nat.add_zero, beq_self_eq_true, Nat.zero_ne_one, Nat.one_ne_zero, Nat.reduceLeDiff, Int.reduceBEq, constF, unF, unary,  pickF, nilcF, faddrF, fldF, iaddrSF, arF, Bz, B3, B4, B5, B6, B7, convF, extF, lenF, eqcF, eqnF, eqN, eqPtr, isNone, loadF, storeF, allocF, callF, gets, Option.map_some, Option.bind_some, B8, B9, Ca, Cb, Cc, nbeq, nble, Cd, Ce, Cf, Cg, Ch, Ci, Cj, Ck, Cl, Cm, Cn, Co, Cp, Cq, Cr, Cs, Ct, Cu, Cv, Cw, Cx, V.w, width, unc, cmpCells, Cy, Cz, C6, C7, C8, Da, undef, List.append_nil, List.nil_append, List.cons_append, Db, Dc, resultsV, result, tup, Dd, Bool.and_true, Bool.true_and, Bool.and_self, decide_true, decide_false, Bool.not_true, Bool.not_false, Bool.true_beq, Bool.false_beq, beq_iff_eq, reduceCtorEq, Nat.succ_eq_add_one, ptr0, Int.ofNat_eq_natCast, Int.ofNat_le, Int.ofNat_lt, Int.natCast_add, De, Df, Dg, Dh, Di, List.map_cons, List.map_nil, Dj, Heap.next_add, Heap.next_set, boxF, buildF, fill, bsliceF, fillRows, List.replicate_one, Dk, Dl, Dm, Dn, Dp, Dq, Dr, Ds, Dt, Du, Dw, Dx, Dy, Dz, D2, D3, D4, D5, D6, D7, D8, D9, Ea, Eb, Ec, appF, List.length_cons, List.length_nil]
    exact ⟨trivial, .inr trivial, _, rfl, rfl, trivial⟩
  exact e
theorem rdark (lf m : Nat) : callS Try.prog S0 lf (m + 1) 100 [.ptr (some ⟨b, 0⟩)] H = some (.v (.bool B.dk), H) := by
  have l2 := rload2 h
  obtain ⟨v, H', e, rfl, rfl⟩ : ret (callS Try.prog S0 lf (m + 1) 100 [.ptr (some ⟨b, 0⟩)] H) fun v H' => v = .bool B.dk ∧ H' = H := by
    refine ret_call rfl c100_eq ?_
    simp only [c100, l2, Aa, Ab, Ad, Ae, Af, Ag, Ah, Ai, Aj, Ak, Al, Ao, Ap, Aq, Ar, Au, sO_p, sO_r, sO_m, sO_a, sO_c, Av, Aw, Ax, Ay, Az, sE_p, sE_r, sE_m, sE_a, sE_c, A0, A2, A3, A4, A5, A6, A7, A8, A9, Ba, Bb, Bc, Bd, Be, Bf, Bg, Bh, Bi, Bj, Bl, Bm, Bo, Bp, Bq, Br, Bs, Bt, Bu, Bv, Tr.getP_e, Bw, Bx, ↓reduceIte, Nat.reduceEqDiff, Nat.reduceAdd, Nat.reduceSub, Nat.reduceMul, Nat.reduceDiv, Nat.reduceMod, Nat.zero_add, Nat.add_zero, beq_self_eq_true, Nat.zero_ne_one, Nat.one_ne_zero, Nat.reduceLeDiff, Int.reduceBEq, constF, unF, unary,  pickF, nilcF, faddrF, fldF, iaddrSF, arF, Bz, B3, B4, B5, B6, B7, convF, extF, lenF, eqcF, eqnF, eqN, eqPtr, isNone, loadF, storeF, allocF, callF, gets, Option.map_some, Option.bind_some, B8, B9, Ca, Cb, Cc, nbeq, nble, Cd, Ce, Cf, Cg, Ch, Ci, Cj, Ck, Cl, Cm, Cn, Co, Cp, Cq, Cr, Cs, Ct, Cu, Cv, Cw, Cx, V.w, width, unc, cmpCells, Cy, Cz, C6, C7, C8, Da, undef, List.append_nil, List.nil_append, List.cons_append, Db, Dc, resultsV, result, tup, Dd, Bool.and_true, Bool.true_and, Bool.and_self, decide_true, decide_false, Bool.not_true, Bool.not_false, Bool.true_beq, Bool.false_beq, beq_iff_eq, reduceCtorEq, Nat.succ_eq_add_one, ptr0, Int.ofNat_eq_natCast, Int.ofNat_le, Int.ofNat_lt, Int.natCast_add, De, Df, Dg, Dh, Di, List.map_cons, List.map_nil, Dj, Heap.next_add, Heap.next_set, boxF, buildF, fill, bsliceF, fillRows, List.replicate_one, Dk, Dl, Dm, Dn, Dp, Dq, Dr, Ds, Dt, Du, Dw, Dx, Dy, Dz, D2, D3, D4, D5, D6, D7, D8, D9, Ea, Eb, Ec, appF, List.length_cons, List.length_nil]
    exact ⟨trivial, .inr trivial, _, rfl, rfl, trivial⟩
  exact e
theorem rsteps (lf m : Nat) : callS Try.prog S0 lf (m + 1) 101 [.ptr (some ⟨b, 0⟩)] H = some (.v (.int .i64 B.st), H) := by
  have l3 := rload3 h
  obtain ⟨v, H', e, rfl, rfl⟩ : ret (callS Try.prog S0 lf (m + 1) 101 [.ptr (some ⟨b, 0⟩)] H) fun v H' => v = .int .i64 B.st ∧ H' = H := by
    refine ret_call rfl c101_eq ?_
    simp only [c101, l3, Aa, Ab, Ad, Ae, Af, Ag, Ah, Ai, Aj, Ak, Al, Ao, Ap, Aq, Ar, Au, sO_p, sO_r, sO_m, sO_a, sO_c, Av, Aw, Ax, Ay, Az, sE_p, sE_r, sE_m, sE_a, sE_c, A0, A2, A3, A4, A5, A6, A7, A8, A9, Ba, Bb, Bc, Bd, Be, Bf, Bg, Bh, Bi, Bj, Bl, Bm, Bo, Bp, Bq, Br, Bs, Bt, Bu, Bv, Tr.getP_e, Bw, Bx, ↓reduceIte, Nat.reduceEqDiff, Nat.reduceAdd, Nat.reduceSub, Nat.reduceMul, Nat.reduceDiv, Nat.reduceMod, Nat.zero_add, Nat.add_zero, beq_self_eq_true, Nat.zero_ne_one, Nat.one_ne_zero, Nat.reduceLeDiff, Int.reduceBEq, constF, unF, unary,  pickF, nilcF, faddrF, fldF, iaddrSF, arF, Bz, B3, B4, B5, B6, B7, convF, extF, lenF, eqcF, eqnF, eqN, eqPtr, isNone, loadF, storeF, allocF, callF, gets, Option.map_some, Option.bind_some, B8, B9, Ca, Cb, Cc, nbeq, nble, Cd, Ce, Cf, Cg, Ch, Ci, Cj, Ck, Cl, Cm, Cn, Co, Cp, Cq, Cr, Cs, Ct, Cu, Cv, Cw, Cx, V.w, width, unc, cmpCells, Cy, Cz, C6, C7, C8, Da, undef, List.append_nil, List.nil_append, List.cons_append, Db, Dc, resultsV, result, tup, Dd, Bool.and_true, Bool.true_and, Bool.and_self, decide_true, decide_false, Bool.not_true, Bool.not_false, Bool.true_beq, Bool.false_beq, beq_iff_eq, reduceCtorEq, Nat.succ_eq_add_one, ptr0, Int.ofNat_eq_natCast, Int.ofNat_le, Int.ofNat_lt, Int.natCast_add, De, Df, Dg, Dh, Di, List.map_cons, List.map_nil, Dj, Heap.next_add, Heap.next_set, boxF, buildF, fill, bsliceF, fillRows, List.replicate_one, Dk, Dl, Dm, Dn, Dp, Dq, Dr, Ds, Dt, Du, Dw, Dx, Dy, Dz, D2, D3, D4, D5, D6, D7, D8, D9, Ea, Eb, Ec, appF, List.length_cons, List.length_nil]
    exact ⟨trivial, .inr trivial, _, rfl, rfl, trivial⟩
  exact e

theorem rsectors (d : Int) (lf m : Nat) : callS Try.prog S0 lf (m + 2) 102 [.ptr (some ⟨b, 0⟩), .int .i64 d] H = some (.v (.int .i64 (B.sectors d)), H) := by
  have e1 := rhas h d lf m
  obtain ⟨v, H', e, rfl, rfl⟩ : ret (callS Try.prog S0 lf (m + 2) 102 [.ptr (some ⟨b, 0⟩), .int .i64 d] H) fun v H' => v = .int .i64 (B.sectors d) ∧ H' = H := by
    refine ret_call rfl c102_eq ?_
    rcases h.has d with ⟨i, hi, rfl, e, eD⟩ | e
    · have hw : B.sectors (i : Int) = (l[i].D.S.length : Int) := by rw [← eD]; exact if_pos e
      rw [e] at e1
      rw [hw]
      have l0 := rload0 h
      have lp := h.loadPtr hi
      have d0 := load0 (h.row.dev i hi)
      have hi1 : i + 1 ≤ l.length := hi
      simp only [c102, e1, l0, lp, d0, hi1, Nat.mul_one, Aa, Ab, Ad, Ae, Af, Ag, Ah, Ai, Aj, Ak, Al, Ao, Ap, Aq, Ar, Au, sO_p, sO_r, sO_m, sO_a, sO_c, Av, Aw, Ax, Ay, Az, sE_p, sE_r, sE_m, sE_a, sE_c, A0, A2, A3, A4, A5, A6, A7, A8, A9, Ba, Bb, Bc, Bd, Be, Bf, Bg, Bh, Bi, Bj, Bl, Bm, Bo, Bp, Bq, Br, Bs, Bt, Bu, Bv, Tr.getP_e, Bw, Bx, ↓reduceIte, Nat.reduceEqDiff, Nat.reduceAdd, Nat.reduceSub, Nat.reduceMul, Nat.reduceDiv, Nat.reduceMod, Nat.zero_add, Nat.add_zero, beq_self_eq_true, Nat.zero_ne_one, Nat.one_ne_zero, Nat.reduceLeDiff, Int.reduceBEq, constF, unF, unary,  pickF, nilcF, faddrF, fldF, iaddrSF, arF, Bz, B3, B4, B5, B6, B7, convF, extF, lenF, eqcF, eqnF, eqN, eqPtr, isNone, loadF, storeF, allocF, callF, gets, Option.map_some, Option.bind_some, B8, B9, Ca, Cb, Cc, nbeq, nble, Cd, Ce, Cf, Cg, Ch, Ci, Cj, Ck, Cl, Cm, Cn, Co, Cp, Cq, Cr, Cs, Ct, Cu, Cv, Cw, Cx, V.w, width, unc, cmpCells, Cy, Cz, C6, C7, C8, Da, undef, List.append_nil, List.nil_append, List.cons_append, Db, Dc, resultsV, result, tup, Dd, Bool.and_true, Bool.true_and, Bool.and_self, decide_true, decide_false, Bool.not_true, Bool.not_false, Bool.true_beq, Bool.false_beq, beq_iff_eq, reduceCtorEq, Nat.succ_eq_add_one, ptr0, Int.ofNat_eq_natCast, Int.ofNat_le, Int.ofNat_lt, Int.natCast_add, De, Df, Dg, Dh, Di, List.map_cons, List.map_nil, Dj, Heap.next_add, Heap.next_set, boxF, buildF, fill, bsliceF, fillRows, List.replicate_one, Dk, Dl, Dm, Dn, Dp, Dq, Dr, Ds, Dt, Du, Dw, Dx, Dy, Dz, D2, D3, D4, D5, D6, D7, D8, D9, Ea, Eb, Ec, appF, List.length_cons, List.length_nil]
      exact ⟨trivial, .inr trivial, _, rfl, rfl, trivial⟩
    · have hw : B.sectors d = 0 := if_neg (by rw [e]; decide)
      rw [e] at e1
      have z : ((2 : Int) == 0) = false := rfl
      rw [z] at e1
      rw [hw]
      simp only [c102, e1, Aa, Ab, Ad, Ae, Af, Ag, Ah, Ai, Aj, Ak, Al, Ao, Ap, Aq, Ar, Au, sO_p, sO_r, sO_m, sO_a, sO_c, Av, Aw, Ax, Ay, Az, sE_p, sE_r, sE_m, sE_a, sE_c, A0, A2, A3, A4, A5, A6, A7, A8, A9, Ba, Bb, Bc, Bd, Be, Bf, Bg, Bh, Bi, Bj, Bl, Bm, Bo, Bp, Bq, Br, Bs, Bt, Bu, Bv, Tr.getP_e, Bw, Bx, ↓reduceIte, Nat.reduceEqDiff, Nat.reduceAdd, Nat.reduceSub, Nat.reduceMul, Nat.reduceDiv, Nat.reduceMod, Nat.zero_add, Nat.add_zero, beq_self_eq_true, Nat.zero_ne_one, Nat.one_ne_zero, Nat.reduceLeDiff, Int.reduceBEq, constF, unF, unary,  pickF, nilcF, faddrF, fldF, iaddrSF, arF, Bz, B3, B4, B5, B6, B7, convF, extF, lenF, eqcF, eqnF, eqN, eqPtr, isNone, loadF, storeF, allocF, callF, gets, Option.map_some, Option.bind_some, B8, B9, Ca, Cb, Cc, nbeq, nble, Cd, Ce, Cf, Cg, Ch, Ci, Cj, Ck, Cl, Cm, Cn, Co, Cp, Cq, Cr, Cs, Ct, Cu, Cv, Cw, Cx, V.w, width, unc, cmpCells, Cy, Cz, C6, C7, C8, Da, undef, List.append_nil, List.nil_append, List.cons_append, Db, Dc, resultsV, result, tup, Dd, Bool.and_true, Bool.true_and, Bool.and_self, decide_true, decide_false, Bool.not_true, Bool.not_false, Bool.true_beq, Bool.false_beq, beq_iff_eq, reduceCtorEq, Nat.succ_eq_add_one, ptr0, Int.ofNat_eq_natCast, Int.ofNat_le, Int.ofNat_lt, Int.natCast_add, De, Df, Dg, Dh, Di, List.map_cons, List.map_nil, Dj, Heap.next_add, Heap.next_set, boxF, buildF, fill, bsliceF, fillRows, List.replicate_one, Dk, Dl, Dm, Dn, Dp, Dq, Dr, Ds, Dt, Du, Dw, Dx, Dy, Dz, D2, D3, D4, D5, D6, D7, D8, D9, Ea, Eb, Ec, appF, List.length_cons, List.length_nil]
      exact ⟨trivial, .inr trivial, _, rfl, rfl, trivial⟩
  exact e
theorem rdead (d : Int) (lf m : Nat) : callS Try.prog S0 lf (m + 2) 103 [.ptr (some ⟨b, 0⟩), .int .i64 d] H = some (.v (.bool (B.dead d)), H) := by
  have e1 := rhas h d lf m
  obtain ⟨v, H', e, rfl, rfl⟩ : ret (callS Try.prog S0 lf (m + 2) 103 [.ptr (some ⟨b, 0⟩), .int .i64 d] H) fun v H' => v = .bool (B.dead d) ∧ H' = H := by
    refine ret_call rfl c103_eq ?_
    rcases h.has d with ⟨i, hi, rfl, e, eD⟩ | e
    · have hw : B.dead (i : Int) = l[i].D.dead := by rw [← eD]; exact if_pos e
      rw [e] at e1
      rw [hw]
      have l0 := rload0 h
      have lp := h.loadPtr hi
      have d2 := load2 (h.row.dev i hi)
      have hi1 : i + 1 ≤ l.length := hi
      simp only [c103, e1, l0, lp, d2, hi1, Nat.mul_one, Aa, Ab, Ad, Ae, Af, Ag, Ah, Ai, Aj, Ak, Al, Ao, Ap, Aq, Ar, Au, sO_p, sO_r, sO_m, sO_a, sO_c, Av, Aw, Ax, Ay, Az, sE_p, sE_r, sE_m, sE_a, sE_c, A0, A2, A3, A4, A5, A6, A7, A8, A9, Ba, Bb, Bc, Bd, Be, Bf, Bg, Bh, Bi, Bj, Bl, Bm, Bo, Bp, Bq, Br, Bs, Bt, Bu, Bv, Tr.getP_e, Bw, Bx, ↓reduceIte, Nat.reduceEqDiff, Nat.reduceAdd, Nat.reduceSub, Nat.reduceMul, Nat.reduceDiv, Nat.reduceMod, Nat.zero_add, Nat.add_zero, beq_self_eq_true, Nat.zero_ne_one, Nat.one_ne_zero, Nat.reduceLeDiff, Int.reduceBEq, constF, unF, unary,  pickF, nilcF, faddrF, fldF, iaddrSF, arF, Bz, B3, B4, B5, B6, B7, convF, extF, lenF, eqcF, eqnF, eqN, eqPtr, isNone, loadF, storeF, allocF, callF, gets, Option.map_some, Option.bind_some, B8, B9, Ca, Cb, Cc, nbeq, nble, Cd, Ce, Cf, Cg, Ch, Ci, Cj, Ck, Cl, Cm, Cn, Co, Cp, Cq, Cr, Cs, Ct, Cu, Cv, Cw, Cx, V.w, width, unc, cmpCells, Cy, Cz, C6, C7, C8, Da, undef, List.append_nil, List.nil_append, List.cons_append, Db, Dc, resultsV, result, tup, Dd, Bool.and_true, Bool.true_and, Bool.and_self, decide_true, decide_false, Bool.not_true, Bool.not_false, Bool.true_beq, Bool.false_beq, beq_iff_eq, reduceCtorEq, Nat.succ_eq_add_one, ptr0, Int.ofNat_eq_natCast, Int.ofNat_le, Int.ofNat_lt, Int.natCast_add, De, Df, Dg, Dh, Di, List.map_cons, List.map_nil, Dj, Heap.next_add, Heap.next_set, boxF, buildF, fill, bsliceF, fillRows, List.replicate_one, Dk, Dl, Dm, Dn, Dp, Dq, Dr, Ds, Dt, Du, Dw, Dx, Dy, Dz, D2, D3, D4, D5, D6, D7, D8, D9, Ea, Eb, Ec, appF, List.length_cons, List.length_nil]
      exact ⟨trivial, .inr trivial, _, rfl, rfl, trivial⟩
    · have hw : B.dead d = false := if_neg (by rw [e]; decide)
      rw [e] at e1
      have z : ((2 : Int) == 0) = false := rfl
      rw [z] at e1
      rw [hw]
      simp only [c103, e1, Aa, Ab, Ad, Ae, Af, Ag, Ah, Ai, Aj, Ak, Al, Ao, Ap, Aq, Ar, Au, sO_p, sO_r, sO_m, sO_a, sO_c, Av, Aw, Ax, Ay, Az, sE_p, sE_r, sE_m, sE_a, sE_c, A0, A2, A3, A4, A5, A6, A7, A8, A9, Ba, Bb, Bc, Bd, Be, Bf, Bg, Bh, Bi, Bj, Bl, Bm, Bo, Bp, Bq, Br, Bs, Bt, Bu, Bv, Tr.getP_e, Bw, Bx, ↓reduceIte, Nat.reduceEqDiff, Nat.reduceAdd, Nat.reduceSub, Nat.reduceMul, Nat.reduceDiv, Nat.reduceMod, Nat.zero_add, Nat.add_zero, beq_self_eq_true, Nat.zero_ne_one, Nat.one_ne_zero, Nat.reduceLeDiff, Int.reduceBEq, constF, unF, unary,  pickF, nilcF, faddrF, fldF, iaddrSF, arF, Bz, B3, B4, B5, B6, B7, convF, extF, lenF, eqcF, eqnF, eqN, eqPtr, isNone, loadF, storeF, allocF, callF, gets, Option.map_some, Option.bind_some, B8, B9, Ca, Cb, Cc, nbeq, nble, Cd, Ce, Cf, Cg, Ch, Ci, Cj, Ck, Cl, Cm, Cn, Co, Cp, Cq, Cr, Cs, Ct, Cu, Cv, Cw, Cx, V.w, width, unc, cmpCells, Cy, Cz, C6, C7, C8, Da, undef, List.append_nil, List.nil_append, List.cons_append, Db, Dc, resultsV, result, tup, Dd, Bool.and_true, Bool.true_and, Bool.and_self, decide_true, decide_false, Bool.not_true, Bool.not_false, Bool.true_beq, Bool.false_beq, beq_iff_eq, reduceCtorEq, Nat.succ_eq_add_one, ptr0, Int.ofNat_eq_natCast, Int.ofNat_le, Int.ofNat_lt, Int.natCast_add, De, Df, Dg, Dh, Di, List.map_cons, List.map_nil, Dj, Heap.next_add, Heap.next_set, boxF, buildF, fill, bsliceF, fillRows, List.replicate_one, Dk, Dl, Dm, Dn, Dp, Dq, Dr, Ds, Dt, Du, Dw, Dx, Dy, Dz, D2, D3, D4, D5, D6, D7, D8, D9, Ea, Eb, Ec, appF, List.length_cons, List.length_nil]
      exact ⟨trivial, .inr trivial, _, rfl, rfl, trivial⟩
  exact e

/-- a step of the document's bench -/
theorem rstep (ha : 0 ≤ B.ar ∧ B.ar ≤ 9223372036854775807) (hs : 0 ≤ B.st ∧ B.st ≤ 100000) (lf m : Nat) :
    ∃ H', callS Try.prog S0 lf (m + 1) 134 [.ptr (some ⟨b, 0⟩)] H = some (.v (.int .i64 B.sc), H') ∧ ((B.ar = 1 ∧ RNext true H b ds so l H' l { B with dk := true }) ∨ (B.ar ≠ 1 ∧ RNext true H b ds so l H' l ⟨B.l, B.st + 1, arLess B.ar, B.dk⟩)) := by
  have l1 := rload1 h
  by_cases h1 : B.ar = 1
  · have e0 : B.sc = 8 := if_pos h1
    have s2 := rstore2 h true
    have z : (B.ar == 1) = true := by simp [h1]
    rw [e0]
    obtain ⟨v, H', e, rfl, k⟩ : ret (callS Try.prog S0 lf (m + 1) 134 [.ptr (some ⟨b, 0⟩)] H) fun v H' => v = .int .i64 8 ∧ RNext true H b ds so l H' l { B with dk := true } := by
      refine ret_call rfl c134_eq ?_
      simp only [c134, l1, s2, z, Aa, Ab, Ad, Ae, Af, Ag, Ah, Ai, Aj, Ak, Al, Ao, Ap, Aq, Ar, Au, sO_p, sO_r, sO_m, sO_a, sO_c, Av, Aw, Ax, Ay, Az, sE_p, sE_r, sE_m, sE_a, sE_c, A0, A2, A3, A4, A5, A6, A7, A8, A9, Ba, Bb, Bc, Bd, Be, Bf, Bg, Bh, Bi, Bj, Bl, Bm, Bo, Bp, Bq, Br, Bs, Bt, Bu, Bv, Tr.getP_e, Bw, Bx, ↓reduceIte, Nat.reduceEqDiff, Nat.reduceAdd, Nat.reduceSub, Nat.reduceMul, Nat.reduceDiv, Nat.reduceMod, Nat.zero_add, Nat.add_zero, beq_self_eq_true, Nat.zero_ne_one, Nat.one_ne_zero, Nat.reduceLeDiff, Int.reduceBEq, constF, unF, unary,  pickF, nilcF, faddrF, fldF, iaddrSF, arF, Bz, B3, B4, B5, B6, B7, convF, extF, lenF, eqcF, eqnF, eqN, eqPtr, isNone, loadF, storeF, allocF, callF, gets, Option.map_some, Option.bind_some, B8, B9, Ca, Cb, Cc, nbeq, nble, Cd, Ce, Cf, Cg, Ch, Ci, Cj, Ck, Cl, Cm, Cn, Co, Cp, Cq, Cr, Cs, Ct, Cu, Cv, Cw, Cx, V.w, width, unc, cmpCells, Cy, Cz, C6, C7, C8, Da, undef, List.append_nil, List.nil_append, List.cons_append, Db, Dc, resultsV, result, tup, Dd, Bool.and_true, Bool.true_and, Bool.and_self, decide_true, decide_false, Bool.not_true, Bool.not_false, Bool.true_beq, Bool.false_beq, beq_iff_eq, reduceCtorEq, Nat.succ_eq_add_one, ptr0, Int.ofNat_eq_natCast, Int.ofNat_le, Int.ofNat_lt, Int.natCast_add, De, Df, Dg, Dh, Di, List.map_cons, List.map_nil, Dj, Heap.next_add, Heap.next_set, boxF, buildF, fill, bsliceF, fillRows, List.replicate_one, Dk, Dl, Dm, Dn, Dp, Dq, Dr, Ds, Dt, Du, Dw, Dx, Dy, Dz, D2, D3, D4, D5, D6, D7, D8, D9, Ea, Eb, Ec, appF, List.length_cons, List.length_nil]
      exact ⟨trivial, .inr trivial, _, rfl, rfl, h.put' B.st B.ar true⟩
    exact ⟨H', e, .inl ⟨h1, k⟩⟩
  · have e0 : B.sc = 0 := if_neg h1
    have z : (B.ar == 1) = false := by simp; exact h1
    have w1 : IntKind.i64.wrap (B.st + 1) = B.st + 1 := wrap_i64 (by omega)
    rw [e0]
    obtain ⟨v, H', e, rfl, k⟩ : ret (callS Try.prog S0 lf (m + 1) 134 [.ptr (some ⟨b, 0⟩)] H) fun v H' => v = .int .i64 0 ∧ RNext true H b ds so l H' l ⟨B.l, B.st + 1, arLess B.ar, B.dk⟩ := by
      refine ret_call rfl c134_eq ?_
      by_cases g : 1 < B.ar
      · have w2 : IntKind.i64.wrap (B.ar - 1) = B.ar - 1 := wrap_i64 (by omega)
        have ea : arLess B.ar = B.ar - 1 := if_neg (by omega)
        have s1 := rstore1 h (B.ar - 1)
        have k1 := h.put' B.st (B.ar - 1) B.dk
        have l3 := rload3 k1.rep
        have s3 := rstore3 k1.rep (B.st + 1)
        have k2 := k1.trans (k1.rep.put' (B.st + 1) (B.ar - 1) B.dk)
        simp only [c134, l1, s1, z, g, w1, w2, l3, s3, Aa, Ab, Ad, Ae, Af, Ag, Ah, Ai, Aj, Ak, Al, Ao, Ap, Aq, Ar, Au, sO_p, sO_r, sO_m, sO_a, sO_c, Av, Aw, Ax, Ay, Az, sE_p, sE_r, sE_m, sE_a, sE_c, A0, A2, A3, A4, A5, A6, A7, A8, A9, Ba, Bb, Bc, Bd, Be, Bf, Bg, Bh, Bi, Bj, Bl, Bm, Bo, Bp, Bq, Br, Bs, Bt, Bu, Bv, Tr.getP_e, Bw, Bx, ↓reduceIte, Nat.reduceEqDiff, Nat.reduceAdd, Nat.reduceSub, Nat.reduceMul, Nat.reduceDiv, Nat.reduceMod, Nat.zero_add, Nat.add_zero, beq_self_eq_true, Nat.zero_ne_one, Nat.one_ne_zero, Nat.reduceLeDiff, Int.reduceBEq, constF, unF, unary,  pickF, nilcF, faddrF, fldF, iaddrSF, arF, Bz, B3, B4, B5, B6, B7, convF, extF, lenF, eqcF, eqnF, eqN, eqPtr, isNone, loadF, storeF, allocF, callF, gets, Option.map_some, Option.bind_some, B8, B9, Ca, Cb, Cc, nbeq, nble, Cd, Ce, Cf, Cg, Ch, Ci, Cj, Ck, Cl, Cm, Cn, Co, Cp, Cq, Cr, Cs, Ct, Cu, Cv, Cw, Cx, V.w, width, unc, cmpCells, Cy, Cz, C6, C7, C8, Da, undef, List.append_nil, List.nil_append, List.cons_append, Db, Dc, resultsV, result, tup, Dd, Bool.and_true, Bool.true_and, Bool.and_self, decide_true, decide_false, Bool.not_true, Bool.not_false, Bool.true_beq, Bool.false_beq, beq_iff_eq, reduceCtorEq, Nat.succ_eq_add_one, ptr0, Int.ofNat_eq_natCast, Int.ofNat_le, Int.ofNat_lt, Int.natCast_add, De, Df, Dg, Dh, Di, List.map_cons, List.map_nil, Dj, Heap.next_add, Heap.next_set, boxF, buildF, fill, bsliceF, fillRows, List.replicate_one, Dk, Dl, Dm, Dn, Dp, Dq, Dr, Ds, Dt, Du, Dw, Dx, Dy, Dz, D2, D3, D4, D5, D6, D7, D8, D9, Ea, Eb, Ec, appF, List.length_cons, List.length_nil]
        rw [ea]
        exact ⟨trivial, .inr trivial, _, rfl, rfl, k2⟩
      · have ea : arLess B.ar = B.ar := by unfold arLess; split <;> omega
        have l3 := rload3 h
        have s3 := rstore3 h (B.st + 1)
        have k2 := h.put' (B.st + 1) B.ar B.dk
        simp only [c134, l1, z, g, w1, l3, s3, Aa, Ab, Ad, Ae, Af, Ag, Ah, Ai, Aj, Ak, Al, Ao, Ap, Aq, Ar, Au, sO_p, sO_r, sO_m, sO_a, sO_c, Av, Aw, Ax, Ay, Az, sE_p, sE_r, sE_m, sE_a, sE_c, A0, A2, A3, A4, A5, A6, A7, A8, A9, Ba, Bb, Bc, Bd, Be, Bf, Bg, Bh, Bi, Bj, Bl, Bm, Bo, Bp, Bq, Br, Bs, Bt, Bu, Bv, Tr.getP_e, Bw, Bx, ↓reduceIte, Nat.reduceEqDiff, Nat.reduceAdd, Nat.reduceSub, Nat.reduceMul, Nat.reduceDiv, Nat.reduceMod, Nat.zero_add, Nat.add_zero, beq_self_eq_true, Nat.zero_ne_one, Nat.one_ne_zero, Nat.reduceLeDiff, Int.reduceBEq, constF, unF, unary,  pickF, nilcF, faddrF, fldF, iaddrSF, arF, Bz, B3, B4, B5, B6, B7, convF, extF, lenF, eqcF, eqnF, eqN, eqPtr, isNone, loadF, storeF, allocF, callF, gets, Option.map_some, Option.bind_some, B8, B9, Ca, Cb, Cc, nbeq, nble, Cd, Ce, Cf, Cg, Ch, Ci, Cj, Ck, Cl, Cm, Cn, Co, Cp, Cq, Cr, Cs, Ct, Cu, Cv, Cw, Cx, V.w, width, unc, cmpCells, Cy, Cz, C6, C7, C8, Da, undef, List.append_nil, List.nil_append, List.cons_append, Db, Dc, resultsV, result, tup, Dd, Bool.and_true, Bool.true_and, Bool.and_self, decide_true, decide_false, Bool.not_true, Bool.not_false, Bool.true_beq, Bool.false_beq, beq_iff_eq, reduceCtorEq, Nat.succ_eq_add_one, ptr0, Int.ofNat_eq_natCast, Int.ofNat_le, Int.ofNat_lt, Int.natCast_add, De, Df, Dg, Dh, Di, List.map_cons, List.map_nil, Dj, Heap.next_add, Heap.next_set, boxF, buildF, fill, bsliceF, fillRows, List.replicate_one, Dk, Dl, Dm, Dn, Dp, Dq, Dr, Ds, Dt, Du, Dw, Dx, Dy, Dz, D2, D3, D4, D5, D6, D7, D8, D9, Ea, Eb, Ec, appF, List.length_cons, List.length_nil]
        rw [ea]
        exact ⟨trivial, .inr trivial, _, rfl, rfl, k2⟩
    exact ⟨H', e, .inr ⟨h1, k⟩⟩

theorem rarm (n : Int) (lf m : Nat) :
    ret (callS Try.prog S0 lf (m + 1) 93 [.ptr (some ⟨b, 0⟩), .int .i64 n] H) fun v H' => v = .int .i64 (B.ac n) ∧ RNext true H b ds so l H' l (B.arm n) := by
  have l2 := rload2 h
  refine ret_call rfl c93_eq ?_
  cases hdk : B.dk with
  | true =>
    have e0 : B.ac n = 8 := if_pos hdk
    have e1 : B.arm n = B := if_neg (by rw [e0]; decide)
    rw [e0, e1]
    rw [hdk] at l2
    simp only [c93, l2, Aa, Ab, Ad, Ae, Af, Ag, Ah, Ai, Aj, Ak, Al, Ao, Ap, Aq, Ar, Au, sO_p, sO_r, sO_m, sO_a, sO_c, Av, Aw, Ax, Ay, Az, sE_p, sE_r, sE_m, sE_a, sE_c, A0, A2, A3, A4, A5, A6, A7, A8, A9, Ba, Bb, Bc, Bd, Be, Bf, Bg, Bh, Bi, Bj, Bl, Bm, Bo, Bp, Bq, Br, Bs, Bt, Bu, Bv, Tr.getP_e, Bw, Bx, ↓reduceIte, Nat.reduceEqDiff, Nat.reduceAdd, Nat.reduceSub, Nat.reduceMul, Nat.reduceDiv, Nat.reduceMod, Nat.zero_add, Nat.add_zero, beq_self_eq_true, Nat.zero_ne_one, Nat.one_ne_zero, Nat.reduceLeDiff, Int.reduceBEq, constF, unF, unary,  pickF, nilcF, faddrF, fldF, iaddrSF, arF, Bz, B3, B4, B5, B6, B7, convF, extF, lenF, eqcF, eqnF, eqN, eqPtr, isNone, loadF, storeF, allocF, callF, gets, Option.map_some, Option.bind_some, B8, B9, Ca, Cb, Cc, nbeq, nble, Cd, Ce, Cf, Cg, Ch, Ci, Cj, Ck, Cl, Cm, Cn, Co, Cp, Cq, Cr, Cs, Ct, Cu, Cv, Cw, Cx, V.w, width, unc, cmpCells, Cy, Cz, C6, C7, C8, Da, undef, List.append_nil, List.nil_append, List.cons_append, Db, Dc, resultsV, result, tup, Dd, Bool.and_true, Bool.true_and, Bool.and_self, decide_true, decide_false, Bool.not_true, Bool.not_false, Bool.true_beq, Bool.false_beq, beq_iff_eq, reduceCtorEq, Nat.succ_eq_add_one, ptr0, Int.ofNat_eq_natCast, Int.ofNat_le, Int.ofNat_lt, Int.natCast_add, De, Df, Dg, Dh, Di, List.map_cons, List.map_nil, Dj, Heap.next_add, Heap.next_set, boxF, buildF, fill, bsliceF, fillRows, List.replicate_one, Dk, Dl, Dm, Dn, Dp, Dq, Dr, Ds, Dt, Du, Dw, Dx, Dy, Dz, D2, D3, D4, D5, D6, D7, D8, D9, Ea, Eb, Ec, appF, List.length_cons, List.length_nil]
    exact ⟨trivial, .inr trivial, _, rfl, rfl, h.idle (Turns.refl Z H)⟩
  | false =>
    rw [hdk] at l2
    by_cases hn : n < 0
    · have e0 : B.ac n = 2 := by unfold Bn.ac; rw [if_neg (by rw [hdk]; decide), if_pos hn]
      have e1 : B.arm n = B := if_neg (by rw [e0]; decide)
      rw [e0, e1]
      simp only [c93, l2, hn, Aa, Ab, Ad, Ae, Af, Ag, Ah, Ai, Aj, Ak, Al, Ao, Ap, Aq, Ar, Au, sO_p, sO_r, sO_m, sO_a, sO_c, Av, Aw, Ax, Ay, Az, sE_p, sE_r, sE_m, sE_a, sE_c, A0, A2, A3, A4, A5, A6, A7, A8, A9, Ba, Bb, Bc, Bd, Be, Bf, Bg, Bh, Bi, Bj, Bl, Bm, Bo, Bp, Bq, Br, Bs, Bt, Bu, Bv, Tr.getP_e, Bw, Bx, ↓reduceIte, Nat.reduceEqDiff, Nat.reduceAdd, Nat.reduceSub, Nat.reduceMul, Nat.reduceDiv, Nat.reduceMod, Nat.zero_add, Nat.add_zero, beq_self_eq_true, Nat.zero_ne_one, Nat.one_ne_zero, Nat.reduceLeDiff, Int.reduceBEq, constF, unF, unary,  pickF, nilcF, faddrF, fldF, iaddrSF, arF, Bz, B3, B4, B5, B6, B7, convF, extF, lenF, eqcF, eqnF, eqN, eqPtr, isNone, loadF, storeF, allocF, callF, gets, Option.map_some, Option.bind_some, B8, B9, Ca, Cb, Cc, nbeq, nble, Cd, Ce, Cf, Cg, Ch, Ci, Cj, Ck, Cl, Cm, Cn, Co, Cp, Cq, Cr, Cs, Ct, Cu, Cv, Cw, Cx, V.w, width, unc, cmpCells, Cy, Cz, C6, C7, C8, Da, undef, List.append_nil, List.nil_append, List.cons_append, Db, Dc, resultsV, result, tup, Dd, Bool.and_true, Bool.true_and, Bool.and_self, decide_true, decide_false, Bool.not_true, Bool.not_false, Bool.true_beq, Bool.false_beq, beq_iff_eq, reduceCtorEq, Nat.succ_eq_add_one, ptr0, Int.ofNat_eq_natCast, Int.ofNat_le, Int.ofNat_lt, Int.natCast_add, De, Df, Dg, Dh, Di, List.map_cons, List.map_nil, Dj, Heap.next_add, Heap.next_set, boxF, buildF, fill, bsliceF, fillRows, List.replicate_one, Dk, Dl, Dm, Dn, Dp, Dq, Dr, Ds, Dt, Du, Dw, Dx, Dy, Dz, D2, D3, D4, D5, D6, D7, D8, D9, Ea, Eb, Ec, appF, List.length_cons, List.length_nil]
      exact ⟨trivial, .inr trivial, _, rfl, rfl, h.idle (Turns.refl Z H)⟩
    · have e0 : B.ac n = 0 := by unfold Bn.ac; rw [if_neg (by rw [hdk]; decide), if_neg hn]
      have e1 : B.arm n = { B with ar := n } := if_pos e0
      have s1 := rstore1 h n
      rw [e0, e1]
      simp only [c93, l2, hn, s1, Aa, Ab, Ad, Ae, Af, Ag, Ah, Ai, Aj, Ak, Al, Ao, Ap, Aq, Ar, Au, sO_p, sO_r, sO_m, sO_a, sO_c, Av, Aw, Ax, Ay, Az, sE_p, sE_r, sE_m, sE_a, sE_c, A0, A2, A3, A4, A5, A6, A7, A8, A9, Ba, Bb, Bc, Bd, Be, Bf, Bg, Bh, Bi, Bj, Bl, Bm, Bo, Bp, Bq, Br, Bs, Bt, Bu, Bv, Tr.getP_e, Bw, Bx, ↓reduceIte, Nat.reduceEqDiff, Nat.reduceAdd, Nat.reduceSub, Nat.reduceMul, Nat.reduceDiv, Nat.reduceMod, Nat.zero_add, Nat.add_zero, beq_self_eq_true, Nat.zero_ne_one, Nat.one_ne_zero, Nat.reduceLeDiff, Int.reduceBEq, constF, unF, unary,  pickF, nilcF, faddrF, fldF, iaddrSF, arF, Bz, B3, B4, B5, B6, B7, convF, extF, lenF, eqcF, eqnF, eqN, eqPtr, isNone, loadF, storeF, allocF, callF, gets, Option.map_some, Option.bind_some, B8, B9, Ca, Cb, Cc, nbeq, nble, Cd, Ce, Cf, Cg, Ch, Ci, Cj, Ck, Cl, Cm, Cn, Co, Cp, Cq, Cr, Cs, Ct, Cu, Cv, Cw, Cx, V.w, width, unc, cmpCells, Cy, Cz, C6, C7, C8, Da, undef, List.append_nil, List.nil_append, List.cons_append, Db, Dc, resultsV, result, tup, Dd, Bool.and_true, Bool.true_and, Bool.and_self, decide_true, decide_false, Bool.not_true, Bool.not_false, Bool.true_beq, Bool.false_beq, beq_iff_eq, reduceCtorEq, Nat.succ_eq_add_one, ptr0, Int.ofNat_eq_natCast, Int.ofNat_le, Int.ofNat_lt, Int.natCast_add, De, Df, Dg, Dh, Di, List.map_cons, List.map_nil, Dj, Heap.next_add, Heap.next_set, boxF, buildF, fill, bsliceF, fillRows, List.replicate_one, Dk, Dl, Dm, Dn, Dp, Dq, Dr, Ds, Dt, Du, Dw, Dx, Dy, Dz, D2, D3, D4, D5, D6, D7, D8, D9, Ea, Eb, Ec, appF, List.length_cons, List.length_nil]
      exact ⟨trivial, .inr trivial, _, rfl, rfl, h.put' B.st n B.dk⟩

variable (hg : ∀ D ∈ B.l, Good D)
include hg

theorem rgood {i : Nat} (hi : i < l.length) : Good l[i].D := hg _ (by rw [← h.map]; exact List.mem_map_of_mem (List.getElem_mem hi))

theorem rbread (d n : Int) {lf : Nat} (hlf : 1000 < lf) (m : Nat) :
    ret (callS Try.prog S0 lf (m + 3) 89 [.ptr (some ⟨b, 0⟩), .int .i64 d, .int .i64 n] H) fun v H' => v = .tuple [.blk (B.read d n), .int .i64 (B.rc d n)] ∧ Turns Z H H' := by
  have t1 := Turns.add Z H (.rows false 64 [[.blk 0]])
  have h' := h.turns t1
  have e1 := rasks h' d lf m
  refine ret_call rfl c89_eq ?_
  by_cases hc : B.lc d = 0
  · have hr : B.read d n = (B.dev d).read n := if_pos hc
    have hrc : B.rc d n = code (B.dev d) n := if_pos hc
    rw [hc] at e1
    rw [hr, hrc]
    rcases h.has d with ⟨i, hi, rfl, _, e⟩ | e
    · rw [e]
      have g := rgood h hg hi
      have l0 := rload0 h'
      have lp := h'.loadPtr hi
      have hi1 : i + 1 ≤ l.length := hi
      obtain ⟨v, H1, e2, rfl, t2⟩ := rread_all (h'.row.dev i hi) (lf := lf) (by have := g.le; omega) (by have := g.le; omega) n m
      have g0 : H1.get (.run H.next) = some (.rows false 64 [[.blk 0]]) := by
        rw [t2.same _ (by show _ < _; simp) id, Heap.get_add, if_pos rfl]
      have st := cell_store (v := l[i].D.read n) g0
      simp only [c89, e1, l0, lp, hi1, e2, st, Nat.mul_one, Aa, Ab, Ad, Ae, Af, Ag, Ah, Ai, Aj, Ak, Al, Ao, Ap, Aq, Ar, Au, sO_p, sO_r, sO_m, sO_a, sO_c, Av, Aw, Ax, Ay, Az, sE_p, sE_r, sE_m, sE_a, sE_c, A0, A2, A3, A4, A5, A6, A7, A8, A9, Ba, Bb, Bc, Bd, Be, Bf, Bg, Bh, Bi, Bj, Bl, Bm, Bo, Bp, Bq, Br, Bs, Bt, Bu, Bv, Tr.getP_e, Bw, Bx, ↓reduceIte, Nat.reduceEqDiff, Nat.reduceAdd, Nat.reduceSub, Nat.reduceMul, Nat.reduceDiv, Nat.reduceMod, Nat.zero_add, Nat.add_zero, beq_self_eq_true, Nat.zero_ne_one, Nat.one_ne_zero, Nat.reduceLeDiff, Int.reduceBEq, constF, unF, unary,  pickF, nilcF, faddrF, fldF, iaddrSF, arF, Bz, B3, B4, B5, B6, B7, convF, extF, lenF, eqcF, eqnF, eqN, eqPtr, isNone, loadF, storeF, allocF, callF, gets, Option.map_some, Option.bind_some, B8, B9, Ca, Cb, Cc, nbeq, nble, Cd, Ce, Cf, Cg, Ch, Ci, Cj, Ck, Cl, Cm, Cn, Co, Cp, Cq, Cr, Cs, Ct, Cu, Cv, Cw, Cx, V.w, width, unc, cmpCells, Cy, Cz, C6, C7, C8, Da, undef, List.append_nil, List.nil_append, List.cons_append, Db, Dc, resultsV, result, tup, Dd, Bool.and_true, Bool.true_and, Bool.and_self, decide_true, decide_false, Bool.not_true, Bool.not_false, Bool.true_beq, Bool.false_beq, beq_iff_eq, reduceCtorEq, Nat.succ_eq_add_one, ptr0, Int.ofNat_eq_natCast, Int.ofNat_le, Int.ofNat_lt, Int.natCast_add, De, Df, Dg, Dh, Di, List.map_cons, List.map_nil, Dj, Heap.next_add, Heap.next_set, boxF, buildF, fill, bsliceF, fillRows, List.replicate_one, Dk, Dl, Dm, Dn, Dp, Dq, Dr, Ds, Dt, Du, Dw, Dx, Dy, Dz, D2, D3, D4, D5, D6, D7, D8, D9, Ea, Eb, Ec, appF, List.length_cons, List.length_nil]
      exact ⟨trivial, .inr trivial, _, rfl, rfl, (t1.trans t2).setnew (Nat.le_refl _) _⟩
    · rw [lc_tc hc] at e; cases e
  · have hr : B.read d n = 0 := if_neg hc
    have hrc : B.rc d n = B.lc d := if_neg hc
    have hz : (B.lc d == 0) = false := by simp; exact hc
    rw [hr, hrc]
    simp only [c89, e1, hz, Aa, Ab, Ad, Ae, Af, Ag, Ah, Ai, Aj, Ak, Al, Ao, Ap, Aq, Ar, Au, sO_p, sO_r, sO_m, sO_a, sO_c, Av, Aw, Ax, Ay, Az, sE_p, sE_r, sE_m, sE_a, sE_c, A0, A2, A3, A4, A5, A6, A7, A8, A9, Ba, Bb, Bc, Bd, Be, Bf, Bg, Bh, Bi, Bj, Bl, Bm, Bo, Bp, Bq, Br, Bs, Bt, Bu, Bv, Tr.getP_e, Bw, Bx, ↓reduceIte, Nat.reduceEqDiff, Nat.reduceAdd, Nat.reduceSub, Nat.reduceMul, Nat.reduceDiv, Nat.reduceMod, Nat.zero_add, Nat.add_zero, beq_self_eq_true, Nat.zero_ne_one, Nat.one_ne_zero, Nat.reduceLeDiff, Int.reduceBEq, constF, unF, unary,  pickF, nilcF, faddrF, fldF, iaddrSF, arF, Bz, B3, B4, B5, B6, B7, convF, extF, lenF, eqcF, eqnF, eqN, eqPtr, isNone, loadF, storeF, allocF, callF, gets, Option.map_some, Option.bind_some, B8, B9, Ca, Cb, Cc, nbeq, nble, Cd, Ce, Cf, Cg, Ch, Ci, Cj, Ck, Cl, Cm, Cn, Co, Cp, Cq, Cr, Cs, Ct, Cu, Cv, Cw, Cx, V.w, width, unc, cmpCells, Cy, Cz, C6, C7, C8, Da, undef, List.append_nil, List.nil_append, List.cons_append, Db, Dc, resultsV, result, tup, Dd, Bool.and_true, Bool.true_and, Bool.and_self, decide_true, decide_false, Bool.not_true, Bool.not_false, Bool.true_beq, Bool.false_beq, beq_iff_eq, reduceCtorEq, Nat.succ_eq_add_one, ptr0, Int.ofNat_eq_natCast, Int.ofNat_le, Int.ofNat_lt, Int.natCast_add, De, Df, Dg, Dh, Di, List.map_cons, List.map_nil, Dj, Heap.next_add, Heap.next_set, boxF, buildF, fill, bsliceF, fillRows, List.replicate_one, Dk, Dl, Dm, Dn, Dp, Dq, Dr, Ds, Dt, Du, Dw, Dx, Dy, Dz, D2, D3, D4, D5, D6, D7, D8, D9, Ea, Eb, Ec, appF, List.length_cons, List.length_nil]
    exact ⟨trivial, .inr trivial, _, rfl, rfl, t1.setnew (Nat.le_refl _) _⟩

theorem rbsure (d n : Int) {lf : Nat} (hlf : 1000 < lf) (m : Nat) :
    ret (callS Try.prog S0 lf (m + 3) 96 [.ptr (some ⟨b, 0⟩), .int .i64 d, .int .i64 n] H) fun v H' => v = .tuple [.blk (B.sure d n), .int .i64 (B.uc d n)] ∧ Turns Z H H' := by
  have t1 := Turns.add Z H (.rows false 64 [[.blk 0]])
  have h' := h.turns t1
  have e1 := rhas h' d lf (m + 1)
  change callS Try.prog S0 lf (m + 2) 135 _ _ = _ at e1
  refine ret_call rfl c96_eq ?_
  rcases h.has d with ⟨i, hi, rfl, e, eD⟩ | e
  · have hw : B.sure (i : Int) n = l[i].D.sure n := by rw [← eD]; exact if_pos e
    have hc : B.uc (i : Int) n = code l[i].D n := by rw [← eD]; exact if_pos e
    rw [hw, hc]
    rw [e] at e1
    have l0 := rload0 h'
    have lp := h'.loadPtr hi
    have hi1 : i + 1 ≤ l.length := hi
    obtain ⟨v, H1, e2, rfl, t2⟩ := rsure_all (h'.row.dev i hi) n lf m
    have g0 : H1.get (.run H.next) = some (.rows false 64 [[.blk 0]]) := by
      rw [t2.same _ (by show _ < _; simp) id, Heap.get_add, if_pos rfl]
    have st := cell_store (v := l[i].D.sure n) g0
    simp only [c96, e1, l0, lp, hi1, e2, st, Nat.mul_one, Aa, Ab, Ad, Ae, Af, Ag, Ah, Ai, Aj, Ak, Al, Ao, Ap, Aq, Ar, Au, sO_p, sO_r, sO_m, sO_a, sO_c, Av, Aw, Ax, Ay, Az, sE_p, sE_r, sE_m, sE_a, sE_c, A0, A2, A3, A4, A5, A6, A7, A8, A9, Ba, Bb, Bc, Bd, Be, Bf, Bg, Bh, Bi, Bj, Bl, Bm, Bo, Bp, Bq, Br, Bs, Bt, Bu, Bv, Tr.getP_e, Bw, Bx, ↓reduceIte, Nat.reduceEqDiff, Nat.reduceAdd, Nat.reduceSub, Nat.reduceMul, Nat.reduceDiv, Nat.reduceMod, Nat.zero_add, Nat.add_zero, beq_self_eq_true, Nat.zero_ne_one, Nat.one_ne_zero, Nat.reduceLeDiff, Int.reduceBEq, constF, unF, unary,  pickF, nilcF, faddrF, fldF, iaddrSF, arF, Bz, B3, B4, B5, B6, B7, convF, extF, lenF, eqcF, eqnF, eqN, eqPtr, isNone, loadF, storeF, allocF, callF, gets, Option.map_some, Option.bind_some, B8, B9, Ca, Cb, Cc, nbeq, nble, Cd, Ce, Cf, Cg, Ch, Ci, Cj, Ck, Cl, Cm, Cn, Co, Cp, Cq, Cr, Cs, Ct, Cu, Cv, Cw, Cx, V.w, width, unc, cmpCells, Cy, Cz, C6, C7, C8, Da, undef, List.append_nil, List.nil_append, List.cons_append, Db, Dc, resultsV, result, tup, Dd, Bool.and_true, Bool.true_and, Bool.and_self, decide_true, decide_false, Bool.not_true, Bool.not_false, Bool.true_beq, Bool.false_beq, beq_iff_eq, reduceCtorEq, Nat.succ_eq_add_one, ptr0, Int.ofNat_eq_natCast, Int.ofNat_le, Int.ofNat_lt, Int.natCast_add, De, Df, Dg, Dh, Di, List.map_cons, List.map_nil, Dj, Heap.next_add, Heap.next_set, boxF, buildF, fill, bsliceF, fillRows, List.replicate_one, Dk, Dl, Dm, Dn, Dp, Dq, Dr, Ds, Dt, Du, Dw, Dx, Dy, Dz, D2, D3, D4, D5, D6, D7, D8, D9, Ea, Eb, Ec, appF, List.length_cons, List.length_nil]
    exact ⟨trivial, .inr trivial, _, rfl, rfl, (t1.trans t2).setnew (Nat.le_refl _) _⟩
  · have hw : B.sure d n = 0 := if_neg (by rw [e]; decide)
    have hc : B.uc d n = 2 := if_neg (by rw [e]; decide)
    rw [hw, hc]
    rw [e] at e1
    have z : ((2 : Int) == 0) = false := rfl
    rw [z] at e1
    simp only [c96, e1, Aa, Ab, Ad, Ae, Af, Ag, Ah, Ai, Aj, Ak, Al, Ao, Ap, Aq, Ar, Au, sO_p, sO_r, sO_m, sO_a, sO_c, Av, Aw, Ax, Ay, Az, sE_p, sE_r, sE_m, sE_a, sE_c, A0, A2, A3, A4, A5, A6, A7, A8, A9, Ba, Bb, Bc, Bd, Be, Bf, Bg, Bh, Bi, Bj, Bl, Bm, Bo, Bp, Bq, Br, Bs, Bt, Bu, Bv, Tr.getP_e, Bw, Bx, ↓reduceIte, Nat.reduceEqDiff, Nat.reduceAdd, Nat.reduceSub, Nat.reduceMul, Nat.reduceDiv, Nat.reduceMod, Nat.zero_add, Nat.add_zero, beq_self_eq_true, Nat.zero_ne_one, Nat.one_ne_zero, Nat.reduceLeDiff, Int.reduceBEq, constF, unF, unary,  pickF, nilcF, faddrF, fldF, iaddrSF, arF, Bz, B3, B4, B5, B6, B7, convF, extF, lenF, eqcF, eqnF, eqN, eqPtr, isNone, loadF, storeF, allocF, callF, gets, Option.map_some, Option.bind_some, B8, B9, Ca, Cb, Cc, nbeq, nble, Cd, Ce, Cf, Cg, Ch, Ci, Cj, Ck, Cl, Cm, Cn, Co, Cp, Cq, Cr, Cs, Ct, Cu, Cv, Cw, Cx, V.w, width, unc, cmpCells, Cy, Cz, C6, C7, C8, Da, undef, List.append_nil, List.nil_append, List.cons_append, Db, Dc, resultsV, result, tup, Dd, Bool.and_true, Bool.true_and, Bool.and_self, decide_true, decide_false, Bool.not_true, Bool.not_false, Bool.true_beq, Bool.false_beq, beq_iff_eq, reduceCtorEq, Nat.succ_eq_add_one, ptr0, Int.ofNat_eq_natCast, Int.ofNat_le, Int.ofNat_lt, Int.natCast_add, De, Df, Dg, Dh, Di, List.map_cons, List.map_nil, Dj, Heap.next_add, Heap.next_set, boxF, buildF, fill, bsliceF, fillRows, List.replicate_one, Dk, Dl, Dm, Dn, Dp, Dq, Dr, Ds, Dt, Du, Dw, Dx, Dy, Dz, D2, D3, D4, D5, D6, D7, D8, D9, Ea, Eb, Ec, appF, List.length_cons, List.length_nil]
    exact ⟨trivial, .inr trivial, _, rfl, rfl, t1.setnew (Nat.le_refl _) _⟩

theorem rbwrite (ha : 0 ≤ B.ar ∧ B.ar ≤ 9223372036854775807) (hs : 0 ≤ B.st ∧ B.st ≤ 100000) (d n : Int) (x : Nat) {lf : Nat} (hlf : 1000 < lf) (m : Nat) :
    ret (callS Try.prog S0 lf (m + 3) 88 [.ptr (some ⟨b, 0⟩), .int .i64 d, .int .i64 n, .blk x] H) fun v H' => v = .int .i64 (B.wc d n) ∧ ∃ l', RNext true H b ds so l H' l' (B.write d n x) := by
  have t1 := Turns.add Z H (.rows false 64 [[.blk x]])
  have gA : (H.add (.rows false 64 [[.blk x]])).get (.run H.next) = some (.rows false 64 [[.blk x]]) := by rw [Heap.get_add, if_pos rfl]
  have oA : (H.add (.rows false 64 [[.blk x]])).Old (.run H.next) := by show _ < _; simp
  have h' := h.turns t1
  have nb : Bk.run H.next ≠ b := fun e => Heap.not_old (Nat.le_refl _) (by rw [e]; exact h.row.old.1)
  generalize hHA : H.add (.rows false 64 [[.blk x]]) = HA at t1 gA oA h'
  have e1 := rasks h' d lf m
  refine ret_call rfl c88_eq ?_
  simp only [c88, Aa, Ab, Ad, Ae, Af, Ag, Ah, Ai, Aj, Ak, Al, Ao, Ap, Aq, Ar, Au, sO_p, sO_r, sO_m, sO_a, sO_c, Av, Aw, Ax, Ay, Az, sE_p, sE_r, sE_m, sE_a, sE_c, A0, A2, A3, A4, A5, A6, A7, A8, A9, Ba, Bb, Bc, Bd, Be, Bf, Bg, Bh, Bi, Bj, Bl, Bm, Bo, Bp, Bq, Br, Bs, Bt, Bu, Bv, Tr.getP_e, Bw, Bx, ↓reduceIte, Nat.reduceEqDiff, Nat.reduceAdd, Nat.reduceSub, Nat.reduceMul, Nat.reduceDiv, Nat.reduceMod, Nat.zero_add, Nat.add_zero, beq_self_eq_true, Nat.zero_ne_one, Nat.one_ne_zero, Nat.reduceLeDiff, Int.reduceBEq, constF, unF, unary,  pickF, nilcF, faddrF, fldF, iaddrSF, arF, Bz, B3, B4, B5, B6, B7, convF, extF, lenF, eqcF, eqnF, eqN, eqPtr, isNone, loadF, storeF, allocF, callF, gets, Option.map_some, Option.bind_some, B8, B9, Ca, Cb, Cc, nbeq, nble, Cd, Ce, Cf, Cg, Ch, Ci, Cj, Ck, Cl, Cm, Cn, Co, Cp, Cq, Cr, Cs, Ct, Cu, Cv, Cw, Cx, V.w, width, unc, cmpCells, Cy, Cz, C6, C7, C8, Da, undef, List.append_nil, List.nil_append, List.cons_append, Db, Dc, resultsV, result, tup, Dd, Bool.and_true, Bool.true_and, Bool.and_self, decide_true, decide_false, Bool.not_true, Bool.not_false, Bool.true_beq, Bool.false_beq, beq_iff_eq, reduceCtorEq, Nat.succ_eq_add_one, ptr0, Int.ofNat_eq_natCast, Int.ofNat_le, Int.ofNat_lt, Int.natCast_add, De, Df, Dg, Dh, Di, List.map_cons, List.map_nil, Dj, Heap.next_add, Heap.next_set, boxF, buildF, fill, bsliceF, fillRows, List.replicate_one, Dk, Dl, Dm, Dn, Dp, Dq, Dr, Ds, Dt, Du, Dw, Dx, Dy, Dz, D2, D3, D4, D5, D6, D7, D8, D9, Ea, Eb, Ec, appF, List.length_cons, List.length_nil]
  rw [hHA]
  by_cases hlc : B.lc d = 0
  · rw [hlc] at e1
    rcases h.has d with ⟨i, hi, rfl, _, eD⟩ | e
    · have g := rgood h hg hi
      have hrc : B.rc (i : Int) n = code l[i].D n := by rw [← eD]; exact if_pos hlc
      have l0 := rload0 h'
      have lp := h'.loadPtr hi
      have hi1 : i + 1 ≤ l.length := hi
      obtain ⟨v, _, e2, rfl, rfl⟩ := asks_code (h'.row.dev i hi) n lf (m + 1)
      change callS Try.prog S0 lf (m + 2) 131 _ _ = _ at e2
      by_cases hc : code l[i].D n = 0
      · have hw : B.write (i : Int) n x = B.step (i : Int) (l[i].D.write n x) := by rw [← eD]; exact if_pos (by rw [hrc]; exact hc)
        have hwc : B.wc (i : Int) n = B.sc := if_pos (by rw [hrc]; exact hc)
        rw [hw, hwc]
        rw [hc] at e2
        obtain ⟨K1, e3, hs3⟩ := rstep h' ha hs lf (m + 1)
        change callS Try.prog S0 lf (m + 2) 134 _ _ = _ at e3
        rcases hs3 with ⟨h1, k1⟩ | ⟨h1, k1⟩
        · rw [show B.sc = 8 from if_pos h1] at e3 ⊢
          have est : B.step (i : Int) (l[i].D.write n x) = { B with dk := true } := if_pos h1
          rw [est]
          simp only [e1, l0, lp, hi1, e2, e3, Nat.mul_one, Aa, Ab, Ad, Ae, Af, Ag, Ah, Ai, Aj, Ak, Al, Ao, Ap, Aq, Ar, Au, sO_p, sO_r, sO_m, sO_a, sO_c, Av, Aw, Ax, Ay, Az, sE_p, sE_r, sE_m, sE_a, sE_c, A0, A2, A3, A4, A5, A6, A7, A8, A9, Ba, Bb, Bc, Bd, Be, Bf, Bg, Bh, Bi, Bj, Bl, Bm, Bo, Bp, Bq, Br, Bs, Bt, Bu, Bv, Tr.getP_e, Bw, Bx, ↓reduceIte, Nat.reduceEqDiff, Nat.reduceAdd, Nat.reduceSub, Nat.reduceMul, Nat.reduceDiv, Nat.reduceMod, Nat.zero_add, Nat.add_zero, beq_self_eq_true, Nat.zero_ne_one, Nat.one_ne_zero, Nat.reduceLeDiff, Int.reduceBEq, constF, unF, unary,  pickF, nilcF, faddrF, fldF, iaddrSF, arF, Bz, B3, B4, B5, B6, B7, convF, extF, lenF, eqcF, eqnF, eqN, eqPtr, isNone, loadF, storeF, allocF, callF, gets, Option.map_some, Option.bind_some, B8, B9, Ca, Cb, Cc, nbeq, nble, Cd, Ce, Cf, Cg, Ch, Ci, Cj, Ck, Cl, Cm, Cn, Co, Cp, Cq, Cr, Cs, Ct, Cu, Cv, Cw, Cx, V.w, width, unc, cmpCells, Cy, Cz, C6, C7, C8, Da, undef, List.append_nil, List.nil_append, List.cons_append, Db, Dc, resultsV, result, tup, Dd, Bool.and_true, Bool.true_and, Bool.and_self, decide_true, decide_false, Bool.not_true, Bool.not_false, Bool.true_beq, Bool.false_beq, beq_iff_eq, reduceCtorEq, Nat.succ_eq_add_one, ptr0, Int.ofNat_eq_natCast, Int.ofNat_le, Int.ofNat_lt, Int.natCast_add, De, Df, Dg, Dh, Di, List.map_cons, List.map_nil, Dj, Heap.next_add, Heap.next_set, boxF, buildF, fill, bsliceF, fillRows, List.replicate_one, Dk, Dl, Dm, Dn, Dp, Dq, Dr, Ds, Dt, Du, Dw, Dx, Dy, Dz, D2, D3, D4, D5, D6, D7, D8, D9, Ea, Eb, Ec, appF, List.length_cons, List.length_nil]
          exact ⟨trivial, .inr trivial, _, rfl, rfl, l, RNext.before t1 k1⟩
        · rw [show B.sc = 0 from if_neg h1] at e3 ⊢
          have est : B.step (i : Int) (l[i].D.write n x) = (⟨B.l, B.st + 1, arLess B.ar, B.dk⟩ : Bn).setd (i : Int) (l[i].D.write n x) := if_neg h1
          rw [est]
          have l0' := rload0 k1.rep
          have lp' := k1.rep.loadPtr hi
          have ld := load_of ((k1.turns.same _ oA (fun hc => by
            rcases hc with hc | hc | ⟨z, hz, hc⟩
            · exact nb hc
            · exact Heap.not_old (Nat.le_refl _) (by rw [hc]; exact h.row.old.2)
            · obtain ⟨j, hj, rfl⟩ := List.getElem_of_mem hz
              exact Heap.not_old (Nat.le_refl _) ((h.row.dev j hj).foot_old _ hc))).trans gA)
          obtain ⟨v, K2, e4, rfl, y', n4⟩ := rwrite_all (k1.rep.row.dev i hi) (by have := g.le; omega) n x lf m
          rw [hc] at e4
          simp only [e1, l0, lp, hi1, e2, e3, l0', lp', ld, e4, Nat.mul_one, Aa, Ab, Ad, Ae, Af, Ag, Ah, Ai, Aj, Ak, Al, Ao, Ap, Aq, Ar, Au, sO_p, sO_r, sO_m, sO_a, sO_c, Av, Aw, Ax, Ay, Az, sE_p, sE_r, sE_m, sE_a, sE_c, A0, A2, A3, A4, A5, A6, A7, A8, A9, Ba, Bb, Bc, Bd, Be, Bf, Bg, Bh, Bi, Bj, Bl, Bm, Bo, Bp, Bq, Br, Bs, Bt, Bu, Bv, Tr.getP_e, Bw, Bx, ↓reduceIte, Nat.reduceEqDiff, Nat.reduceAdd, Nat.reduceSub, Nat.reduceMul, Nat.reduceDiv, Nat.reduceMod, Nat.zero_add, Nat.add_zero, beq_self_eq_true, Nat.zero_ne_one, Nat.one_ne_zero, Nat.reduceLeDiff, Int.reduceBEq, constF, unF, unary,  pickF, nilcF, faddrF, fldF, iaddrSF, arF, Bz, B3, B4, B5, B6, B7, convF, extF, lenF, eqcF, eqnF, eqN, eqPtr, isNone, loadF, storeF, allocF, callF, gets, Option.map_some, Option.bind_some, B8, B9, Ca, Cb, Cc, nbeq, nble, Cd, Ce, Cf, Cg, Ch, Ci, Cj, Ck, Cl, Cm, Cn, Co, Cp, Cq, Cr, Cs, Ct, Cu, Cv, Cw, Cx, V.w, width, unc, cmpCells, Cy, Cz, C6, C7, C8, Da, undef, List.append_nil, List.nil_append, List.cons_append, Db, Dc, resultsV, result, tup, Dd, Bool.and_true, Bool.true_and, Bool.and_self, decide_true, decide_false, Bool.not_true, Bool.not_false, Bool.true_beq, Bool.false_beq, beq_iff_eq, reduceCtorEq, Nat.succ_eq_add_one, ptr0, Int.ofNat_eq_natCast, Int.ofNat_le, Int.ofNat_lt, Int.natCast_add, De, Df, Dg, Dh, Di, List.map_cons, List.map_nil, Dj, Heap.next_add, Heap.next_set, boxF, buildF, fill, bsliceF, fillRows, List.replicate_one, Dk, Dl, Dm, Dn, Dp, Dq, Dr, Ds, Dt, Du, Dw, Dx, Dy, Dz, D2, D3, D4, D5, D6, D7, D8, D9, Ea, Eb, Ec, appF, List.length_cons, List.length_nil]
          rw [endD_ok (by kernel_rfl) (by kernel_rfl)]
          simp only [Aa, Ab, Ad, Ae, Af, Ag, Ah, Ai, Aj, Ak, Al, Ao, Ap, Aq, Ar, Au, sO_p, sO_r, sO_m, sO_a, sO_c, Av, Aw, Ax, Ay, Az, sE_p, sE_r, sE_m, sE_a, sE_c, A0, A2, A3, A4, A5, A6, A7, A8, A9, Ba, Bb, Bc, Bd, Be, Bf, Bg, Bh, Bi, Bj, Bl, Bm, Bo, Bp, Bq, Br, Bs, Bt, Bu, Bv, Tr.getP_e, Bw, Bx, ↓reduceIte, Nat.reduceEqDiff, Nat.reduceAdd, Nat.reduceSub, Nat.reduceMul, Nat.reduceDiv, Nat.reduceMod, Nat.zero_add, Nat.add_zero, beq_self_eq_true, Nat.zero_ne_one, Nat.one_ne_zero, Nat.reduceLeDiff, Int.reduceBEq, constF, unF, unary,  pickF, nilcF, faddrF, fldF, iaddrSF, arF, Bz, B3, B4, B5, B6, B7, convF, extF, lenF, eqcF, eqnF, eqN, eqPtr, isNone, loadF, storeF, allocF, callF, gets, Option.map_some, Option.bind_some, B8, B9, Ca, Cb, Cc, nbeq, nble, Cd, Ce, Cf, Cg, Ch, Ci, Cj, Ck, Cl, Cm, Cn, Co, Cp, Cq, Cr, Cs, Ct, Cu, Cv, Cw, Cx, V.w, width, unc, cmpCells, Cy, Cz, C6, C7, C8, Da, undef, List.append_nil, List.nil_append, List.cons_append, Db, Dc, resultsV, result, tup, Dd, Bool.and_true, Bool.true_and, Bool.and_self, decide_true, decide_false, Bool.not_true, Bool.not_false, Bool.true_beq, Bool.false_beq, beq_iff_eq, reduceCtorEq, Nat.succ_eq_add_one, ptr0, Int.ofNat_eq_natCast, Int.ofNat_le, Int.ofNat_lt, Int.natCast_add, De, Df, Dg, Dh, Di, List.map_cons, List.map_nil, Dj, Heap.next_add, Heap.next_set, boxF, buildF, fill, bsliceF, fillRows, List.replicate_one, Dk, Dl, Dm, Dn, Dp, Dq, Dr, Ds, Dt, Du, Dw, Dx, Dy, Dz, D2, D3, D4, D5, D6, D7, D8, D9, Ea, Eb, Ec, appF, List.length_cons, List.length_nil]
          exact ⟨trivial, .inr trivial, _, rfl, rfl, _, RNext.before t1 (k1.trans (k1.rep.dev hi n4))⟩
      · have hw : B.write (i : Int) n x = B := if_neg (by rw [hrc]; exact hc)
        have hwc : B.wc (i : Int) n = code l[i].D n := by rw [← hrc]; exact if_neg (by rw [hrc]; exact hc)
        have hz : (code l[i].D n == 0) = false := by simp; exact hc
        rw [hw, hwc]
        simp only [e1, l0, lp, hi1, e2, hz, Nat.mul_one, Aa, Ab, Ad, Ae, Af, Ag, Ah, Ai, Aj, Ak, Al, Ao, Ap, Aq, Ar, Au, sO_p, sO_r, sO_m, sO_a, sO_c, Av, Aw, Ax, Ay, Az, sE_p, sE_r, sE_m, sE_a, sE_c, A0, A2, A3, A4, A5, A6, A7, A8, A9, Ba, Bb, Bc, Bd, Be, Bf, Bg, Bh, Bi, Bj, Bl, Bm, Bo, Bp, Bq, Br, Bs, Bt, Bu, Bv, Tr.getP_e, Bw, Bx, ↓reduceIte, Nat.reduceEqDiff, Nat.reduceAdd, Nat.reduceSub, Nat.reduceMul, Nat.reduceDiv, Nat.reduceMod, Nat.zero_add, Nat.add_zero, beq_self_eq_true, Nat.zero_ne_one, Nat.one_ne_zero, Nat.reduceLeDiff, Int.reduceBEq, constF, unF, unary,  pickF, nilcF, faddrF, fldF, iaddrSF, arF, Bz, B3, B4, B5, B6, B7, convF, extF, lenF, eqcF, eqnF, eqN, eqPtr, isNone, loadF, storeF, allocF, callF, gets, Option.map_some, Option.bind_some, B8, B9, Ca, Cb, Cc, nbeq, nble, Cd, Ce, Cf, Cg, Ch, Ci, Cj, Ck, Cl, Cm, Cn, Co, Cp, Cq, Cr, Cs, Ct, Cu, Cv, Cw, Cx, V.w, width, unc, cmpCells, Cy, Cz, C6, C7, C8, Da, undef, List.append_nil, List.nil_append, List.cons_append, Db, Dc, resultsV, result, tup, Dd, Bool.and_true, Bool.true_and, Bool.and_self, decide_true, decide_false, Bool.not_true, Bool.not_false, Bool.true_beq, Bool.false_beq, beq_iff_eq, reduceCtorEq, Nat.succ_eq_add_one, ptr0, Int.ofNat_eq_natCast, Int.ofNat_le, Int.ofNat_lt, Int.natCast_add, De, Df, Dg, Dh, Di, List.map_cons, List.map_nil, Dj, Heap.next_add, Heap.next_set, boxF, buildF, fill, bsliceF, fillRows, List.replicate_one, Dk, Dl, Dm, Dn, Dp, Dq, Dr, Ds, Dt, Du, Dw, Dx, Dy, Dz, D2, D3, D4, D5, D6, D7, D8, D9, Ea, Eb, Ec, appF, List.length_cons, List.length_nil]
        exact ⟨trivial, .inr trivial, _, rfl, rfl, l, h.idle t1⟩
    · rw [lc_tc hlc] at e; cases e
  · have hrc : B.rc d n = B.lc d := if_neg hlc
    have hw : B.write d n x = B := if_neg (by rw [hrc]; exact hlc)
    have hwc : B.wc d n = B.lc d := by rw [← hrc]; exact if_neg (by rw [hrc]; exact hlc)
    have hz : (B.lc d == 0) = false := by simp; exact hlc
    rw [hw, hwc]
    simp only [e1, hz, Aa, Ab, Ad, Ae, Af, Ag, Ah, Ai, Aj, Ak, Al, Ao, Ap, Aq, Ar, Au, sO_p, sO_r, sO_m, sO_a, sO_c, Av, Aw, Ax, Ay, Az, sE_p, sE_r, sE_m, sE_a, sE_c, A0, A2, A3, A4, A5, A6, A7, A8, A9, Ba, Bb, Bc, Bd, Be, Bf, Bg, Bh, Bi, Bj, Bl, Bm, Bo, Bp, Bq, Br, Bs, Bt, Bu, Bv, Tr.getP_e, Bw, Bx, ↓reduceIte, Nat.reduceEqDiff, Nat.reduceAdd, Nat.reduceSub, Nat.reduceMul, Nat.reduceDiv, Nat.reduceMod, Nat.zero_add, Nat.add_zero, beq_self_eq_true, Nat.zero_ne_one, Nat.one_ne_zero, Nat.reduceLeDiff, Int.reduceBEq, constF, unF, unary,  pickF, nilcF, faddrF, fldF, iaddrSF, arF, Bz, B3, B4, B5, B6, B7, convF, extF, lenF, eqcF, eqnF, eqN, eqPtr, isNone, loadF, storeF, allocF, callF, gets, Option.map_some, Option.bind_some, B8, B9, Ca, Cb, Cc, nbeq, nble, Cd, Ce, Cf, Cg, Ch, Ci, Cj, Ck, Cl, Cm, Cn, Co, Cp, Cq, Cr, Cs, Ct, Cu, Cv, Cw, Cx, V.w, width, unc, cmpCells, Cy, Cz, C6, C7, C8, Da, undef, List.append_nil, List.nil_append, List.cons_append, Db, Dc, resultsV, result, tup, Dd, Bool.and_true, Bool.true_and, Bool.and_self, decide_true, decide_false, Bool.not_true, Bool.not_false, Bool.true_beq, Bool.false_beq, beq_iff_eq, reduceCtorEq, Nat.succ_eq_add_one, ptr0, Int.ofNat_eq_natCast, Int.ofNat_le, Int.ofNat_lt, Int.natCast_add, De, Df, Dg, Dh, Di, List.map_cons, List.map_nil, Dj, Heap.next_add, Heap.next_set, boxF, buildF, fill, bsliceF, fillRows, List.replicate_one, Dk, Dl, Dm, Dn, Dp, Dq, Dr, Ds, Dt, Du, Dw, Dx, Dy, Dz, D2, D3, D4, D5, D6, D7, D8, D9, Ea, Eb, Ec, appF, List.length_cons, List.length_nil]
    exact ⟨trivial, .inr trivial, _, rfl, rfl, l, h.idle t1⟩

theorem rbflush (ha : 0 ≤ B.ar ∧ B.ar ≤ 9223372036854775807) (hs : 0 ≤ B.st ∧ B.st ≤ 100000) (d : Int) {lf : Nat} (hlf : 1000 < lf) (m : Nat) :
    ret (callS Try.prog S0 lf (m + 3) 90 [.ptr (some ⟨b, 0⟩), .int .i64 d] H) fun v H' => v = .int .i64 (B.wc d 0) ∧ ∃ l', RNext true H b ds so l H' l' (B.flush d) := by
  have e1 := rasks h d lf m
  refine ret_call rfl c90_eq ?_
  by_cases hlc : B.lc d = 0
  · rw [hlc] at e1
    rcases h.has d with ⟨i, hi, rfl, _, eD⟩ | e
    · have g := rgood h hg hi
      have hpos : 0 < l[i].D.S.length := List.length_pos_iff.2 g.ne
      have hcf : code l[i].D 0 = fcode l[i].D := by unfold code fcode; rw [if_neg (by omega)]
      have hrc : B.rc (i : Int) 0 = fcode l[i].D := by rw [← hcf, ← eD]; exact if_pos hlc
      have l0 := rload0 h
      have lp := h.loadPtr hi
      have d2 := load2 (h.row.dev i hi)
      have hi1 : i + 1 ≤ l.length := hi
      cases hdd : l[i].D.dead with
      | true =>
        have hf : fcode l[i].D = 9 := if_pos hdd
        rw [hdd] at d2
        have hw : B.flush (i : Int) = B := if_neg (by rw [hrc, hf]; decide)
        have hwc : B.wc (i : Int) 0 = 9 := by rw [← hf, ← hrc]; exact if_neg (by rw [hrc, hf]; decide)
        rw [hw, hwc]
        simp only [c90, e1, l0, lp, hi1, d2, Nat.mul_one, Aa, Ab, Ad, Ae, Af, Ag, Ah, Ai, Aj, Ak, Al, Ao, Ap, Aq, Ar, Au, sO_p, sO_r, sO_m, sO_a, sO_c, Av, Aw, Ax, Ay, Az, sE_p, sE_r, sE_m, sE_a, sE_c, A0, A2, A3, A4, A5, A6, A7, A8, A9, Ba, Bb, Bc, Bd, Be, Bf, Bg, Bh, Bi, Bj, Bl, Bm, Bo, Bp, Bq, Br, Bs, Bt, Bu, Bv, Tr.getP_e, Bw, Bx, ↓reduceIte, Nat.reduceEqDiff, Nat.reduceAdd, Nat.reduceSub, Nat.reduceMul, Nat.reduceDiv, Nat.reduceMod, Nat.zero_add, Nat.add_zero, beq_self_eq_true, Nat.zero_ne_one, Nat.one_ne_zero, Nat.reduceLeDiff, Int.reduceBEq, constF, unF, unary,  pickF, nilcF, faddrF, fldF, iaddrSF, arF, Bz, B3, B4, B5, B6, B7, convF, extF, lenF, eqcF, eqnF, eqN, eqPtr, isNone, loadF, storeF, allocF, callF, gets, Option.map_some, Option.bind_some, B8, B9, Ca, Cb, Cc, nbeq, nble, Cd, Ce, Cf, Cg, Ch, Ci, Cj, Ck, Cl, Cm, Cn, Co, Cp, Cq, Cr, Cs, Ct, Cu, Cv, Cw, Cx, V.w, width, unc, cmpCells, Cy, Cz, C6, C7, C8, Da, undef, List.append_nil, List.nil_append, List.cons_append, Db, Dc, resultsV, result, tup, Dd, Bool.and_true, Bool.true_and, Bool.and_self, decide_true, decide_false, Bool.not_true, Bool.not_false, Bool.true_beq, Bool.false_beq, beq_iff_eq, reduceCtorEq, Nat.succ_eq_add_one, ptr0, Int.ofNat_eq_natCast, Int.ofNat_le, Int.ofNat_lt, Int.natCast_add, De, Df, Dg, Dh, Di, List.map_cons, List.map_nil, Dj, Heap.next_add, Heap.next_set, boxF, buildF, fill, bsliceF, fillRows, List.replicate_one, Dk, Dl, Dm, Dn, Dp, Dq, Dr, Ds, Dt, Du, Dw, Dx, Dy, Dz, D2, D3, D4, D5, D6, D7, D8, D9, Ea, Eb, Ec, appF, List.length_cons, List.length_nil]
        exact ⟨trivial, .inr trivial, _, rfl, rfl, l, h.idle (Turns.refl Z H)⟩
      | false =>
        have hf : fcode l[i].D = 0 := if_neg (by rw [hdd]; decide)
        rw [hdd] at d2
        have hw : B.flush (i : Int) = B.step (i : Int) l[i].D.flush := by rw [← eD]; exact if_pos (by rw [hrc, hf])
        have hwc : B.wc (i : Int) 0 = B.sc := if_pos (by rw [hrc, hf])
        rw [hw, hwc]
        obtain ⟨K1, e3, hs3⟩ := rstep h ha hs lf (m + 1)
        change callS Try.prog S0 lf (m + 2) 134 _ _ = _ at e3
        rcases hs3 with ⟨h1, k1⟩ | ⟨h1, k1⟩
        · rw [show B.sc = 8 from if_pos h1] at e3 ⊢
          have est : B.step (i : Int) l[i].D.flush = { B with dk := true } := if_pos h1
          rw [est]
          simp only [c90, e1, l0, lp, hi1, d2, e3, Nat.mul_one, Aa, Ab, Ad, Ae, Af, Ag, Ah, Ai, Aj, Ak, Al, Ao, Ap, Aq, Ar, Au, sO_p, sO_r, sO_m, sO_a, sO_c, Av, Aw, Ax, Ay, Az, sE_p, sE_r, sE_m, sE_a, sE_c, A0, A2, A3, A4, A5, A6, A7, A8, A9, Ba, Bb, Bc, Bd, Be, Bf, Bg, Bh, Bi, Bj, Bl, Bm, Bo, Bp, Bq, Br, Bs, Bt, Bu, Bv, Tr.getP_e, Bw, Bx, ↓reduceIte, Nat.reduceEqDiff, Nat.reduceAdd, Nat.reduceSub, Nat.reduceMul, Nat.reduceDiv, Nat.reduceMod, Nat.zero_add, Nat.add_zero, beq_self_eq_true, Nat.zero_ne_one, Nat.one_ne_zero, Nat.reduceLeDiff, Int.reduceBEq, constF, unF, unary,  pickF, nilcF, faddrF, fldF, iaddrSF, arF, Bz, B3, B4, B5, B6, B7, convF, extF, lenF, eqcF, eqnF, eqN, eqPtr, isNone, loadF, storeF, allocF, callF, gets, Option.map_some, Option.bind_some, B8, B9, Ca, Cb, Cc, nbeq, nble, Cd, Ce, Cf, Cg, Ch, Ci, Cj, Ck, Cl, Cm, Cn, Co, Cp, Cq, Cr, Cs, Ct, Cu, Cv, Cw, Cx, V.w, width, unc, cmpCells, Cy, Cz, C6, C7, C8, Da, undef, List.append_nil, List.nil_append, List.cons_append, Db, Dc, resultsV, result, tup, Dd, Bool.and_true, Bool.true_and, Bool.and_self, decide_true, decide_false, Bool.not_true, Bool.not_false, Bool.true_beq, Bool.false_beq, beq_iff_eq, reduceCtorEq, Nat.succ_eq_add_one, ptr0, Int.ofNat_eq_natCast, Int.ofNat_le, Int.ofNat_lt, Int.natCast_add, De, Df, Dg, Dh, Di, List.map_cons, List.map_nil, Dj, Heap.next_add, Heap.next_set, boxF, buildF, fill, bsliceF, fillRows, List.replicate_one, Dk, Dl, Dm, Dn, Dp, Dq, Dr, Ds, Dt, Du, Dw, Dx, Dy, Dz, D2, D3, D4, D5, D6, D7, D8, D9, Ea, Eb, Ec, appF, List.length_cons, List.length_nil]
          exact ⟨trivial, .inr trivial, _, rfl, rfl, l, k1⟩
        · rw [show B.sc = 0 from if_neg h1] at e3 ⊢
          have est : B.step (i : Int) l[i].D.flush = (⟨B.l, B.st + 1, arLess B.ar, B.dk⟩ : Bn).setd (i : Int) l[i].D.flush := if_neg h1
          rw [est]
          have l0' := rload0 k1.rep
          have lp' := k1.rep.loadPtr hi
          obtain ⟨v, K2, e4, rfl, y', n4⟩ := rflush_all (k1.rep.row.dev i hi) g.ok (by have := g.le; omega) (lf := lf) (by have := g.le; omega) (m + 1)
          change callS Try.prog S0 lf (m + 2) 76 _ _ = _ at e4
          rw [hf] at e4
          simp only [c90, e1, l0, lp, hi1, d2, e3, l0', lp', e4, Nat.mul_one, Aa, Ab, Ad, Ae, Af, Ag, Ah, Ai, Aj, Ak, Al, Ao, Ap, Aq, Ar, Au, sO_p, sO_r, sO_m, sO_a, sO_c, Av, Aw, Ax, Ay, Az, sE_p, sE_r, sE_m, sE_a, sE_c, A0, A2, A3, A4, A5, A6, A7, A8, A9, Ba, Bb, Bc, Bd, Be, Bf, Bg, Bh, Bi, Bj, Bl, Bm, Bo, Bp, Bq, Br, Bs, Bt, Bu, Bv, Tr.getP_e, Bw, Bx, ↓reduceIte, Nat.reduceEqDiff, Nat.reduceAdd, Nat.reduceSub, Nat.reduceMul, Nat.reduceDiv, Nat.reduceMod, Nat.zero_add, Nat.add_zero, beq_self_eq_true, Nat.zero_ne_one, Nat.one_ne_zero, Nat.reduceLeDiff, Int.reduceBEq, constF, unF, unary,  pickF, nilcF, faddrF, fldF, iaddrSF, arF, Bz, B3, B4, B5, B6, B7, convF, extF, lenF, eqcF, eqnF, eqN, eqPtr, isNone, loadF, storeF, allocF, callF, gets, Option.map_some, Option.bind_some, B8, B9, Ca, Cb, Cc, nbeq, nble, Cd, Ce, Cf, Cg, Ch, Ci, Cj, Ck, Cl, Cm, Cn, Co, Cp, Cq, Cr, Cs, Ct, Cu, Cv, Cw, Cx, V.w, width, unc, cmpCells, Cy, Cz, C6, C7, C8, Da, undef, List.append_nil, List.nil_append, List.cons_append, Db, Dc, resultsV, result, tup, Dd, Bool.and_true, Bool.true_and, Bool.and_self, decide_true, decide_false, Bool.not_true, Bool.not_false, Bool.true_beq, Bool.false_beq, beq_iff_eq, reduceCtorEq, Nat.succ_eq_add_one, ptr0, Int.ofNat_eq_natCast, Int.ofNat_le, Int.ofNat_lt, Int.natCast_add, De, Df, Dg, Dh, Di, List.map_cons, List.map_nil, Dj, Heap.next_add, Heap.next_set, boxF, buildF, fill, bsliceF, fillRows, List.replicate_one, Dk, Dl, Dm, Dn, Dp, Dq, Dr, Ds, Dt, Du, Dw, Dx, Dy, Dz, D2, D3, D4, D5, D6, D7, D8, D9, Ea, Eb, Ec, appF, List.length_cons, List.length_nil]
          exact ⟨trivial, .inr trivial, _, rfl, rfl, _, k1.trans (k1.rep.dev hi n4)⟩
    · rw [lc_tc hlc] at e; cases e
  · have hrc : B.rc d 0 = B.lc d := if_neg hlc
    have hw : B.flush d = B := if_neg (by rw [hrc]; exact hlc)
    have hwc : B.wc d 0 = B.lc d := by rw [← hrc]; exact if_neg (by rw [hrc]; exact hlc)
    have hz : (B.lc d == 0) = false := by simp; exact hlc
    rw [hw, hwc]
    simp only [c90, e1, hz, Aa, Ab, Ad, Ae, Af, Ag, Ah, Ai, Aj, Ak, Al, Ao, Ap, Aq, Ar, Au, sO_p, sO_r, sO_m, sO_a, sO_c, Av, Aw, Ax, Ay, Az, sE_p, sE_r, sE_m, sE_a, sE_c, A0, A2, A3, A4, A5, A6, A7, A8, A9, Ba, Bb, Bc, Bd, Be, Bf, Bg, Bh, Bi, Bj, Bl, Bm, Bo, Bp, Bq, Br, Bs, Bt, Bu, Bv, Tr.getP_e, Bw, Bx, ↓reduceIte, Nat.reduceEqDiff, Nat.reduceAdd, Nat.reduceSub, Nat.reduceMul, Nat.reduceDiv, Nat.reduceMod, Nat.zero_add, Nat.add_zero, beq_self_eq_true, Nat.zero_ne_one, Nat.one_ne_zero, Nat.reduceLeDiff, Int.reduceBEq, constF, unF, unary,  pickF, nilcF, faddrF, fldF, iaddrSF, arF, Bz, B3, B4, B5, B6, B7, convF, extF, lenF, eqcF, eqnF, eqN, eqPtr, isNone, loadF, storeF, allocF, callF, gets, Option.map_some, Option.bind_some, B8, B9, Ca, Cb, Cc, nbeq, nble, Cd, Ce, Cf, Cg, Ch, Ci, Cj, Ck, Cl, Cm, Cn, Co, Cp, Cq, Cr, Cs, Ct, Cu, Cv, Cw, Cx, V.w, width, unc, cmpCells, Cy, Cz, C6, C7, C8, Da, undef, List.append_nil, List.nil_append, List.cons_append, Db, Dc, resultsV, result, tup, Dd, Bool.and_true, Bool.true_and, Bool.and_self, decide_true, decide_false, Bool.not_true, Bool.not_false, Bool.true_beq, Bool.false_beq, beq_iff_eq, reduceCtorEq, Nat.succ_eq_add_one, ptr0, Int.ofNat_eq_natCast, Int.ofNat_le, Int.ofNat_lt, Int.natCast_add, De, Df, Dg, Dh, Di, List.map_cons, List.map_nil, Dj, Heap.next_add, Heap.next_set, boxF, buildF, fill, bsliceF, fillRows, List.replicate_one, Dk, Dl, Dm, Dn, Dp, Dq, Dr, Ds, Dt, Du, Dw, Dx, Dy, Dz, D2, D3, D4, D5, D6, D7, D8, D9, Ea, Eb, Ec, appF, List.length_cons, List.length_nil]
    exact ⟨trivial, .inr trivial, _, rfl, rfl, l, h.idle (Turns.refl Z H)⟩

theorem rbfail (d : Int) (lf m : Nat) :
    ret (callS Try.prog S0 lf (m + 2) 91 [.ptr (some ⟨b, 0⟩), .int .i64 d] H) fun v H' => v = .int .i64 (B.tc d) ∧ ∃ l', RNext true H b ds so l H' l' (B.fail d) := by
  have e1 := rhas h d lf m
  refine ret_call rfl c91_eq ?_
  rcases h.has d with ⟨i, hi, rfl, e, eD⟩ | e
  · have hw : B.fail (i : Int) = B.setd (i : Int) l[i].D.fail := by rw [← eD]; exact if_pos e
    rw [hw]
    rw [e] at e1 ⊢
    have l0 := rload0 h
    have lp := h.loadPtr hi
    have hi1 : i + 1 ≤ l.length := hi
    obtain ⟨v, H', e2, y', k⟩ := rfail_ok (h.row.dev i hi) lf m
    simp only [c91, e1, l0, lp, hi1, e2, Nat.mul_one, Aa, Ab, Ad, Ae, Af, Ag, Ah, Ai, Aj, Ak, Al, Ao, Ap, Aq, Ar, Au, sO_p, sO_r, sO_m, sO_a, sO_c, Av, Aw, Ax, Ay, Az, sE_p, sE_r, sE_m, sE_a, sE_c, A0, A2, A3, A4, A5, A6, A7, A8, A9, Ba, Bb, Bc, Bd, Be, Bf, Bg, Bh, Bi, Bj, Bl, Bm, Bo, Bp, Bq, Br, Bs, Bt, Bu, Bv, Tr.getP_e, Bw, Bx, ↓reduceIte, Nat.reduceEqDiff, Nat.reduceAdd, Nat.reduceSub, Nat.reduceMul, Nat.reduceDiv, Nat.reduceMod, Nat.zero_add, Nat.add_zero, beq_self_eq_true, Nat.zero_ne_one, Nat.one_ne_zero, Nat.reduceLeDiff, Int.reduceBEq, constF, unF, unary,  pickF, nilcF, faddrF, fldF, iaddrSF, arF, Bz, B3, B4, B5, B6, B7, convF, extF, lenF, eqcF, eqnF, eqN, eqPtr, isNone, loadF, storeF, allocF, callF, gets, Option.map_some, Option.bind_some, B8, B9, Ca, Cb, Cc, nbeq, nble, Cd, Ce, Cf, Cg, Ch, Ci, Cj, Ck, Cl, Cm, Cn, Co, Cp, Cq, Cr, Cs, Ct, Cu, Cv, Cw, Cx, V.w, width, unc, cmpCells, Cy, Cz, C6, C7, C8, Da, undef, List.append_nil, List.nil_append, List.cons_append, Db, Dc, resultsV, result, tup, Dd, Bool.and_true, Bool.true_and, Bool.and_self, decide_true, decide_false, Bool.not_true, Bool.not_false, Bool.true_beq, Bool.false_beq, beq_iff_eq, reduceCtorEq, Nat.succ_eq_add_one, ptr0, Int.ofNat_eq_natCast, Int.ofNat_le, Int.ofNat_lt, Int.natCast_add, De, Df, Dg, Dh, Di, List.map_cons, List.map_nil, Dj, Heap.next_add, Heap.next_set, boxF, buildF, fill, bsliceF, fillRows, List.replicate_one, Dk, Dl, Dm, Dn, Dp, Dq, Dr, Ds, Dt, Du, Dw, Dx, Dy, Dz, D2, D3, D4, D5, D6, D7, D8, D9, Ea, Eb, Ec, appF, List.length_cons, List.length_nil]
    exact ⟨trivial, .inr trivial, _, rfl, rfl, _, h.dev hi k⟩
  · have hw : B.fail d = B := if_neg (by rw [e]; decide)
    rw [hw]
    rw [e] at e1 ⊢
    have z : ((2 : Int) == 0) = false := rfl
    rw [z] at e1
    simp only [c91, e1, Aa, Ab, Ad, Ae, Af, Ag, Ah, Ai, Aj, Ak, Al, Ao, Ap, Aq, Ar, Au, sO_p, sO_r, sO_m, sO_a, sO_c, Av, Aw, Ax, Ay, Az, sE_p, sE_r, sE_m, sE_a, sE_c, A0, A2, A3, A4, A5, A6, A7, A8, A9, Ba, Bb, Bc, Bd, Be, Bf, Bg, Bh, Bi, Bj, Bl, Bm, Bo, Bp, Bq, Br, Bs, Bt, Bu, Bv, Tr.getP_e, Bw, Bx, ↓reduceIte, Nat.reduceEqDiff, Nat.reduceAdd, Nat.reduceSub, Nat.reduceMul, Nat.reduceDiv, Nat.reduceMod, Nat.zero_add, Nat.add_zero, beq_self_eq_true, Nat.zero_ne_one, Nat.one_ne_zero, Nat.reduceLeDiff, Int.reduceBEq, constF, unF, unary,  pickF, nilcF, faddrF, fldF, iaddrSF, arF, Bz, B3, B4, B5, B6, B7, convF, extF, lenF, eqcF, eqnF, eqN, eqPtr, isNone, loadF, storeF, allocF, callF, gets, Option.map_some, Option.bind_some, B8, B9, Ca, Cb, Cc, nbeq, nble, Cd, Ce, Cf, Cg, Ch, Ci, Cj, Ck, Cl, Cm, Cn, Co, Cp, Cq, Cr, Cs, Ct, Cu, Cv, Cw, Cx, V.w, width, unc, cmpCells, Cy, Cz, C6, C7, C8, Da, undef, List.append_nil, List.nil_append, List.cons_append, Db, Dc, resultsV, result, tup, Dd, Bool.and_true, Bool.true_and, Bool.and_self, decide_true, decide_false, Bool.not_true, Bool.not_false, Bool.true_beq, Bool.false_beq, beq_iff_eq, reduceCtorEq, Nat.succ_eq_add_one, ptr0, Int.ofNat_eq_natCast, Int.ofNat_le, Int.ofNat_lt, Int.natCast_add, De, Df, Dg, Dh, Di, List.map_cons, List.map_nil, Dj, Heap.next_add, Heap.next_set, boxF, buildF, fill, bsliceF, fillRows, List.replicate_one, Dk, Dl, Dm, Dn, Dp, Dq, Dr, Ds, Dt, Du, Dw, Dx, Dy, Dz, D2, D3, D4, D5, D6, D7, D8, D9, Ea, Eb, Ec, appF, List.length_cons, List.length_nil]
    exact ⟨trivial, .inr trivial, _, rfl, rfl, l, h.idle (Turns.refl Z H)⟩

theorem rbrot (d n j : Int) {x : Nat} (hx : x < 256) (lf m : Nat) :
    ret (callS Try.prog S0 lf (m + 2) 97 [.ptr (some ⟨b, 0⟩), .int .i64 d, .int .i64 n, .int .i64 j, .int .u8 (x : Int)] H) fun v H' => v = .int .i64 (B.oc d n j) ∧ ∃ l', RNext true H b ds so l H' l' (B.rot d n j x) := by
  have e1 := rhas h d lf m
  refine ret_call rfl c97_eq ?_
  rcases h.has d with ⟨i, hi, rfl, e, eD⟩ | e
  · have hw : B.rot (i : Int) n j x = B.setd (i : Int) (l[i].D.rot n j x) := by rw [← eD]; exact if_pos e
    have hc : B.oc (i : Int) n j = rcode l[i].D n j := by rw [← eD]; exact if_pos e
    rw [hw, hc]
    rw [e] at e1
    have l0 := rload0 h
    have lp := h.loadPtr hi
    have hi1 : i + 1 ≤ l.length := hi
    obtain ⟨v, H', e2, rfl, y', k⟩ := rrot_all (h.row.dev i hi) n j hx lf m
    simp only [c97, e1, l0, lp, hi1, e2, Nat.mul_one, Aa, Ab, Ad, Ae, Af, Ag, Ah, Ai, Aj, Ak, Al, Ao, Ap, Aq, Ar, Au, sO_p, sO_r, sO_m, sO_a, sO_c, Av, Aw, Ax, Ay, Az, sE_p, sE_r, sE_m, sE_a, sE_c, A0, A2, A3, A4, A5, A6, A7, A8, A9, Ba, Bb, Bc, Bd, Be, Bf, Bg, Bh, Bi, Bj, Bl, Bm, Bo, Bp, Bq, Br, Bs, Bt, Bu, Bv, Tr.getP_e, Bw, Bx, ↓reduceIte, Nat.reduceEqDiff, Nat.reduceAdd, Nat.reduceSub, Nat.reduceMul, Nat.reduceDiv, Nat.reduceMod, Nat.zero_add, Nat.add_zero, beq_self_eq_true, Nat.zero_ne_one, Nat.one_ne_zero, Nat.reduceLeDiff, Int.reduceBEq, constF, unF, unary,  pickF, nilcF, faddrF, fldF, iaddrSF, arF, Bz, B3, B4, B5, B6, B7, convF, extF, lenF, eqcF, eqnF, eqN, eqPtr, isNone, loadF, storeF, allocF, callF, gets, Option.map_some, Option.bind_some, B8, B9, Ca, Cb, Cc, nbeq, nble, Cd, Ce, Cf, Cg, Ch, Ci, Cj, Ck, Cl, Cm, Cn, Co, Cp, Cq, Cr, Cs, Ct, Cu, Cv, Cw, Cx, V.w, width, unc, cmpCells, Cy, Cz, C6, C7, C8, Da, undef, List.append_nil, List.nil_append, List.cons_append, Db, Dc, resultsV, result, tup, Dd, Bool.and_true, Bool.true_and, Bool.and_self, decide_true, decide_false, Bool.not_true, Bool.not_false, Bool.true_beq, Bool.false_beq, beq_iff_eq, reduceCtorEq, Nat.succ_eq_add_one, ptr0, Int.ofNat_eq_natCast, Int.ofNat_le, Int.ofNat_lt, Int.natCast_add, De, Df, Dg, Dh, Di, List.map_cons, List.map_nil, Dj, Heap.next_add, Heap.next_set, boxF, buildF, fill, bsliceF, fillRows, List.replicate_one, Dk, Dl, Dm, Dn, Dp, Dq, Dr, Ds, Dt, Du, Dw, Dx, Dy, Dz, D2, D3, D4, D5, D6, D7, D8, D9, Ea, Eb, Ec, appF, List.length_cons, List.length_nil]
    exact ⟨trivial, .inr trivial, _, rfl, rfl, _, h.dev hi k⟩
  · have hw : B.rot d n j x = B := if_neg (by rw [e]; decide)
    have hc : B.oc d n j = 2 := if_neg (by rw [e]; decide)
    rw [hw, hc]
    rw [e] at e1
    have z : ((2 : Int) == 0) = false := rfl
    rw [z] at e1
    simp only [c97, e1, Aa, Ab, Ad, Ae, Af, Ag, Ah, Ai, Aj, Ak, Al, Ao, Ap, Aq, Ar, Au, sO_p, sO_r, sO_m, sO_a, sO_c, Av, Aw, Ax, Ay, Az, sE_p, sE_r, sE_m, sE_a, sE_c, A0, A2, A3, A4, A5, A6, A7, A8, A9, Ba, Bb, Bc, Bd, Be, Bf, Bg, Bh, Bi, Bj, Bl, Bm, Bo, Bp, Bq, Br, Bs, Bt, Bu, Bv, Tr.getP_e, Bw, Bx, ↓reduceIte, Nat.reduceEqDiff, Nat.reduceAdd, Nat.reduceSub, Nat.reduceMul, Nat.reduceDiv, Nat.reduceMod, Nat.zero_add, Nat.add_zero, beq_self_eq_true, Nat.zero_ne_one, Nat.one_ne_zero, Nat.reduceLeDiff, Int.reduceBEq, constF, unF, unary,  pickF, nilcF, faddrF, fldF, iaddrSF, arF, Bz, B3, B4, B5, B6, B7, convF, extF, lenF, eqcF, eqnF, eqN, eqPtr, isNone, loadF, storeF, allocF, callF, gets, Option.map_some, Option.bind_some, B8, B9, Ca, Cb, Cc, nbeq, nble, Cd, Ce, Cf, Cg, Ch, Ci, Cj, Ck, Cl, Cm, Cn, Co, Cp, Cq, Cr, Cs, Ct, Cu, Cv, Cw, Cx, V.w, width, unc, cmpCells, Cy, Cz, C6, C7, C8, Da, undef, List.append_nil, List.nil_append, List.cons_append, Db, Dc, resultsV, result, tup, Dd, Bool.and_true, Bool.true_and, Bool.and_self, decide_true, decide_false, Bool.not_true, Bool.not_false, Bool.true_beq, Bool.false_beq, beq_iff_eq, reduceCtorEq, Nat.succ_eq_add_one, ptr0, Int.ofNat_eq_natCast, Int.ofNat_le, Int.ofNat_lt, Int.natCast_add, De, Df, Dg, Dh, Di, List.map_cons, List.map_nil, Dj, Heap.next_add, Heap.next_set, boxF, buildF, fill, bsliceF, fillRows, List.replicate_one, Dk, Dl, Dm, Dn, Dp, Dq, Dr, Ds, Dt, Du, Dw, Dx, Dy, Dz, D2, D3, D4, D5, D6, D7, D8, D9, Ea, Eb, Ec, appF, List.length_cons, List.length_nil]
    exact ⟨trivial, .inr trivial, _, rfl, rfl, l, h.idle (Turns.refl Z H)⟩

theorem rbinsert (d : Int) (lf m : Nat) :
    ret (callS Try.prog S0 lf (m + 3) 92 [.ptr (some ⟨b, 0⟩), .int .i64 d] H) fun v H' => v = .int .i64 (B.ic d) ∧ ∃ l', RNext true H b ds so l H' l' (B.insert d) := by
  have e1 := rasks h d lf m
  refine ret_call rfl c92_eq ?_
  by_cases hlc : B.lc d = 0
  · rw [hlc] at e1
    rcases h.has d with ⟨i, hi, rfl, e, eD⟩ | e
    · have l0 := rload0 h
      have lp := h.loadPtr hi
      have hi1 : i + 1 ≤ l.length := hi
      have g := rgood h hg hi
      have d2 := load2 (h.row.dev i hi)
      have d0 := load0 (h.row.dev i hi)
      cases hdd : l[i].D.dead with
      | false =>
        have hic : B.ic (i : Int) = 17 := by unfold Bn.ic; rw [if_pos hlc, eD, if_neg (by rw [hdd]; decide)]
        have hin : B.insert (i : Int) = B := if_neg (by rw [hic]; decide)
        rw [hic, hin]
        rw [hdd] at d2
        simp only [c92, e1, l0, lp, hi1, d2, Nat.mul_one, Aa, Ab, Ad, Ae, Af, Ag, Ah, Ai, Aj, Ak, Al, Ao, Ap, Aq, Ar, Au, sO_p, sO_r, sO_m, sO_a, sO_c, Av, Aw, Ax, Ay, Az, sE_p, sE_r, sE_m, sE_a, sE_c, A0, A2, A3, A4, A5, A6, A7, A8, A9, Ba, Bb, Bc, Bd, Be, Bf, Bg, Bh, Bi, Bj, Bl, Bm, Bo, Bp, Bq, Br, Bs, Bt, Bu, Bv, Tr.getP_e, Bw, Bx, ↓reduceIte, Nat.reduceEqDiff, Nat.reduceAdd, Nat.reduceSub, Nat.reduceMul, Nat.reduceDiv, Nat.reduceMod, Nat.zero_add, Nat.add_zero, beq_self_eq_true, Nat.zero_ne_one, Nat.one_ne_zero, Nat.reduceLeDiff, Int.reduceBEq, constF, unF, unary,  pickF, nilcF, faddrF, fldF, iaddrSF, arF, Bz, B3, B4, B5, B6, B7, convF, extF, lenF, eqcF, eqnF, eqN, eqPtr, isNone, loadF, storeF, allocF, callF, gets, Option.map_some, Option.bind_some, B8, B9, Ca, Cb, Cc, nbeq, nble, Cd, Ce, Cf, Cg, Ch, Ci, Cj, Ck, Cl, Cm, Cn, Co, Cp, Cq, Cr, Cs, Ct, Cu, Cv, Cw, Cx, V.w, width, unc, cmpCells, Cy, Cz, C6, C7, C8, Da, undef, List.append_nil, List.nil_append, List.cons_append, Db, Dc, resultsV, result, tup, Dd, Bool.and_true, Bool.true_and, Bool.and_self, decide_true, decide_false, Bool.not_true, Bool.not_false, Bool.true_beq, Bool.false_beq, beq_iff_eq, reduceCtorEq, Nat.succ_eq_add_one, ptr0, Int.ofNat_eq_natCast, Int.ofNat_le, Int.ofNat_lt, Int.natCast_add, De, Df, Dg, Dh, Di, List.map_cons, List.map_nil, Dj, Heap.next_add, Heap.next_set, boxF, buildF, fill, bsliceF, fillRows, List.replicate_one, Dk, Dl, Dm, Dn, Dp, Dq, Dr, Ds, Dt, Du, Dw, Dx, Dy, Dz, D2, D3, D4, D5, D6, D7, D8, D9, Ea, Eb, Ec, appF, List.length_cons, List.length_nil]
        exact ⟨trivial, .inr trivial, _, rfl, rfl, l, h.idle (Turns.refl Z _)⟩
      | true =>
        have hic : B.ic (i : Int) = 0 := by unfold Bn.ic; rw [if_pos hlc, eD, if_pos hdd]
        have hin : B.insert (i : Int) = B.setd (i : Int) (blank l[i].D.S.length) := by rw [← eD]; exact if_pos hic
        rw [hic, hin]
        rw [hdd] at d2
        have hpos : 1 ≤ l[i].D.S.length := List.length_pos_iff.2 g.ne
        obtain ⟨v, H1, e4, rfl, hD, t⟩ := rnew_ok H (n := l[i].D.S.length) hpos g.len lf (m + 1)
        change callS Try.prog S0 lf (m + 2) 27 _ _ = _ at e4
        have hF : Fresh H (.run (H.next + 1)) ⟨.run H.next, 0, .run H.next, none, 0⟩ (blank l[i].D.S.length) := ⟨Heap.not_old (by omega), Heap.not_old (Nat.le_refl _), fun e => absurd rfl e⟩
        obtain ⟨s5, k⟩ := h.place hi t hD hF
        have l0' := rload0 (h.turns t)
        simp only [c92, e1, l0, lp, hi1, d2, d0, e4, l0', s5, Nat.mul_one, Aa, Ab, Ad, Ae, Af, Ag, Ah, Ai, Aj, Ak, Al, Ao, Ap, Aq, Ar, Au, sO_p, sO_r, sO_m, sO_a, sO_c, Av, Aw, Ax, Ay, Az, sE_p, sE_r, sE_m, sE_a, sE_c, A0, A2, A3, A4, A5, A6, A7, A8, A9, Ba, Bb, Bc, Bd, Be, Bf, Bg, Bh, Bi, Bj, Bl, Bm, Bo, Bp, Bq, Br, Bs, Bt, Bu, Bv, Tr.getP_e, Bw, Bx, ↓reduceIte, Nat.reduceEqDiff, Nat.reduceAdd, Nat.reduceSub, Nat.reduceMul, Nat.reduceDiv, Nat.reduceMod, Nat.zero_add, Nat.add_zero, beq_self_eq_true, Nat.zero_ne_one, Nat.one_ne_zero, Nat.reduceLeDiff, Int.reduceBEq, constF, unF, unary,  pickF, nilcF, faddrF, fldF, iaddrSF, arF, Bz, B3, B4, B5, B6, B7, convF, extF, lenF, eqcF, eqnF, eqN, eqPtr, isNone, loadF, storeF, allocF, callF, gets, Option.map_some, Option.bind_some, B8, B9, Ca, Cb, Cc, nbeq, nble, Cd, Ce, Cf, Cg, Ch, Ci, Cj, Ck, Cl, Cm, Cn, Co, Cp, Cq, Cr, Cs, Ct, Cu, Cv, Cw, Cx, V.w, width, unc, cmpCells, Cy, Cz, C6, C7, C8, Da, undef, List.append_nil, List.nil_append, List.cons_append, Db, Dc, resultsV, result, tup, Dd, Bool.and_true, Bool.true_and, Bool.and_self, decide_true, decide_false, Bool.not_true, Bool.not_false, Bool.true_beq, Bool.false_beq, beq_iff_eq, reduceCtorEq, Nat.succ_eq_add_one, ptr0, Int.ofNat_eq_natCast, Int.ofNat_le, Int.ofNat_lt, Int.natCast_add, De, Df, Dg, Dh, Di, List.map_cons, List.map_nil, Dj, Heap.next_add, Heap.next_set, boxF, buildF, fill, bsliceF, fillRows, List.replicate_one, Dk, Dl, Dm, Dn, Dp, Dq, Dr, Ds, Dt, Du, Dw, Dx, Dy, Dz, D2, D3, D4, D5, D6, D7, D8, D9, Ea, Eb, Ec, appF, List.length_cons, List.length_nil]
        exact ⟨trivial, .inr trivial, _, rfl, rfl, _, k⟩
    · rw [lc_tc hlc] at e; cases e
  · have hic : B.ic d = B.lc d := if_neg hlc
    have hin : B.insert d = B := if_neg (by rw [hic]; exact hlc)
    have hz : (B.lc d == 0) = false := by simp; exact hlc
    rw [hic, hin]
    simp only [c92, e1, hz, Aa, Ab, Ad, Ae, Af, Ag, Ah, Ai, Aj, Ak, Al, Ao, Ap, Aq, Ar, Au, sO_p, sO_r, sO_m, sO_a, sO_c, Av, Aw, Ax, Ay, Az, sE_p, sE_r, sE_m, sE_a, sE_c, A0, A2, A3, A4, A5, A6, A7, A8, A9, Ba, Bb, Bc, Bd, Be, Bf, Bg, Bh, Bi, Bj, Bl, Bm, Bo, Bp, Bq, Br, Bs, Bt, Bu, Bv, Tr.getP_e, Bw, Bx, ↓reduceIte, Nat.reduceEqDiff, Nat.reduceAdd, Nat.reduceSub, Nat.reduceMul, Nat.reduceDiv, Nat.reduceMod, Nat.zero_add, Nat.add_zero, beq_self_eq_true, Nat.zero_ne_one, Nat.one_ne_zero, Nat.reduceLeDiff, Int.reduceBEq, constF, unF, unary,  pickF, nilcF, faddrF, fldF, iaddrSF, arF, Bz, B3, B4, B5, B6, B7, convF, extF, lenF, eqcF, eqnF, eqN, eqPtr, isNone, loadF, storeF, allocF, callF, gets, Option.map_some, Option.bind_some, B8, B9, Ca, Cb, Cc, nbeq, nble, Cd, Ce, Cf, Cg, Ch, Ci, Cj, Ck, Cl, Cm, Cn, Co, Cp, Cq, Cr, Cs, Ct, Cu, Cv, Cw, Cx, V.w, width, unc, cmpCells, Cy, Cz, C6, C7, C8, Da, undef, List.append_nil, List.nil_append, List.cons_append, Db, Dc, resultsV, result, tup, Dd, Bool.and_true, Bool.true_and, Bool.and_self, decide_true, decide_false, Bool.not_true, Bool.not_false, Bool.true_beq, Bool.false_beq, beq_iff_eq, reduceCtorEq, Nat.succ_eq_add_one, ptr0, Int.ofNat_eq_natCast, Int.ofNat_le, Int.ofNat_lt, Int.natCast_add, De, Df, Dg, Dh, Di, List.map_cons, List.map_nil, Dj, Heap.next_add, Heap.next_set, boxF, buildF, fill, bsliceF, fillRows, List.replicate_one, Dk, Dl, Dm, Dn, Dp, Dq, Dr, Ds, Dt, Du, Dw, Dx, Dy, Dz, D2, D3, D4, D5, D6, D7, D8, D9, Ea, Eb, Ec, appF, List.length_cons, List.length_nil]
    exact ⟨trivial, .inr trivial, _, rfl, rfl, l, h.idle (Turns.refl Z _)⟩
end

end Go.Proofs.Ytcelngepfdchiaa.disk

