/-
  A bench in the machine's heap: its devices, its steps, at which step the power is cut.
-/
import Derived.Test.YtcelngepfdchiaaDisk7
set_option linter.unusedVariables false
set_option linter.unusedSimpArgs false
set_option maxRecDepth 10000
namespace Go.Proofs.Ytcelngepfdchiaa.disk
open Go.Am

/-- (*ashlar/bench.Bench).none -/
noncomputable def c83 : CFn := ⟨[.tmp (Tr.path 2)],
 .seq (.reg [
  ⟨(some (Tr.path 2)), (some (.p (S.get (.c (.bool false))))), none, []⟩]) (
 .seq (.reg [
  ⟨(some (Tr.path 3)), (some (.p (S.get (.t (Tr.path 0))))), none, [Tr.path 0]⟩,
  ⟨(some (Tr.path 4)), (some (.r (eqnF false .ptr (.t (Tr.path 3)) (.c (.ptr none))))), none, [Tr.path 3]⟩,
  ⟨(some (Tr.path 5)), (some (.p (S.get (.t (Tr.path 4))))), none, [Tr.path 4]⟩,
  ⟨(some (Tr.path 6)), (some (.p (S.get (.t (Tr.path 0))))), (some (some (Tr.path 5), false)), [Tr.path 0]⟩,
  ⟨(some (Tr.path 7)), (some (.p (nilcF (.t (Tr.path 6))))), (some (some (Tr.path 5), false)), [Tr.path 6]⟩,
  ⟨(some (Tr.path 8)), (some (.p (faddrF (.t (Tr.path 7)) 0))), (some (some (Tr.path 5), false)), [Tr.path 7]⟩,
  ⟨(some (Tr.path 9)), (some (.r (loadF (.t (Tr.path 8)) 1 .sc))), (some (some (Tr.path 5), false)), [Tr.path 8]⟩,
  ⟨(some (Tr.path 10)), (some (.p (lenF (.t (Tr.path 9))))), (some (some (Tr.path 5), false)), [Tr.path 9]⟩,
  ⟨(some (Tr.path 11)), (some (.p (eqcF false false [.int .i64] (.t (Tr.path 10)) (.c (.int .i64 0))))), (some (some (Tr.path 5), false)), [Tr.path 10]⟩,
  ⟨(some (Tr.path 12)), (some (.p (pickF (.t (Tr.path 5)) (.c (.bool true)) (.t (Tr.path 11))))), none, [Tr.path 5, Tr.path 11]⟩,
  ⟨(some (Tr.path 2)), (some (.p (S.get (.t (Tr.path 12))))), none, [Tr.path 12]⟩]) (
 .ret))⟩
theorem c83_eq : fnOf Try.prog 83 = some c83 := by kernel_rfl

/-- (*ashlar/bench.Bench).has -/
noncomputable def c132 : CFn := ⟨[.tmp (Tr.path 4)],
 .seq (.reg [
  ⟨(some (Tr.path 4)), (some (.p (S.get (.c (.bool false))))), none, []⟩]) (
 .seq (.reg [
  ⟨(some (Tr.path 5)), (some (.p (S.get (.t (Tr.path 1))))), none, [Tr.path 1]⟩,
  ⟨(some (Tr.path 6)), (some (.p (arF .geq (.t (Tr.path 5)) (.c (.int .i64 0))))), none, [Tr.path 5]⟩,
  ⟨(some (Tr.path 7)), (some (.p (S.get (.t (Tr.path 6))))), none, [Tr.path 6]⟩,
  ⟨(some (Tr.path 8)), (some (.p (S.get (.t (Tr.path 1))))), (some (some (Tr.path 7), true)), [Tr.path 1]⟩,
  ⟨(some (Tr.path 9)), (some (.p (S.get (.t (Tr.path 0))))), (some (some (Tr.path 7), true)), [Tr.path 0]⟩,
  ⟨(some (Tr.path 10)), (some (.p (nilcF (.t (Tr.path 9))))), (some (some (Tr.path 7), true)), [Tr.path 9]⟩,
  ⟨(some (Tr.path 11)), (some (.p (faddrF (.t (Tr.path 10)) 0))), (some (some (Tr.path 7), true)), [Tr.path 10]⟩,
  ⟨(some (Tr.path 12)), (some (.r (loadF (.t (Tr.path 11)) 1 .sc))), (some (some (Tr.path 7), true)), [Tr.path 11]⟩,
  ⟨(some (Tr.path 13)), (some (.p (lenF (.t (Tr.path 12))))), (some (some (Tr.path 7), true)), [Tr.path 12]⟩,
  ⟨(some (Tr.path 14)), (some (.p (arF .lss (.t (Tr.path 8)) (.t (Tr.path 13))))), (some (some (Tr.path 7), true)), [Tr.path 8, Tr.path 13]⟩,
  ⟨(some (Tr.path 15)), (some (.p (pickF (.t (Tr.path 7)) (.t (Tr.path 14)) (.c (.bool false))))), none, [Tr.path 7, Tr.path 14]⟩,
  ⟨(some (Tr.path 4)), (some (.p (S.get (.t (Tr.path 15))))), none, [Tr.path 15]⟩]) (
 .ret))⟩
theorem c132_eq : fnOf Try.prog 132 = some c132 := by kernel_rfl

/-- (*ashlar/bench.Bench).there -/
noncomputable def c87 : CFn := ⟨[.tmp (Tr.path 4)],
 .seq (.reg [
  ⟨(some (Tr.path 4)), (some (.p (S.get (.c (.int .i64 0))))), none, []⟩]) (
 .seq (.block 0 (.seq (.reg [
    ⟨(some (Tr.path 6)), (some (.p (S.get (.t (Tr.path 0))))), none, [Tr.path 0]⟩,
    ⟨(some (Tr.path 7)), (some (.c (callF (.c (.func (.func 83) [] [])) [(.t (Tr.path 6))]))), none, [Tr.path 6]⟩,
    ⟨(some (Tr.path 5)), (some (.p (S.get (.t (Tr.path 7))))), none, [Tr.path 7]⟩]) (
   .cond (.t (Tr.path 5)) (.seq (.reg [
      ⟨(some (Tr.path 4)), (some (.p (S.get (.c (.int .i64 1))))), none, []⟩]) (
     .ret)) (.seq (.reg [
      ⟨(some (Tr.path 9)), (some (.p (S.get (.t (Tr.path 0))))), none, [Tr.path 0]⟩,
      ⟨(some (Tr.path 10)), (some (.p (S.get (.t (Tr.path 1))))), none, [Tr.path 1]⟩,
      ⟨(some (Tr.path 11)), (some (.c (callF (.c (.func (.func 132) [] [])) [(.t (Tr.path 9)), (.t (Tr.path 10))]))), none, [Tr.path 9, Tr.path 10]⟩,
      ⟨(some (Tr.path 12)), (some (.p (unF .not (.t (Tr.path 11))))), none, [Tr.path 11]⟩,
      ⟨(some (Tr.path 8)), (some (.p (S.get (.t (Tr.path 12))))), none, [Tr.path 12]⟩]) (
     .cond (.t (Tr.path 8)) (.seq (.reg [
        ⟨(some (Tr.path 4)), (some (.p (S.get (.c (.int .i64 2))))), none, []⟩]) (
       .ret)) (.skip)))))) (
 .seq (.reg [
  ⟨(some (Tr.path 4)), (some (.p (S.get (.c (.int .i64 0))))), none, []⟩]) (
 .ret)))⟩
theorem c87_eq : fnOf Try.prog 87 = some c87 := by kernel_rfl

/-- (*ashlar/bench.Bench).lit -/
noncomputable def c86 : CFn := ⟨[.tmp (Tr.path 4)],
 .seq (.reg [
  ⟨(some (Tr.path 4)), (some (.p (S.get (.c (.int .i64 0))))), none, []⟩]) (
 .seq (.seq (.reg [
   ⟨(some (Tr.path 5)), (some (.p (S.get (.t (Tr.path 0))))), none, [Tr.path 0]⟩,
   ⟨(some (Tr.path 6)), (some (.c (callF (.c (.func (.func 83) [] [])) [(.t (Tr.path 5))]))), none, [Tr.path 5]⟩,
   ⟨(some (Tr.path 7)), (some (.p (unF .not (.t (Tr.path 6))))), none, [Tr.path 6]⟩,
   ⟨(some (Tr.path 8)), (some (.p (S.get (.t (Tr.path 7))))), none, [Tr.path 7]⟩,
   ⟨(some (Tr.path 9)), (some (.p (S.get (.t (Tr.path 0))))), (some (some (Tr.path 8), true)), [Tr.path 0]⟩,
   ⟨(some (Tr.path 10)), (some (.p (nilcF (.t (Tr.path 9))))), (some (some (Tr.path 8), true)), [Tr.path 9]⟩,
   ⟨(some (Tr.path 11)), (some (.p (faddrF (.t (Tr.path 10)) 3))), (some (some (Tr.path 8), true)), [Tr.path 10]⟩,
   ⟨(some (Tr.path 12)), (some (.r (loadF (.t (Tr.path 11)) 1 .sc))), (some (some (Tr.path 8), true)), [Tr.path 11]⟩,
   ⟨(some (Tr.path 13)), (some (.p (pickF (.t (Tr.path 8)) (.t (Tr.path 12)) (.c (.bool false))))), none, [Tr.path 8, Tr.path 12]⟩]) (
  .cond (.t (Tr.path 13)) (.seq (.reg [
     ⟨(some (Tr.path 4)), (some (.p (S.get (.c (.int .i64 8))))), none, []⟩]) (
    .ret)) (.skip))) (
 .seq (.reg [
  ⟨(some (Tr.path 14)), (some (.p (S.get (.t (Tr.path 0))))), none, [Tr.path 0]⟩,
  ⟨(some (Tr.path 15)), (some (.p (S.get (.t (Tr.path 1))))), none, [Tr.path 1]⟩,
  ⟨(some (Tr.path 16)), (some (.c (callF (.c (.func (.func 87) [] [])) [(.t (Tr.path 14)), (.t (Tr.path 15))]))), none, [Tr.path 14, Tr.path 15]⟩,
  ⟨(some (Tr.path 4)), (some (.p (S.get (.t (Tr.path 16))))), none, [Tr.path 16]⟩]) (
 .ret)))⟩
theorem c86_eq : fnOf Try.prog 86 = some c86 := by kernel_rfl

/-- (*ashlar/bench.Bench).Read -/
noncomputable def c40 : CFn := ⟨[.cell (Tr.path 6) 64 .bk, .tmp (Tr.path 7)],
 .seq (.reg [
  ⟨(some (Tr.path 6)), (some (.m (allocF 64 [.blk 0]))), none, []⟩,
  ⟨(some (Tr.path 7)), (some (.p (S.get (.c (.int .i64 0))))), none, []⟩]) (
 .seq (.seq (.reg [
   ⟨(some (Tr.path 9)), (some (.p (S.get (.t (Tr.path 0))))), none, [Tr.path 0]⟩,
   ⟨(some (Tr.path 10)), (some (.p (S.get (.t (Tr.path 1))))), none, [Tr.path 1]⟩,
   ⟨(some (Tr.path 11)), (some (.c (callF (.c (.func (.func 86) [] [])) [(.t (Tr.path 9)), (.t (Tr.path 10))]))), none, [Tr.path 9, Tr.path 10]⟩,
   ⟨(some (Tr.path 8)), (some (.p (S.get (.t (Tr.path 11))))), none, [Tr.path 11]⟩]) (
  .seq (.reg [
   ⟨(some (Tr.path 12)), (some (.p (S.get (.t (Tr.path 8))))), none, [Tr.path 8]⟩,
   ⟨(some (Tr.path 13)), (some (.p (eqcF true false [.int .i64] (.t (Tr.path 12)) (.c (.int .i64 0))))), none, [Tr.path 12]⟩]) (
  .cond (.t (Tr.path 13)) (.seq (.reg [
     ⟨(some (Tr.path 14)), (some (.p (buildF [.blk 0] .bk []))), none, []⟩,
     ⟨(some (Tr.path 15)), (some (.p (S.get (.t (Tr.path 8))))), none, [Tr.path 8]⟩,
     ⟨none, (some (.a (storeF (.t (Tr.path 6)) (.t (Tr.path 14)) 64))), none, [Tr.path 6, Tr.path 14]⟩,
     ⟨(some (Tr.path 7)), (some (.p (S.get (.t (Tr.path 15))))), none, [Tr.path 15]⟩]) (
    .ret)) (.skip)))) (
 .seq (.reg [
  ⟨(some (Tr.path 16)), (some (.p (S.get (.t (Tr.path 0))))), none, [Tr.path 0]⟩,
  ⟨(some (Tr.path 17)), (some (.p (nilcF (.t (Tr.path 16))))), none, [Tr.path 16]⟩,
  ⟨(some (Tr.path 18)), (some (.p (faddrF (.t (Tr.path 17)) 0))), none, [Tr.path 17]⟩,
  ⟨(some (Tr.path 19)), (some (.r (loadF (.t (Tr.path 18)) 1 .sc))), none, [Tr.path 18]⟩,
  ⟨(some (Tr.path 20)), (some (.p (S.get (.t (Tr.path 1))))), none, [Tr.path 1]⟩,
  ⟨(some (Tr.path 21)), (some (.p (iaddrSF (.t (Tr.path 19)) (.t (Tr.path 20)) 1))), none, [Tr.path 19, Tr.path 20]⟩,
  ⟨(some (Tr.path 22)), (some (.r (loadF (.t (Tr.path 21)) 1 .sc))), none, [Tr.path 21]⟩,
  ⟨(some (Tr.path 23)), (some (.p (S.get (.t (Tr.path 2))))), none, [Tr.path 2]⟩,
  ⟨(some (Tr.path 24)), (some (.c (callF (.c (.func (.func 17) [] [])) [(.t (Tr.path 22)), (.t (Tr.path 23))]))), none, [Tr.path 22, Tr.path 23]⟩,
  ⟨(some (Tr.path 25)), (some (.p (extF (.t (Tr.path 24)) 0))), none, [Tr.path 24]⟩,
  ⟨(some (Tr.path 26)), (some (.p (extF (.t (Tr.path 24)) 1))), none, [Tr.path 24]⟩,
  ⟨none, (some (.a (storeF (.t (Tr.path 6)) (.t (Tr.path 25)) 64))), none, [Tr.path 6, Tr.path 25]⟩,
  ⟨(some (Tr.path 7)), (some (.p (S.get (.t (Tr.path 26))))), none, [Tr.path 26]⟩]) (
 .ret)))⟩
theorem c40_eq : fnOf Try.prog 40 = some c40 := by kernel_rfl

/-- (*ashlar/bench.Bench).step -/
noncomputable def c84 : CFn := ⟨[.tmp (Tr.path 4)],
 .seq (.reg [
  ⟨(some (Tr.path 4)), (some (.p (S.get (.c (.int .i64 0))))), none, []⟩]) (
 .seq (.seq (.reg [
   ⟨(some (Tr.path 5)), (some (.p (S.get (.t (Tr.path 0))))), none, [Tr.path 0]⟩,
   ⟨(some (Tr.path 6)), (some (.p (nilcF (.t (Tr.path 5))))), none, [Tr.path 5]⟩,
   ⟨(some (Tr.path 7)), (some (.p (faddrF (.t (Tr.path 6)) 2))), none, [Tr.path 6]⟩,
   ⟨(some (Tr.path 8)), (some (.r (loadF (.t (Tr.path 7)) 1 .sc))), none, [Tr.path 7]⟩]) (
  .block 0 (.seq (.reg [
    ⟨(some (Tr.path 17)), (some (.p (eqcF false false [.int .i64] (.t (Tr.path 8)) (.c (.int .i64 0))))), none, [Tr.path 8]⟩,
    ⟨(some (Tr.path 16)), (some (.p (S.get (.t (Tr.path 17))))), none, [Tr.path 17]⟩]) (
   .cond (.t (Tr.path 16)) (.skip) (.seq (.reg [
      ⟨(some (Tr.path 19)), (some (.p (eqcF false false [.int .i64] (.t (Tr.path 8)) (.c (.int .i64 1))))), none, [Tr.path 8]⟩,
      ⟨(some (Tr.path 18)), (some (.p (S.get (.t (Tr.path 19))))), none, [Tr.path 19]⟩]) (
     .cond (.t (Tr.path 18)) (.seq (.reg [
        ⟨(some (Tr.path 20)), (some (.p (S.get (.t (Tr.path 0))))), none, [Tr.path 0]⟩,
        ⟨(some (Tr.path 21)), (some (.p (nilcF (.t (Tr.path 20))))), none, [Tr.path 20]⟩,
        ⟨(some (Tr.path 22)), (some (.p (faddrF (.t (Tr.path 21)) 3))), none, [Tr.path 21]⟩,
        ⟨none, (some (.a (storeF (.t (Tr.path 22)) (.c (.bool true)) 1))), none, [Tr.path 22]⟩]) (
       .seq (.reg [
        ⟨(some (Tr.path 4)), (some (.p (S.get (.c (.int .i64 8))))), none, []⟩]) (
       .ret))) (.reg [
       ⟨(some (Tr.path 9)), (some (.p (S.get (.t (Tr.path 0))))), none, [Tr.path 0]⟩,
       ⟨(some (Tr.path 10)), (some (.p (nilcF (.t (Tr.path 9))))), none, [Tr.path 9]⟩,
       ⟨(some (Tr.path 11)), (some (.p (faddrF (.t (Tr.path 10)) 2))), none, [Tr.path 10]⟩,
       ⟨(some (Tr.path 12)), (some (.r (loadF (.t (Tr.path 11)) 1 .sc))), none, [Tr.path 11]⟩,
       ⟨(some (Tr.path 13)), (some (.p (arF .sub (.t (Tr.path 12)) (.c (.int .i64 1))))), none, [Tr.path 12]⟩,
       ⟨(some (Tr.path 14)), (some (.p (nilcF (.t (Tr.path 9))))), none, [Tr.path 9]⟩,
       ⟨(some (Tr.path 15)), (some (.p (faddrF (.t (Tr.path 14)) 2))), none, [Tr.path 14]⟩,
       ⟨none, (some (.a (storeF (.t (Tr.path 15)) (.t (Tr.path 13)) 1))), none, [Tr.path 15, Tr.path 13]⟩]))))))) (
 .seq (.reg [
  ⟨(some (Tr.path 23)), (some (.p (S.get (.t (Tr.path 0))))), none, [Tr.path 0]⟩,
  ⟨(some (Tr.path 24)), (some (.p (nilcF (.t (Tr.path 23))))), none, [Tr.path 23]⟩,
  ⟨(some (Tr.path 25)), (some (.p (faddrF (.t (Tr.path 24)) 1))), none, [Tr.path 24]⟩,
  ⟨(some (Tr.path 26)), (some (.r (loadF (.t (Tr.path 25)) 1 .sc))), none, [Tr.path 25]⟩,
  ⟨(some (Tr.path 27)), (some (.p (arF .add (.t (Tr.path 26)) (.c (.int .i64 1))))), none, [Tr.path 26]⟩,
  ⟨(some (Tr.path 28)), (some (.p (nilcF (.t (Tr.path 23))))), none, [Tr.path 23]⟩,
  ⟨(some (Tr.path 29)), (some (.p (faddrF (.t (Tr.path 28)) 1))), none, [Tr.path 28]⟩,
  ⟨none, (some (.a (storeF (.t (Tr.path 29)) (.t (Tr.path 27)) 1))), none, [Tr.path 29, Tr.path 27]⟩]) (
 .seq (.reg [
  ⟨(some (Tr.path 30)), (some (.p (S.get (.t (Tr.path 1))))), none, [Tr.path 1]⟩,
  ⟨(some (Tr.path 31)), (some (.c (callF (.t (Tr.path 30)) []))), none, [Tr.path 30]⟩,
  ⟨(some (Tr.path 4)), (some (.p (S.get (.t (Tr.path 31))))), none, [Tr.path 31]⟩]) (
 .ret))))⟩
theorem c84_eq : fnOf Try.prog 84 = some c84 := by kernel_rfl

/-- (*ashlar/bench.Bench).Write$1 -/
noncomputable def c85 : CFn := ⟨[.tmp (Tr.path 4)],
 .seq (.reg [
  ⟨(some (Tr.path 4)), (some (.p (S.get (.c (.int .i64 0))))), none, []⟩]) (
 .seq (.regD [
  ⟨(some (Tr.path 5)), (some (.r (loadF (.t (Tr.path 0)) 1 .sc))), none, [Tr.path 0]⟩,
  ⟨(some (Tr.path 6)), (some (.p (nilcF (.t (Tr.path 5))))), none, [Tr.path 5]⟩,
  ⟨(some (Tr.path 7)), (some (.p (faddrF (.t (Tr.path 6)) 0))), none, [Tr.path 6]⟩,
  ⟨(some (Tr.path 8)), (some (.r (loadF (.t (Tr.path 7)) 1 .sc))), none, [Tr.path 7]⟩,
  ⟨(some (Tr.path 9)), (some (.r (loadF (.t (Tr.path 1)) 1 .sc))), none, [Tr.path 1]⟩,
  ⟨(some (Tr.path 10)), (some (.p (iaddrSF (.t (Tr.path 8)) (.t (Tr.path 9)) 1))), none, [Tr.path 8, Tr.path 9]⟩,
  ⟨(some (Tr.path 11)), (some (.r (loadF (.t (Tr.path 10)) 1 .sc))), none, [Tr.path 10]⟩,
  ⟨(some (Tr.path 12)), (some (.r (loadF (.t (Tr.path 2)) 1 .sc))), none, [Tr.path 2]⟩,
  ⟨(some (Tr.path 13)), (some (.r (loadF (.t (Tr.path 3)) 64 .bk))), none, [Tr.path 3]⟩,
  ⟨(some (Tr.path 14)), (some (.c (callF (.c (.func (.func 18) [] [])) [(.t (Tr.path 11)), (.t (Tr.path 12)), (.t (Tr.path 13))]))), none, [Tr.path 11, Tr.path 12, Tr.path 13]⟩,
  ⟨(some (Tr.path 4)), (some (.p (S.get (.t (Tr.path 14))))), none, [Tr.path 14]⟩] [0, 1, 3, 7, 0, 31, 63, 0, 0, 511, 1023]) (
 .ret))⟩
theorem c85_eq : fnOf Try.prog 85 = some c85 := by kernel_rfl

/-- (*ashlar/bench.Bench).Write -/
noncomputable def c33 : CFn := ⟨[.tmp (Tr.path 8)],
 .seq (.reg [
  ⟨(some (Tr.path 4)), (some (.m (boxF 1 (.t (Tr.path 0))))), none, [Tr.path 0]⟩,
  ⟨(some (Tr.path 5)), (some (.m (boxF 1 (.t (Tr.path 1))))), none, [Tr.path 1]⟩,
  ⟨(some (Tr.path 6)), (some (.m (boxF 1 (.t (Tr.path 2))))), none, [Tr.path 2]⟩,
  ⟨(some (Tr.path 7)), (some (.m (boxF 64 (.t (Tr.path 3))))), none, [Tr.path 3]⟩,
  ⟨(some (Tr.path 8)), (some (.p (S.get (.c (.int .i64 0))))), none, []⟩]) (
 .seq (.seq (.reg [
   ⟨(some (Tr.path 12)), (some (.r (loadF (.t (Tr.path 4)) 1 .sc))), none, [Tr.path 4]⟩,
   ⟨(some (Tr.path 13)), (some (.r (loadF (.t (Tr.path 5)) 1 .sc))), none, [Tr.path 5]⟩,
   ⟨(some (Tr.path 14)), (some (.r (loadF (.t (Tr.path 6)) 1 .sc))), none, [Tr.path 6]⟩,
   ⟨(some (Tr.path 15)), (some (.c (callF (.c (.func (.func 40) [] [])) [(.t (Tr.path 12)), (.t (Tr.path 13)), (.t (Tr.path 14))]))), none, [Tr.path 12, Tr.path 13, Tr.path 14]⟩,
   ⟨(some (Tr.path 11)), (some (.p (S.get (.t (Tr.path 15))))), none, [Tr.path 15]⟩,
   ⟨(some (Tr.path 16)), (some (.p (extF (.t (Tr.path 11)) 0))), none, [Tr.path 11]⟩,
   ⟨(some (Tr.path 17)), (some (.p (extF (.t (Tr.path 11)) 1))), none, [Tr.path 11]⟩,
   ⟨(some (Tr.path 9)), (some (.m (allocF 64 [.blk 0]))), none, []⟩,
   ⟨none, (some (.a (storeF (.t (Tr.path 9)) (.t (Tr.path 16)) 64))), none, [Tr.path 9, Tr.path 16]⟩,
   ⟨(some (Tr.path 10)), (some (.p (S.get (.t (Tr.path 17))))), none, [Tr.path 17]⟩]) (
  .seq (.reg [
   ⟨(some (Tr.path 18)), (some (.p (S.get (.t (Tr.path 10))))), none, [Tr.path 10]⟩,
   ⟨(some (Tr.path 19)), (some (.p (eqcF true false [.int .i64] (.t (Tr.path 18)) (.c (.int .i64 0))))), none, [Tr.path 18]⟩]) (
  .cond (.t (Tr.path 19)) (.seq (.reg [
     ⟨(some (Tr.path 20)), (some (.p (S.get (.t (Tr.path 10))))), none, [Tr.path 10]⟩,
     ⟨(some (Tr.path 8)), (some (.p (S.get (.t (Tr.path 20))))), none, [Tr.path 20]⟩]) (
    .ret)) (.skip)))) (
 .seq (.reg [
  ⟨(some (Tr.path 21)), (some (.r (loadF (.t (Tr.path 4)) 1 .sc))), none, [Tr.path 4]⟩,
  ⟨(some (Tr.path 22)), (some (.p (mkfnF (.func 85) [] [(.t (Tr.path 4)), (.t (Tr.path 5)), (.t (Tr.path 6)), (.t (Tr.path 7))]))), none, [Tr.path 4, Tr.path 5, Tr.path 6, Tr.path 7]⟩,
  ⟨(some (Tr.path 23)), (some (.c (callF (.c (.func (.func 84) [] [])) [(.t (Tr.path 21)), (.t (Tr.path 22))]))), none, [Tr.path 21, Tr.path 22]⟩,
  ⟨(some (Tr.path 8)), (some (.p (S.get (.t (Tr.path 23))))), none, [Tr.path 23]⟩]) (
 .ret)))⟩
theorem c33_eq : fnOf Try.prog 33 = some c33 := by kernel_rfl

/-- (*ashlar/bench.Bench).Flush -/
noncomputable def c32 : CFn := ⟨[.tmp (Tr.path 4)],
 .seq (.reg [
  ⟨(some (Tr.path 4)), (some (.p (S.get (.c (.int .i64 0))))), none, []⟩]) (
 .seq (.seq (.reg [
   ⟨(some (Tr.path 8)), (some (.p (S.get (.t (Tr.path 0))))), none, [Tr.path 0]⟩,
   ⟨(some (Tr.path 9)), (some (.p (S.get (.t (Tr.path 1))))), none, [Tr.path 1]⟩,
   ⟨(some (Tr.path 10)), (some (.c (callF (.c (.func (.func 40) [] [])) [(.t (Tr.path 8)), (.t (Tr.path 9)), (.c (.int .i64 0))]))), none, [Tr.path 8, Tr.path 9]⟩,
   ⟨(some (Tr.path 7)), (some (.p (S.get (.t (Tr.path 10))))), none, [Tr.path 10]⟩,
   ⟨(some (Tr.path 11)), (some (.p (extF (.t (Tr.path 7)) 0))), none, [Tr.path 7]⟩,
   ⟨(some (Tr.path 12)), (some (.p (extF (.t (Tr.path 7)) 1))), none, [Tr.path 7]⟩,
   ⟨(some (Tr.path 5)), (some (.m (allocF 64 [.blk 0]))), none, []⟩,
   ⟨none, (some (.a (storeF (.t (Tr.path 5)) (.t (Tr.path 11)) 64))), none, [Tr.path 5, Tr.path 11]⟩,
   ⟨(some (Tr.path 6)), (some (.p (S.get (.t (Tr.path 12))))), none, [Tr.path 12]⟩]) (
  .seq (.reg [
   ⟨(some (Tr.path 13)), (some (.p (S.get (.t (Tr.path 6))))), none, [Tr.path 6]⟩,
   ⟨(some (Tr.path 14)), (some (.p (eqcF true false [.int .i64] (.t (Tr.path 13)) (.c (.int .i64 0))))), none, [Tr.path 13]⟩]) (
  .cond (.t (Tr.path 14)) (.seq (.reg [
     ⟨(some (Tr.path 15)), (some (.p (S.get (.t (Tr.path 6))))), none, [Tr.path 6]⟩,
     ⟨(some (Tr.path 4)), (some (.p (S.get (.t (Tr.path 15))))), none, [Tr.path 15]⟩]) (
    .ret)) (.skip)))) (
 .seq (.reg [
  ⟨(some (Tr.path 16)), (some (.p (S.get (.t (Tr.path 0))))), none, [Tr.path 0]⟩,
  ⟨(some (Tr.path 17)), (some (.p (S.get (.t (Tr.path 0))))), none, [Tr.path 0]⟩,
  ⟨(some (Tr.path 18)), (some (.p (nilcF (.t (Tr.path 17))))), none, [Tr.path 17]⟩,
  ⟨(some (Tr.path 19)), (some (.p (faddrF (.t (Tr.path 18)) 0))), none, [Tr.path 18]⟩,
  ⟨(some (Tr.path 20)), (some (.r (loadF (.t (Tr.path 19)) 1 .sc))), none, [Tr.path 19]⟩,
  ⟨(some (Tr.path 21)), (some (.p (S.get (.t (Tr.path 1))))), none, [Tr.path 1]⟩,
  ⟨(some (Tr.path 22)), (some (.p (iaddrSF (.t (Tr.path 20)) (.t (Tr.path 21)) 1))), none, [Tr.path 20, Tr.path 21]⟩,
  ⟨(some (Tr.path 23)), (some (.r (loadF (.t (Tr.path 22)) 1 .sc))), none, [Tr.path 22]⟩,
  ⟨(some (Tr.path 24)), (some (.p (mkfnF (.func 16) [(.t (Tr.path 23))] []))), none, [Tr.path 23]⟩,
  ⟨(some (Tr.path 25)), (some (.c (callF (.c (.func (.func 84) [] [])) [(.t (Tr.path 16)), (.t (Tr.path 24))]))), none, [Tr.path 16, Tr.path 24]⟩,
  ⟨(some (Tr.path 4)), (some (.p (S.get (.t (Tr.path 25))))), none, [Tr.path 25]⟩]) (
 .ret)))⟩
theorem c32_eq : fnOf Try.prog 32 = some c32 := by kernel_rfl

/-- (*ashlar/bench.Bench).Arm -/
noncomputable def c31 : CFn := ⟨[.tmp (Tr.path 4)],
 .seq (.reg [
  ⟨(some (Tr.path 4)), (some (.p (S.get (.c (.int .i64 0))))), none, []⟩]) (
 .seq (.block 0 (.seq (.reg [
    ⟨(some (Tr.path 6)), (some (.p (S.get (.t (Tr.path 0))))), none, [Tr.path 0]⟩,
    ⟨(some (Tr.path 7)), (some (.c (callF (.c (.func (.func 83) [] [])) [(.t (Tr.path 6))]))), none, [Tr.path 6]⟩,
    ⟨(some (Tr.path 5)), (some (.p (S.get (.t (Tr.path 7))))), none, [Tr.path 7]⟩]) (
   .cond (.t (Tr.path 5)) (.seq (.reg [
      ⟨(some (Tr.path 4)), (some (.p (S.get (.c (.int .i64 1))))), none, []⟩]) (
     .ret)) (.seq (.reg [
      ⟨(some (Tr.path 9)), (some (.p (S.get (.t (Tr.path 0))))), none, [Tr.path 0]⟩,
      ⟨(some (Tr.path 10)), (some (.p (nilcF (.t (Tr.path 9))))), none, [Tr.path 9]⟩,
      ⟨(some (Tr.path 11)), (some (.p (faddrF (.t (Tr.path 10)) 3))), none, [Tr.path 10]⟩,
      ⟨(some (Tr.path 12)), (some (.r (loadF (.t (Tr.path 11)) 1 .sc))), none, [Tr.path 11]⟩,
      ⟨(some (Tr.path 8)), (some (.p (S.get (.t (Tr.path 12))))), none, [Tr.path 12]⟩]) (
     .cond (.t (Tr.path 8)) (.seq (.reg [
        ⟨(some (Tr.path 4)), (some (.p (S.get (.c (.int .i64 8))))), none, []⟩]) (
       .ret)) (.seq (.reg [
        ⟨(some (Tr.path 14)), (some (.p (S.get (.t (Tr.path 1))))), none, [Tr.path 1]⟩,
        ⟨(some (Tr.path 15)), (some (.p (arF .lss (.t (Tr.path 14)) (.c (.int .i64 0))))), none, [Tr.path 14]⟩,
        ⟨(some (Tr.path 13)), (some (.p (S.get (.t (Tr.path 15))))), none, [Tr.path 15]⟩]) (
       .cond (.t (Tr.path 13)) (.seq (.reg [
          ⟨(some (Tr.path 4)), (some (.p (S.get (.c (.int .i64 2))))), none, []⟩]) (
         .ret)) (.skip)))))))) (
 .seq (.reg [
  ⟨(some (Tr.path 16)), (some (.p (S.get (.t (Tr.path 0))))), none, [Tr.path 0]⟩,
  ⟨(some (Tr.path 17)), (some (.p (S.get (.t (Tr.path 1))))), none, [Tr.path 1]⟩,
  ⟨(some (Tr.path 18)), (some (.p (nilcF (.t (Tr.path 16))))), none, [Tr.path 16]⟩,
  ⟨(some (Tr.path 19)), (some (.p (faddrF (.t (Tr.path 18)) 2))), none, [Tr.path 18]⟩,
  ⟨none, (some (.a (storeF (.t (Tr.path 19)) (.t (Tr.path 17)) 1))), none, [Tr.path 19, Tr.path 17]⟩]) (
 .seq (.reg [
  ⟨(some (Tr.path 4)), (some (.p (S.get (.c (.int .i64 0))))), none, []⟩]) (
 .ret))))⟩
theorem c31_eq : fnOf Try.prog 31 = some c31 := by kernel_rfl

/-- (*ashlar/bench.Bench).Dark -/
noncomputable def c34 : CFn := ⟨[.tmp (Tr.path 2)],
 .seq (.reg [
  ⟨(some (Tr.path 2)), (some (.p (S.get (.c (.bool false))))), none, []⟩]) (
 .seq (.reg [
  ⟨(some (Tr.path 3)), (some (.p (S.get (.t (Tr.path 0))))), none, [Tr.path 0]⟩,
  ⟨(some (Tr.path 4)), (some (.c (callF (.c (.func (.func 83) [] [])) [(.t (Tr.path 3))]))), none, [Tr.path 3]⟩,
  ⟨(some (Tr.path 5)), (some (.p (unF .not (.t (Tr.path 4))))), none, [Tr.path 4]⟩,
  ⟨(some (Tr.path 6)), (some (.p (S.get (.t (Tr.path 5))))), none, [Tr.path 5]⟩,
  ⟨(some (Tr.path 7)), (some (.p (S.get (.t (Tr.path 0))))), (some (some (Tr.path 6), true)), [Tr.path 0]⟩,
  ⟨(some (Tr.path 8)), (some (.p (nilcF (.t (Tr.path 7))))), (some (some (Tr.path 6), true)), [Tr.path 7]⟩,
  ⟨(some (Tr.path 9)), (some (.p (faddrF (.t (Tr.path 8)) 3))), (some (some (Tr.path 6), true)), [Tr.path 8]⟩,
  ⟨(some (Tr.path 10)), (some (.r (loadF (.t (Tr.path 9)) 1 .sc))), (some (some (Tr.path 6), true)), [Tr.path 9]⟩,
  ⟨(some (Tr.path 11)), (some (.p (pickF (.t (Tr.path 6)) (.t (Tr.path 10)) (.c (.bool false))))), none, [Tr.path 6, Tr.path 10]⟩,
  ⟨(some (Tr.path 2)), (some (.p (S.get (.t (Tr.path 11))))), none, [Tr.path 11]⟩]) (
 .ret))⟩
theorem c34_eq : fnOf Try.prog 34 = some c34 := by kernel_rfl

/-- (*ashlar/bench.Bench).Steps -/
noncomputable def c35 : CFn := ⟨[.tmp (Tr.path 2)],
 .seq (.reg [
  ⟨(some (Tr.path 2)), (some (.p (S.get (.c (.int .i64 0))))), none, []⟩]) (
 .seq (.seq (.reg [
   ⟨(some (Tr.path 3)), (some (.p (S.get (.t (Tr.path 0))))), none, [Tr.path 0]⟩,
   ⟨(some (Tr.path 4)), (some (.c (callF (.c (.func (.func 83) [] [])) [(.t (Tr.path 3))]))), none, [Tr.path 3]⟩]) (
  .cond (.t (Tr.path 4)) (.seq (.reg [
     ⟨(some (Tr.path 2)), (some (.p (S.get (.c (.int .i64 0))))), none, []⟩]) (
    .ret)) (.skip))) (
 .seq (.reg [
  ⟨(some (Tr.path 5)), (some (.p (S.get (.t (Tr.path 0))))), none, [Tr.path 0]⟩,
  ⟨(some (Tr.path 6)), (some (.p (nilcF (.t (Tr.path 5))))), none, [Tr.path 5]⟩,
  ⟨(some (Tr.path 7)), (some (.p (faddrF (.t (Tr.path 6)) 1))), none, [Tr.path 6]⟩,
  ⟨(some (Tr.path 8)), (some (.r (loadF (.t (Tr.path 7)) 1 .sc))), none, [Tr.path 7]⟩,
  ⟨(some (Tr.path 2)), (some (.p (S.get (.t (Tr.path 8))))), none, [Tr.path 8]⟩]) (
 .ret)))⟩
theorem c35_eq : fnOf Try.prog 35 = some c35 := by kernel_rfl

/-- (*ashlar/bench.Bench).Insert -/
noncomputable def c37 : CFn := ⟨[.tmp (Tr.path 4)],
 .seq (.reg [
  ⟨(some (Tr.path 4)), (some (.p (S.get (.c (.int .i64 0))))), none, []⟩]) (
 .seq (.seq (.reg [
   ⟨(some (Tr.path 8)), (some (.p (S.get (.t (Tr.path 0))))), none, [Tr.path 0]⟩,
   ⟨(some (Tr.path 9)), (some (.p (S.get (.t (Tr.path 1))))), none, [Tr.path 1]⟩,
   ⟨(some (Tr.path 10)), (some (.c (callF (.c (.func (.func 86) [] [])) [(.t (Tr.path 8)), (.t (Tr.path 9))]))), none, [Tr.path 8, Tr.path 9]⟩,
   ⟨(some (Tr.path 5)), (some (.p (S.get (.t (Tr.path 10))))), none, [Tr.path 10]⟩]) (
  .seq (.reg [
   ⟨(some (Tr.path 11)), (some (.p (S.get (.t (Tr.path 5))))), none, [Tr.path 5]⟩,
   ⟨(some (Tr.path 12)), (some (.p (eqcF true false [.int .i64] (.t (Tr.path 11)) (.c (.int .i64 0))))), none, [Tr.path 11]⟩]) (
  .cond (.t (Tr.path 12)) (.seq (.reg [
     ⟨(some (Tr.path 13)), (some (.p (S.get (.t (Tr.path 5))))), none, [Tr.path 5]⟩,
     ⟨(some (Tr.path 4)), (some (.p (S.get (.t (Tr.path 13))))), none, [Tr.path 13]⟩]) (
    .ret)) (.skip)))) (
 .seq (.seq (.reg [
   ⟨(some (Tr.path 14)), (some (.p (S.get (.t (Tr.path 0))))), none, [Tr.path 0]⟩,
   ⟨(some (Tr.path 15)), (some (.p (nilcF (.t (Tr.path 14))))), none, [Tr.path 14]⟩,
   ⟨(some (Tr.path 16)), (some (.p (faddrF (.t (Tr.path 15)) 0))), none, [Tr.path 15]⟩,
   ⟨(some (Tr.path 17)), (some (.r (loadF (.t (Tr.path 16)) 1 .sc))), none, [Tr.path 16]⟩,
   ⟨(some (Tr.path 18)), (some (.p (S.get (.t (Tr.path 1))))), none, [Tr.path 1]⟩,
   ⟨(some (Tr.path 19)), (some (.p (iaddrSF (.t (Tr.path 17)) (.t (Tr.path 18)) 1))), none, [Tr.path 17, Tr.path 18]⟩,
   ⟨(some (Tr.path 20)), (some (.r (loadF (.t (Tr.path 19)) 1 .sc))), none, [Tr.path 19]⟩,
   ⟨(some (Tr.path 21)), (some (.c (callF (.c (.func (.func 82) [] [])) [(.t (Tr.path 20))]))), none, [Tr.path 20]⟩,
   ⟨(some (Tr.path 22)), (some (.p (unF .not (.t (Tr.path 21))))), none, [Tr.path 21]⟩]) (
  .cond (.t (Tr.path 22)) (.seq (.reg [
     ⟨(some (Tr.path 4)), (some (.p (S.get (.c (.int .i64 17))))), none, []⟩]) (
    .ret)) (.skip))) (
 .seq (.reg [
  ⟨(some (Tr.path 24)), (some (.p (S.get (.t (Tr.path 0))))), none, [Tr.path 0]⟩,
  ⟨(some (Tr.path 25)), (some (.p (nilcF (.t (Tr.path 24))))), none, [Tr.path 24]⟩,
  ⟨(some (Tr.path 26)), (some (.p (faddrF (.t (Tr.path 25)) 0))), none, [Tr.path 25]⟩,
  ⟨(some (Tr.path 27)), (some (.r (loadF (.t (Tr.path 26)) 1 .sc))), none, [Tr.path 26]⟩,
  ⟨(some (Tr.path 28)), (some (.p (S.get (.t (Tr.path 1))))), none, [Tr.path 1]⟩,
  ⟨(some (Tr.path 29)), (some (.p (iaddrSF (.t (Tr.path 27)) (.t (Tr.path 28)) 1))), none, [Tr.path 27, Tr.path 28]⟩,
  ⟨(some (Tr.path 30)), (some (.r (loadF (.t (Tr.path 29)) 1 .sc))), none, [Tr.path 29]⟩,
  ⟨(some (Tr.path 31)), (some (.c (callF (.c (.func (.func 81) [] [])) [(.t (Tr.path 30))]))), none, [Tr.path 30]⟩,
  ⟨(some (Tr.path 32)), (some (.c (callF (.c (.func (.func 23) [] [])) [(.t (Tr.path 31))]))), none, [Tr.path 31]⟩,
  ⟨(some (Tr.path 23)), (some (.p (S.get (.t (Tr.path 32))))), none, [Tr.path 32]⟩,
  ⟨(some (Tr.path 33)), (some (.p (extF (.t (Tr.path 23)) 0))), none, [Tr.path 23]⟩,
  ⟨(some (Tr.path 34)), (some (.p (extF (.t (Tr.path 23)) 1))), none, [Tr.path 23]⟩,
  ⟨(some (Tr.path 6)), (some (.p (S.get (.t (Tr.path 33))))), none, [Tr.path 33]⟩,
  ⟨(some (Tr.path 7)), (some (.p (S.get (.t (Tr.path 34))))), none, [Tr.path 34]⟩]) (
 .seq (.seq (.reg [
   ⟨(some (Tr.path 35)), (some (.p (S.get (.t (Tr.path 7))))), none, [Tr.path 7]⟩,
   ⟨(some (Tr.path 36)), (some (.p (eqcF false false [.int .i64] (.t (Tr.path 35)) (.c (.int .i64 0))))), none, [Tr.path 35]⟩]) (
  .cond (.t (Tr.path 36)) (.reg [
    ⟨(some (Tr.path 37)), (some (.p (S.get (.t (Tr.path 0))))), none, [Tr.path 0]⟩,
    ⟨(some (Tr.path 38)), (some (.p (nilcF (.t (Tr.path 37))))), none, [Tr.path 37]⟩,
    ⟨(some (Tr.path 39)), (some (.p (faddrF (.t (Tr.path 38)) 0))), none, [Tr.path 38]⟩,
    ⟨(some (Tr.path 40)), (some (.r (loadF (.t (Tr.path 39)) 1 .sc))), none, [Tr.path 39]⟩,
    ⟨(some (Tr.path 41)), (some (.p (S.get (.t (Tr.path 1))))), none, [Tr.path 1]⟩,
    ⟨(some (Tr.path 42)), (some (.p (S.get (.t (Tr.path 6))))), none, [Tr.path 6]⟩,
    ⟨(some (Tr.path 43)), (some (.p (iaddrSF (.t (Tr.path 40)) (.t (Tr.path 41)) 1))), none, [Tr.path 40, Tr.path 41]⟩,
    ⟨none, (some (.a (storeF (.t (Tr.path 43)) (.t (Tr.path 42)) 1))), none, [Tr.path 43, Tr.path 42]⟩]) (.skip))) (
 .seq (.reg [
  ⟨(some (Tr.path 44)), (some (.p (S.get (.t (Tr.path 7))))), none, [Tr.path 7]⟩,
  ⟨(some (Tr.path 4)), (some (.p (S.get (.t (Tr.path 44))))), none, [Tr.path 44]⟩]) (
 .ret))))))⟩
theorem c37_eq : fnOf Try.prog 37 = some c37 := by kernel_rfl


structure Dv where
  b : Bk
  y : Lay
  D : Dev
def Dv.foot (x : Dv) : Bk → Prop := Foot x.b x.y x.D

structure DvsAt (H : Heap) (b ds : Bk) (so : Nat) (l : List Dv) (r1 r2 r3 : V) : Prop where
  own : H.get b = some (.rows false 4 [[.slice (some ⟨ds, 0⟩) l.length l.length so, r1, r2, r3]])
  ptrs : H.get ds = some (.rows false 1 (l.map fun x => [.ptr (some ⟨x.b, 0⟩)]))
  dev : ∀ i (h : i < l.length), DevAt H l[i].b l[i].y l[i].D
  sep : ∀ i j (hi : i < l.length) (hj : j < l.length), i ≠ j → Sep l[i].b l[i].y l[i].D l[j].b l[j].y l[j].D
  old : H.Old b ∧ H.Old ds
  ne : b ≠ ds
  out : ∀ i (h : i < l.length), ¬ l[i].foot b ∧ ¬ l[i].foot ds

theorem DvsAt.turns {H H' : Heap} {b ds : Bk} {so : Nat} {l : List Dv} {r1 r2 r3 : V} (h : DvsAt H b ds so l r1 r2 r3) (k : Turns Z H H') : DvsAt H' b ds so l r1 r2 r3 :=
  ⟨(k.same _ h.old.1 id).trans h.own, (k.same _ h.old.2 id).trans h.ptrs, fun i hi => (h.dev i hi).turns k id id (fun _ => id), h.sep, ⟨h.old.1.mono k.next, h.old.2.mono k.next⟩, h.ne, h.out⟩

/-- one device turned -/
theorem DvsAt.step {H H' : Heap} {b ds : Bk} {so : Nat} {l : List Dv} {r1 r2 r3 : V} (h : DvsAt H b ds so l r1 r2 r3) {i : Nat} (hi : i < l.length) {y' : Lay} {D' : Dev} (k : Next H l[i].b l[i].y l[i].D H' y' D') : DvsAt H' b ds so (l.set i ⟨l[i].b, y', D'⟩) r1 r2 r3 := by
  have hb := (h.out i hi).1
  have hd := (h.out i hi).2
  have hnew : ∀ c, Foot l[i].b y' D' c → l[i].foot c ∨ ¬ H.Old c := by
    rintro c (rfl | rfl | ⟨hl, rfl⟩)
    · exact .inl (.inl rfl)
    · exact .inl (.inr (.inl k.s))
    · rcases k.l hl with ⟨h1, h2⟩ | h1
      · exact .inl (.inr (.inr ⟨h1, h2⟩))
      · exact .inr h1
  refine ⟨?_, ?_, fun j hj => ?_, fun p q hp hq hpq => ?_, ⟨h.old.1.mono k.turns.next, h.old.2.mono k.turns.next⟩, h.ne, fun j hj => ?_⟩
  · rw [List.length_set]; exact (k.turns.same _ h.old.1 hb).trans h.own
  · have e : ((l.set i ⟨l[i].b, y', D'⟩).map fun x => [V.ptr (some ⟨x.b, 0⟩)]) = l.map fun x => [V.ptr (some ⟨x.b, 0⟩)] := by
      rw [List.map_set]
      apply List.ext_getElem
      · simp
      · intro n h1 h2
        rw [List.getElem_set]
        split
        · rename_i e; subst e; simp
        · rfl
    rw [e]; exact (k.turns.same _ h.old.2 hd).trans h.ptrs
  · have hj' : j < l.length := by simpa using hj
    by_cases e : i = j
    · subst e
      rw [List.getElem_set_self]
      exact k.dev
    · rw [List.getElem_set_ne e]
      exact (h.sep i j hi hj' e).dev (h.dev j hj') k.turns
  · have hp' : p < l.length := by simpa using hp
    have hq' : q < l.length := by simpa using hq
    by_cases e1 : i = p
    · subst e1
      rw [List.getElem_set_self, List.getElem_set_ne hpq]
      exact (h.sep i q hi hq' hpq).next (h.dev q hq') k
    · by_cases e2 : i = q
      · subst e2
        rw [List.getElem_set_self, List.getElem_set_ne e1]
        exact ((h.sep i p hi hp' e1).next (h.dev p hp') k).symm
      · rw [List.getElem_set_ne e1, List.getElem_set_ne e2]
        exact h.sep p q hp' hq' hpq
  · have hj' : j < l.length := by simpa using hj
    by_cases e : i = j
    · subst e
      rw [List.getElem_set_self]
      refine ⟨fun hc => ?_, fun hc => ?_⟩
      · rcases hnew _ hc with hc | hc
        · exact hb hc
        · exact hc h.old.1
      · rcases hnew _ hc with hc | hc
        · exact hd hc
        · exact hc h.old.2
    · rw [List.getElem_set_ne e]
      exact h.out j hj'

/-- the bench's own numbers turned -/
theorem DvsAt.put {H : Heap} {b ds : Bk} {so : Nat} {l : List Dv} {r1 r2 r3 : V} (h : DvsAt H b ds so l r1 r2 r3) (r1' r2' r3' : V) : DvsAt (H.set b (.rows false 4 [[.slice (some ⟨ds, 0⟩) l.length l.length so, r1', r2', r3']])) b ds so l r1' r2' r3' := by
  refine ⟨?_, ?_, fun i hi => (h.dev i hi).turns (Turns.set (X := fun c => c = b) rfl _ _) (fun e => (h.out i hi).1 (.inl e.symm)) (fun e => (h.out i hi).1 (.inr (.inl e.symm))) (fun hl e => (h.out i hi).1 (.inr (.inr ⟨hl, e.symm⟩))), h.sep, by simpa using h.old, h.ne, h.out⟩
  · rw [Heap.get_set, if_pos rfl]
  · rw [Heap.get_set, if_neg (Ne.symm h.ne)]; exact h.ptrs

abbrev BenchAt (H : Heap) (b ds : Bk) (so : Nat) (l : List Dv) (st ar : Int) (dk : Bool) : Prop := DvsAt H b ds so l (.int .i64 st) (.int .i64 ar) (.bool dk)
theorem BenchAt.put {H : Heap} {b ds : Bk} {so : Nat} {l : List Dv} {st ar : Int} {dk : Bool} (h : BenchAt H b ds so l st ar dk) (st' ar' : Int) (dk' : Bool) : BenchAt (H.set b (.rows false 4 [[.slice (some ⟨ds, 0⟩) l.length l.length so, .int .i64 st', .int .i64 ar', .bool dk']])) b ds so l st' ar' dk' := DvsAt.put h _ _ _

section
variable {H : Heap} {b ds : Bk} {so : Nat} {l : List Dv} {st ar : Int} {dk : Bool} (h : BenchAt H b ds so l st ar dk)
include h
theorem bload0 : loadAt H ⟨b, 0⟩ 1 = some [.slice (some ⟨ds, 0⟩) l.length l.length so] := by rw [loadAt_eq h.own (by exact rfl)]; rfl
theorem bload1 : loadAt H ⟨b, 1⟩ 1 = some [.int .i64 st] := by rw [loadAt_eq h.own (by exact rfl)]; rfl
theorem bload2 : loadAt H ⟨b, 2⟩ 1 = some [.int .i64 ar] := by rw [loadAt_eq h.own (by exact rfl)]; rfl
theorem bload3 : loadAt H ⟨b, 3⟩ 1 = some [.bool dk] := by rw [loadAt_eq h.own (by exact rfl)]; rfl
theorem bloadP {i : Nat} (hi : i < l.length) : loadAt H ⟨ds, i⟩ 1 = some [.ptr (some ⟨l[i].b, 0⟩)] := by
  rw [loadAt_eq h.ptrs (r := [.ptr (some ⟨l[i].b, 0⟩)]) (nth_of (by rw [Nat.div_one]; simp [hi])), Nat.mod_one]
  exact cut_hit _ _ rfl
theorem bstore1 (x : Int) : storeAt H ⟨b, 1⟩ [.int .i64 x] = some (H.set b (.rows false 4 [[.slice (some ⟨ds, 0⟩) l.length l.length so, .int .i64 x, .int .i64 ar, .bool dk]])) := storeAt_eq h.own (r := [.slice (some ⟨ds, 0⟩) l.length l.length so, .int .i64 st, .int .i64 ar, .bool dk]) rfl rfl
theorem bstore2 (x : Int) : storeAt H ⟨b, 2⟩ [.int .i64 x] = some (H.set b (.rows false 4 [[.slice (some ⟨ds, 0⟩) l.length l.length so, .int .i64 st, .int .i64 x, .bool dk]])) := storeAt_eq h.own (r := [.slice (some ⟨ds, 0⟩) l.length l.length so, .int .i64 st, .int .i64 ar, .bool dk]) rfl rfl
theorem bstore3 (x : Bool) : storeAt H ⟨b, 3⟩ [.bool x] = some (H.set b (.rows false 4 [[.slice (some ⟨ds, 0⟩) l.length l.length so, .int .i64 st, .int .i64 ar, .bool x]])) := storeAt_eq h.own (r := [.slice (some ⟨ds, 0⟩) l.length l.length so, .int .i64 st, .int .i64 ar, .bool dk]) rfl rfl

theorem bnone (hl : l ≠ []) (lf m : Nat) : callS Try.prog S0 lf (m + 1) 83 [.ptr (some ⟨b, 0⟩)] H = some (.v (.bool false), H) := by
  have l0 := bload0 h
  obtain ⟨v, H', e, rfl, rfl⟩ : ret (callS Try.prog S0 lf (m + 1) 83 [.ptr (some ⟨b, 0⟩)] H) fun v H' => v = .bool false ∧ H' = H := by
    refine ret_call rfl c83_eq ?_
    simp only [c83, l0, Aa, Ab, Ad, Ae, Af, Ag, Ah, Ai, Aj, Ak, Al, Ao, Ap, Aq, Ar, Au, sO_p, sO_r, sO_m, sO_a, sO_c, Av, Aw, Ax, Ay, Az, sE_p, sE_r, sE_m, sE_a, sE_c, A0, A2, A3, A4, A5, A6, A7, A8, A9, Ba, Bb, Bc, Bd, Be, Bf, Bg, Bh, Bi, Bj, Bl, Bm, Bo, Bp, Bq, Br, Bs, Bt, Bu, Bv, Tr.getP_e, Bw, Bx, ↓reduceIte, Nat.reduceEqDiff, Nat.reduceAdd, Nat.reduceSub, Nat.reduceMul, Nat.reduceDiv, Nat.reduceMod, Nat.zero_add, Nat.add_zero, beq_self_eq_true, Nat.zero_ne_one, Nat.one_ne_zero, Nat.reduceLeDiff, Int.reduceBEq, constF, unF, unary,  pickF, nilcF, faddrF, fldF, iaddrSF, arF, Bz, B3, B4, B5, B6, B7, convF, extF, lenF, eqcF, eqnF, eqN, eqPtr, isNone, loadF, storeF, allocF, callF, gets, Option.map_some, Option.bind_some, B8, B9, Ca, Cb, Cc, nbeq, nble, Cd, Ce, Cf, Cg, Ch, Ci, Cj, Ck, Cl, Cm, Cn, Co, Cp, Cq, Cr, Cs, Ct, Cu, Cv, Cw, Cx, V.w, width, unc, cmpCells, Cy, Cz, C6, C7, C8, Da, undef, List.append_nil, List.nil_append, List.cons_append, Db, Dc, resultsV, result, tup, Dd, Bool.and_true, Bool.true_and, Bool.and_self, decide_true, decide_false, Bool.not_true, Bool.not_false, Bool.true_beq, Bool.false_beq, beq_iff_eq, reduceCtorEq, Nat.succ_eq_add_one, ptr0, Int.ofNat_eq_natCast, Int.ofNat_le, Int.ofNat_lt, Int.natCast_add, De, Df, Dg, Dh, Di, List.map_cons, List.map_nil, Dj, Heap.next_add, Heap.next_set, boxF, buildF, fill, bsliceF, fillRows, List.replicate_one, Dk, Dl, Dm, Dn, Dp, Dq, Dr, Ds, Dt, Du, Dw, Dx, Dy, Dz, D2, D3, D4, D5, D6, D7, D8, D9, Ea, Eb, Ec, appF, List.length_cons, List.length_nil]
    simp [hl]
  exact e

theorem bhas {i : Nat} (hi : i < l.length) (lf m : Nat) : callS Try.prog S0 lf (m + 1) 132 [.ptr (some ⟨b, 0⟩), .int .i64 (i : Int)] H = some (.v (.bool true), H) := by
  have l0 := bload0 h
  have g0 : (0 : Int) ≤ (i : Int) := by omega
  obtain ⟨v, H', e, rfl, rfl⟩ : ret (callS Try.prog S0 lf (m + 1) 132 [.ptr (some ⟨b, 0⟩), .int .i64 (i : Int)] H) fun v H' => v = .bool true ∧ H' = H := by
    refine ret_call rfl c132_eq ?_
    simp only [c132, l0, g0, hi, Aa, Ab, Ad, Ae, Af, Ag, Ah, Ai, Aj, Ak, Al, Ao, Ap, Aq, Ar, Au, sO_p, sO_r, sO_m, sO_a, sO_c, Av, Aw, Ax, Ay, Az, sE_p, sE_r, sE_m, sE_a, sE_c, A0, A2, A3, A4, A5, A6, A7, A8, A9, Ba, Bb, Bc, Bd, Be, Bf, Bg, Bh, Bi, Bj, Bl, Bm, Bo, Bp, Bq, Br, Bs, Bt, Bu, Bv, Tr.getP_e, Bw, Bx, ↓reduceIte, Nat.reduceEqDiff, Nat.reduceAdd, Nat.reduceSub, Nat.reduceMul, Nat.reduceDiv, Nat.reduceMod, Nat.zero_add, Nat.add_zero, beq_self_eq_true, Nat.zero_ne_one, Nat.one_ne_zero, Nat.reduceLeDiff, Int.reduceBEq, constF, unF, unary,  pickF, nilcF, faddrF, fldF, iaddrSF, arF, Bz, B3, B4, B5, B6, B7, convF, extF, lenF, eqcF, eqnF, eqN, eqPtr, isNone, loadF, storeF, allocF, callF, gets, Option.map_some, Option.bind_some, B8, B9, Ca, Cb, Cc, nbeq, nble, Cd, Ce, Cf, Cg, Ch, Ci, Cj, Ck, Cl, Cm, Cn, Co, Cp, Cq, Cr, Cs, Ct, Cu, Cv, Cw, Cx, V.w, width, unc, cmpCells, Cy, Cz, C6, C7, C8, Da, undef, List.append_nil, List.nil_append, List.cons_append, Db, Dc, resultsV, result, tup, Dd, Bool.and_true, Bool.true_and, Bool.and_self, decide_true, decide_false, Bool.not_true, Bool.not_false, Bool.true_beq, Bool.false_beq, beq_iff_eq, reduceCtorEq, Nat.succ_eq_add_one, ptr0, Int.ofNat_eq_natCast, Int.ofNat_le, Int.ofNat_lt, Int.natCast_add, De, Df, Dg, Dh, Di, List.map_cons, List.map_nil, Dj, Heap.next_add, Heap.next_set, boxF, buildF, fill, bsliceF, fillRows, List.replicate_one, Dk, Dl, Dm, Dn, Dp, Dq, Dr, Ds, Dt, Du, Dw, Dx, Dy, Dz, D2, D3, D4, D5, D6, D7, D8, D9, Ea, Eb, Ec, appF, List.length_cons, List.length_nil]
    simp
  exact e

theorem bthere {i : Nat} (hi : i < l.length) (lf m : Nat) : callS Try.prog S0 lf (m + 2) 87 [.ptr (some ⟨b, 0⟩), .int .i64 (i : Int)] H = some (.v (.int .i64 0), H) := by
  have e1 := bnone h (fun e => by rw [e] at hi; simp at hi) lf m
  have e2 := bhas h hi lf m
  obtain ⟨v, H', e, rfl, rfl⟩ : ret (callS Try.prog S0 lf (m + 2) 87 [.ptr (some ⟨b, 0⟩), .int .i64 (i : Int)] H) fun v H' => v = .int .i64 0 ∧ H' = H := by
    refine ret_call rfl c87_eq ?_
    simp only [c87, e1, e2, Aa, Ab, Ad, Ae, Af, Ag, Ah, Ai, Aj, Ak, Al, Ao, Ap, Aq, Ar, Au, sO_p, sO_r, sO_m, sO_a, sO_c, Av, Aw, Ax, Ay, Az, sE_p, sE_r, sE_m, sE_a, sE_c, A0, A2, A3, A4, A5, A6, A7, A8, A9, Ba, Bb, Bc, Bd, Be, Bf, Bg, Bh, Bi, Bj, Bl, Bm, Bo, Bp, Bq, Br, Bs, Bt, Bu, Bv, Tr.getP_e, Bw, Bx, ↓reduceIte, Nat.reduceEqDiff, Nat.reduceAdd, Nat.reduceSub, Nat.reduceMul, Nat.reduceDiv, Nat.reduceMod, Nat.zero_add, Nat.add_zero, beq_self_eq_true, Nat.zero_ne_one, Nat.one_ne_zero, Nat.reduceLeDiff, Int.reduceBEq, constF, unF, unary,  pickF, nilcF, faddrF, fldF, iaddrSF, arF, Bz, B3, B4, B5, B6, B7, convF, extF, lenF, eqcF, eqnF, eqN, eqPtr, isNone, loadF, storeF, allocF, callF, gets, Option.map_some, Option.bind_some, B8, B9, Ca, Cb, Cc, nbeq, nble, Cd, Ce, Cf, Cg, Ch, Ci, Cj, Ck, Cl, Cm, Cn, Co, Cp, Cq, Cr, Cs, Ct, Cu, Cv, Cw, Cx, V.w, width, unc, cmpCells, Cy, Cz, C6, C7, C8, Da, undef, List.append_nil, List.nil_append, List.cons_append, Db, Dc, resultsV, result, tup, Dd, Bool.and_true, Bool.true_and, Bool.and_self, decide_true, decide_false, Bool.not_true, Bool.not_false, Bool.true_beq, Bool.false_beq, beq_iff_eq, reduceCtorEq, Nat.succ_eq_add_one, ptr0, Int.ofNat_eq_natCast, Int.ofNat_le, Int.ofNat_lt, Int.natCast_add, De, Df, Dg, Dh, Di, List.map_cons, List.map_nil, Dj, Heap.next_add, Heap.next_set, boxF, buildF, fill, bsliceF, fillRows, List.replicate_one, Dk, Dl, Dm, Dn, Dp, Dq, Dr, Ds, Dt, Du, Dw, Dx, Dy, Dz, D2, D3, D4, D5, D6, D7, D8, D9, Ea, Eb, Ec, appF, List.length_cons, List.length_nil]
    simp
  exact e

theorem blit {i : Nat} (hi : i < l.length) (hd : dk = false) (lf m : Nat) : callS Try.prog S0 lf (m + 3) 86 [.ptr (some ⟨b, 0⟩), .int .i64 (i : Int)] H = some (.v (.int .i64 0), H) := by
  subst hd
  have e1 := bnone h (fun e => by rw [e] at hi; simp at hi) lf (m + 1)
  have e2 := bthere h hi lf m
  have l3 := bload3 h
  change callS Try.prog S0 lf (m + 2) 83 [.ptr (some ⟨b, 0⟩)] H = _ at e1
  obtain ⟨v, H', e, rfl, rfl⟩ : ret (callS Try.prog S0 lf (m + 3) 86 [.ptr (some ⟨b, 0⟩), .int .i64 (i : Int)] H) fun v H' => v = .int .i64 0 ∧ H' = H := by
    refine ret_call rfl c86_eq ?_
    simp only [c86, e1, e2, l3, Aa, Ab, Ad, Ae, Af, Ag, Ah, Ai, Aj, Ak, Al, Ao, Ap, Aq, Ar, Au, sO_p, sO_r, sO_m, sO_a, sO_c, Av, Aw, Ax, Ay, Az, sE_p, sE_r, sE_m, sE_a, sE_c, A0, A2, A3, A4, A5, A6, A7, A8, A9, Ba, Bb, Bc, Bd, Be, Bf, Bg, Bh, Bi, Bj, Bl, Bm, Bo, Bp, Bq, Br, Bs, Bt, Bu, Bv, Tr.getP_e, Bw, Bx, ↓reduceIte, Nat.reduceEqDiff, Nat.reduceAdd, Nat.reduceSub, Nat.reduceMul, Nat.reduceDiv, Nat.reduceMod, Nat.zero_add, Nat.add_zero, beq_self_eq_true, Nat.zero_ne_one, Nat.one_ne_zero, Nat.reduceLeDiff, Int.reduceBEq, constF, unF, unary,  pickF, nilcF, faddrF, fldF, iaddrSF, arF, Bz, B3, B4, B5, B6, B7, convF, extF, lenF, eqcF, eqnF, eqN, eqPtr, isNone, loadF, storeF, allocF, callF, gets, Option.map_some, Option.bind_some, B8, B9, Ca, Cb, Cc, nbeq, nble, Cd, Ce, Cf, Cg, Ch, Ci, Cj, Ck, Cl, Cm, Cn, Co, Cp, Cq, Cr, Cs, Ct, Cu, Cv, Cw, Cx, V.w, width, unc, cmpCells, Cy, Cz, C6, C7, C8, Da, undef, List.append_nil, List.nil_append, List.cons_append, Db, Dc, resultsV, result, tup, Dd, Bool.and_true, Bool.true_and, Bool.and_self, decide_true, decide_false, Bool.not_true, Bool.not_false, Bool.true_beq, Bool.false_beq, beq_iff_eq, reduceCtorEq, Nat.succ_eq_add_one, ptr0, Int.ofNat_eq_natCast, Int.ofNat_le, Int.ofNat_lt, Int.natCast_add, De, Df, Dg, Dh, Di, List.map_cons, List.map_nil, Dj, Heap.next_add, Heap.next_set, boxF, buildF, fill, bsliceF, fillRows, List.replicate_one, Dk, Dl, Dm, Dn, Dp, Dq, Dr, Ds, Dt, Du, Dw, Dx, Dy, Dz, D2, D3, D4, D5, D6, D7, D8, D9, Ea, Eb, Ec, appF, List.length_cons, List.length_nil]
    simp
  exact e

theorem blit_dark (hl : l ≠ []) (hd : dk = true) (d : Int) (lf m : Nat) : callS Try.prog S0 lf (m + 3) 86 [.ptr (some ⟨b, 0⟩), .int .i64 d] H = some (.v (.int .i64 8), H) := by
  subst hd
  have e1 := bnone h hl lf (m + 1)
  have l3 := bload3 h
  change callS Try.prog S0 lf (m + 2) 83 [.ptr (some ⟨b, 0⟩)] H = _ at e1
  obtain ⟨v, H', e, rfl, rfl⟩ : ret (callS Try.prog S0 lf (m + 3) 86 [.ptr (some ⟨b, 0⟩), .int .i64 d] H) fun v H' => v = .int .i64 8 ∧ H' = H := by
    refine ret_call rfl c86_eq ?_
    simp only [c86, e1, l3, Aa, Ab, Ad, Ae, Af, Ag, Ah, Ai, Aj, Ak, Al, Ao, Ap, Aq, Ar, Au, sO_p, sO_r, sO_m, sO_a, sO_c, Av, Aw, Ax, Ay, Az, sE_p, sE_r, sE_m, sE_a, sE_c, A0, A2, A3, A4, A5, A6, A7, A8, A9, Ba, Bb, Bc, Bd, Be, Bf, Bg, Bh, Bi, Bj, Bl, Bm, Bo, Bp, Bq, Br, Bs, Bt, Bu, Bv, Tr.getP_e, Bw, Bx, ↓reduceIte, Nat.reduceEqDiff, Nat.reduceAdd, Nat.reduceSub, Nat.reduceMul, Nat.reduceDiv, Nat.reduceMod, Nat.zero_add, Nat.add_zero, beq_self_eq_true, Nat.zero_ne_one, Nat.one_ne_zero, Nat.reduceLeDiff, Int.reduceBEq, constF, unF, unary,  pickF, nilcF, faddrF, fldF, iaddrSF, arF, Bz, B3, B4, B5, B6, B7, convF, extF, lenF, eqcF, eqnF, eqN, eqPtr, isNone, loadF, storeF, allocF, callF, gets, Option.map_some, Option.bind_some, B8, B9, Ca, Cb, Cc, nbeq, nble, Cd, Ce, Cf, Cg, Ch, Ci, Cj, Ck, Cl, Cm, Cn, Co, Cp, Cq, Cr, Cs, Ct, Cu, Cv, Cw, Cx, V.w, width, unc, cmpCells, Cy, Cz, C6, C7, C8, Da, undef, List.append_nil, List.nil_append, List.cons_append, Db, Dc, resultsV, result, tup, Dd, Bool.and_true, Bool.true_and, Bool.and_self, decide_true, decide_false, Bool.not_true, Bool.not_false, Bool.true_beq, Bool.false_beq, beq_iff_eq, reduceCtorEq, Nat.succ_eq_add_one, ptr0, Int.ofNat_eq_natCast, Int.ofNat_le, Int.ofNat_lt, Int.natCast_add, De, Df, Dg, Dh, Di, List.map_cons, List.map_nil, Dj, Heap.next_add, Heap.next_set, boxF, buildF, fill, bsliceF, fillRows, List.replicate_one, Dk, Dl, Dm, Dn, Dp, Dq, Dr, Ds, Dt, Du, Dw, Dx, Dy, Dz, D2, D3, D4, D5, D6, D7, D8, D9, Ea, Eb, Ec, appF, List.length_cons, List.length_nil]
    simp
  exact e

theorem bdark (hl : l ≠ []) (lf m : Nat) : callS Try.prog S0 lf (m + 2) 34 [.ptr (some ⟨b, 0⟩)] H = some (.v (.bool dk), H) := by
  have e1 := bnone h hl lf m
  have l3 := bload3 h
  obtain ⟨v, H', e, rfl, rfl⟩ : ret (callS Try.prog S0 lf (m + 2) 34 [.ptr (some ⟨b, 0⟩)] H) fun v H' => v = .bool dk ∧ H' = H := by
    refine ret_call rfl c34_eq ?_
    simp only [c34, e1, l3, Aa, Ab, Ad, Ae, Af, Ag, Ah, Ai, Aj, Ak, Al, Ao, Ap, Aq, Ar, Au, sO_p, sO_r, sO_m, sO_a, sO_c, Av, Aw, Ax, Ay, Az, sE_p, sE_r, sE_m, sE_a, sE_c, A0, A2, A3, A4, A5, A6, A7, A8, A9, Ba, Bb, Bc, Bd, Be, Bf, Bg, Bh, Bi, Bj, Bl, Bm, Bo, Bp, Bq, Br, Bs, Bt, Bu, Bv, Tr.getP_e, Bw, Bx, ↓reduceIte, Nat.reduceEqDiff, Nat.reduceAdd, Nat.reduceSub, Nat.reduceMul, Nat.reduceDiv, Nat.reduceMod, Nat.zero_add, Nat.add_zero, beq_self_eq_true, Nat.zero_ne_one, Nat.one_ne_zero, Nat.reduceLeDiff, Int.reduceBEq, constF, unF, unary,  pickF, nilcF, faddrF, fldF, iaddrSF, arF, Bz, B3, B4, B5, B6, B7, convF, extF, lenF, eqcF, eqnF, eqN, eqPtr, isNone, loadF, storeF, allocF, callF, gets, Option.map_some, Option.bind_some, B8, B9, Ca, Cb, Cc, nbeq, nble, Cd, Ce, Cf, Cg, Ch, Ci, Cj, Ck, Cl, Cm, Cn, Co, Cp, Cq, Cr, Cs, Ct, Cu, Cv, Cw, Cx, V.w, width, unc, cmpCells, Cy, Cz, C6, C7, C8, Da, undef, List.append_nil, List.nil_append, List.cons_append, Db, Dc, resultsV, result, tup, Dd, Bool.and_true, Bool.true_and, Bool.and_self, decide_true, decide_false, Bool.not_true, Bool.not_false, Bool.true_beq, Bool.false_beq, beq_iff_eq, reduceCtorEq, Nat.succ_eq_add_one, ptr0, Int.ofNat_eq_natCast, Int.ofNat_le, Int.ofNat_lt, Int.natCast_add, De, Df, Dg, Dh, Di, List.map_cons, List.map_nil, Dj, Heap.next_add, Heap.next_set, boxF, buildF, fill, bsliceF, fillRows, List.replicate_one, Dk, Dl, Dm, Dn, Dp, Dq, Dr, Ds, Dt, Du, Dw, Dx, Dy, Dz, D2, D3, D4, D5, D6, D7, D8, D9, Ea, Eb, Ec, appF, List.length_cons, List.length_nil]
    simp
  exact e

theorem bsteps (hl : l ≠ []) (lf m : Nat) : callS Try.prog S0 lf (m + 2) 35 [.ptr (some ⟨b, 0⟩)] H = some (.v (.int .i64 st), H) := by
  have e1 := bnone h hl lf m
  have l1 := bload1 h
  obtain ⟨v, H', e, rfl, rfl⟩ : ret (callS Try.prog S0 lf (m + 2) 35 [.ptr (some ⟨b, 0⟩)] H) fun v H' => v = .int .i64 st ∧ H' = H := by
    refine ret_call rfl c35_eq ?_
    simp only [c35, e1, l1, Aa, Ab, Ad, Ae, Af, Ag, Ah, Ai, Aj, Ak, Al, Ao, Ap, Aq, Ar, Au, sO_p, sO_r, sO_m, sO_a, sO_c, Av, Aw, Ax, Ay, Az, sE_p, sE_r, sE_m, sE_a, sE_c, A0, A2, A3, A4, A5, A6, A7, A8, A9, Ba, Bb, Bc, Bd, Be, Bf, Bg, Bh, Bi, Bj, Bl, Bm, Bo, Bp, Bq, Br, Bs, Bt, Bu, Bv, Tr.getP_e, Bw, Bx, ↓reduceIte, Nat.reduceEqDiff, Nat.reduceAdd, Nat.reduceSub, Nat.reduceMul, Nat.reduceDiv, Nat.reduceMod, Nat.zero_add, Nat.add_zero, beq_self_eq_true, Nat.zero_ne_one, Nat.one_ne_zero, Nat.reduceLeDiff, Int.reduceBEq, constF, unF, unary,  pickF, nilcF, faddrF, fldF, iaddrSF, arF, Bz, B3, B4, B5, B6, B7, convF, extF, lenF, eqcF, eqnF, eqN, eqPtr, isNone, loadF, storeF, allocF, callF, gets, Option.map_some, Option.bind_some, B8, B9, Ca, Cb, Cc, nbeq, nble, Cd, Ce, Cf, Cg, Ch, Ci, Cj, Ck, Cl, Cm, Cn, Co, Cp, Cq, Cr, Cs, Ct, Cu, Cv, Cw, Cx, V.w, width, unc, cmpCells, Cy, Cz, C6, C7, C8, Da, undef, List.append_nil, List.nil_append, List.cons_append, Db, Dc, resultsV, result, tup, Dd, Bool.and_true, Bool.true_and, Bool.and_self, decide_true, decide_false, Bool.not_true, Bool.not_false, Bool.true_beq, Bool.false_beq, beq_iff_eq, reduceCtorEq, Nat.succ_eq_add_one, ptr0, Int.ofNat_eq_natCast, Int.ofNat_le, Int.ofNat_lt, Int.natCast_add, De, Df, Dg, Dh, Di, List.map_cons, List.map_nil, Dj, Heap.next_add, Heap.next_set, boxF, buildF, fill, bsliceF, fillRows, List.replicate_one, Dk, Dl, Dm, Dn, Dp, Dq, Dr, Ds, Dt, Du, Dw, Dx, Dy, Dz, D2, D3, D4, D5, D6, D7, D8, D9, Ea, Eb, Ec, appF, List.length_cons, List.length_nil]
    simp
  exact e

theorem barm (hl : l ≠ []) (hd : dk = false) {x : Int} (hx : 0 ≤ x) (lf m : Nat) : callS Try.prog S0 lf (m + 2) 31 [.ptr (some ⟨b, 0⟩), .int .i64 x] H = some (.v (.int .i64 0), H.set b (.rows false 4 [[.slice (some ⟨ds, 0⟩) l.length l.length so, .int .i64 st, .int .i64 x, .bool dk]])) := by
  subst hd
  have e1 := bnone h hl lf m
  have l3 := bload3 h
  have s2 := bstore2 h x
  have hx' : ¬ (x < 0) := by omega
  obtain ⟨v, H', e, rfl, rfl⟩ : ret (callS Try.prog S0 lf (m + 2) 31 [.ptr (some ⟨b, 0⟩), .int .i64 x] H) fun v H' => v = .int .i64 0 ∧ H' = H.set b (.rows false 4 [[.slice (some ⟨ds, 0⟩) l.length l.length so, .int .i64 st, .int .i64 x, .bool false]]) := by
    refine ret_call rfl c31_eq ?_
    simp only [c31, e1, l3, s2, hx', Aa, Ab, Ad, Ae, Af, Ag, Ah, Ai, Aj, Ak, Al, Ao, Ap, Aq, Ar, Au, sO_p, sO_r, sO_m, sO_a, sO_c, Av, Aw, Ax, Ay, Az, sE_p, sE_r, sE_m, sE_a, sE_c, A0, A2, A3, A4, A5, A6, A7, A8, A9, Ba, Bb, Bc, Bd, Be, Bf, Bg, Bh, Bi, Bj, Bl, Bm, Bo, Bp, Bq, Br, Bs, Bt, Bu, Bv, Tr.getP_e, Bw, Bx, ↓reduceIte, Nat.reduceEqDiff, Nat.reduceAdd, Nat.reduceSub, Nat.reduceMul, Nat.reduceDiv, Nat.reduceMod, Nat.zero_add, Nat.add_zero, beq_self_eq_true, Nat.zero_ne_one, Nat.one_ne_zero, Nat.reduceLeDiff, Int.reduceBEq, constF, unF, unary,  pickF, nilcF, faddrF, fldF, iaddrSF, arF, Bz, B3, B4, B5, B6, B7, convF, extF, lenF, eqcF, eqnF, eqN, eqPtr, isNone, loadF, storeF, allocF, callF, gets, Option.map_some, Option.bind_some, B8, B9, Ca, Cb, Cc, nbeq, nble, Cd, Ce, Cf, Cg, Ch, Ci, Cj, Ck, Cl, Cm, Cn, Co, Cp, Cq, Cr, Cs, Ct, Cu, Cv, Cw, Cx, V.w, width, unc, cmpCells, Cy, Cz, C6, C7, C8, Da, undef, List.append_nil, List.nil_append, List.cons_append, Db, Dc, resultsV, result, tup, Dd, Bool.and_true, Bool.true_and, Bool.and_self, decide_true, decide_false, Bool.not_true, Bool.not_false, Bool.true_beq, Bool.false_beq, beq_iff_eq, reduceCtorEq, Nat.succ_eq_add_one, ptr0, Int.ofNat_eq_natCast, Int.ofNat_le, Int.ofNat_lt, Int.natCast_add, De, Df, Dg, Dh, Di, List.map_cons, List.map_nil, Dj, Heap.next_add, Heap.next_set, boxF, buildF, fill, bsliceF, fillRows, List.replicate_one, Dk, Dl, Dm, Dn, Dp, Dq, Dr, Ds, Dt, Du, Dw, Dx, Dy, Dz, D2, D3, D4, D5, D6, D7, D8, D9, Ea, Eb, Ec, appF, List.length_cons, List.length_nil]
    simp
  exact e

theorem barm_dark (hl : l ≠ []) (hd : dk = true) (x : Int) (lf m : Nat) : callS Try.prog S0 lf (m + 2) 31 [.ptr (some ⟨b, 0⟩), .int .i64 x] H = some (.v (.int .i64 8), H) := by
  subst hd
  have e1 := bnone h hl lf m
  have l3 := bload3 h
  obtain ⟨v, H', e, rfl, rfl⟩ : ret (callS Try.prog S0 lf (m + 2) 31 [.ptr (some ⟨b, 0⟩), .int .i64 x] H) fun v H' => v = .int .i64 8 ∧ H' = H := by
    refine ret_call rfl c31_eq ?_
    simp only [c31, e1, l3, Aa, Ab, Ad, Ae, Af, Ag, Ah, Ai, Aj, Ak, Al, Ao, Ap, Aq, Ar, Au, sO_p, sO_r, sO_m, sO_a, sO_c, Av, Aw, Ax, Ay, Az, sE_p, sE_r, sE_m, sE_a, sE_c, A0, A2, A3, A4, A5, A6, A7, A8, A9, Ba, Bb, Bc, Bd, Be, Bf, Bg, Bh, Bi, Bj, Bl, Bm, Bo, Bp, Bq, Br, Bs, Bt, Bu, Bv, Tr.getP_e, Bw, Bx, ↓reduceIte, Nat.reduceEqDiff, Nat.reduceAdd, Nat.reduceSub, Nat.reduceMul, Nat.reduceDiv, Nat.reduceMod, Nat.zero_add, Nat.add_zero, beq_self_eq_true, Nat.zero_ne_one, Nat.one_ne_zero, Nat.reduceLeDiff, Int.reduceBEq, constF, unF, unary,  pickF, nilcF, faddrF, fldF, iaddrSF, arF, Bz, B3, B4, B5, B6, B7, convF, extF, lenF, eqcF, eqnF, eqN, eqPtr, isNone, loadF, storeF, allocF, callF, gets, Option.map_some, Option.bind_some, B8, B9, Ca, Cb, Cc, nbeq, nble, Cd, Ce, Cf, Cg, Ch, Ci, Cj, Ck, Cl, Cm, Cn, Co, Cp, Cq, Cr, Cs, Ct, Cu, Cv, Cw, Cx, V.w, width, unc, cmpCells, Cy, Cz, C6, C7, C8, Da, undef, List.append_nil, List.nil_append, List.cons_append, Db, Dc, resultsV, result, tup, Dd, Bool.and_true, Bool.true_and, Bool.and_self, decide_true, decide_false, Bool.not_true, Bool.not_false, Bool.true_beq, Bool.false_beq, beq_iff_eq, reduceCtorEq, Nat.succ_eq_add_one, ptr0, Int.ofNat_eq_natCast, Int.ofNat_le, Int.ofNat_lt, Int.natCast_add, De, Df, Dg, Dh, Di, List.map_cons, List.map_nil, Dj, Heap.next_add, Heap.next_set, boxF, buildF, fill, bsliceF, fillRows, List.replicate_one, Dk, Dl, Dm, Dn, Dp, Dq, Dr, Ds, Dt, Du, Dw, Dx, Dy, Dz, D2, D3, D4, D5, D6, D7, D8, D9, Ea, Eb, Ec, appF, List.length_cons, List.length_nil]
    simp
  exact e

theorem bread {i : Nat} (hi : i < l.length) (hd : dk = false) (n : Int) {lf : Nat} (hS : l[i].D.S ≠ []) (hlf : l[i].D.L.length + 1 < lf) (hmax : l[i].D.L.length < 1000000) (m : Nat) :
    ret (callS Try.prog S0 lf (m + 4) 40 [.ptr (some ⟨b, 0⟩), .int .i64 (i : Int), .int .i64 n] H) fun v H' => v = .tuple [.blk (l[i].D.read n), .int .i64 (code l[i].D n)] ∧ Turns Z H H' := by
  have t1 := Turns.add Z H (.rows false 64 [[.blk 0]])
  have h' := h.turns t1
  have e1 := blit h' hi hd lf m
  have l0 := bload0 h'
  have lp := bloadP h' hi
  have hi1 : i + 1 ≤ l.length := hi
  obtain ⟨v, H1, e2, rfl, t2⟩ := read_all (h'.dev i hi) hS hlf hmax n m
  have g0 : H1.get (.run H.next) = some (.rows false 64 [[.blk 0]]) := by
    rw [t2.same _ (by show _ < _; simp) id, Heap.get_add, if_pos rfl]
  have st := cell_store (v := l[i].D.read n) g0
  refine ret_call rfl c40_eq ?_
  simp only [c40, e1, l0, lp, hi1, e2, st, Nat.mul_one, Aa, Ab, Ad, Ae, Af, Ag, Ah, Ai, Aj, Ak, Al, Ao, Ap, Aq, Ar, Au, sO_p, sO_r, sO_m, sO_a, sO_c, Av, Aw, Ax, Ay, Az, sE_p, sE_r, sE_m, sE_a, sE_c, A0, A2, A3, A4, A5, A6, A7, A8, A9, Ba, Bb, Bc, Bd, Be, Bf, Bg, Bh, Bi, Bj, Bl, Bm, Bo, Bp, Bq, Br, Bs, Bt, Bu, Bv, Tr.getP_e, Bw, Bx, ↓reduceIte, Nat.reduceEqDiff, Nat.reduceAdd, Nat.reduceSub, Nat.reduceMul, Nat.reduceDiv, Nat.reduceMod, Nat.zero_add, Nat.add_zero, beq_self_eq_true, Nat.zero_ne_one, Nat.one_ne_zero, Nat.reduceLeDiff, Int.reduceBEq, constF, unF, unary,  pickF, nilcF, faddrF, fldF, iaddrSF, arF, Bz, B3, B4, B5, B6, B7, convF, extF, lenF, eqcF, eqnF, eqN, eqPtr, isNone, loadF, storeF, allocF, callF, gets, Option.map_some, Option.bind_some, B8, B9, Ca, Cb, Cc, nbeq, nble, Cd, Ce, Cf, Cg, Ch, Ci, Cj, Ck, Cl, Cm, Cn, Co, Cp, Cq, Cr, Cs, Ct, Cu, Cv, Cw, Cx, V.w, width, unc, cmpCells, Cy, Cz, C6, C7, C8, Da, undef, List.append_nil, List.nil_append, List.cons_append, Db, Dc, resultsV, result, tup, Dd, Bool.and_true, Bool.true_and, Bool.and_self, decide_true, decide_false, Bool.not_true, Bool.not_false, Bool.true_beq, Bool.false_beq, beq_iff_eq, reduceCtorEq, Nat.succ_eq_add_one, ptr0, Int.ofNat_eq_natCast, Int.ofNat_le, Int.ofNat_lt, Int.natCast_add, De, Df, Dg, Dh, Di, List.map_cons, List.map_nil, Dj, Heap.next_add, Heap.next_set, boxF, buildF, fill, bsliceF, fillRows, List.replicate_one, Dk, Dl, Dm, Dn, Dp, Dq, Dr, Ds, Dt, Du, Dw, Dx, Dy, Dz, D2, D3, D4, D5, D6, D7, D8, D9, Ea, Eb, Ec, appF, List.length_cons, List.length_nil]
  exact ⟨trivial, .inr trivial, _, rfl, rfl, (t1.trans t2).setnew (Nat.le_refl _) _⟩

end

end Go.Proofs.Ytcelngepfdchiaa.disk

