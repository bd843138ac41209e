/-
  A bench in the machine's heap: whatever is asked of whatever device.
-/
import Derived.Test.YtcelngepfdchiaaBench2
import Derived.Test.YtcelngepfdchiaaWf
set_option linter.unusedVariables false
set_option linter.unusedSectionVars false
set_option linter.unusedSimpArgs false
set_option maxRecDepth 10000
namespace Go.Proofs.Ytcelngepfdchiaa.disk
open Go.Am

/-- (*ashlar/bench.Bench).Fail -/
noncomputable def c38 : CFn := ⟨[.tmp (Tr.path 4)],
 .seq (.reg [
  ⟨(some (Tr.path 4)), (some (.p (S.get (.c (.int .i64 0))))), none, []⟩]) (
 .seq (.seq (.reg [
   ⟨(some (Tr.path 6)), (some (.p (S.get (.t (Tr.path 0))))), none, [Tr.path 0]⟩,
   ⟨(some (Tr.path 7)), (some (.p (S.get (.t (Tr.path 1))))), none, [Tr.path 1]⟩,
   ⟨(some (Tr.path 8)), (some (.c (callF (.c (.func (.func 87) [] [])) [(.t (Tr.path 6)), (.t (Tr.path 7))]))), none, [Tr.path 6, Tr.path 7]⟩,
   ⟨(some (Tr.path 5)), (some (.p (S.get (.t (Tr.path 8))))), none, [Tr.path 8]⟩]) (
  .seq (.reg [
   ⟨(some (Tr.path 9)), (some (.p (S.get (.t (Tr.path 5))))), none, [Tr.path 5]⟩,
   ⟨(some (Tr.path 10)), (some (.p (eqcF true false [.int .i64] (.t (Tr.path 9)) (.c (.int .i64 0))))), none, [Tr.path 9]⟩]) (
  .cond (.t (Tr.path 10)) (.seq (.reg [
     ⟨(some (Tr.path 11)), (some (.p (S.get (.t (Tr.path 5))))), none, [Tr.path 5]⟩,
     ⟨(some (Tr.path 4)), (some (.p (S.get (.t (Tr.path 11))))), none, [Tr.path 11]⟩]) (
    .ret)) (.skip)))) (
 .seq (.reg [
  ⟨(some (Tr.path 12)), (some (.p (S.get (.t (Tr.path 0))))), none, [Tr.path 0]⟩,
  ⟨(some (Tr.path 13)), (some (.p (nilcF (.t (Tr.path 12))))), none, [Tr.path 12]⟩,
  ⟨(some (Tr.path 14)), (some (.p (faddrF (.t (Tr.path 13)) 0))), none, [Tr.path 13]⟩,
  ⟨(some (Tr.path 15)), (some (.r (loadF (.t (Tr.path 14)) 1 .sc))), none, [Tr.path 14]⟩,
  ⟨(some (Tr.path 16)), (some (.p (S.get (.t (Tr.path 1))))), none, [Tr.path 1]⟩,
  ⟨(some (Tr.path 17)), (some (.p (iaddrSF (.t (Tr.path 15)) (.t (Tr.path 16)) 1))), none, [Tr.path 15, Tr.path 16]⟩,
  ⟨(some (Tr.path 18)), (some (.r (loadF (.t (Tr.path 17)) 1 .sc))), none, [Tr.path 17]⟩,
  ⟨(some (Tr.path 19)), (some (.c (callF (.c (.func (.func 42) [] [])) [(.t (Tr.path 18))]))), none, [Tr.path 18]⟩,
  ⟨(some (Tr.path 4)), (some (.p (S.get (.t (Tr.path 19))))), none, [Tr.path 19]⟩]) (
 .ret)))⟩
theorem c38_eq : fnOf Try.prog 38 = some c38 := by kernel_rfl

/-- (*ashlar/bench.Bench).Dead -/
noncomputable def c39 : CFn := ⟨[.tmp (Tr.path 4)],
 .seq (.reg [
  ⟨(some (Tr.path 4)), (some (.p (S.get (.c (.bool false))))), none, []⟩]) (
 .seq (.reg [
  ⟨(some (Tr.path 5)), (some (.p (S.get (.t (Tr.path 0))))), none, [Tr.path 0]⟩,
  ⟨(some (Tr.path 6)), (some (.p (S.get (.t (Tr.path 1))))), none, [Tr.path 1]⟩,
  ⟨(some (Tr.path 7)), (some (.c (callF (.c (.func (.func 87) [] [])) [(.t (Tr.path 5)), (.t (Tr.path 6))]))), none, [Tr.path 5, Tr.path 6]⟩,
  ⟨(some (Tr.path 8)), (some (.p (eqcF false false [.int .i64] (.t (Tr.path 7)) (.c (.int .i64 0))))), none, [Tr.path 7]⟩,
  ⟨(some (Tr.path 9)), (some (.p (S.get (.t (Tr.path 8))))), none, [Tr.path 8]⟩,
  ⟨(some (Tr.path 10)), (some (.p (S.get (.t (Tr.path 0))))), (some (some (Tr.path 9), true)), [Tr.path 0]⟩,
  ⟨(some (Tr.path 11)), (some (.p (nilcF (.t (Tr.path 10))))), (some (some (Tr.path 9), true)), [Tr.path 10]⟩,
  ⟨(some (Tr.path 12)), (some (.p (faddrF (.t (Tr.path 11)) 0))), (some (some (Tr.path 9), true)), [Tr.path 11]⟩,
  ⟨(some (Tr.path 13)), (some (.r (loadF (.t (Tr.path 12)) 1 .sc))), (some (some (Tr.path 9), true)), [Tr.path 12]⟩,
  ⟨(some (Tr.path 14)), (some (.p (S.get (.t (Tr.path 1))))), (some (some (Tr.path 9), true)), [Tr.path 1]⟩,
  ⟨(some (Tr.path 15)), (some (.p (iaddrSF (.t (Tr.path 13)) (.t (Tr.path 14)) 1))), (some (some (Tr.path 9), true)), [Tr.path 13, Tr.path 14]⟩,
  ⟨(some (Tr.path 16)), (some (.r (loadF (.t (Tr.path 15)) 1 .sc))), (some (some (Tr.path 9), true)), [Tr.path 15]⟩,
  ⟨(some (Tr.path 17)), (some (.c (callF (.c (.func (.func 82) [] [])) [(.t (Tr.path 16))]))), (some (some (Tr.path 9), true)), [Tr.path 16]⟩,
  ⟨(some (Tr.path 18)), (some (.p (pickF (.t (Tr.path 9)) (.t (Tr.path 17)) (.c (.bool false))))), none, [Tr.path 9, Tr.path 17]⟩,
  ⟨(some (Tr.path 4)), (some (.p (S.get (.t (Tr.path 18))))), none, [Tr.path 18]⟩]) (
 .ret))⟩
theorem c39_eq : fnOf Try.prog 39 = some c39 := by kernel_rfl

/-- (*ashlar/bench.Bench).Sectors -/
noncomputable def c41 : CFn := ⟨[.tmp (Tr.path 4)],
 .seq (.reg [
  ⟨(some (Tr.path 4)), (some (.p (S.get (.c (.int .i64 0))))), none, []⟩]) (
 .seq (.seq (.reg [
   ⟨(some (Tr.path 5)), (some (.p (S.get (.t (Tr.path 0))))), none, [Tr.path 0]⟩,
   ⟨(some (Tr.path 6)), (some (.p (S.get (.t (Tr.path 1))))), none, [Tr.path 1]⟩,
   ⟨(some (Tr.path 7)), (some (.c (callF (.c (.func (.func 87) [] [])) [(.t (Tr.path 5)), (.t (Tr.path 6))]))), none, [Tr.path 5, Tr.path 6]⟩,
   ⟨(some (Tr.path 8)), (some (.p (eqcF true false [.int .i64] (.t (Tr.path 7)) (.c (.int .i64 0))))), none, [Tr.path 7]⟩]) (
  .cond (.t (Tr.path 8)) (.seq (.reg [
     ⟨(some (Tr.path 4)), (some (.p (S.get (.c (.int .i64 0))))), none, []⟩]) (
    .ret)) (.skip))) (
 .seq (.reg [
  ⟨(some (Tr.path 9)), (some (.p (S.get (.t (Tr.path 0))))), none, [Tr.path 0]⟩,
  ⟨(some (Tr.path 10)), (some (.p (nilcF (.t (Tr.path 9))))), none, [Tr.path 9]⟩,
  ⟨(some (Tr.path 11)), (some (.p (faddrF (.t (Tr.path 10)) 0))), none, [Tr.path 10]⟩,
  ⟨(some (Tr.path 12)), (some (.r (loadF (.t (Tr.path 11)) 1 .sc))), none, [Tr.path 11]⟩,
  ⟨(some (Tr.path 13)), (some (.p (S.get (.t (Tr.path 1))))), none, [Tr.path 1]⟩,
  ⟨(some (Tr.path 14)), (some (.p (iaddrSF (.t (Tr.path 12)) (.t (Tr.path 13)) 1))), none, [Tr.path 12, Tr.path 13]⟩,
  ⟨(some (Tr.path 15)), (some (.r (loadF (.t (Tr.path 14)) 1 .sc))), none, [Tr.path 14]⟩,
  ⟨(some (Tr.path 16)), (some (.c (callF (.c (.func (.func 81) [] [])) [(.t (Tr.path 15))]))), none, [Tr.path 15]⟩,
  ⟨(some (Tr.path 4)), (some (.p (S.get (.t (Tr.path 16))))), none, [Tr.path 16]⟩]) (
 .ret)))⟩
theorem c41_eq : fnOf Try.prog 41 = some c41 := by kernel_rfl

/-- (*ashlar/bench.Bench).Sure -/
noncomputable def c95 : CFn := ⟨[.cell (Tr.path 6) 64 .bk, .tmp (Tr.path 7)],
 .seq (.reg [
  ⟨(some (Tr.path 6)), (some (.m (allocF 64 [.blk 0]))), none, []⟩,
  ⟨(some (Tr.path 7)), (some (.p (S.get (.c (.int .i64 0))))), none, []⟩]) (
 .seq (.seq (.reg [
   ⟨(some (Tr.path 9)), (some (.p (S.get (.t (Tr.path 0))))), none, [Tr.path 0]⟩,
   ⟨(some (Tr.path 10)), (some (.p (S.get (.t (Tr.path 1))))), none, [Tr.path 1]⟩,
   ⟨(some (Tr.path 11)), (some (.c (callF (.c (.func (.func 87) [] [])) [(.t (Tr.path 9)), (.t (Tr.path 10))]))), none, [Tr.path 9, Tr.path 10]⟩,
   ⟨(some (Tr.path 8)), (some (.p (S.get (.t (Tr.path 11))))), none, [Tr.path 11]⟩]) (
  .seq (.reg [
   ⟨(some (Tr.path 12)), (some (.p (S.get (.t (Tr.path 8))))), none, [Tr.path 8]⟩,
   ⟨(some (Tr.path 13)), (some (.p (eqcF true false [.int .i64] (.t (Tr.path 12)) (.c (.int .i64 0))))), none, [Tr.path 12]⟩]) (
  .cond (.t (Tr.path 13)) (.seq (.reg [
     ⟨(some (Tr.path 14)), (some (.p (buildF [.blk 0] .bk []))), none, []⟩,
     ⟨(some (Tr.path 15)), (some (.p (S.get (.t (Tr.path 8))))), none, [Tr.path 8]⟩,
     ⟨none, (some (.a (storeF (.t (Tr.path 6)) (.t (Tr.path 14)) 64))), none, [Tr.path 6, Tr.path 14]⟩,
     ⟨(some (Tr.path 7)), (some (.p (S.get (.t (Tr.path 15))))), none, [Tr.path 15]⟩]) (
    .ret)) (.skip)))) (
 .seq (.reg [
  ⟨(some (Tr.path 16)), (some (.p (S.get (.t (Tr.path 0))))), none, [Tr.path 0]⟩,
  ⟨(some (Tr.path 17)), (some (.p (nilcF (.t (Tr.path 16))))), none, [Tr.path 16]⟩,
  ⟨(some (Tr.path 18)), (some (.p (faddrF (.t (Tr.path 17)) 0))), none, [Tr.path 17]⟩,
  ⟨(some (Tr.path 19)), (some (.r (loadF (.t (Tr.path 18)) 1 .sc))), none, [Tr.path 18]⟩,
  ⟨(some (Tr.path 20)), (some (.p (S.get (.t (Tr.path 1))))), none, [Tr.path 1]⟩,
  ⟨(some (Tr.path 21)), (some (.p (iaddrSF (.t (Tr.path 19)) (.t (Tr.path 20)) 1))), none, [Tr.path 19, Tr.path 20]⟩,
  ⟨(some (Tr.path 22)), (some (.r (loadF (.t (Tr.path 21)) 1 .sc))), none, [Tr.path 21]⟩,
  ⟨(some (Tr.path 23)), (some (.p (S.get (.t (Tr.path 2))))), none, [Tr.path 2]⟩,
  ⟨(some (Tr.path 24)), (some (.c (callF (.c (.func (.func 20) [] [])) [(.t (Tr.path 22)), (.t (Tr.path 23))]))), none, [Tr.path 22, Tr.path 23]⟩,
  ⟨(some (Tr.path 25)), (some (.p (extF (.t (Tr.path 24)) 0))), none, [Tr.path 24]⟩,
  ⟨(some (Tr.path 26)), (some (.p (extF (.t (Tr.path 24)) 1))), none, [Tr.path 24]⟩,
  ⟨none, (some (.a (storeF (.t (Tr.path 6)) (.t (Tr.path 25)) 64))), none, [Tr.path 6, Tr.path 25]⟩,
  ⟨(some (Tr.path 7)), (some (.p (S.get (.t (Tr.path 26))))), none, [Tr.path 26]⟩]) (
 .ret)))⟩
theorem c95_eq : fnOf Try.prog 95 = some c95 := by kernel_rfl

/-- (*ashlar/bench.Bench).Rot -/
noncomputable def c43 : CFn := ⟨[.tmp (Tr.path 10)],
 .seq (.reg [
  ⟨(some (Tr.path 10)), (some (.p (S.get (.c (.int .i64 0))))), none, []⟩]) (
 .seq (.seq (.reg [
   ⟨(some (Tr.path 12)), (some (.p (S.get (.t (Tr.path 0))))), none, [Tr.path 0]⟩,
   ⟨(some (Tr.path 13)), (some (.p (S.get (.t (Tr.path 1))))), none, [Tr.path 1]⟩,
   ⟨(some (Tr.path 14)), (some (.c (callF (.c (.func (.func 87) [] [])) [(.t (Tr.path 12)), (.t (Tr.path 13))]))), none, [Tr.path 12, Tr.path 13]⟩,
   ⟨(some (Tr.path 11)), (some (.p (S.get (.t (Tr.path 14))))), none, [Tr.path 14]⟩]) (
  .seq (.reg [
   ⟨(some (Tr.path 15)), (some (.p (S.get (.t (Tr.path 11))))), none, [Tr.path 11]⟩,
   ⟨(some (Tr.path 16)), (some (.p (eqcF true false [.int .i64] (.t (Tr.path 15)) (.c (.int .i64 0))))), none, [Tr.path 15]⟩]) (
  .cond (.t (Tr.path 16)) (.seq (.reg [
     ⟨(some (Tr.path 17)), (some (.p (S.get (.t (Tr.path 11))))), none, [Tr.path 11]⟩,
     ⟨(some (Tr.path 10)), (some (.p (S.get (.t (Tr.path 17))))), none, [Tr.path 17]⟩]) (
    .ret)) (.skip)))) (
 .seq (.reg [
  ⟨(some (Tr.path 18)), (some (.p (S.get (.t (Tr.path 0))))), none, [Tr.path 0]⟩,
  ⟨(some (Tr.path 19)), (some (.p (nilcF (.t (Tr.path 18))))), none, [Tr.path 18]⟩,
  ⟨(some (Tr.path 20)), (some (.p (faddrF (.t (Tr.path 19)) 0))), none, [Tr.path 19]⟩,
  ⟨(some (Tr.path 21)), (some (.r (loadF (.t (Tr.path 20)) 1 .sc))), none, [Tr.path 20]⟩,
  ⟨(some (Tr.path 22)), (some (.p (S.get (.t (Tr.path 1))))), none, [Tr.path 1]⟩,
  ⟨(some (Tr.path 23)), (some (.p (iaddrSF (.t (Tr.path 21)) (.t (Tr.path 22)) 1))), none, [Tr.path 21, Tr.path 22]⟩,
  ⟨(some (Tr.path 24)), (some (.r (loadF (.t (Tr.path 23)) 1 .sc))), none, [Tr.path 23]⟩,
  ⟨(some (Tr.path 25)), (some (.p (S.get (.t (Tr.path 2))))), none, [Tr.path 2]⟩,
  ⟨(some (Tr.path 26)), (some (.p (S.get (.t (Tr.path 3))))), none, [Tr.path 3]⟩,
  ⟨(some (Tr.path 27)), (some (.p (S.get (.t (Tr.path 4))))), none, [Tr.path 4]⟩,
  ⟨(some (Tr.path 28)), (some (.c (callF (.c (.func (.func 24) [] [])) [(.t (Tr.path 24)), (.t (Tr.path 25)), (.t (Tr.path 26)), (.t (Tr.path 27))]))), none, [Tr.path 24, Tr.path 25, Tr.path 26, Tr.path 27]⟩,
  ⟨(some (Tr.path 10)), (some (.p (S.get (.t (Tr.path 28))))), none, [Tr.path 28]⟩]) (
 .ret)))⟩
theorem c43_eq : fnOf Try.prog 43 = some c43 := by kernel_rfl

/-- (*ashlar/bench.Bench).Devices -/
noncomputable def c98 : CFn := ⟨[.tmp (Tr.path 2)],
 .seq (.reg [
  ⟨(some (Tr.path 2)), (some (.p (S.get (.c (.int .i64 0))))), none, []⟩]) (
 .seq (.seq (.reg [
   ⟨(some (Tr.path 3)), (some (.p (S.get (.t (Tr.path 0))))), none, [Tr.path 0]⟩,
   ⟨(some (Tr.path 4)), (some (.c (callF (.c (.func (.func 83) [] [])) [(.t (Tr.path 3))]))), none, [Tr.path 3]⟩]) (
  .cond (.t (Tr.path 4)) (.seq (.reg [
     ⟨(some (Tr.path 2)), (some (.p (S.get (.c (.int .i64 0))))), none, []⟩]) (
    .ret)) (.skip))) (
 .seq (.reg [
  ⟨(some (Tr.path 5)), (some (.p (S.get (.t (Tr.path 0))))), none, [Tr.path 0]⟩,
  ⟨(some (Tr.path 6)), (some (.p (nilcF (.t (Tr.path 5))))), none, [Tr.path 5]⟩,
  ⟨(some (Tr.path 7)), (some (.p (faddrF (.t (Tr.path 6)) 0))), none, [Tr.path 6]⟩,
  ⟨(some (Tr.path 8)), (some (.r (loadF (.t (Tr.path 7)) 1 .sc))), none, [Tr.path 7]⟩,
  ⟨(some (Tr.path 9)), (some (.p (lenF (.t (Tr.path 8))))), none, [Tr.path 8]⟩,
  ⟨(some (Tr.path 2)), (some (.p (S.get (.t (Tr.path 9))))), none, [Tr.path 9]⟩]) (
 .ret)))⟩
theorem c98_eq : fnOf Try.prog 98 = some c98 := by kernel_rfl


/-- a bench: its devices, its steps, when the power is cut -/
structure Bn where
  l : List Dev
  st : Int
  ar : Int
  dk : Bool

def tcode (n : Nat) (d : Int) : Int := if 0 ≤ d ∧ d < (n : Int) then 0 else 2
def Bn.dev (B : Bn) (d : Int) : Dev := B.l.getD d.toNat ⟨[], [], false⟩
def Bn.tc (B : Bn) (d : Int) : Int := tcode B.l.length d
def Bn.lc (B : Bn) (d : Int) : Int := if B.dk = true then 8 else B.tc d
def Bn.rc (B : Bn) (d n : Int) : Int := if B.lc d = 0 then code (B.dev d) n else B.lc d
noncomputable def Bn.read (B : Bn) (d n : Int) : Nat := if B.lc d = 0 then (B.dev d).read n else 0
def Bn.setd (B : Bn) (d : Int) (D : Dev) : Bn := { B with l := B.l.set d.toNat D }
def Bn.step (B : Bn) (d : Int) (D : Dev) : Bn := if B.ar = 1 then { B with dk := true } else ⟨B.l.set d.toNat D, B.st + 1, arLess B.ar, B.dk⟩
def Bn.sc (B : Bn) : Int := if B.ar = 1 then 8 else 0
def Bn.wc (B : Bn) (d n : Int) : Int := if B.rc d n = 0 then B.sc else B.rc d n
def Bn.write (B : Bn) (d n : Int) (x : Nat) : Bn := if B.rc d n = 0 then B.step d ((B.dev d).write n x) else B
def Bn.flush (B : Bn) (d : Int) : Bn := if B.rc d 0 = 0 then B.step d (B.dev d).flush else B
def Bn.fail (B : Bn) (d : Int) : Bn := if B.tc d = 0 then B.setd d (B.dev d).fail else B
def Bn.dead (B : Bn) (d : Int) : Bool := if B.tc d = 0 then (B.dev d).dead else false
def Bn.sectors (B : Bn) (d : Int) : Int := if B.tc d = 0 then ((B.dev d).S.length : Int) else 0
def Bn.ic (B : Bn) (d : Int) : Int := if B.lc d = 0 then (if (B.dev d).dead = true then 0 else 17) else B.lc d
def blank (n : Nat) : Dev := ⟨List.replicate n 0, [], false⟩
def Bn.insert (B : Bn) (d : Int) : Bn := if B.ic d = 0 then B.setd d (blank (B.dev d).S.length) else B
def Bn.ac (B : Bn) (n : Int) : Int := if B.dk = true then 8 else if n < 0 then 2 else 0
def Bn.arm (B : Bn) (n : Int) : Bn := if B.ac n = 0 then { B with ar := n } else B
def Bn.uc (B : Bn) (d n : Int) : Int := if B.tc d = 0 then code (B.dev d) n else 2
def Bn.sure (B : Bn) (d n : Int) : Nat := if B.tc d = 0 then (B.dev d).sure n else 0
def Bn.oc (B : Bn) (d n j : Int) : Int := if B.tc d = 0 then rcode (B.dev d) n j else 2
noncomputable def Bn.rot (B : Bn) (d n j : Int) (x : Nat) : Bn := if B.tc d = 0 then B.setd d ((B.dev d).rot n j x) else B

/-- what is asked of a device that a bench has -/
structure Good (D : Dev) : Prop where
  ne : D.S ≠ []
  ok : ∀ w ∈ D.L, w.1 < D.S.length
  len : D.S.length ≤ 512
  le : D.L.length ≤ 900

/-- the program's bench keeps steps, power, dark; the document's power, dark, steps -/
def n1 : Bool → Bn → V
  | false, B => .int .i64 B.st
  | true, B => .int .i64 B.ar
def n2 : Bool → Bn → V
  | false, B => .int .i64 B.ar
  | true, B => .bool B.dk
def n3 : Bool → Bn → V
  | false, B => .bool B.dk
  | true, B => .int .i64 B.st

structure Rep (r : Bool) (H : Heap) (b ds : Bk) (so : Nat) (l : List Dv) (B : Bn) : Prop where
  row : DvsAt H b ds so l (n1 r B) (n2 r B) (n3 r B)
  map : l.map Dv.D = B.l
abbrev BRep := Rep false
theorem Rep.at' {H : Heap} {b ds : Bk} {so : Nat} {l : List Dv} {B : Bn} (h : Rep false H b ds so l B) : BenchAt H b ds so l B.st B.ar B.dk := h.row

theorem Rep.turns {H H' : Heap} {b ds : Bk} {so : Nat} {l : List Dv} {B : Bn} {r : Bool} (h : Rep r H b ds so l B) (k : Turns Z H H') : Rep r H' b ds so l B := ⟨h.row.turns k, h.map⟩
theorem Rep.len {H : Heap} {b ds : Bk} {so : Nat} {l : List Dv} {B : Bn} {r : Bool} (h : Rep r H b ds so l B) : l.length = B.l.length := by rw [← h.map, List.length_map]

theorem tcode_cases (n : Nat) (d : Int) : (∃ i : Nat, i < n ∧ d = (i : Int) ∧ tcode n d = 0) ∨ tcode n d = 2 := by
  unfold tcode
  by_cases h : 0 ≤ d ∧ d < (n : Int)
  · rw [if_pos h]
    exact .inl ⟨d.toNat, by omega, by omega, rfl⟩
  · rw [if_neg h]; exact .inr rfl

theorem Rep.has {H : Heap} {b ds : Bk} {so : Nat} {l : List Dv} {B : Bn} {r : Bool} (h : Rep r H b ds so l B) (d : Int) : (∃ i : Nat, ∃ hi : i < l.length, d = (i : Int) ∧ B.tc d = 0 ∧ B.dev d = l[i].D) ∨ B.tc d = 2 := by
  rcases tcode_cases B.l.length d with ⟨i, hi, rfl, e⟩ | e
  · have hi' : i < l.length := by rw [h.len]; exact hi
    refine .inl ⟨i, hi', rfl, e, ?_⟩
    unfold Bn.dev
    rw [← h.map]
    simp [List.getD, hi']
  · exact .inr e

def BFoot (b ds : Bk) (l : List Dv) (c : Bk) : Prop := c = b ∨ c = ds ∨ ∃ x ∈ l, x.foot c

structure RNext (r : Bool) (H : Heap) (b ds : Bk) (so : Nat) (l : List Dv) (H' : Heap) (l' : List Dv) (B' : Bn) : Prop where
  rep : Rep r H' b ds so l' B'
  turns : Turns (BFoot b ds l) H H'
  foot : ∀ c, BFoot b ds l' c → BFoot b ds l c ∨ ¬ H.Old c
abbrev BNext := RNext false

theorem Rep.idle {H H' : Heap} {b ds : Bk} {so : Nat} {l : List Dv} {B : Bn} {r : Bool} (h : Rep r H b ds so l B) (k : Turns Z H H') : RNext r H b ds so l H' l B :=
  ⟨h.turns k, k.wide (fun c hc => hc.elim), fun c hc => .inl hc⟩

theorem RNext.before {H0 H H' : Heap} {b ds : Bk} {so : Nat} {l l' : List Dv} {B' : Bn} {r : Bool} (t : Turns Z H0 H) (k : RNext r H b ds so l H' l' B') : RNext r H0 b ds so l H' l' B' :=
  ⟨k.rep, (t.wide (fun c hc => hc.elim)).trans k.turns, fun c hc => (k.foot c hc).imp id (fun h o => h (o.mono t.next))⟩
theorem RNext.after {H H' H2 : Heap} {b ds : Bk} {so : Nat} {l l' : List Dv} {B' : Bn} {r : Bool} (k : RNext r H b ds so l H' l' B') (t : Turns Z H' H2) : RNext r H b ds so l H2 l' B' :=
  ⟨k.rep.turns t, k.turns.trans (t.wide (fun c hc => hc.elim)), k.foot⟩

theorem foot_set {b ds : Bk} {l : List Dv} {i : Nat} (hi : i < l.length) {x : Dv} {P : Bk → Prop} (hx : ∀ c, x.foot c → l[i].foot c ∨ P c) : ∀ c, BFoot b ds (l.set i x) c → BFoot b ds l c ∨ P c := by
  rintro c (h | h | ⟨z, hz, hc⟩)
  · exact .inl (.inl h)
  · exact .inl (.inr (.inl h))
  · rcases List.mem_or_eq_of_mem_set hz with hz | rfl
    · exact .inl (.inr (.inr ⟨z, hz, hc⟩))
    · rcases hx c hc with h | h
      · exact .inl (.inr (.inr ⟨_, List.getElem_mem hi, h⟩))
      · exact .inr h

theorem map_set_D {l : List Dv} {B : List Dev} (h : l.map Dv.D = B) (i : Nat) (x : Dv) : (l.set i x).map Dv.D = B.set i x.D := by rw [List.map_set, h]

/-- one device turned -/
theorem Rep.dev {H H' : Heap} {b ds : Bk} {so : Nat} {l : List Dv} {B : Bn} {r : Bool} (h : Rep r H b ds so l B) {i : Nat} (hi : i < l.length) {y' : Lay} {D' : Dev} (k : Next H l[i].b l[i].y l[i].D H' y' D') : RNext r H b ds so l H' (l.set i ⟨l[i].b, y', D'⟩) (B.setd (i : Int) D') := by
  refine ⟨⟨by cases r <;> exact h.row.step hi k, map_set_D h.map i _⟩, k.turns.wide (fun c hc => .inr (.inr ⟨_, List.getElem_mem hi, hc⟩)), foot_set hi ?_⟩
  rintro c (rfl | rfl | ⟨hl, rfl⟩)
  · exact .inl (.inl rfl)
  · exact .inl (.inr (.inl k.s))
  · rcases k.l hl with ⟨h1, h2⟩ | h1
    · exact .inl (.inr (.inr ⟨h1, h2⟩))
    · exact .inr h1

theorem Rep.did {H H' : Heap} {b ds : Bk} {so : Nat} {l : List Dv} {B : Bn} (h : BRep H b ds so l B) (hdk : B.dk = false) (h1 : B.ar ≠ 1) {i : Nat} {hi : i < l.length} {y' : Lay} {D' : Dev} (k : Did H b ds so l B.st B.ar i hi D' H' y') : BNext H b ds so l H' (l.set i ⟨l[i].b, y', D'⟩) (B.step (i : Int) D') := by
  have e : B.step (i : Int) D' = ⟨B.l.set i D', B.st + 1, arLess B.ar, false⟩ := by unfold Bn.step; rw [if_neg h1, hdk]; rfl
  rw [e]
  refine ⟨⟨k.at', map_set_D h.map i _⟩, k.turns.wide ?_, foot_set hi k.foot⟩
  rintro c (hc | hc)
  · exact .inl hc
  · exact .inr (.inr ⟨_, List.getElem_mem hi, hc⟩)

theorem Rep.cut {H H' : Heap} {b ds : Bk} {so : Nat} {l : List Dv} {B : Bn} (h : BRep H b ds so l B) (h1 : B.ar = 1) (D' : Dev) (d : Int) (k : BenchAt H' b ds so l B.st 1 true) (t : Turns (fun c => c = b) H H') : BNext H b ds so l H' l (B.step d D') := by
  have e : B.step d D' = ⟨B.l, B.st, 1, true⟩ := by unfold Bn.step; rw [if_pos h1, h1]
  rw [e]
  exact ⟨⟨k, h.map⟩, t.wide (fun c hc => .inl hc), fun c hc => .inl hc⟩

/-- a new device in the place of one -/
theorem Rep.place {H H1 : Heap} {b ds : Bk} {so : Nat} {l : List Dv} {B : Bn} {r : Bool} (h : Rep r H b ds so l B) {i : Nat} (hi : i < l.length) (t : Turns Z H H1) {c : Bk} {y : Lay} {D : Dev} (hD : DevAt H1 c y D) (hF : Fresh H c y D) :
    storeAt H1 ⟨ds, i⟩ [.ptr (some ⟨c, 0⟩)] = some (H1.set ds (.rows false 1 ((l.set i ⟨c, y, D⟩).map fun x => [.ptr (some ⟨x.b, 0⟩)]))) ∧ RNext r H b ds so l (H1.set ds (.rows false 1 ((l.set i ⟨c, y, D⟩).map fun x => [.ptr (some ⟨x.b, 0⟩)]))) (l.set i ⟨c, y, D⟩) (B.setd (i : Int) D) := by
  have A := h.row
  have A1 := A.turns t
  have st : storeAt H1 ⟨ds, i⟩ [.ptr (some ⟨c, 0⟩)] = some (H1.set ds (.rows false 1 ((l.set i ⟨c, y, D⟩).map fun x => [.ptr (some ⟨x.b, 0⟩)]))) := by
    rw [storeAt_eq A1.ptrs (r := [.ptr (some ⟨l[i].b, 0⟩)]) (r' := [.ptr (some ⟨c, 0⟩)]) (nth_of (by rw [Nat.div_one]; simp [hi])) (by rw [Nat.mod_one]; rfl), Nat.div_one, List.map_set]
  have nf := hF.foot
  have hc : ¬ Foot c y D ds := fun e => nf ds e A.old.2
  have hcb : ¬ Foot c y D b := fun e => nf b e A.old.1
  have hk : Turns (fun x => x = ds) H1 (H1.set ds (.rows false 1 ((l.set i ⟨c, y, D⟩).map fun x => [.ptr (some ⟨x.b, 0⟩)]))) := Turns.set (X := fun x => x = ds) rfl _ _
  refine ⟨st, ⟨⟨⟨?_, ?_, fun j hj => ?_, fun p q hp hq hpq => ?_, ?_, A.ne, fun j hj => ?_⟩, map_set_D h.map i _⟩, (t.wide (fun c hc => hc.elim)).trans (hk.wide fun x hx => .inr (.inl hx)), foot_set hi (fun x hx => .inr (nf x hx))⟩⟩
  · rw [List.length_set]; cases r <;> exact (hk.same b A1.old.1 A.ne).trans A1.own
  · rw [Heap.get_set, if_pos rfl]
  · have hj' : j < l.length := by simpa using hj
    by_cases e : i = j
    · subst e
      rw [List.getElem_set_self]
      exact hD.turns hk (fun e => hc (.inl e.symm)) (fun e => hc (.inr (.inl e.symm))) (fun hl e => hc (.inr (.inr ⟨hl, e.symm⟩)))
    · rw [List.getElem_set_ne e]
      have o := (A.out j hj').2
      exact (A1.dev j hj').turns hk (fun e => o (.inl e.symm)) (fun e => o (.inr (.inl e.symm))) (fun hl e => o (.inr (.inr ⟨hl, e.symm⟩)))
  · have hp' : p < l.length := by simpa using hp
    have hq' : q < l.length := by simpa using hq
    by_cases e1 : i = p
    · subst e1
      rw [List.getElem_set_self, List.getElem_set_ne hpq]
      exact (sep_fresh (A.dev q hq') hF).symm
    · by_cases e2 : i = q
      · subst e2
        rw [List.getElem_set_self, List.getElem_set_ne e1]
        exact sep_fresh (A.dev p hp') hF
      · rw [List.getElem_set_ne e1, List.getElem_set_ne e2]
        exact A.sep p q hp' hq' hpq
  · simp only [Heap.old_set]; exact A1.old
  · have hj' : j < l.length := by simpa using hj
    by_cases e : i = j
    · subst e
      rw [List.getElem_set_self]
      exact ⟨hcb, hc⟩
    · rw [List.getElem_set_ne e]
      exact A.out j hj'

section
variable {H : Heap} {b ds : Bk} {so : Nat} {l : List Dv} {B : Bn} (h : BRep H b ds so l B) (hl : l ≠ [])
include h hl

theorem bhas_no {d : Int} (hd : B.tc d = 2) (lf m : Nat) : callS Try.prog S0 lf (m + 1) 132 [.ptr (some ⟨b, 0⟩), .int .i64 d] H = some (.v (.bool false), H) := by
  have l0 := bload0 h.at'
  have hn : ¬ (0 ≤ d ∧ d < (l.length : Int)) := fun e => by
    unfold Bn.tc tcode at hd; rw [← h.len, if_pos e] at hd; cases hd
  obtain ⟨v, H', e, rfl, rfl⟩ : ret (callS Try.prog S0 lf (m + 1) 132 [.ptr (some ⟨b, 0⟩), .int .i64 d] H) fun v H' => v = .bool false ∧ H' = H := by
    refine ret_call rfl c132_eq ?_
    by_cases g0 : 0 ≤ d
    · have g1 : ¬ (d < (l.length : Int)) := fun e => hn ⟨g0, e⟩
      simp only [c132, l0, g0, g1, Aa, Ab, Ad, Ae, Af, Ag, Ah, Ai, Aj, Ak, Al, Ao, Ap, Aq, Ar, Au, sO_p, sO_r, sO_m, sO_a, sO_c, Av, Aw, Ax, Ay, Az, sE_p, sE_r, sE_m, sE_a, sE_c, A0, A2, A3, A4, A5, A6, A7, A8, A9, Ba, Bb, Bc, Bd, Be, Bf, Bg, Bh, Bi, Bj, Bl, Bm, Bo, Bp, Bq, Br, Bs, Bt, Bu, Bv, Tr.getP_e, Bw, Bx, ↓reduceIte, Nat.reduceEqDiff, Nat.reduceAdd, Nat.reduceSub, Nat.reduceMul, Nat.reduceDiv, Nat.reduceMod, Nat.zero_add, Nat.add_zero, beq_self_eq_true, Nat.zero_ne_one, Nat.one_ne_zero, Nat.reduceLeDiff, Int.reduceBEq, constF, unF, unary,  pickF, nilcF, faddrF, fldF, iaddrSF, arF, Bz, B3, B4, B5, B6, B7, convF, extF, lenF, eqcF, eqnF, eqN, eqPtr, isNone, loadF, storeF, allocF, callF, gets, Option.map_some, Option.bind_some, B8, B9, Ca, Cb, Cc, nbeq, nble, Cd, Ce, Cf, Cg, Ch, Ci, Cj, Ck, Cl, Cm, Cn, Co, Cp, Cq, Cr, Cs, Ct, Cu, Cv, Cw, Cx, V.w, width, unc, cmpCells, Cy, Cz, C6, C7, C8, Da, undef, List.append_nil, List.nil_append, List.cons_append, Db, Dc, resultsV, result, tup, Dd, Bool.and_true, Bool.true_and, Bool.and_self, decide_true, decide_false, Bool.not_true, Bool.not_false, Bool.true_beq, Bool.false_beq, beq_iff_eq, reduceCtorEq, Nat.succ_eq_add_one, ptr0, Int.ofNat_eq_natCast, Int.ofNat_le, Int.ofNat_lt, Int.natCast_add, De, Df, Dg, Dh, Di, List.map_cons, List.map_nil, Dj, Heap.next_add, Heap.next_set, boxF, buildF, fill, bsliceF, fillRows, List.replicate_one, Dk, Dl, Dm, Dn, Dp, Dq, Dr, Ds, Dt, Du, Dw, Dx, Dy, Dz, D2, D3, D4, D5, D6, D7, D8, D9, Ea, Eb, Ec, appF, List.length_cons, List.length_nil]
      simp
    · simp only [c132, l0, g0, Aa, Ab, Ad, Ae, Af, Ag, Ah, Ai, Aj, Ak, Al, Ao, Ap, Aq, Ar, Au, sO_p, sO_r, sO_m, sO_a, sO_c, Av, Aw, Ax, Ay, Az, sE_p, sE_r, sE_m, sE_a, sE_c, A0, A2, A3, A4, A5, A6, A7, A8, A9, Ba, Bb, Bc, Bd, Be, Bf, Bg, Bh, Bi, Bj, Bl, Bm, Bo, Bp, Bq, Br, Bs, Bt, Bu, Bv, Tr.getP_e, Bw, Bx, ↓reduceIte, Nat.reduceEqDiff, Nat.reduceAdd, Nat.reduceSub, Nat.reduceMul, Nat.reduceDiv, Nat.reduceMod, Nat.zero_add, Nat.add_zero, beq_self_eq_true, Nat.zero_ne_one, Nat.one_ne_zero, Nat.reduceLeDiff, Int.reduceBEq, constF, unF, unary,  pickF, nilcF, faddrF, fldF, iaddrSF, arF, Bz, B3, B4, B5, B6, B7, convF, extF, lenF, eqcF, eqnF, eqN, eqPtr, isNone, loadF, storeF, allocF, callF, gets, Option.map_some, Option.bind_some, B8, B9, Ca, Cb, Cc, nbeq, nble, Cd, Ce, Cf, Cg, Ch, Ci, Cj, Ck, Cl, Cm, Cn, Co, Cp, Cq, Cr, Cs, Ct, Cu, Cv, Cw, Cx, V.w, width, unc, cmpCells, Cy, Cz, C6, C7, C8, Da, undef, List.append_nil, List.nil_append, List.cons_append, Db, Dc, resultsV, result, tup, Dd, Bool.and_true, Bool.true_and, Bool.and_self, decide_true, decide_false, Bool.not_true, Bool.not_false, Bool.true_beq, Bool.false_beq, beq_iff_eq, reduceCtorEq, Nat.succ_eq_add_one, ptr0, Int.ofNat_eq_natCast, Int.ofNat_le, Int.ofNat_lt, Int.natCast_add, De, Df, Dg, Dh, Di, List.map_cons, List.map_nil, Dj, Heap.next_add, Heap.next_set, boxF, buildF, fill, bsliceF, fillRows, List.replicate_one, Dk, Dl, Dm, Dn, Dp, Dq, Dr, Ds, Dt, Du, Dw, Dx, Dy, Dz, D2, D3, D4, D5, D6, D7, D8, D9, Ea, Eb, Ec, appF, List.length_cons, List.length_nil]
      simp
  exact e

theorem bthere_all (d : Int) (lf m : Nat) : callS Try.prog S0 lf (m + 2) 87 [.ptr (some ⟨b, 0⟩), .int .i64 d] H = some (.v (.int .i64 (B.tc d)), H) := by
  rcases h.has d with ⟨i, hi, rfl, e, _⟩ | e
  · rw [e]; exact bthere h.at' hi lf m
  · rw [e]
    have e1 := bnone h.at' hl lf m
    have e2 := bhas_no h hl e lf m
    obtain ⟨v, H', e, rfl, rfl⟩ : ret (callS Try.prog S0 lf (m + 2) 87 [.ptr (some ⟨b, 0⟩), .int .i64 d] H) fun v H' => v = .int .i64 2 ∧ H' = H := by
      refine ret_call rfl c87_eq ?_
      simp only [c87, e1, e2, Aa, Ab, Ad, Ae, Af, Ag, Ah, Ai, Aj, Ak, Al, Ao, Ap, Aq, Ar, Au, sO_p, sO_r, sO_m, sO_a, sO_c, Av, Aw, Ax, Ay, Az, sE_p, sE_r, sE_m, sE_a, sE_c, A0, A2, A3, A4, A5, A6, A7, A8, A9, Ba, Bb, Bc, Bd, Be, Bf, Bg, Bh, Bi, Bj, Bl, Bm, Bo, Bp, Bq, Br, Bs, Bt, Bu, Bv, Tr.getP_e, Bw, Bx, ↓reduceIte, Nat.reduceEqDiff, Nat.reduceAdd, Nat.reduceSub, Nat.reduceMul, Nat.reduceDiv, Nat.reduceMod, Nat.zero_add, Nat.add_zero, beq_self_eq_true, Nat.zero_ne_one, Nat.one_ne_zero, Nat.reduceLeDiff, Int.reduceBEq, constF, unF, unary,  pickF, nilcF, faddrF, fldF, iaddrSF, arF, Bz, B3, B4, B5, B6, B7, convF, extF, lenF, eqcF, eqnF, eqN, eqPtr, isNone, loadF, storeF, allocF, callF, gets, Option.map_some, Option.bind_some, B8, B9, Ca, Cb, Cc, nbeq, nble, Cd, Ce, Cf, Cg, Ch, Ci, Cj, Ck, Cl, Cm, Cn, Co, Cp, Cq, Cr, Cs, Ct, Cu, Cv, Cw, Cx, V.w, width, unc, cmpCells, Cy, Cz, C6, C7, C8, Da, undef, List.append_nil, List.nil_append, List.cons_append, Db, Dc, resultsV, result, tup, Dd, Bool.and_true, Bool.true_and, Bool.and_self, decide_true, decide_false, Bool.not_true, Bool.not_false, Bool.true_beq, Bool.false_beq, beq_iff_eq, reduceCtorEq, Nat.succ_eq_add_one, ptr0, Int.ofNat_eq_natCast, Int.ofNat_le, Int.ofNat_lt, Int.natCast_add, De, Df, Dg, Dh, Di, List.map_cons, List.map_nil, Dj, Heap.next_add, Heap.next_set, boxF, buildF, fill, bsliceF, fillRows, List.replicate_one, Dk, Dl, Dm, Dn, Dp, Dq, Dr, Ds, Dt, Du, Dw, Dx, Dy, Dz, D2, D3, D4, D5, D6, D7, D8, D9, Ea, Eb, Ec, appF, List.length_cons, List.length_nil]
      simp
    exact e

theorem blit_all (d : Int) (lf m : Nat) : callS Try.prog S0 lf (m + 3) 86 [.ptr (some ⟨b, 0⟩), .int .i64 d] H = some (.v (.int .i64 (B.lc d)), H) := by
  cases hdk : B.dk with
  | true => rw [show B.lc d = 8 from if_pos hdk]; exact blit_dark h.at' hl hdk d lf m
  | false =>
    have e0 : B.lc d = B.tc d := if_neg (by rw [hdk]; decide)
    have e1 := bnone h.at' hl lf (m + 1)
    have e2 := bthere_all h hl d lf m
    have l3 := bload3 h.at'
    rw [hdk] at l3
    change callS Try.prog S0 lf (m + 2) 83 [.ptr (some ⟨b, 0⟩)] H = _ at e1
    rw [e0]
    obtain ⟨v, H', e, rfl, rfl⟩ : ret (callS Try.prog S0 lf (m + 3) 86 [.ptr (some ⟨b, 0⟩), .int .i64 d] H) fun v H' => v = .int .i64 (B.tc d) ∧ H' = H := by
      refine ret_call rfl c86_eq ?_
      simp only [c86, e1, e2, l3, Aa, Ab, Ad, Ae, Af, Ag, Ah, Ai, Aj, Ak, Al, Ao, Ap, Aq, Ar, Au, sO_p, sO_r, sO_m, sO_a, sO_c, Av, Aw, Ax, Ay, Az, sE_p, sE_r, sE_m, sE_a, sE_c, A0, A2, A3, A4, A5, A6, A7, A8, A9, Ba, Bb, Bc, Bd, Be, Bf, Bg, Bh, Bi, Bj, Bl, Bm, Bo, Bp, Bq, Br, Bs, Bt, Bu, Bv, Tr.getP_e, Bw, Bx, ↓reduceIte, Nat.reduceEqDiff, Nat.reduceAdd, Nat.reduceSub, Nat.reduceMul, Nat.reduceDiv, Nat.reduceMod, Nat.zero_add, Nat.add_zero, beq_self_eq_true, Nat.zero_ne_one, Nat.one_ne_zero, Nat.reduceLeDiff, Int.reduceBEq, constF, unF, unary,  pickF, nilcF, faddrF, fldF, iaddrSF, arF, Bz, B3, B4, B5, B6, B7, convF, extF, lenF, eqcF, eqnF, eqN, eqPtr, isNone, loadF, storeF, allocF, callF, gets, Option.map_some, Option.bind_some, B8, B9, Ca, Cb, Cc, nbeq, nble, Cd, Ce, Cf, Cg, Ch, Ci, Cj, Ck, Cl, Cm, Cn, Co, Cp, Cq, Cr, Cs, Ct, Cu, Cv, Cw, Cx, V.w, width, unc, cmpCells, Cy, Cz, C6, C7, C8, Da, undef, List.append_nil, List.nil_append, List.cons_append, Db, Dc, resultsV, result, tup, Dd, Bool.and_true, Bool.true_and, Bool.and_self, decide_true, decide_false, Bool.not_true, Bool.not_false, Bool.true_beq, Bool.false_beq, beq_iff_eq, reduceCtorEq, Nat.succ_eq_add_one, ptr0, Int.ofNat_eq_natCast, Int.ofNat_le, Int.ofNat_lt, Int.natCast_add, De, Df, Dg, Dh, Di, List.map_cons, List.map_nil, Dj, Heap.next_add, Heap.next_set, boxF, buildF, fill, bsliceF, fillRows, List.replicate_one, Dk, Dl, Dm, Dn, Dp, Dq, Dr, Ds, Dt, Du, Dw, Dx, Dy, Dz, D2, D3, D4, D5, D6, D7, D8, D9, Ea, Eb, Ec, appF, List.length_cons, List.length_nil]
      simp
    exact e

variable (hg : ∀ D ∈ B.l, Good D)
include hg

theorem good_at {i : Nat} (hi : i < l.length) : Good l[i].D := hg _ (by rw [← h.map]; exact List.mem_map_of_mem (List.getElem_mem hi))

theorem bread_all (d n : Int) {lf : Nat} (hlf : 1000 < lf) (m : Nat) :
    ret (callS Try.prog S0 lf (m + 4) 40 [.ptr (some ⟨b, 0⟩), .int .i64 d, .int .i64 n] H) fun v H' => v = .tuple [.blk (B.read d n), .int .i64 (B.rc d n)] ∧ Turns Z H H' := by
  by_cases hc : B.lc d = 0
  · have hr : B.read d n = (B.dev d).read n := if_pos hc
    have hrc : B.rc d n = code (B.dev d) n := if_pos hc
    have hdk : B.dk = false := by
      cases hdk : B.dk with
      | false => rfl
      | true => rw [show B.lc d = 8 from if_pos hdk] at hc; cases hc
    have ht : B.tc d = 0 := by rw [← hc]; exact (if_neg (by rw [hdk]; decide)).symm
    rcases h.has d with ⟨i, hi, rfl, _, e⟩ | e
    · rw [hr, hrc, e]
      have g := good_at h hl hg hi
      exact bread h.at' hi hdk n g.ne (by have := g.le; omega) (by have := g.le; omega) m
    · rw [ht] at e; cases e
  · have hr : B.read d n = 0 := if_neg hc
    have hrc : B.rc d n = B.lc d := if_neg hc
    have hz : (B.lc d == 0) = false := by simp; exact hc
    have t1 := Turns.add Z H (.rows false 64 [[.blk 0]])
    have e1 := blit_all (h.turns t1) hl d lf m
    rw [hr, hrc]
    refine ret_call rfl c40_eq ?_
    simp only [c40, e1, hz, Aa, Ab, Ad, Ae, Af, Ag, Ah, Ai, Aj, Ak, Al, Ao, Ap, Aq, Ar, Au, sO_p, sO_r, sO_m, sO_a, sO_c, Av, Aw, Ax, Ay, Az, sE_p, sE_r, sE_m, sE_a, sE_c, A0, A2, A3, A4, A5, A6, A7, A8, A9, Ba, Bb, Bc, Bd, Be, Bf, Bg, Bh, Bi, Bj, Bl, Bm, Bo, Bp, Bq, Br, Bs, Bt, Bu, Bv, Tr.getP_e, Bw, Bx, ↓reduceIte, Nat.reduceEqDiff, Nat.reduceAdd, Nat.reduceSub, Nat.reduceMul, Nat.reduceDiv, Nat.reduceMod, Nat.zero_add, Nat.add_zero, beq_self_eq_true, Nat.zero_ne_one, Nat.one_ne_zero, Nat.reduceLeDiff, Int.reduceBEq, constF, unF, unary,  pickF, nilcF, faddrF, fldF, iaddrSF, arF, Bz, B3, B4, B5, B6, B7, convF, extF, lenF, eqcF, eqnF, eqN, eqPtr, isNone, loadF, storeF, allocF, callF, gets, Option.map_some, Option.bind_some, B8, B9, Ca, Cb, Cc, nbeq, nble, Cd, Ce, Cf, Cg, Ch, Ci, Cj, Ck, Cl, Cm, Cn, Co, Cp, Cq, Cr, Cs, Ct, Cu, Cv, Cw, Cx, V.w, width, unc, cmpCells, Cy, Cz, C6, C7, C8, Da, undef, List.append_nil, List.nil_append, List.cons_append, Db, Dc, resultsV, result, tup, Dd, Bool.and_true, Bool.true_and, Bool.and_self, decide_true, decide_false, Bool.not_true, Bool.not_false, Bool.true_beq, Bool.false_beq, beq_iff_eq, reduceCtorEq, Nat.succ_eq_add_one, ptr0, Int.ofNat_eq_natCast, Int.ofNat_le, Int.ofNat_lt, Int.natCast_add, De, Df, Dg, Dh, Di, List.map_cons, List.map_nil, Dj, Heap.next_add, Heap.next_set, boxF, buildF, fill, bsliceF, fillRows, List.replicate_one, Dk, Dl, Dm, Dn, Dp, Dq, Dr, Ds, Dt, Du, Dw, Dx, Dy, Dz, D2, D3, D4, D5, D6, D7, D8, D9, Ea, Eb, Ec, appF, List.length_cons, List.length_nil]
    exact ⟨trivial, .inr trivial, _, rfl, rfl, t1.setnew (Nat.le_refl _) _⟩

theorem bwrite_all (ha : 0 ≤ B.ar ∧ B.ar ≤ 9223372036854775807) (hs : 0 ≤ B.st ∧ B.st ≤ 100000) (d n : Int) (x : Nat) {lf : Nat} (hlf : 1000 < lf) (m : Nat) :
    ret (callS Try.prog S0 lf (m + 6) 33 [.ptr (some ⟨b, 0⟩), .int .i64 d, .int .i64 n, .blk x] H) fun v H' => v = .int .i64 (B.wc d n) ∧ ∃ l', BNext H b ds so l H' l' (B.write d n x) := by
  by_cases hc : B.rc d n = 0
  · have hw : B.write d n x = B.step d ((B.dev d).write n x) := if_pos hc
    have hwc : B.wc d n = B.sc := if_pos hc
    have hlc : B.lc d = 0 := by
      by_cases e : B.lc d = 0
      · exact e
      · rw [show B.rc d n = B.lc d from if_neg e] at hc; exact absurd hc e
    have hcc : code (B.dev d) n = 0 := (if_pos hlc : B.rc d n = code (B.dev d) n).symm.trans hc
    have hdk : B.dk = false := by
      cases hdk : B.dk with
      | false => rfl
      | true => rw [show B.lc d = 8 from if_pos hdk] at hlc; cases hlc
    have ht : B.tc d = 0 := by rw [← hlc]; exact (if_neg (by rw [hdk]; decide)).symm
    rcases h.has d with ⟨i, hi, rfl, _, e⟩ | e
    · rw [hw, hwc, e]
      rw [e] at hcc
      have g := good_at h hl hg hi
      have hA := h.at'
      rw [hdk] at hA
      obtain ⟨v, H', e1, hcase⟩ := bwrite hA ha hs hi n x (lf := lf) g.ne (by have := g.le; omega) (by have := g.le; omega) hcc m
      rcases hcase with ⟨h1, rfl, hB, k⟩ | ⟨h1, rfl, y', k⟩
      · exact ⟨_, H', e1, by rw [show B.sc = 8 from if_pos h1], l, h.cut h1 _ _ hB k⟩
      · exact ⟨_, H', e1, by rw [show B.sc = 0 from if_neg h1], _, h.did hdk h1 k⟩
    · rw [ht] at e; cases e
  · have hw : B.write d n x = B := if_neg hc
    have hwc : B.wc d n = B.rc d n := if_neg hc
    rw [hw, hwc]
    have hT4 : Turns Z H ((((H.add (.rows false 1 [[.ptr (some ⟨b, 0⟩)]])).add (.rows false 1 [[.int .i64 d]])).add (.rows false 1 [[.int .i64 n]])).add (.rows false 64 [[.blk x]])) := ((((Turns.refl Z H).addm _).addm _).addm _).addm _
    have g0 : ((((H.add (.rows false 1 [[.ptr (some ⟨b, 0⟩)]])).add (.rows false 1 [[.int .i64 d]])).add (.rows false 1 [[.int .i64 n]])).add (.rows false 64 [[.blk x]])).get (.run H.next) = some (.rows false 1 [[.ptr (some ⟨b, 0⟩)]]) := by
      rw [Heap.get_add, if_neg (by simp <;> omega), Heap.get_add, if_neg (by simp <;> omega), Heap.get_add, if_neg (by simp <;> omega), Heap.get_add, if_pos rfl]
    have g1 : ((((H.add (.rows false 1 [[.ptr (some ⟨b, 0⟩)]])).add (.rows false 1 [[.int .i64 d]])).add (.rows false 1 [[.int .i64 n]])).add (.rows false 64 [[.blk x]])).get (.run (H.next + 1)) = some (.rows false 1 [[.int .i64 d]]) := by
      rw [Heap.get_add, if_neg (by simp <;> omega), Heap.get_add, if_neg (by simp <;> omega), Heap.get_add, if_pos (by simp)]
    have g2 : ((((H.add (.rows false 1 [[.ptr (some ⟨b, 0⟩)]])).add (.rows false 1 [[.int .i64 d]])).add (.rows false 1 [[.int .i64 n]])).add (.rows false 64 [[.blk x]])).get (.run (H.next + 1 + 1)) = some (.rows false 1 [[.int .i64 n]]) := by
      rw [Heap.get_add, if_neg (by simp <;> omega), Heap.get_add, if_pos (by simp)]
    generalize hH4 : ((((H.add (.rows false 1 [[.ptr (some ⟨b, 0⟩)]])).add (.rows false 1 [[.int .i64 d]])).add (.rows false 1 [[.int .i64 n]])).add (.rows false 64 [[.blk x]])) = H4 at hT4 g0 g1 g2
    have d0 := load1_of g0 rfl
    have d1 := load1_of g1 rfl
    have d2 := load1_of g2 rfl
    obtain ⟨v1, K1, e1, rfl, t1⟩ := bread_all (h.turns hT4) hl hg d n hlf (m + 1)
    change callS Try.prog S0 lf (m + 5) 40 [.ptr (some ⟨b, 0⟩), .int .i64 d, .int .i64 n] H4 = _ at e1
    generalize B.read d n = X at e1
    have hz : (B.rc d n == 0) = false := by simp; exact hc
    generalize B.rc d n = z at e1 hz
    refine ret_call rfl c33_eq ?_
    simp only [c33, Aa, Ab, Ad, Ae, Af, Ag, Ah, Ai, Aj, Ak, Al, Ao, Ap, Aq, Ar, Au, sO_p, sO_r, sO_m, sO_a, sO_c, Av, Aw, Ax, Ay, Az, sE_p, sE_r, sE_m, sE_a, sE_c, A0, A2, A3, A4, A5, A6, A7, A8, A9, Ba, Bb, Bc, Bd, Be, Bf, Bg, Bh, Bi, Bj, Bl, Bm, Bo, Bp, Bq, Br, Bs, Bt, Bu, Bv, Tr.getP_e, Bw, Bx, ↓reduceIte, Nat.reduceEqDiff, Nat.reduceAdd, Nat.reduceSub, Nat.reduceMul, Nat.reduceDiv, Nat.reduceMod, Nat.zero_add, Nat.add_zero, beq_self_eq_true, Nat.zero_ne_one, Nat.one_ne_zero, Nat.reduceLeDiff, Int.reduceBEq, constF, unF, unary,  pickF, nilcF, faddrF, fldF, iaddrSF, arF, Bz, B3, B4, B5, B6, B7, convF, extF, lenF, eqcF, eqnF, eqN, eqPtr, isNone, loadF, storeF, allocF, callF, gets, Option.map_some, Option.bind_some, B8, B9, Ca, Cb, Cc, nbeq, nble, Cd, Ce, Cf, Cg, Ch, Ci, Cj, Ck, Cl, Cm, Cn, Co, Cp, Cq, Cr, Cs, Ct, Cu, Cv, Cw, Cx, V.w, width, unc, cmpCells, Cy, Cz, C6, C7, C8, Da, undef, List.append_nil, List.nil_append, List.cons_append, Db, Dc, resultsV, result, tup, Dd, Bool.and_true, Bool.true_and, Bool.and_self, decide_true, decide_false, Bool.not_true, Bool.not_false, Bool.true_beq, Bool.false_beq, beq_iff_eq, reduceCtorEq, Nat.succ_eq_add_one, ptr0, Int.ofNat_eq_natCast, Int.ofNat_le, Int.ofNat_lt, Int.natCast_add, De, Df, Dg, Dh, Di, List.map_cons, List.map_nil, Dj, Heap.next_add, Heap.next_set, boxF, buildF, fill, bsliceF, fillRows, List.replicate_one, Dk, Dl, Dm, Dn, Dp, Dq, Dr, Ds, Dt, Du, Dw, Dx, Dy, Dz, D2, D3, D4, D5, D6, D7, D8, D9, Ea, Eb, Ec, appF, List.length_cons, List.length_nil]
    rw [hH4]
    simp only [d0, d1, d2, e1, cell_fold, hz, Aa, Ab, Ad, Ae, Af, Ag, Ah, Ai, Aj, Ak, Al, Ao, Ap, Aq, Ar, Au, sO_p, sO_r, sO_m, sO_a, sO_c, Av, Aw, Ax, Ay, Az, sE_p, sE_r, sE_m, sE_a, sE_c, A0, A2, A3, A4, A5, A6, A7, A8, A9, Ba, Bb, Bc, Bd, Be, Bf, Bg, Bh, Bi, Bj, Bl, Bm, Bo, Bp, Bq, Br, Bs, Bt, Bu, Bv, Tr.getP_e, Bw, Bx, ↓reduceIte, Nat.reduceEqDiff, Nat.reduceAdd, Nat.reduceSub, Nat.reduceMul, Nat.reduceDiv, Nat.reduceMod, Nat.zero_add, Nat.add_zero, beq_self_eq_true, Nat.zero_ne_one, Nat.one_ne_zero, Nat.reduceLeDiff, Int.reduceBEq, constF, unF, unary,  pickF, nilcF, faddrF, fldF, iaddrSF, arF, Bz, B3, B4, B5, B6, B7, convF, extF, lenF, eqcF, eqnF, eqN, eqPtr, isNone, loadF, storeF, allocF, callF, gets, Option.map_some, Option.bind_some, B8, B9, Ca, Cb, Cc, nbeq, nble, Cd, Ce, Cf, Cg, Ch, Ci, Cj, Ck, Cl, Cm, Cn, Co, Cp, Cq, Cr, Cs, Ct, Cu, Cv, Cw, Cx, V.w, width, unc, cmpCells, Cy, Cz, C6, C7, C8, Da, undef, List.append_nil, List.nil_append, List.cons_append, Db, Dc, resultsV, result, tup, Dd, Bool.and_true, Bool.true_and, Bool.and_self, decide_true, decide_false, Bool.not_true, Bool.not_false, Bool.true_beq, Bool.false_beq, beq_iff_eq, reduceCtorEq, Nat.succ_eq_add_one, ptr0, Int.ofNat_eq_natCast, Int.ofNat_le, Int.ofNat_lt, Int.natCast_add, De, Df, Dg, Dh, Di, List.map_cons, List.map_nil, Dj, Heap.next_add, Heap.next_set, boxF, buildF, fill, bsliceF, fillRows, List.replicate_one, Dk, Dl, Dm, Dn, Dp, Dq, Dr, Ds, Dt, Du, Dw, Dx, Dy, Dz, D2, D3, D4, D5, D6, D7, D8, D9, Ea, Eb, Ec, appF, List.length_cons, List.length_nil]
    exact ⟨trivial, .inr trivial, _, rfl, rfl, l, h.idle ((hT4.trans t1).trans (cell_turns K1 X))⟩

theorem bflush_all (ha : 0 ≤ B.ar ∧ B.ar ≤ 9223372036854775807) (hs : 0 ≤ B.st ∧ B.st ≤ 100000) (d : Int) {lf : Nat} (hlf : 1000 < lf) (m : Nat) :
    ret (callS Try.prog S0 lf (m + 5) 32 [.ptr (some ⟨b, 0⟩), .int .i64 d] H) fun v H' => v = .int .i64 (B.wc d 0) ∧ ∃ l', BNext H b ds so l H' l' (B.flush d) := by
  by_cases hc : B.rc d 0 = 0
  · have hw : B.flush d = B.step d (B.dev d).flush := if_pos hc
    have hwc : B.wc d 0 = B.sc := if_pos hc
    have hlc : B.lc d = 0 := by
      by_cases e : B.lc d = 0
      · exact e
      · rw [show B.rc d 0 = B.lc d from if_neg e] at hc; exact absurd hc e
    have hcc : code (B.dev d) 0 = 0 := (if_pos hlc : B.rc d 0 = code (B.dev d) 0).symm.trans hc
    have hdk : B.dk = false := by
      cases hdk : B.dk with
      | false => rfl
      | true => rw [show B.lc d = 8 from if_pos hdk] at hlc; cases hlc
    have ht : B.tc d = 0 := by rw [← hlc]; exact (if_neg (by rw [hdk]; decide)).symm
    rcases h.has d with ⟨i, hi, rfl, _, e⟩ | e
    · rw [hw, hwc, e]
      rw [e] at hcc
      have g := good_at h hl hg hi
      have hA := h.at'
      rw [hdk] at hA
      have hdd : l[i].D.dead = false := by
        rcases code_cases l[i].D 0 with ⟨k, _, _, hd, _⟩ | h2 | h2
        · exact hd
        · rw [hcc] at h2; cases h2
        · rw [hcc] at h2; cases h2
      obtain ⟨v, H', e1, hcase⟩ := bflush hA ha hs hi (lf := lf) g.ne g.ok (by have := g.le; omega) (by have := g.le; omega) hdd m
      rcases hcase with ⟨h1, rfl, hB, k⟩ | ⟨h1, rfl, y', k⟩
      · exact ⟨_, H', e1, by rw [show B.sc = 8 from if_pos h1], l, h.cut h1 _ _ hB k⟩
      · exact ⟨_, H', e1, by rw [show B.sc = 0 from if_neg h1], _, h.did hdk h1 k⟩
    · rw [ht] at e; cases e
  · have hw : B.flush d = B := if_neg hc
    have hwc : B.wc d 0 = B.rc d 0 := if_neg hc
    rw [hw, hwc]
    obtain ⟨v1, K1, e1, rfl, t1⟩ := bread_all h hl hg d 0 hlf m
    generalize B.read d 0 = X at e1
    have hz : (B.rc d 0 == 0) = false := by simp; exact hc
    generalize B.rc d 0 = z at e1 hz
    refine ret_call rfl c32_eq ?_
    simp only [c32, e1, cell_fold, hz, Aa, Ab, Ad, Ae, Af, Ag, Ah, Ai, Aj, Ak, Al, Ao, Ap, Aq, Ar, Au, sO_p, sO_r, sO_m, sO_a, sO_c, Av, Aw, Ax, Ay, Az, sE_p, sE_r, sE_m, sE_a, sE_c, A0, A2, A3, A4, A5, A6, A7, A8, A9, Ba, Bb, Bc, Bd, Be, Bf, Bg, Bh, Bi, Bj, Bl, Bm, Bo, Bp, Bq, Br, Bs, Bt, Bu, Bv, Tr.getP_e, Bw, Bx, ↓reduceIte, Nat.reduceEqDiff, Nat.reduceAdd, Nat.reduceSub, Nat.reduceMul, Nat.reduceDiv, Nat.reduceMod, Nat.zero_add, Nat.add_zero, beq_self_eq_true, Nat.zero_ne_one, Nat.one_ne_zero, Nat.reduceLeDiff, Int.reduceBEq, constF, unF, unary,  pickF, nilcF, faddrF, fldF, iaddrSF, arF, Bz, B3, B4, B5, B6, B7, convF, extF, lenF, eqcF, eqnF, eqN, eqPtr, isNone, loadF, storeF, allocF, callF, gets, Option.map_some, Option.bind_some, B8, B9, Ca, Cb, Cc, nbeq, nble, Cd, Ce, Cf, Cg, Ch, Ci, Cj, Ck, Cl, Cm, Cn, Co, Cp, Cq, Cr, Cs, Ct, Cu, Cv, Cw, Cx, V.w, width, unc, cmpCells, Cy, Cz, C6, C7, C8, Da, undef, List.append_nil, List.nil_append, List.cons_append, Db, Dc, resultsV, result, tup, Dd, Bool.and_true, Bool.true_and, Bool.and_self, decide_true, decide_false, Bool.not_true, Bool.not_false, Bool.true_beq, Bool.false_beq, beq_iff_eq, reduceCtorEq, Nat.succ_eq_add_one, ptr0, Int.ofNat_eq_natCast, Int.ofNat_le, Int.ofNat_lt, Int.natCast_add, De, Df, Dg, Dh, Di, List.map_cons, List.map_nil, Dj, Heap.next_add, Heap.next_set, boxF, buildF, fill, bsliceF, fillRows, List.replicate_one, Dk, Dl, Dm, Dn, Dp, Dq, Dr, Ds, Dt, Du, Dw, Dx, Dy, Dz, D2, D3, D4, D5, D6, D7, D8, D9, Ea, Eb, Ec, appF, List.length_cons, List.length_nil]
    exact ⟨trivial, .inr trivial, _, rfl, rfl, l, h.idle (t1.trans (cell_turns K1 X))⟩

theorem bfail_all (d : Int) (lf m : Nat) :
    ret (callS Try.prog S0 lf (m + 3) 38 [.ptr (some ⟨b, 0⟩), .int .i64 d] H) fun v H' => v = .int .i64 (B.tc d) ∧ ∃ l', BNext H b ds so l H' l' (B.fail d) := by
  have e1 := bthere_all h hl d lf m
  rcases h.has d with ⟨i, hi, rfl, e, eD⟩ | e
  · have hw : B.fail (i : Int) = B.setd (i : Int) l[i].D.fail := by rw [← eD]; exact if_pos e
    rw [hw]
    rw [e] at e1 ⊢
    have l0 := bload0 h.at'
    have lp := bloadP h.at' hi
    have hi1 : i + 1 ≤ l.length := hi
    obtain ⟨v, H', e2, rfl, y', k⟩ := fail_ok (h.at'.dev i hi) (good_at h hl hg hi).ne lf m
    refine ret_call rfl c38_eq ?_
    simp only [c38, e1, l0, lp, hi1, e2, Nat.mul_one, Aa, Ab, Ad, Ae, Af, Ag, Ah, Ai, Aj, Ak, Al, Ao, Ap, Aq, Ar, Au, sO_p, sO_r, sO_m, sO_a, sO_c, Av, Aw, Ax, Ay, Az, sE_p, sE_r, sE_m, sE_a, sE_c, A0, A2, A3, A4, A5, A6, A7, A8, A9, Ba, Bb, Bc, Bd, Be, Bf, Bg, Bh, Bi, Bj, Bl, Bm, Bo, Bp, Bq, Br, Bs, Bt, Bu, Bv, Tr.getP_e, Bw, Bx, ↓reduceIte, Nat.reduceEqDiff, Nat.reduceAdd, Nat.reduceSub, Nat.reduceMul, Nat.reduceDiv, Nat.reduceMod, Nat.zero_add, Nat.add_zero, beq_self_eq_true, Nat.zero_ne_one, Nat.one_ne_zero, Nat.reduceLeDiff, Int.reduceBEq, constF, unF, unary,  pickF, nilcF, faddrF, fldF, iaddrSF, arF, Bz, B3, B4, B5, B6, B7, convF, extF, lenF, eqcF, eqnF, eqN, eqPtr, isNone, loadF, storeF, allocF, callF, gets, Option.map_some, Option.bind_some, B8, B9, Ca, Cb, Cc, nbeq, nble, Cd, Ce, Cf, Cg, Ch, Ci, Cj, Ck, Cl, Cm, Cn, Co, Cp, Cq, Cr, Cs, Ct, Cu, Cv, Cw, Cx, V.w, width, unc, cmpCells, Cy, Cz, C6, C7, C8, Da, undef, List.append_nil, List.nil_append, List.cons_append, Db, Dc, resultsV, result, tup, Dd, Bool.and_true, Bool.true_and, Bool.and_self, decide_true, decide_false, Bool.not_true, Bool.not_false, Bool.true_beq, Bool.false_beq, beq_iff_eq, reduceCtorEq, Nat.succ_eq_add_one, ptr0, Int.ofNat_eq_natCast, Int.ofNat_le, Int.ofNat_lt, Int.natCast_add, De, Df, Dg, Dh, Di, List.map_cons, List.map_nil, Dj, Heap.next_add, Heap.next_set, boxF, buildF, fill, bsliceF, fillRows, List.replicate_one, Dk, Dl, Dm, Dn, Dp, Dq, Dr, Ds, Dt, Du, Dw, Dx, Dy, Dz, D2, D3, D4, D5, D6, D7, D8, D9, Ea, Eb, Ec, appF, List.length_cons, List.length_nil]
    exact ⟨trivial, .inr trivial, _, rfl, rfl, _, h.dev hi k⟩
  · have hw : B.fail d = B := if_neg (by rw [e]; decide)
    rw [hw]
    rw [e] at e1 ⊢
    refine ret_call rfl c38_eq ?_
    simp only [c38, e1, Aa, Ab, Ad, Ae, Af, Ag, Ah, Ai, Aj, Ak, Al, Ao, Ap, Aq, Ar, Au, sO_p, sO_r, sO_m, sO_a, sO_c, Av, Aw, Ax, Ay, Az, sE_p, sE_r, sE_m, sE_a, sE_c, A0, A2, A3, A4, A5, A6, A7, A8, A9, Ba, Bb, Bc, Bd, Be, Bf, Bg, Bh, Bi, Bj, Bl, Bm, Bo, Bp, Bq, Br, Bs, Bt, Bu, Bv, Tr.getP_e, Bw, Bx, ↓reduceIte, Nat.reduceEqDiff, Nat.reduceAdd, Nat.reduceSub, Nat.reduceMul, Nat.reduceDiv, Nat.reduceMod, Nat.zero_add, Nat.add_zero, beq_self_eq_true, Nat.zero_ne_one, Nat.one_ne_zero, Nat.reduceLeDiff, Int.reduceBEq, constF, unF, unary,  pickF, nilcF, faddrF, fldF, iaddrSF, arF, Bz, B3, B4, B5, B6, B7, convF, extF, lenF, eqcF, eqnF, eqN, eqPtr, isNone, loadF, storeF, allocF, callF, gets, Option.map_some, Option.bind_some, B8, B9, Ca, Cb, Cc, nbeq, nble, Cd, Ce, Cf, Cg, Ch, Ci, Cj, Ck, Cl, Cm, Cn, Co, Cp, Cq, Cr, Cs, Ct, Cu, Cv, Cw, Cx, V.w, width, unc, cmpCells, Cy, Cz, C6, C7, C8, Da, undef, List.append_nil, List.nil_append, List.cons_append, Db, Dc, resultsV, result, tup, Dd, Bool.and_true, Bool.true_and, Bool.and_self, decide_true, decide_false, Bool.not_true, Bool.not_false, Bool.true_beq, Bool.false_beq, beq_iff_eq, reduceCtorEq, Nat.succ_eq_add_one, ptr0, Int.ofNat_eq_natCast, Int.ofNat_le, Int.ofNat_lt, Int.natCast_add, De, Df, Dg, Dh, Di, List.map_cons, List.map_nil, Dj, Heap.next_add, Heap.next_set, boxF, buildF, fill, bsliceF, fillRows, List.replicate_one, Dk, Dl, Dm, Dn, Dp, Dq, Dr, Ds, Dt, Du, Dw, Dx, Dy, Dz, D2, D3, D4, D5, D6, D7, D8, D9, Ea, Eb, Ec, appF, List.length_cons, List.length_nil]
    exact ⟨trivial, .inr trivial, _, rfl, rfl, l, h.idle (Turns.refl Z H)⟩

theorem bdead_all (d : Int) (lf m : Nat) :
    callS Try.prog S0 lf (m + 3) 39 [.ptr (some ⟨b, 0⟩), .int .i64 d] H = some (.v (.bool (B.dead d)), H) := by
  have e1 := bthere_all h hl d lf m
  obtain ⟨v, H', e, rfl, rfl⟩ : ret (callS Try.prog S0 lf (m + 3) 39 [.ptr (some ⟨b, 0⟩), .int .i64 d] H) fun v H' => v = .bool (B.dead d) ∧ H' = H := by
    rcases h.has d with ⟨i, hi, rfl, e, eD⟩ | e
    · have hw : B.dead (i : Int) = l[i].D.dead := by rw [← eD]; exact if_pos e
      rw [hw]
      rw [e] at e1
      have l0 := bload0 h.at'
      have lp := bloadP h.at' hi
      have hi1 : i + 1 ≤ l.length := hi
      obtain ⟨v, H', e2, rfl, rfl⟩ := dead_ok (h.at'.dev i hi) (good_at h hl hg hi).ne lf m
      refine ret_call rfl c39_eq ?_
      simp only [c39, e1, l0, lp, hi1, e2, Nat.mul_one, Aa, Ab, Ad, Ae, Af, Ag, Ah, Ai, Aj, Ak, Al, Ao, Ap, Aq, Ar, Au, sO_p, sO_r, sO_m, sO_a, sO_c, Av, Aw, Ax, Ay, Az, sE_p, sE_r, sE_m, sE_a, sE_c, A0, A2, A3, A4, A5, A6, A7, A8, A9, Ba, Bb, Bc, Bd, Be, Bf, Bg, Bh, Bi, Bj, Bl, Bm, Bo, Bp, Bq, Br, Bs, Bt, Bu, Bv, Tr.getP_e, Bw, Bx, ↓reduceIte, Nat.reduceEqDiff, Nat.reduceAdd, Nat.reduceSub, Nat.reduceMul, Nat.reduceDiv, Nat.reduceMod, Nat.zero_add, Nat.add_zero, beq_self_eq_true, Nat.zero_ne_one, Nat.one_ne_zero, Nat.reduceLeDiff, Int.reduceBEq, constF, unF, unary,  pickF, nilcF, faddrF, fldF, iaddrSF, arF, Bz, B3, B4, B5, B6, B7, convF, extF, lenF, eqcF, eqnF, eqN, eqPtr, isNone, loadF, storeF, allocF, callF, gets, Option.map_some, Option.bind_some, B8, B9, Ca, Cb, Cc, nbeq, nble, Cd, Ce, Cf, Cg, Ch, Ci, Cj, Ck, Cl, Cm, Cn, Co, Cp, Cq, Cr, Cs, Ct, Cu, Cv, Cw, Cx, V.w, width, unc, cmpCells, Cy, Cz, C6, C7, C8, Da, undef, List.append_nil, List.nil_append, List.cons_append, Db, Dc, resultsV, result, tup, Dd, Bool.and_true, Bool.true_and, Bool.and_self, decide_true, decide_false, Bool.not_true, Bool.not_false, Bool.true_beq, Bool.false_beq, beq_iff_eq, reduceCtorEq, Nat.succ_eq_add_one, ptr0, Int.ofNat_eq_natCast, Int.ofNat_le, Int.ofNat_lt, Int.natCast_add, De, Df, Dg, Dh, Di, List.map_cons, List.map_nil, Dj, Heap.next_add, Heap.next_set, boxF, buildF, fill, bsliceF, fillRows, List.replicate_one, Dk, Dl, Dm, Dn, Dp, Dq, Dr, Ds, Dt, Du, Dw, Dx, Dy, Dz, D2, D3, D4, D5, D6, D7, D8, D9, Ea, Eb, Ec, appF, List.length_cons, List.length_nil]
      simp
    · have hw : B.dead d = false := if_neg (by rw [e]; decide)
      rw [hw]
      rw [e] at e1
      refine ret_call rfl c39_eq ?_
      simp only [c39, e1, Aa, Ab, Ad, Ae, Af, Ag, Ah, Ai, Aj, Ak, Al, Ao, Ap, Aq, Ar, Au, sO_p, sO_r, sO_m, sO_a, sO_c, Av, Aw, Ax, Ay, Az, sE_p, sE_r, sE_m, sE_a, sE_c, A0, A2, A3, A4, A5, A6, A7, A8, A9, Ba, Bb, Bc, Bd, Be, Bf, Bg, Bh, Bi, Bj, Bl, Bm, Bo, Bp, Bq, Br, Bs, Bt, Bu, Bv, Tr.getP_e, Bw, Bx, ↓reduceIte, Nat.reduceEqDiff, Nat.reduceAdd, Nat.reduceSub, Nat.reduceMul, Nat.reduceDiv, Nat.reduceMod, Nat.zero_add, Nat.add_zero, beq_self_eq_true, Nat.zero_ne_one, Nat.one_ne_zero, Nat.reduceLeDiff, Int.reduceBEq, constF, unF, unary,  pickF, nilcF, faddrF, fldF, iaddrSF, arF, Bz, B3, B4, B5, B6, B7, convF, extF, lenF, eqcF, eqnF, eqN, eqPtr, isNone, loadF, storeF, allocF, callF, gets, Option.map_some, Option.bind_some, B8, B9, Ca, Cb, Cc, nbeq, nble, Cd, Ce, Cf, Cg, Ch, Ci, Cj, Ck, Cl, Cm, Cn, Co, Cp, Cq, Cr, Cs, Ct, Cu, Cv, Cw, Cx, V.w, width, unc, cmpCells, Cy, Cz, C6, C7, C8, Da, undef, List.append_nil, List.nil_append, List.cons_append, Db, Dc, resultsV, result, tup, Dd, Bool.and_true, Bool.true_and, Bool.and_self, decide_true, decide_false, Bool.not_true, Bool.not_false, Bool.true_beq, Bool.false_beq, beq_iff_eq, reduceCtorEq, Nat.succ_eq_add_one, ptr0, Int.ofNat_eq_natCast, Int.ofNat_le, Int.ofNat_lt, Int.natCast_add, De, Df, Dg, Dh, Di, List.map_cons, List.map_nil, Dj, Heap.next_add, Heap.next_set, boxF, buildF, fill, bsliceF, fillRows, List.replicate_one, Dk, Dl, Dm, Dn, Dp, Dq, Dr, Ds, Dt, Du, Dw, Dx, Dy, Dz, D2, D3, D4, D5, D6, D7, D8, D9, Ea, Eb, Ec, appF, List.length_cons, List.length_nil]
      simp
  exact e

theorem bsectors_all (d : Int) (lf m : Nat) :
    callS Try.prog S0 lf (m + 3) 41 [.ptr (some ⟨b, 0⟩), .int .i64 d] H = some (.v (.int .i64 (B.sectors d)), H) := by
  have e1 := bthere_all h hl d lf m
  obtain ⟨v, H', e, rfl, rfl⟩ : ret (callS Try.prog S0 lf (m + 3) 41 [.ptr (some ⟨b, 0⟩), .int .i64 d] H) fun v H' => v = .int .i64 (B.sectors d) ∧ H' = H := by
    rcases h.has d with ⟨i, hi, rfl, e, eD⟩ | e
    · have hw : B.sectors (i : Int) = (l[i].D.S.length : Int) := by rw [← eD]; exact if_pos e
      rw [hw]
      rw [e] at e1
      have l0 := bload0 h.at'
      have lp := bloadP h.at' hi
      have hi1 : i + 1 ≤ l.length := hi
      obtain ⟨v, H', e2, rfl, rfl⟩ := sectors_ok (h.at'.dev i hi) (good_at h hl hg hi).ne lf m
      refine ret_call rfl c41_eq ?_
      simp only [c41, e1, l0, lp, hi1, e2, Nat.mul_one, Aa, Ab, Ad, Ae, Af, Ag, Ah, Ai, Aj, Ak, Al, Ao, Ap, Aq, Ar, Au, sO_p, sO_r, sO_m, sO_a, sO_c, Av, Aw, Ax, Ay, Az, sE_p, sE_r, sE_m, sE_a, sE_c, A0, A2, A3, A4, A5, A6, A7, A8, A9, Ba, Bb, Bc, Bd, Be, Bf, Bg, Bh, Bi, Bj, Bl, Bm, Bo, Bp, Bq, Br, Bs, Bt, Bu, Bv, Tr.getP_e, Bw, Bx, ↓reduceIte, Nat.reduceEqDiff, Nat.reduceAdd, Nat.reduceSub, Nat.reduceMul, Nat.reduceDiv, Nat.reduceMod, Nat.zero_add, Nat.add_zero, beq_self_eq_true, Nat.zero_ne_one, Nat.one_ne_zero, Nat.reduceLeDiff, Int.reduceBEq, constF, unF, unary,  pickF, nilcF, faddrF, fldF, iaddrSF, arF, Bz, B3, B4, B5, B6, B7, convF, extF, lenF, eqcF, eqnF, eqN, eqPtr, isNone, loadF, storeF, allocF, callF, gets, Option.map_some, Option.bind_some, B8, B9, Ca, Cb, Cc, nbeq, nble, Cd, Ce, Cf, Cg, Ch, Ci, Cj, Ck, Cl, Cm, Cn, Co, Cp, Cq, Cr, Cs, Ct, Cu, Cv, Cw, Cx, V.w, width, unc, cmpCells, Cy, Cz, C6, C7, C8, Da, undef, List.append_nil, List.nil_append, List.cons_append, Db, Dc, resultsV, result, tup, Dd, Bool.and_true, Bool.true_and, Bool.and_self, decide_true, decide_false, Bool.not_true, Bool.not_false, Bool.true_beq, Bool.false_beq, beq_iff_eq, reduceCtorEq, Nat.succ_eq_add_one, ptr0, Int.ofNat_eq_natCast, Int.ofNat_le, Int.ofNat_lt, Int.natCast_add, De, Df, Dg, Dh, Di, List.map_cons, List.map_nil, Dj, Heap.next_add, Heap.next_set, boxF, buildF, fill, bsliceF, fillRows, List.replicate_one, Dk, Dl, Dm, Dn, Dp, Dq, Dr, Ds, Dt, Du, Dw, Dx, Dy, Dz, D2, D3, D4, D5, D6, D7, D8, D9, Ea, Eb, Ec, appF, List.length_cons, List.length_nil]
      simp
    · have hw : B.sectors d = 0 := if_neg (by rw [e]; decide)
      rw [hw]
      rw [e] at e1
      refine ret_call rfl c41_eq ?_
      simp only [c41, e1, Aa, Ab, Ad, Ae, Af, Ag, Ah, Ai, Aj, Ak, Al, Ao, Ap, Aq, Ar, Au, sO_p, sO_r, sO_m, sO_a, sO_c, Av, Aw, Ax, Ay, Az, sE_p, sE_r, sE_m, sE_a, sE_c, A0, A2, A3, A4, A5, A6, A7, A8, A9, Ba, Bb, Bc, Bd, Be, Bf, Bg, Bh, Bi, Bj, Bl, Bm, Bo, Bp, Bq, Br, Bs, Bt, Bu, Bv, Tr.getP_e, Bw, Bx, ↓reduceIte, Nat.reduceEqDiff, Nat.reduceAdd, Nat.reduceSub, Nat.reduceMul, Nat.reduceDiv, Nat.reduceMod, Nat.zero_add, Nat.add_zero, beq_self_eq_true, Nat.zero_ne_one, Nat.one_ne_zero, Nat.reduceLeDiff, Int.reduceBEq, constF, unF, unary,  pickF, nilcF, faddrF, fldF, iaddrSF, arF, Bz, B3, B4, B5, B6, B7, convF, extF, lenF, eqcF, eqnF, eqN, eqPtr, isNone, loadF, storeF, allocF, callF, gets, Option.map_some, Option.bind_some, B8, B9, Ca, Cb, Cc, nbeq, nble, Cd, Ce, Cf, Cg, Ch, Ci, Cj, Ck, Cl, Cm, Cn, Co, Cp, Cq, Cr, Cs, Ct, Cu, Cv, Cw, Cx, V.w, width, unc, cmpCells, Cy, Cz, C6, C7, C8, Da, undef, List.append_nil, List.nil_append, List.cons_append, Db, Dc, resultsV, result, tup, Dd, Bool.and_true, Bool.true_and, Bool.and_self, decide_true, decide_false, Bool.not_true, Bool.not_false, Bool.true_beq, Bool.false_beq, beq_iff_eq, reduceCtorEq, Nat.succ_eq_add_one, ptr0, Int.ofNat_eq_natCast, Int.ofNat_le, Int.ofNat_lt, Int.natCast_add, De, Df, Dg, Dh, Di, List.map_cons, List.map_nil, Dj, Heap.next_add, Heap.next_set, boxF, buildF, fill, bsliceF, fillRows, List.replicate_one, Dk, Dl, Dm, Dn, Dp, Dq, Dr, Ds, Dt, Du, Dw, Dx, Dy, Dz, D2, D3, D4, D5, D6, D7, D8, D9, Ea, Eb, Ec, appF, List.length_cons, List.length_nil]
      simp
  exact e

theorem barm_all (n : Int) (lf m : Nat) :
    ret (callS Try.prog S0 lf (m + 2) 31 [.ptr (some ⟨b, 0⟩), .int .i64 n] H) fun v H' => v = .int .i64 (B.ac n) ∧ BNext H b ds so l H' l (B.arm n) := by
  cases hdk : B.dk with
  | true =>
    have e0 : B.ac n = 8 := if_pos hdk
    have e1 : B.arm n = B := if_neg (by rw [e0]; decide)
    rw [e0, e1]
    exact ⟨_, H, barm_dark h.at' hl hdk n lf m, rfl, h.idle (Turns.refl Z H)⟩
  | false =>
    by_cases hn : n < 0
    · have e0 : B.ac n = 2 := by unfold Bn.ac; rw [if_neg (by rw [hdk]; decide), if_pos hn]
      have e1 : B.arm n = B := if_neg (by rw [e0]; decide)
      rw [e0, e1]
      have en := bnone h.at' hl lf m
      have l3 := bload3 h.at'
      rw [hdk] at l3
      refine ret_call rfl c31_eq ?_
      simp only [c31, en, l3, hn, Aa, Ab, Ad, Ae, Af, Ag, Ah, Ai, Aj, Ak, Al, Ao, Ap, Aq, Ar, Au, sO_p, sO_r, sO_m, sO_a, sO_c, Av, Aw, Ax, Ay, Az, sE_p, sE_r, sE_m, sE_a, sE_c, A0, A2, A3, A4, A5, A6, A7, A8, A9, Ba, Bb, Bc, Bd, Be, Bf, Bg, Bh, Bi, Bj, Bl, Bm, Bo, Bp, Bq, Br, Bs, Bt, Bu, Bv, Tr.getP_e, Bw, Bx, ↓reduceIte, Nat.reduceEqDiff, Nat.reduceAdd, Nat.reduceSub, Nat.reduceMul, Nat.reduceDiv, Nat.reduceMod, Nat.zero_add, Nat.add_zero, beq_self_eq_true, Nat.zero_ne_one, Nat.one_ne_zero, Nat.reduceLeDiff, Int.reduceBEq, constF, unF, unary,  pickF, nilcF, faddrF, fldF, iaddrSF, arF, Bz, B3, B4, B5, B6, B7, convF, extF, lenF, eqcF, eqnF, eqN, eqPtr, isNone, loadF, storeF, allocF, callF, gets, Option.map_some, Option.bind_some, B8, B9, Ca, Cb, Cc, nbeq, nble, Cd, Ce, Cf, Cg, Ch, Ci, Cj, Ck, Cl, Cm, Cn, Co, Cp, Cq, Cr, Cs, Ct, Cu, Cv, Cw, Cx, V.w, width, unc, cmpCells, Cy, Cz, C6, C7, C8, Da, undef, List.append_nil, List.nil_append, List.cons_append, Db, Dc, resultsV, result, tup, Dd, Bool.and_true, Bool.true_and, Bool.and_self, decide_true, decide_false, Bool.not_true, Bool.not_false, Bool.true_beq, Bool.false_beq, beq_iff_eq, reduceCtorEq, Nat.succ_eq_add_one, ptr0, Int.ofNat_eq_natCast, Int.ofNat_le, Int.ofNat_lt, Int.natCast_add, De, Df, Dg, Dh, Di, List.map_cons, List.map_nil, Dj, Heap.next_add, Heap.next_set, boxF, buildF, fill, bsliceF, fillRows, List.replicate_one, Dk, Dl, Dm, Dn, Dp, Dq, Dr, Ds, Dt, Du, Dw, Dx, Dy, Dz, D2, D3, D4, D5, D6, D7, D8, D9, Ea, Eb, Ec, appF, List.length_cons, List.length_nil]
      exact ⟨trivial, .inr trivial, _, rfl, rfl, h.idle (Turns.refl Z H)⟩
    · have e0 : B.ac n = 0 := by unfold Bn.ac; rw [if_neg (by rw [hdk]; decide), if_neg hn]
      have e1 : B.arm n = { B with ar := n } := if_pos e0
      rw [e0, e1]
      refine ⟨_, _, barm h.at' hl hdk (x := n) (by omega) lf m, rfl, ⟨h.at'.put B.st n B.dk, h.map⟩, Turns.set (X := BFoot b ds l) (.inl rfl) _ _, fun c hc => .inl hc⟩

theorem bsure_all (d n : Int) (lf m : Nat) :
    ret (callS Try.prog S0 lf (m + 4) 95 [.ptr (some ⟨b, 0⟩), .int .i64 d, .int .i64 n] H) fun v H' => v = .tuple [.blk (B.sure d n), .int .i64 (B.uc d n)] ∧ Turns Z H H' := by
  have t1 := Turns.add Z H (.rows false 64 [[.blk 0]])
  have h' := h.turns t1
  have e1 := bthere_all h' hl d lf (m + 1)
  change callS Try.prog S0 lf (m + 3) 87 _ _ = _ at e1
  rcases h.has d with ⟨i, hi, rfl, e, eD⟩ | e
  · have hw : B.sure (i : Int) n = l[i].D.sure n := by rw [← eD]; exact if_pos e
    have hc : B.uc (i : Int) n = code l[i].D n := by rw [← eD]; exact if_pos e
    rw [hw, hc]
    rw [e] at e1
    have l0 := bload0 h'.at'
    have lp := bloadP h'.at' hi
    have hi1 : i + 1 ≤ l.length := hi
    obtain ⟨v, H1, e2, rfl, t2⟩ := sure_all (h'.at'.dev i hi) (good_at h hl hg hi).ne n lf m
    have g0 : H1.get (.run H.next) = some (.rows false 64 [[.blk 0]]) := by
      rw [t2.same _ (by show _ < _; simp) id, Heap.get_add, if_pos rfl]
    have st := cell_store (v := l[i].D.sure n) g0
    refine ret_call rfl c95_eq ?_
    simp only [c95, e1, l0, lp, hi1, e2, st, Nat.mul_one, Aa, Ab, Ad, Ae, Af, Ag, Ah, Ai, Aj, Ak, Al, Ao, Ap, Aq, Ar, Au, sO_p, sO_r, sO_m, sO_a, sO_c, Av, Aw, Ax, Ay, Az, sE_p, sE_r, sE_m, sE_a, sE_c, A0, A2, A3, A4, A5, A6, A7, A8, A9, Ba, Bb, Bc, Bd, Be, Bf, Bg, Bh, Bi, Bj, Bl, Bm, Bo, Bp, Bq, Br, Bs, Bt, Bu, Bv, Tr.getP_e, Bw, Bx, ↓reduceIte, Nat.reduceEqDiff, Nat.reduceAdd, Nat.reduceSub, Nat.reduceMul, Nat.reduceDiv, Nat.reduceMod, Nat.zero_add, Nat.add_zero, beq_self_eq_true, Nat.zero_ne_one, Nat.one_ne_zero, Nat.reduceLeDiff, Int.reduceBEq, constF, unF, unary,  pickF, nilcF, faddrF, fldF, iaddrSF, arF, Bz, B3, B4, B5, B6, B7, convF, extF, lenF, eqcF, eqnF, eqN, eqPtr, isNone, loadF, storeF, allocF, callF, gets, Option.map_some, Option.bind_some, B8, B9, Ca, Cb, Cc, nbeq, nble, Cd, Ce, Cf, Cg, Ch, Ci, Cj, Ck, Cl, Cm, Cn, Co, Cp, Cq, Cr, Cs, Ct, Cu, Cv, Cw, Cx, V.w, width, unc, cmpCells, Cy, Cz, C6, C7, C8, Da, undef, List.append_nil, List.nil_append, List.cons_append, Db, Dc, resultsV, result, tup, Dd, Bool.and_true, Bool.true_and, Bool.and_self, decide_true, decide_false, Bool.not_true, Bool.not_false, Bool.true_beq, Bool.false_beq, beq_iff_eq, reduceCtorEq, Nat.succ_eq_add_one, ptr0, Int.ofNat_eq_natCast, Int.ofNat_le, Int.ofNat_lt, Int.natCast_add, De, Df, Dg, Dh, Di, List.map_cons, List.map_nil, Dj, Heap.next_add, Heap.next_set, boxF, buildF, fill, bsliceF, fillRows, List.replicate_one, Dk, Dl, Dm, Dn, Dp, Dq, Dr, Ds, Dt, Du, Dw, Dx, Dy, Dz, D2, D3, D4, D5, D6, D7, D8, D9, Ea, Eb, Ec, appF, List.length_cons, List.length_nil]
    exact ⟨trivial, .inr trivial, _, rfl, rfl, (t1.trans t2).setnew (Nat.le_refl _) _⟩
  · have hw : B.sure d n = 0 := if_neg (by rw [e]; decide)
    have hc : B.uc d n = 2 := if_neg (by rw [e]; decide)
    rw [hw, hc]
    rw [e] at e1
    refine ret_call rfl c95_eq ?_
    simp only [c95, e1, Aa, Ab, Ad, Ae, Af, Ag, Ah, Ai, Aj, Ak, Al, Ao, Ap, Aq, Ar, Au, sO_p, sO_r, sO_m, sO_a, sO_c, Av, Aw, Ax, Ay, Az, sE_p, sE_r, sE_m, sE_a, sE_c, A0, A2, A3, A4, A5, A6, A7, A8, A9, Ba, Bb, Bc, Bd, Be, Bf, Bg, Bh, Bi, Bj, Bl, Bm, Bo, Bp, Bq, Br, Bs, Bt, Bu, Bv, Tr.getP_e, Bw, Bx, ↓reduceIte, Nat.reduceEqDiff, Nat.reduceAdd, Nat.reduceSub, Nat.reduceMul, Nat.reduceDiv, Nat.reduceMod, Nat.zero_add, Nat.add_zero, beq_self_eq_true, Nat.zero_ne_one, Nat.one_ne_zero, Nat.reduceLeDiff, Int.reduceBEq, constF, unF, unary,  pickF, nilcF, faddrF, fldF, iaddrSF, arF, Bz, B3, B4, B5, B6, B7, convF, extF, lenF, eqcF, eqnF, eqN, eqPtr, isNone, loadF, storeF, allocF, callF, gets, Option.map_some, Option.bind_some, B8, B9, Ca, Cb, Cc, nbeq, nble, Cd, Ce, Cf, Cg, Ch, Ci, Cj, Ck, Cl, Cm, Cn, Co, Cp, Cq, Cr, Cs, Ct, Cu, Cv, Cw, Cx, V.w, width, unc, cmpCells, Cy, Cz, C6, C7, C8, Da, undef, List.append_nil, List.nil_append, List.cons_append, Db, Dc, resultsV, result, tup, Dd, Bool.and_true, Bool.true_and, Bool.and_self, decide_true, decide_false, Bool.not_true, Bool.not_false, Bool.true_beq, Bool.false_beq, beq_iff_eq, reduceCtorEq, Nat.succ_eq_add_one, ptr0, Int.ofNat_eq_natCast, Int.ofNat_le, Int.ofNat_lt, Int.natCast_add, De, Df, Dg, Dh, Di, List.map_cons, List.map_nil, Dj, Heap.next_add, Heap.next_set, boxF, buildF, fill, bsliceF, fillRows, List.replicate_one, Dk, Dl, Dm, Dn, Dp, Dq, Dr, Ds, Dt, Du, Dw, Dx, Dy, Dz, D2, D3, D4, D5, D6, D7, D8, D9, Ea, Eb, Ec, appF, List.length_cons, List.length_nil]
    exact ⟨trivial, .inr trivial, _, rfl, rfl, t1.setnew (Nat.le_refl _) _⟩

theorem brot_all (d n j : Int) {x : Nat} (hx : x < 256) (lf m : Nat) :
    ret (callS Try.prog S0 lf (m + 4) 43 [.ptr (some ⟨b, 0⟩), .int .i64 d, .int .i64 n, .int .i64 j, .int .u8 (x : Int)] H) fun v H' => v = .int .i64 (B.oc d n j) ∧ ∃ l', BNext H b ds so l H' l' (B.rot d n j x) := by
  have e1 := bthere_all h hl d lf (m + 1)
  change callS Try.prog S0 lf (m + 3) 87 _ _ = _ at e1
  rcases h.has d with ⟨i, hi, rfl, e, eD⟩ | e
  · have hw : B.rot (i : Int) n j x = B.setd (i : Int) (l[i].D.rot n j x) := by rw [← eD]; exact if_pos e
    have hc : B.oc (i : Int) n j = rcode l[i].D n j := by rw [← eD]; exact if_pos e
    rw [hw, hc]
    rw [e] at e1
    have l0 := bload0 h.at'
    have lp := bloadP h.at' hi
    have hi1 : i + 1 ≤ l.length := hi
    obtain ⟨v, H', e2, rfl, y', k⟩ := rot_all (h.at'.dev i hi) (good_at h hl hg hi).ne n j hx lf m
    refine ret_call rfl c43_eq ?_
    simp only [c43, e1, l0, lp, hi1, e2, Nat.mul_one, Aa, Ab, Ad, Ae, Af, Ag, Ah, Ai, Aj, Ak, Al, Ao, Ap, Aq, Ar, Au, sO_p, sO_r, sO_m, sO_a, sO_c, Av, Aw, Ax, Ay, Az, sE_p, sE_r, sE_m, sE_a, sE_c, A0, A2, A3, A4, A5, A6, A7, A8, A9, Ba, Bb, Bc, Bd, Be, Bf, Bg, Bh, Bi, Bj, Bl, Bm, Bo, Bp, Bq, Br, Bs, Bt, Bu, Bv, Tr.getP_e, Bw, Bx, ↓reduceIte, Nat.reduceEqDiff, Nat.reduceAdd, Nat.reduceSub, Nat.reduceMul, Nat.reduceDiv, Nat.reduceMod, Nat.zero_add, Nat.add_zero, beq_self_eq_true, Nat.zero_ne_one, Nat.one_ne_zero, Nat.reduceLeDiff, Int.reduceBEq, constF, unF, unary,  pickF, nilcF, faddrF, fldF, iaddrSF, arF, Bz, B3, B4, B5, B6, B7, convF, extF, lenF, eqcF, eqnF, eqN, eqPtr, isNone, loadF, storeF, allocF, callF, gets, Option.map_some, Option.bind_some, B8, B9, Ca, Cb, Cc, nbeq, nble, Cd, Ce, Cf, Cg, Ch, Ci, Cj, Ck, Cl, Cm, Cn, Co, Cp, Cq, Cr, Cs, Ct, Cu, Cv, Cw, Cx, V.w, width, unc, cmpCells, Cy, Cz, C6, C7, C8, Da, undef, List.append_nil, List.nil_append, List.cons_append, Db, Dc, resultsV, result, tup, Dd, Bool.and_true, Bool.true_and, Bool.and_self, decide_true, decide_false, Bool.not_true, Bool.not_false, Bool.true_beq, Bool.false_beq, beq_iff_eq, reduceCtorEq, Nat.succ_eq_add_one, ptr0, Int.ofNat_eq_natCast, Int.ofNat_le, Int.ofNat_lt, Int.natCast_add, De, Df, Dg, Dh, Di, List.map_cons, List.map_nil, Dj, Heap.next_add, Heap.next_set, boxF, buildF, fill, bsliceF, fillRows, List.replicate_one, Dk, Dl, Dm, Dn, Dp, Dq, Dr, Ds, Dt, Du, Dw, Dx, Dy, Dz, D2, D3, D4, D5, D6, D7, D8, D9, Ea, Eb, Ec, appF, List.length_cons, List.length_nil]
    exact ⟨trivial, .inr trivial, _, rfl, rfl, _, h.dev hi k⟩
  · have hw : B.rot d n j x = B := if_neg (by rw [e]; decide)
    have hc : B.oc d n j = 2 := if_neg (by rw [e]; decide)
    rw [hw, hc]
    rw [e] at e1
    refine ret_call rfl c43_eq ?_
    simp only [c43, e1, Aa, Ab, Ad, Ae, Af, Ag, Ah, Ai, Aj, Ak, Al, Ao, Ap, Aq, Ar, Au, sO_p, sO_r, sO_m, sO_a, sO_c, Av, Aw, Ax, Ay, Az, sE_p, sE_r, sE_m, sE_a, sE_c, A0, A2, A3, A4, A5, A6, A7, A8, A9, Ba, Bb, Bc, Bd, Be, Bf, Bg, Bh, Bi, Bj, Bl, Bm, Bo, Bp, Bq, Br, Bs, Bt, Bu, Bv, Tr.getP_e, Bw, Bx, ↓reduceIte, Nat.reduceEqDiff, Nat.reduceAdd, Nat.reduceSub, Nat.reduceMul, Nat.reduceDiv, Nat.reduceMod, Nat.zero_add, Nat.add_zero, beq_self_eq_true, Nat.zero_ne_one, Nat.one_ne_zero, Nat.reduceLeDiff, Int.reduceBEq, constF, unF, unary,  pickF, nilcF, faddrF, fldF, iaddrSF, arF, Bz, B3, B4, B5, B6, B7, convF, extF, lenF, eqcF, eqnF, eqN, eqPtr, isNone, loadF, storeF, allocF, callF, gets, Option.map_some, Option.bind_some, B8, B9, Ca, Cb, Cc, nbeq, nble, Cd, Ce, Cf, Cg, Ch, Ci, Cj, Ck, Cl, Cm, Cn, Co, Cp, Cq, Cr, Cs, Ct, Cu, Cv, Cw, Cx, V.w, width, unc, cmpCells, Cy, Cz, C6, C7, C8, Da, undef, List.append_nil, List.nil_append, List.cons_append, Db, Dc, resultsV, result, tup, Dd, Bool.and_true, Bool.true_and, Bool.and_self, decide_true, decide_false, Bool.not_true, Bool.not_false, Bool.true_beq, Bool.false_beq, beq_iff_eq, reduceCtorEq, Nat.succ_eq_add_one, ptr0, Int.ofNat_eq_natCast, Int.ofNat_le, Int.ofNat_lt, Int.natCast_add, De, Df, Dg, Dh, Di, List.map_cons, List.map_nil, Dj, Heap.next_add, Heap.next_set, boxF, buildF, fill, bsliceF, fillRows, List.replicate_one, Dk, Dl, Dm, Dn, Dp, Dq, Dr, Ds, Dt, Du, Dw, Dx, Dy, Dz, D2, D3, D4, D5, D6, D7, D8, D9, Ea, Eb, Ec, appF, List.length_cons, List.length_nil]
    exact ⟨trivial, .inr trivial, _, rfl, rfl, l, h.idle (Turns.refl Z H)⟩

theorem binsert_all (d : Int) (lf m : Nat) :
    ret (callS Try.prog S0 lf (m + 4) 37 [.ptr (some ⟨b, 0⟩), .int .i64 d] H) fun v H' => v = .int .i64 (B.ic d) ∧ ∃ l', BNext H b ds so l H' l' (B.insert d) := by
  have e1 := blit_all h hl d lf m
  by_cases hlc : B.lc d = 0
  · have hdk : B.dk = false := by
      cases hdk : B.dk with
      | false => rfl
      | true => rw [show B.lc d = 8 from if_pos hdk] at hlc; cases hlc
    have ht : B.tc d = 0 := by rw [← hlc]; exact (if_neg (by rw [hdk]; decide)).symm
    rw [hlc] at e1
    rcases h.has d with ⟨i, hi, rfl, e, eD⟩ | e
    · have l0 := bload0 h.at'
      have lp := bloadP h.at' hi
      have hi1 : i + 1 ≤ l.length := hi
      have g := good_at h hl hg hi
      obtain ⟨v, H', e2, rfl, rfl⟩ := dead_ok (h.at'.dev i hi) g.ne lf (m + 1)
      change callS Try.prog S0 lf (m + 3) 82 [.ptr (some ⟨l[i].b, 0⟩)] H' = _ at e2
      cases hdd : l[i].D.dead with
      | false =>
        have hic : B.ic (i : Int) = 17 := by unfold Bn.ic; rw [if_pos hlc, eD, if_neg (by rw [hdd]; decide)]
        have hin : B.insert (i : Int) = B := if_neg (by rw [hic]; decide)
        rw [hic, hin]
        rw [hdd] at e2
        refine ret_call rfl c37_eq ?_
        simp only [c37, e1, l0, lp, hi1, e2, Nat.mul_one, Aa, Ab, Ad, Ae, Af, Ag, Ah, Ai, Aj, Ak, Al, Ao, Ap, Aq, Ar, Au, sO_p, sO_r, sO_m, sO_a, sO_c, Av, Aw, Ax, Ay, Az, sE_p, sE_r, sE_m, sE_a, sE_c, A0, A2, A3, A4, A5, A6, A7, A8, A9, Ba, Bb, Bc, Bd, Be, Bf, Bg, Bh, Bi, Bj, Bl, Bm, Bo, Bp, Bq, Br, Bs, Bt, Bu, Bv, Tr.getP_e, Bw, Bx, ↓reduceIte, Nat.reduceEqDiff, Nat.reduceAdd, Nat.reduceSub, Nat.reduceMul, Nat.reduceDiv, Nat.reduceMod, Nat.zero_add, Nat.add_zero, beq_self_eq_true, Nat.zero_ne_one, Nat.one_ne_zero, Nat.reduceLeDiff, Int.reduceBEq, constF, unF, unary,  pickF, nilcF, faddrF, fldF, iaddrSF, arF, Bz, B3, B4, B5, B6, B7, convF, extF, lenF, eqcF, eqnF, eqN, eqPtr, isNone, loadF, storeF, allocF, callF, gets, Option.map_some, Option.bind_some, B8, B9, Ca, Cb, Cc, nbeq, nble, Cd, Ce, Cf, Cg, Ch, Ci, Cj, Ck, Cl, Cm, Cn, Co, Cp, Cq, Cr, Cs, Ct, Cu, Cv, Cw, Cx, V.w, width, unc, cmpCells, Cy, Cz, C6, C7, C8, Da, undef, List.append_nil, List.nil_append, List.cons_append, Db, Dc, resultsV, result, tup, Dd, Bool.and_true, Bool.true_and, Bool.and_self, decide_true, decide_false, Bool.not_true, Bool.not_false, Bool.true_beq, Bool.false_beq, beq_iff_eq, reduceCtorEq, Nat.succ_eq_add_one, ptr0, Int.ofNat_eq_natCast, Int.ofNat_le, Int.ofNat_lt, Int.natCast_add, De, Df, Dg, Dh, Di, List.map_cons, List.map_nil, Dj, Heap.next_add, Heap.next_set, boxF, buildF, fill, bsliceF, fillRows, List.replicate_one, Dk, Dl, Dm, Dn, Dp, Dq, Dr, Ds, Dt, Du, Dw, Dx, Dy, Dz, D2, D3, D4, D5, D6, D7, D8, D9, Ea, Eb, Ec, appF, List.length_cons, List.length_nil]
        exact ⟨trivial, .inr trivial, _, rfl, rfl, l, h.idle (Turns.refl Z _)⟩
      | true =>
        have hic : B.ic (i : Int) = 0 := by unfold Bn.ic; rw [if_pos hlc, eD, if_pos hdd]
        have hin : B.insert (i : Int) = B.setd (i : Int) (blank l[i].D.S.length) := by rw [← eD]; exact if_pos hic
        rw [hic, hin]
        rw [hdd] at e2
        obtain ⟨v, H'', e3, rfl, rfl⟩ := sectors_ok (h.at'.dev i hi) g.ne lf (m + 1)
        change callS Try.prog S0 lf (m + 3) 81 [.ptr (some ⟨l[i].b, 0⟩)] H'' = _ at e3
        have hpos : 1 ≤ l[i].D.S.length := by
          have := g.ne
          cases hS : l[i].D.S with
          | nil => exact absurd hS this
          | cons a s => simp
        obtain ⟨v, H1, e4, rfl, hD, t⟩ := new_ok H'' (n := l[i].D.S.length) hpos g.len lf (m + 2)
        have hF : Fresh H'' (.run (H''.next + 1)) ⟨.run H''.next, 0, .run H''.next, none, 0⟩ (blank l[i].D.S.length) := ⟨Heap.not_old (by omega), Heap.not_old (Nat.le_refl _), fun e => absurd rfl e⟩
        obtain ⟨s5, k⟩ := h.place hi t hD hF
        have l0' := bload0 (h.turns t).at'
        refine ret_call rfl c37_eq ?_
        simp only [c37, e1, l0, lp, hi1, e2, e3, e4, l0', s5, Nat.mul_one, Aa, Ab, Ad, Ae, Af, Ag, Ah, Ai, Aj, Ak, Al, Ao, Ap, Aq, Ar, Au, sO_p, sO_r, sO_m, sO_a, sO_c, Av, Aw, Ax, Ay, Az, sE_p, sE_r, sE_m, sE_a, sE_c, A0, A2, A3, A4, A5, A6, A7, A8, A9, Ba, Bb, Bc, Bd, Be, Bf, Bg, Bh, Bi, Bj, Bl, Bm, Bo, Bp, Bq, Br, Bs, Bt, Bu, Bv, Tr.getP_e, Bw, Bx, ↓reduceIte, Nat.reduceEqDiff, Nat.reduceAdd, Nat.reduceSub, Nat.reduceMul, Nat.reduceDiv, Nat.reduceMod, Nat.zero_add, Nat.add_zero, beq_self_eq_true, Nat.zero_ne_one, Nat.one_ne_zero, Nat.reduceLeDiff, Int.reduceBEq, constF, unF, unary,  pickF, nilcF, faddrF, fldF, iaddrSF, arF, Bz, B3, B4, B5, B6, B7, convF, extF, lenF, eqcF, eqnF, eqN, eqPtr, isNone, loadF, storeF, allocF, callF, gets, Option.map_some, Option.bind_some, B8, B9, Ca, Cb, Cc, nbeq, nble, Cd, Ce, Cf, Cg, Ch, Ci, Cj, Ck, Cl, Cm, Cn, Co, Cp, Cq, Cr, Cs, Ct, Cu, Cv, Cw, Cx, V.w, width, unc, cmpCells, Cy, Cz, C6, C7, C8, Da, undef, List.append_nil, List.nil_append, List.cons_append, Db, Dc, resultsV, result, tup, Dd, Bool.and_true, Bool.true_and, Bool.and_self, decide_true, decide_false, Bool.not_true, Bool.not_false, Bool.true_beq, Bool.false_beq, beq_iff_eq, reduceCtorEq, Nat.succ_eq_add_one, ptr0, Int.ofNat_eq_natCast, Int.ofNat_le, Int.ofNat_lt, Int.natCast_add, De, Df, Dg, Dh, Di, List.map_cons, List.map_nil, Dj, Heap.next_add, Heap.next_set, boxF, buildF, fill, bsliceF, fillRows, List.replicate_one, Dk, Dl, Dm, Dn, Dp, Dq, Dr, Ds, Dt, Du, Dw, Dx, Dy, Dz, D2, D3, D4, D5, D6, D7, D8, D9, Ea, Eb, Ec, appF, List.length_cons, List.length_nil]
        exact ⟨trivial, .inr trivial, _, rfl, rfl, _, k⟩
    · rw [ht] at e; cases e
  · have hic : B.ic d = B.lc d := if_neg hlc
    have hin : B.insert d = B := if_neg (by rw [hic]; exact hlc)
    have hz : (B.lc d == 0) = false := by simp; exact hlc
    rw [hic, hin]
    refine ret_call rfl c37_eq ?_
    simp only [c37, e1, hz, Aa, Ab, Ad, Ae, Af, Ag, Ah, Ai, Aj, Ak, Al, Ao, Ap, Aq, Ar, Au, sO_p, sO_r, sO_m, sO_a, sO_c, Av, Aw, Ax, Ay, Az, sE_p, sE_r, sE_m, sE_a, sE_c, A0, A2, A3, A4, A5, A6, A7, A8, A9, Ba, Bb, Bc, Bd, Be, Bf, Bg, Bh, Bi, Bj, Bl, Bm, Bo, Bp, Bq, Br, Bs, Bt, Bu, Bv, Tr.getP_e, Bw, Bx, ↓reduceIte, Nat.reduceEqDiff, Nat.reduceAdd, Nat.reduceSub, Nat.reduceMul, Nat.reduceDiv, Nat.reduceMod, Nat.zero_add, Nat.add_zero, beq_self_eq_true, Nat.zero_ne_one, Nat.one_ne_zero, Nat.reduceLeDiff, Int.reduceBEq, constF, unF, unary,  pickF, nilcF, faddrF, fldF, iaddrSF, arF, Bz, B3, B4, B5, B6, B7, convF, extF, lenF, eqcF, eqnF, eqN, eqPtr, isNone, loadF, storeF, allocF, callF, gets, Option.map_some, Option.bind_some, B8, B9, Ca, Cb, Cc, nbeq, nble, Cd, Ce, Cf, Cg, Ch, Ci, Cj, Ck, Cl, Cm, Cn, Co, Cp, Cq, Cr, Cs, Ct, Cu, Cv, Cw, Cx, V.w, width, unc, cmpCells, Cy, Cz, C6, C7, C8, Da, undef, List.append_nil, List.nil_append, List.cons_append, Db, Dc, resultsV, result, tup, Dd, Bool.and_true, Bool.true_and, Bool.and_self, decide_true, decide_false, Bool.not_true, Bool.not_false, Bool.true_beq, Bool.false_beq, beq_iff_eq, reduceCtorEq, Nat.succ_eq_add_one, ptr0, Int.ofNat_eq_natCast, Int.ofNat_le, Int.ofNat_lt, Int.natCast_add, De, Df, Dg, Dh, Di, List.map_cons, List.map_nil, Dj, Heap.next_add, Heap.next_set, boxF, buildF, fill, bsliceF, fillRows, List.replicate_one, Dk, Dl, Dm, Dn, Dp, Dq, Dr, Ds, Dt, Du, Dw, Dx, Dy, Dz, D2, D3, D4, D5, D6, D7, D8, D9, Ea, Eb, Ec, appF, List.length_cons, List.length_nil]
    exact ⟨trivial, .inr trivial, _, rfl, rfl, l, h.idle (Turns.refl Z _)⟩
end

end Go.Proofs.Ytcelngepfdchiaa.disk

