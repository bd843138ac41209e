import Derived.Test.YtllkepkaimnodaaGreatDoorAmVeil5
set_option linter.unusedVariables false
namespace Go.Am
theorem ibeq_t {a b:Int} (h:a=b):(a==b)=true:=beq_iff_eq.2 h
theorem ibeq_f {a b:Int} (h:¬ a=b):(a==b)=false:=beq_eq_false_iff_ne.2 h
theorem nble_t {a b:Nat} (h:a≤b):Nat.ble a b=true:=Nat.ble_eq_true_of_le h
theorem wrap_u32 {n:Int} (h:0≤n∧n≤4294967295):IntKind.u32.wrap n=n:=by
 have h1:=h.1
 have h2:=h.2
 show (if false&&decide (n % (2 ^ 32:Int)≥(2 ^ (32 - 1):Int)) then n % (2 ^ 32:Int) - (2 ^ 32:Int) else n % (2 ^ 32:Int))=n
 rw[show (2 ^ 32:Int)=4294967296 from rfl]
 simp only[Bool.false_and,Bool.false_eq_true,if_false]
 omega
theorem om:type_of% (And.intro (And.intro (And.intro (@decide_eq_true) (@decide_eq_false)) (And.intro (@wrap_i64) (@wrap_u64))) (And.intro (And.intro (@ibeq_t) (@ibeq_f)) (And.intro (@nble_t) (@wrap_u32)))):=
 (And.intro (And.intro (And.intro (@decide_eq_true) (@decide_eq_false)) (And.intro (@wrap_i64) (@wrap_u64))) (And.intro (And.intro (@ibeq_t) (@ibeq_f)) (And.intro (@nble_t) (@wrap_u32))))
end Go.Am
