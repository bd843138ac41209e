/-
  'log.Lay' where there is no bench, told.
-/
import Derived.Test.YtjebjbodfdljmaaDoorCrc
import Derived.Test.YtjebjbodfdljmaaDoorAmTac
set_option linter.unusedVariables false
set_option linter.unusedSimpArgs false
set_option maxRecDepth 10000
namespace Go.Proofs.YtjebjbodfdljmaaDoor.lay
open Go.Am

noncomputable def c7_l0 : C := .seq (.reg [
 qo 47 (.p (arF .lss (tt 46) (ii 10))) [pp 46]]) (
 .seq (.cond (tt 47) (.skip) (.exit 1)) (
 .seq (.block 2 (.seq (.reg [
 mv 48 46,
 mv 13 48]) (
 .reg [
 mv 49 12,
 qo 50 (.r (loadF (tt 11) 1 .sc)) [pp 11],
 mv 51 13,
 qo 52 (.p (buildF [.blk 0] .bk [])) [],
 qo 53 (.c (callF (ff 34) [(tt 50), (tt 51), (tt 52)])) [pp 50, pp 51, pp 52],
 qo 54 (.m (bsliceF 1 1 [.nilFunc] [(0, 1, (tt 53))])) [pp 53],
 qo 55 (.a (appF 1 8 (tt 49) (tt 54))) [pp 49, pp 54],
 mv 12 55]))) (
 .reg [
 qo 56 (.p (arF .add (tt 46) (ii 1))) [pp 46],
 mv 46 56])))
/-- ashlar/log.Lay -/
noncomputable def c7 : CFn := ⟨[.tmp (pp 8), .tmp (pp 9)],
 .seq (.reg [
 qo 8 (.p (S.get (.c (.ptr none)))) [],
 qo 9 (.p (S.get (ii 0))) []]) (
 .seq (.reg [
 mv 15 0,
 mv 16 1,
 mv 17 3,
 qo 18 (.p (foldF max2 [(tt 17), (ii 0)])) [pp 17],
 qo 19 (.p (arF .add (ii 10) (tt 18))) [pp 18],
 qo 20 (.c (callF (ff 25) [(tt 15), (tt 16), (tt 19)])) [pp 15, pp 16, pp 19],
 mv 10 20]) (
 .seq (.block 0 (.seq (.reg [
 mv 22 10,
 qo 23 (.p (eqcF false false [.int .i64] (tt 22) (ii 1))) [pp 22],
 mv 21 23]) (
 .cond (tt 21) (.seq (.reg [
 mv 24 10,
 qo 8 (.p (S.get (.c (.ptr none)))) [],
 mv 9 24]) (
 .ret)) (.seq (.reg [
 mv 26 10,
 qo 27 (.p (eqcF true false [.int .i64] (tt 26) (ii 0))) [pp 26],
 mv 28 27,
 mg 29 2 28 false,
 qg 30 (.p (eqcF false false [.int .u64] (tt 29) (.c (.int .u64 0)))) 28 false [pp 29],
 qo 31 (.p (pickF (tt 28) (.c (.bool true)) (tt 30))) [pp 28, pp 30],
 mv 32 31,
 mg 33 3 32 false,
 qg 34 (.p (arF .lss (tt 33) (ii 40))) 32 false [pp 33],
 qo 35 (.p (pickF (tt 32) (.c (.bool true)) (tt 34))) [pp 32, pp 34],
 mv 36 35,
 mg 37 3 36 false,
 qg 38 (.p (arF .gtr (tt 37) (ii 256))) 36 false [pp 37],
 qo 39 (.p (pickF (tt 36) (.c (.bool true)) (tt 38))) [pp 36, pp 38],
 mv 25 39]) (
 .cond (tt 25) (.seq (.reg [
 qo 8 (.p (S.get (.c (.ptr none)))) [],
 qo 9 (.p (S.get (ii 2))) []]) (
 .ret)) (.skip)))))) (
 .seq (.reg [
 mv 40 0,
 mv 41 1,
 mv 42 2,
 mv 43 3,
 qo 44 (.p (buildF [.ptr none, .int .i64 0, .int .u64 0, .int .i64 0, .int .u64 0, .int .u64 0, .int .u64 0, .int .u64 0, .slice none 0 0 0] .ag [(0, 1, (tt 40)), (1, 1, (tt 41)), (2, 1, (tt 42)), (3, 1, (tt 43)), (4, 1, (.c (.int .u64 1))), (5, 1, (.c (.int .u64 1)))])) [pp 40, pp 41, pp 42, pp 43],
 qo 45 (.m (boxF 9 (tt 44))) [pp 44],
 qo 11 (.m (allocF 1 [.ptr none])) [],
 qn (.a (storeF (tt 11) (tt 45) 1)) [pp 11, pp 45]]) (
 .seq (.reg [
 qo 12 (.p (S.get (.c (.slice none 0 0 0)))) []]) (
 .seq (.seq (.reg [
 qo 46 (.p (S.get (ii 0))) []]) (
 .block 1 (.loop c7_l0))) (
 .seq (.reg [
 mv 57 12,
 qo 58 (.r (loadF (tt 11) 1 .sc)) [pp 11],
 qo 59 (.p (mkfnF (.func 35) [(tt 58)] [])) [pp 58],
 qo 60 (.p (mkfnF (.func 36) [] [(tt 11)])) [pp 11],
 qo 61 (.m (bsliceF 2 1 [.nilFunc] [(0, 1, (tt 59)), (1, 1, (tt 60))])) [pp 59, pp 60],
 qo 62 (.a (appF 1 8 (tt 57) (tt 61))) [pp 57, pp 61],
 mv 12 62]) (
 .seq (.seq (.reg [
 mv 63 12,
 qo 64 (.c (callF (ff 38) [(tt 63)])) [pp 63],
 mv 14 64]) (
 .seq (.reg [
 mv 65 14,
 qo 66 (.p (eqcF true false [.int .i64] (tt 65) (ii 0))) [pp 65]]) (
 .cond (tt 66) (.seq (.reg [
 mv 67 14,
 qo 8 (.p (S.get (.c (.ptr none)))) [],
 mv 9 67]) (
 .ret)) (.skip)))) (
 .seq (.reg [
 qo 68 (.r (loadF (tt 11) 1 .sc)) [pp 11],
 mv 8 68,
 qo 9 (.p (S.get (ii 0))) []]) (
 .ret)))))))))⟩
theorem c7_eq : fnOf Tryd.prog 7 = some c7 := by kernel_rfl

/-- ashlar/log.room -/
noncomputable def c25 : CFn := ⟨[.tmp (pp 6)],
 .seq (.reg [
 qo 6 (.p (S.get (ii 0))) []]) (
 .seq (.block 0 (.seq (.reg [
 mv 8 0,
 qo 9 (.c (callF (ff 53) [(tt 8)])) [pp 8],
 qo 10 (.p (eqcF false false [.int .i64] (tt 9) (ii 0))) [pp 9],
 mv 7 10]) (
 .cond (tt 7) (.seq (.reg [
 qo 6 (.p (S.get (ii 1))) []]) (
 .ret)) (.seq (.reg [
 mv 12 1,
 qo 13 (.p (arF .lss (tt 12) (ii 0))) [pp 12],
 mv 14 13,
 mg 15 1 14 false,
 mg 16 0 14 false,
 qg 17 (.c (callF (ff 53) [(tt 16)])) 14 false [pp 16],
 qg 18 (.p (arF .geq (tt 15) (tt 17))) 14 false [pp 15, pp 17],
 qo 19 (.p (pickF (tt 14) (.c (.bool true)) (tt 18))) [pp 14, pp 18],
 mv 20 19,
 mg 21 0 20 false,
 mg 22 1 20 false,
 qg 23 (.c (callF (ff 28) [(tt 21), (tt 22)])) 20 false [pp 21, pp 22],
 mg 24 2 20 false,
 qg 25 (.p (arF .lss (tt 23) (tt 24))) 20 false [pp 23, pp 24],
 qo 26 (.p (pickF (tt 20) (.c (.bool true)) (tt 25))) [pp 20, pp 25],
 mv 11 26]) (
 .cond (tt 11) (.seq (.reg [
 qo 6 (.p (S.get (ii 2))) []]) (
 .ret)) (.skip)))))) (
 .seq (.reg [
 qo 6 (.p (S.get (ii 0))) []]) (
 .ret)))⟩
theorem c25_eq : fnOf Tryd.prog 25 = some c25 := by kernel_rfl


theorem mono_snd {P : Program} {S S' : CallT} (h : CallSnd P S') (k : ∀ id args H r, S id args H = some r → S' id args H = some r) : CallSnd P S :=
  ⟨fun id args H v H' e => h.1 id args H v H' (k _ _ _ _ e), fun id args H v H' e => h.2 id args H v H' (k _ _ _ _ e)⟩

theorem lay_ok {b : V} {d s i : Int} {H H' : Heap} {lf n : Nat} (h : callS Tryd.prog noSum lf n 53 [b] H = some (.v (.int .i64 0), H')) : callS Tryd.prog noSum lf (n + 2) 7 [b, .int .i64 d, .int .u64 i, .int .i64 s] H = some (.v (.tuple [.ptr none, .int .i64 1]), H') := by
  have hr : ∀ x : Int, callS Tryd.prog noSum lf (n + 1) 25 [b, .int .i64 d, .int .i64 x] H = some (.v (.int .i64 1), H') := by
    intro x
    obtain ⟨v, H1, e, rfl, rfl⟩ : ret (callS Tryd.prog noSum lf (n + 1) 25 [b, .int .i64 d, .int .i64 x] H) fun v H1 => v = .int .i64 1 ∧ H1 = H' := by
      refine ret_call rfl c25_eq ?_
      simp only [c25, h, sy, tup, ↓reduceIte, Nat.reduceEqDiff, Nat.reduceAdd, Nat.reduceSub, Nat.reduceMul, Nat.reduceDiv, Nat.reduceMod, Nat.reduceLeDiff, Int.reduceBEq, reduceCtorEq]
      simp
    exact e
  obtain ⟨v, H1, e, rfl, rfl⟩ : ret (callS Tryd.prog noSum lf (n + 2) 7 [b, .int .i64 d, .int .u64 i, .int .i64 s] H) fun v H1 => v = .tuple [.ptr none, .int .i64 1] ∧ H1 = H' := by
    refine ret_call rfl c7_eq ?_
    simp only [c7, hr, sy, tup, ↓reduceIte, Nat.reduceEqDiff, Nat.reduceAdd, Nat.reduceSub, Nat.reduceMul, Nat.reduceDiv, Nat.reduceMod, Nat.reduceLeDiff, Int.reduceBEq, reduceCtorEq]
    simp
  exact e

noncomputable def layS : CallT := fun id args H => match Nat.beq id 7, args with
  | true, [b, .int .i64 d, .int .u64 i, .int .i64 s] => match callS Tryd.prog noSum 1000 10 53 [b] H with
    | some (.v (.int .i64 (.ofNat n)), H') => match Nat.beq n 0 with
      | true => some (.v (.tuple [.ptr none, .int .i64 1]), H')
      | false => none
    | _ => none
  | _, _ => none

theorem layS_snd : CallSnd Tryd.prog layS := by
  refine mono_snd (callS_sound (noSum_snd Tryd.prog) 1000 12) ?_
  intro id args H r e
  unfold layS at e
  split at e
  · rename_i hid
    obtain rfl := beq_iff.1 hid
    split at e
    · rename_i hc
      split at e
      · rename_i hn
        obtain rfl := beq_iff.1 hn
        cases e
        exact lay_ok hc
      · cases e
    · cases e
  · cases e

end Go.Proofs.YtjebjbodfdljmaaDoor.lay

