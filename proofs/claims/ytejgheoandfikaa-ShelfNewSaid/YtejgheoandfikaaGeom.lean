/-
  Geometries: whether one may be, how many blocks it has; the program's and the document's.
-/
import Derived.Test.YtejgheoandfikaaRows
import Derived.Test.YtejgheoandfikaaAmTac
import Derived.Test.YtejgheoandfikaaAmList
set_option linter.unusedVariables false
set_option linter.unusedSimpArgs false
set_option maxRecDepth 10000
namespace Go.Proofs.Ytejgheoandfikaa.draft
open Go.Am

/-- ashlar/geom.within -/
noncomputable def c58 : CFn := ⟨[.tmp (pp 6)],
 .seq (.reg [
 qo 6 (.p (S.get (.c (.bool false)))) []]) (
 .seq (.reg [
 mv 7 0,
 mv 8 1,
 qo 9 (.p (arF .geq (tt 7) (tt 8))) [pp 7, pp 8],
 mv 10 9,
 mg 11 0 10 true,
 mg 12 2 10 true,
 qg 13 (.p (arF .leq (tt 11) (tt 12))) 10 true [pp 11, pp 12],
 qo 14 (.p (pickF (tt 10) (tt 13) (.c (.bool false)))) [pp 10, pp 13],
 mv 6 14]) (
 .ret))⟩
theorem c58_eq : fnOf Try.prog 58 = some c58 := by kernel_rfl

/-- ashlar/geom.May -/
noncomputable def c27 : CFn := ⟨[.tmp (pp 2)],
 .seq (.reg [
 qo 1 (.m (boxF 3 (tt 0))) [pp 0],
 qo 2 (.p (S.get (.c (.bool false)))) []]) (
 .seq (.reg [
 qo 3 (.p (faddrF (tt 1) 0)) [pp 1],
 qo 4 (.r (loadF (tt 3) 1 .sc)) [pp 3],
 qo 5 (.c (callF (ff 58) [(tt 4), (ii 3), (ii 16)])) [pp 4],
 mv 6 5,
 qg 7 (.p (faddrF (tt 1) 1)) 6 true [pp 1],
 qg 8 (.r (loadF (tt 7) 1 .sc)) 6 true [pp 7],
 qg 9 (.c (callF (ff 58) [(tt 8), (ii 1), (ii 64)])) 6 true [pp 8],
 qo 10 (.p (pickF (tt 6) (tt 9) (.c (.bool false)))) [pp 6, pp 9],
 mv 11 10,
 qg 12 (.p (faddrF (tt 1) 2)) 11 true [pp 1],
 qg 13 (.r (loadF (tt 12) 1 .sc)) 11 true [pp 12],
 qg 14 (.c (callF (ff 58) [(tt 13), (ii 40), (ii 256)])) 11 true [pp 13],
 qo 15 (.p (pickF (tt 11) (tt 14) (.c (.bool false)))) [pp 11, pp 14],
 mv 2 15]) (
 .ret))⟩
theorem c27_eq : fnOf Try.prog 27 = some c27 := by kernel_rfl

/-- ashlar/ashlarref04.May -/
noncomputable def c28 : CFn := ⟨[.tmp (pp 2)],
 .seq (.reg [
 qo 1 (.m (boxF 3 (tt 0))) [pp 0],
 qo 2 (.p (S.get (.c (.bool false)))) []]) (
 .seq (.reg [
 qo 3 (.p (faddrF (tt 1) 0)) [pp 1],
 qo 4 (.r (loadF (tt 3) 1 .sc)) [pp 3],
 qo 5 (.p (arF .geq (tt 4) (ii 3))) [pp 4],
 mv 6 5,
 qg 7 (.p (faddrF (tt 1) 0)) 6 true [pp 1],
 qg 8 (.r (loadF (tt 7) 1 .sc)) 6 true [pp 7],
 qg 9 (.p (arF .leq (tt 8) (ii 16))) 6 true [pp 8],
 qo 10 (.p (pickF (tt 6) (tt 9) (.c (.bool false)))) [pp 6, pp 9],
 mv 11 10,
 qg 12 (.p (faddrF (tt 1) 1)) 11 true [pp 1],
 qg 13 (.r (loadF (tt 12) 1 .sc)) 11 true [pp 12],
 qg 14 (.p (arF .geq (tt 13) (ii 1))) 11 true [pp 13],
 qo 15 (.p (pickF (tt 11) (tt 14) (.c (.bool false)))) [pp 11, pp 14],
 mv 16 15,
 qg 17 (.p (faddrF (tt 1) 1)) 16 true [pp 1],
 qg 18 (.r (loadF (tt 17) 1 .sc)) 16 true [pp 17],
 qg 19 (.p (arF .leq (tt 18) (ii 64))) 16 true [pp 18],
 qo 20 (.p (pickF (tt 16) (tt 19) (.c (.bool false)))) [pp 16, pp 19],
 mv 21 20,
 qg 22 (.p (faddrF (tt 1) 2)) 21 true [pp 1],
 qg 23 (.r (loadF (tt 22) 1 .sc)) 21 true [pp 22],
 qg 24 (.p (arF .geq (tt 23) (ii 40))) 21 true [pp 23],
 qo 25 (.p (pickF (tt 21) (tt 24) (.c (.bool false)))) [pp 21, pp 24],
 mv 26 25,
 qg 27 (.p (faddrF (tt 1) 2)) 26 true [pp 1],
 qg 28 (.r (loadF (tt 27) 1 .sc)) 26 true [pp 27],
 qg 29 (.p (arF .leq (tt 28) (ii 256))) 26 true [pp 28],
 qo 30 (.p (pickF (tt 26) (tt 29) (.c (.bool false)))) [pp 26, pp 29],
 mv 2 30]) (
 .ret))⟩
theorem c28_eq : fnOf Try.prog 28 = some c28 := by kernel_rfl


def Z : Bk → Prop := fun _ => False
noncomputable abbrev S0 : CallT := sumT 8

def geo (m s r : Int) : V := .agg [.int .i64 m, .int .i64 s, .int .i64 r]
def inn (n lo hi : Int) : Bool := decide (lo ≤ n) && decide (n ≤ hi)
def may (m s r : Int) : Bool := inn m 3 16 && (inn s 1 64 && inn r 40 256)

theorem inn_t {n lo hi : Int} (h : inn n lo hi = true) : lo ≤ n ∧ n ≤ hi := by
  simpa [inn] using h
theorem may_t {m s r : Int} (h : may m s r = true) : (3 ≤ m ∧ m ≤ 16) ∧ (1 ≤ s ∧ s ≤ 64) ∧ (40 ≤ r ∧ r ≤ 256) := by
  simp only [may, Bool.and_eq_true] at h
  exact ⟨inn_t h.1, inn_t h.2.1, inn_t h.2.2⟩

theorem within_ok (H : Heap) (a lo hi : Int) (lf n : Nat) : callS Try.prog S0 lf (n + 1) 58 [.int .i64 a, .int .i64 lo, .int .i64 hi] H = some (.v (.bool (inn a lo hi)), H) := by
  obtain ⟨v, H', e, rfl, rfl⟩ : ret (callS Try.prog S0 lf (n + 1) 58 [.int .i64 a, .int .i64 lo, .int .i64 hi] H) fun v H' => v = .bool (inn a lo hi) ∧ H' = H := by
    refine ret_call rfl c58_eq ?_
    by_cases h : lo ≤ a
    · simp only [c58, h, sy, tup, ↓reduceIte, Nat.reduceEqDiff, Nat.reduceAdd, Nat.reduceSub, Nat.reduceMul, Nat.reduceDiv, Nat.reduceMod, Nat.reduceLeDiff, Int.reduceBEq, reduceCtorEq]
      simp [inn, h]
    · simp only [c58, h, sy, tup, ↓reduceIte, Nat.reduceEqDiff, Nat.reduceAdd, Nat.reduceSub, Nat.reduceMul, Nat.reduceDiv, Nat.reduceMod, Nat.reduceLeDiff, Int.reduceBEq, reduceCtorEq]
      simp [inn, h]
  exact e

theorem may_ok (H : Heap) (m s r : Int) (lf n : Nat) : ret (callS Try.prog S0 lf (n + 2) 27 [geo m s r] H) fun v H' => v = .bool (may m s r) ∧ Turns Z H H' := by
  have t1 := Turns.add Z H (.rows false 3 [[.int .i64 m, .int .i64 s, .int .i64 r]])
  have hg : (H.add (.rows false 3 [[.int .i64 m, .int .i64 s, .int .i64 r]])).get (.run H.next) = some (.rows false 3 [[.int .i64 m, .int .i64 s, .int .i64 r]]) := by rw [Heap.get_add, if_pos rfl]
  have l0 : loadAt (H.add (.rows false 3 [[.int .i64 m, .int .i64 s, .int .i64 r]])) ⟨.run H.next, 0⟩ 1 = some [.int .i64 m] := by rw [loadAt_eq hg rfl]; rfl
  have l1 : loadAt (H.add (.rows false 3 [[.int .i64 m, .int .i64 s, .int .i64 r]])) ⟨.run H.next, 1⟩ 1 = some [.int .i64 s] := by rw [loadAt_eq hg rfl]; rfl
  have l2 : loadAt (H.add (.rows false 3 [[.int .i64 m, .int .i64 s, .int .i64 r]])) ⟨.run H.next, 2⟩ 1 = some [.int .i64 r] := by rw [loadAt_eq hg rfl]; rfl
  have w1 := within_ok (H.add (.rows false 3 [[.int .i64 m, .int .i64 s, .int .i64 r]])) m 3 16 lf n
  have w2 := within_ok (H.add (.rows false 3 [[.int .i64 m, .int .i64 s, .int .i64 r]])) s 1 64 lf n
  have w3 := within_ok (H.add (.rows false 3 [[.int .i64 m, .int .i64 s, .int .i64 r]])) r 40 256 lf n
  refine ret_call rfl c27_eq ?_
  unfold may
  generalize inn m 3 16 = b1 at *
  generalize inn s 1 64 = b2 at *
  generalize inn r 40 256 = b3 at *
  cases b1 <;> cases b2 <;> (simp only [c27, geo, w1, w2, w3, l0, l1, l2, sy, tup, ↓reduceIte, Nat.reduceEqDiff, Nat.reduceAdd, Nat.reduceSub, Nat.reduceMul, Nat.reduceDiv, Nat.reduceMod, Nat.reduceLeDiff, Int.reduceBEq, reduceCtorEq]; simp; exact t1)

theorem rmay_ok (H : Heap) (m s r : Int) (lf n : Nat) : ret (callS Try.prog S0 lf (n + 1) 28 [geo m s r] H) fun v H' => v = .bool (may m s r) ∧ Turns Z H H' := by
  have t1 := Turns.add Z H (.rows false 3 [[.int .i64 m, .int .i64 s, .int .i64 r]])
  have hg : (H.add (.rows false 3 [[.int .i64 m, .int .i64 s, .int .i64 r]])).get (.run H.next) = some (.rows false 3 [[.int .i64 m, .int .i64 s, .int .i64 r]]) := by rw [Heap.get_add, if_pos rfl]
  have l0 : loadAt (H.add (.rows false 3 [[.int .i64 m, .int .i64 s, .int .i64 r]])) ⟨.run H.next, 0⟩ 1 = some [.int .i64 m] := by rw [loadAt_eq hg rfl]; rfl
  have l1 : loadAt (H.add (.rows false 3 [[.int .i64 m, .int .i64 s, .int .i64 r]])) ⟨.run H.next, 1⟩ 1 = some [.int .i64 s] := by rw [loadAt_eq hg rfl]; rfl
  have l2 : loadAt (H.add (.rows false 3 [[.int .i64 m, .int .i64 s, .int .i64 r]])) ⟨.run H.next, 2⟩ 1 = some [.int .i64 r] := by rw [loadAt_eq hg rfl]; rfl
  refine ret_call rfl c28_eq ?_
  unfold may inn
  by_cases h1 : 3 ≤ m
  · by_cases h2 : m ≤ 16
    · by_cases h3 : 1 ≤ s
      · by_cases h4 : s ≤ 64
        · by_cases h5 : 40 ≤ r
          · simp only [c28, geo, h1, h2, h3, h4, h5, l0, l1, l2, sy, tup, ↓reduceIte, Nat.reduceEqDiff, Nat.reduceAdd, Nat.reduceSub, Nat.reduceMul, Nat.reduceDiv, Nat.reduceMod, Nat.reduceLeDiff, Int.reduceBEq, reduceCtorEq]; simp; exact t1
          · simp only [c28, geo, h1, h2, h3, h4, h5, l0, l1, l2, sy, tup, ↓reduceIte, Nat.reduceEqDiff, Nat.reduceAdd, Nat.reduceSub, Nat.reduceMul, Nat.reduceDiv, Nat.reduceMod, Nat.reduceLeDiff, Int.reduceBEq, reduceCtorEq]; simp; exact t1
        · simp only [c28, geo, h1, h2, h3, h4, l0, l1, l2, sy, tup, ↓reduceIte, Nat.reduceEqDiff, Nat.reduceAdd, Nat.reduceSub, Nat.reduceMul, Nat.reduceDiv, Nat.reduceMod, Nat.reduceLeDiff, Int.reduceBEq, reduceCtorEq]; simp; exact t1
      · simp only [c28, geo, h1, h2, h3, l0, l1, l2, sy, tup, ↓reduceIte, Nat.reduceEqDiff, Nat.reduceAdd, Nat.reduceSub, Nat.reduceMul, Nat.reduceDiv, Nat.reduceMod, Nat.reduceLeDiff, Int.reduceBEq, reduceCtorEq]; simp; exact t1
    · simp only [c28, geo, h1, h2, l0, l1, l2, sy, tup, ↓reduceIte, Nat.reduceEqDiff, Nat.reduceAdd, Nat.reduceSub, Nat.reduceMul, Nat.reduceDiv, Nat.reduceMod, Nat.reduceLeDiff, Int.reduceBEq, reduceCtorEq]; simp; exact t1
  · simp only [c28, geo, h1, l0, l1, l2, sy, tup, ↓reduceIte, Nat.reduceEqDiff, Nat.reduceAdd, Nat.reduceSub, Nat.reduceMul, Nat.reduceDiv, Nat.reduceMod, Nat.reduceLeDiff, Int.reduceBEq, reduceCtorEq]; simp; exact t1

/-- how many blocks -/
def blocks (m s r : Int) : Int := if may m s r = true then s * (m - 1) else 0

theorem blocks_le (m s r : Int) : 0 ≤ blocks m s r ∧ blocks m s r ≤ 960 := by
  unfold blocks
  split
  · rename_i h
    obtain ⟨h1, h2, h3⟩ := may_t h
    have e1 : 0 ≤ s * (m - 1) := Int.mul_nonneg (by omega) (by omega)
    have e2 : s * (m - 1) ≤ 64 * 15 := Int.mul_le_mul (by omega) (by omega) (by omega) (by omega)
    omega
  · omega

theorem wrap_mul {m s r : Int} (h : may m s r = true) : IntKind.i64.wrap (s * (m - 1)) = s * (m - 1) ∧ IntKind.i64.wrap (m - 1) = m - 1 := by
  have := blocks_le m s r
  unfold blocks at this
  rw [if_pos h] at this
  obtain ⟨h1, h2, h3⟩ := may_t h
  exact ⟨wrap_i64 (by omega), wrap_i64 (by omega)⟩

end Go.Proofs.Ytejgheoandfikaa.draft

