/-
  Where blocks stand: the stripe alone is told.
-/
import Derived.Test.YtpmdbbdidafehaaDraftRef2
set_option linter.unusedVariables false
set_option linter.unusedSimpArgs false
set_option maxRecDepth 10000
namespace Go.Proofs.Ytpmdbbdidafehaa.draft
open Go.Am

/-- ashlar/geom.parity -/
noncomputable def c85 : CFn := ⟨[.tmp (pp 4)],
 .seq (.reg [
 qo 2 (.m (boxF 3 (tt 0))) [pp 0],
 qo 4 (.p (S.get (ii 0))) []]) (
 .seq (.regD [
 qo 5 (.p (faddrF (tt 2) 0)) [pp 2],
 qo 6 (.r (loadF (tt 5) 1 .sc)) [pp 5],
 qo 7 (.p (arF .sub (tt 6) (ii 1))) [pp 6],
 mv 8 1,
 qo 9 (.p (faddrF (tt 2) 0)) [pp 2],
 qo 10 (.r (loadF (tt 9) 1 .sc)) [pp 9],
 qo 11 (.p (arF .rem (tt 8) (tt 10))) [pp 8, pp 10],
 qo 12 (.p (arF .sub (tt 7) (tt 11))) [pp 7, pp 11],
 mv 4 12] [0, 1, 3, 0, 0, 16, 56, 127, 255]) (
 .ret))⟩
theorem c85_eq : fnOf Try.prog 85 = some c85 := by kernel_rfl

/-- ashlar/geom.At -/
noncomputable def c49 : CFn := ⟨[.cell (pp 4) 2 .ag, .tmp (pp 5)],
 .seq (.reg [
 qo 2 (.m (boxF 3 (tt 0))) [pp 0],
 qo 4 (.m (allocF 2 [.int .i64 0, .int .i64 0])) [],
 qo 5 (.p (S.get (ii 0))) []]) (
 .seq (.block 0 (.seq (.reg [
 qo 9 (.r (loadF (tt 2) 3 .ag)) [pp 2],
 qo 10 (.c (callF (ff 43) [(tt 9)])) [pp 9],
 qo 11 (.p (unF .not (tt 10))) [pp 10],
 mv 8 11]) (
 .cond (tt 8) (.seq (.reg [
 qo 12 (.p (buildF [.int .i64 0, .int .i64 0] .ag [])) [],
 qn (.a (storeF (tt 4) (tt 12) 2)) [pp 4, pp 12],
 qo 5 (.p (S.get (ii 2))) []]) (
 .ret)) (.seq (.reg [
 mv 14 1,
 qo 15 (.r (loadF (tt 2) 3 .ag)) [pp 2],
 qo 16 (.c (callF (ff 45) [(tt 15)])) [pp 15],
 qo 17 (.p (arF .sub (tt 16) (ii 1))) [pp 16],
 qo 18 (.c (callF (ff 81) [(tt 14), (ii 0), (tt 17)])) [pp 14, pp 17],
 qo 19 (.p (unF .not (tt 18))) [pp 18],
 mv 13 19]) (
 .cond (tt 13) (.seq (.reg [
 qo 20 (.p (buildF [.int .i64 0, .int .i64 0] .ag [])) [],
 qn (.a (storeF (tt 4) (tt 20) 2)) [pp 4, pp 20],
 qo 5 (.p (S.get (ii 12))) []]) (
 .ret)) (.skip)))))) (
 .seq (.regD [
 mv 21 1,
 qo 22 (.p (faddrF (tt 2) 0)) [pp 2],
 qo 23 (.r (loadF (tt 22) 1 .sc)) [pp 22],
 qo 24 (.p (arF .sub (tt 23) (ii 1))) [pp 23],
 qo 25 (.p (arF .quo (tt 21) (tt 24))) [pp 21, pp 24],
 mv 26 1,
 qo 27 (.p (faddrF (tt 2) 0)) [pp 2],
 qo 28 (.r (loadF (tt 27) 1 .sc)) [pp 27],
 qo 29 (.p (arF .sub (tt 28) (ii 1))) [pp 28],
 qo 30 (.p (arF .rem (tt 26) (tt 29))) [pp 26, pp 29],
 mv 6 25,
 mv 7 30] [0, 0, 2, 6, 15, 0, 0, 64, 192, 480, 31, 2047]) (
 .seq (.regD [
 mv 31 6,
 qo 32 (.r (loadF (tt 2) 3 .ag)) [pp 2],
 mv 33 6,
 qo 34 (.c (callF (ff 85) [(tt 32), (tt 33)])) [pp 32, pp 33],
 qo 35 (.p (arF .add (tt 34) (ii 1))) [pp 34],
 mv 36 7,
 qo 37 (.p (arF .add (tt 35) (tt 36))) [pp 35, pp 36],
 qo 38 (.p (faddrF (tt 2) 0)) [pp 2],
 qo 39 (.r (loadF (tt 38) 1 .sc)) [pp 38],
 qo 40 (.p (arF .rem (tt 37) (tt 39))) [pp 37, pp 39],
 qo 41 (.p (buildF [.int .i64 0, .int .i64 0] .ag [(0, 1, (tt 31)), (1, 1, (tt 40))])) [pp 31, pp 40],
 qn (.a (storeF (tt 4) (tt 41) 2)) [pp 4, pp 41],
 qo 5 (.p (S.get (ii 0))) []] [0, 0, 0, 6, 14, 0, 62, 0, 128, 510, 1023, 2047, 4095]) (
 .ret))))⟩
theorem c49_eq : fnOf Try.prog 49 = some c49 := by kernel_rfl


theorem arith_quo (k : IntKind) (a b : Int) (h : b ≠ 0) : arith .quo (.int k a) (.int k b) = some (.int k (k.wrap (a.tdiv b))) := by
  have : eqI b 0 = false := by rw [eqI_eq]; simp [h]
  simp [arith, this, frc_eq, mkI_eq, quoI_eq]

theorem parity_ok (H : Heap) {m s r : Int} (hm : may m s r = true) (x : Int) (lf n : Nat) : ret (callS Try.prog S0 lf (n + 1) 85 [geo m s r, .int .i64 x] H) fun v H' => ∃ z, v = .int .i64 z ∧ Turns Z H H' := by
  have t1 := Turns.add Z H (.rows false 3 [[.int .i64 m, .int .i64 s, .int .i64 r]])
  have hg : (H.add (.rows false 3 [[.int .i64 m, .int .i64 s, .int .i64 r]])).get (.run H.next) = some (.rows false 3 [[.int .i64 m, .int .i64 s, .int .i64 r]]) := by rw [Heap.get_add, if_pos rfl]
  have l0 : loadAt (H.add (.rows false 3 [[.int .i64 m, .int .i64 s, .int .i64 r]])) ⟨.run H.next, 0⟩ 1 = some [.int .i64 m] := by rw [loadAt_eq hg rfl]; rfl
  have hm0 : m ≠ 0 := by have := (may_t hm).1; omega
  have hr := arith_rem .i64 x m hm0
  refine ret_call rfl c85_eq ?_
  simp only [c85, geo, l0, hr, sy, tup, ↓reduceIte, Nat.reduceEqDiff, Nat.reduceAdd, Nat.reduceSub, Nat.reduceMul, Nat.reduceDiv, Nat.reduceMod, Nat.reduceLeDiff, Int.reduceBEq, reduceCtorEq]
  rw [endD_ok (by kernel_rfl) (by kernel_rfl)]
  simp only [sy, tup, ↓reduceIte, Nat.reduceEqDiff, Nat.reduceAdd, Nat.reduceSub, Nat.reduceMul, Nat.reduceDiv, Nat.reduceMod, Nat.reduceLeDiff, Int.reduceBEq, reduceCtorEq]
  exact ⟨trivial, .inr trivial, _, rfl, _, rfl, t1⟩

/-- the stripe of a block -/
def strp (m k : Int) : Int := k.tdiv (m - 1)

theorem strp_wrap {m s r k : Int} (hm : may m s r = true) (hk : 0 ≤ k ∧ k < blocks m s r) : IntKind.i64.wrap (k.tdiv (m - 1)) = strp m k := by
  have hb := blocks_le m s r
  have h1 := may_t hm
  unfold strp
  have e : k.tdiv (m - 1) = k / (m - 1) := Int.tdiv_eq_ediv_of_nonneg hk.1
  have h2 : 0 ≤ k / (m - 1) := Int.ediv_nonneg hk.1 (by omega)
  have h3 : k / (m - 1) ≤ k := Int.ediv_le_self _ hk.1
  rw [e]
  exact wrap_i64 (by omega)

theorem at_ok (H : Heap) {m s r k : Int} (hm : may m s r = true) (hk : 0 ≤ k ∧ k < blocks m s r) (lf n : Nat) : ret (callS Try.prog S0 lf (n + 4) 49 [geo m s r, .int .i64 k] H) fun v H' => ∃ z, v = .tuple [.agg [.int .i64 (strp m k), .int .i64 z], .int .i64 0] ∧ Turns Z H H' := by
  have t1 := Turns.add Z H (.rows false 3 [[.int .i64 m, .int .i64 s, .int .i64 r]])
  have hg : (H.add (.rows false 3 [[.int .i64 m, .int .i64 s, .int .i64 r]])).get (.run H.next) = some (.rows false 3 [[.int .i64 m, .int .i64 s, .int .i64 r]]) := by rw [Heap.get_add, if_pos rfl]
  have t2 := t1.addm (.rows false 2 [[.int .i64 0, .int .i64 0]])
  have hg2 : ((H.add (.rows false 3 [[.int .i64 m, .int .i64 s, .int .i64 r]])).add (.rows false 2 [[.int .i64 0, .int .i64 0]])).get (.run H.next) = some (.rows false 3 [[.int .i64 m, .int .i64 s, .int .i64 r]]) := by rw [mem_add (by simp)]; exact hg
  have hc2 : ((H.add (.rows false 3 [[.int .i64 m, .int .i64 s, .int .i64 r]])).add (.rows false 2 [[.int .i64 0, .int .i64 0]])).get (.run (H.next + 1)) = some (.rows false 2 [[.int .i64 0, .int .i64 0]]) := by rw [Heap.get_add, if_pos (by simp)]
  generalize hH2 : (H.add (.rows false 3 [[.int .i64 m, .int .i64 s, .int .i64 r]])).add (.rows false 2 [[.int .i64 0, .int .i64 0]]) = H2 at *
  have og : H2.Old (.run H.next) := by subst hH2; show _ < _; simp; omega
  have oc : H2.Old (.run (H.next + 1)) := by subst hH2; show _ < _; simp
  have lg : ∀ {H' : Heap}, Turns Z H2 H' → loadAt H' ⟨.run H.next, 0⟩ 3 = some [.int .i64 m, .int .i64 s, .int .i64 r] := fun t => by
    rw [loadAt_eq ((t.same _ og id).trans hg2) rfl]; rfl
  have l1 : ∀ {H' : Heap}, Turns Z H2 H' → loadAt H' ⟨.run H.next, 0⟩ 1 = some [.int .i64 m] := fun t => by
    rw [loadAt_eq ((t.same _ og id).trans hg2) rfl]; rfl
  have lg2 := lg (Turns.refl Z H2)
  obtain ⟨v, H3, e3, rfl, t3⟩ := may_ok H2 m s r lf (n + 1)
  unfold geo at e3
  rw [hm] at e3
  have lg3 := lg t3
  obtain ⟨v, H4, e4, rfl, t4⟩ := blocks_ok H3 m s r lf n
  unfold geo at e4
  have tt4 := t3.trans t4
  have lg4 := lg tt4
  have l14 := l1 tt4
  have hb := blocks_le m s r
  have wb : IntKind.i64.wrap (blocks m s r - 1) = blocks m s r - 1 := wrap_i64 (by omega)
  have e5 := within_ok H4 k 0 (blocks m s r - 1) lf (n + 2)
  have hin : inn k 0 (blocks m s r - 1) = true := by unfold inn; simp; omega
  rw [hin] at e5
  obtain ⟨w1, w2⟩ := wrap_mul hm
  have hm1 : m - 1 ≠ 0 := by have := (may_t hm).1; omega
  have hm0 : m ≠ 0 := by have := (may_t hm).1; omega
  have hq := arith_quo .i64 k (m - 1) hm1
  rw [strp_wrap hm hk] at hq
  have hrm := arith_rem .i64 k (m - 1) hm1
  obtain ⟨v, H5, e6, z, rfl, t5⟩ := parity_ok H4 hm (strp m k) lf (n + 2)
  unfold geo at e6
  have tt5 := tt4.trans t5
  have l15 := l1 tt5
  have hrm2 := fun y => arith_rem .i64 y m hm0
  have hc5 : H5.get (.run (H.next + 1)) = some (.rows false 2 [[.int .i64 0, .int .i64 0]]) := (tt5.same _ oc id).trans hc2
  have hst : ∀ a b : Int, storeAt H5 ⟨.run (H.next + 1), 0⟩ [.int .i64 a, .int .i64 b] = some (H5.set (.run (H.next + 1)) (.rows false 2 [[.int .i64 a, .int .i64 b]])) := fun a b => storeAt_eq hc5 (r := [.int .i64 0, .int .i64 0]) rfl rfl
  have hld : ∀ a b : Int, loadAt (H5.set (.run (H.next + 1)) (.rows false 2 [[.int .i64 a, .int .i64 b]])) ⟨.run (H.next + 1), 0⟩ 2 = some [.int .i64 a, .int .i64 b] := fun a b => by
    rw [loadAt_eq (by rw [Heap.get_set, if_pos rfl]) (r := [.int .i64 a, .int .i64 b]) rfl]; rfl
  obtain ⟨q, hqd⟩ : ∃ q : List (Option V × Option V), q = [(loadF (.t (Tr.path 38)) 1 .sc (Tr.setP (Tr.path 38) (.ptr (some ⟨.run H.next, 0⟩)) .e) H4, some (.int .i64 m)), (loadF (.t (Tr.path 38)) 1 .sc (Tr.setP (Tr.path 38) (.ptr (some ⟨.run H.next, 0⟩)) .e) H5, some (.int .i64 m))] := ⟨_, rfl⟩
  have hq' : ∀ p ∈ q, p.1 = p.2 := by
    rw [hqd]
    intro p hp
    simp only [List.mem_cons, List.not_mem_nil, or_false] at hp
    rcases hp with rfl | rfl
    · simp only [l14, sy, tup, ↓reduceIte, Nat.reduceEqDiff, Nat.reduceAdd, Nat.reduceSub, Nat.reduceMul, Nat.reduceDiv, Nat.reduceMod, Nat.reduceLeDiff, Int.reduceBEq, reduceCtorEq]
    · simp only [l15, sy, tup, ↓reduceIte, Nat.reduceEqDiff, Nat.reduceAdd, Nat.reduceSub, Nat.reduceMul, Nat.reduceDiv, Nat.reduceMod, Nat.reduceLeDiff, Int.reduceBEq, reduceCtorEq]
  refine ret_call rfl c49_eq ?_
  simp only [c49, geo, hH2, lg2, e3, lg3, e4, wb, e5, l14, w2, hq, hrm, sy, tup, ↓reduceIte, Nat.reduceEqDiff, Nat.reduceAdd, Nat.reduceSub, Nat.reduceMul, Nat.reduceDiv, Nat.reduceMod, Nat.reduceLeDiff, Int.reduceBEq, reduceCtorEq]
  rw [endD_ok (by kernel_rfl) (by kernel_rfl)]
  simp only [lg4, e6, l15, hrm2, hst, sy, tup, ↓reduceIte, Nat.reduceEqDiff, Nat.reduceAdd, Nat.reduceSub, Nat.reduceMul, Nat.reduceDiv, Nat.reduceMod, Nat.reduceLeDiff, Int.reduceBEq, reduceCtorEq]
  rw [endD_q (q := q) (by kernel_rfl) (by rw [hqd]; kernel_rfl)]
  have hld' : ∀ a b : Int, loadAt ((H5.set (.run (H.next + 1)) (.rows false 2 [[.int .i64 a, .int .i64 b]])).owe q) ⟨.run (H.next + 1), 0⟩ 2 = some [.int .i64 a, .int .i64 b] := fun a b => (hld a b : _)
  simp only [hld', sy, tup, ↓reduceIte, Nat.reduceEqDiff, Nat.reduceAdd, Nat.reduceSub, Nat.reduceMul, Nat.reduceDiv, Nat.reduceMod, Nat.reduceLeDiff, Int.reduceBEq, reduceCtorEq]
  exact ⟨trivial, .inr trivial, _, rfl, _, rfl, ((t2.trans tt5).setnew (Nat.le_succ _) _).owe hq'⟩

end Go.Proofs.Ytpmdbbdidafehaa.draft

