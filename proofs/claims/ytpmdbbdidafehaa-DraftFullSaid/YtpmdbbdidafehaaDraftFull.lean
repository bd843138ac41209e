/-
  'DraftFull': its run.
-/
import Derived.Test.YtpmdbbdidafehaaDraft
set_option linter.unusedVariables false
set_option linter.unusedSimpArgs false
set_option maxRecDepth 10000
namespace Go.Proofs.Ytpmdbbdidafehaa.draft
open Go.Am

noncomputable def c5_l0 : C := .seq (.seq (.reg [
 mv 26 10,
 qo 27 (.p (arF .lss (tt 26) (ii 16))) [pp 26]]) (
 .cond (tt 27) (.skip) (.exit 0))) (
 .seq (.block 1 (.seq (.reg [
 mv 30 7,
 mv 31 9,
 mv 32 10,
 qo 33 (.p (arF .add (tt 31) (tt 32))) [pp 31, pp 32],
 qo 34 (.r (loadF (tt 4) 64 .bk)) [pp 4],
 qo 35 (.c (callF (ff 12) [(tt 30), (tt 33), (tt 34)])) [pp 30, pp 33, pp 34],
 qo 36 (.p (eqcF true false [.int .i64] (tt 35) (ii 0))) [pp 35]]) (
 .cond (tt 36) (.seq (.reg [
 qo 6 (.p (S.get (.c (.bool false)))) []]) (
 .ret)) (.skip)))) (
 .reg [
 mv 28 10,
 qo 29 (.p (arF .add (tt 28) (ii 1))) [pp 28],
 mv 10 29]))
/-- ashlar/ashlarlaw25.DraftFull -/
noncomputable def c5 : CFn := ⟨[.tmp (pp 6)],
 .seq (.reg [
 qo 4 (.m (boxF 64 (tt 1))) [pp 1],
 qo 5 (.m (boxF 64 (tt 2))) [pp 2],
 qo 6 (.p (S.get (.c (.bool false)))) []]) (
 .seq (.reg [
 qo 18 (.p (buildF [.int .i64 0, .int .i64 0, .int .i64 0] .ag [(0, 1, (ii 16)), (1, 1, (ii 64)), (2, 1, (ii 40))])) [],
 qo 19 (.c (callF (ff 9) [(tt 18)])) [pp 18],
 mv 17 19,
 qo 20 (.p (extF (tt 17) 0)) [pp 17],
 qo 21 (.p (extF (tt 17) 1)) [pp 17],
 mv 7 20,
 mv 8 21]) (
 .seq (.seq (.reg [
 mv 22 8,
 qo 23 (.p (eqcF true false [.int .i64] (tt 22) (ii 0))) [pp 22]]) (
 .cond (tt 23) (.seq (.reg [
 qo 6 (.p (S.get (.c (.bool false)))) []]) (
 .ret)) (.skip))) (
 .seq (.reg [
 mv 24 0,
 qo 25 (.p (convF .i64 (tt 24))) [pp 24],
 mv 9 25]) (
 .seq (.seq (.reg [
 qo 10 (.p (S.get (ii 0))) []]) (
 .block 0 (.loop c5_l0))) (
 .seq (.reg [
 mv 37 7,
 mv 38 9,
 qo 39 (.p (arF .add (tt 38) (ii 16))) [pp 38],
 qo 40 (.r (loadF (tt 5) 64 .bk)) [pp 5],
 qo 41 (.c (callF (ff 12) [(tt 37), (tt 39), (tt 40)])) [pp 37, pp 39, pp 40],
 mv 11 41]) (
 .seq (.reg [
 mv 42 7,
 mv 43 9,
 qo 44 (.p (arF .add (tt 43) (ii 3))) [pp 43],
 qo 45 (.r (loadF (tt 5) 64 .bk)) [pp 5],
 qo 46 (.c (callF (ff 12) [(tt 42), (tt 44), (tt 45)])) [pp 42, pp 44, pp 45],
 mv 12 46]) (
 .seq (.reg [
 mv 48 7,
 mv 49 9,
 qo 50 (.p (arF .add (tt 49) (ii 3))) [pp 49],
 qo 51 (.c (callF (ff 14) [(tt 48), (tt 50)])) [pp 48, pp 50],
 mv 47 51,
 qo 52 (.p (extF (tt 47) 0)) [pp 47],
 qo 53 (.p (extF (tt 47) 1)) [pp 47],
 qo 13 (.m (allocF 64 [.blk 0])) [],
 qn (.a (storeF (tt 13) (tt 52) 64)) [pp 13, pp 52],
 mv 14 53]) (
 .seq (.reg [
 mv 55 7,
 mv 56 9,
 qo 57 (.p (arF .add (tt 56) (ii 16))) [pp 56],
 qo 58 (.c (callF (ff 14) [(tt 55), (tt 57)])) [pp 55, pp 57],
 mv 54 58,
 qo 59 (.p (extF (tt 54) 0)) [pp 54],
 qo 60 (.p (extF (tt 54) 1)) [pp 54],
 qo 15 (.m (allocF 64 [.blk 0])) [],
 qn (.a (storeF (tt 15) (tt 59) 64)) [pp 15, pp 59],
 mv 16 60]) (
 .seq (.reg [
 mv 61 11,
 qo 62 (.p (eqcF false false [.int .i64] (tt 61) (ii 11))) [pp 61],
 mv 63 62,
 mg 64 12 63 true,
 qg 65 (.p (eqcF false false [.int .i64] (tt 64) (ii 0))) 63 true [pp 64],
 qo 66 (.p (pickF (tt 63) (tt 65) (.c (.bool false)))) [pp 63, pp 65],
 mv 67 66,
 qg 68 (.r (loadF (tt 13) 64 .bk)) 67 true [pp 13],
 qg 69 (.r (loadF (tt 5) 64 .bk)) 67 true [pp 5],
 qg 70 (.p (eqcF false true [.blk] (tt 68) (tt 69))) 67 true [pp 68, pp 69],
 qo 71 (.p (pickF (tt 67) (tt 70) (.c (.bool false)))) [pp 67, pp 70],
 mv 72 71,
 mg 73 14 72 true,
 qo 74 (.p (pickF (tt 72) (tt 73) (.c (.bool false)))) [pp 72, pp 73],
 mv 75 74,
 mg 76 16 75 true,
 qg 77 (.p (unF .not (tt 76))) 75 true [pp 76],
 qo 78 (.p (pickF (tt 75) (tt 77) (.c (.bool false)))) [pp 75, pp 77],
 mv 79 78,
 mg 80 7 79 true,
 qg 81 (.c (callF (ff 16) [(tt 80)])) 79 true [pp 80],
 qg 82 (.p (eqcF false false [.int .i64] (tt 81) (ii 16))) 79 true [pp 81],
 qo 83 (.p (pickF (tt 79) (tt 82) (.c (.bool false)))) [pp 79, pp 82],
 mv 84 83,
 qg 85 (.c (callF (ff 11) [])) 84 true [],
 qo 86 (.p (pickF (tt 84) (tt 85) (.c (.bool false)))) [pp 84, pp 85],
 mv 6 86]) (
 .ret))))))))))⟩
theorem c5_eq : fnOf Try.prog 5 = some c5 := by kernel_rfl


theorem blocks_full : blocks 16 64 40 = 960 := by decide

theorem full_run (a : Nat → Option Am.Obj) (f b c : Nat) (hf : f < 256) (lf n : Nat) (hlf : 17 < lf) : ∃ H1, callS Try.prog S0 lf (n + 5) 5 [.int .u8 (f : Int), .blk b, .blk c] (heapA Try.prog a) = some (.v (.bool true), H1) ∧ QOk H1 := by
  generalize hH0 : heapA Try.prog a = H0
  have hq0 : QOk H0 := by subst hH0; intro p hp; cases hp
  obtain ⟨v, H1, e, rfl, hq⟩ : ret (callS Try.prog S0 lf (n + 5) 5 [.int .u8 (f : Int), .blk b, .blk c] H0) fun v H1 => v = .bool true ∧ QOk H1 := by
    have t0 := (Turns.add Z H0 (.rows false 64 [[.blk b]])).addm (.rows false 64 [[.blk c]])
    obtain ⟨v, H2, e2, ⟨bd, mb, rfl, d2, t2, n1, n2⟩⟩ := new_ok ((H0.add (.rows false 64 [[.blk b]])).add (.rows false 64 [[.blk c]])) (m := 16) (s := 64) (r := 40) (by decide) lf (n + 1)
    unfold geo at e2
    have tZ := t0.trans t2
    have hB : ((H0.add (.rows false 64 [[.blk b]])).add (.rows false 64 [[.blk c]])).get (.run H0.next) = some (.rows false 64 [[.blk b]]) := by rw [mem_add (by simp), Heap.get_add, if_pos rfl]
    have hC : ((H0.add (.rows false 64 [[.blk b]])).add (.rows false 64 [[.blk c]])).get (.run (H0.next + 1)) = some (.rows false 64 [[.blk c]]) := by rw [Heap.get_add, if_pos (by simp)]
    have oB : ((H0.add (.rows false 64 [[.blk b]])).add (.rows false 64 [[.blk c]])).Old (.run H0.next) := by show _ < _; simp; omega
    have oC : ((H0.add (.rows false 64 [[.blk b]])).add (.rows false 64 [[.blk c]])).Old (.run (H0.next + 1)) := by show _ < _; simp
    -- a state of the heap
    have keep : ∀ {H : Heap}, Turns Z ((H0.add (.rows false 64 [[.blk b]])).add (.rows false 64 [[.blk c]])) H → loadAt H ⟨.run H0.next, 0⟩ 64 = some [.blk b] ∧ loadAt H ⟨.run (H0.next + 1), 0⟩ 64 = some [.blk c] := by
      intro H t
      constructor
      · rw [loadAt_eq ((t.same _ oB id).trans hB) rfl]; exact cut_blk _ _
      · rw [loadAt_eq ((t.same _ oC id).trans hC) rfl]; exact cut_blk _ _
    have wf : IntKind.i64.wrap (f : Int) = f := wrap_i64 (by omega)
    have step : ∀ {H H' : Heap}, Turns Z ((H0.add (.rows false 64 [[.blk b]])).add (.rows false 64 [[.blk c]])) H → Turns (fun x => x = mb) H H' → Turns Z ((H0.add (.rows false 64 [[.blk b]])).add (.rows false 64 [[.blk c]])) H' :=
      fun t k => t.later k (fun x hx e => by subst e; exact n2 hx)
    refine ret_call rfl c5_eq ?_
    have hpf : put [.int .i64 0, .int .i64 0, .int .i64 0] 0 [.int .i64 16] = some [.int .i64 16, .int .i64 0, .int .i64 0] := rfl
    simp only [c5, e2, wf, sy, tup, ↓reduceIte, Nat.reduceEqDiff, Nat.reduceAdd, Nat.reduceSub, Nat.reduceMul, Nat.reduceDiv, Nat.reduceMod, Nat.reduceLeDiff, Int.reduceBEq, reduceCtorEq]
    have hloop : ∀ t : T, t.getP (Tr.path 4) = some (.ptr (some ⟨.run H0.next, 0⟩)) → t.getP (Tr.path 5) = some (.ptr (some ⟨.run (H0.next + 1), 0⟩)) → t.getP (Tr.path 7) = some (.ptr (some ⟨bd, 0⟩)) → t.getP (Tr.path 9) = some (.int .i64 (f : Int)) → t.getP (Tr.path 10) = some (.int .i64 0) →
        wp (loopF (runC (callS Try.prog S0 lf (n + 4)) lf c5_l0) lf ⟨t, H2, []⟩) fun x s => x = .ex 0 ∧ s.d = [] ∧ ∃ W : Ws, W.length = 16 ∧ (∀ k, gt W k = if (f : Int) ≤ k ∧ k < (f : Int) + 16 then some b else none) ∧ DraftAt s.H bd mb 16 64 40 W ∧ Turns Z ((H0.add (.rows false 64 [[.blk b]])).add (.rows false 64 [[.blk c]])) s.H ∧
          s.t.getP (Tr.path 4) = some (.ptr (some ⟨.run H0.next, 0⟩)) ∧ s.t.getP (Tr.path 5) = some (.ptr (some ⟨.run (H0.next + 1), 0⟩)) ∧ s.t.getP (Tr.path 7) = some (.ptr (some ⟨bd, 0⟩)) ∧ s.t.getP (Tr.path 9) = some (.int .i64 (f : Int)) := by
      intro t q4 q5 q7 q9 q10
      refine wp_loopF (fun k s => ∃ i : Nat, k = 16 - i ∧ i ≤ 16 ∧ s.d = [] ∧ s.t.getP (Tr.path 10) = some (.int .i64 (i : Int)) ∧ ∃ W : Ws, W.length = i ∧ (∀ k, gt W k = if (f : Int) ≤ k ∧ k < (f : Int) + i then some b else none) ∧ DraftAt s.H bd mb 16 64 40 W ∧ Turns Z ((H0.add (.rows false 64 [[.blk b]])).add (.rows false 64 [[.blk c]])) s.H ∧
          s.t.getP (Tr.path 4) = some (.ptr (some ⟨.run H0.next, 0⟩)) ∧ s.t.getP (Tr.path 5) = some (.ptr (some ⟨.run (H0.next + 1), 0⟩)) ∧ s.t.getP (Tr.path 7) = some (.ptr (some ⟨bd, 0⟩)) ∧ s.t.getP (Tr.path 9) = some (.int .i64 (f : Int))) ?_ lf 16 _ ⟨0, rfl, by omega, rfl, q10, [], rfl, fun k => by rw [if_neg (by omega)]; rfl, d2, t2, q4, q5, q7, q9⟩ (by omega)
      rintro k ⟨t, HH, d⟩ ⟨i, rfl, hi, hd, q10, W, hlen, hgt, dr, tz, q4, q5, q7, q9⟩
      dsimp only at hd q10 dr tz q4 q5 q7 q9
      subst hd
      by_cases h16 : i < 16
      · have hlt : (i : Int) < 16 := by omega
        have w1 : IntKind.i64.wrap ((f : Int) + i) = (f : Int) + i := wrap_i64 (by omega)
        have w2 : IntKind.i64.wrap ((i : Int) + 1) = ((i + 1 : Nat) : Int) := by rw [wrap_i64 (by omega)]; omega
        have lB := (keep tz).1
        obtain ⟨v, H3, e3, rfl, d3, t3⟩ := write_ok dr ((f : Int) + i) b lf n
        have hgi : gt W ((f : Int) + i) = none := by rw [hgt, if_neg (by omega)]
        have hc : wcode 16 64 40 W ((f : Int) + i) = 0 := by
          unfold wcode
          rw [blocks_full, if_neg (by omega), if_neg (by omega)]
        have hw : W.write 16 64 40 ((f : Int) + i) b = W.put ((f : Int) + i) b := if_pos hc
        rw [hc] at e3
        rw [hw] at d3
        simp only [c5_l0, q4, q7, q9, q10, hlt, w1, w2, lB, e3, sy, tup, ↓reduceIte, Nat.reduceEqDiff, Nat.reduceAdd, Nat.reduceSub, Nat.reduceMul, Nat.reduceDiv, Nat.reduceMod, Nat.reduceLeDiff, Int.reduceBEq, reduceCtorEq]
        refine ⟨16 - (i + 1), by omega, i + 1, rfl, by omega, trivial, by simp, W.put ((f : Int) + i) b, ?_, ?_, d3, step tz t3, trivial, q5, trivial, trivial⟩
        · rw [put_len, hgi]; simp [hlen]
        · intro k
          rw [gt_put, hgt]
          by_cases hk : k = (f : Int) + i
          · rw [if_pos hk, if_pos (by omega)]
          · rw [if_neg hk]
            by_cases h1 : (f : Int) ≤ k ∧ k < (f : Int) + i
            · rw [if_pos h1, if_pos (by omega)]
            · rw [if_neg h1, if_neg (by omega)]
      · have : i = 16 := by omega
        subst this
        have hnl : decide (((16 : Nat) : Int) < 16) = false := rfl
        simp only [c5_l0, q4, q7, q9, q10, hnl, sy, tup, ↓reduceIte, Nat.reduceEqDiff, Nat.reduceAdd, Nat.reduceSub, Nat.reduceMul, Nat.reduceDiv, Nat.reduceMod, Nat.reduceLeDiff, Int.reduceBEq, reduceCtorEq]
        exact ⟨trivial, trivial, W, hlen, hgt, dr, tz, trivial, q5, trivial, trivial⟩
    refine wp_ctx (F := fun r => seqC _ _ _ (blockC _ r)) (hloop _ ?_ ?_ ?_ ?_ ?_) ?_
    · simp only [sy, tup, ↓reduceIte, Nat.reduceEqDiff, Nat.reduceAdd, Nat.reduceSub, Nat.reduceMul, Nat.reduceDiv, Nat.reduceMod, Nat.reduceLeDiff, Int.reduceBEq, reduceCtorEq]
    · simp only [sy, tup, ↓reduceIte, Nat.reduceEqDiff, Nat.reduceAdd, Nat.reduceSub, Nat.reduceMul, Nat.reduceDiv, Nat.reduceMod, Nat.reduceLeDiff, Int.reduceBEq, reduceCtorEq]
    · simp only [sy, tup, ↓reduceIte, Nat.reduceEqDiff, Nat.reduceAdd, Nat.reduceSub, Nat.reduceMul, Nat.reduceDiv, Nat.reduceMod, Nat.reduceLeDiff, Int.reduceBEq, reduceCtorEq]
    · simp only [sy, tup, ↓reduceIte, Nat.reduceEqDiff, Nat.reduceAdd, Nat.reduceSub, Nat.reduceMul, Nat.reduceDiv, Nat.reduceMod, Nat.reduceLeDiff, Int.reduceBEq, reduceCtorEq]
    · simp only [sy, tup, ↓reduceIte, Nat.reduceEqDiff, Nat.reduceAdd, Nat.reduceSub, Nat.reduceMul, Nat.reduceDiv, Nat.reduceMod, Nat.reduceLeDiff, Int.reduceBEq, reduceCtorEq]
    rintro x ⟨t, HH, d⟩ ⟨rfl, hd, W, hlen, hgt, dr, tz, q4, q5, q7, q9⟩
    dsimp only at hd dr tz q4 q5 q7 q9
    subst hd
    have w16 : IntKind.i64.wrap ((f : Int) + 16) = (f : Int) + 16 := wrap_i64 (by omega)
    have w3 : IntKind.i64.wrap ((f : Int) + 3) = (f : Int) + 3 := wrap_i64 (by omega)
    have lC := (keep tz).2
    obtain ⟨v, H3, e3, rfl, d3, t3⟩ := write_ok dr ((f : Int) + 16) c lf n
    have g16 : gt W ((f : Int) + 16) = none := by rw [hgt, if_neg (by omega)]
    have hc : wcode 16 64 40 W ((f : Int) + 16) = 11 := by
      unfold wcode
      rw [blocks_full, if_neg (by omega), if_pos ⟨gt_none.2 g16, by omega⟩]
    have hw : W.write 16 64 40 ((f : Int) + 16) c = W := if_neg (by rw [hc]; decide)
    rw [hc] at e3
    rw [hw] at d3
    have tz3 := step tz t3
    have lC3 := (keep tz3).2
    obtain ⟨v, H4, e4, rfl, d4, t4⟩ := write_ok d3 ((f : Int) + 3) c lf n
    have g3 : gt W ((f : Int) + 3) = some b := by rw [hgt, if_pos (by omega)]
    have hc4 : wcode 16 64 40 W ((f : Int) + 3) = 0 := by
      unfold wcode
      rw [blocks_full, if_neg (by omega), if_neg (fun h => by have := gt_none.1 h.1; rw [g3] at this; cases this)]
    have hw4 : W.write 16 64 40 ((f : Int) + 3) c = W.put ((f : Int) + 3) c := if_pos hc4
    rw [hc4] at e4
    rw [hw4] at d4
    have tz4 := step tz3 t4
    obtain ⟨v, H5, e5, rfl, t5⟩ := read_ok d4 ((f : Int) + 3) lf (n + 2)
    rw [getB_gt, gt_isSome, gt_put, if_pos rfl] at e5
    have d5 := d4.turns t5 id id
    have tz5 := tz4.trans t5
    have t6 := (Turns.add Z H5 (.rows false 64 [[.blk 0]])).setnew (Nat.le_refl _) (.rows false 64 [[.blk c]])
    have d6 := d5.turns t6 id id
    obtain ⟨v, H7, e7, rfl, t7⟩ := read_ok d6 ((f : Int) + 16) lf (n + 2)
    rw [getB_gt, gt_isSome, gt_put, if_neg (by omega), g16] at e7
    have d7 := d6.turns t7 id id
    have t8 := (Turns.add Z H7 (.rows false 64 [[.blk 0]])).setnew (Nat.le_refl _) (.rows false 64 [[.blk 0]])
    have d8 := d7.turns t8 id id
    have tz8 := ((tz5.trans t6).trans t7).trans t8
    have lC8 := (keep tz8).2
    have l13 : loadAt ((H7.add (.rows false 64 [[.blk 0]])).set (.run H7.next) (.rows false 64 [[.blk 0]])) ⟨.run H5.next, 0⟩ 64 = some [.blk c] := by
      have hg : ((H5.add (.rows false 64 [[.blk 0]])).set (.run H5.next) (.rows false 64 [[.blk c]])).get (.run H5.next) = some (.rows false 64 [[.blk c]]) := by rw [Heap.get_set, if_pos rfl]
      have := ((t7.trans t8).same (.run H5.next) (by show _ < _; simp) id).trans hg
      rw [loadAt_eq this rfl]; exact cut_blk _ _
    have eL := len_ok d8 lf (n + 2)
    have hl8 : (W.put ((f : Int) + 3) c).length = 16 := by rw [put_len, g3]; simp [hlen]
    rw [hl8] at eL
    have eV : ∀ H, callS Try.prog S0 lf (n + 4) 11 [] H = some (.v (.bool true), H) := fun H => lives_ok lf (n + 3) H
    have eV' := eV ((H7.add (.rows false 64 [[.blk 0]])).set (.run H7.next) (.rows false 64 [[.blk 0]]))
    simp only [q4, q5, q7, q9, w16, w3, lC, lC3, lC8, l13, e3, e4, e5, e7, eL, eV, Option.getD_some, Option.getD_none, Option.isSome_some, Option.isSome_none, Int.cast_ofNat_Int, sy, tup, ↓reduceIte, Nat.reduceEqDiff, Nat.reduceAdd, Nat.reduceSub, Nat.reduceMul, Nat.reduceDiv, Nat.reduceMod, Nat.reduceLeDiff, Int.reduceBEq, reduceCtorEq]
    simp
    exact (t0.trans tz8).q hq0
  exact ⟨H1, e, hq⟩

end Go.Proofs.Ytpmdbbdidafehaa.draft

