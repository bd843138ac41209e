import Derived.Test.YtejgheoandfikaaGreatBench
import Derived.Test.YtejgheoandfikaaGreatAmList
set_option linter.unusedVariables false
set_option linter.unusedSimpArgs false
set_option maxRecDepth 10000
namespace Go.Proofs.YtejgheoandfikaaGreat.disk
open Go.Am
noncomputable def c137 : CFn := ⟨[.tmp (pp 2), .tmp (pp 3)],
 .seq (.reg [
 qo 2 (.p (S.get (.c (.ptr none)))) [],
 qo 3 (.p (S.get (ii 0))) []]) (
 .seq (.seq (.reg [
 mv 4 0,
 qo 5 (.p (arF .lss (tt 4) (ii 1))) [pp 4],
 mv 6 5,
 mg 7 0 6 false,
 qg 8 (.p (arF .gtr (tt 7) (ii 512))) 6 false [pp 7],
 qo 9 (.p (pickF (tt 6) (.c (.bool true)) (tt 8))) [pp 6, pp 8]]) (
 .cond (tt 9) (.seq (.reg [
 qo 2 (.p (S.get (.c (.ptr none)))) [],
 qo 3 (.p (S.get (ii 2))) []]) (
 .ret)) (.skip))) (
 .seq (.reg [
 mv 10 0,
 qo 11 (.m (mksliceF 64 64 [.blk 0] (tt 10) (tt 10))) [pp 10, pp 10],
 qo 12 (.p (buildF [.slice none 0 0 0, .slice none 0 0 0, .bool false] .ag [(0, 1, (tt 11))])) [pp 11],
 qo 13 (.m (boxF 3 (tt 12))) [pp 12],
 mv 2 13,
 qo 3 (.p (S.get (ii 0))) []]) (
 .ret)))⟩
theorem c137_eq : fnOf Tryz.prog 137 = some c137 := by kernel_rfl
noncomputable def c96 : CFn := ⟨[.tmp (pp 4)],
 .seq (.reg [
 qo 4 (.p (S.get (ii 0))) []]) (
 .seq (.seq (.reg [
 mv 5 1,
 qo 6 (.p (arF .lss (tt 5) (ii 0))) [pp 5],
 mv 7 6,
 mg 8 1 7 false,
 mg 9 0 7 false,
 qg 10 (.p (nilcF (tt 9))) 7 false [pp 9],
 qg 11 (.p (faddrF (tt 10) 0)) 7 false [pp 10],
 qg 12 (.r (loadF (tt 11) 1 .sc)) 7 false [pp 11],
 qg 13 (.p (lenF (tt 12))) 7 false [pp 12],
 qg 14 (.p (arF .geq (tt 8) (tt 13))) 7 false [pp 8, pp 13],
 qo 15 (.p (pickF (tt 7) (.c (.bool true)) (tt 14))) [pp 7, pp 14]]) (
 .cond (tt 15) (.seq (.reg [
 qo 4 (.p (S.get (ii 2))) []]) (
 .ret)) (.skip))) (
 .seq (.seq (.reg [
 mv 16 0,
 qo 17 (.p (nilcF (tt 16))) [pp 16],
 qo 18 (.p (faddrF (tt 17) 2)) [pp 17],
 qo 19 (.r (loadF (tt 18) 1 .sc)) [pp 18]]) (
 .cond (tt 19) (.seq (.reg [
 qo 4 (.p (S.get (ii 9))) []]) (
 .ret)) (.skip))) (
 .seq (.reg [
 qo 4 (.p (S.get (ii 0))) []]) (
 .ret))))⟩
theorem c96_eq : fnOf Tryz.prog 96 = some c96 := by kernel_rfl
noncomputable def c98 : CFn := ⟨[.tmp (pp 6)],
 .seq (.reg [
 qo 5 (.m (boxF 64 (tt 2))) [pp 2],
 qo 6 (.p (S.get (ii 0))) []]) (
 .seq (.reg [
 mv 8 0,
 mv 9 1,
 qo 10 (.c (callF (ff 96) [(tt 8), (tt 9)])) [pp 8, pp 9],
 mv 7 10]) (
 .seq (.seq (.reg [
 mv 11 7,
 qo 12 (.p (eqcF true false [.int .i64] (tt 11) (ii 0))) [pp 11]]) (
 .cond (tt 12) (.seq (.reg [
 mv 13 7,
 mv 6 13]) (
 .ret)) (.skip))) (
 .seq (.regD [
 mv 14 0,
 mv 15 0,
 qo 16 (.p (nilcF (tt 15))) [pp 15],
 qo 17 (.p (faddrF (tt 16) 1)) [pp 16],
 qo 18 (.r (loadF (tt 17) 1 .sc)) [pp 17],
 mv 19 1,
 qo 20 (.r (loadF (tt 5) 64 .bk)) [pp 5],
 qo 21 (.p (buildF [.int .i64 0, .blk 0] .ag [(0, 1, (tt 19)), (1, 64, (tt 20))])) [pp 19, pp 20],
 qo 22 (.m (bsliceF 1 65 [.int .i64 0, .blk 0] [(0, 65, (tt 21))])) [pp 21],
 qo 23 (.a (appF 65 72 (tt 18) (tt 22))) [pp 18, pp 22],
 qo 24 (.p (nilcF (tt 14))) [pp 14],
 qo 25 (.p (faddrF (tt 24) 1)) [pp 24],
 qn (.a (storeF (tt 25) (tt 23) 1)) [pp 25, pp 23]] [0, 0, 2, 6, 14, 0, 0, 96, 224, 510, 1023, 2047, 4095]) (
 .seq (.reg [
 qo 6 (.p (S.get (ii 0))) []]) (
 .ret)))))⟩
theorem c98_eq : fnOf Tryz.prog 98 = some c98 := by kernel_rfl
noncomputable def c166_l0 : C := .seq (.seq (.reg [
 mv 23 8,
 mv 24 0,
 qo 25 (.p (nilcF (tt 24))) [pp 24],
 qo 26 (.p (faddrF (tt 25) 1)) [pp 25],
 qo 27 (.r (loadF (tt 26) 1 .sc)) [pp 26],
 qo 28 (.p (lenF (tt 27))) [pp 27],
 qo 29 (.p (arF .lss (tt 23) (tt 28))) [pp 23, pp 28]]) (
 .cond (tt 29) (.skip) (.exit 0))) (
 .seq (.block 1 (.seq (.reg [
 mv 32 0,
 qo 33 (.p (nilcF (tt 32))) [pp 32],
 qo 34 (.p (faddrF (tt 33) 1)) [pp 33],
 qo 35 (.r (loadF (tt 34) 1 .sc)) [pp 34],
 mv 36 8,
 qo 37 (.p (iaddrSF (tt 35) (tt 36) 65)) [pp 35, pp 36],
 qo 38 (.p (faddrF (tt 37) 0)) [pp 37],
 qo 39 (.r (loadF (tt 38) 1 .sc)) [pp 38],
 mv 40 1,
 qo 41 (.p (eqcF false false [.int .i64] (tt 39) (tt 40))) [pp 39, pp 40]]) (
 .cond (tt 41) (.reg [
 mv 42 0,
 qo 43 (.p (nilcF (tt 42))) [pp 42],
 qo 44 (.p (faddrF (tt 43) 1)) [pp 43],
 qo 45 (.r (loadF (tt 44) 1 .sc)) [pp 44],
 mv 46 8,
 qo 47 (.p (iaddrSF (tt 45) (tt 46) 65)) [pp 45, pp 46],
 qo 48 (.p (faddrF (tt 47) 1)) [pp 47],
 qo 49 (.r (loadF (tt 48) 64 .bk)) [pp 48],
 qn (.a (storeF (tt 7) (tt 49) 64)) [pp 7, pp 49]]) (.skip)))) (
 .reg [
 mv 30 8,
 qo 31 (.p (arF .add (tt 30) (ii 1))) [pp 30],
 mv 8 31]))
noncomputable def c166 : CFn := ⟨[.cell (pp 4) 64 .bk, .tmp (pp 5)],
 .seq (.reg [
 qo 4 (.m (allocF 64 [.blk 0])) [],
 qo 5 (.p (S.get (ii 0))) []]) (
 .seq (.reg [
 mv 9 0,
 mv 10 1,
 qo 11 (.c (callF (ff 96) [(tt 9), (tt 10)])) [pp 9, pp 10],
 mv 6 11]) (
 .seq (.seq (.reg [
 mv 12 6,
 qo 13 (.p (eqcF true false [.int .i64] (tt 12) (ii 0))) [pp 12]]) (
 .cond (tt 13) (.seq (.reg [
 qo 14 (.p (buildF [.blk 0] .bk [])) [],
 mv 15 6,
 qn (.a (storeF (tt 4) (tt 14) 64)) [pp 4, pp 14],
 mv 5 15]) (
 .ret)) (.skip))) (
 .seq (.reg [
 mv 16 0,
 qo 17 (.p (nilcF (tt 16))) [pp 16],
 qo 18 (.p (faddrF (tt 17) 0)) [pp 17],
 qo 19 (.r (loadF (tt 18) 1 .sc)) [pp 18],
 mv 20 1,
 qo 21 (.p (iaddrSF (tt 19) (tt 20) 64)) [pp 19, pp 20],
 qo 22 (.r (loadF (tt 21) 64 .bk)) [pp 21],
 qo 7 (.m (allocF 64 [.blk 0])) [],
 qn (.a (storeF (tt 7) (tt 22) 64)) [pp 7, pp 22]]) (
 .seq (.seq (.reg [
 qo 8 (.p (S.get (ii 0))) []]) (
 .block 0 (.loop c166_l0))) (
 .seq (.reg [
 qo 50 (.r (loadF (tt 7) 64 .bk)) [pp 7],
 qn (.a (storeF (tt 4) (tt 50) 64)) [pp 4, pp 50],
 qo 5 (.p (S.get (ii 0))) []]) (
 .ret))))))⟩
theorem c166_eq : fnOf Tryz.prog 166 = some c166 := by kernel_rfl
noncomputable def c105_l0 : C := .seq (.seq (.reg [
 mv 8 3,
 mv 9 0,
 qo 10 (.p (nilcF (tt 9))) [pp 9],
 qo 11 (.p (faddrF (tt 10) 1)) [pp 10],
 qo 12 (.r (loadF (tt 11) 1 .sc)) [pp 11],
 qo 13 (.p (lenF (tt 12))) [pp 12],
 qo 14 (.p (arF .lss (tt 8) (tt 13))) [pp 8, pp 13]]) (
 .cond (tt 14) (.skip) (.exit 0))) (
 .seq (.block 1 (.regD [
 mv 17 0,
 qo 18 (.p (nilcF (tt 17))) [pp 17],
 qo 19 (.p (faddrF (tt 18) 0)) [pp 18],
 qo 20 (.r (loadF (tt 19) 1 .sc)) [pp 19],
 mv 21 0,
 qo 22 (.p (nilcF (tt 21))) [pp 21],
 qo 23 (.p (faddrF (tt 22) 1)) [pp 22],
 qo 24 (.r (loadF (tt 23) 1 .sc)) [pp 23],
 mv 25 3,
 qo 26 (.p (iaddrSF (tt 24) (tt 25) 65)) [pp 24, pp 25],
 qo 27 (.p (faddrF (tt 26) 0)) [pp 26],
 qo 28 (.r (loadF (tt 27) 1 .sc)) [pp 27],
 mv 29 0,
 qo 30 (.p (nilcF (tt 29))) [pp 29],
 qo 31 (.p (faddrF (tt 30) 1)) [pp 30],
 qo 32 (.r (loadF (tt 31) 1 .sc)) [pp 31],
 mv 33 3,
 qo 34 (.p (iaddrSF (tt 32) (tt 33) 65)) [pp 32, pp 33],
 qo 35 (.p (faddrF (tt 34) 1)) [pp 34],
 qo 36 (.r (loadF (tt 35) 64 .bk)) [pp 35],
 qo 37 (.p (iaddrSF (tt 20) (tt 28) 64)) [pp 20, pp 28],
 qn (.a (storeF (tt 37) (tt 36) 64)) [pp 37, pp 36]] [0, 1, 3, 7, 0, 16, 48, 112, 0, 496, 1008, 2032, 0, 4096, 12288, 28672, 0, 126976, 258048, 520192, 1048575, 2097151])) (
 .reg [
 mv 15 3,
 qo 16 (.p (arF .add (tt 15) (ii 1))) [pp 15],
 mv 3 16]))
noncomputable def c105 : CFn := ⟨[.tmp (pp 2)],
 .seq (.reg [
 qo 2 (.p (S.get (ii 0))) []]) (
 .seq (.seq (.reg [
 mv 4 0,
 qo 5 (.p (nilcF (tt 4))) [pp 4],
 qo 6 (.p (faddrF (tt 5) 2)) [pp 5],
 qo 7 (.r (loadF (tt 6) 1 .sc)) [pp 6]]) (
 .cond (tt 7) (.seq (.reg [
 qo 2 (.p (S.get (ii 9))) []]) (
 .ret)) (.skip))) (
 .seq (.seq (.reg [
 qo 3 (.p (S.get (ii 0))) []]) (
 .block 0 (.loop c105_l0))) (
 .seq (.reg [
 mv 38 0,
 qo 39 (.p (nilcF (tt 38))) [pp 38],
 qo 40 (.p (faddrF (tt 39) 1)) [pp 39],
 qn (.a (storeF (tt 40) (.c (.slice none 0 0 0)) 1)) [pp 40]]) (
 .seq (.reg [
 qo 2 (.p (S.get (ii 0))) []]) (
 .ret)))))⟩
theorem c105_eq : fnOf Tryz.prog 105 = some c105 := by kernel_rfl
noncomputable def c102 : CFn := ⟨[],
 .seq (.reg [
 mv 2 0,
 qo 3 (.p (nilcF (tt 2))) [pp 2],
 qo 4 (.p (faddrF (tt 3) 2)) [pp 3],
 qn (.a (storeF (tt 4) (.c (.bool true)) 1)) [pp 4]]) (
 .reg [
 mv 5 0,
 qo 6 (.p (nilcF (tt 5))) [pp 5],
 qo 7 (.p (faddrF (tt 6) 1)) [pp 6],
 qn (.a (storeF (tt 7) (.c (.slice none 0 0 0)) 1)) [pp 7]])⟩
theorem c102_eq : fnOf Tryz.prog 102 = some c102 := by kernel_rfl
theorem rnew_ok (H : Heap) {n : Nat} (h1 : 1 ≤ n) (h2 : n ≤ 512) (lf m : Nat) : ret (callS Tryz.prog S0 lf (m + 1) 137 [.int .i64 (n : Int)] H) fun v H' => v = .tuple [.ptr (some ⟨.run (H.next + 1), 0⟩), .int .i64 0] ∧
    DevAt H' (.run (H.next + 1)) ⟨.run H.next, 0, .run H.next, none, 0⟩ ⟨List.replicate n 0, [], false⟩ ∧ Turns Z H H' := by
  have g1 : ¬ ((n : Int) < 1) := by omega
  have g2 : ¬ (512 < (n : Int)) := by omega
  have g3 : n ≤ n := Nat.le_refl _
  have g4 : n * 64 ≤ 1099511627776 := by omega
  have g4' : 64 * n ≤ 1099511627776 := by omega
  have g5 : n ≤ 1099511627776 := by omega
  refine ret_call rfl c137_eq ?_
  simp only [c137, g1, g2, g3, g4, g4', g5, mksliceF, sy, tup, ↓reduceIte, Nat.reduceEqDiff, Nat.reduceAdd, Nat.reduceSub, Nat.reduceMul, Nat.reduceLeDiff, Int.reduceBEq, reduceCtorEq]
  refine ⟨trivial, .inr trivial, _, rfl, rfl, ?_, ((Turns.refl Z H).addm _).addm _⟩
  refine ⟨?_, ?_, fun _ => ⟨rfl, rfl⟩, fun e => absurd rfl e, ⟨?_, ?_, fun e => absurd rfl e⟩, by simp, fun e => absurd rfl e⟩
  · rw [Heap.get_add, if_pos (by simp)]; simp
  · rw [Heap.get_add, if_neg (by simp), Heap.get_add, if_pos rfl]
    simp [sureRows]
  · show _ < _
    first | (simp; done) | (simp; omega)
  · show _ < _
    first | (simp; done) | (simp; omega)
theorem rnew_err (H : Heap) {n : Int} (h : n < 1 ∨ 512 < n) (lf m : Nat) : callS Tryz.prog S0 lf (m + 1) 137 [.int .i64 n] H = some (.v (.tuple [.ptr none, .int .i64 2]), H) := by
  obtain ⟨v, H', e, rfl, rfl⟩ : ret (callS Tryz.prog S0 lf (m + 1) 137 [.int .i64 n] H) fun v H' => v = .tuple [.ptr none, .int .i64 2] ∧ H' = H := by
    refine ret_call rfl c137_eq ?_
    by_cases h1 : n < 1
    · simp only [c137, h1, sy, tup, ↓reduceIte, Nat.reduceEqDiff, Nat.reduceAdd, Nat.reduceSub, Nat.reduceMul, Nat.reduceLeDiff, Int.reduceBEq, reduceCtorEq]
      exact ⟨trivial, .inr trivial, _, rfl, rfl, trivial⟩
    · have h2 : 512 < n := by omega
      simp only [c137, h1, h2, sy, tup, ↓reduceIte, Nat.reduceEqDiff, Nat.reduceAdd, Nat.reduceSub, Nat.reduceMul, Nat.reduceLeDiff, Int.reduceBEq, reduceCtorEq]
      exact ⟨trivial, .inr trivial, _, rfl, rfl, trivial⟩
  exact e
theorem asks_code {H : Heap} {b : Bk} {y : Lay} {D : Dev} (h : DevAt H b y D) (n : Int) (lf m : Nat) : ret (callS Tryz.prog S0 lf (m + 1) 96 [.ptr (some ⟨b, 0⟩), .int .i64 n] H) fun v H' => v = .int .i64 (code D n) ∧ H' = H := by
  have h0 := load0 h
  have h2 := load2 h
  refine ret_call rfl c96_eq ?_
  by_cases hlt : n < 0
  · rw [code_out (.inl hlt)]
    simp only [c96, h0, h2, hlt, sy, tup, ↓reduceIte, Nat.reduceEqDiff, Nat.reduceAdd, Nat.reduceSub, Nat.reduceMul, Nat.reduceLeDiff, Int.reduceBEq, reduceCtorEq]
    simp
  · by_cases hge : (D.S.length : Int) ≤ n
    · rw [code_out (.inr hge)]
      simp only [c96, h0, h2, hlt, hge, sy, tup, ↓reduceIte, Nat.reduceEqDiff, Nat.reduceAdd, Nat.reduceSub, Nat.reduceMul, Nat.reduceLeDiff, Int.reduceBEq, reduceCtorEq]
      simp
    · cases hd : D.dead with
      | true =>
        rw [code_dead (by omega) hd]
        simp only [c96, h0, h2, hd, hlt, hge, sy, tup, ↓reduceIte, Nat.reduceEqDiff, Nat.reduceAdd, Nat.reduceSub, Nat.reduceMul, Nat.reduceLeDiff, Int.reduceBEq, reduceCtorEq]
        simp
      | false =>
        rw [code_ok (by omega) hd]
        simp only [c96, h0, h2, hd, hlt, hge, sy, tup, ↓reduceIte, Nat.reduceEqDiff, Nat.reduceAdd, Nat.reduceSub, Nat.reduceMul, Nat.reduceLeDiff, Int.reduceBEq, reduceCtorEq]
        simp
theorem rwrite_all {H : Heap} {b : Bk} {y : Lay} {D : Dev} (h : DevAt H b y D) (hmax : D.L.length < 1000000) (n : Int) (B : Nat) (lf m : Nat) :
    ret (callS Tryz.prog S0 lf (m + 2) 98 [.ptr (some ⟨b, 0⟩), .int .i64 n, .blk B] H) fun v H' => v = .int .i64 (code D n) ∧ ∃ y', Next H b y D H' y' (D.write n B) := by
  have t1 := Turns.add Z H (.rows false 64 [[.blk B]])
  have h' := h.turns t1 id id (fun _ => id)
  have err : ∀ z : Int, z = 2 ∨ z = 9 → code D n = z → ret (callS Tryz.prog S0 lf (m + 2) 98 [.ptr (some ⟨b, 0⟩), .int .i64 n, .blk B] H) fun v H' => v = .int .i64 (code D n) ∧ ∃ y', Next H b y D H' y' (D.write n B) := by
    intro z hz hc
    have hw : D.write n B = D := if_neg (by rw [hc]; omega)
    have hz0 : (z == 0) = false := by simp; omega
    refine ret_call rfl c98_eq ?_
    obtain ⟨v, H1, e, rfl, e1⟩ := asks_code h' n lf m
    subst e1
    rw [hc] at e
    simp only [c98, e, hz0, sy, tup, ↓reduceIte, Nat.reduceEqDiff, Nat.reduceAdd, Nat.reduceSub, Nat.reduceMul, Nat.reduceLeDiff, Int.reduceBEq, reduceCtorEq]
    rw [hw, hc]
    exact ⟨trivial, .inr trivial, _, rfl, rfl, y, Next.idle h t1⟩
  rcases code_cases D n with ⟨k, rfl, hk, hd, hc⟩ | hc | hc
  · rw [hc]
    have hw : D.write (k : Int) B = { D with L := D.L ++ [(k, B)] } := if_pos hc
    rw [hw]
    have t2 := t1.addm (.rows false 65 [[.int .i64 (k : Int), .blk B]])
    have h'' := h.turns t2 id id (fun _ => id)
    have l1 := load1 h'
    have hx : ((H.add (.rows false 64 [[.blk B]])).add (.rows false 65 [[.int .i64 (k : Int), .blk B]])).get (.run (H.next + 1)) = some (.rows false 65 [[.int .i64 (k : Int), .blk B]]) := by
      rw [Heap.get_add, if_pos (by simp)]
    have ha := app_dev h'' hmax hx
    refine ret_call rfl c98_eq ?_
    obtain ⟨v, H1, e, rfl, e1⟩ := asks_code h' (k : Int) lf m
    subst e1
    rw [hc] at e
    have hst : storeAt ((killed ((H.add (.rows false 64 [[.blk B]])).add (.rows false 65 [[.int .i64 (k : Int), .blk B]])) y D).add (.rows false 65 (looseRows (D.L ++ [(k, B)])))) ⟨b, 1⟩ [.slice (some ⟨.run (H.next + 1 + 1), 0⟩) (D.L.length + 1) (D.L.length + 1) 65] = some (((killed ((H.add (.rows false 64 [[.blk B]])).add (.rows false 65 [[.int .i64 (k : Int), .blk B]])) y D).add (.rows false 65 (looseRows (D.L ++ [(k, B)])))).set b (.rows false 3 [[.slice (some ⟨y.s, 0⟩) D.S.length D.S.length y.so, .slice (some ⟨.run (H.next + 1 + 1), 0⟩) (D.L.length + 1) (D.L.length + 1) 65, .bool D.dead]])) := by
      have hg : ((killed ((H.add (.rows false 64 [[.blk B]])).add (.rows false 65 [[.int .i64 (k : Int), .blk B]])) y D).add (.rows false 65 (looseRows (D.L ++ [(k, B)])))).get b = some (.rows false 3 [[.slice (some ⟨y.s, 0⟩) D.S.length D.S.length y.so, .slice y.p D.L.length D.L.length y.o, .bool D.dead]]) := by
        rw [Heap.get_add, if_neg (fun e : b = _ => Heap.not_old (Nat.le_refl _) (by rw [← killed_next _ y D, ← e]; exact h''.old.1)), killed_get (fun hL => (h.ne.2 hL).1), h''.own]
      exact storeAt_eq hg (r := [.slice (some ⟨y.s, 0⟩) D.S.length D.S.length y.so, .slice y.p D.L.length D.L.length y.o, .bool D.dead]) rfl (put_own _ _ _ _ rfl rfl rfl)
    simp only [c98, e, l1, ha, hst, sy, tup, ↓reduceIte, Nat.reduceEqDiff, Nat.reduceAdd, Nat.reduceSub, Nat.reduceMul, Nat.reduceLeDiff, Int.reduceBEq, reduceCtorEq]
    rw [endD_ok (by kernel_rfl) (by kernel_rfl)]
    simp only [sy, tup, ↓reduceIte, Nat.reduceEqDiff, Nat.reduceAdd, Nat.reduceSub, Nat.reduceMul, Nat.reduceLeDiff, Int.reduceBEq, reduceCtorEq]
    refine ⟨trivial, .inr trivial, _, rfl, rfl, ⟨y.s, y.so, .run (H.next + 1 + 1), some ⟨.run (H.next + 1 + 1), 0⟩, 65⟩, ?_⟩
    have hn2 : ((H.add (.rows false 64 [[.blk B]])).add (.rows false 65 [[.int .i64 (k : Int), .blk B]])).next = H.next + 1 + 1 := by simp
    have hnew : ∀ c, H.Old c → c ≠ .run (H.next + 1 + 1) := fun c hc e => Heap.not_old (H := H) (n := H.next + 1 + 1) (by omega) (e ▸ hc)
    obtain ⟨o1, o2, o3⟩ := h.old
    refine ⟨⟨?_, ?_, fun hL => absurd hL (by simp), fun _ => ⟨rfl, rfl, ?_⟩, ⟨?_, ?_, fun _ => ?_⟩, h.ne.1, fun _ => ⟨hnew _ o1, hnew _ o2⟩⟩, ?_, rfl, fun _ => .inr (Heap.not_old (by omega))⟩
    · rw [Heap.get_set, if_pos rfl]; simp
    · rw [Heap.get_set, if_neg (Ne.symm h.ne.1), Heap.get_add, killed_next, hn2, if_neg (hnew _ o2), killed_get (fun hL => (h.ne.2 hL).2)]
      exact h''.sure
    · rw [Heap.get_set, if_neg (fun e => hnew _ o1 e.symm), Heap.get_add, killed_next, hn2, if_pos rfl]
    · exact o1.mono (by simp [killed_next]; omega)
    · exact o2.mono (by simp [killed_next]; omega)
    · show _ < _
      simp [killed_next]
    · exact (((t2.wide (fun c hc => hc.elim)).trans (killed_turns _ b y D)).addm _).setm (.inl rfl) _
  · exact err 2 (.inl rfl) hc
  · exact err 9 (.inr rfl) hc
theorem rfail_ok {H : Heap} {b : Bk} {y : Lay} {D : Dev} (h : DevAt H b y D) (lf m : Nat) : ret (callS Tryz.prog S0 lf (m + 1) 102 [.ptr (some ⟨b, 0⟩)] H) fun v H' => ∃ y', Next H b y D H' y' D.fail := by
  refine ret_call rfl c102_eq ?_
  obtain ⟨o1, o2, s1, s2, hN⟩ := fail_next h
  simp only [c102, s1, s2, sy, tup, ↓reduceIte, Nat.reduceEqDiff, Nat.reduceAdd, Nat.reduceSub, Nat.reduceMul, Nat.reduceLeDiff, Int.reduceBEq, reduceCtorEq]
  exact ⟨trivial, .inl trivial, _, rfl, _, hN⟩
end Go.Proofs.YtejgheoandfikaaGreat.disk
set_option linter.unusedVariables false
set_option linter.unusedSimpArgs false
set_option maxRecDepth 10000
namespace Go.Proofs.YtejgheoandfikaaGreat.disk
open Go.Am
def seen (S : List Nat) (L : List (Nat × Nat)) (n i : Nat) : Nat := match look (L.take i) n with
  | some x => x
  | none => S.getD n 0
theorem look_snoc : ∀ (l : List (Nat × Nat)) (w : Nat × Nat) (n : Nat), look (l ++ [w]) n = if w.1 = n then some w.2 else look l n
  | [], w, n => rfl
  | v :: l, w, n => by
    rw [List.cons_append, look_cons, look_snoc l w n, look_cons]
    by_cases h : w.1 = n
    · rw [if_pos h, if_pos h]
    · rw [if_neg h, if_neg h]
theorem seen_succ {S : List Nat} {L : List (Nat × Nat)} {n i : Nat} (hi : i < L.length) : seen S L n (i + 1) = if L[i].1 = n then L[i].2 else seen S L n i := by
  unfold seen
  rw [List.take_succ_eq_append_getElem hi, look_snoc]
  by_cases h : L[i].1 = n
  · rw [if_pos h, if_pos h]
  · rw [if_neg h, if_neg h]
theorem rread_all {H : Heap} {b : Bk} {y : Lay} {D : Dev} (h : DevAt H b y D) {lf : Nat} (hlf : D.L.length + 1 < lf) (hmax : D.L.length < 1000000) (n : Int) (m : Nat) :
    ret (callS Tryz.prog S0 lf (m + 2) 166 [.ptr (some ⟨b, 0⟩), .int .i64 n] H) fun v H' => v = .tuple [.blk (D.read n), .int .i64 (code D n)] ∧ Turns Z H H' := by
  have t1 := Turns.add Z H (.rows false 64 [[.blk 0]])
  have h' := h.turns t1 id id (fun _ => id)
  have err : ∀ z : Int, z = 2 ∨ z = 9 → code D n = z → ret (callS Tryz.prog S0 lf (m + 2) 166 [.ptr (some ⟨b, 0⟩), .int .i64 n] H) fun v H' => v = .tuple [.blk (D.read n), .int .i64 (code D n)] ∧ Turns Z H H' := by
    intro z hz hc
    have hw : D.read n = 0 := if_neg (by rw [hc]; omega)
    have hz0 : (z == 0) = false := by simp; omega
    refine ret_call rfl c166_eq ?_
    obtain ⟨v, H1, e, rfl, e1⟩ := asks_code h' n lf m
    subst e1
    rw [hc] at e
    simp only [c166, e, hz0, sy, tup, ↓reduceIte, Nat.reduceEqDiff, Nat.reduceAdd, Nat.reduceSub, Nat.reduceMul, Nat.reduceLeDiff, Int.reduceBEq, reduceCtorEq]
    rw [hw, hc]
    exact ⟨trivial, .inr trivial, _, rfl, rfl, t1.setnew (Nat.le_refl _) _⟩
  rcases code_cases D n with ⟨k, rfl, hk, hd, hc⟩ | hc | hc
  · have hw : D.read (k : Int) = readN D k := if_pos hc
    rw [hc, hw]
    have h0 := load0 h'
    have hs := loadS h' hk
    have hn1 : k + 1 ≤ D.S.length := hk
    obtain ⟨v, H1, e, rfl, e1⟩ := asks_code h' (k : Int) lf m
    subst e1
    rw [hc] at e
    have hloop : ∀ (H2 : Heap) (t : T), Turns Z H H2 → H2.get (.run H.next) = some (.rows false 64 [[.blk 0]]) → H2.get (.run (H.next + 1)) = some (.rows false 64 [[.blk D.S[k]]]) → t.getP (Tr.path 0) = some (.ptr (some ⟨b, 0⟩)) → t.getP (Tr.path 1) = some (.int .i64 (k : Int)) → t.getP (Tr.path 4) = some (.ptr (some ⟨.run H.next, 0⟩)) → t.getP (Tr.path 7) = some (.ptr (some ⟨.run (H.next + 1), 0⟩)) → t.getP (Tr.path 8) = some (.int .i64 0) →
        wp (loopF (runC (callS Tryz.prog S0 lf (m + 1)) lf c166_l0) lf ⟨t, H2, []⟩) fun x s =>
          x = .ex 0 ∧ s.d = [] ∧ s.t.getP (Tr.path 4) = some (.ptr (some ⟨.run H.next, 0⟩)) ∧ s.t.getP (Tr.path 7) = some (.ptr (some ⟨.run (H.next + 1), 0⟩)) ∧ Turns Z H s.H ∧ s.H.get (.run H.next) = some (.rows false 64 [[.blk 0]]) ∧ s.H.get (.run (H.next + 1)) = some (.rows false 64 [[.blk (readN D k)]]) := by
      intro H2 t hT2 g0 g1 q0 q1 q4 q7 q8
      refine wp_loopF (fun r s => ∃ i, i + r = D.L.length ∧ s.d = [] ∧ s.t.getP (Tr.path 0) = some (.ptr (some ⟨b, 0⟩)) ∧ s.t.getP (Tr.path 1) = some (.int .i64 (k : Int)) ∧ s.t.getP (Tr.path 4) = some (.ptr (some ⟨.run H.next, 0⟩)) ∧ s.t.getP (Tr.path 7) = some (.ptr (some ⟨.run (H.next + 1), 0⟩)) ∧ s.t.getP (Tr.path 8) = some (.int .i64 (i : Int)) ∧ Turns Z H s.H ∧ s.H.get (.run H.next) = some (.rows false 64 [[.blk 0]]) ∧ s.H.get (.run (H.next + 1)) = some (.rows false 64 [[.blk (seen D.S D.L k i)]])) ?_ lf D.L.length _ ⟨0, by simp, rfl, q0, q1, q4, q7, q8, hT2, g0, by
        have : seen D.S D.L k 0 = D.S[k] := getD_lt hk
        rw [this]; exact g1⟩ (by omega)
      rintro r ⟨t, HH, d⟩ ⟨i, hi, rfl, q0, q1, q4, q7, q8, hT, g0, g1⟩
      dsimp only at q0 q1 q4 q7 q8 hT g0 g1
      have hH := h.turns hT id id (fun _ => id)
      have h1 := load1 hH
      cases r with
      | zero =>
        have hi : i = D.L.length := by omega
        subst hi
        have hg : ¬ (D.L.length < D.L.length) := Nat.lt_irrefl _
        have hs : seen D.S D.L k D.L.length = readN D k := by unfold seen readN; rw [List.take_length]; rfl
        rw [hs] at g1
        simp only [c166_l0, q0, q1, q4, q7, q8, h1, hg, sy, tup, ↓reduceIte, Nat.reduceEqDiff, Nat.reduceAdd, Nat.reduceSub, Nat.reduceMul, Nat.reduceLeDiff, Int.reduceBEq, reduceCtorEq]
        exact ⟨trivial, trivial, trivial, trivial, hT, g0, g1⟩
      | succ r =>
        have hi' : i < D.L.length := by omega
        have hi1 : i + 1 ≤ D.L.length := hi'
        have hp := (h.loose (fun e => by rw [e] at hi'; simp at hi')).1
        have l1 := loadL1 hH hi'
        have l2 := loadL2 hH hi'
        have st := cell_store (v := D.L[i].2) g1
        have hw : IntKind.i64.wrap ((i : Int) + 1) = ((i + 1 : Nat) : Int) := by rw [wrap_i64 (by omega)]; rfl
        by_cases hx : D.L[i].1 = k
        · simp only [c166_l0, q0, q1, q4, q7, q8, h1, hp, hi', hi1, l1, l2, hx, st, hw, sy, tup, ↓reduceIte, Nat.reduceEqDiff, Nat.reduceAdd, Nat.reduceSub, Nat.reduceMul, Nat.reduceLeDiff, Int.reduceBEq, reduceCtorEq]
          refine ⟨r, Nat.lt_succ_self r, i + 1, by omega, trivial, trivial, trivial, trivial, trivial, rfl, hT.setnew (by omega) _, ?_, ?_⟩
          · rw [Heap.get_set, if_neg (by simp)]; exact g0
          · rw [Heap.get_set, if_pos rfl, seen_succ hi', if_pos hx]
        · have hx' : (((D.L[i].1 : Nat) : Int) == (k : Int)) = false := by simp; omega
          simp only [c166_l0, q0, q1, q4, q7, q8, h1, hp, hi', hi1, l1, l2, hx', hw, sy, tup, ↓reduceIte, Nat.reduceEqDiff, Nat.reduceAdd, Nat.reduceSub, Nat.reduceMul, Nat.reduceLeDiff, Int.reduceBEq, reduceCtorEq]
          refine ⟨r, Nat.lt_succ_self r, i + 1, by omega, trivial, trivial, trivial, trivial, trivial, rfl, hT, g0, ?_⟩
          rw [seen_succ hi', if_neg hx]; exact g1
    have st0 : storeAt ((H.add (.rows false 64 [[.blk 0]])).add (.rows false 64 [[.blk 0]])) ⟨.run (H.next + 1), 0⟩ [.blk D.S[k]] = _ := Dp _ _ _
    refine ret_call rfl c166_eq ?_
    simp only [c166, e, h0, hs, hn1, st0, sy, tup, ↓reduceIte, Nat.reduceEqDiff, Nat.reduceAdd, Nat.reduceSub, Nat.reduceMul, Nat.reduceLeDiff, Int.reduceBEq, reduceCtorEq]
    refine wp_ctx (F := fun r => seqC _ _ _ (blockC _ r)) (hloop _ _ (((t1.addm _).setnew (by omega) _)) ?_ ?_ ?_ ?_ ?_ ?_ ?_) ?_
    · rw [Heap.get_set, if_neg (by simp), Heap.get_add, if_neg (by simp), Heap.get_add, if_pos rfl]
    · rw [Heap.get_set, if_pos rfl]
    · simp only [sy, tup, ↓reduceIte, Nat.reduceEqDiff, Nat.reduceAdd, Nat.reduceSub, Nat.reduceMul, Nat.reduceLeDiff, Int.reduceBEq, reduceCtorEq]
    · simp only [sy, tup, ↓reduceIte, Nat.reduceEqDiff, Nat.reduceAdd, Nat.reduceSub, Nat.reduceMul, Nat.reduceLeDiff, Int.reduceBEq, reduceCtorEq]
    · simp only [sy, tup, ↓reduceIte, Nat.reduceEqDiff, Nat.reduceAdd, Nat.reduceSub, Nat.reduceMul, Nat.reduceLeDiff, Int.reduceBEq, reduceCtorEq]
    · simp only [sy, tup, ↓reduceIte, Nat.reduceEqDiff, Nat.reduceAdd, Nat.reduceSub, Nat.reduceMul, Nat.reduceLeDiff, Int.reduceBEq, reduceCtorEq]
    · simp only [sy, tup, ↓reduceIte, Nat.reduceEqDiff, Nat.reduceAdd, Nat.reduceSub, Nat.reduceMul, Nat.reduceLeDiff, Int.reduceBEq, reduceCtorEq]
    rintro x ⟨t, HH, d⟩ ⟨rfl, rfl, q4, q7, hT, g0, g1⟩
    dsimp only at q4 q7 hT g0 g1
    have ld := load_of g1
    have st := cell_store (v := readN D k) g0
    simp only [q4, q7, ld, st, sy, tup, ↓reduceIte, Nat.reduceEqDiff, Nat.reduceAdd, Nat.reduceSub, Nat.reduceMul, Nat.reduceLeDiff, Int.reduceBEq, reduceCtorEq]
    exact ⟨trivial, .inr trivial, _, rfl, rfl, hT.setnew (Nat.le_refl _) _⟩
  · exact err 2 (.inl rfl) hc
  · exact err 9 (.inr rfl) hc
theorem rflush_all {H : Heap} {b : Bk} {y : Lay} {D : Dev} (h : DevAt H b y D) (hok : ∀ w ∈ D.L, w.1 < D.S.length) (hmax : D.L.length < 1000000) {lf : Nat} (hlf : D.L.length + 1 < lf) (m : Nat) :
    ret (callS Tryz.prog S0 lf (m + 1) 105 [.ptr (some ⟨b, 0⟩)] H) fun v H' => v = .int .i64 (fcode D) ∧ ∃ y', Next H b y D H' y' D.flush := by
  have h2 := load2 h
  rcases Bool.eq_false_or_eq_true D.dead with hd | hd
  · skip
    have e1 : fcode D = 9 := by unfold fcode; rw [hd]; rfl
    have e2 : D.flush = D := by unfold Dev.flush; rw [hd]; rfl
    rw [e1, e2]
    refine ret_call rfl c105_eq ?_
    simp only [c105, h2, hd, sy, tup, ↓reduceIte, Nat.reduceEqDiff, Nat.reduceAdd, Nat.reduceSub, Nat.reduceMul, Nat.reduceLeDiff, Int.reduceBEq, reduceCtorEq]
    exact ⟨trivial, .inr trivial, _, rfl, rfl, y, Next.idle h (Turns.refl _ _)⟩
  · skip
    have e1 : fcode D = 0 := by unfold fcode; rw [hd]; rfl
    have e2 : D.flush = { D with S := flushS D.S D.L, L := [] } := by unfold Dev.flush; rw [hd]; rfl
    rw [e1, e2]
    have hloop : ∀ t : T, t.getP (Tr.path 0) = some (.ptr (some ⟨b, 0⟩)) → t.getP (Tr.path 3) = some (.int .i64 0) →
        wp (loopF (runC (callS Tryz.prog S0 lf m) lf c105_l0) lf ⟨t, H, []⟩) fun x s =>
          x = .ex 0 ∧ s.d = [] ∧ s.t.getP (Tr.path 0) = some (.ptr (some ⟨b, 0⟩)) ∧ DevAt s.H b y { D with S := flushS D.S D.L } ∧ Turns (Foot b y D) H s.H := by
      intro t q0 q3
      refine wp_loopF (fun r s => ∃ i, i + r = D.L.length ∧ s.d = [] ∧ s.t.getP (Tr.path 0) = some (.ptr (some ⟨b, 0⟩)) ∧ s.t.getP (Tr.path 3) = some (.int .i64 (i : Int)) ∧ DevAt s.H b y { D with S := flushS D.S (D.L.take i) } ∧ Turns (Foot b y D) H s.H) ?_ lf D.L.length _ ⟨0, by simp, rfl, q0, q3, h, Turns.refl _ _⟩ (by omega)
      rintro r ⟨t, HH, d⟩ ⟨i, hi, rfl, q0, q3, hD, hT⟩
      dsimp only at q0 q3 hD hT
      have l0 := load0 hD
      have l1 := load1 hD
      cases r with
      | zero =>
        have hi : i = D.L.length := by omega
        subst hi
        rw [List.take_length] at hD
        have hg : ¬ (D.L.length < D.L.length) := Nat.lt_irrefl _
        simp only [c105_l0, q0, q3, l1, hg, sy, tup, ↓reduceIte, Nat.reduceEqDiff, Nat.reduceAdd, Nat.reduceSub, Nat.reduceMul, Nat.reduceLeDiff, Int.reduceBEq, reduceCtorEq]
        exact ⟨trivial, trivial, trivial, hD, hT⟩
      | succ r =>
        have hi' : i < D.L.length := by omega
        have hi1 : i + 1 ≤ D.L.length := hi'
        have hp := (h.loose (fun e => by rw [e] at hi'; simp at hi')).1
        have ll1 := loadL1 hD hi'
        have ll2 := loadL2 hD hi'
        have hn : D.L[i].1 < (flushS D.S (D.L.take i)).length := by rw [flushS_length]; exact hok _ (List.getElem_mem _)
        have hn1 : D.L[i].1 + 1 ≤ (flushS D.S (D.L.take i)).length := hn
        have st := storeS hD hn D.L[i].2
        have hw : IntKind.i64.wrap ((i : Int) + 1) = ((i + 1 : Nat) : Int) := by rw [wrap_i64 (by omega)]; rfl
        simp only [c105_l0, q0, q3, l0, l1, hp, hi', hi1, hn1, ll1, ll2, st, hw, sy, tup, ↓reduceIte, Nat.reduceEqDiff, Nat.reduceAdd, Nat.reduceSub, Nat.reduceMul, Nat.reduceLeDiff, Int.reduceBEq, reduceCtorEq]
        rw [endD_ok (by kernel_rfl) (by kernel_rfl)]
        simp only [q0, q3, hw, sy, tup, ↓reduceIte, Nat.reduceEqDiff, Nat.reduceAdd, Nat.reduceSub, Nat.reduceMul, Nat.reduceLeDiff, Int.reduceBEq, reduceCtorEq]
        refine ⟨r, Nat.lt_succ_self r, i + 1, by omega, trivial, trivial, rfl, ?_, hT.setm (.inr (.inl rfl)) _⟩
        rw [flushS_take hi']
        exact hD.setS (by simp)
    refine ret_call rfl c105_eq ?_
    simp only [c105, h2, hd, sy, tup, ↓reduceIte, Nat.reduceEqDiff, Nat.reduceAdd, Nat.reduceSub, Nat.reduceMul, Nat.reduceLeDiff, Int.reduceBEq, reduceCtorEq]
    refine wp_ctx (F := fun r => seqC _ _ _ (blockC _ r)) (hloop _ ?_ ?_) ?_
    · simp only [sy, tup, ↓reduceIte, Nat.reduceEqDiff, Nat.reduceAdd, Nat.reduceSub, Nat.reduceMul, Nat.reduceLeDiff, Int.reduceBEq, reduceCtorEq]
    · simp only [sy, tup, ↓reduceIte, Nat.reduceEqDiff, Nat.reduceAdd, Nat.reduceSub, Nat.reduceMul, Nat.reduceLeDiff, Int.reduceBEq, reduceCtorEq]
    rintro x ⟨t, HH, d⟩ ⟨rfl, rfl, q0, hD, hT⟩
    dsimp only at q0 hD hT
    have st := storeNil hD
    simp only [q0, st, sy, tup, ↓reduceIte, Nat.reduceEqDiff, Nat.reduceAdd, Nat.reduceSub, Nat.reduceMul, Nat.reduceLeDiff, Int.reduceBEq, reduceCtorEq]
    refine ⟨trivial, .inr trivial, _, rfl, rfl, { y with p := none, o := 0 }, ?_, hT.setm (.inl rfl) _, rfl, fun e => absurd rfl e⟩
    simpa only [hd] using hD.clear D.dead
end Go.Proofs.YtejgheoandfikaaGreat.disk
set_option linter.unusedVariables false
set_option linter.unusedSectionVars false
set_option linter.unusedSimpArgs false
set_option maxRecDepth 10000
namespace Go.Proofs.YtejgheoandfikaaGreat.disk
open Go.Am
noncomputable def c29 : CFn := ⟨[.tmp (pp 8)],
 .seq (.reg [
 qo 7 (.m (boxF 64 (tt 3))) [pp 3],
 qo 8 (.p (S.get (ii 0))) []]) (
 .seq (.reg [
 mv 10 0,
 mv 11 1,
 qo 12 (.c (callF (ff 95) [(tt 10), (tt 11)])) [pp 10, pp 11],
 mv 9 12]) (
 .seq (.seq (.reg [
 mv 13 9,
 qo 14 (.p (eqcF true false [.int .i64] (tt 13) (ii 0))) [pp 13]]) (
 .cond (tt 14) (.seq (.reg [
 mv 15 9,
 mv 8 15]) (
 .ret)) (.skip))) (
 .seq (.reg [
 mv 16 0,
 qo 17 (.p (nilcF (tt 16))) [pp 16],
 qo 18 (.p (faddrF (tt 17) 0)) [pp 17],
 qo 19 (.r (loadF (tt 18) 1 .sc)) [pp 18],
 mv 20 1,
 qo 21 (.p (iaddrSF (tt 19) (tt 20) 1)) [pp 19, pp 20],
 qo 22 (.r (loadF (tt 21) 1 .sc)) [pp 21],
 mv 23 2,
 qo 24 (.c (callF (ff 96) [(tt 22), (tt 23)])) [pp 22, pp 23],
 mv 9 24]) (
 .seq (.seq (.reg [
 mv 25 9,
 qo 26 (.p (eqcF true false [.int .i64] (tt 25) (ii 0))) [pp 25]]) (
 .cond (tt 26) (.seq (.reg [
 mv 27 9,
 mv 8 27]) (
 .ret)) (.skip))) (
 .seq (.reg [
 mv 28 0,
 qo 29 (.c (callF (ff 97) [(tt 28)])) [pp 28],
 mv 9 29]) (
 .seq (.seq (.reg [
 mv 30 9,
 qo 31 (.p (eqcF true false [.int .i64] (tt 30) (ii 0))) [pp 30]]) (
 .cond (tt 31) (.seq (.reg [
 mv 32 9,
 mv 8 32]) (
 .ret)) (.skip))) (
 .seq (.regD [
 mv 33 0,
 qo 34 (.p (nilcF (tt 33))) [pp 33],
 qo 35 (.p (faddrF (tt 34) 0)) [pp 34],
 qo 36 (.r (loadF (tt 35) 1 .sc)) [pp 35],
 mv 37 1,
 qo 38 (.p (iaddrSF (tt 36) (tt 37) 1)) [pp 36, pp 37],
 qo 39 (.r (loadF (tt 38) 1 .sc)) [pp 38],
 mv 40 2,
 qo 41 (.r (loadF (tt 7) 64 .bk)) [pp 7],
 qo 42 (.c (callF (ff 98) [(tt 39), (tt 40), (tt 41)])) [pp 39, pp 40, pp 41],
 mv 8 42] [0, 1, 3, 7, 0, 31, 63, 0, 0, 511, 1023]) (
 .ret))))))))⟩
theorem c29_eq : fnOf Tryz.prog 29 = some c29 := by kernel_rfl
noncomputable def c111 : CFn := ⟨[.cell (pp 6) 64 .bk, .tmp (pp 7)],
 .seq (.reg [
 qo 6 (.m (allocF 64 [.blk 0])) [],
 qo 7 (.p (S.get (ii 0))) []]) (
 .seq (.reg [
 mv 9 0,
 mv 10 1,
 qo 11 (.c (callF (ff 95) [(tt 9), (tt 10)])) [pp 9, pp 10],
 mv 8 11]) (
 .seq (.seq (.reg [
 mv 12 8,
 qo 13 (.p (eqcF true false [.int .i64] (tt 12) (ii 0))) [pp 12]]) (
 .cond (tt 13) (.seq (.reg [
 qo 14 (.p (buildF [.blk 0] .bk [])) [],
 mv 15 8,
 qn (.a (storeF (tt 6) (tt 14) 64)) [pp 6, pp 14],
 mv 7 15]) (
 .ret)) (.skip))) (
 .seq (.reg [
 mv 16 0,
 qo 17 (.p (nilcF (tt 16))) [pp 16],
 qo 18 (.p (faddrF (tt 17) 0)) [pp 17],
 qo 19 (.r (loadF (tt 18) 1 .sc)) [pp 18],
 mv 20 1,
 qo 21 (.p (iaddrSF (tt 19) (tt 20) 1)) [pp 19, pp 20],
 qo 22 (.r (loadF (tt 21) 1 .sc)) [pp 21],
 mv 23 2,
 qo 24 (.c (callF (ff 166) [(tt 22), (tt 23)])) [pp 22, pp 23],
 qo 25 (.p (extF (tt 24) 0)) [pp 24],
 qo 26 (.p (extF (tt 24) 1)) [pp 24],
 qn (.a (storeF (tt 6) (tt 25) 64)) [pp 6, pp 25],
 mv 7 26]) (
 .ret))))⟩
theorem c111_eq : fnOf Tryz.prog 111 = some c111 := by kernel_rfl
noncomputable def c35 : CFn := ⟨[.tmp (pp 4)],
 .seq (.reg [
 qo 4 (.p (S.get (ii 0))) []]) (
 .seq (.reg [
 mv 6 0,
 mv 7 1,
 qo 8 (.c (callF (ff 95) [(tt 6), (tt 7)])) [pp 6, pp 7],
 mv 5 8]) (
 .seq (.seq (.reg [
 mv 9 5,
 qo 10 (.p (eqcF true false [.int .i64] (tt 9) (ii 0))) [pp 9]]) (
 .cond (tt 10) (.seq (.reg [
 mv 11 5,
 mv 4 11]) (
 .ret)) (.skip))) (
 .seq (.seq (.reg [
 mv 12 0,
 qo 13 (.p (nilcF (tt 12))) [pp 12],
 qo 14 (.p (faddrF (tt 13) 0)) [pp 13],
 qo 15 (.r (loadF (tt 14) 1 .sc)) [pp 14],
 mv 16 1,
 qo 17 (.p (iaddrSF (tt 15) (tt 16) 1)) [pp 15, pp 16],
 qo 18 (.r (loadF (tt 17) 1 .sc)) [pp 17],
 qo 19 (.p (nilcF (tt 18))) [pp 18],
 qo 20 (.p (faddrF (tt 19) 2)) [pp 19],
 qo 21 (.r (loadF (tt 20) 1 .sc)) [pp 20]]) (
 .cond (tt 21) (.seq (.reg [
 qo 4 (.p (S.get (ii 9))) []]) (
 .ret)) (.skip))) (
 .seq (.reg [
 mv 22 0,
 qo 23 (.c (callF (ff 97) [(tt 22)])) [pp 22],
 mv 5 23]) (
 .seq (.seq (.reg [
 mv 24 5,
 qo 25 (.p (eqcF true false [.int .i64] (tt 24) (ii 0))) [pp 24]]) (
 .cond (tt 25) (.seq (.reg [
 mv 26 5,
 mv 4 26]) (
 .ret)) (.skip))) (
 .seq (.reg [
 mv 27 0,
 qo 28 (.p (nilcF (tt 27))) [pp 27],
 qo 29 (.p (faddrF (tt 28) 0)) [pp 28],
 qo 30 (.r (loadF (tt 29) 1 .sc)) [pp 29],
 mv 31 1,
 qo 32 (.p (iaddrSF (tt 30) (tt 31) 1)) [pp 30, pp 31],
 qo 33 (.r (loadF (tt 32) 1 .sc)) [pp 32],
 qo 34 (.c (callF (ff 105) [(tt 33)])) [pp 33],
 mv 4 34]) (
 .ret)))))))⟩
theorem c35_eq : fnOf Tryz.prog 35 = some c35 := by kernel_rfl
noncomputable def c31 : CFn := ⟨[.tmp (pp 4)],
 .seq (.reg [
 qo 4 (.p (S.get (ii 0))) []]) (
 .seq (.seq (.reg [
 mv 5 0,
 mv 6 1,
 qo 7 (.c (callF (ff 101) [(tt 5), (tt 6)])) [pp 5, pp 6],
 qo 8 (.p (unF .not (tt 7))) [pp 7]]) (
 .cond (tt 8) (.seq (.reg [
 qo 4 (.p (S.get (ii 2))) []]) (
 .ret)) (.skip))) (
 .seq (.reg [
 mv 9 0,
 qo 10 (.p (nilcF (tt 9))) [pp 9],
 qo 11 (.p (faddrF (tt 10) 0)) [pp 10],
 qo 12 (.r (loadF (tt 11) 1 .sc)) [pp 11],
 mv 13 1,
 qo 14 (.p (iaddrSF (tt 12) (tt 13) 1)) [pp 12, pp 13],
 qo 15 (.r (loadF (tt 14) 1 .sc)) [pp 14],
 qo 16 (.c (callF (ff 102) [(tt 15)])) [pp 15]]) (
 .seq (.reg [
 qo 4 (.p (S.get (ii 0))) []]) (
 .ret))))⟩
theorem c31_eq : fnOf Tryz.prog 31 = some c31 := by kernel_rfl
noncomputable def c33 : CFn := ⟨[.tmp (pp 4)],
 .seq (.reg [
 qo 4 (.p (S.get (ii 0))) []]) (
 .seq (.seq (.reg [
 mv 5 0,
 qo 6 (.p (nilcF (tt 5))) [pp 5],
 qo 7 (.p (faddrF (tt 6) 2)) [pp 6],
 qo 8 (.r (loadF (tt 7) 1 .sc)) [pp 7]]) (
 .cond (tt 8) (.seq (.reg [
 qo 4 (.p (S.get (ii 8))) []]) (
 .ret)) (.skip))) (
 .seq (.seq (.reg [
 mv 9 1,
 qo 10 (.p (arF .lss (tt 9) (ii 0))) [pp 9]]) (
 .cond (tt 10) (.seq (.reg [
 qo 4 (.p (S.get (ii 2))) []]) (
 .ret)) (.skip))) (
 .seq (.reg [
 mv 11 0,
 mv 12 1,
 qo 13 (.p (nilcF (tt 11))) [pp 11],
 qo 14 (.p (faddrF (tt 13) 1)) [pp 13],
 qn (.a (storeF (tt 14) (tt 12) 1)) [pp 14, pp 12]]) (
 .seq (.reg [
 qo 4 (.p (S.get (ii 0))) []]) (
 .ret)))))⟩
theorem c33_eq : fnOf Tryz.prog 33 = some c33 := by kernel_rfl
noncomputable def c36 : CFn := ⟨[.tmp (pp 2)],
 .seq (.reg [
 qo 2 (.p (S.get (ii 0))) []]) (
 .seq (.reg [
 mv 3 0,
 qo 4 (.p (nilcF (tt 3))) [pp 3],
 qo 5 (.p (faddrF (tt 4) 0)) [pp 4],
 qo 6 (.r (loadF (tt 5) 1 .sc)) [pp 5],
 qo 7 (.p (lenF (tt 6))) [pp 6],
 mv 2 7]) (
 .ret))⟩
theorem c36_eq : fnOf Tryz.prog 36 = some c36 := by kernel_rfl
noncomputable def c110 : CFn := ⟨[.tmp (pp 2)],
 .seq (.reg [
 qo 2 (.p (S.get (.c (.bool false)))) []]) (
 .seq (.reg [
 mv 3 0,
 qo 4 (.p (nilcF (tt 3))) [pp 3],
 qo 5 (.p (faddrF (tt 4) 2)) [pp 4],
 qo 6 (.r (loadF (tt 5) 1 .sc)) [pp 5],
 mv 2 6]) (
 .ret))⟩
theorem c110_eq : fnOf Tryz.prog 110 = some c110 := by kernel_rfl
noncomputable def c139 : CFn := ⟨[.tmp (pp 4)],
 .seq (.reg [
 qo 4 (.p (S.get (ii 0))) []]) (
 .seq (.seq (.reg [
 mv 5 0,
 mv 6 1,
 qo 7 (.c (callF (ff 101) [(tt 5), (tt 6)])) [pp 5, pp 6],
 qo 8 (.p (unF .not (tt 7))) [pp 7]]) (
 .cond (tt 8) (.seq (.reg [
 qo 4 (.p (S.get (ii 0))) []]) (
 .ret)) (.skip))) (
 .seq (.reg [
 mv 9 0,
 qo 10 (.p (nilcF (tt 9))) [pp 9],
 qo 11 (.p (faddrF (tt 10) 0)) [pp 10],
 qo 12 (.r (loadF (tt 11) 1 .sc)) [pp 11],
 mv 13 1,
 qo 14 (.p (iaddrSF (tt 12) (tt 13) 1)) [pp 12, pp 13],
 qo 15 (.r (loadF (tt 14) 1 .sc)) [pp 14],
 qo 16 (.p (nilcF (tt 15))) [pp 15],
 qo 17 (.p (faddrF (tt 16) 0)) [pp 16],
 qo 18 (.r (loadF (tt 17) 1 .sc)) [pp 17],
 qo 19 (.p (lenF (tt 18))) [pp 18],
 mv 4 19]) (
 .ret)))⟩
theorem c139_eq : fnOf Tryz.prog 139 = some c139 := by kernel_rfl
noncomputable def c95 : CFn := ⟨[.tmp (pp 4)],
 .seq (.reg [
 qo 4 (.p (S.get (ii 0))) []]) (
 .seq (.seq (.reg [
 mv 5 0,
 qo 6 (.p (nilcF (tt 5))) [pp 5],
 qo 7 (.p (faddrF (tt 6) 2)) [pp 6],
 qo 8 (.r (loadF (tt 7) 1 .sc)) [pp 7]]) (
 .cond (tt 8) (.seq (.reg [
 qo 4 (.p (S.get (ii 8))) []]) (
 .ret)) (.skip))) (
 .seq (.seq (.reg [
 mv 9 0,
 mv 10 1,
 qo 11 (.c (callF (ff 101) [(tt 9), (tt 10)])) [pp 9, pp 10],
 qo 12 (.p (unF .not (tt 11))) [pp 11]]) (
 .cond (tt 12) (.seq (.reg [
 qo 4 (.p (S.get (ii 2))) []]) (
 .ret)) (.skip))) (
 .seq (.reg [
 qo 4 (.p (S.get (ii 0))) []]) (
 .ret))))⟩
theorem c95_eq : fnOf Tryz.prog 95 = some c95 := by kernel_rfl
noncomputable def c97 : CFn := ⟨[.tmp (pp 2)],
 .seq (.reg [
 qo 2 (.p (S.get (ii 0))) []]) (
 .seq (.seq (.reg [
 mv 3 0,
 qo 4 (.p (nilcF (tt 3))) [pp 3],
 qo 5 (.p (faddrF (tt 4) 1)) [pp 4],
 qo 6 (.r (loadF (tt 5) 1 .sc)) [pp 5],
 qo 7 (.p (eqcF false false [.int .i64] (tt 6) (ii 1))) [pp 6]]) (
 .cond (tt 7) (.seq (.reg [
 mv 8 0,
 qo 9 (.p (nilcF (tt 8))) [pp 8],
 qo 10 (.p (faddrF (tt 9) 2)) [pp 9],
 qn (.a (storeF (tt 10) (.c (.bool true)) 1)) [pp 10]]) (
 .seq (.reg [
 qo 2 (.p (S.get (ii 8))) []]) (
 .ret))) (.skip))) (
 .seq (.seq (.reg [
 mv 11 0,
 qo 12 (.p (nilcF (tt 11))) [pp 11],
 qo 13 (.p (faddrF (tt 12) 1)) [pp 12],
 qo 14 (.r (loadF (tt 13) 1 .sc)) [pp 13],
 qo 15 (.p (arF .gtr (tt 14) (ii 1))) [pp 14]]) (
 .cond (tt 15) (.reg [
 mv 16 0,
 qo 17 (.p (nilcF (tt 16))) [pp 16],
 qo 18 (.p (faddrF (tt 17) 1)) [pp 17],
 qo 19 (.r (loadF (tt 18) 1 .sc)) [pp 18],
 qo 20 (.p (arF .sub (tt 19) (ii 1))) [pp 19],
 qo 21 (.p (nilcF (tt 16))) [pp 16],
 qo 22 (.p (faddrF (tt 21) 1)) [pp 21],
 qn (.a (storeF (tt 22) (tt 20) 1)) [pp 22, pp 20]]) (.skip))) (
 .seq (.reg [
 mv 23 0,
 qo 24 (.p (nilcF (tt 23))) [pp 23],
 qo 25 (.p (faddrF (tt 24) 3)) [pp 24],
 qo 26 (.r (loadF (tt 25) 1 .sc)) [pp 25],
 qo 27 (.p (arF .add (tt 26) (ii 1))) [pp 26],
 qo 28 (.p (nilcF (tt 23))) [pp 23],
 qo 29 (.p (faddrF (tt 28) 3)) [pp 28],
 qn (.a (storeF (tt 29) (tt 27) 1)) [pp 29, pp 27]]) (
 .seq (.reg [
 qo 2 (.p (S.get (ii 0))) []]) (
 .ret)))))⟩
theorem c97_eq : fnOf Tryz.prog 97 = some c97 := by kernel_rfl
noncomputable def c101 : CFn := ⟨[.tmp (pp 4)],
 .seq (.reg [
 qo 4 (.p (S.get (.c (.bool false)))) []]) (
 .seq (.reg [
 mv 5 1,
 qo 6 (.p (arF .geq (tt 5) (ii 0))) [pp 5],
 mv 7 6,
 mg 8 1 7 true,
 mg 9 0 7 true,
 qg 10 (.p (nilcF (tt 9))) 7 true [pp 9],
 qg 11 (.p (faddrF (tt 10) 0)) 7 true [pp 10],
 qg 12 (.r (loadF (tt 11) 1 .sc)) 7 true [pp 11],
 qg 13 (.p (lenF (tt 12))) 7 true [pp 12],
 qg 14 (.p (arF .lss (tt 8) (tt 13))) 7 true [pp 8, pp 13],
 qo 15 (.p (pickF (tt 7) (tt 14) (.c (.bool false)))) [pp 7, pp 14],
 mv 4 15]) (
 .ret))⟩
theorem c101_eq : fnOf Tryz.prog 101 = some c101 := by kernel_rfl
theorem Rep.own' {H : Heap} {b ds : Bk} {so : Nat} {l : List Dv} {B : Bn} (h : Rep true H b ds so l B) : H.get b = some (.rows false 4 [[.slice (some ⟨ds, 0⟩) l.length l.length so, .int .i64 B.ar, .bool B.dk, .int .i64 B.st]]) := h.row.own
theorem Rep.loadPtr {r : Bool} {H : Heap} {b ds : Bk} {so : Nat} {l : List Dv} {B : Bn} (h : Rep r H b ds so l B) {i : Nat} (hi : i < l.length) : loadAt H ⟨ds, i⟩ 1 = some [.ptr (some ⟨l[i].b, 0⟩)] := by
  rw [loadAt_eq h.row.ptrs (r := [.ptr (some ⟨l[i].b, 0⟩)]) (nth_of (by rw [Nat.div_one]; simp [hi])), Nat.mod_one]
  exact cut_hit _ _ rfl
theorem Rep.put' {H : Heap} {b ds : Bk} {so : Nat} {l : List Dv} {B : Bn} (h : Rep true H b ds so l B) (st ar : Int) (dk : Bool) : RNext true H b ds so l (H.set b (.rows false 4 [[.slice (some ⟨ds, 0⟩) l.length l.length so, .int .i64 ar, .bool dk, .int .i64 st]])) l ⟨B.l, st, ar, dk⟩ :=
  ⟨⟨h.row.put _ _ _, h.map⟩, Turns.set (X := BFoot b ds l) (.inl rfl) _ _, fun c hc => .inl hc⟩
section
variable {H : Heap} {b ds : Bk} {so : Nat} {l : List Dv} {B : Bn} (h : Rep true H b ds so l B)
include h
theorem rload0 : loadAt H ⟨b, 0⟩ 1 = some [.slice (some ⟨ds, 0⟩) l.length l.length so] := by rw [loadAt_eq h.own' (by exact rfl)]; rfl
theorem rload1 : loadAt H ⟨b, 1⟩ 1 = some [.int .i64 B.ar] := by rw [loadAt_eq h.own' (by exact rfl)]; rfl
theorem rload2 : loadAt H ⟨b, 2⟩ 1 = some [.bool B.dk] := by rw [loadAt_eq h.own' (by exact rfl)]; rfl
theorem rload3 : loadAt H ⟨b, 3⟩ 1 = some [.int .i64 B.st] := by rw [loadAt_eq h.own' (by exact rfl)]; rfl
theorem rstore1 (x : Int) : storeAt H ⟨b, 1⟩ [.int .i64 x] = some (H.set b (.rows false 4 [[.slice (some ⟨ds, 0⟩) l.length l.length so, .int .i64 x, .bool B.dk, .int .i64 B.st]])) := storeAt_eq h.own' (r := [.slice (some ⟨ds, 0⟩) l.length l.length so, .int .i64 B.ar, .bool B.dk, .int .i64 B.st]) rfl rfl
theorem rstore2 (x : Bool) : storeAt H ⟨b, 2⟩ [.bool x] = some (H.set b (.rows false 4 [[.slice (some ⟨ds, 0⟩) l.length l.length so, .int .i64 B.ar, .bool x, .int .i64 B.st]])) := storeAt_eq h.own' (r := [.slice (some ⟨ds, 0⟩) l.length l.length so, .int .i64 B.ar, .bool B.dk, .int .i64 B.st]) rfl rfl
theorem rstore3 (x : Int) : storeAt H ⟨b, 3⟩ [.int .i64 x] = some (H.set b (.rows false 4 [[.slice (some ⟨ds, 0⟩) l.length l.length so, .int .i64 B.ar, .bool B.dk, .int .i64 x]])) := storeAt_eq h.own' (r := [.slice (some ⟨ds, 0⟩) l.length l.length so, .int .i64 B.ar, .bool B.dk, .int .i64 B.st]) rfl rfl
theorem rhas (d : Int) (lf m : Nat) : callS Tryz.prog S0 lf (m + 1) 101 [.ptr (some ⟨b, 0⟩), .int .i64 d] H = some (.v (.bool (B.tc d == 0)), H) := by
  have l0 := rload0 h
  obtain ⟨v, H', e, rfl, rfl⟩ : ret (callS Tryz.prog S0 lf (m + 1) 101 [.ptr (some ⟨b, 0⟩), .int .i64 d] H) fun v H' => v = .bool (B.tc d == 0) ∧ H' = H := by
    refine ret_call rfl c101_eq ?_
    by_cases g0 : 0 ≤ d
    · by_cases g1 : d < (l.length : Int)
      · have e : B.tc d = 0 := by unfold Bn.tc tcode; rw [← h.len, if_pos ⟨g0, g1⟩]
        rw [e]
        simp only [c101, l0, g0, g1, sy, tup, ↓reduceIte, Nat.reduceEqDiff, Nat.reduceAdd, Nat.reduceSub, Nat.reduceMul, Nat.reduceLeDiff, Int.reduceBEq, reduceCtorEq]
        exact ⟨trivial, .inr trivial, _, rfl, rfl, trivial⟩
      · have e : B.tc d = 2 := by unfold Bn.tc tcode; rw [← h.len, if_neg (fun e => g1 e.2)]
        rw [e]
        simp only [c101, l0, g0, g1, sy, tup, ↓reduceIte, Nat.reduceEqDiff, Nat.reduceAdd, Nat.reduceSub, Nat.reduceMul, Nat.reduceLeDiff, Int.reduceBEq, reduceCtorEq]
        exact ⟨trivial, .inr trivial, _, rfl, rfl, trivial⟩
    · have e : B.tc d = 2 := by unfold Bn.tc tcode; rw [← h.len, if_neg (fun e => g0 e.1)]
      rw [e]
      simp only [c101, l0, g0, sy, tup, ↓reduceIte, Nat.reduceEqDiff, Nat.reduceAdd, Nat.reduceSub, Nat.reduceMul, Nat.reduceLeDiff, Int.reduceBEq, reduceCtorEq]
      exact ⟨trivial, .inr trivial, _, rfl, rfl, trivial⟩
  exact e
theorem rasks (d : Int) (lf m : Nat) : callS Tryz.prog S0 lf (m + 2) 95 [.ptr (some ⟨b, 0⟩), .int .i64 d] H = some (.v (.int .i64 (B.lc d)), H) := by
  have l2 := rload2 h
  have e1 := rhas h d lf m
  obtain ⟨v, H', e, rfl, rfl⟩ : ret (callS Tryz.prog S0 lf (m + 2) 95 [.ptr (some ⟨b, 0⟩), .int .i64 d] H) fun v H' => v = .int .i64 (B.lc d) ∧ H' = H := by
    refine ret_call rfl c95_eq ?_
    cases hdk : B.dk with
    | true =>
      rw [hdk] at l2
      rw [show B.lc d = 8 from if_pos hdk]
      simp only [c95, l2, sy, tup, ↓reduceIte, Nat.reduceEqDiff, Nat.reduceAdd, Nat.reduceSub, Nat.reduceMul, Nat.reduceLeDiff, Int.reduceBEq, reduceCtorEq]
      exact ⟨trivial, .inr trivial, _, rfl, rfl, trivial⟩
    | false =>
      rw [hdk] at l2
      rw [show B.lc d = B.tc d from if_neg (by rw [hdk]; decide)]
      rcases h.has d with ⟨i, hi, rfl, e, _⟩ | e
      · rw [e] at e1 ⊢
        simp only [c95, l2, e1, sy, tup, ↓reduceIte, Nat.reduceEqDiff, Nat.reduceAdd, Nat.reduceSub, Nat.reduceMul, Nat.reduceLeDiff, Int.reduceBEq, reduceCtorEq]
        exact ⟨trivial, .inr trivial, _, rfl, rfl, trivial⟩
      · rw [e] at e1 ⊢
        have z : ((2 : Int) == 0) = false := rfl
        rw [z] at e1
        simp only [c95, l2, e1, sy, tup, ↓reduceIte, Nat.reduceEqDiff, Nat.reduceAdd, Nat.reduceSub, Nat.reduceMul, Nat.reduceLeDiff, Int.reduceBEq, reduceCtorEq]
        exact ⟨trivial, .inr trivial, _, rfl, rfl, trivial⟩
  exact e
theorem rdevices (lf m : Nat) : callS Tryz.prog S0 lf (m + 1) 36 [.ptr (some ⟨b, 0⟩)] H = some (.v (.int .i64 (l.length : Int)), H) := by
  have l0 := rload0 h
  obtain ⟨v, H', e, rfl, rfl⟩ : ret (callS Tryz.prog S0 lf (m + 1) 36 [.ptr (some ⟨b, 0⟩)] H) fun v H' => v = .int .i64 (l.length : Int) ∧ H' = H := by
    refine ret_call rfl c36_eq ?_
    simp only [c36, l0, sy, tup, ↓reduceIte, Nat.reduceEqDiff, Nat.reduceAdd, Nat.reduceSub, Nat.reduceMul, Nat.reduceLeDiff, Int.reduceBEq, reduceCtorEq]
    exact ⟨trivial, .inr trivial, _, rfl, rfl, trivial⟩
  exact e
theorem rdark (lf m : Nat) : callS Tryz.prog S0 lf (m + 1) 110 [.ptr (some ⟨b, 0⟩)] H = some (.v (.bool B.dk), H) := by
  have l2 := rload2 h
  obtain ⟨v, H', e, rfl, rfl⟩ : ret (callS Tryz.prog S0 lf (m + 1) 110 [.ptr (some ⟨b, 0⟩)] H) fun v H' => v = .bool B.dk ∧ H' = H := by
    refine ret_call rfl c110_eq ?_
    simp only [c110, l2, sy, tup, ↓reduceIte, Nat.reduceEqDiff, Nat.reduceAdd, Nat.reduceSub, Nat.reduceMul, Nat.reduceLeDiff, Int.reduceBEq, reduceCtorEq]
    exact ⟨trivial, .inr trivial, _, rfl, rfl, trivial⟩
  exact e
theorem rsectors (d : Int) (lf m : Nat) : callS Tryz.prog S0 lf (m + 2) 139 [.ptr (some ⟨b, 0⟩), .int .i64 d] H = some (.v (.int .i64 (B.sectors d)), H) := by
  have e1 := rhas h d lf m
  obtain ⟨v, H', e, rfl, rfl⟩ : ret (callS Tryz.prog S0 lf (m + 2) 139 [.ptr (some ⟨b, 0⟩), .int .i64 d] H) fun v H' => v = .int .i64 (B.sectors d) ∧ H' = H := by
    refine ret_call rfl c139_eq ?_
    rcases h.has d with ⟨i, hi, rfl, e, eD⟩ | e
    · have hw : B.sectors (i : Int) = (l[i].D.S.length : Int) := by rw [← eD]; exact if_pos e
      rw [e] at e1
      rw [hw]
      have l0 := rload0 h
      have lp := h.loadPtr hi
      have d0 := load0 (h.row.dev i hi)
      have hi1 : i + 1 ≤ l.length := hi
      simp only [c139, e1, l0, lp, d0, hi1, Nat.mul_one, sy, tup, ↓reduceIte, Nat.reduceEqDiff, Nat.reduceAdd, Nat.reduceSub, Nat.reduceMul, Nat.reduceLeDiff, Int.reduceBEq, reduceCtorEq]
      exact ⟨trivial, .inr trivial, _, rfl, rfl, trivial⟩
    · have hw : B.sectors d = 0 := if_neg (by rw [e]; decide)
      rw [e] at e1
      have z : ((2 : Int) == 0) = false := rfl
      rw [z] at e1
      rw [hw]
      simp only [c139, e1, sy, tup, ↓reduceIte, Nat.reduceEqDiff, Nat.reduceAdd, Nat.reduceSub, Nat.reduceMul, Nat.reduceLeDiff, Int.reduceBEq, reduceCtorEq]
      exact ⟨trivial, .inr trivial, _, rfl, rfl, trivial⟩
  exact e
theorem rstep (ha : 0 ≤ B.ar ∧ B.ar ≤ 9223372036854775807) (hs : 0 ≤ B.st ∧ B.st ≤ 100000) (lf m : Nat) :
    ∃ H', callS Tryz.prog S0 lf (m + 1) 97 [.ptr (some ⟨b, 0⟩)] H = some (.v (.int .i64 B.sc), H') ∧ ((B.ar = 1 ∧ RNext true H b ds so l H' l { B with dk := true }) ∨ (B.ar ≠ 1 ∧ RNext true H b ds so l H' l ⟨B.l, B.st + 1, arLess B.ar, B.dk⟩)) := by
  have l1 := rload1 h
  by_cases h1 : B.ar = 1
  · have e0 : B.sc = 8 := if_pos h1
    have s2 := rstore2 h true
    have z : (B.ar == 1) = true := by simp [h1]
    rw [e0]
    obtain ⟨v, H', e, rfl, k⟩ : ret (callS Tryz.prog S0 lf (m + 1) 97 [.ptr (some ⟨b, 0⟩)] H) fun v H' => v = .int .i64 8 ∧ RNext true H b ds so l H' l { B with dk := true } := by
      refine ret_call rfl c97_eq ?_
      simp only [c97, l1, s2, z, sy, tup, ↓reduceIte, Nat.reduceEqDiff, Nat.reduceAdd, Nat.reduceSub, Nat.reduceMul, Nat.reduceLeDiff, Int.reduceBEq, reduceCtorEq]
      exact ⟨trivial, .inr trivial, _, rfl, rfl, h.put' B.st B.ar true⟩
    exact ⟨H', e, .inl ⟨h1, k⟩⟩
  · have e0 : B.sc = 0 := if_neg h1
    have z : (B.ar == 1) = false := by simp; exact h1
    have w1 : IntKind.i64.wrap (B.st + 1) = B.st + 1 := wrap_i64 (by omega)
    rw [e0]
    obtain ⟨v, H', e, rfl, k⟩ : ret (callS Tryz.prog S0 lf (m + 1) 97 [.ptr (some ⟨b, 0⟩)] H) fun v H' => v = .int .i64 0 ∧ RNext true H b ds so l H' l ⟨B.l, B.st + 1, arLess B.ar, B.dk⟩ := by
      refine ret_call rfl c97_eq ?_
      by_cases g : 1 < B.ar
      · have w2 : IntKind.i64.wrap (B.ar - 1) = B.ar - 1 := wrap_i64 (by omega)
        have ea : arLess B.ar = B.ar - 1 := if_neg (by omega)
        have s1 := rstore1 h (B.ar - 1)
        have k1 := h.put' B.st (B.ar - 1) B.dk
        have l3 := rload3 k1.rep
        have s3 := rstore3 k1.rep (B.st + 1)
        have k2 := k1.trans (k1.rep.put' (B.st + 1) (B.ar - 1) B.dk)
        simp only [c97, l1, s1, z, g, w1, w2, l3, s3, sy, tup, ↓reduceIte, Nat.reduceEqDiff, Nat.reduceAdd, Nat.reduceSub, Nat.reduceMul, Nat.reduceLeDiff, Int.reduceBEq, reduceCtorEq]
        rw [ea]
        exact ⟨trivial, .inr trivial, _, rfl, rfl, k2⟩
      · have ea : arLess B.ar = B.ar := by unfold arLess; split <;> omega
        have l3 := rload3 h
        have s3 := rstore3 h (B.st + 1)
        have k2 := h.put' (B.st + 1) B.ar B.dk
        simp only [c97, l1, z, g, w1, l3, s3, sy, tup, ↓reduceIte, Nat.reduceEqDiff, Nat.reduceAdd, Nat.reduceSub, Nat.reduceMul, Nat.reduceLeDiff, Int.reduceBEq, reduceCtorEq]
        rw [ea]
        exact ⟨trivial, .inr trivial, _, rfl, rfl, k2⟩
    exact ⟨H', e, .inr ⟨h1, k⟩⟩
theorem rarm (n : Int) (lf m : Nat) :
    ret (callS Tryz.prog S0 lf (m + 1) 33 [.ptr (some ⟨b, 0⟩), .int .i64 n] H) fun v H' => v = .int .i64 (B.ac n) ∧ RNext true H b ds so l H' l (B.arm n) := by
  have l2 := rload2 h
  refine ret_call rfl c33_eq ?_
  cases hdk : B.dk with
  | true =>
    have e0 : B.ac n = 8 := if_pos hdk
    have e1 : B.arm n = B := if_neg (by rw [e0]; decide)
    rw [e0, e1]
    rw [hdk] at l2
    simp only [c33, l2, sy, tup, ↓reduceIte, Nat.reduceEqDiff, Nat.reduceAdd, Nat.reduceSub, Nat.reduceMul, Nat.reduceLeDiff, Int.reduceBEq, reduceCtorEq]
    exact ⟨trivial, .inr trivial, _, rfl, rfl, h.idle (Turns.refl Z H)⟩
  | false =>
    rw [hdk] at l2
    by_cases hn : n < 0
    · have e0 : B.ac n = 2 := by unfold Bn.ac; rw [if_neg (by rw [hdk]; decide), if_pos hn]
      have e1 : B.arm n = B := if_neg (by rw [e0]; decide)
      rw [e0, e1]
      simp only [c33, l2, hn, sy, tup, ↓reduceIte, Nat.reduceEqDiff, Nat.reduceAdd, Nat.reduceSub, Nat.reduceMul, Nat.reduceLeDiff, Int.reduceBEq, reduceCtorEq]
      exact ⟨trivial, .inr trivial, _, rfl, rfl, h.idle (Turns.refl Z H)⟩
    · have e0 : B.ac n = 0 := by unfold Bn.ac; rw [if_neg (by rw [hdk]; decide), if_neg hn]
      have e1 : B.arm n = { B with ar := n } := if_pos e0
      have s1 := rstore1 h n
      rw [e0, e1]
      simp only [c33, l2, hn, s1, sy, tup, ↓reduceIte, Nat.reduceEqDiff, Nat.reduceAdd, Nat.reduceSub, Nat.reduceMul, Nat.reduceLeDiff, Int.reduceBEq, reduceCtorEq]
      exact ⟨trivial, .inr trivial, _, rfl, rfl, h.put' B.st n B.dk⟩
variable (hg : ∀ D ∈ B.l, Good D)
include hg
theorem rgood {i : Nat} (hi : i < l.length) : Good l[i].D := hg _ (by rw [← h.map]; exact List.mem_map_of_mem (List.getElem_mem hi))
theorem rbread (d n : Int) {lf : Nat} (hlf : 1000 < lf) (m : Nat) :
    ret (callS Tryz.prog S0 lf (m + 3) 111 [.ptr (some ⟨b, 0⟩), .int .i64 d, .int .i64 n] H) fun v H' => v = .tuple [.blk (B.read d n), .int .i64 (B.rc d n)] ∧ Turns Z H H' := by
  have t1 := Turns.add Z H (.rows false 64 [[.blk 0]])
  have h' := h.turns t1
  have e1 := rasks h' d lf m
  refine ret_call rfl c111_eq ?_
  by_cases hc : B.lc d = 0
  · have hr : B.read d n = (B.dev d).read n := if_pos hc
    have hrc : B.rc d n = code (B.dev d) n := if_pos hc
    rw [hc] at e1
    rw [hr, hrc]
    rcases h.has d with ⟨i, hi, rfl, _, e⟩ | e
    · rw [e]
      have g := rgood h hg hi
      have l0 := rload0 h'
      have lp := h'.loadPtr hi
      have hi1 : i + 1 ≤ l.length := hi
      obtain ⟨v, H1, e2, rfl, t2⟩ := rread_all (h'.row.dev i hi) (lf := lf) (by have := g.le; omega) (by have := g.le; omega) n m
      have g0 : H1.get (.run H.next) = some (.rows false 64 [[.blk 0]]) := by
        rw [t2.same _ (by show _ < _; simp) id, Heap.get_add, if_pos rfl]
      have st := cell_store (v := l[i].D.read n) g0
      simp only [c111, e1, l0, lp, hi1, e2, st, Nat.mul_one, sy, tup, ↓reduceIte, Nat.reduceEqDiff, Nat.reduceAdd, Nat.reduceSub, Nat.reduceMul, Nat.reduceLeDiff, Int.reduceBEq, reduceCtorEq]
      exact ⟨trivial, .inr trivial, _, rfl, rfl, (t1.trans t2).setnew (Nat.le_refl _) _⟩
    · rw [lc_tc hc] at e; cases e
  · have hr : B.read d n = 0 := if_neg hc
    have hrc : B.rc d n = B.lc d := if_neg hc
    have hz : (B.lc d == 0) = false := by simp; exact hc
    rw [hr, hrc]
    simp only [c111, e1, hz, sy, tup, ↓reduceIte, Nat.reduceEqDiff, Nat.reduceAdd, Nat.reduceSub, Nat.reduceMul, Nat.reduceLeDiff, Int.reduceBEq, reduceCtorEq]
    exact ⟨trivial, .inr trivial, _, rfl, rfl, t1.setnew (Nat.le_refl _) _⟩
theorem rbwrite (ha : 0 ≤ B.ar ∧ B.ar ≤ 9223372036854775807) (hs : 0 ≤ B.st ∧ B.st ≤ 100000) (d n : Int) (x : Nat) {lf : Nat} (hlf : 1000 < lf) (m : Nat) :
    ret (callS Tryz.prog S0 lf (m + 3) 29 [.ptr (some ⟨b, 0⟩), .int .i64 d, .int .i64 n, .blk x] H) fun v H' => v = .int .i64 (B.wc d n) ∧ ∃ l', RNext true H b ds so l H' l' (B.write d n x) := by
  have t1 := Turns.add Z H (.rows false 64 [[.blk x]])
  have gA : (H.add (.rows false 64 [[.blk x]])).get (.run H.next) = some (.rows false 64 [[.blk x]]) := by rw [Heap.get_add, if_pos rfl]
  have oA : (H.add (.rows false 64 [[.blk x]])).Old (.run H.next) := by show _ < _; simp
  have h' := h.turns t1
  have nb : Bk.run H.next ≠ b := fun e => Heap.not_old (Nat.le_refl _) (by rw [e]; exact h.row.old.1)
  generalize hHA : H.add (.rows false 64 [[.blk x]]) = HA at t1 gA oA h'
  have e1 := rasks h' d lf m
  refine ret_call rfl c29_eq ?_
  simp only [c29, sy, tup, ↓reduceIte, Nat.reduceEqDiff, Nat.reduceAdd, Nat.reduceSub, Nat.reduceMul, Nat.reduceLeDiff, Int.reduceBEq, reduceCtorEq]
  rw [hHA]
  by_cases hlc : B.lc d = 0
  · rw [hlc] at e1
    rcases h.has d with ⟨i, hi, rfl, _, eD⟩ | e
    · have g := rgood h hg hi
      have hrc : B.rc (i : Int) n = code l[i].D n := by rw [← eD]; exact if_pos hlc
      have l0 := rload0 h'
      have lp := h'.loadPtr hi
      have hi1 : i + 1 ≤ l.length := hi
      obtain ⟨v, _, e2, rfl, rfl⟩ := asks_code (h'.row.dev i hi) n lf (m + 1)
      change callS Tryz.prog S0 lf (m + 2) 96 _ _ = _ at e2
      by_cases hc : code l[i].D n = 0
      · have hw : B.write (i : Int) n x = B.step (i : Int) (l[i].D.write n x) := by rw [← eD]; exact if_pos (by rw [hrc]; exact hc)
        have hwc : B.wc (i : Int) n = B.sc := if_pos (by rw [hrc]; exact hc)
        rw [hw, hwc]
        rw [hc] at e2
        obtain ⟨K1, e3, hs3⟩ := rstep h' ha hs lf (m + 1)
        change callS Tryz.prog S0 lf (m + 2) 97 _ _ = _ at e3
        rcases hs3 with ⟨h1, k1⟩ | ⟨h1, k1⟩
        · rw [show B.sc = 8 from if_pos h1] at e3 ⊢
          have est : B.step (i : Int) (l[i].D.write n x) = { B with dk := true } := if_pos h1
          rw [est]
          simp only [e1, l0, lp, hi1, e2, e3, Nat.mul_one, sy, tup, ↓reduceIte, Nat.reduceEqDiff, Nat.reduceAdd, Nat.reduceSub, Nat.reduceMul, Nat.reduceLeDiff, Int.reduceBEq, reduceCtorEq]
          exact ⟨trivial, .inr trivial, _, rfl, rfl, l, RNext.before t1 k1⟩
        · rw [show B.sc = 0 from if_neg h1] at e3 ⊢
          have est : B.step (i : Int) (l[i].D.write n x) = (⟨B.l, B.st + 1, arLess B.ar, B.dk⟩ : Bn).setd (i : Int) (l[i].D.write n x) := if_neg h1
          rw [est]
          have l0' := rload0 k1.rep
          have lp' := k1.rep.loadPtr hi
          have ld := load_of ((k1.turns.same _ oA (fun hc => by
            rcases hc with hc | hc | ⟨z, hz, hc⟩
            · exact nb hc
            · exact Heap.not_old (Nat.le_refl _) (by rw [hc]; exact h.row.old.2)
            · obtain ⟨j, hj, rfl⟩ := List.getElem_of_mem hz
              exact Heap.not_old (Nat.le_refl _) ((h.row.dev j hj).foot_old _ hc))).trans gA)
          obtain ⟨v, K2, e4, rfl, y', n4⟩ := rwrite_all (k1.rep.row.dev i hi) (by have := g.le; omega) n x lf m
          rw [hc] at e4
          simp only [e1, l0, lp, hi1, e2, e3, l0', lp', ld, e4, Nat.mul_one, sy, tup, ↓reduceIte, Nat.reduceEqDiff, Nat.reduceAdd, Nat.reduceSub, Nat.reduceMul, Nat.reduceLeDiff, Int.reduceBEq, reduceCtorEq]
          rw [endD_ok (by kernel_rfl) (by kernel_rfl)]
          simp only [sy, tup, ↓reduceIte, Nat.reduceEqDiff, Nat.reduceAdd, Nat.reduceSub, Nat.reduceMul, Nat.reduceLeDiff, Int.reduceBEq, reduceCtorEq]
          exact ⟨trivial, .inr trivial, _, rfl, rfl, _, RNext.before t1 (k1.trans (k1.rep.dev hi n4))⟩
      · have hw : B.write (i : Int) n x = B := if_neg (by rw [hrc]; exact hc)
        have hwc : B.wc (i : Int) n = code l[i].D n := by rw [← hrc]; exact if_neg (by rw [hrc]; exact hc)
        have hz : (code l[i].D n == 0) = false := by simp; exact hc
        rw [hw, hwc]
        simp only [e1, l0, lp, hi1, e2, hz, Nat.mul_one, sy, tup, ↓reduceIte, Nat.reduceEqDiff, Nat.reduceAdd, Nat.reduceSub, Nat.reduceMul, Nat.reduceLeDiff, Int.reduceBEq, reduceCtorEq]
        exact ⟨trivial, .inr trivial, _, rfl, rfl, l, h.idle t1⟩
    · rw [lc_tc hlc] at e; cases e
  · have hrc : B.rc d n = B.lc d := if_neg hlc
    have hw : B.write d n x = B := if_neg (by rw [hrc]; exact hlc)
    have hwc : B.wc d n = B.lc d := by rw [← hrc]; exact if_neg (by rw [hrc]; exact hlc)
    have hz : (B.lc d == 0) = false := by simp; exact hlc
    rw [hw, hwc]
    simp only [e1, hz, sy, tup, ↓reduceIte, Nat.reduceEqDiff, Nat.reduceAdd, Nat.reduceSub, Nat.reduceMul, Nat.reduceLeDiff, Int.reduceBEq, reduceCtorEq]
    exact ⟨trivial, .inr trivial, _, rfl, rfl, l, h.idle t1⟩
theorem rbflush (ha : 0 ≤ B.ar ∧ B.ar ≤ 9223372036854775807) (hs : 0 ≤ B.st ∧ B.st ≤ 100000) (d : Int) {lf : Nat} (hlf : 1000 < lf) (m : Nat) :
    ret (callS Tryz.prog S0 lf (m + 3) 35 [.ptr (some ⟨b, 0⟩), .int .i64 d] H) fun v H' => v = .int .i64 (B.wc d 0) ∧ ∃ l', RNext true H b ds so l H' l' (B.flush d) := by
  have e1 := rasks h d lf m
  refine ret_call rfl c35_eq ?_
  by_cases hlc : B.lc d = 0
  · rw [hlc] at e1
    rcases h.has d with ⟨i, hi, rfl, _, eD⟩ | e
    · have g := rgood h hg hi
      have hpos : 0 < l[i].D.S.length := List.length_pos_iff.2 g.ne
      have hcf : code l[i].D 0 = fcode l[i].D := by unfold code fcode; rw [if_neg (by omega)]
      have hrc : B.rc (i : Int) 0 = fcode l[i].D := by rw [← hcf, ← eD]; exact if_pos hlc
      have l0 := rload0 h
      have lp := h.loadPtr hi
      have d2 := load2 (h.row.dev i hi)
      have hi1 : i + 1 ≤ l.length := hi
      cases hdd : l[i].D.dead with
      | true =>
        have hf : fcode l[i].D = 9 := if_pos hdd
        rw [hdd] at d2
        have hw : B.flush (i : Int) = B := if_neg (by rw [hrc, hf]; decide)
        have hwc : B.wc (i : Int) 0 = 9 := by rw [← hf, ← hrc]; exact if_neg (by rw [hrc, hf]; decide)
        rw [hw, hwc]
        simp only [c35, e1, l0, lp, hi1, d2, Nat.mul_one, sy, tup, ↓reduceIte, Nat.reduceEqDiff, Nat.reduceAdd, Nat.reduceSub, Nat.reduceMul, Nat.reduceLeDiff, Int.reduceBEq, reduceCtorEq]
        exact ⟨trivial, .inr trivial, _, rfl, rfl, l, h.idle (Turns.refl Z H)⟩
      | false =>
        have hf : fcode l[i].D = 0 := if_neg (by rw [hdd]; decide)
        rw [hdd] at d2
        have hw : B.flush (i : Int) = B.step (i : Int) l[i].D.flush := by rw [← eD]; exact if_pos (by rw [hrc, hf])
        have hwc : B.wc (i : Int) 0 = B.sc := if_pos (by rw [hrc, hf])
        rw [hw, hwc]
        obtain ⟨K1, e3, hs3⟩ := rstep h ha hs lf (m + 1)
        change callS Tryz.prog S0 lf (m + 2) 97 _ _ = _ at e3
        rcases hs3 with ⟨h1, k1⟩ | ⟨h1, k1⟩
        · rw [show B.sc = 8 from if_pos h1] at e3 ⊢
          have est : B.step (i : Int) l[i].D.flush = { B with dk := true } := if_pos h1
          rw [est]
          simp only [c35, e1, l0, lp, hi1, d2, e3, Nat.mul_one, sy, tup, ↓reduceIte, Nat.reduceEqDiff, Nat.reduceAdd, Nat.reduceSub, Nat.reduceMul, Nat.reduceLeDiff, Int.reduceBEq, reduceCtorEq]
          exact ⟨trivial, .inr trivial, _, rfl, rfl, l, k1⟩
        · rw [show B.sc = 0 from if_neg h1] at e3 ⊢
          have est : B.step (i : Int) l[i].D.flush = (⟨B.l, B.st + 1, arLess B.ar, B.dk⟩ : Bn).setd (i : Int) l[i].D.flush := if_neg h1
          rw [est]
          have l0' := rload0 k1.rep
          have lp' := k1.rep.loadPtr hi
          obtain ⟨v, K2, e4, rfl, y', n4⟩ := rflush_all (k1.rep.row.dev i hi) g.ok (by have := g.le; omega) (lf := lf) (by have := g.le; omega) (m + 1)
          change callS Tryz.prog S0 lf (m + 2) 105 _ _ = _ at e4
          rw [hf] at e4
          simp only [c35, e1, l0, lp, hi1, d2, e3, l0', lp', e4, Nat.mul_one, sy, tup, ↓reduceIte, Nat.reduceEqDiff, Nat.reduceAdd, Nat.reduceSub, Nat.reduceMul, Nat.reduceLeDiff, Int.reduceBEq, reduceCtorEq]
          exact ⟨trivial, .inr trivial, _, rfl, rfl, _, k1.trans (k1.rep.dev hi n4)⟩
    · rw [lc_tc hlc] at e; cases e
  · have hrc : B.rc d 0 = B.lc d := if_neg hlc
    have hw : B.flush d = B := if_neg (by rw [hrc]; exact hlc)
    have hwc : B.wc d 0 = B.lc d := by rw [← hrc]; exact if_neg (by rw [hrc]; exact hlc)
    have hz : (B.lc d == 0) = false := by simp; exact hlc
    rw [hw, hwc]
    simp only [c35, e1, hz, sy, tup, ↓reduceIte, Nat.reduceEqDiff, Nat.reduceAdd, Nat.reduceSub, Nat.reduceMul, Nat.reduceLeDiff, Int.reduceBEq, reduceCtorEq]
    exact ⟨trivial, .inr trivial, _, rfl, rfl, l, h.idle (Turns.refl Z H)⟩
theorem rbfail (d : Int) (lf m : Nat) :
    ret (callS Tryz.prog S0 lf (m + 2) 31 [.ptr (some ⟨b, 0⟩), .int .i64 d] H) fun v H' => v = .int .i64 (B.tc d) ∧ ∃ l', RNext true H b ds so l H' l' (B.fail d) := by
  have e1 := rhas h d lf m
  refine ret_call rfl c31_eq ?_
  rcases h.has d with ⟨i, hi, rfl, e, eD⟩ | e
  · have hw : B.fail (i : Int) = B.setd (i : Int) l[i].D.fail := by rw [← eD]; exact if_pos e
    rw [hw]
    rw [e] at e1 ⊢
    have l0 := rload0 h
    have lp := h.loadPtr hi
    have hi1 : i + 1 ≤ l.length := hi
    obtain ⟨v, H', e2, y', k⟩ := rfail_ok (h.row.dev i hi) lf m
    simp only [c31, e1, l0, lp, hi1, e2, Nat.mul_one, sy, tup, ↓reduceIte, Nat.reduceEqDiff, Nat.reduceAdd, Nat.reduceSub, Nat.reduceMul, Nat.reduceLeDiff, Int.reduceBEq, reduceCtorEq]
    exact ⟨trivial, .inr trivial, _, rfl, rfl, _, h.dev hi k⟩
  · have hw : B.fail d = B := if_neg (by rw [e]; decide)
    rw [hw]
    rw [e] at e1 ⊢
    have z : ((2 : Int) == 0) = false := rfl
    rw [z] at e1
    simp only [c31, e1, sy, tup, ↓reduceIte, Nat.reduceEqDiff, Nat.reduceAdd, Nat.reduceSub, Nat.reduceMul, Nat.reduceLeDiff, Int.reduceBEq, reduceCtorEq]
    exact ⟨trivial, .inr trivial, _, rfl, rfl, l, h.idle (Turns.refl Z H)⟩
end
end Go.Proofs.YtejgheoandfikaaGreat.disk
set_option linter.unusedVariables false
set_option linter.unusedSectionVars false
set_option linter.unusedSimpArgs false
set_option maxRecDepth 10000
namespace Go.Proofs.YtejgheoandfikaaGreat.disk
open Go.Am
noncomputable def c62_l0 : C := .seq (.seq (.reg [
 mv 18 5,
 mv 19 0,
 qo 20 (.p (lenF (tt 19))) [pp 19],
 qo 21 (.p (arF .lss (tt 18) (tt 20))) [pp 18, pp 20]]) (
 .cond (tt 21) (.skip) (.exit 0))) (
 .seq (.block 1 (.seq (.reg [
 mv 25 0,
 mv 26 5,
 qo 27 (.p (iaddrSF (tt 25) (tt 26) 1)) [pp 25, pp 26],
 qo 28 (.r (loadF (tt 27) 1 .sc)) [pp 27],
 qo 29 (.c (callF (ff 137) [(tt 28)])) [pp 28],
 mv 24 29,
 qo 30 (.p (extF (tt 24) 0)) [pp 24],
 qo 31 (.p (extF (tt 24) 1)) [pp 24],
 mv 6 30,
 mv 7 31]) (
 .seq (.seq (.reg [
 mv 32 7,
 qo 33 (.p (eqcF true false [.int .i64] (tt 32) (ii 0))) [pp 32]]) (
 .cond (tt 33) (.seq (.reg [
 qo 2 (.p (S.get (.c (.ptr none)))) [],
 qo 3 (.p (S.get (ii 2))) []]) (
 .ret)) (.skip))) (
 .reg [
 mv 34 4,
 mv 35 4,
 qo 36 (.p (nilcF (tt 35))) [pp 35],
 qo 37 (.p (faddrF (tt 36) 0)) [pp 36],
 qo 38 (.r (loadF (tt 37) 1 .sc)) [pp 37],
 mv 39 6,
 qo 40 (.m (bsliceF 1 1 [.ptr none] [(0, 1, (tt 39))])) [pp 39],
 qo 41 (.a (appF 1 8 (tt 38) (tt 40))) [pp 38, pp 40],
 qo 42 (.p (nilcF (tt 34))) [pp 34],
 qo 43 (.p (faddrF (tt 42) 0)) [pp 42],
 qn (.a (storeF (tt 43) (tt 41) 1)) [pp 43, pp 41]])))) (
 .reg [
 mv 22 5,
 qo 23 (.p (arF .add (tt 22) (ii 1))) [pp 22],
 mv 5 23]))
noncomputable def c62 : CFn := ⟨[.tmp (pp 2), .tmp (pp 3)],
 .seq (.reg [
 qo 2 (.p (S.get (.c (.ptr none)))) [],
 qo 3 (.p (S.get (ii 0))) []]) (
 .seq (.seq (.reg [
 mv 8 0,
 qo 9 (.p (lenF (tt 8))) [pp 8],
 qo 10 (.p (arF .lss (tt 9) (ii 1))) [pp 9],
 mv 11 10,
 mg 12 0 11 false,
 qg 13 (.p (lenF (tt 12))) 11 false [pp 12],
 qg 14 (.p (arF .gtr (tt 13) (ii 17))) 11 false [pp 13],
 qo 15 (.p (pickF (tt 11) (.c (.bool true)) (tt 14))) [pp 11, pp 14]]) (
 .cond (tt 15) (.seq (.reg [
 qo 2 (.p (S.get (.c (.ptr none)))) [],
 qo 3 (.p (S.get (ii 2))) []]) (
 .ret)) (.skip))) (
 .seq (.reg [
 qo 16 (.p (buildF [.slice none 0 0 0, .int .i64 0, .bool false, .int .i64 0] .ag [])) [],
 qo 17 (.m (boxF 4 (tt 16))) [pp 16],
 mv 4 17]) (
 .seq (.seq (.reg [
 qo 5 (.p (S.get (ii 0))) []]) (
 .block 0 (.loop c62_l0))) (
 .seq (.reg [
 mv 44 4,
 mv 2 44,
 qo 3 (.p (S.get (ii 0))) []]) (
 .ret)))))⟩
theorem c62_eq : fnOf Tryz.prog 62 = some c62 := by kernel_rfl
theorem rbnew_all (H : Heap) {pp : Option Ptr} {P : List Int} {pc po : Nat} (hP : PicksAt H pp P Z) {lf : Nat} (hlf : 1000 < lf) (m : Nat) :
    ret (callS Tryz.prog S0 lf (m + 2) 62 [.slice pp P.length pc po] H) (Newed true P H) := by
  refine ret_call rfl c62_eq ?_
  by_cases hlen : 1 ≤ P.length ∧ P.length ≤ 17
  · obtain ⟨g1, g2⟩ := hlen
    have g1' : ¬ ((P.length : Int) < 1) := by omega
    have g2' : ¬ (17 < (P.length : Int)) := by omega
    have G0 := grow0 H (.int .i64 0) (.bool false) (.int .i64 0)
    have hloop : ∀ t : T, t.getP (Tr.path 0) = some (.slice pp P.length pc po) → t.getP (Tr.path 4) = some (.ptr (some ⟨.run H.next, 0⟩)) → t.getP (Tr.path 5) = some (.int .i64 0) →
        wp (loopF (runC (callS Tryz.prog S0 lf (m + 1)) lf c62_l0) lf ⟨t, H.add (.rows false 4 [[.slice none 0 0 0, .int .i64 0, .bool false, .int .i64 0]]), []⟩) fun x s =>
          s.d = [] ∧ ((x = .ret ∧ ¬ okSizes P ∧ s.t.getP (Tr.path 2) = some (.ptr none) ∧ s.t.getP (Tr.path 3) = some (.int .i64 2) ∧ Turns Z H s.H) ∨ (x = .ex 0 ∧ s.t.getP (Tr.path 4) = some (.ptr (some ⟨.run H.next, 0⟩)) ∧ okSizes P ∧ ∃ p o l, Grow H s.H (.run H.next) p o l (.int .i64 0) (.bool false) (.int .i64 0) ∧ l.map Dv.D = P.map (fun n => blank n.toNat))) := by
      intro t q0 q4 q5
      refine wp_loopF (fun k s => ∃ i p o l, i + k = P.length ∧ s.d = [] ∧ s.t.getP (Tr.path 0) = some (.slice pp P.length pc po) ∧ s.t.getP (Tr.path 4) = some (.ptr (some ⟨.run H.next, 0⟩)) ∧ s.t.getP (Tr.path 5) = some (.int .i64 ((i : Nat) : Int)) ∧ Grow H s.H (.run H.next) p o l (.int .i64 0) (.bool false) (.int .i64 0) ∧ l.map Dv.D = (P.take i).map (fun n => blank n.toNat) ∧ ∀ n ∈ P.take i, 1 ≤ n ∧ n ≤ 512) ?_ lf P.length _ ⟨0, none, 0, [], by omega, rfl, q0, q4, q5, G0, rfl, fun n hn => absurd hn (by simp)⟩ (by omega)
      rintro k ⟨t, HH, d⟩ ⟨i, p, o, l, hi, rfl, q0, q4, q5, hG, hm, hok⟩
      dsimp only at q0 q4 q5 hG
      by_cases hiP : i < P.length
      · obtain ⟨x, ox, hpx, l1⟩ := (hP.turns hG.t).load hiP
        rw [hpx] at q0
        have hi1 : i + 1 ≤ P.length := hiP
        have hw' : IntKind.i64.wrap ((i : Int) + 1) = (i : Int) + 1 := wrap_i64 (by omega)
        by_cases hn : 1 ≤ P[i] ∧ P[i] ≤ 512
        · obtain ⟨v, H1, e1, rfl, hD, t1⟩ := rnew_ok HH (n := P[i].toNat) (by omega) (by omega) lf m
          rw [show ((P[i].toNat : Nat) : Int) = P[i] from by omega] at e1
          have hF : Fresh HH (.run (HH.next + 1)) ⟨.run HH.next, 0, .run HH.next, none, 0⟩ (blank P[i].toNat) := ⟨Heap.not_old (by omega), Heap.not_old (Nat.le_refl _), fun e => absurd rfl e⟩
          have hll : l.length = i := by have := congrArg List.length hm; simpa [Nat.min_eq_left (Nat.le_of_lt hiP)] using this
          obtain ⟨H3, H4, ds, ha, hs, hG'⟩ := hG.step t1 hD hF (by omega)
          have l0 := hG.load t1
          have l0' := hG.load (t1.addm (.rows false 1 [[.ptr (some ⟨.run (HH.next + 1), 0⟩)]]))
          simp only [c62_l0, q0, q4, q5, hiP, hi1, l1, e1, l0, l0', ha, hs, hw', Nat.mul_one, sy, tup, ↓reduceIte, Nat.reduceEqDiff, Nat.reduceAdd, Nat.reduceSub, Nat.reduceMul, Nat.reduceLeDiff, Int.reduceBEq, reduceCtorEq]
          refine ⟨k - 1, by omega, i + 1, _, _, _, by omega, trivial, by rw [hpx], trivial, rfl, hG', ?_, ?_⟩
          · rw [List.map_append, hm, List.take_succ_eq_append_getElem hiP, List.map_append]; rfl
          · rw [List.take_succ_eq_append_getElem hiP]
            intro z hz
            rcases List.mem_append.1 hz with hz | hz
            · exact hok z hz
            · rw [List.mem_singleton.1 hz]; exact hn
        · have e1 := rnew_err HH (n := P[i]) (by omega) lf m
          have hbad : ¬ okSizes P := fun h => hn (h.2.2 _ (List.getElem_mem hiP))
          simp only [c62_l0, q0, q4, q5, hiP, hi1, l1, e1, Nat.mul_one, sy, tup, ↓reduceIte, Nat.reduceEqDiff, Nat.reduceAdd, Nat.reduceSub, Nat.reduceMul, Nat.reduceLeDiff, Int.reduceBEq, reduceCtorEq]
          exact ⟨trivial, .inl ⟨trivial, hbad, trivial, trivial, hG.t⟩⟩
      · have hg : ¬ (i < P.length) := hiP
        have hiL : P.take i = P := List.take_of_length_le (by omega)
        rw [hiL] at hm hok
        simp only [c62_l0, q0, q4, q5, hg, sy, tup, ↓reduceIte, Nat.reduceEqDiff, Nat.reduceAdd, Nat.reduceSub, Nat.reduceMul, Nat.reduceLeDiff, Int.reduceBEq, reduceCtorEq]
        refine ⟨trivial, .inr ⟨trivial, trivial, ⟨g1, g2, hok⟩, p, o, l, hG, hm⟩⟩
    simp only [c62, g1', g2', sy, tup, ↓reduceIte, Nat.reduceEqDiff, Nat.reduceAdd, Nat.reduceSub, Nat.reduceMul, Nat.reduceLeDiff, Int.reduceBEq, reduceCtorEq]
    refine wp_ctx (F := fun r => seqC _ _ _ (blockC _ r)) (hloop _ ?_ ?_ ?_) ?_
    · simp only [sy, tup, ↓reduceIte, Nat.reduceEqDiff, Nat.reduceAdd, Nat.reduceSub, Nat.reduceMul, Nat.reduceLeDiff, Int.reduceBEq, reduceCtorEq]
    · simp only [sy, tup, ↓reduceIte, Nat.reduceEqDiff, Nat.reduceAdd, Nat.reduceSub, Nat.reduceMul, Nat.reduceLeDiff, Int.reduceBEq, reduceCtorEq]
    · simp only [sy, tup, ↓reduceIte, Nat.reduceEqDiff, Nat.reduceAdd, Nat.reduceSub, Nat.reduceMul, Nat.reduceLeDiff, Int.reduceBEq, reduceCtorEq]
    rintro x ⟨t, HH, d⟩ ⟨rfl, ⟨rfl, hbad, q2, q3, hT⟩ | ⟨rfl, q4, hok, p, o, l, hG, hm⟩⟩
    · dsimp only at q2 q3 hT
      simp only [q2, q3, sy, tup, ↓reduceIte, Nat.reduceEqDiff, Nat.reduceAdd, Nat.reduceSub, Nat.reduceMul, Nat.reduceLeDiff, Int.reduceBEq, reduceCtorEq]
      exact ⟨trivial, .inr trivial, _, rfl, hT, .inl ⟨hbad, rfl⟩⟩
    · dsimp only at q4 hG
      have hl : l ≠ [] := fun e => by
        have := congrArg List.length hm
        rw [e] at this; simp at this; omega
      obtain ⟨ds, rfl, rfl, hR, hN⟩ := Grow.rep (r := true) (B := newB P) hG hl hm
      simp only [q4, sy, tup, ↓reduceIte, Nat.reduceEqDiff, Nat.reduceAdd, Nat.reduceSub, Nat.reduceMul, Nat.reduceLeDiff, Int.reduceBEq, reduceCtorEq]
      exact ⟨trivial, .inr trivial, _, rfl, hG.t, .inr ⟨hok, _, ds, l, rfl, hR, hN⟩⟩
  · have hbad : ¬ okSizes P := fun h => hlen ⟨h.1, h.2.1⟩
    by_cases g1 : (P.length : Int) < 1
    · simp only [c62, g1, sy, tup, ↓reduceIte, Nat.reduceEqDiff, Nat.reduceAdd, Nat.reduceSub, Nat.reduceMul, Nat.reduceLeDiff, Int.reduceBEq, reduceCtorEq]
      exact ⟨trivial, .inr trivial, _, rfl, Turns.refl Z H, .inl ⟨hbad, rfl⟩⟩
    · have g2 : 17 < (P.length : Int) := by omega
      simp only [c62, g1, g2, sy, tup, ↓reduceIte, Nat.reduceEqDiff, Nat.reduceAdd, Nat.reduceSub, Nat.reduceMul, Nat.reduceLeDiff, Int.reduceBEq, reduceCtorEq]
      exact ⟨trivial, .inr trivial, _, rfl, Turns.refl Z H, .inl ⟨hbad, rfl⟩⟩
end Go.Proofs.YtejgheoandfikaaGreat.disk
set_option linter.unusedVariables false
set_option linter.unusedSimpArgs false
set_option maxRecDepth 10000
namespace Go.Proofs.YtejgheoandfikaaGreat.draft
open Go.Am
noncomputable def c144 : CFn := ⟨[.tmp (pp 6)],
 .seq (.reg [
 qo 6 (.p (S.get (.c (.bool false)))) []]) (
 .seq (.reg [
 mv 7 0,
 mv 8 1,
 qo 9 (.p (arF .geq (tt 7) (tt 8))) [pp 7, pp 8],
 mv 10 9,
 mg 11 0 10 true,
 mg 12 2 10 true,
 qg 13 (.p (arF .leq (tt 11) (tt 12))) 10 true [pp 11, pp 12],
 qo 14 (.p (pickF (tt 10) (tt 13) (.c (.bool false)))) [pp 10, pp 13],
 mv 6 14]) (
 .ret))⟩
theorem c144_eq : fnOf Tryz.prog 144 = some c144 := by kernel_rfl
noncomputable def c69 : CFn := ⟨[.tmp (pp 2)],
 .seq (.reg [
 qo 1 (.m (boxF 3 (tt 0))) [pp 0],
 qo 2 (.p (S.get (.c (.bool false)))) []]) (
 .seq (.reg [
 qo 3 (.p (faddrF (tt 1) 0)) [pp 1],
 qo 4 (.r (loadF (tt 3) 1 .sc)) [pp 3],
 qo 5 (.c (callF (ff 144) [(tt 4), (ii 3), (ii 16)])) [pp 4],
 mv 6 5,
 qg 7 (.p (faddrF (tt 1) 1)) 6 true [pp 1],
 qg 8 (.r (loadF (tt 7) 1 .sc)) 6 true [pp 7],
 qg 9 (.c (callF (ff 144) [(tt 8), (ii 1), (ii 64)])) 6 true [pp 8],
 qo 10 (.p (pickF (tt 6) (tt 9) (.c (.bool false)))) [pp 6, pp 9],
 mv 11 10,
 qg 12 (.p (faddrF (tt 1) 2)) 11 true [pp 1],
 qg 13 (.r (loadF (tt 12) 1 .sc)) 11 true [pp 12],
 qg 14 (.c (callF (ff 144) [(tt 13), (ii 40), (ii 256)])) 11 true [pp 13],
 qo 15 (.p (pickF (tt 11) (tt 14) (.c (.bool false)))) [pp 11, pp 14],
 mv 2 15]) (
 .ret))⟩
theorem c69_eq : fnOf Tryz.prog 69 = some c69 := by kernel_rfl
noncomputable def c140 : CFn := ⟨[.tmp (pp 2)],
 .seq (.reg [
 qo 1 (.m (boxF 3 (tt 0))) [pp 0],
 qo 2 (.p (S.get (.c (.bool false)))) []]) (
 .seq (.reg [
 qo 3 (.p (faddrF (tt 1) 0)) [pp 1],
 qo 4 (.r (loadF (tt 3) 1 .sc)) [pp 3],
 qo 5 (.p (arF .geq (tt 4) (ii 3))) [pp 4],
 mv 6 5,
 qg 7 (.p (faddrF (tt 1) 0)) 6 true [pp 1],
 qg 8 (.r (loadF (tt 7) 1 .sc)) 6 true [pp 7],
 qg 9 (.p (arF .leq (tt 8) (ii 16))) 6 true [pp 8],
 qo 10 (.p (pickF (tt 6) (tt 9) (.c (.bool false)))) [pp 6, pp 9],
 mv 11 10,
 qg 12 (.p (faddrF (tt 1) 1)) 11 true [pp 1],
 qg 13 (.r (loadF (tt 12) 1 .sc)) 11 true [pp 12],
 qg 14 (.p (arF .geq (tt 13) (ii 1))) 11 true [pp 13],
 qo 15 (.p (pickF (tt 11) (tt 14) (.c (.bool false)))) [pp 11, pp 14],
 mv 16 15,
 qg 17 (.p (faddrF (tt 1) 1)) 16 true [pp 1],
 qg 18 (.r (loadF (tt 17) 1 .sc)) 16 true [pp 17],
 qg 19 (.p (arF .leq (tt 18) (ii 64))) 16 true [pp 18],
 qo 20 (.p (pickF (tt 16) (tt 19) (.c (.bool false)))) [pp 16, pp 19],
 mv 21 20,
 qg 22 (.p (faddrF (tt 1) 2)) 21 true [pp 1],
 qg 23 (.r (loadF (tt 22) 1 .sc)) 21 true [pp 22],
 qg 24 (.p (arF .geq (tt 23) (ii 40))) 21 true [pp 23],
 qo 25 (.p (pickF (tt 21) (tt 24) (.c (.bool false)))) [pp 21, pp 24],
 mv 26 25,
 qg 27 (.p (faddrF (tt 1) 2)) 26 true [pp 1],
 qg 28 (.r (loadF (tt 27) 1 .sc)) 26 true [pp 27],
 qg 29 (.p (arF .leq (tt 28) (ii 256))) 26 true [pp 28],
 qo 30 (.p (pickF (tt 26) (tt 29) (.c (.bool false)))) [pp 26, pp 29],
 mv 2 30]) (
 .ret))⟩
theorem c140_eq : fnOf Tryz.prog 140 = some c140 := by kernel_rfl
def Z : Bk → Prop := fun _ => False
noncomputable abbrev S0 : CallT := disk.S0
def geo (m s r : Int) : V := .agg [.int .i64 m, .int .i64 s, .int .i64 r]
def inn (n lo hi : Int) : Bool := decide (lo ≤ n) && decide (n ≤ hi)
def may (m s r : Int) : Bool := inn m 3 16 && (inn s 1 64 && inn r 40 256)
theorem inn_t {n lo hi : Int} (h : inn n lo hi = true) : lo ≤ n ∧ n ≤ hi := by
  simpa [inn] using h
theorem may_t {m s r : Int} (h : may m s r = true) : (3 ≤ m ∧ m ≤ 16) ∧ (1 ≤ s ∧ s ≤ 64) ∧ (40 ≤ r ∧ r ≤ 256) := by
  simp only [may, Bool.and_eq_true] at h
  exact ⟨inn_t h.1, inn_t h.2.1, inn_t h.2.2⟩
theorem within_ok (H : Heap) (a lo hi : Int) (lf n : Nat) : callS Tryz.prog S0 lf (n + 1) 144 [.int .i64 a, .int .i64 lo, .int .i64 hi] H = some (.v (.bool (inn a lo hi)), H) := by
  obtain ⟨v, H', e, rfl, rfl⟩ : ret (callS Tryz.prog S0 lf (n + 1) 144 [.int .i64 a, .int .i64 lo, .int .i64 hi] H) fun v H' => v = .bool (inn a lo hi) ∧ H' = H := by
    refine ret_call rfl c144_eq ?_
    by_cases h : lo ≤ a
    · simp only [c144, h, sy, tup, ↓reduceIte, Nat.reduceEqDiff, Nat.reduceAdd, Nat.reduceSub, Nat.reduceMul, Nat.reduceLeDiff, Int.reduceBEq, reduceCtorEq]
      simp [inn, h]
    · simp only [c144, h, sy, tup, ↓reduceIte, Nat.reduceEqDiff, Nat.reduceAdd, Nat.reduceSub, Nat.reduceMul, Nat.reduceLeDiff, Int.reduceBEq, reduceCtorEq]
      simp [inn, h]
  exact e
theorem may_ok (H : Heap) (m s r : Int) (lf n : Nat) : ret (callS Tryz.prog S0 lf (n + 2) 69 [geo m s r] H) fun v H' => v = .bool (may m s r) ∧ Turns Z H H' := by
  have t1 := Turns.add Z H (.rows false 3 [[.int .i64 m, .int .i64 s, .int .i64 r]])
  have hg : (H.add (.rows false 3 [[.int .i64 m, .int .i64 s, .int .i64 r]])).get (.run H.next) = some (.rows false 3 [[.int .i64 m, .int .i64 s, .int .i64 r]]) := by rw [Heap.get_add, if_pos rfl]
  have l0 : loadAt (H.add (.rows false 3 [[.int .i64 m, .int .i64 s, .int .i64 r]])) ⟨.run H.next, 0⟩ 1 = some [.int .i64 m] := by rw [loadAt_eq hg rfl]; rfl
  have l1 : loadAt (H.add (.rows false 3 [[.int .i64 m, .int .i64 s, .int .i64 r]])) ⟨.run H.next, 1⟩ 1 = some [.int .i64 s] := by rw [loadAt_eq hg rfl]; rfl
  have l2 : loadAt (H.add (.rows false 3 [[.int .i64 m, .int .i64 s, .int .i64 r]])) ⟨.run H.next, 2⟩ 1 = some [.int .i64 r] := by rw [loadAt_eq hg rfl]; rfl
  have w1 := within_ok (H.add (.rows false 3 [[.int .i64 m, .int .i64 s, .int .i64 r]])) m 3 16 lf n
  have w2 := within_ok (H.add (.rows false 3 [[.int .i64 m, .int .i64 s, .int .i64 r]])) s 1 64 lf n
  have w3 := within_ok (H.add (.rows false 3 [[.int .i64 m, .int .i64 s, .int .i64 r]])) r 40 256 lf n
  refine ret_call rfl c69_eq ?_
  unfold may
  generalize inn m 3 16 = b1 at *
  generalize inn s 1 64 = b2 at *
  generalize inn r 40 256 = b3 at *
  cases b1 <;> cases b2 <;> (simp only [c69, geo, w1, w2, w3, l0, l1, l2, sy, tup, ↓reduceIte, Nat.reduceEqDiff, Nat.reduceAdd, Nat.reduceSub, Nat.reduceMul, Nat.reduceLeDiff, Int.reduceBEq, reduceCtorEq]; simp; exact t1)
theorem rmay_ok (H : Heap) (m s r : Int) (lf n : Nat) : ret (callS Tryz.prog S0 lf (n + 1) 140 [geo m s r] H) fun v H' => v = .bool (may m s r) ∧ Turns Z H H' := by
  have t1 := Turns.add Z H (.rows false 3 [[.int .i64 m, .int .i64 s, .int .i64 r]])
  have hg : (H.add (.rows false 3 [[.int .i64 m, .int .i64 s, .int .i64 r]])).get (.run H.next) = some (.rows false 3 [[.int .i64 m, .int .i64 s, .int .i64 r]]) := by rw [Heap.get_add, if_pos rfl]
  have l0 : loadAt (H.add (.rows false 3 [[.int .i64 m, .int .i64 s, .int .i64 r]])) ⟨.run H.next, 0⟩ 1 = some [.int .i64 m] := by rw [loadAt_eq hg rfl]; rfl
  have l1 : loadAt (H.add (.rows false 3 [[.int .i64 m, .int .i64 s, .int .i64 r]])) ⟨.run H.next, 1⟩ 1 = some [.int .i64 s] := by rw [loadAt_eq hg rfl]; rfl
  have l2 : loadAt (H.add (.rows false 3 [[.int .i64 m, .int .i64 s, .int .i64 r]])) ⟨.run H.next, 2⟩ 1 = some [.int .i64 r] := by rw [loadAt_eq hg rfl]; rfl
  refine ret_call rfl c140_eq ?_
  unfold may inn
  by_cases h1 : 3 ≤ m
  · by_cases h2 : m ≤ 16
    · by_cases h3 : 1 ≤ s
      · by_cases h4 : s ≤ 64
        · by_cases h5 : 40 ≤ r
          · simp only [c140, geo, h1, h2, h3, h4, h5, l0, l1, l2, sy, tup, ↓reduceIte, Nat.reduceEqDiff, Nat.reduceAdd, Nat.reduceSub, Nat.reduceMul, Nat.reduceLeDiff, Int.reduceBEq, reduceCtorEq]; simp; exact t1
          · simp only [c140, geo, h1, h2, h3, h4, h5, l0, l1, l2, sy, tup, ↓reduceIte, Nat.reduceEqDiff, Nat.reduceAdd, Nat.reduceSub, Nat.reduceMul, Nat.reduceLeDiff, Int.reduceBEq, reduceCtorEq]; simp; exact t1
        · simp only [c140, geo, h1, h2, h3, h4, l0, l1, l2, sy, tup, ↓reduceIte, Nat.reduceEqDiff, Nat.reduceAdd, Nat.reduceSub, Nat.reduceMul, Nat.reduceLeDiff, Int.reduceBEq, reduceCtorEq]; simp; exact t1
      · simp only [c140, geo, h1, h2, h3, l0, l1, l2, sy, tup, ↓reduceIte, Nat.reduceEqDiff, Nat.reduceAdd, Nat.reduceSub, Nat.reduceMul, Nat.reduceLeDiff, Int.reduceBEq, reduceCtorEq]; simp; exact t1
    · simp only [c140, geo, h1, h2, l0, l1, l2, sy, tup, ↓reduceIte, Nat.reduceEqDiff, Nat.reduceAdd, Nat.reduceSub, Nat.reduceMul, Nat.reduceLeDiff, Int.reduceBEq, reduceCtorEq]; simp; exact t1
  · simp only [c140, geo, h1, l0, l1, l2, sy, tup, ↓reduceIte, Nat.reduceEqDiff, Nat.reduceAdd, Nat.reduceSub, Nat.reduceMul, Nat.reduceLeDiff, Int.reduceBEq, reduceCtorEq]; simp; exact t1
def blocks (m s r : Int) : Int := if may m s r = true then s * (m - 1) else 0
end Go.Proofs.YtejgheoandfikaaGreat.draft
set_option linter.unusedVariables false
set_option linter.unusedSimpArgs false
set_option maxRecDepth 10000
namespace Go.Proofs.YtejgheoandfikaaGreat.draft
open Go.Am
noncomputable def c171_l0 : C := .seq (.reg [
 qo 11 (.p (arF .lss (tt 10) (ii 16))) [pp 10]]) (
 .seq (.cond (tt 11) (.skip) (.exit 0)) (
 .seq (.block 1 (.seq (.reg [
 qo 12 (.p (idxAF (tt 9) (tt 10) 16 1 .sc)) [pp 9, pp 10],
 mv 7 12]) (
 .seq (.reg [
 mv 13 7,
 mv 14 1,
 qo 15 (.p (eqcF false false [.int .u8] (tt 13) (tt 14))) [pp 13, pp 14]]) (
 .cond (tt 15) (.reg [
 mv 16 5,
 qo 17 (.p (arF .add (tt 16) (ii 1))) [pp 16],
 mv 5 17]) (.skip))))) (
 .reg [
 qo 18 (.p (arF .add (tt 10) (ii 1))) [pp 10],
 mv 10 18])))
noncomputable def c171 : CFn := ⟨[.tmp (pp 4)],
 .seq (.reg [
 qo 2 (.m (boxF 21 (tt 0))) [pp 0],
 qo 4 (.p (S.get (ii 0))) []]) (
 .seq (.reg [
 qo 5 (.p (S.get (ii 0))) []]) (
 .seq (.seq (.reg [
 qo 8 (.p (faddrF (tt 2) 3)) [pp 2],
 qo 9 (.r (loadF (tt 8) 16 .ag)) [pp 8],
 qo 10 (.p (S.get (ii 0))) []]) (
 .block 0 (.loop c171_l0))) (
 .seq (.reg [
 mv 19 5,
 mv 4 19]) (
 .ret))))⟩
theorem c171_eq : fnOf Tryz.prog 171 = some c171 := by kernel_rfl
noncomputable def c118_l0 : C := .seq (.reg [
 qo 30 (.p (arF .lss (tt 29) (tt 28))) [pp 29, pp 28]]) (
 .seq (.cond (tt 30) (.skip) (.exit 0)) (
 .seq (.block 1 (.seq (.reg [
 qo 31 (.p (iaddrSF (tt 27) (tt 29) 1)) [pp 27, pp 29],
 qo 32 (.r (loadF (tt 31) 1 .sc)) [pp 31],
 mv 4 32]) (
 .seq (.reg [
 mv 33 4,
 qo 34 (.p (eqcF true false [.int .u8] (tt 33) (.c (.int .u8 0)))) [pp 33]]) (
 .cond (tt 34) (.seq (.reg [
 qo 2 (.p (S.get (.c (.bool false)))) []]) (
 .ret)) (.skip))))) (
 .reg [
 qo 35 (.p (arF .add (tt 29) (ii 1))) [pp 29],
 mv 29 35])))
noncomputable def c118 : CFn := ⟨[.tmp (pp 2)],
 .seq (.reg [
 qo 1 (.m (boxF 21 (tt 0))) [pp 0],
 qo 2 (.p (S.get (.c (.bool false)))) []]) (
 .seq (.seq (.reg [
 qo 6 (.p (faddrF (tt 1) 0)) [pp 1],
 qo 7 (.r (loadF (tt 6) 3 .ag)) [pp 6],
 qo 8 (.c (callF (ff 69) [(tt 7)])) [pp 7],
 qo 9 (.p (unF .not (tt 8))) [pp 8],
 mv 10 9,
 qg 11 (.p (faddrF (tt 1) 19)) 10 false [pp 1],
 qg 12 (.r (loadF (tt 11) 1 .sc)) 10 false [pp 11],
 qg 13 (.p (arF .lss (tt 12) (ii 0))) 10 false [pp 12],
 qo 14 (.p (pickF (tt 10) (.c (.bool true)) (tt 13))) [pp 10, pp 13],
 mv 15 14,
 qg 16 (.p (faddrF (tt 1) 19)) 15 false [pp 1],
 qg 17 (.r (loadF (tt 16) 1 .sc)) 15 false [pp 16],
 qg 18 (.p (faddrF (tt 1) 0)) 15 false [pp 1],
 qg 19 (.p (faddrF (tt 18) 1)) 15 false [pp 18],
 qg 20 (.r (loadF (tt 19) 1 .sc)) 15 false [pp 19],
 qg 21 (.p (arF .geq (tt 17) (tt 20))) 15 false [pp 17, pp 20],
 qo 22 (.p (pickF (tt 15) (.c (.bool true)) (tt 21))) [pp 15, pp 21]]) (
 .cond (tt 22) (.seq (.reg [
 qo 2 (.p (S.get (.c (.bool false)))) []]) (
 .ret)) (.skip))) (
 .seq (.seq (.reg [
 qo 23 (.p (faddrF (tt 1) 3)) [pp 1],
 qo 24 (.p (faddrF (tt 1) 0)) [pp 1],
 qo 25 (.p (faddrF (tt 24) 0)) [pp 24],
 qo 26 (.r (loadF (tt 25) 1 .sc)) [pp 25],
 qo 27 (.p (sliceAF 16 1 (tt 23) (some (tt 26)) none none)) [pp 23, pp 26],
 qo 28 (.p (lenF (tt 27))) [pp 27],
 qo 29 (.p (S.get (ii 0))) []]) (
 .block 0 (.loop c118_l0))) (
 .seq (.reg [
 qo 36 (.r (loadF (tt 1) 21 .ag)) [pp 1],
 qo 37 (.c (callF (ff 171) [(tt 36), (.c (.int .u8 2))])) [pp 36],
 mv 5 37]) (
 .seq (.regD [
 qo 38 (.r (loadF (tt 1) 21 .ag)) [pp 1],
 qo 39 (.c (callF (ff 171) [(tt 38), (.c (.int .u8 0))])) [pp 38],
 qo 40 (.r (loadF (tt 1) 21 .ag)) [pp 1],
 qo 41 (.c (callF (ff 171) [(tt 40), (.c (.int .u8 1))])) [pp 40],
 qo 42 (.p (arF .add (tt 39) (tt 41))) [pp 39, pp 41],
 mv 43 5,
 qo 44 (.p (arF .add (tt 42) (tt 43))) [pp 42, pp 43],
 qo 45 (.p (eqcF false false [.int .i64] (tt 44) (ii 16))) [pp 44],
 mv 46 45,
 mg 47 5 46 true,
 qg 48 (.p (eqcF false false [.int .i64] (tt 47) (ii 1))) 46 true [pp 47],
 mg 49 48 46 true,
 mg 50 5 49 false,
 qg 51 (.p (eqcF false false [.int .i64] (tt 50) (ii 0))) 49 false [pp 50],
 mg 52 51 49 false,
 qg 53 (.p (faddrF (tt 1) 19)) 52 true [pp 1],
 qg 54 (.r (loadF (tt 53) 1 .sc)) 52 true [pp 53],
 qg 55 (.p (eqcF false false [.int .i64] (tt 54) (ii 0))) 52 true [pp 54],
 qg 56 (.p (pickF (tt 52) (tt 55) (.c (.bool false)))) 49 false [pp 52, pp 55],
 qg 57 (.p (pickF (tt 49) (.c (.bool true)) (tt 56))) 46 true [pp 49, pp 56],
 qo 58 (.p (pickF (tt 46) (tt 57) (.c (.bool false)))) [pp 46, pp 57],
 mv 2 58] [0, 1, 0, 7, 15, 0, 63, 127, 255, 511, 1023, 2047, 4095, 8191, 16383, 32767, 65535, 131071, 262143, 524287, 1048575, 2097151]) (
 .ret)))))⟩
theorem c118_eq : fnOf Tryz.prog 118 = some c118 := by kernel_rfl
noncomputable def c117_l0 : C := .seq (.seq (.reg [
 mv 9 4,
 qo 10 (.p (arF .lss (tt 9) (ii 16))) [pp 9]]) (
 .cond (tt 10) (.skip) (.exit 0))) (
 .seq (.block 1 (.seq (.seq (.reg [
 mv 13 4,
 qo 14 (.p (faddrF (tt 1) 3)) [pp 1],
 qo 15 (.p (iaddrAF (tt 14) (tt 13) 16 1)) [pp 14, pp 13],
 qo 16 (.r (loadF (tt 15) 1 .sc)) [pp 15],
 qo 17 (.p (arF .gtr (tt 16) (.c (.int .u8 2)))) [pp 16],
 mv 18 17,
 mg 19 4 18 false,
 qg 20 (.p (faddrF (tt 1) 0)) 18 false [pp 1],
 qg 21 (.p (faddrF (tt 20) 0)) 18 false [pp 20],
 qg 22 (.r (loadF (tt 21) 1 .sc)) 18 false [pp 21],
 qg 23 (.p (arF .geq (tt 19) (tt 22))) 18 false [pp 19, pp 22],
 mg 24 23 18 false,
 mg 25 4 24 true,
 qg 26 (.p (faddrF (tt 1) 3)) 24 true [pp 1],
 qg 27 (.p (iaddrAF (tt 26) (tt 25) 16 1)) 24 true [pp 26, pp 25],
 qg 28 (.r (loadF (tt 27) 1 .sc)) 24 true [pp 27],
 qg 29 (.p (eqcF true false [.int .u8] (tt 28) (.c (.int .u8 0)))) 24 true [pp 28],
 qg 30 (.p (pickF (tt 24) (tt 29) (.c (.bool false)))) 18 false [pp 24, pp 29],
 qo 31 (.p (pickF (tt 18) (.c (.bool true)) (tt 30))) [pp 18, pp 30]]) (
 .cond (tt 31) (.seq (.reg [
 qo 2 (.p (S.get (.c (.bool false)))) []]) (
 .ret)) (.skip))) (
 .seq (.reg [
 mv 32 4,
 qo 33 (.p (faddrF (tt 1) 3)) [pp 1],
 qo 34 (.p (iaddrAF (tt 33) (tt 32) 16 1)) [pp 33, pp 32],
 qo 35 (.r (loadF (tt 34) 1 .sc)) [pp 34],
 qo 36 (.p (eqcF false false [.int .u8] (tt 35) (.c (.int .u8 2)))) [pp 35]]) (
 .cond (tt 36) (.reg [
 mv 37 3,
 qo 38 (.p (arF .add (tt 37) (ii 1))) [pp 37],
 mv 3 38]) (.skip))))) (
 .reg [
 mv 11 4,
 qo 12 (.p (arF .add (tt 11) (ii 1))) [pp 11],
 mv 4 12]))
noncomputable def c117 : CFn := ⟨[.tmp (pp 2)],
 .seq (.reg [
 qo 1 (.m (boxF 21 (tt 0))) [pp 0],
 qo 2 (.p (S.get (.c (.bool false)))) []]) (
 .seq (.seq (.reg [
 qo 5 (.p (faddrF (tt 1) 0)) [pp 1],
 qo 6 (.r (loadF (tt 5) 3 .ag)) [pp 5],
 qo 7 (.c (callF (ff 140) [(tt 6)])) [pp 6],
 qo 8 (.p (unF .not (tt 7))) [pp 7]]) (
 .cond (tt 8) (.seq (.reg [
 qo 2 (.p (S.get (.c (.bool false)))) []]) (
 .ret)) (.skip))) (
 .seq (.reg [
 qo 3 (.p (S.get (ii 0))) []]) (
 .seq (.seq (.reg [
 qo 4 (.p (S.get (ii 0))) []]) (
 .block 0 (.loop c117_l0))) (
 .seq (.reg [
 mv 39 3,
 qo 40 (.p (arF .leq (tt 39) (ii 1))) [pp 39],
 mv 41 40,
 qg 42 (.p (faddrF (tt 1) 19)) 41 true [pp 1],
 qg 43 (.r (loadF (tt 42) 1 .sc)) 41 true [pp 42],
 qg 44 (.p (arF .geq (tt 43) (ii 0))) 41 true [pp 43],
 qo 45 (.p (pickF (tt 41) (tt 44) (.c (.bool false)))) [pp 41, pp 44],
 mv 46 45,
 qg 47 (.p (faddrF (tt 1) 19)) 46 true [pp 1],
 qg 48 (.r (loadF (tt 47) 1 .sc)) 46 true [pp 47],
 qg 49 (.p (faddrF (tt 1) 0)) 46 true [pp 1],
 qg 50 (.p (faddrF (tt 49) 1)) 46 true [pp 49],
 qg 51 (.r (loadF (tt 50) 1 .sc)) 46 true [pp 50],
 qg 52 (.p (arF .lss (tt 48) (tt 51))) 46 true [pp 48, pp 51],
 qo 53 (.p (pickF (tt 46) (tt 52) (.c (.bool false)))) [pp 46, pp 52],
 mv 54 53,
 mg 55 3 54 true,
 qg 56 (.p (eqcF false false [.int .i64] (tt 55) (ii 1))) 54 true [pp 55],
 mg 57 56 54 true,
 qg 58 (.p (faddrF (tt 1) 19)) 57 false [pp 1],
 qg 59 (.r (loadF (tt 58) 1 .sc)) 57 false [pp 58],
 qg 60 (.p (eqcF false false [.int .i64] (tt 59) (ii 0))) 57 false [pp 59],
 qg 61 (.p (pickF (tt 57) (.c (.bool true)) (tt 60))) 54 true [pp 57, pp 60],
 qo 62 (.p (pickF (tt 54) (tt 61) (.c (.bool false)))) [pp 54, pp 61],
 mv 2 62]) (
 .ret)))))⟩
theorem c117_eq : fnOf Tryz.prog 117 = some c117 := by kernel_rfl
noncomputable def c138 : CFn := ⟨[.tmp (pp 2)],
 .seq (.reg [
 qo 1 (.m (boxF 21 (tt 0))) [pp 0],
 qo 2 (.p (S.get (.c (.bool false)))) []]) (
 .seq (.reg [
 qo 3 (.r (loadF (tt 1) 21 .ag)) [pp 1],
 qo 4 (.c (callF (ff 117) [(tt 3)])) [pp 3],
 mv 2 4]) (
 .ret))⟩
theorem c138_eq : fnOf Tryz.prog 138 = some c138 := by kernel_rfl
def Thin (cs : List V) : Prop := ∀ v ∈ cs, v.asBlk = none
theorem width_thin : ∀ {cs : List V}, Thin cs → width cs = cs.length
  | [], _ => rfl
  | c :: cs, h => by
    have h1 : c.asBlk = none := h c (List.mem_cons_self ..)
    unfold width V.w
    rw [h1, width_thin (fun v hv => h v (List.mem_cons_of_mem _ hv))]
    show 1 + cs.length = _
    rw [List.length_cons, Nat.add_comm]
theorem cut_thin : ∀ {cs : List V} {o n : Nat}, Thin cs → o + n ≤ cs.length → cut cs o n = some ((cs.drop o).take n)
  | [], o, n, _, h => by
    have : n = 0 := by simp at h; omega
    subst this
    simp [cut]
  | c :: cs, o, n, h, hl => by
    have h1 : c.asBlk = none := h c (List.mem_cons_self ..)
    have h2 : Thin cs := fun v hv => h v (List.mem_cons_of_mem _ hv)
    rw [List.length_cons] at hl
    unfold cut
    cases n with
    | zero => simp
    | succ n =>
      have e0 : Nat.beq (n + 1) 0 = false := rfl
      simp only [e0, h1]
      cases o with
      | zero =>
        simp only [show Nat.beq 0 0 = true from rfl]
        have := cut_thin (o := 0) (n := n) h2 (by omega)
        rw [show Nat.sub (n + 1) 1 = n from rfl, this]
        simp
      | succ o =>
        simp only [show Nat.beq (o + 1) 0 = false from rfl]
        have := cut_thin (o := o) (n := n + 1) h2 (by omega)
        rw [show Nat.sub (o + 1) 1 = o from rfl, this]
        simp
def sts (S : List Nat) : List V := S.map fun x : Nat => V.int .u8 (x : Int)
def rcells (m s r : Int) (S : List Nat) (c : Int) (g : Bool) : List V := [.int .i64 m, .int .i64 s, .int .i64 r] ++ (sts S ++ [.int .i64 c, .bool g])
def ros (m s r : Int) (S : List Nat) (c : Int) (g : Bool) : V := .agg (rcells m s r S c g)
theorem sts_len (S : List Nat) : (sts S).length = S.length := List.length_map ..
theorem sts_thin (S : List Nat) : Thin (sts S) := fun v hv => by
  obtain ⟨x, _, rfl⟩ := List.mem_map.1 hv
  rfl
theorem r_thin (m s r : Int) (S : List Nat) (c : Int) (g : Bool) : Thin (rcells m s r S c g) := by
  intro v hv
  unfold rcells at hv
  rcases List.mem_append.1 hv with h | h
  · simp at h; rcases h with rfl | rfl | rfl <;> rfl
  · rcases List.mem_append.1 h with h | h
    · exact sts_thin S v h
    · simp at h; rcases h with rfl | rfl <;> rfl
theorem r_len {S : List Nat} (hS : S.length = 16) (m s r c : Int) (g : Bool) : (rcells m s r S c g).length = 21 := by
  unfold rcells
  simp [sts_len, hS]
structure RosAt (H : Heap) (b : Bk) (m s r : Int) (S : List Nat) (c : Int) (g : Bool) : Prop where
  own : H.get b = some (.rows false 21 [rcells m s r S c g])
  len : S.length = 16
section
variable {H : Heap} {b : Bk} {m s r : Int} {S : List Nat} {c : Int} {g : Bool} (h : RosAt H b m s r S c g)
include h
theorem ros_cut {o n : Nat} (hn : o + n ≤ 21) (ho : o < 21) : loadAt H ⟨b, o⟩ n = some (((rcells m s r S c g).drop o).take n) := by
  rw [loadAt_eq h.own (r := rcells m s r S c g) (nth_of (by rw [Nat.div_eq_of_lt ho]; rfl)), Nat.mod_eq_of_lt ho]
  exact cut_thin (r_thin m s r S c g) (by rw [r_len h.len]; exact hn)
theorem ros_all : loadAt H ⟨b, 0⟩ 21 = some (rcells m s r S c g) := by
  rw [ros_cut h (by omega) (by omega), List.drop_zero, List.take_of_length_le (by rw [r_len h.len]; omega)]
theorem ros_geo : loadAt H ⟨b, 0⟩ 3 = some [.int .i64 m, .int .i64 s, .int .i64 r] := by rw [ros_cut h (by omega) (by omega)]; rfl
theorem ros_m : loadAt H ⟨b, 0⟩ 1 = some [.int .i64 m] := by rw [ros_cut h (by omega) (by omega)]; rfl
theorem ros_s : loadAt H ⟨b, 1⟩ 1 = some [.int .i64 s] := by rw [ros_cut h (by omega) (by omega)]; rfl
theorem ros_sts : loadAt H ⟨b, 3⟩ 16 = some (sts S) := by
  rw [ros_cut h (by omega) (by omega)]
  unfold rcells
  show some (List.take 16 (sts S ++ _)) = _
  rw [List.take_append_of_le_length (by rw [sts_len, h.len]; omega), List.take_of_length_le (by rw [sts_len, h.len]; omega)]
theorem ros_st {i : Nat} (hi : i < 16) : loadAt H ⟨b, 3 + i * 1⟩ 1 = some [.int .u8 ((S[i]'(by rw [h.len]; exact hi) : Nat) : Int)] := by
  have hi' : i < S.length := by rw [h.len]; exact hi
  rw [ros_cut h (by omega) (by omega)]
  unfold rcells
  rw [show 3 + i * 1 = [V.int .i64 m, .int .i64 s, .int .i64 r].length + i from by simp, List.drop_length_add_append, List.drop_append_of_le_length (by rw [sts_len]; omega)]
  unfold sts
  rw [← List.map_drop, List.drop_eq_getElem_cons hi']
  rfl
theorem ros_c : loadAt H ⟨b, 19⟩ 1 = some [.int .i64 c] := by
  rw [ros_cut h (by omega) (by omega)]
  unfold rcells
  have e : 19 = [V.int .i64 m, .int .i64 s, .int .i64 r].length + ((sts S).length + 0) := by rw [sts_len, h.len]; rfl
  rw [e, List.drop_length_add_append, List.drop_length_add_append]
  rfl
end
end Go.Proofs.YtejgheoandfikaaGreat.draft
set_option linter.unusedVariables false
set_option linter.unusedSimpArgs false
set_option maxRecDepth 10000
namespace Go.Proofs.YtejgheoandfikaaGreat.draft
open Go.Am
theorem r_width {S : List Nat} (hS : S.length = 16) (m s r c : Int) (g : Bool) : width (rcells m s r S c g) = 21 := by rw [width_thin (r_thin m s r S c g), r_len hS]
theorem sts_cut {S : List Nat} {i : Nat} (hi : i < S.length) : cut (sts S) (i * 1) 1 = some [.int .u8 ((S[i] : Nat) : Int)] := by
  rw [cut_thin (sts_thin S) (by rw [sts_len]; omega)]
  unfold sts
  rw [← List.map_drop, Nat.mul_one, List.drop_eq_getElem_cons hi]
  rfl
def cnt (S : List Nat) (x : Nat) : Nat := (S.filter fun y => decide (y = x)).length
theorem cnt_take {S : List Nat} {x i : Nat} (hi : i < S.length) : cnt (S.take (i + 1)) x = cnt (S.take i) x + if S[i] = x then 1 else 0 := by
  unfold cnt
  rw [List.take_add_one, List.getElem?_eq_getElem hi, List.filter_append, List.length_append]
  by_cases e : S[i] = x
  · simp [e]
  · simp [e]
theorem cnt_le (S : List Nat) (x : Nat) : cnt S x ≤ S.length := List.length_filter_le ..
theorem count_ok (H : Heap) {m s r c : Int} {g : Bool} {S : List Nat} (hS : S.length = 16) (x : Nat) (lf n : Nat) (hlf : 17 < lf) : ret (callS Tryz.prog S0 lf (n + 1) 171 [ros m s r S c g, .int .u8 (x : Int)] H) fun v H' => v = .int .i64 (cnt S x : Int) ∧ Turns Z H H' := by
  have t1 := Turns.add Z H (.rows false 21 [rcells m s r S c g])
  have hg : (H.add (.rows false 21 [rcells m s r S c g])).get (.run H.next) = some (.rows false 21 [rcells m s r S c g]) := by rw [Heap.get_add, if_pos rfl]
  have hr : RosAt (H.add (.rows false 21 [rcells m s r S c g])) (.run H.next) m s r S c g := ⟨hg, hS⟩
  have l1 := ros_sts hr
  have hw := r_width hS m s r c g
  refine ret_call rfl c171_eq ?_
  simp only [c171, ros, hw, l1, sy, tup, ↓reduceIte, Nat.reduceEqDiff, Nat.reduceAdd, Nat.reduceSub, Nat.reduceMul, Nat.reduceLeDiff, Int.reduceBEq, reduceCtorEq]
  have hloop : ∀ t : T, t.getP (Tr.path 1) = some (.int .u8 (x : Int)) → t.getP (Tr.path 5) = some (.int .i64 0) → t.getP (Tr.path 9) = some (.agg (sts S)) → t.getP (Tr.path 10) = some (.int .i64 0) →
      wp (loopF (runC (callS Tryz.prog S0 lf n) lf c171_l0) lf ⟨t, H.add (.rows false 21 [rcells m s r S c g]), []⟩) fun x' s' => x' = .ex 0 ∧ s'.d = [] ∧ s'.H = H.add (.rows false 21 [rcells m s r S c g]) ∧ s'.t.getP (Tr.path 5) = some (.int .i64 (cnt S x : Int)) := by
    intro t q1 q5 q9 q10
    refine wp_loopF (fun j s' => ∃ i : Nat, j = 16 - i ∧ i ≤ 16 ∧ s'.d = [] ∧ s'.H = H.add (.rows false 21 [rcells m s r S c g]) ∧ s'.t.getP (Tr.path 1) = some (.int .u8 (x : Int)) ∧ s'.t.getP (Tr.path 5) = some (.int .i64 (cnt (S.take i) x : Int)) ∧ s'.t.getP (Tr.path 9) = some (.agg (sts S)) ∧ s'.t.getP (Tr.path 10) = some (.int .i64 (i : Int))) ?_ lf 16 _ ⟨0, rfl, by omega, rfl, rfl, q1, q5, q9, q10⟩ (by omega)
    rintro j ⟨t, HH, d⟩ ⟨i, rfl, hi, hd, hH, q1, q5, q9, q10⟩
    dsimp only at hd hH q1 q5 q9 q10
    subst hd; subst hH
    by_cases hlt : i < 16
    · have hlt' : (i : Int) < 16 := by omega
      have hle' : i + 1 ≤ 16 := hlt
      have hiS : i < S.length := by omega
      have hc := sts_cut hiS
      have hn := cnt_le (S.take i) x
      rw [List.length_take] at hn
      have w1 : IntKind.i64.wrap ((i : Int) + 1) = ((i + 1 : Nat) : Int) := by rw [wrap_i64 (by omega)]; omega
      have w2 : IntKind.i64.wrap ((cnt (S.take i) x : Int) + 1) = ((cnt (S.take i) x + 1 : Nat) : Int) := by rw [wrap_i64 (by omega)]; omega
      have hk := cnt_take (x := x) hiS
      by_cases e : S[i] = x
      · rw [if_pos e] at hk
        have hb : (((S[i] : Nat) : Int) == (x : Int)) = true := by simp [e]
        simp only [c171_l0, q1, q5, q9, q10, hlt', hle', hc, hb, w1, w2, sy, tup, ↓reduceIte, Nat.reduceEqDiff, Nat.reduceAdd, Nat.reduceSub, Nat.reduceMul, Nat.reduceLeDiff, Int.reduceBEq, reduceCtorEq]
        exact ⟨16 - (i + 1), by omega, i + 1, rfl, by omega, trivial, trivial, by simp [q1], by simp [hk], by simp [q9], by simp⟩
      · rw [if_neg e, Nat.add_zero] at hk
        have hb : (((S[i] : Nat) : Int) == (x : Int)) = false := by simp; omega
        simp only [c171_l0, q1, q5, q9, q10, hlt', hle', hc, hb, w1, w2, sy, tup, ↓reduceIte, Nat.reduceEqDiff, Nat.reduceAdd, Nat.reduceSub, Nat.reduceMul, Nat.reduceLeDiff, Int.reduceBEq, reduceCtorEq]
        exact ⟨16 - (i + 1), by omega, i + 1, rfl, by omega, trivial, trivial, by simp [q1], by simp [q5, hk], by simp [q9], by simp⟩
    · have : i = 16 := by omega
      subst this
      have hnl : decide (((16 : Nat) : Int) < 16) = false := rfl
      rw [List.take_of_length_le (by omega)] at q5
      simp only [c171_l0, q1, q5, q9, q10, hnl, sy, tup, ↓reduceIte, Nat.reduceEqDiff, Nat.reduceAdd, Nat.reduceSub, Nat.reduceMul, Nat.reduceLeDiff, Int.reduceBEq, reduceCtorEq]
      exact ⟨trivial, trivial, trivial, by first | trivial | exact q5⟩
  refine wp_ctx (F := fun r => seqC _ _ _ (blockC _ r)) (hloop _ ?_ ?_ ?_ ?_) ?_
  · simp only [sy, tup, ↓reduceIte, Nat.reduceEqDiff, Nat.reduceAdd, Nat.reduceSub, Nat.reduceMul, Nat.reduceLeDiff, Int.reduceBEq, reduceCtorEq]
  · simp only [sy, tup, ↓reduceIte, Nat.reduceEqDiff, Nat.reduceAdd, Nat.reduceSub, Nat.reduceMul, Nat.reduceLeDiff, Int.reduceBEq, reduceCtorEq]
  · simp only [sy, tup, ↓reduceIte, Nat.reduceEqDiff, Nat.reduceAdd, Nat.reduceSub, Nat.reduceMul, Nat.reduceLeDiff, Int.reduceBEq, reduceCtorEq]
  · simp only [sy, tup, ↓reduceIte, Nat.reduceEqDiff, Nat.reduceAdd, Nat.reduceSub, Nat.reduceMul, Nat.reduceLeDiff, Int.reduceBEq, reduceCtorEq]
  rintro x' ⟨t, HH, d⟩ ⟨rfl, hd, hH, q5⟩
  dsimp only at hd hH q5
  subst hd; subst hH
  simp only [q5, sy, tup, ↓reduceIte, Nat.reduceEqDiff, Nat.reduceAdd, Nat.reduceSub, Nat.reduceMul, Nat.reduceLeDiff, Int.reduceBEq, reduceCtorEq]
  exact ⟨trivial, .inr trivial, _, rfl, rfl, t1⟩
def okTo (m : Int) (S : List Nat) (i : Nat) : Prop := ∀ j, (hj : j < i) → ∀ x, S[j]? = some x → x ≤ 2 ∧ (m ≤ (j : Int) → x = 0)
def fine (m s r : Int) (S : List Nat) (c : Int) : Prop := may m s r = true ∧ okTo m S 16 ∧ cnt S 2 ≤ 1 ∧ 0 ≤ c ∧ c < s ∧ (cnt S 2 = 1 ∨ c = 0)
end Go.Proofs.YtejgheoandfikaaGreat.draft
set_option linter.unusedVariables false
set_option linter.unusedSimpArgs false
set_option maxRecDepth 10000
namespace Go.Proofs.YtejgheoandfikaaGreat.draft
open Go.Am
theorem okTo_succ {m : Int} {S : List Nat} {i x : Nat} (h : okTo m S i) (hx : S[i]? = some x) (h2 : x ≤ 2 ∧ (m ≤ (i : Int) → x = 0)) : okTo m S (i + 1) := by
  intro j hj y hy
  by_cases e : j = i
  · subst e
    rw [hx] at hy
    cases hy
    exact h2
  · exact h j (by omega) y hy
theorem fine_ok (H : Heap) {m s r c : Int} {g : Bool} {S : List Nat} (hS : S.length = 16) (lf n : Nat) (hlf : 17 < lf) : ret (callS Tryz.prog S0 lf (n + 2) 117 [ros m s r S c g] H) fun v H' => (∃ z : Bool, v = .bool z ∧ (z = true ↔ fine m s r S c)) ∧ Turns Z H H' := by
  have t1 := Turns.add Z H (.rows false 21 [rcells m s r S c g])
  have hg : (H.add (.rows false 21 [rcells m s r S c g])).get (.run H.next) = some (.rows false 21 [rcells m s r S c g]) := by rw [Heap.get_add, if_pos rfl]
  have og : (H.add (.rows false 21 [rcells m s r S c g])).Old (.run H.next) := by show _ < _; simp
  have hr : ∀ {H' : Heap}, Turns Z (H.add (.rows false 21 [rcells m s r S c g])) H' → RosAt H' (.run H.next) m s r S c g := fun t => ⟨(t.same _ og id).trans hg, hS⟩
  have lg := ros_geo (hr (Turns.refl Z _))
  have hw := r_width hS m s r c g
  generalize hH1 : H.add (.rows false 21 [rcells m s r S c g]) = H1 at *
  obtain ⟨v, H2, e2, rfl, t2⟩ := rmay_ok H1 m s r lf n
  unfold geo at e2
  refine ret_call rfl c117_eq ?_
  cases hm : may m s r with
  | false =>
    rw [hm] at e2
    simp only [c117, ros, hw, hH1, lg, e2, sy, tup, ↓reduceIte, Nat.reduceEqDiff, Nat.reduceAdd, Nat.reduceSub, Nat.reduceMul, Nat.reduceLeDiff, Int.reduceBEq, reduceCtorEq]
    exact ⟨trivial, .inr trivial, _, rfl, ⟨false, rfl, by unfold fine; rw [hm]; simp⟩, t1.trans t2⟩
  | true =>
    rw [hm] at e2
    simp only [c117, ros, hw, hH1, lg, e2, sy, tup, ↓reduceIte, Nat.reduceEqDiff, Nat.reduceAdd, Nat.reduceSub, Nat.reduceMul, Nat.reduceLeDiff, Int.reduceBEq, reduceCtorEq]
    have hr2 := hr t2
    have l0 := ros_m hr2
    have hloop : ∀ t : T, t.getP (Tr.path 1) = some (.ptr (some ⟨.run H.next, 0⟩)) → t.getP (Tr.path 3) = some (.int .i64 0) → t.getP (Tr.path 4) = some (.int .i64 0) →
        wp (loopF (runC (callS Tryz.prog S0 lf (n + 1)) lf c117_l0) lf ⟨t, H2, []⟩) fun x' s' => s'.d = [] ∧ s'.H = H2 ∧ ((x' = .ex 0 ∧ okTo m S 16 ∧ s'.t.getP (Tr.path 1) = some (.ptr (some ⟨.run H.next, 0⟩)) ∧ s'.t.getP (Tr.path 3) = some (.int .i64 (cnt S 2 : Int))) ∨
          (x' = .ret ∧ ¬ okTo m S 16 ∧ s'.t.getP (Tr.path 2) = some (.bool false))) := by
      intro t q1 q3 q4
      refine wp_loopF (fun j s' => ∃ i : Nat, j = 16 - i ∧ i ≤ 16 ∧ s'.d = [] ∧ s'.H = H2 ∧ okTo m S i ∧ s'.t.getP (Tr.path 1) = some (.ptr (some ⟨.run H.next, 0⟩)) ∧ s'.t.getP (Tr.path 3) = some (.int .i64 (cnt (S.take i) 2 : Int)) ∧ s'.t.getP (Tr.path 4) = some (.int .i64 (i : Int))) ?_ lf 16 _ ⟨0, rfl, by omega, rfl, rfl, fun j hj => absurd hj (by omega), q1, q3, q4⟩ (by omega)
      rintro j ⟨t, HH, d⟩ ⟨i, rfl, hi, hd, hH, hok, q1, q3, q4⟩
      dsimp only at hd hH q1 q3 q4
      subst hd; subst hH
      by_cases hlt : i < 16
      · have hlt' : (i : Int) < 16 := by omega
        have hle' : i + 1 ≤ 16 := hlt
        have hiS : i < S.length := by omega
        have hget : S[i]? = some S[i] := List.getElem?_eq_getElem hiS
        have lx := ros_st hr2 hlt
        have hn := cnt_le (S.take i) 2
        rw [List.length_take] at hn
        have w1 : IntKind.i64.wrap ((i : Int) + 1) = ((i + 1 : Nat) : Int) := by rw [wrap_i64 (by omega)]; omega
        have w2 : IntKind.i64.wrap ((cnt (S.take i) 2 : Int) + 1) = ((cnt (S.take i) 2 + 1 : Nat) : Int) := by rw [wrap_i64 (by omega)]; omega
        have hk := cnt_take (x := 2) hiS
        by_cases h2 : 2 < S[i]
        · have h2' : (2 : Int) < ((S[i] : Nat) : Int) := by omega
          simp only [c117_l0, q1, q3, q4, hlt', hle', lx, h2', sy, tup, ↓reduceIte, Nat.reduceEqDiff, Nat.reduceAdd, Nat.reduceSub, Nat.reduceMul, Nat.reduceLeDiff, Int.reduceBEq, reduceCtorEq]
          refine ⟨trivial, trivial, .inr ⟨trivial, fun h => ?_, trivial⟩⟩
          have := (h i hlt _ hget).1
          omega
        · have h2' : ¬ (2 : Int) < ((S[i] : Nat) : Int) := by omega
          by_cases hmi : m ≤ (i : Int)
          · by_cases h0 : S[i] = 0
            · have hb0 : (((S[i] : Nat) : Int) == 0) = true := by simp [h0]
              have hb2 : (((S[i] : Nat) : Int) == 2) = false := by simp [h0]
              rw [if_neg (by omega), Nat.add_zero] at hk
              simp only [c117_l0, q1, q3, q4, hlt', hle', lx, l0, h2', hmi, hb0, hb2, w1, sy, tup, ↓reduceIte, Nat.reduceEqDiff, Nat.reduceAdd, Nat.reduceSub, Nat.reduceMul, Nat.reduceLeDiff, Int.reduceBEq, reduceCtorEq]
              exact ⟨16 - (i + 1), by omega, i + 1, rfl, by omega, trivial, trivial, okTo_succ hok hget ⟨by omega, fun _ => h0⟩, by simp [q1], by simp [q3, hk], by simp⟩
            · have hb0 : (((S[i] : Nat) : Int) == 0) = false := by simp; omega
              simp only [c117_l0, q1, q3, q4, hlt', hle', lx, l0, h2', hmi, hb0, sy, tup, ↓reduceIte, Nat.reduceEqDiff, Nat.reduceAdd, Nat.reduceSub, Nat.reduceMul, Nat.reduceLeDiff, Int.reduceBEq, reduceCtorEq]
              refine ⟨trivial, trivial, .inr ⟨trivial, fun h => ?_, trivial⟩⟩
              exact h0 ((h i hlt _ hget).2 hmi)
          · by_cases e2 : S[i] = 2
            · have hb2 : (((S[i] : Nat) : Int) == 2) = true := by simp [e2]
              rw [if_pos e2] at hk
              simp only [c117_l0, q1, q3, q4, hlt', hle', lx, l0, h2', hmi, hb2, w1, w2, sy, tup, ↓reduceIte, Nat.reduceEqDiff, Nat.reduceAdd, Nat.reduceSub, Nat.reduceMul, Nat.reduceLeDiff, Int.reduceBEq, reduceCtorEq]
              exact ⟨16 - (i + 1), by omega, i + 1, rfl, by omega, trivial, trivial, okTo_succ hok hget ⟨by omega, fun h => absurd h hmi⟩, by simp [q1], by simp [hk], by simp⟩
            · have hb2 : (((S[i] : Nat) : Int) == 2) = false := by simp; omega
              rw [if_neg e2, Nat.add_zero] at hk
              simp only [c117_l0, q1, q3, q4, hlt', hle', lx, l0, h2', hmi, hb2, w1, sy, tup, ↓reduceIte, Nat.reduceEqDiff, Nat.reduceAdd, Nat.reduceSub, Nat.reduceMul, Nat.reduceLeDiff, Int.reduceBEq, reduceCtorEq]
              exact ⟨16 - (i + 1), by omega, i + 1, rfl, by omega, trivial, trivial, okTo_succ hok hget ⟨by omega, fun h => absurd h hmi⟩, by simp [q1], by simp [q3, hk], by simp⟩
      · have : i = 16 := by omega
        subst this
        have hnl : decide (((16 : Nat) : Int) < 16) = false := rfl
        rw [List.take_of_length_le (by omega)] at q3
        simp only [c117_l0, q1, q3, q4, hnl, sy, tup, ↓reduceIte, Nat.reduceEqDiff, Nat.reduceAdd, Nat.reduceSub, Nat.reduceMul, Nat.reduceLeDiff, Int.reduceBEq, reduceCtorEq]
        exact ⟨trivial, trivial, .inl ⟨trivial, hok, by first | trivial | exact q1, by first | trivial | exact q3⟩⟩
    refine wp_ctx (F := fun r => seqC _ _ _ (blockC _ r)) (hloop _ ?_ ?_ ?_) ?_
    · simp only [sy, tup, ↓reduceIte, Nat.reduceEqDiff, Nat.reduceAdd, Nat.reduceSub, Nat.reduceMul, Nat.reduceLeDiff, Int.reduceBEq, reduceCtorEq]
    · simp only [sy, tup, ↓reduceIte, Nat.reduceEqDiff, Nat.reduceAdd, Nat.reduceSub, Nat.reduceMul, Nat.reduceLeDiff, Int.reduceBEq, reduceCtorEq]
    · simp only [sy, tup, ↓reduceIte, Nat.reduceEqDiff, Nat.reduceAdd, Nat.reduceSub, Nat.reduceMul, Nat.reduceLeDiff, Int.reduceBEq, reduceCtorEq]
    rintro x' ⟨t, HH, d⟩ ⟨hd, hH, ⟨rfl, hok, q1, q3⟩ | ⟨rfl, hno, q2⟩⟩
    · dsimp only at hd hH q1 q3
      subst hd; subst hH
      have lc := ros_c hr2
      have ls := ros_s hr2
      have hN : (fine m s r S c) = (cnt S 2 ≤ 1 ∧ 0 ≤ c ∧ c < s ∧ (cnt S 2 = 1 ∨ c = 0)) := by unfold fine; rw [hm]; simp [hok]
      rw [hN]
      by_cases h1 : cnt S 2 ≤ 1
      · have h1' : (cnt S 2 : Int) ≤ 1 := by omega
        by_cases hc0 : 0 ≤ c
        · by_cases hcs : c < s
          · by_cases h11 : cnt S 2 = 1
            · have hb : ((cnt S 2 : Int) == 1) = true := by simp [h11]
              simp only [q1, q3, lc, ls, h1', hc0, hcs, hb, sy, tup, ↓reduceIte, Nat.reduceEqDiff, Nat.reduceAdd, Nat.reduceSub, Nat.reduceMul, Nat.reduceLeDiff, Int.reduceBEq, reduceCtorEq]
              exact ⟨trivial, .inr trivial, _, rfl, ⟨_, rfl, by simp [h1, hc0, hcs, h11]⟩, t1.trans t2⟩
            · have hb : ((cnt S 2 : Int) == 1) = false := by simp; omega
              by_cases hcz : c = 0
              · have hbc : (c == 0) = true := by simp [hcz]
                simp only [q1, q3, lc, ls, h1', hc0, hcs, hb, hbc, sy, tup, ↓reduceIte, Nat.reduceEqDiff, Nat.reduceAdd, Nat.reduceSub, Nat.reduceMul, Nat.reduceLeDiff, Int.reduceBEq, reduceCtorEq]
                exact ⟨trivial, .inr trivial, _, rfl, ⟨_, rfl, by simp [h1, hc0, hcs, hcz]⟩, t1.trans t2⟩
              · have hbc : (c == 0) = false := by simp [hcz]
                simp only [q1, q3, lc, ls, h1', hc0, hcs, hb, hbc, sy, tup, ↓reduceIte, Nat.reduceEqDiff, Nat.reduceAdd, Nat.reduceSub, Nat.reduceMul, Nat.reduceLeDiff, Int.reduceBEq, reduceCtorEq]
                exact ⟨trivial, .inr trivial, _, rfl, ⟨_, rfl, by simp [h11, hcz]⟩, t1.trans t2⟩
          · simp only [q1, q3, lc, ls, h1', hc0, hcs, sy, tup, ↓reduceIte, Nat.reduceEqDiff, Nat.reduceAdd, Nat.reduceSub, Nat.reduceMul, Nat.reduceLeDiff, Int.reduceBEq, reduceCtorEq]
            exact ⟨trivial, .inr trivial, _, rfl, ⟨_, rfl, by simp [hcs]⟩, t1.trans t2⟩
        · simp only [q1, q3, lc, ls, h1', hc0, sy, tup, ↓reduceIte, Nat.reduceEqDiff, Nat.reduceAdd, Nat.reduceSub, Nat.reduceMul, Nat.reduceLeDiff, Int.reduceBEq, reduceCtorEq]
          exact ⟨trivial, .inr trivial, _, rfl, ⟨_, rfl, by simp [hc0]⟩, t1.trans t2⟩
      · have h1' : ¬ (cnt S 2 : Int) ≤ 1 := by omega
        simp only [q1, q3, lc, ls, h1', sy, tup, ↓reduceIte, Nat.reduceEqDiff, Nat.reduceAdd, Nat.reduceSub, Nat.reduceMul, Nat.reduceLeDiff, Int.reduceBEq, reduceCtorEq]
        exact ⟨trivial, .inr trivial, _, rfl, ⟨_, rfl, by simp [h1]⟩, t1.trans t2⟩
    · dsimp only at hd hH q2
      subst hd; subst hH
      simp only [q2, sy, tup, ↓reduceIte, Nat.reduceEqDiff, Nat.reduceAdd, Nat.reduceSub, Nat.reduceMul, Nat.reduceLeDiff, Int.reduceBEq, reduceCtorEq]
      exact ⟨trivial, .inr trivial, _, rfl, ⟨false, rfl, by unfold fine; simp [hno]⟩, t1.trans t2⟩
theorem rosmay_ok (H : Heap) {m s r c : Int} {g : Bool} {S : List Nat} (hS : S.length = 16) (lf n : Nat) (hlf : 17 < lf) : ret (callS Tryz.prog S0 lf (n + 3) 138 [ros m s r S c g] H) fun v H' => (∃ z : Bool, v = .bool z ∧ (z = true ↔ fine m s r S c)) ∧ Turns Z H H' := by
  have t1 := Turns.add Z H (.rows false 21 [rcells m s r S c g])
  have hg : (H.add (.rows false 21 [rcells m s r S c g])).get (.run H.next) = some (.rows false 21 [rcells m s r S c g]) := by rw [Heap.get_add, if_pos rfl]
  have hr : RosAt (H.add (.rows false 21 [rcells m s r S c g])) (.run H.next) m s r S c g := ⟨hg, hS⟩
  have l1 := ros_all hr
  have hw := r_width hS m s r c g
  obtain ⟨v, H2, e2, ⟨z, rfl, hz⟩, t2⟩ := fine_ok (H.add (.rows false 21 [rcells m s r S c g])) (m := m) (s := s) (r := r) (c := c) (g := g) hS lf n hlf
  unfold ros at e2
  refine ret_call rfl c138_eq ?_
  simp only [c138, ros, hw, l1, e2, sy, tup, ↓reduceIte, Nat.reduceEqDiff, Nat.reduceAdd, Nat.reduceSub, Nat.reduceMul, Nat.reduceLeDiff, Int.reduceBEq, reduceCtorEq]
  exact ⟨trivial, .inr trivial, _, rfl, ⟨z, rfl, hz⟩, t1.trans t2⟩
end Go.Proofs.YtejgheoandfikaaGreat.draft
set_option linter.unusedVariables false
set_option linter.unusedSimpArgs false
set_option maxRecDepth 10000
namespace Go.Proofs.YtejgheoandfikaaGreat.draft
open Go.Am
theorem cnt_cons (x k : Nat) (l : List Nat) : cnt (x :: l) k = (if x = k then 1 else 0) + cnt l k := by
  unfold cnt
  rw [List.filter_cons]
  by_cases e : x = k
  · simp [e]; omega
  · simp [e]
theorem cnt3 : ∀ S : List Nat, cnt S 0 + cnt S 1 + cnt S 2 = (S.filter fun y => decide (y ≤ 2)).length
  | [] => rfl
  | x :: l => by
    rw [cnt_cons, cnt_cons, cnt_cons, List.filter_cons]
    have := cnt3 l
    by_cases h : x ≤ 2
    · have : (if x = 0 then 1 else 0) + (if x = 1 then 1 else 0) + (if x = 2 then 1 else 0) = 1 := by
        rcases (by omega : x = 0 ∨ x = 1 ∨ x = 2) with e | e | e <;> simp [e]
      simp [h]
      omega
    · rw [if_neg (by omega), if_neg (by omega), if_neg (by omega)]
      simp [h]
      omega
theorem cnt3_iff {S : List Nat} (hS : S.length = 16) : cnt S 0 + cnt S 1 + cnt S 2 = 16 ↔ ∀ x ∈ S, x ≤ 2 := by
  rw [cnt3, ← hS, List.length_filter_eq_length_iff]
  simp
def tail0 (m : Int) (S : List Nat) : Prop := ∀ j : Nat, m ≤ (j : Int) → ∀ x, S[j]? = some x → x = 0
theorem fine_iff {m s r c : Int} {S : List Nat} (hS : S.length = 16) : fine m s r S c ↔ (may m s r = true ∧ (0 ≤ c ∧ c < s) ∧ tail0 m S ∧ cnt S 0 + cnt S 1 + cnt S 2 = 16 ∧ (cnt S 2 = 1 ∨ cnt S 2 = 0 ∧ c = 0)) := by
  rw [cnt3_iff hS]
  constructor
  · rintro ⟨h1, h2, h3, h4, h5, h6⟩
    refine ⟨h1, ⟨h4, h5⟩, fun j hj x hx => ?_, fun x hx => ?_, by omega⟩
    · obtain ⟨hlt, _⟩ := List.getElem?_eq_some_iff.1 hx
      exact (h2 j (by omega) x hx).2 hj
    · obtain ⟨j, hj, e⟩ := List.getElem_of_mem hx
      exact (h2 j (by omega) x (by rw [List.getElem?_eq_getElem hj, e])).1
  · rintro ⟨h1, ⟨h4, h5⟩, h2, h3, h6⟩
    refine ⟨h1, fun j hj x hx => ⟨h3 x (List.mem_of_getElem? hx), fun hm => h2 j hm x hx⟩, by omega, h4, h5, by omega⟩
theorem bFrom {n a : Nat} (h : a ≤ n) : bounds n n (some (.int .i64 (a : Int))) none none = some (a, n, n) := by
  show (match bound n (.int .i64 (a : Int)) with
    | some l => some (l, n, n)
    | none => none) = _
  have : bound n (.int .i64 (a : Int)) = some a := by
    unfold bound
    simp only [show asNat (.int .i64 (a : Int)) = some a from rfl, ble_iff.2 h]
  rw [this]
theorem pmay_ok (H : Heap) {m s r c : Int} {g : Bool} {S : List Nat} (hS : S.length = 16) (lf n : Nat) (hlf : 17 < lf) : ret (callS Tryz.prog S0 lf (n + 3) 118 [ros m s r S c g] H) fun v H' => (∃ z : Bool, v = .bool z ∧ (z = true ↔ fine m s r S c)) ∧ Turns Z H H' := by
  have t1 := Turns.add Z H (.rows false 21 [rcells m s r S c g])
  have hg : (H.add (.rows false 21 [rcells m s r S c g])).get (.run H.next) = some (.rows false 21 [rcells m s r S c g]) := by rw [Heap.get_add, if_pos rfl]
  have og : (H.add (.rows false 21 [rcells m s r S c g])).Old (.run H.next) := by show _ < _; simp
  have hr : ∀ {H' : Heap}, Turns Z (H.add (.rows false 21 [rcells m s r S c g])) H' → RosAt H' (.run H.next) m s r S c g := fun t => ⟨(t.same _ og id).trans hg, hS⟩
  have lg := ros_geo (hr (Turns.refl Z _))
  have hw := r_width hS m s r c g
  have hfi := fine_iff (m := m) (s := s) (r := r) (c := c) hS
  generalize hH1 : H.add (.rows false 21 [rcells m s r S c g]) = H1 at *
  obtain ⟨v, H2, e2, rfl, t2⟩ := may_ok H1 m s r lf n
  unfold geo at e2
  refine ret_call rfl c118_eq ?_
  cases hm : may m s r with
  | false =>
    rw [hm] at e2
    simp only [c118, ros, hw, hH1, lg, e2, sy, tup, ↓reduceIte, Nat.reduceEqDiff, Nat.reduceAdd, Nat.reduceSub, Nat.reduceMul, Nat.reduceLeDiff, Int.reduceBEq, reduceCtorEq]
    exact ⟨trivial, .inr trivial, _, rfl, ⟨false, rfl, by rw [hfi, hm]; simp⟩, t1.trans t2⟩
  | true =>
    rw [hm] at e2 hfi
    have hr2 := hr t2
    have lc := ros_c hr2
    have ls := ros_s hr2
    have l0 := ros_m hr2
    by_cases hc0 : c < 0
    · simp only [c118, ros, hw, hH1, lg, e2, lc, hc0, sy, tup, ↓reduceIte, Nat.reduceEqDiff, Nat.reduceAdd, Nat.reduceSub, Nat.reduceMul, Nat.reduceLeDiff, Int.reduceBEq, reduceCtorEq]
      exact ⟨trivial, .inr trivial, _, rfl, ⟨false, rfl, by rw [hfi]; simp; omega⟩, t1.trans t2⟩
    by_cases hcs : s ≤ c
    · simp only [c118, ros, hw, hH1, lg, e2, lc, ls, hc0, hcs, sy, tup, ↓reduceIte, Nat.reduceEqDiff, Nat.reduceAdd, Nat.reduceSub, Nat.reduceMul, Nat.reduceLeDiff, Int.reduceBEq, reduceCtorEq]
      exact ⟨trivial, .inr trivial, _, rfl, ⟨false, rfl, by rw [hfi]; simp; omega⟩, t1.trans t2⟩
    have hmm := (may_t hm).1
    obtain ⟨M, hM⟩ : ∃ M : Nat, m = (M : Int) := ⟨m.toNat, by omega⟩
    have hM16 : M ≤ 16 := by omega
    have hM3 : 3 ≤ M := by omega
    have bF := bFrom hM16
    have l0' : loadAt H2 ⟨.run H.next, 0⟩ 1 = some [.int .i64 (M : Int)] := by rw [← hM]; exact l0
    have hloop : ∀ (o27 c27 : Nat) (t : T), (M < 16 → o27 = 3 + M * 1) → t.getP (Tr.path 1) = some (.ptr (some ⟨.run H.next, 0⟩)) → t.getP (Tr.path 27) = some (.slice (some ⟨.run H.next, o27⟩) (16 - M) c27 0) → t.getP (Tr.path 28) = some (.int .i64 ((16 - M : Nat) : Int)) → t.getP (Tr.path 29) = some (.int .i64 0) →
        wp (loopF (runC (callS Tryz.prog S0 lf (n + 2)) lf c118_l0) lf ⟨t, H2, []⟩) fun x' s' => s'.d = [] ∧ s'.H = H2 ∧ ((x' = .ex 0 ∧ tail0 m S ∧ s'.t.getP (Tr.path 1) = some (.ptr (some ⟨.run H.next, 0⟩))) ∨
          (x' = .ret ∧ ¬ tail0 m S ∧ s'.t.getP (Tr.path 2) = some (.bool false))) := by
      intro o27 c27 t ho q1 q27 q28 q29
      refine wp_loopF (fun k s' => ∃ j : Nat, k = 16 - M - j ∧ j ≤ 16 - M ∧ s'.d = [] ∧ s'.H = H2 ∧ (∀ i, M ≤ i → i < M + j → ∀ x, S[i]? = some x → x = 0) ∧ s'.t.getP (Tr.path 1) = some (.ptr (some ⟨.run H.next, 0⟩)) ∧ s'.t.getP (Tr.path 27) = some (.slice (some ⟨.run H.next, o27⟩) (16 - M) c27 0) ∧ s'.t.getP (Tr.path 28) = some (.int .i64 ((16 - M : Nat) : Int)) ∧ s'.t.getP (Tr.path 29) = some (.int .i64 (j : Int))) ?_ lf (16 - M) _ ⟨0, rfl, by omega, rfl, rfl, fun i h1 h2 => absurd h2 (by omega), q1, q27, q28, q29⟩ (by omega)
      rintro k ⟨t, HH, d⟩ ⟨j, rfl, hj, hd, hH, hz, q1, q27, q28, q29⟩
      dsimp only at hd hH q1 q27 q28 q29
      subst hd; subst hH
      by_cases hlt : j < 16 - M
      · have hlt' : (j : Int) < ((16 - M : Nat) : Int) := by omega
        have hle' : j + 1 ≤ 16 - M := hlt
        obtain rfl := ho (by omega)
        have hiS : M + j < S.length := by omega
        have lx := ros_st hr2 (i := M + j) (by omega)
        rw [Nat.add_mul, ← Nat.add_assoc] at lx
        have w1 : IntKind.i64.wrap ((j : Int) + 1) = ((j + 1 : Nat) : Int) := by rw [wrap_i64 (by omega)]; omega
        have hget : S[M + j]? = some S[M + j] := List.getElem?_eq_getElem hiS
        by_cases h0 : S[M + j] = 0
        · have hb : (((S[M + j] : Nat) : Int) == 0) = true := by simp [h0]
          simp only [c118_l0, q1, q27, q28, q29, hlt', hle', lx, hb, w1, sy, tup, ↓reduceIte, Nat.reduceEqDiff, Nat.reduceAdd, Nat.reduceSub, Nat.reduceMul, Nat.reduceLeDiff, Int.reduceBEq, reduceCtorEq]
          refine ⟨16 - M - (j + 1), by omega, j + 1, rfl, by omega, trivial, trivial, fun i h1 h2 x hx => ?_, by simp [q1], by simp [q27], by simp [q28], by simp⟩
          by_cases e : i = M + j
          · subst e
            rw [hget] at hx
            cases hx
            exact h0
          · exact hz i h1 (by omega) x hx
        · have hb : (((S[M + j] : Nat) : Int) == 0) = false := by simp; omega
          simp only [c118_l0, q1, q27, q28, q29, hlt', hle', lx, hb, sy, tup, ↓reduceIte, Nat.reduceEqDiff, Nat.reduceAdd, Nat.reduceSub, Nat.reduceMul, Nat.reduceLeDiff, Int.reduceBEq, reduceCtorEq]
          exact ⟨trivial, trivial, .inr ⟨trivial, fun h => h0 (h (M + j) (by omega) _ hget), trivial⟩⟩
      · have hje : j = 16 - M := by omega
        have hnl : ¬ (j : Int) < ((16 - M : Nat) : Int) := by omega
        simp only [c118_l0, q1, q27, q28, q29, hnl, sy, tup, ↓reduceIte, Nat.reduceEqDiff, Nat.reduceAdd, Nat.reduceSub, Nat.reduceMul, Nat.reduceLeDiff, Int.reduceBEq, reduceCtorEq]
        refine ⟨trivial, trivial, .inl ⟨trivial, fun i hi x hx => ?_, by first | trivial | exact q1⟩⟩
        obtain ⟨hlt2, _⟩ := List.getElem?_eq_some_iff.1 hx
        exact hz i (by omega) (by omega) x hx
    obtain ⟨v, H3, e3, rfl, t3⟩ := count_ok H2 (m := m) (s := s) (r := r) (c := c) (g := g) hS 2 lf (n + 1) hlf
    obtain ⟨v, H4, e4, rfl, t4⟩ := count_ok H3 (m := m) (s := s) (r := r) (c := c) (g := g) hS 0 lf (n + 1) hlf
    obtain ⟨v, H5, e5, rfl, t5⟩ := count_ok H4 (m := m) (s := s) (r := r) (c := c) (g := g) hS 1 lf (n + 1) hlf
    have a2 := ros_all hr2
    have a3 := ros_all (hr (t2.trans t3))
    have a4 := ros_all (hr ((t2.trans t3).trans t4))
    have c5 := ros_c (hr (((t2.trans t3).trans t4).trans t5))
    have n0 := cnt_le S 0
    have n1 := cnt_le S 1
    have n2 := cnt_le S 2
    have w1 : IntKind.i64.wrap ((cnt S 0 : Int) + (cnt S 1 : Int)) = (cnt S 0 : Int) + (cnt S 1 : Int) := wrap_i64 (by omega)
    have w2 : IntKind.i64.wrap ((cnt S 0 : Int) + (cnt S 1 : Int) + (cnt S 2 : Int)) = (cnt S 0 : Int) + (cnt S 1 : Int) + (cnt S 2 : Int) := wrap_i64 (by omega)
    unfold ros at e3 e4 e5
    obtain ⟨q, hqd⟩ : ∃ q : List (Option V × Option V), q = [(loadF (.t (Tr.path 1)) 21 .ag (Tr.setP (Tr.path 1) (.ptr (some ⟨.run H.next, 0⟩)) .e) H3, some (.agg (rcells m s r S c g))), (loadF (.t (Tr.path 1)) 21 .ag (Tr.setP (Tr.path 1) (.ptr (some ⟨.run H.next, 0⟩)) .e) H4, some (.agg (rcells m s r S c g)))] := ⟨_, rfl⟩
    have hq : ∀ p ∈ q, p.1 = p.2 := by
      rw [hqd]
      intro p hp
      simp only [List.mem_cons, List.not_mem_nil, or_false] at hp
      rcases hp with rfl | rfl
      · simp only [a3, sy, tup, ↓reduceIte, Nat.reduceEqDiff, Nat.reduceAdd, Nat.reduceSub, Nat.reduceMul, Nat.reduceLeDiff, Int.reduceBEq, reduceCtorEq]
      · simp only [a4, sy, tup, ↓reduceIte, Nat.reduceEqDiff, Nat.reduceAdd, Nat.reduceSub, Nat.reduceMul, Nat.reduceLeDiff, Int.reduceBEq, reduceCtorEq]
    have tt : Turns Z H (H5.owe q) := (((((t1.trans t2).trans t3).trans t4).trans t5).owe hq)
    have e3' : ∀ y : Int, y = 2 → callS Tryz.prog S0 lf (n + 2) 171 [.agg (rcells m s r S c g), .int .u8 y] H2 = some (.v (.int .i64 (cnt S 2 : Int)), H3) := fun y hy => by rw [hy]; exact e3
    have e3 := e3' 2 rfl
    have e4' : ∀ y : Int, y = 0 → callS Tryz.prog S0 lf (n + 2) 171 [.agg (rcells m s r S c g), .int .u8 y] H3 = some (.v (.int .i64 (cnt S 0 : Int)), H4) := fun y hy => by rw [hy]; exact e4
    have e4 := e4' 0 rfl
    have e5' : ∀ y : Int, y = 1 → callS Tryz.prog S0 lf (n + 2) 171 [.agg (rcells m s r S c g), .int .u8 y] H4 = some (.v (.int .i64 (cnt S 1 : Int)), H5) := fun y hy => by rw [hy]; exact e5
    have e5 := e5' 1 rfl
    by_cases hMe : M = 16
    · subst hMe
      simp only [c118, ros, hw, hH1, lg, e2, lc, ls, l0', hc0, hcs, bF, Nat.sub_self, sy, tup, ↓reduceIte, Nat.reduceEqDiff, Nat.reduceAdd, Nat.reduceSub, Nat.reduceMul, Nat.reduceLeDiff, Int.reduceBEq, reduceCtorEq]
      refine wp_ctx (F := fun r => seqC _ _ _ (blockC _ r)) (hloop 3 0 _ (fun h => absurd h (by omega)) ?_ ?_ ?_ ?_) ?_
      · simp only [sy, tup, ↓reduceIte, Nat.reduceEqDiff, Nat.reduceAdd, Nat.reduceSub, Nat.reduceMul, Nat.reduceLeDiff, Int.reduceBEq, reduceCtorEq]
      · simp only [sy, tup, ↓reduceIte, Nat.reduceEqDiff, Nat.reduceAdd, Nat.reduceSub, Nat.reduceMul, Nat.reduceLeDiff, Int.reduceBEq, reduceCtorEq]
      · simp only [sy, tup, ↓reduceIte, Nat.reduceEqDiff, Nat.reduceAdd, Nat.reduceSub, Nat.reduceMul, Nat.reduceLeDiff, Int.reduceBEq, reduceCtorEq]
      · simp only [sy, tup, ↓reduceIte, Nat.reduceEqDiff, Nat.reduceAdd, Nat.reduceSub, Nat.reduceMul, Nat.reduceLeDiff, Int.reduceBEq, reduceCtorEq]
      rintro x' ⟨t, HH, d⟩ ⟨hd, hH, ⟨rfl, hok, q1⟩ | ⟨rfl, hno, q2⟩⟩
      · dsimp only at hd hH q1
        subst hd; subst hH
        by_cases hsum : cnt S 0 + cnt S 1 + cnt S 2 = 16
        · have hb : ((cnt S 0 : Int) + (cnt S 1 : Int) + (cnt S 2 : Int) == 16) = true := by simp; omega
          by_cases h1 : cnt S 2 = 1
          · have hb1 : ((cnt S 2 : Int) == 1) = true := by simp [h1]
            simp only [q1, a2, e3, a3, e4, a4, e5, c5, w1, w2, hb, hb1, sy, tup, ↓reduceIte, Nat.reduceEqDiff, Nat.reduceAdd, Nat.reduceSub, Nat.reduceMul, Nat.reduceLeDiff, Int.reduceBEq, reduceCtorEq]
            rw [endD_q (q := q) (by kernel_rfl) (by rw [hqd]; kernel_rfl)]
            simp only [sy, tup, ↓reduceIte, Nat.reduceEqDiff, Nat.reduceAdd, Nat.reduceSub, Nat.reduceMul, Nat.reduceLeDiff, Int.reduceBEq, reduceCtorEq]
            exact ⟨trivial, .inr trivial, _, rfl, ⟨_, rfl, by rw [hfi]; simp [hok, hsum, h1]; try omega⟩, tt⟩
          · have hb1 : ((cnt S 2 : Int) == 1) = false := by simp; omega
            by_cases h0 : cnt S 2 = 0
            · have hb0 : ((cnt S 2 : Int) == 0) = true := by simp [h0]
              by_cases hz : c = 0
              · have hbz : (c == 0) = true := by simp [hz]
                simp only [q1, a2, e3, a3, e4, a4, e5, c5, w1, w2, hb, hb1, hb0, hbz, sy, tup, ↓reduceIte, Nat.reduceEqDiff, Nat.reduceAdd, Nat.reduceSub, Nat.reduceMul, Nat.reduceLeDiff, Int.reduceBEq, reduceCtorEq]
                rw [endD_q (q := q) (by kernel_rfl) (by rw [hqd]; kernel_rfl)]
                simp only [sy, tup, ↓reduceIte, Nat.reduceEqDiff, Nat.reduceAdd, Nat.reduceSub, Nat.reduceMul, Nat.reduceLeDiff, Int.reduceBEq, reduceCtorEq]
                exact ⟨trivial, .inr trivial, _, rfl, ⟨_, rfl, by rw [hfi]; simp [hok, hsum, h1, h0, hz]; try omega⟩, tt⟩
              · have hbz : (c == 0) = false := by simp [hz]
                simp only [q1, a2, e3, a3, e4, a4, e5, c5, w1, w2, hb, hb1, hb0, hbz, sy, tup, ↓reduceIte, Nat.reduceEqDiff, Nat.reduceAdd, Nat.reduceSub, Nat.reduceMul, Nat.reduceLeDiff, Int.reduceBEq, reduceCtorEq]
                rw [endD_q (q := q) (by kernel_rfl) (by rw [hqd]; kernel_rfl)]
                simp only [sy, tup, ↓reduceIte, Nat.reduceEqDiff, Nat.reduceAdd, Nat.reduceSub, Nat.reduceMul, Nat.reduceLeDiff, Int.reduceBEq, reduceCtorEq]
                exact ⟨trivial, .inr trivial, _, rfl, ⟨_, rfl, by rw [hfi]; simp [hok, hsum, h1, h0, hz]; try omega⟩, tt⟩
            · have hb0 : ((cnt S 2 : Int) == 0) = false := by simp; omega
              simp only [q1, a2, e3, a3, e4, a4, e5, c5, w1, w2, hb, hb1, hb0, sy, tup, ↓reduceIte, Nat.reduceEqDiff, Nat.reduceAdd, Nat.reduceSub, Nat.reduceMul, Nat.reduceLeDiff, Int.reduceBEq, reduceCtorEq]
              rw [endD_q (q := q) (by kernel_rfl) (by rw [hqd]; kernel_rfl)]
              simp only [sy, tup, ↓reduceIte, Nat.reduceEqDiff, Nat.reduceAdd, Nat.reduceSub, Nat.reduceMul, Nat.reduceLeDiff, Int.reduceBEq, reduceCtorEq]
              exact ⟨trivial, .inr trivial, _, rfl, ⟨_, rfl, by rw [hfi]; simp [hok, hsum, h1, h0]; try omega⟩, tt⟩
        · have hb : ((cnt S 0 : Int) + (cnt S 1 : Int) + (cnt S 2 : Int) == 16) = false := by simp; omega
          simp only [q1, a2, e3, a3, e4, a4, e5, c5, w1, w2, hb, sy, tup, ↓reduceIte, Nat.reduceEqDiff, Nat.reduceAdd, Nat.reduceSub, Nat.reduceMul, Nat.reduceLeDiff, Int.reduceBEq, reduceCtorEq]
          rw [endD_q (q := q) (by kernel_rfl) (by rw [hqd]; kernel_rfl)]
          simp only [sy, tup, ↓reduceIte, Nat.reduceEqDiff, Nat.reduceAdd, Nat.reduceSub, Nat.reduceMul, Nat.reduceLeDiff, Int.reduceBEq, reduceCtorEq]
          exact ⟨trivial, .inr trivial, _, rfl, ⟨_, rfl, by rw [hfi]; simp [hok, hsum]; try omega⟩, tt⟩
      · dsimp only at hd hH q2
        subst hd; subst hH
        simp only [q2, sy, tup, ↓reduceIte, Nat.reduceEqDiff, Nat.reduceAdd, Nat.reduceSub, Nat.reduceMul, Nat.reduceLeDiff, Int.reduceBEq, reduceCtorEq]
        exact ⟨trivial, .inr trivial, _, rfl, ⟨false, rfl, by rw [hfi]; simp [hno]⟩, t1.trans t2⟩
    · have hMe' : ¬ 16 = M := fun e => hMe e.symm
      simp only [c118, ros, hw, hH1, lg, e2, lc, ls, l0', hc0, hcs, bF, hMe', sy, tup, ↓reduceIte, Nat.reduceEqDiff, Nat.reduceAdd, Nat.reduceSub, Nat.reduceMul, Nat.reduceLeDiff, Int.reduceBEq, reduceCtorEq]
      refine wp_ctx (F := fun r => seqC _ _ _ (blockC _ r)) (hloop (3 + M * 1) (16 - M) _ (fun _ => rfl) ?_ ?_ ?_ ?_) ?_
      · simp only [sy, tup, ↓reduceIte, Nat.reduceEqDiff, Nat.reduceAdd, Nat.reduceSub, Nat.reduceMul, Nat.reduceLeDiff, Int.reduceBEq, reduceCtorEq]
      · simp only [sy, tup, ↓reduceIte, Nat.reduceEqDiff, Nat.reduceAdd, Nat.reduceSub, Nat.reduceMul, Nat.reduceLeDiff, Int.reduceBEq, reduceCtorEq]
      · simp only [sy, tup, ↓reduceIte, Nat.reduceEqDiff, Nat.reduceAdd, Nat.reduceSub, Nat.reduceMul, Nat.reduceLeDiff, Int.reduceBEq, reduceCtorEq]
      · simp only [sy, tup, ↓reduceIte, Nat.reduceEqDiff, Nat.reduceAdd, Nat.reduceSub, Nat.reduceMul, Nat.reduceLeDiff, Int.reduceBEq, reduceCtorEq]
      rintro x' ⟨t, HH, d⟩ ⟨hd, hH, ⟨rfl, hok, q1⟩ | ⟨rfl, hno, q2⟩⟩
      · dsimp only at hd hH q1
        subst hd; subst hH
        by_cases hsum : cnt S 0 + cnt S 1 + cnt S 2 = 16
        · have hb : ((cnt S 0 : Int) + (cnt S 1 : Int) + (cnt S 2 : Int) == 16) = true := by simp; omega
          by_cases h1 : cnt S 2 = 1
          · have hb1 : ((cnt S 2 : Int) == 1) = true := by simp [h1]
            simp only [q1, a2, e3, a3, e4, a4, e5, c5, w1, w2, hb, hb1, sy, tup, ↓reduceIte, Nat.reduceEqDiff, Nat.reduceAdd, Nat.reduceSub, Nat.reduceMul, Nat.reduceLeDiff, Int.reduceBEq, reduceCtorEq]
            rw [endD_q (q := q) (by kernel_rfl) (by rw [hqd]; kernel_rfl)]
            simp only [sy, tup, ↓reduceIte, Nat.reduceEqDiff, Nat.reduceAdd, Nat.reduceSub, Nat.reduceMul, Nat.reduceLeDiff, Int.reduceBEq, reduceCtorEq]
            exact ⟨trivial, .inr trivial, _, rfl, ⟨_, rfl, by rw [hfi]; simp [hok, hsum, h1]; try omega⟩, tt⟩
          · have hb1 : ((cnt S 2 : Int) == 1) = false := by simp; omega
            by_cases h0 : cnt S 2 = 0
            · have hb0 : ((cnt S 2 : Int) == 0) = true := by simp [h0]
              by_cases hz : c = 0
              · have hbz : (c == 0) = true := by simp [hz]
                simp only [q1, a2, e3, a3, e4, a4, e5, c5, w1, w2, hb, hb1, hb0, hbz, sy, tup, ↓reduceIte, Nat.reduceEqDiff, Nat.reduceAdd, Nat.reduceSub, Nat.reduceMul, Nat.reduceLeDiff, Int.reduceBEq, reduceCtorEq]
                rw [endD_q (q := q) (by kernel_rfl) (by rw [hqd]; kernel_rfl)]
                simp only [sy, tup, ↓reduceIte, Nat.reduceEqDiff, Nat.reduceAdd, Nat.reduceSub, Nat.reduceMul, Nat.reduceLeDiff, Int.reduceBEq, reduceCtorEq]
                exact ⟨trivial, .inr trivial, _, rfl, ⟨_, rfl, by rw [hfi]; simp [hok, hsum, h1, h0, hz]; try omega⟩, tt⟩
              · have hbz : (c == 0) = false := by simp [hz]
                simp only [q1, a2, e3, a3, e4, a4, e5, c5, w1, w2, hb, hb1, hb0, hbz, sy, tup, ↓reduceIte, Nat.reduceEqDiff, Nat.reduceAdd, Nat.reduceSub, Nat.reduceMul, Nat.reduceLeDiff, Int.reduceBEq, reduceCtorEq]
                rw [endD_q (q := q) (by kernel_rfl) (by rw [hqd]; kernel_rfl)]
                simp only [sy, tup, ↓reduceIte, Nat.reduceEqDiff, Nat.reduceAdd, Nat.reduceSub, Nat.reduceMul, Nat.reduceLeDiff, Int.reduceBEq, reduceCtorEq]
                exact ⟨trivial, .inr trivial, _, rfl, ⟨_, rfl, by rw [hfi]; simp [hok, hsum, h1, h0, hz]; try omega⟩, tt⟩
            · have hb0 : ((cnt S 2 : Int) == 0) = false := by simp; omega
              simp only [q1, a2, e3, a3, e4, a4, e5, c5, w1, w2, hb, hb1, hb0, sy, tup, ↓reduceIte, Nat.reduceEqDiff, Nat.reduceAdd, Nat.reduceSub, Nat.reduceMul, Nat.reduceLeDiff, Int.reduceBEq, reduceCtorEq]
              rw [endD_q (q := q) (by kernel_rfl) (by rw [hqd]; kernel_rfl)]
              simp only [sy, tup, ↓reduceIte, Nat.reduceEqDiff, Nat.reduceAdd, Nat.reduceSub, Nat.reduceMul, Nat.reduceLeDiff, Int.reduceBEq, reduceCtorEq]
              exact ⟨trivial, .inr trivial, _, rfl, ⟨_, rfl, by rw [hfi]; simp [hok, hsum, h1, h0]; try omega⟩, tt⟩
        · have hb : ((cnt S 0 : Int) + (cnt S 1 : Int) + (cnt S 2 : Int) == 16) = false := by simp; omega
          simp only [q1, a2, e3, a3, e4, a4, e5, c5, w1, w2, hb, sy, tup, ↓reduceIte, Nat.reduceEqDiff, Nat.reduceAdd, Nat.reduceSub, Nat.reduceMul, Nat.reduceLeDiff, Int.reduceBEq, reduceCtorEq]
          rw [endD_q (q := q) (by kernel_rfl) (by rw [hqd]; kernel_rfl)]
          simp only [sy, tup, ↓reduceIte, Nat.reduceEqDiff, Nat.reduceAdd, Nat.reduceSub, Nat.reduceMul, Nat.reduceLeDiff, Int.reduceBEq, reduceCtorEq]
          exact ⟨trivial, .inr trivial, _, rfl, ⟨_, rfl, by rw [hfi]; simp [hok, hsum]; try omega⟩, tt⟩
      · dsimp only at hd hH q2
        subst hd; subst hH
        simp only [q2, sy, tup, ↓reduceIte, Nat.reduceEqDiff, Nat.reduceAdd, Nat.reduceSub, Nat.reduceMul, Nat.reduceLeDiff, Int.reduceBEq, reduceCtorEq]
        exact ⟨trivial, .inr trivial, _, rfl, ⟨false, rfl, by rw [hfi]; simp [hno]⟩, t1.trans t2⟩
end Go.Proofs.YtejgheoandfikaaGreat.draft
set_option linter.unusedVariables false
set_option linter.unusedSimpArgs false
namespace Go.Proofs.YtejgheoandfikaaGreat.disk
open Go.Am
theorem wf_u8 {n : Int} (h : (Lit.int .u8 n).wf = true) : ∃ s : Nat, s < 256 ∧ n = (s : Int) := by
  have h : (decide (IntKind.u8.min ≤ n) && decide (n ≤ IntKind.u8.max)) = true := h
  simp only [Bool.and_eq_true, decide_eq_true_eq] at h
  have h1 : (0 : Int) ≤ n := h.1
  have h2 : n ≤ 255 := h.2
  exact ⟨n.toNat, by omega, (Int.toNat_of_nonneg h1).symm⟩
theorem u8_of {a : Nat → Option Am.Obj} {u : V} (h : FitsV a (.int .u8) u) : ∃ s : Nat, s < 256 ∧ u = .int .u8 (s : Int) := by
  obtain ⟨C, ⟨n, hw, rfl⟩, hu⟩ := h
  cases hu
  obtain ⟨s, hs, rfl⟩ := wf_u8 hw
  exact ⟨s, hs, rfl⟩
end Go.Proofs.YtejgheoandfikaaGreat.disk
