import Derived.Test.YtpmdbbdidafehaaGreatDisks
import Derived.Test.YtpmdbbdidafehaaGreatBenches
/-
  The document's device (ashlarref05) in the machine's heap: it lies as a device does, and does what a device does.
-/
set_option linter.unusedVariables false
set_option linter.unusedSimpArgs false
set_option maxRecDepth 10000
namespace Go.Proofs.YtpmdbbdidafehaaGreat.disk
open Go.Am

/-- ashlar/ashlarref05.New -/
noncomputable def c74 : CFn := ⟨[.tmp (pp 2), .tmp (pp 3)],
 .seq (.reg [
 qo 2 (.p (S.get (.c (.ptr none)))) [],
 qo 3 (.p (S.get (ii 0))) []]) (
 .seq (.seq (.reg [
 mv 4 0,
 qo 5 (.p (arF .lss (tt 4) (ii 1))) [pp 4],
 mv 6 5,
 mg 7 0 6 false,
 qg 8 (.p (arF .gtr (tt 7) (ii 512))) 6 false [pp 7],
 qo 9 (.p (pickF (tt 6) (.c (.bool true)) (tt 8))) [pp 6, pp 8]]) (
 .cond (tt 9) (.seq (.reg [
 qo 2 (.p (S.get (.c (.ptr none)))) [],
 qo 3 (.p (S.get (ii 2))) []]) (
 .ret)) (.skip))) (
 .seq (.reg [
 mv 10 0,
 qo 11 (.m (mksliceF 64 64 [.blk 0] (tt 10) (tt 10))) [pp 10, pp 10],
 qo 12 (.p (buildF [.slice none 0 0 0, .slice none 0 0 0, .bool false] .ag [(0, 1, (tt 11))])) [pp 11],
 qo 13 (.m (boxF 3 (tt 12))) [pp 12],
 mv 2 13,
 qo 3 (.p (S.get (ii 0))) []]) (
 .ret)))⟩
theorem c74_eq : fnOf Tryz.prog 74 = some c74 := by kernel_rfl

/-- (*ashlar/ashlarref05.Disk).Asks -/
noncomputable def c53 : CFn := ⟨[.tmp (pp 4)],
 .seq (.reg [
 qo 4 (.p (S.get (ii 0))) []]) (
 .seq (.seq (.reg [
 mv 5 1,
 qo 6 (.p (arF .lss (tt 5) (ii 0))) [pp 5],
 mv 7 6,
 mg 8 1 7 false,
 mg 9 0 7 false,
 qg 10 (.p (nilcF (tt 9))) 7 false [pp 9],
 qg 11 (.p (faddrF (tt 10) 0)) 7 false [pp 10],
 qg 12 (.r (loadF (tt 11) 1 .sc)) 7 false [pp 11],
 qg 13 (.p (lenF (tt 12))) 7 false [pp 12],
 qg 14 (.p (arF .geq (tt 8) (tt 13))) 7 false [pp 8, pp 13],
 qo 15 (.p (pickF (tt 7) (.c (.bool true)) (tt 14))) [pp 7, pp 14]]) (
 .cond (tt 15) (.seq (.reg [
 qo 4 (.p (S.get (ii 2))) []]) (
 .ret)) (.skip))) (
 .seq (.seq (.reg [
 mv 16 0,
 qo 17 (.p (nilcF (tt 16))) [pp 16],
 qo 18 (.p (faddrF (tt 17) 2)) [pp 17],
 qo 19 (.r (loadF (tt 18) 1 .sc)) [pp 18]]) (
 .cond (tt 19) (.seq (.reg [
 qo 4 (.p (S.get (ii 9))) []]) (
 .ret)) (.skip))) (
 .seq (.reg [
 qo 4 (.p (S.get (ii 0))) []]) (
 .ret))))⟩
theorem c53_eq : fnOf Tryz.prog 53 = some c53 := by kernel_rfl

/-- (*ashlar/ashlarref05.Disk).Write -/
noncomputable def c55 : CFn := ⟨[.tmp (pp 6)],
 .seq (.reg [
 qo 5 (.m (boxF 64 (tt 2))) [pp 2],
 qo 6 (.p (S.get (ii 0))) []]) (
 .seq (.reg [
 mv 8 0,
 mv 9 1,
 qo 10 (.c (callF (ff 53) [(tt 8), (tt 9)])) [pp 8, pp 9],
 mv 7 10]) (
 .seq (.seq (.reg [
 mv 11 7,
 qo 12 (.p (eqcF true false [.int .i64] (tt 11) (ii 0))) [pp 11]]) (
 .cond (tt 12) (.seq (.reg [
 mv 13 7,
 mv 6 13]) (
 .ret)) (.skip))) (
 .seq (.regD [
 mv 14 0,
 mv 15 0,
 qo 16 (.p (nilcF (tt 15))) [pp 15],
 qo 17 (.p (faddrF (tt 16) 1)) [pp 16],
 qo 18 (.r (loadF (tt 17) 1 .sc)) [pp 17],
 mv 19 1,
 qo 20 (.r (loadF (tt 5) 64 .bk)) [pp 5],
 qo 21 (.p (buildF [.int .i64 0, .blk 0] .ag [(0, 1, (tt 19)), (1, 64, (tt 20))])) [pp 19, pp 20],
 qo 22 (.m (bsliceF 1 65 [.int .i64 0, .blk 0] [(0, 65, (tt 21))])) [pp 21],
 qo 23 (.a (appF 65 72 (tt 18) (tt 22))) [pp 18, pp 22],
 qo 24 (.p (nilcF (tt 14))) [pp 14],
 qo 25 (.p (faddrF (tt 24) 1)) [pp 24],
 qn (.a (storeF (tt 25) (tt 23) 1)) [pp 25, pp 23]] [0, 0, 2, 6, 14, 0, 0, 96, 224, 510, 1023, 2047, 4095]) (
 .seq (.reg [
 qo 6 (.p (S.get (ii 0))) []]) (
 .ret)))))⟩
theorem c55_eq : fnOf Tryz.prog 55 = some c55 := by kernel_rfl

noncomputable def c112_l0 : C := .seq (.seq (.reg [
 mv 23 8,
 mv 24 0,
 qo 25 (.p (nilcF (tt 24))) [pp 24],
 qo 26 (.p (faddrF (tt 25) 1)) [pp 25],
 qo 27 (.r (loadF (tt 26) 1 .sc)) [pp 26],
 qo 28 (.p (lenF (tt 27))) [pp 27],
 qo 29 (.p (arF .lss (tt 23) (tt 28))) [pp 23, pp 28]]) (
 .cond (tt 29) (.skip) (.exit 0))) (
 .seq (.block 1 (.seq (.reg [
 mv 32 0,
 qo 33 (.p (nilcF (tt 32))) [pp 32],
 qo 34 (.p (faddrF (tt 33) 1)) [pp 33],
 qo 35 (.r (loadF (tt 34) 1 .sc)) [pp 34],
 mv 36 8,
 qo 37 (.p (iaddrSF (tt 35) (tt 36) 65)) [pp 35, pp 36],
 qo 38 (.p (faddrF (tt 37) 0)) [pp 37],
 qo 39 (.r (loadF (tt 38) 1 .sc)) [pp 38],
 mv 40 1,
 qo 41 (.p (eqcF false false [.int .i64] (tt 39) (tt 40))) [pp 39, pp 40]]) (
 .cond (tt 41) (.reg [
 mv 42 0,
 qo 43 (.p (nilcF (tt 42))) [pp 42],
 qo 44 (.p (faddrF (tt 43) 1)) [pp 43],
 qo 45 (.r (loadF (tt 44) 1 .sc)) [pp 44],
 mv 46 8,
 qo 47 (.p (iaddrSF (tt 45) (tt 46) 65)) [pp 45, pp 46],
 qo 48 (.p (faddrF (tt 47) 1)) [pp 47],
 qo 49 (.r (loadF (tt 48) 64 .bk)) [pp 48],
 qn (.a (storeF (tt 7) (tt 49) 64)) [pp 7, pp 49]]) (.skip)))) (
 .reg [
 mv 30 8,
 qo 31 (.p (arF .add (tt 30) (ii 1))) [pp 30],
 mv 8 31]))
/-- (*ashlar/ashlarref05.Disk).Read -/
noncomputable def c112 : CFn := ⟨[.cell (pp 4) 64 .bk, .tmp (pp 5)],
 .seq (.reg [
 qo 4 (.m (allocF 64 [.blk 0])) [],
 qo 5 (.p (S.get (ii 0))) []]) (
 .seq (.reg [
 mv 9 0,
 mv 10 1,
 qo 11 (.c (callF (ff 53) [(tt 9), (tt 10)])) [pp 9, pp 10],
 mv 6 11]) (
 .seq (.seq (.reg [
 mv 12 6,
 qo 13 (.p (eqcF true false [.int .i64] (tt 12) (ii 0))) [pp 12]]) (
 .cond (tt 13) (.seq (.reg [
 qo 14 (.p (buildF [.blk 0] .bk [])) [],
 mv 15 6,
 qn (.a (storeF (tt 4) (tt 14) 64)) [pp 4, pp 14],
 mv 5 15]) (
 .ret)) (.skip))) (
 .seq (.reg [
 mv 16 0,
 qo 17 (.p (nilcF (tt 16))) [pp 16],
 qo 18 (.p (faddrF (tt 17) 0)) [pp 17],
 qo 19 (.r (loadF (tt 18) 1 .sc)) [pp 18],
 mv 20 1,
 qo 21 (.p (iaddrSF (tt 19) (tt 20) 64)) [pp 19, pp 20],
 qo 22 (.r (loadF (tt 21) 64 .bk)) [pp 21],
 qo 7 (.m (allocF 64 [.blk 0])) [],
 qn (.a (storeF (tt 7) (tt 22) 64)) [pp 7, pp 22]]) (
 .seq (.seq (.reg [
 qo 8 (.p (S.get (ii 0))) []]) (
 .block 0 (.loop c112_l0))) (
 .seq (.reg [
 qo 50 (.r (loadF (tt 7) 64 .bk)) [pp 7],
 qn (.a (storeF (tt 4) (tt 50) 64)) [pp 4, pp 50],
 qo 5 (.p (S.get (ii 0))) []]) (
 .ret))))))⟩
theorem c112_eq : fnOf Tryz.prog 112 = some c112 := by kernel_rfl

noncomputable def c62_l0 : C := .seq (.seq (.reg [
 mv 8 3,
 mv 9 0,
 qo 10 (.p (nilcF (tt 9))) [pp 9],
 qo 11 (.p (faddrF (tt 10) 1)) [pp 10],
 qo 12 (.r (loadF (tt 11) 1 .sc)) [pp 11],
 qo 13 (.p (lenF (tt 12))) [pp 12],
 qo 14 (.p (arF .lss (tt 8) (tt 13))) [pp 8, pp 13]]) (
 .cond (tt 14) (.skip) (.exit 0))) (
 .seq (.block 1 (.regD [
 mv 17 0,
 qo 18 (.p (nilcF (tt 17))) [pp 17],
 qo 19 (.p (faddrF (tt 18) 0)) [pp 18],
 qo 20 (.r (loadF (tt 19) 1 .sc)) [pp 19],
 mv 21 0,
 qo 22 (.p (nilcF (tt 21))) [pp 21],
 qo 23 (.p (faddrF (tt 22) 1)) [pp 22],
 qo 24 (.r (loadF (tt 23) 1 .sc)) [pp 23],
 mv 25 3,
 qo 26 (.p (iaddrSF (tt 24) (tt 25) 65)) [pp 24, pp 25],
 qo 27 (.p (faddrF (tt 26) 0)) [pp 26],
 qo 28 (.r (loadF (tt 27) 1 .sc)) [pp 27],
 mv 29 0,
 qo 30 (.p (nilcF (tt 29))) [pp 29],
 qo 31 (.p (faddrF (tt 30) 1)) [pp 30],
 qo 32 (.r (loadF (tt 31) 1 .sc)) [pp 31],
 mv 33 3,
 qo 34 (.p (iaddrSF (tt 32) (tt 33) 65)) [pp 32, pp 33],
 qo 35 (.p (faddrF (tt 34) 1)) [pp 34],
 qo 36 (.r (loadF (tt 35) 64 .bk)) [pp 35],
 qo 37 (.p (iaddrSF (tt 20) (tt 28) 64)) [pp 20, pp 28],
 qn (.a (storeF (tt 37) (tt 36) 64)) [pp 37, pp 36]] [0, 1, 3, 7, 0, 16, 48, 112, 0, 496, 1008, 2032, 0, 4096, 12288, 28672, 0, 126976, 258048, 520192, 1048575, 2097151])) (
 .reg [
 mv 15 3,
 qo 16 (.p (arF .add (tt 15) (ii 1))) [pp 15],
 mv 3 16]))
/-- (*ashlar/ashlarref05.Disk).Flush -/
noncomputable def c62 : CFn := ⟨[.tmp (pp 2)],
 .seq (.reg [
 qo 2 (.p (S.get (ii 0))) []]) (
 .seq (.seq (.reg [
 mv 4 0,
 qo 5 (.p (nilcF (tt 4))) [pp 4],
 qo 6 (.p (faddrF (tt 5) 2)) [pp 5],
 qo 7 (.r (loadF (tt 6) 1 .sc)) [pp 6]]) (
 .cond (tt 7) (.seq (.reg [
 qo 2 (.p (S.get (ii 9))) []]) (
 .ret)) (.skip))) (
 .seq (.seq (.reg [
 qo 3 (.p (S.get (ii 0))) []]) (
 .block 0 (.loop c62_l0))) (
 .seq (.reg [
 mv 38 0,
 qo 39 (.p (nilcF (tt 38))) [pp 38],
 qo 40 (.p (faddrF (tt 39) 1)) [pp 39],
 qn (.a (storeF (tt 40) (.c (.slice none 0 0 0)) 1)) [pp 40]]) (
 .seq (.reg [
 qo 2 (.p (S.get (ii 0))) []]) (
 .ret)))))⟩
theorem c62_eq : fnOf Tryz.prog 62 = some c62 := by kernel_rfl

/-- (*ashlar/ashlarref05.Disk).Sure -/
noncomputable def c121 : CFn := ⟨[.cell (pp 4) 64 .bk, .tmp (pp 5)],
 .seq (.reg [
 qo 4 (.m (allocF 64 [.blk 0])) [],
 qo 5 (.p (S.get (ii 0))) []]) (
 .seq (.reg [
 mv 7 0,
 mv 8 1,
 qo 9 (.c (callF (ff 53) [(tt 7), (tt 8)])) [pp 7, pp 8],
 mv 6 9]) (
 .seq (.seq (.reg [
 mv 10 6,
 qo 11 (.p (eqcF true false [.int .i64] (tt 10) (ii 0))) [pp 10]]) (
 .cond (tt 11) (.seq (.reg [
 qo 12 (.p (buildF [.blk 0] .bk [])) [],
 mv 13 6,
 qn (.a (storeF (tt 4) (tt 12) 64)) [pp 4, pp 12],
 mv 5 13]) (
 .ret)) (.skip))) (
 .seq (.reg [
 mv 14 0,
 qo 15 (.p (nilcF (tt 14))) [pp 14],
 qo 16 (.p (faddrF (tt 15) 0)) [pp 15],
 qo 17 (.r (loadF (tt 16) 1 .sc)) [pp 16],
 mv 18 1,
 qo 19 (.p (iaddrSF (tt 17) (tt 18) 64)) [pp 17, pp 18],
 qo 20 (.r (loadF (tt 19) 64 .bk)) [pp 19],
 qn (.a (storeF (tt 4) (tt 20) 64)) [pp 4, pp 20],
 qo 5 (.p (S.get (ii 0))) []]) (
 .ret))))⟩
theorem c121_eq : fnOf Tryz.prog 121 = some c121 := by kernel_rfl

/-- (*ashlar/ashlarref05.Disk).Fail -/
noncomputable def c59 : CFn := ⟨[],
 .seq (.reg [
 mv 2 0,
 qo 3 (.p (nilcF (tt 2))) [pp 2],
 qo 4 (.p (faddrF (tt 3) 2)) [pp 3],
 qn (.a (storeF (tt 4) (.c (.bool true)) 1)) [pp 4]]) (
 .reg [
 mv 5 0,
 qo 6 (.p (nilcF (tt 5))) [pp 5],
 qo 7 (.p (faddrF (tt 6) 1)) [pp 6],
 qn (.a (storeF (tt 7) (.c (.slice none 0 0 0)) 1)) [pp 7]])⟩
theorem c59_eq : fnOf Tryz.prog 59 = some c59 := by kernel_rfl


theorem rnew_ok (H : Heap) {n : Nat} (h1 : 1 ≤ n) (h2 : n ≤ 512) (lf m : Nat) : ret (callS Tryz.prog S0 lf (m + 1) 74 [.int .i64 (n : Int)] H) fun v H' => v = .tuple [.ptr (some ⟨.run (H.next + 1), 0⟩), .int .i64 0] ∧
    DevAt H' (.run (H.next + 1)) ⟨.run H.next, 0, .run H.next, none, 0⟩ ⟨List.replicate n 0, [], false⟩ ∧ Turns Z H H' := by
  have g1 : ¬ ((n : Int) < 1) := by omega
  have g2 : ¬ (512 < (n : Int)) := by omega
  have g3 : n ≤ n := Nat.le_refl _
  have g4 : n * 64 ≤ 1099511627776 := by omega
  have g4' : 64 * n ≤ 1099511627776 := by omega
  have g5 : n ≤ 1099511627776 := by omega
  refine ret_call rfl c74_eq ?_
  simp only [c74, g1, g2, g3, g4, g4', g5, mksliceF, sy, tup, ↓reduceIte, Nat.reduceEqDiff, Nat.reduceAdd, Nat.reduceSub, Nat.reduceMul, Nat.reduceDiv, Nat.reduceMod, Nat.reduceLeDiff, Int.reduceBEq, reduceCtorEq]
  refine ⟨trivial, .inr trivial, _, rfl, rfl, ?_, ((Turns.refl Z H).addm _).addm _⟩
  refine ⟨?_, ?_, fun _ => ⟨rfl, rfl⟩, fun e => absurd rfl e, ⟨?_, ?_, fun e => absurd rfl e⟩, by simp, fun e => absurd rfl e⟩
  · rw [Heap.get_add, if_pos (by simp)]; simp
  · rw [Heap.get_add, if_neg (by simp), Heap.get_add, if_pos rfl]
    simp [sureRows]
  · show _ < _
    first | (simp; done) | (simp; omega)
  · show _ < _
    first | (simp; done) | (simp; omega)

theorem new_err (H : Heap) {n : Int} (h : n < 1 ∨ 512 < n) (lf m : Nat) : callS Tryz.prog S0 lf (m + 1) 73 [.int .i64 n] H = some (.v (.tuple [.ptr none, .int .i64 2]), H) := by
  obtain ⟨v, H', e, rfl, rfl⟩ : ret (callS Tryz.prog S0 lf (m + 1) 73 [.int .i64 n] H) fun v H' => v = .tuple [.ptr none, .int .i64 2] ∧ H' = H := by
    refine ret_call rfl c73_eq ?_
    by_cases h1 : n < 1
    · simp only [c73, h1, sy, tup, ↓reduceIte, Nat.reduceEqDiff, Nat.reduceAdd, Nat.reduceSub, Nat.reduceMul, Nat.reduceDiv, Nat.reduceMod, Nat.reduceLeDiff, Int.reduceBEq, reduceCtorEq]
      exact ⟨trivial, .inr trivial, _, rfl, rfl, trivial⟩
    · have h2 : 512 < n := by omega
      simp only [c73, h1, h2, sy, tup, ↓reduceIte, Nat.reduceEqDiff, Nat.reduceAdd, Nat.reduceSub, Nat.reduceMul, Nat.reduceDiv, Nat.reduceMod, Nat.reduceLeDiff, Int.reduceBEq, reduceCtorEq]
      exact ⟨trivial, .inr trivial, _, rfl, rfl, trivial⟩
  exact e
theorem rnew_err (H : Heap) {n : Int} (h : n < 1 ∨ 512 < n) (lf m : Nat) : callS Tryz.prog S0 lf (m + 1) 74 [.int .i64 n] H = some (.v (.tuple [.ptr none, .int .i64 2]), H) := by
  obtain ⟨v, H', e, rfl, rfl⟩ : ret (callS Tryz.prog S0 lf (m + 1) 74 [.int .i64 n] H) fun v H' => v = .tuple [.ptr none, .int .i64 2] ∧ H' = H := by
    refine ret_call rfl c74_eq ?_
    by_cases h1 : n < 1
    · simp only [c74, h1, sy, tup, ↓reduceIte, Nat.reduceEqDiff, Nat.reduceAdd, Nat.reduceSub, Nat.reduceMul, Nat.reduceDiv, Nat.reduceMod, Nat.reduceLeDiff, Int.reduceBEq, reduceCtorEq]
      exact ⟨trivial, .inr trivial, _, rfl, rfl, trivial⟩
    · have h2 : 512 < n := by omega
      simp only [c74, h1, h2, sy, tup, ↓reduceIte, Nat.reduceEqDiff, Nat.reduceAdd, Nat.reduceSub, Nat.reduceMul, Nat.reduceDiv, Nat.reduceMod, Nat.reduceLeDiff, Int.reduceBEq, reduceCtorEq]
      exact ⟨trivial, .inr trivial, _, rfl, rfl, trivial⟩
  exact e

theorem asks_code {H : Heap} {b : Bk} {y : Lay} {D : Dev} (h : DevAt H b y D) (n : Int) (lf m : Nat) : ret (callS Tryz.prog S0 lf (m + 1) 53 [.ptr (some ⟨b, 0⟩), .int .i64 n] H) fun v H' => v = .int .i64 (code D n) ∧ H' = H := by
  have h0 := load0 h
  have h2 := load2 h
  refine ret_call rfl c53_eq ?_
  by_cases hlt : n < 0
  · rw [code_out (.inl hlt)]
    simp only [c53, h0, h2, hlt, sy, tup, ↓reduceIte, Nat.reduceEqDiff, Nat.reduceAdd, Nat.reduceSub, Nat.reduceMul, Nat.reduceDiv, Nat.reduceMod, Nat.reduceLeDiff, Int.reduceBEq, reduceCtorEq]
    simp
  · by_cases hge : (D.S.length : Int) ≤ n
    · rw [code_out (.inr hge)]
      simp only [c53, h0, h2, hlt, hge, sy, tup, ↓reduceIte, Nat.reduceEqDiff, Nat.reduceAdd, Nat.reduceSub, Nat.reduceMul, Nat.reduceDiv, Nat.reduceMod, Nat.reduceLeDiff, Int.reduceBEq, reduceCtorEq]
      simp
    · cases hd : D.dead with
      | true =>
        rw [code_dead (by omega) hd]
        simp only [c53, h0, h2, hd, hlt, hge, sy, tup, ↓reduceIte, Nat.reduceEqDiff, Nat.reduceAdd, Nat.reduceSub, Nat.reduceMul, Nat.reduceDiv, Nat.reduceMod, Nat.reduceLeDiff, Int.reduceBEq, reduceCtorEq]
        simp
      | false =>
        rw [code_ok (by omega) hd]
        simp only [c53, h0, h2, hd, hlt, hge, sy, tup, ↓reduceIte, Nat.reduceEqDiff, Nat.reduceAdd, Nat.reduceSub, Nat.reduceMul, Nat.reduceDiv, Nat.reduceMod, Nat.reduceLeDiff, Int.reduceBEq, reduceCtorEq]
        simp

theorem rwrite_all {H : Heap} {b : Bk} {y : Lay} {D : Dev} (h : DevAt H b y D) (hmax : D.L.length < 1000000) (n : Int) (B : Nat) (lf m : Nat) :
    ret (callS Tryz.prog S0 lf (m + 2) 55 [.ptr (some ⟨b, 0⟩), .int .i64 n, .blk B] H) fun v H' => v = .int .i64 (code D n) ∧ ∃ y', Next H b y D H' y' (D.write n B) := by
  have t1 := Turns.add Z H (.rows false 64 [[.blk B]])
  have h' := h.turns t1 id id (fun _ => id)
  have err : ∀ z : Int, z = 2 ∨ z = 9 → code D n = z → ret (callS Tryz.prog S0 lf (m + 2) 55 [.ptr (some ⟨b, 0⟩), .int .i64 n, .blk B] H) fun v H' => v = .int .i64 (code D n) ∧ ∃ y', Next H b y D H' y' (D.write n B) := by
    intro z hz hc
    have hw : D.write n B = D := if_neg (by rw [hc]; omega)
    have hz0 : (z == 0) = false := by simp; omega
    refine ret_call rfl c55_eq ?_
    obtain ⟨v, H1, e, rfl, e1⟩ := asks_code h' n lf m
    subst e1
    rw [hc] at e
    simp only [c55, e, hz0, sy, tup, ↓reduceIte, Nat.reduceEqDiff, Nat.reduceAdd, Nat.reduceSub, Nat.reduceMul, Nat.reduceDiv, Nat.reduceMod, Nat.reduceLeDiff, Int.reduceBEq, reduceCtorEq]
    rw [hw, hc]
    exact ⟨trivial, .inr trivial, _, rfl, rfl, y, Next.idle h t1⟩
  rcases code_cases D n with ⟨k, rfl, hk, hd, hc⟩ | hc | hc
  · rw [hc]
    have hw : D.write (k : Int) B = { D with L := D.L ++ [(k, B)] } := if_pos hc
    rw [hw]
    have t2 := t1.addm (.rows false 65 [[.int .i64 (k : Int), .blk B]])
    have h'' := h.turns t2 id id (fun _ => id)
    have l1 := load1 h'
    have hx : ((H.add (.rows false 64 [[.blk B]])).add (.rows false 65 [[.int .i64 (k : Int), .blk B]])).get (.run (H.next + 1)) = some (.rows false 65 [[.int .i64 (k : Int), .blk B]]) := by
      rw [Heap.get_add, if_pos (by simp)]
    have ha := app_dev h'' hmax hx
    refine ret_call rfl c55_eq ?_
    obtain ⟨v, H1, e, rfl, e1⟩ := asks_code h' (k : Int) lf m
    subst e1
    rw [hc] at e
    have hst : storeAt ((killed ((H.add (.rows false 64 [[.blk B]])).add (.rows false 65 [[.int .i64 (k : Int), .blk B]])) y D).add (.rows false 65 (looseRows (D.L ++ [(k, B)])))) ⟨b, 1⟩ [.slice (some ⟨.run (H.next + 1 + 1), 0⟩) (D.L.length + 1) (D.L.length + 1) 65] = some (((killed ((H.add (.rows false 64 [[.blk B]])).add (.rows false 65 [[.int .i64 (k : Int), .blk B]])) y D).add (.rows false 65 (looseRows (D.L ++ [(k, B)])))).set b (.rows false 3 [[.slice (some ⟨y.s, 0⟩) D.S.length D.S.length y.so, .slice (some ⟨.run (H.next + 1 + 1), 0⟩) (D.L.length + 1) (D.L.length + 1) 65, .bool D.dead]])) := by
      have hg : ((killed ((H.add (.rows false 64 [[.blk B]])).add (.rows false 65 [[.int .i64 (k : Int), .blk B]])) y D).add (.rows false 65 (looseRows (D.L ++ [(k, B)])))).get b = some (.rows false 3 [[.slice (some ⟨y.s, 0⟩) D.S.length D.S.length y.so, .slice y.p D.L.length D.L.length y.o, .bool D.dead]]) := by
        rw [Heap.get_add, if_neg (fun e : b = _ => Heap.not_old (Nat.le_refl _) (by rw [← killed_next _ y D, ← e]; exact h''.old.1)), killed_get (fun hL => (h.ne.2 hL).1), h''.own]
      exact storeAt_eq hg (r := [.slice (some ⟨y.s, 0⟩) D.S.length D.S.length y.so, .slice y.p D.L.length D.L.length y.o, .bool D.dead]) rfl (put_own _ _ _ _ rfl rfl rfl)
    simp only [c55, e, l1, ha, hst, sy, tup, ↓reduceIte, Nat.reduceEqDiff, Nat.reduceAdd, Nat.reduceSub, Nat.reduceMul, Nat.reduceDiv, Nat.reduceMod, Nat.reduceLeDiff, Int.reduceBEq, reduceCtorEq]
    rw [endD_ok (by kernel_rfl) (by kernel_rfl)]
    simp only [sy, tup, ↓reduceIte, Nat.reduceEqDiff, Nat.reduceAdd, Nat.reduceSub, Nat.reduceMul, Nat.reduceDiv, Nat.reduceMod, Nat.reduceLeDiff, Int.reduceBEq, reduceCtorEq]
    refine ⟨trivial, .inr trivial, _, rfl, rfl, ⟨y.s, y.so, .run (H.next + 1 + 1), some ⟨.run (H.next + 1 + 1), 0⟩, 65⟩, ?_⟩
    have hn2 : ((H.add (.rows false 64 [[.blk B]])).add (.rows false 65 [[.int .i64 (k : Int), .blk B]])).next = H.next + 1 + 1 := by simp
    have hnew : ∀ c, H.Old c → c ≠ .run (H.next + 1 + 1) := fun c hc e => Heap.not_old (H := H) (n := H.next + 1 + 1) (by omega) (e ▸ hc)
    obtain ⟨o1, o2, o3⟩ := h.old
    refine ⟨⟨?_, ?_, fun hL => absurd hL (by simp), fun _ => ⟨rfl, rfl, ?_⟩, ⟨?_, ?_, fun _ => ?_⟩, h.ne.1, fun _ => ⟨hnew _ o1, hnew _ o2⟩⟩, ?_, rfl, fun _ => .inr (Heap.not_old (by omega))⟩
    · rw [Heap.get_set, if_pos rfl]; simp
    · rw [Heap.get_set, if_neg (Ne.symm h.ne.1), Heap.get_add, killed_next, hn2, if_neg (hnew _ o2), killed_get (fun hL => (h.ne.2 hL).2)]
      exact h''.sure
    · rw [Heap.get_set, if_neg (fun e => hnew _ o1 e.symm), Heap.get_add, killed_next, hn2, if_pos rfl]
    · exact o1.mono (by simp [killed_next]; omega)
    · exact o2.mono (by simp [killed_next]; omega)
    · show _ < _
      simp [killed_next]
    · exact (((t2.wide (fun c hc => hc.elim)).trans (killed_turns _ b y D)).addm _).setm (.inl rfl) _
  · exact err 2 (.inl rfl) hc
  · exact err 9 (.inr rfl) hc

theorem rsure_all {H : Heap} {b : Bk} {y : Lay} {D : Dev} (h : DevAt H b y D) (n : Int) (lf m : Nat) :
    ret (callS Tryz.prog S0 lf (m + 2) 121 [.ptr (some ⟨b, 0⟩), .int .i64 n] H) fun v H' => v = .tuple [.blk (D.sure n), .int .i64 (code D n)] ∧ Turns Z H H' := by
  have t1 := Turns.add Z H (.rows false 64 [[.blk 0]])
  have h' := h.turns t1 id id (fun _ => id)
  have err : ∀ z : Int, z = 2 ∨ z = 9 → code D n = z → ret (callS Tryz.prog S0 lf (m + 2) 121 [.ptr (some ⟨b, 0⟩), .int .i64 n] H) fun v H' => v = .tuple [.blk (D.sure n), .int .i64 (code D n)] ∧ Turns Z H H' := by
    intro z hz hc
    have hw : D.sure n = 0 := if_neg (by rw [hc]; omega)
    have hz0 : (z == 0) = false := by simp; omega
    refine ret_call rfl c121_eq ?_
    obtain ⟨v, H1, e, rfl, e1⟩ := asks_code h' n lf m
    subst e1
    rw [hc] at e
    simp only [c121, e, hz0, sy, tup, ↓reduceIte, Nat.reduceEqDiff, Nat.reduceAdd, Nat.reduceSub, Nat.reduceMul, Nat.reduceDiv, Nat.reduceMod, Nat.reduceLeDiff, Int.reduceBEq, reduceCtorEq]
    rw [hw, hc]
    exact ⟨trivial, .inr trivial, _, rfl, rfl, t1.setnew (Nat.le_refl _) _⟩
  rcases code_cases D n with ⟨k, rfl, hk, hd, hc⟩ | hc | hc
  · have hw : D.sure (k : Int) = D.S[k] := by unfold Dev.sure; rw [if_pos hc]; exact getD_lt hk
    rw [hc, hw]
    have h0 := load0 h'
    have hs := loadS h' hk
    have hn1 : k + 1 ≤ D.S.length := hk
    refine ret_call rfl c121_eq ?_
    obtain ⟨v, H1, e, rfl, e1⟩ := asks_code h' (k : Int) lf m
    subst e1
    rw [hc] at e
    simp only [c121, e, h0, hs, hn1, sy, tup, ↓reduceIte, Nat.reduceEqDiff, Nat.reduceAdd, Nat.reduceSub, Nat.reduceMul, Nat.reduceDiv, Nat.reduceMod, Nat.reduceLeDiff, Int.reduceBEq, reduceCtorEq]
    exact ⟨trivial, .inr trivial, _, rfl, rfl, t1.setnew (Nat.le_refl _) _⟩
  · exact err 2 (.inl rfl) hc
  · exact err 9 (.inr rfl) hc

theorem rfail_ok {H : Heap} {b : Bk} {y : Lay} {D : Dev} (h : DevAt H b y D) (lf m : Nat) : ret (callS Tryz.prog S0 lf (m + 1) 59 [.ptr (some ⟨b, 0⟩)] H) fun v H' => ∃ y', Next H b y D H' y' D.fail := by
  refine ret_call rfl c59_eq ?_
  obtain ⟨o1, o2, s1, s2, hN⟩ := fail_next h
  simp only [c59, s1, s2, sy, tup, ↓reduceIte, Nat.reduceEqDiff, Nat.reduceAdd, Nat.reduceSub, Nat.reduceMul, Nat.reduceDiv, Nat.reduceMod, Nat.reduceLeDiff, Int.reduceBEq, reduceCtorEq]
  exact ⟨trivial, .inl trivial, _, rfl, _, hN⟩

end Go.Proofs.YtpmdbbdidafehaaGreat.disk


/-
  The document's device: reading, flushing, a cut.
-/
set_option linter.unusedVariables false
set_option linter.unusedSimpArgs false
set_option maxRecDepth 10000
namespace Go.Proofs.YtpmdbbdidafehaaGreat.disk
open Go.Am

/-- what a forward reading has found behind i writes -/
def seen (S : List Nat) (L : List (Nat × Nat)) (n i : Nat) : Nat := match look (L.take i) n with
  | some x => x
  | none => S.getD n 0
theorem look_snoc : ∀ (l : List (Nat × Nat)) (w : Nat × Nat) (n : Nat), look (l ++ [w]) n = if w.1 = n then some w.2 else look l n
  | [], w, n => rfl
  | v :: l, w, n => by
    rw [List.cons_append, look_cons, look_snoc l w n, look_cons]
    by_cases h : w.1 = n
    · rw [if_pos h, if_pos h]
    · rw [if_neg h, if_neg h]
theorem seen_succ {S : List Nat} {L : List (Nat × Nat)} {n i : Nat} (hi : i < L.length) : seen S L n (i + 1) = if L[i].1 = n then L[i].2 else seen S L n i := by
  unfold seen
  rw [List.take_succ_eq_append_getElem hi, look_snoc]
  by_cases h : L[i].1 = n
  · rw [if_pos h, if_pos h]
  · rw [if_neg h, if_neg h]

theorem rread_all {H : Heap} {b : Bk} {y : Lay} {D : Dev} (h : DevAt H b y D) {lf : Nat} (hlf : D.L.length + 1 < lf) (hmax : D.L.length < 1000000) (n : Int) (m : Nat) :
    ret (callS Tryz.prog S0 lf (m + 2) 112 [.ptr (some ⟨b, 0⟩), .int .i64 n] H) fun v H' => v = .tuple [.blk (D.read n), .int .i64 (code D n)] ∧ Turns Z H H' := by
  have t1 := Turns.add Z H (.rows false 64 [[.blk 0]])
  have h' := h.turns t1 id id (fun _ => id)
  have err : ∀ z : Int, z = 2 ∨ z = 9 → code D n = z → ret (callS Tryz.prog S0 lf (m + 2) 112 [.ptr (some ⟨b, 0⟩), .int .i64 n] H) fun v H' => v = .tuple [.blk (D.read n), .int .i64 (code D n)] ∧ Turns Z H H' := by
    intro z hz hc
    have hw : D.read n = 0 := if_neg (by rw [hc]; omega)
    have hz0 : (z == 0) = false := by simp; omega
    refine ret_call rfl c112_eq ?_
    obtain ⟨v, H1, e, rfl, e1⟩ := asks_code h' n lf m
    subst e1
    rw [hc] at e
    simp only [c112, e, hz0, sy, tup, ↓reduceIte, Nat.reduceEqDiff, Nat.reduceAdd, Nat.reduceSub, Nat.reduceMul, Nat.reduceDiv, Nat.reduceMod, Nat.reduceLeDiff, Int.reduceBEq, reduceCtorEq]
    rw [hw, hc]
    exact ⟨trivial, .inr trivial, _, rfl, rfl, t1.setnew (Nat.le_refl _) _⟩
  rcases code_cases D n with ⟨k, rfl, hk, hd, hc⟩ | hc | hc
  · have hw : D.read (k : Int) = readN D k := if_pos hc
    rw [hc, hw]
    have h0 := load0 h'
    have hs := loadS h' hk
    have hn1 : k + 1 ≤ D.S.length := hk
    obtain ⟨v, H1, e, rfl, e1⟩ := asks_code h' (k : Int) lf m
    subst e1
    rw [hc] at e
    have hloop : ∀ (H2 : Heap) (t : T), Turns Z H H2 → H2.get (.run H.next) = some (.rows false 64 [[.blk 0]]) → H2.get (.run (H.next + 1)) = some (.rows false 64 [[.blk D.S[k]]]) → t.getP (Tr.path 0) = some (.ptr (some ⟨b, 0⟩)) → t.getP (Tr.path 1) = some (.int .i64 (k : Int)) → t.getP (Tr.path 4) = some (.ptr (some ⟨.run H.next, 0⟩)) → t.getP (Tr.path 7) = some (.ptr (some ⟨.run (H.next + 1), 0⟩)) → t.getP (Tr.path 8) = some (.int .i64 0) →
        wp (loopF (runC (callS Tryz.prog S0 lf (m + 1)) lf c112_l0) lf ⟨t, H2, []⟩) fun x s =>
          x = .ex 0 ∧ s.d = [] ∧ s.t.getP (Tr.path 4) = some (.ptr (some ⟨.run H.next, 0⟩)) ∧ s.t.getP (Tr.path 7) = some (.ptr (some ⟨.run (H.next + 1), 0⟩)) ∧ Turns Z H s.H ∧ s.H.get (.run H.next) = some (.rows false 64 [[.blk 0]]) ∧ s.H.get (.run (H.next + 1)) = some (.rows false 64 [[.blk (readN D k)]]) := by
      intro H2 t hT2 g0 g1 q0 q1 q4 q7 q8
      refine wp_loopF (fun r s => ∃ i, i + r = D.L.length ∧ s.d = [] ∧ s.t.getP (Tr.path 0) = some (.ptr (some ⟨b, 0⟩)) ∧ s.t.getP (Tr.path 1) = some (.int .i64 (k : Int)) ∧ s.t.getP (Tr.path 4) = some (.ptr (some ⟨.run H.next, 0⟩)) ∧ s.t.getP (Tr.path 7) = some (.ptr (some ⟨.run (H.next + 1), 0⟩)) ∧ s.t.getP (Tr.path 8) = some (.int .i64 (i : Int)) ∧ Turns Z H s.H ∧ s.H.get (.run H.next) = some (.rows false 64 [[.blk 0]]) ∧ s.H.get (.run (H.next + 1)) = some (.rows false 64 [[.blk (seen D.S D.L k i)]])) ?_ lf D.L.length _ ⟨0, by simp, rfl, q0, q1, q4, q7, q8, hT2, g0, by
        have : seen D.S D.L k 0 = D.S[k] := getD_lt hk
        rw [this]; exact g1⟩ (by omega)
      rintro r ⟨t, HH, d⟩ ⟨i, hi, rfl, q0, q1, q4, q7, q8, hT, g0, g1⟩
      dsimp only at q0 q1 q4 q7 q8 hT g0 g1
      have hH := h.turns hT id id (fun _ => id)
      have h1 := load1 hH
      cases r with
      | zero =>
        have hi : i = D.L.length := by omega
        subst hi
        have hg : ¬ (D.L.length < D.L.length) := Nat.lt_irrefl _
        have hs : seen D.S D.L k D.L.length = readN D k := by unfold seen readN; rw [List.take_length]; rfl
        rw [hs] at g1
        simp only [c112_l0, q0, q1, q4, q7, q8, h1, hg, sy, tup, ↓reduceIte, Nat.reduceEqDiff, Nat.reduceAdd, Nat.reduceSub, Nat.reduceMul, Nat.reduceDiv, Nat.reduceMod, Nat.reduceLeDiff, Int.reduceBEq, reduceCtorEq]
        exact ⟨trivial, trivial, trivial, trivial, hT, g0, g1⟩
      | succ r =>
        have hi' : i < D.L.length := by omega
        have hi1 : i + 1 ≤ D.L.length := hi'
        have hp := (h.loose (fun e => by rw [e] at hi'; simp at hi')).1
        have l1 := loadL1 hH hi'
        have l2 := loadL2 hH hi'
        have st := cell_store (v := D.L[i].2) g1
        have hw : IntKind.i64.wrap ((i : Int) + 1) = ((i + 1 : Nat) : Int) := by rw [wrap_i64 (by omega)]; rfl
        by_cases hx : D.L[i].1 = k
        · simp only [c112_l0, q0, q1, q4, q7, q8, h1, hp, hi', hi1, l1, l2, hx, st, hw, sy, tup, ↓reduceIte, Nat.reduceEqDiff, Nat.reduceAdd, Nat.reduceSub, Nat.reduceMul, Nat.reduceDiv, Nat.reduceMod, Nat.reduceLeDiff, Int.reduceBEq, reduceCtorEq]
          refine ⟨r, Nat.lt_succ_self r, i + 1, by omega, trivial, trivial, trivial, trivial, trivial, rfl, hT.setnew (by omega) _, ?_, ?_⟩
          · rw [Heap.get_set, if_neg (by simp)]; exact g0
          · rw [Heap.get_set, if_pos rfl, seen_succ hi', if_pos hx]
        · have hx' : (((D.L[i].1 : Nat) : Int) == (k : Int)) = false := by simp; omega
          simp only [c112_l0, q0, q1, q4, q7, q8, h1, hp, hi', hi1, l1, l2, hx', hw, sy, tup, ↓reduceIte, Nat.reduceEqDiff, Nat.reduceAdd, Nat.reduceSub, Nat.reduceMul, Nat.reduceDiv, Nat.reduceMod, Nat.reduceLeDiff, Int.reduceBEq, reduceCtorEq]
          refine ⟨r, Nat.lt_succ_self r, i + 1, by omega, trivial, trivial, trivial, trivial, trivial, rfl, hT, g0, ?_⟩
          rw [seen_succ hi', if_neg hx]; exact g1
    have st0 : storeAt ((H.add (.rows false 64 [[.blk 0]])).add (.rows false 64 [[.blk 0]])) ⟨.run (H.next + 1), 0⟩ [.blk D.S[k]] = _ := store_new _ _ _
    refine ret_call rfl c112_eq ?_
    simp only [c112, e, h0, hs, hn1, st0, sy, tup, ↓reduceIte, Nat.reduceEqDiff, Nat.reduceAdd, Nat.reduceSub, Nat.reduceMul, Nat.reduceDiv, Nat.reduceMod, Nat.reduceLeDiff, Int.reduceBEq, reduceCtorEq]
    refine wp_ctx (F := fun r => seqC _ _ _ (blockC _ r)) (hloop _ _ (((t1.addm _).setnew (by omega) _)) ?_ ?_ ?_ ?_ ?_ ?_ ?_) ?_
    · rw [Heap.get_set, if_neg (by simp), Heap.get_add, if_neg (by simp), Heap.get_add, if_pos rfl]
    · rw [Heap.get_set, if_pos rfl]
    · simp only [sy, tup, ↓reduceIte, Nat.reduceEqDiff, Nat.reduceAdd, Nat.reduceSub, Nat.reduceMul, Nat.reduceDiv, Nat.reduceMod, Nat.reduceLeDiff, Int.reduceBEq, reduceCtorEq]
    · simp only [sy, tup, ↓reduceIte, Nat.reduceEqDiff, Nat.reduceAdd, Nat.reduceSub, Nat.reduceMul, Nat.reduceDiv, Nat.reduceMod, Nat.reduceLeDiff, Int.reduceBEq, reduceCtorEq]
    · simp only [sy, tup, ↓reduceIte, Nat.reduceEqDiff, Nat.reduceAdd, Nat.reduceSub, Nat.reduceMul, Nat.reduceDiv, Nat.reduceMod, Nat.reduceLeDiff, Int.reduceBEq, reduceCtorEq]
    · simp only [sy, tup, ↓reduceIte, Nat.reduceEqDiff, Nat.reduceAdd, Nat.reduceSub, Nat.reduceMul, Nat.reduceDiv, Nat.reduceMod, Nat.reduceLeDiff, Int.reduceBEq, reduceCtorEq]
    · simp only [sy, tup, ↓reduceIte, Nat.reduceEqDiff, Nat.reduceAdd, Nat.reduceSub, Nat.reduceMul, Nat.reduceDiv, Nat.reduceMod, Nat.reduceLeDiff, Int.reduceBEq, reduceCtorEq]
    rintro x ⟨t, HH, d⟩ ⟨rfl, rfl, q4, q7, hT, g0, g1⟩
    dsimp only at q4 q7 hT g0 g1
    have ld := load_of g1
    have st := cell_store (v := readN D k) g0
    simp only [q4, q7, ld, st, sy, tup, ↓reduceIte, Nat.reduceEqDiff, Nat.reduceAdd, Nat.reduceSub, Nat.reduceMul, Nat.reduceDiv, Nat.reduceMod, Nat.reduceLeDiff, Int.reduceBEq, reduceCtorEq]
    exact ⟨trivial, .inr trivial, _, rfl, rfl, hT.setnew (Nat.le_refl _) _⟩
  · exact err 2 (.inl rfl) hc
  · exact err 9 (.inr rfl) hc

theorem rflush_all {H : Heap} {b : Bk} {y : Lay} {D : Dev} (h : DevAt H b y D) (hok : ∀ w ∈ D.L, w.1 < D.S.length) (hmax : D.L.length < 1000000) {lf : Nat} (hlf : D.L.length + 1 < lf) (m : Nat) :
    ret (callS Tryz.prog S0 lf (m + 1) 62 [.ptr (some ⟨b, 0⟩)] H) fun v H' => v = .int .i64 (fcode D) ∧ ∃ y', Next H b y D H' y' D.flush := by
  have h2 := load2 h
  rcases Bool.eq_false_or_eq_true D.dead with hd | hd
  · skip
    have e1 : fcode D = 9 := by unfold fcode; rw [hd]; rfl
    have e2 : D.flush = D := by unfold Dev.flush; rw [hd]; rfl
    rw [e1, e2]
    refine ret_call rfl c62_eq ?_
    simp only [c62, h2, hd, sy, tup, ↓reduceIte, Nat.reduceEqDiff, Nat.reduceAdd, Nat.reduceSub, Nat.reduceMul, Nat.reduceDiv, Nat.reduceMod, Nat.reduceLeDiff, Int.reduceBEq, reduceCtorEq]
    exact ⟨trivial, .inr trivial, _, rfl, rfl, y, Next.idle h (Turns.refl _ _)⟩
  · skip
    have e1 : fcode D = 0 := by unfold fcode; rw [hd]; rfl
    have e2 : D.flush = { D with S := flushS D.S D.L, L := [] } := by unfold Dev.flush; rw [hd]; rfl
    rw [e1, e2]
    have hloop : ∀ t : T, t.getP (Tr.path 0) = some (.ptr (some ⟨b, 0⟩)) → t.getP (Tr.path 3) = some (.int .i64 0) →
        wp (loopF (runC (callS Tryz.prog S0 lf m) lf c62_l0) lf ⟨t, H, []⟩) fun x s =>
          x = .ex 0 ∧ s.d = [] ∧ s.t.getP (Tr.path 0) = some (.ptr (some ⟨b, 0⟩)) ∧ DevAt s.H b y { D with S := flushS D.S D.L } ∧ Turns (Foot b y D) H s.H := by
      intro t q0 q3
      refine wp_loopF (fun r s => ∃ i, i + r = D.L.length ∧ s.d = [] ∧ s.t.getP (Tr.path 0) = some (.ptr (some ⟨b, 0⟩)) ∧ s.t.getP (Tr.path 3) = some (.int .i64 (i : Int)) ∧ DevAt s.H b y { D with S := flushS D.S (D.L.take i) } ∧ Turns (Foot b y D) H s.H) ?_ lf D.L.length _ ⟨0, by simp, rfl, q0, q3, h, Turns.refl _ _⟩ (by omega)
      rintro r ⟨t, HH, d⟩ ⟨i, hi, rfl, q0, q3, hD, hT⟩
      dsimp only at q0 q3 hD hT
      have l0 := load0 hD
      have l1 := load1 hD
      cases r with
      | zero =>
        have hi : i = D.L.length := by omega
        subst hi
        rw [List.take_length] at hD
        have hg : ¬ (D.L.length < D.L.length) := Nat.lt_irrefl _
        simp only [c62_l0, q0, q3, l1, hg, sy, tup, ↓reduceIte, Nat.reduceEqDiff, Nat.reduceAdd, Nat.reduceSub, Nat.reduceMul, Nat.reduceDiv, Nat.reduceMod, Nat.reduceLeDiff, Int.reduceBEq, reduceCtorEq]
        exact ⟨trivial, trivial, trivial, hD, hT⟩
      | succ r =>
        have hi' : i < D.L.length := by omega
        have hi1 : i + 1 ≤ D.L.length := hi'
        have hp := (h.loose (fun e => by rw [e] at hi'; simp at hi')).1
        have ll1 := loadL1 hD hi'
        have ll2 := loadL2 hD hi'
        have hn : D.L[i].1 < (flushS D.S (D.L.take i)).length := by rw [flushS_length]; exact hok _ (List.getElem_mem _)
        have hn1 : D.L[i].1 + 1 ≤ (flushS D.S (D.L.take i)).length := hn
        have st := storeS hD hn D.L[i].2
        have hw : IntKind.i64.wrap ((i : Int) + 1) = ((i + 1 : Nat) : Int) := by rw [wrap_i64 (by omega)]; rfl
        simp only [c62_l0, q0, q3, l0, l1, hp, hi', hi1, hn1, ll1, ll2, st, hw, sy, tup, ↓reduceIte, Nat.reduceEqDiff, Nat.reduceAdd, Nat.reduceSub, Nat.reduceMul, Nat.reduceDiv, Nat.reduceMod, Nat.reduceLeDiff, Int.reduceBEq, reduceCtorEq]
        rw [endD_ok (by kernel_rfl) (by kernel_rfl)]
        simp only [q0, q3, hw, sy, tup, ↓reduceIte, Nat.reduceEqDiff, Nat.reduceAdd, Nat.reduceSub, Nat.reduceMul, Nat.reduceDiv, Nat.reduceMod, Nat.reduceLeDiff, Int.reduceBEq, reduceCtorEq]
        refine ⟨r, Nat.lt_succ_self r, i + 1, by omega, trivial, trivial, rfl, ?_, hT.setm (.inr (.inl rfl)) _⟩
        rw [flushS_take hi']
        exact hD.setS (by simp)
    refine ret_call rfl c62_eq ?_
    simp only [c62, h2, hd, sy, tup, ↓reduceIte, Nat.reduceEqDiff, Nat.reduceAdd, Nat.reduceSub, Nat.reduceMul, Nat.reduceDiv, Nat.reduceMod, Nat.reduceLeDiff, Int.reduceBEq, reduceCtorEq]
    refine wp_ctx (F := fun r => seqC _ _ _ (blockC _ r)) (hloop _ ?_ ?_) ?_
    · simp only [sy, tup, ↓reduceIte, Nat.reduceEqDiff, Nat.reduceAdd, Nat.reduceSub, Nat.reduceMul, Nat.reduceDiv, Nat.reduceMod, Nat.reduceLeDiff, Int.reduceBEq, reduceCtorEq]
    · simp only [sy, tup, ↓reduceIte, Nat.reduceEqDiff, Nat.reduceAdd, Nat.reduceSub, Nat.reduceMul, Nat.reduceDiv, Nat.reduceMod, Nat.reduceLeDiff, Int.reduceBEq, reduceCtorEq]
    rintro x ⟨t, HH, d⟩ ⟨rfl, rfl, q0, hD, hT⟩
    dsimp only at q0 hD hT
    have st := storeNil hD
    simp only [q0, st, sy, tup, ↓reduceIte, Nat.reduceEqDiff, Nat.reduceAdd, Nat.reduceSub, Nat.reduceMul, Nat.reduceDiv, Nat.reduceMod, Nat.reduceLeDiff, Int.reduceBEq, reduceCtorEq]
    refine ⟨trivial, .inr trivial, _, rfl, rfl, { y with p := none, o := 0 }, ?_, hT.setm (.inl rfl) _, rfl, fun e => absurd rfl e⟩
    simpa only [hd] using hD.clear D.dead

theorem clamp_zero : clampN 0 = 0 := by decide
theorem torn_zero (old now : Nat) : tornN old now 0 = old := rfl
/-- the picks, and 0 where there is none -/
def pickAt (P : List Int) (i : Nat) : Int := P.getD i 0
def crashR (S : List Nat) (L : List (Nat × Nat)) (P : List Int) (i : Nat) : List Nat := (List.range i).foldl (fun S j => S.set (L.getD j (0, 0)).1 (tornN (S.getD (L.getD j (0, 0)).1 0) (L.getD j (0, 0)).2 (clampN (pickAt P j)))) S
theorem crashR_succ (S : List Nat) (L : List (Nat × Nat)) (P : List Int) (i : Nat) : crashR S L P (i + 1) = (crashR S L P i).set (L.getD i (0, 0)).1 (tornN ((crashR S L P i).getD (L.getD i (0, 0)).1 0) (L.getD i (0, 0)).2 (clampN (pickAt P i))) := by
  unfold crashR
  rw [List.range_succ, List.foldl_append]; rfl
theorem crashR_length (S : List Nat) (L : List (Nat × Nat)) (P : List Int) : ∀ i, (crashR S L P i).length = S.length
  | 0 => rfl
  | i + 1 => by rw [crashR_succ, List.length_set, crashR_length S L P i]
theorem set_getD (S : List Nat) (n : Nat) : S.set n (S.getD n 0) = S := by
  by_cases h : n < S.length
  · rw [getD_lt h]; exact List.set_getElem_self h
  · exact List.set_eq_of_length_le (by omega)
theorem crashR_take (S : List Nat) (L : List (Nat × Nat)) (P : List Int) : ∀ i, i ≤ L.length → crashR S L P i = crashS S ((L.zip P).take i)
  | 0, _ => rfl
  | i + 1, hi => by
    have hi' : i < L.length := by omega
    rw [crashR_succ, crashR_take S L P i (by omega)]
    have hL : L.getD i (0, 0) = L[i] := by simp [List.getD, hi']
    by_cases hP : i < P.length
    · have hz : i < (L.zip P).length := by rw [List.length_zip]; omega
      rw [crashS_take hz, List.getElem_zip, hL]
      have : pickAt P i = P[i] := by simp [pickAt, List.getD, hP]
      rw [this]
    · have : pickAt P i = 0 := by simp [pickAt, List.getD, hP]
      rw [this, clamp_zero, torn_zero, set_getD]
      rw [List.take_of_length_le (by rw [List.length_zip]; omega), List.take_of_length_le (by rw [List.length_zip]; omega)]

end Go.Proofs.YtpmdbbdidafehaaGreat.disk


/-
  The document's bench in the machine's heap: whatever is asked of whatever device.
-/
set_option linter.unusedVariables false
set_option linter.unusedSectionVars false
set_option linter.unusedSimpArgs false
set_option maxRecDepth 10000
namespace Go.Proofs.YtpmdbbdidafehaaGreat.disk
open Go.Am

/-- (*ashlar/ashlarref06.Bench).Write -/
noncomputable def c10 : CFn := ⟨[.tmp (pp 8)],
 .seq (.reg [
 qo 7 (.m (boxF 64 (tt 3))) [pp 3],
 qo 8 (.p (S.get (ii 0))) []]) (
 .seq (.reg [
 mv 10 0,
 mv 11 1,
 qo 12 (.c (callF (ff 52) [(tt 10), (tt 11)])) [pp 10, pp 11],
 mv 9 12]) (
 .seq (.seq (.reg [
 mv 13 9,
 qo 14 (.p (eqcF true false [.int .i64] (tt 13) (ii 0))) [pp 13]]) (
 .cond (tt 14) (.seq (.reg [
 mv 15 9,
 mv 8 15]) (
 .ret)) (.skip))) (
 .seq (.reg [
 mv 16 0,
 qo 17 (.p (nilcF (tt 16))) [pp 16],
 qo 18 (.p (faddrF (tt 17) 0)) [pp 17],
 qo 19 (.r (loadF (tt 18) 1 .sc)) [pp 18],
 mv 20 1,
 qo 21 (.p (iaddrSF (tt 19) (tt 20) 1)) [pp 19, pp 20],
 qo 22 (.r (loadF (tt 21) 1 .sc)) [pp 21],
 mv 23 2,
 qo 24 (.c (callF (ff 53) [(tt 22), (tt 23)])) [pp 22, pp 23],
 mv 9 24]) (
 .seq (.seq (.reg [
 mv 25 9,
 qo 26 (.p (eqcF true false [.int .i64] (tt 25) (ii 0))) [pp 25]]) (
 .cond (tt 26) (.seq (.reg [
 mv 27 9,
 mv 8 27]) (
 .ret)) (.skip))) (
 .seq (.reg [
 mv 28 0,
 qo 29 (.c (callF (ff 54) [(tt 28)])) [pp 28],
 mv 9 29]) (
 .seq (.seq (.reg [
 mv 30 9,
 qo 31 (.p (eqcF true false [.int .i64] (tt 30) (ii 0))) [pp 30]]) (
 .cond (tt 31) (.seq (.reg [
 mv 32 9,
 mv 8 32]) (
 .ret)) (.skip))) (
 .seq (.regD [
 mv 33 0,
 qo 34 (.p (nilcF (tt 33))) [pp 33],
 qo 35 (.p (faddrF (tt 34) 0)) [pp 34],
 qo 36 (.r (loadF (tt 35) 1 .sc)) [pp 35],
 mv 37 1,
 qo 38 (.p (iaddrSF (tt 36) (tt 37) 1)) [pp 36, pp 37],
 qo 39 (.r (loadF (tt 38) 1 .sc)) [pp 38],
 mv 40 2,
 qo 41 (.r (loadF (tt 7) 64 .bk)) [pp 7],
 qo 42 (.c (callF (ff 55) [(tt 39), (tt 40), (tt 41)])) [pp 39, pp 40, pp 41],
 mv 8 42] [0, 1, 3, 7, 0, 31, 63, 0, 0, 511, 1023]) (
 .ret))))))))⟩
theorem c10_eq : fnOf Tryz.prog 10 = some c10 := by kernel_rfl

/-- (*ashlar/ashlarref06.Bench).Read -/
noncomputable def c68 : CFn := ⟨[.cell (pp 6) 64 .bk, .tmp (pp 7)],
 .seq (.reg [
 qo 6 (.m (allocF 64 [.blk 0])) [],
 qo 7 (.p (S.get (ii 0))) []]) (
 .seq (.reg [
 mv 9 0,
 mv 10 1,
 qo 11 (.c (callF (ff 52) [(tt 9), (tt 10)])) [pp 9, pp 10],
 mv 8 11]) (
 .seq (.seq (.reg [
 mv 12 8,
 qo 13 (.p (eqcF true false [.int .i64] (tt 12) (ii 0))) [pp 12]]) (
 .cond (tt 13) (.seq (.reg [
 qo 14 (.p (buildF [.blk 0] .bk [])) [],
 mv 15 8,
 qn (.a (storeF (tt 6) (tt 14) 64)) [pp 6, pp 14],
 mv 7 15]) (
 .ret)) (.skip))) (
 .seq (.reg [
 mv 16 0,
 qo 17 (.p (nilcF (tt 16))) [pp 16],
 qo 18 (.p (faddrF (tt 17) 0)) [pp 17],
 qo 19 (.r (loadF (tt 18) 1 .sc)) [pp 18],
 mv 20 1,
 qo 21 (.p (iaddrSF (tt 19) (tt 20) 1)) [pp 19, pp 20],
 qo 22 (.r (loadF (tt 21) 1 .sc)) [pp 21],
 mv 23 2,
 qo 24 (.c (callF (ff 112) [(tt 22), (tt 23)])) [pp 22, pp 23],
 qo 25 (.p (extF (tt 24) 0)) [pp 24],
 qo 26 (.p (extF (tt 24) 1)) [pp 24],
 qn (.a (storeF (tt 6) (tt 25) 64)) [pp 6, pp 25],
 mv 7 26]) (
 .ret))))⟩
theorem c68_eq : fnOf Tryz.prog 68 = some c68 := by kernel_rfl

/-- (*ashlar/ashlarref06.Bench).Flush -/
noncomputable def c16 : CFn := ⟨[.tmp (pp 4)],
 .seq (.reg [
 qo 4 (.p (S.get (ii 0))) []]) (
 .seq (.reg [
 mv 6 0,
 mv 7 1,
 qo 8 (.c (callF (ff 52) [(tt 6), (tt 7)])) [pp 6, pp 7],
 mv 5 8]) (
 .seq (.seq (.reg [
 mv 9 5,
 qo 10 (.p (eqcF true false [.int .i64] (tt 9) (ii 0))) [pp 9]]) (
 .cond (tt 10) (.seq (.reg [
 mv 11 5,
 mv 4 11]) (
 .ret)) (.skip))) (
 .seq (.seq (.reg [
 mv 12 0,
 qo 13 (.p (nilcF (tt 12))) [pp 12],
 qo 14 (.p (faddrF (tt 13) 0)) [pp 13],
 qo 15 (.r (loadF (tt 14) 1 .sc)) [pp 14],
 mv 16 1,
 qo 17 (.p (iaddrSF (tt 15) (tt 16) 1)) [pp 15, pp 16],
 qo 18 (.r (loadF (tt 17) 1 .sc)) [pp 17],
 qo 19 (.p (nilcF (tt 18))) [pp 18],
 qo 20 (.p (faddrF (tt 19) 2)) [pp 19],
 qo 21 (.r (loadF (tt 20) 1 .sc)) [pp 20]]) (
 .cond (tt 21) (.seq (.reg [
 qo 4 (.p (S.get (ii 9))) []]) (
 .ret)) (.skip))) (
 .seq (.reg [
 mv 22 0,
 qo 23 (.c (callF (ff 54) [(tt 22)])) [pp 22],
 mv 5 23]) (
 .seq (.seq (.reg [
 mv 24 5,
 qo 25 (.p (eqcF true false [.int .i64] (tt 24) (ii 0))) [pp 24]]) (
 .cond (tt 25) (.seq (.reg [
 mv 26 5,
 mv 4 26]) (
 .ret)) (.skip))) (
 .seq (.reg [
 mv 27 0,
 qo 28 (.p (nilcF (tt 27))) [pp 27],
 qo 29 (.p (faddrF (tt 28) 0)) [pp 28],
 qo 30 (.r (loadF (tt 29) 1 .sc)) [pp 29],
 mv 31 1,
 qo 32 (.p (iaddrSF (tt 30) (tt 31) 1)) [pp 30, pp 31],
 qo 33 (.r (loadF (tt 32) 1 .sc)) [pp 32],
 qo 34 (.c (callF (ff 62) [(tt 33)])) [pp 33],
 mv 4 34]) (
 .ret)))))))⟩
theorem c16_eq : fnOf Tryz.prog 16 = some c16 := by kernel_rfl

/-- (*ashlar/ashlarref06.Bench).Fail -/
noncomputable def c12 : CFn := ⟨[.tmp (pp 4)],
 .seq (.reg [
 qo 4 (.p (S.get (ii 0))) []]) (
 .seq (.seq (.reg [
 mv 5 0,
 mv 6 1,
 qo 7 (.c (callF (ff 58) [(tt 5), (tt 6)])) [pp 5, pp 6],
 qo 8 (.p (unF .not (tt 7))) [pp 7]]) (
 .cond (tt 8) (.seq (.reg [
 qo 4 (.p (S.get (ii 2))) []]) (
 .ret)) (.skip))) (
 .seq (.reg [
 mv 9 0,
 qo 10 (.p (nilcF (tt 9))) [pp 9],
 qo 11 (.p (faddrF (tt 10) 0)) [pp 10],
 qo 12 (.r (loadF (tt 11) 1 .sc)) [pp 11],
 mv 13 1,
 qo 14 (.p (iaddrSF (tt 12) (tt 13) 1)) [pp 12, pp 13],
 qo 15 (.r (loadF (tt 14) 1 .sc)) [pp 14],
 qo 16 (.c (callF (ff 59) [(tt 15)])) [pp 15]]) (
 .seq (.reg [
 qo 4 (.p (S.get (ii 0))) []]) (
 .ret))))⟩
theorem c12_eq : fnOf Tryz.prog 12 = some c12 := by kernel_rfl

/-- (*ashlar/ashlarref06.Bench).Arm -/
noncomputable def c14 : CFn := ⟨[.tmp (pp 4)],
 .seq (.reg [
 qo 4 (.p (S.get (ii 0))) []]) (
 .seq (.seq (.reg [
 mv 5 0,
 qo 6 (.p (nilcF (tt 5))) [pp 5],
 qo 7 (.p (faddrF (tt 6) 2)) [pp 6],
 qo 8 (.r (loadF (tt 7) 1 .sc)) [pp 7]]) (
 .cond (tt 8) (.seq (.reg [
 qo 4 (.p (S.get (ii 8))) []]) (
 .ret)) (.skip))) (
 .seq (.seq (.reg [
 mv 9 1,
 qo 10 (.p (arF .lss (tt 9) (ii 0))) [pp 9]]) (
 .cond (tt 10) (.seq (.reg [
 qo 4 (.p (S.get (ii 2))) []]) (
 .ret)) (.skip))) (
 .seq (.reg [
 mv 11 0,
 mv 12 1,
 qo 13 (.p (nilcF (tt 11))) [pp 11],
 qo 14 (.p (faddrF (tt 13) 1)) [pp 13],
 qn (.a (storeF (tt 14) (tt 12) 1)) [pp 14, pp 12]]) (
 .seq (.reg [
 qo 4 (.p (S.get (ii 0))) []]) (
 .ret)))))⟩
theorem c14_eq : fnOf Tryz.prog 14 = some c14 := by kernel_rfl

/-- (*ashlar/ashlarref06.Bench).Sure -/
noncomputable def c84 : CFn := ⟨[.cell (pp 6) 64 .bk, .tmp (pp 7)],
 .seq (.reg [
 qo 6 (.m (allocF 64 [.blk 0])) [],
 qo 7 (.p (S.get (ii 0))) []]) (
 .seq (.seq (.reg [
 mv 8 0,
 mv 9 1,
 qo 10 (.c (callF (ff 58) [(tt 8), (tt 9)])) [pp 8, pp 9],
 qo 11 (.p (unF .not (tt 10))) [pp 10]]) (
 .cond (tt 11) (.seq (.reg [
 qo 12 (.p (buildF [.blk 0] .bk [])) [],
 qn (.a (storeF (tt 6) (tt 12) 64)) [pp 6, pp 12],
 qo 7 (.p (S.get (ii 2))) []]) (
 .ret)) (.skip))) (
 .seq (.reg [
 mv 13 0,
 qo 14 (.p (nilcF (tt 13))) [pp 13],
 qo 15 (.p (faddrF (tt 14) 0)) [pp 14],
 qo 16 (.r (loadF (tt 15) 1 .sc)) [pp 15],
 mv 17 1,
 qo 18 (.p (iaddrSF (tt 16) (tt 17) 1)) [pp 16, pp 17],
 qo 19 (.r (loadF (tt 18) 1 .sc)) [pp 18],
 mv 20 2,
 qo 21 (.c (callF (ff 121) [(tt 19), (tt 20)])) [pp 19, pp 20],
 qo 22 (.p (extF (tt 21) 0)) [pp 21],
 qo 23 (.p (extF (tt 21) 1)) [pp 21],
 qn (.a (storeF (tt 6) (tt 22) 64)) [pp 6, pp 22],
 mv 7 23]) (
 .ret)))⟩
theorem c84_eq : fnOf Tryz.prog 84 = some c84 := by kernel_rfl

/-- (*ashlar/ashlarref06.Bench).Devices -/
noncomputable def c17 : CFn := ⟨[.tmp (pp 2)],
 .seq (.reg [
 qo 2 (.p (S.get (ii 0))) []]) (
 .seq (.reg [
 mv 3 0,
 qo 4 (.p (nilcF (tt 3))) [pp 3],
 qo 5 (.p (faddrF (tt 4) 0)) [pp 4],
 qo 6 (.r (loadF (tt 5) 1 .sc)) [pp 5],
 qo 7 (.p (lenF (tt 6))) [pp 6],
 mv 2 7]) (
 .ret))⟩
theorem c17_eq : fnOf Tryz.prog 17 = some c17 := by kernel_rfl

/-- (*ashlar/ashlarref06.Bench).Dark -/
noncomputable def c67 : CFn := ⟨[.tmp (pp 2)],
 .seq (.reg [
 qo 2 (.p (S.get (.c (.bool false)))) []]) (
 .seq (.reg [
 mv 3 0,
 qo 4 (.p (nilcF (tt 3))) [pp 3],
 qo 5 (.p (faddrF (tt 4) 2)) [pp 4],
 qo 6 (.r (loadF (tt 5) 1 .sc)) [pp 5],
 mv 2 6]) (
 .ret))⟩
theorem c67_eq : fnOf Tryz.prog 67 = some c67 := by kernel_rfl

/-- (*ashlar/ashlarref06.Bench).Steps -/
noncomputable def c83 : CFn := ⟨[.tmp (pp 2)],
 .seq (.reg [
 qo 2 (.p (S.get (ii 0))) []]) (
 .seq (.reg [
 mv 3 0,
 qo 4 (.p (nilcF (tt 3))) [pp 3],
 qo 5 (.p (faddrF (tt 4) 3)) [pp 4],
 qo 6 (.r (loadF (tt 5) 1 .sc)) [pp 5],
 mv 2 6]) (
 .ret))⟩
theorem c83_eq : fnOf Tryz.prog 83 = some c83 := by kernel_rfl

/-- (*ashlar/ashlarref06.Bench).Sectors -/
noncomputable def c81 : CFn := ⟨[.tmp (pp 4)],
 .seq (.reg [
 qo 4 (.p (S.get (ii 0))) []]) (
 .seq (.seq (.reg [
 mv 5 0,
 mv 6 1,
 qo 7 (.c (callF (ff 58) [(tt 5), (tt 6)])) [pp 5, pp 6],
 qo 8 (.p (unF .not (tt 7))) [pp 7]]) (
 .cond (tt 8) (.seq (.reg [
 qo 4 (.p (S.get (ii 0))) []]) (
 .ret)) (.skip))) (
 .seq (.reg [
 mv 9 0,
 qo 10 (.p (nilcF (tt 9))) [pp 9],
 qo 11 (.p (faddrF (tt 10) 0)) [pp 10],
 qo 12 (.r (loadF (tt 11) 1 .sc)) [pp 11],
 mv 13 1,
 qo 14 (.p (iaddrSF (tt 12) (tt 13) 1)) [pp 12, pp 13],
 qo 15 (.r (loadF (tt 14) 1 .sc)) [pp 14],
 qo 16 (.p (nilcF (tt 15))) [pp 15],
 qo 17 (.p (faddrF (tt 16) 0)) [pp 16],
 qo 18 (.r (loadF (tt 17) 1 .sc)) [pp 17],
 qo 19 (.p (lenF (tt 18))) [pp 18],
 mv 4 19]) (
 .ret)))⟩
theorem c81_eq : fnOf Tryz.prog 81 = some c81 := by kernel_rfl

/-- (*ashlar/ashlarref06.Bench).asks -/
noncomputable def c52 : CFn := ⟨[.tmp (pp 4)],
 .seq (.reg [
 qo 4 (.p (S.get (ii 0))) []]) (
 .seq (.seq (.reg [
 mv 5 0,
 qo 6 (.p (nilcF (tt 5))) [pp 5],
 qo 7 (.p (faddrF (tt 6) 2)) [pp 6],
 qo 8 (.r (loadF (tt 7) 1 .sc)) [pp 7]]) (
 .cond (tt 8) (.seq (.reg [
 qo 4 (.p (S.get (ii 8))) []]) (
 .ret)) (.skip))) (
 .seq (.seq (.reg [
 mv 9 0,
 mv 10 1,
 qo 11 (.c (callF (ff 58) [(tt 9), (tt 10)])) [pp 9, pp 10],
 qo 12 (.p (unF .not (tt 11))) [pp 11]]) (
 .cond (tt 12) (.seq (.reg [
 qo 4 (.p (S.get (ii 2))) []]) (
 .ret)) (.skip))) (
 .seq (.reg [
 qo 4 (.p (S.get (ii 0))) []]) (
 .ret))))⟩
theorem c52_eq : fnOf Tryz.prog 52 = some c52 := by kernel_rfl

/-- (*ashlar/ashlarref06.Bench).step -/
noncomputable def c54 : CFn := ⟨[.tmp (pp 2)],
 .seq (.reg [
 qo 2 (.p (S.get (ii 0))) []]) (
 .seq (.seq (.reg [
 mv 3 0,
 qo 4 (.p (nilcF (tt 3))) [pp 3],
 qo 5 (.p (faddrF (tt 4) 1)) [pp 4],
 qo 6 (.r (loadF (tt 5) 1 .sc)) [pp 5],
 qo 7 (.p (eqcF false false [.int .i64] (tt 6) (ii 1))) [pp 6]]) (
 .cond (tt 7) (.seq (.reg [
 mv 8 0,
 qo 9 (.p (nilcF (tt 8))) [pp 8],
 qo 10 (.p (faddrF (tt 9) 2)) [pp 9],
 qn (.a (storeF (tt 10) (.c (.bool true)) 1)) [pp 10]]) (
 .seq (.reg [
 qo 2 (.p (S.get (ii 8))) []]) (
 .ret))) (.skip))) (
 .seq (.seq (.reg [
 mv 11 0,
 qo 12 (.p (nilcF (tt 11))) [pp 11],
 qo 13 (.p (faddrF (tt 12) 1)) [pp 12],
 qo 14 (.r (loadF (tt 13) 1 .sc)) [pp 13],
 qo 15 (.p (arF .gtr (tt 14) (ii 1))) [pp 14]]) (
 .cond (tt 15) (.reg [
 mv 16 0,
 qo 17 (.p (nilcF (tt 16))) [pp 16],
 qo 18 (.p (faddrF (tt 17) 1)) [pp 17],
 qo 19 (.r (loadF (tt 18) 1 .sc)) [pp 18],
 qo 20 (.p (arF .sub (tt 19) (ii 1))) [pp 19],
 qo 21 (.p (nilcF (tt 16))) [pp 16],
 qo 22 (.p (faddrF (tt 21) 1)) [pp 21],
 qn (.a (storeF (tt 22) (tt 20) 1)) [pp 22, pp 20]]) (.skip))) (
 .seq (.reg [
 mv 23 0,
 qo 24 (.p (nilcF (tt 23))) [pp 23],
 qo 25 (.p (faddrF (tt 24) 3)) [pp 24],
 qo 26 (.r (loadF (tt 25) 1 .sc)) [pp 25],
 qo 27 (.p (arF .add (tt 26) (ii 1))) [pp 26],
 qo 28 (.p (nilcF (tt 23))) [pp 23],
 qo 29 (.p (faddrF (tt 28) 3)) [pp 28],
 qn (.a (storeF (tt 29) (tt 27) 1)) [pp 29, pp 27]]) (
 .seq (.reg [
 qo 2 (.p (S.get (ii 0))) []]) (
 .ret)))))⟩
theorem c54_eq : fnOf Tryz.prog 54 = some c54 := by kernel_rfl

/-- (*ashlar/ashlarref06.Bench).Has -/
noncomputable def c58 : CFn := ⟨[.tmp (pp 4)],
 .seq (.reg [
 qo 4 (.p (S.get (.c (.bool false)))) []]) (
 .seq (.reg [
 mv 5 1,
 qo 6 (.p (arF .geq (tt 5) (ii 0))) [pp 5],
 mv 7 6,
 mg 8 1 7 true,
 mg 9 0 7 true,
 qg 10 (.p (nilcF (tt 9))) 7 true [pp 9],
 qg 11 (.p (faddrF (tt 10) 0)) 7 true [pp 10],
 qg 12 (.r (loadF (tt 11) 1 .sc)) 7 true [pp 11],
 qg 13 (.p (lenF (tt 12))) 7 true [pp 12],
 qg 14 (.p (arF .lss (tt 8) (tt 13))) 7 true [pp 8, pp 13],
 qo 15 (.p (pickF (tt 7) (tt 14) (.c (.bool false)))) [pp 7, pp 14],
 mv 4 15]) (
 .ret))⟩
theorem c58_eq : fnOf Tryz.prog 58 = some c58 := by kernel_rfl


theorem Rep.own' {H : Heap} {b ds : Bk} {so : Nat} {l : List Dv} {B : Bn} (h : Rep true H b ds so l B) : H.get b = some (.rows false 4 [[.slice (some ⟨ds, 0⟩) l.length l.length so, .int .i64 B.ar, .bool B.dk, .int .i64 B.st]]) := h.row.own

theorem Rep.loadPtr {r : Bool} {H : Heap} {b ds : Bk} {so : Nat} {l : List Dv} {B : Bn} (h : Rep r H b ds so l B) {i : Nat} (hi : i < l.length) : loadAt H ⟨ds, i⟩ 1 = some [.ptr (some ⟨l[i].b, 0⟩)] := by
  rw [loadAt_eq h.row.ptrs (r := [.ptr (some ⟨l[i].b, 0⟩)]) (nth_of (by rw [Nat.div_one]; simp [hi])), Nat.mod_one]
  exact cut_hit _ _ rfl

theorem Rep.put' {H : Heap} {b ds : Bk} {so : Nat} {l : List Dv} {B : Bn} (h : Rep true H b ds so l B) (st ar : Int) (dk : Bool) : RNext true H b ds so l (H.set b (.rows false 4 [[.slice (some ⟨ds, 0⟩) l.length l.length so, .int .i64 ar, .bool dk, .int .i64 st]])) l ⟨B.l, st, ar, dk⟩ :=
  ⟨⟨h.row.put _ _ _, h.map⟩, Turns.set (X := BFoot b ds l) (.inl rfl) _ _, fun c hc => .inl hc⟩

section
variable {H : Heap} {b ds : Bk} {so : Nat} {l : List Dv} {B : Bn} (h : Rep true H b ds so l B)
include h
theorem rload0 : loadAt H ⟨b, 0⟩ 1 = some [.slice (some ⟨ds, 0⟩) l.length l.length so] := by rw [loadAt_eq h.own' (by exact rfl)]; rfl
theorem rload1 : loadAt H ⟨b, 1⟩ 1 = some [.int .i64 B.ar] := by rw [loadAt_eq h.own' (by exact rfl)]; rfl
theorem rload2 : loadAt H ⟨b, 2⟩ 1 = some [.bool B.dk] := by rw [loadAt_eq h.own' (by exact rfl)]; rfl
theorem rload3 : loadAt H ⟨b, 3⟩ 1 = some [.int .i64 B.st] := by rw [loadAt_eq h.own' (by exact rfl)]; rfl
theorem rstore1 (x : Int) : storeAt H ⟨b, 1⟩ [.int .i64 x] = some (H.set b (.rows false 4 [[.slice (some ⟨ds, 0⟩) l.length l.length so, .int .i64 x, .bool B.dk, .int .i64 B.st]])) := storeAt_eq h.own' (r := [.slice (some ⟨ds, 0⟩) l.length l.length so, .int .i64 B.ar, .bool B.dk, .int .i64 B.st]) rfl rfl
theorem rstore2 (x : Bool) : storeAt H ⟨b, 2⟩ [.bool x] = some (H.set b (.rows false 4 [[.slice (some ⟨ds, 0⟩) l.length l.length so, .int .i64 B.ar, .bool x, .int .i64 B.st]])) := storeAt_eq h.own' (r := [.slice (some ⟨ds, 0⟩) l.length l.length so, .int .i64 B.ar, .bool B.dk, .int .i64 B.st]) rfl rfl
theorem rstore3 (x : Int) : storeAt H ⟨b, 3⟩ [.int .i64 x] = some (H.set b (.rows false 4 [[.slice (some ⟨ds, 0⟩) l.length l.length so, .int .i64 B.ar, .bool B.dk, .int .i64 x]])) := storeAt_eq h.own' (r := [.slice (some ⟨ds, 0⟩) l.length l.length so, .int .i64 B.ar, .bool B.dk, .int .i64 B.st]) rfl rfl

theorem rhas (d : Int) (lf m : Nat) : callS Tryz.prog S0 lf (m + 1) 58 [.ptr (some ⟨b, 0⟩), .int .i64 d] H = some (.v (.bool (B.tc d == 0)), H) := by
  have l0 := rload0 h
  obtain ⟨v, H', e, rfl, rfl⟩ : ret (callS Tryz.prog S0 lf (m + 1) 58 [.ptr (some ⟨b, 0⟩), .int .i64 d] H) fun v H' => v = .bool (B.tc d == 0) ∧ H' = H := by
    refine ret_call rfl c58_eq ?_
    by_cases g0 : 0 ≤ d
    · by_cases g1 : d < (l.length : Int)
      · have e : B.tc d = 0 := by unfold Bn.tc tcode; rw [← h.len, if_pos ⟨g0, g1⟩]
        rw [e]
        simp only [c58, l0, g0, g1, sy, tup, ↓reduceIte, Nat.reduceEqDiff, Nat.reduceAdd, Nat.reduceSub, Nat.reduceMul, Nat.reduceDiv, Nat.reduceMod, Nat.reduceLeDiff, Int.reduceBEq, reduceCtorEq]
        exact ⟨trivial, .inr trivial, _, rfl, rfl, trivial⟩
      · have e : B.tc d = 2 := by unfold Bn.tc tcode; rw [← h.len, if_neg (fun e => g1 e.2)]
        rw [e]
        simp only [c58, l0, g0, g1, sy, tup, ↓reduceIte, Nat.reduceEqDiff, Nat.reduceAdd, Nat.reduceSub, Nat.reduceMul, Nat.reduceDiv, Nat.reduceMod, Nat.reduceLeDiff, Int.reduceBEq, reduceCtorEq]
        exact ⟨trivial, .inr trivial, _, rfl, rfl, trivial⟩
    · have e : B.tc d = 2 := by unfold Bn.tc tcode; rw [← h.len, if_neg (fun e => g0 e.1)]
      rw [e]
      simp only [c58, l0, g0, sy, tup, ↓reduceIte, Nat.reduceEqDiff, Nat.reduceAdd, Nat.reduceSub, Nat.reduceMul, Nat.reduceDiv, Nat.reduceMod, Nat.reduceLeDiff, Int.reduceBEq, reduceCtorEq]
      exact ⟨trivial, .inr trivial, _, rfl, rfl, trivial⟩
  exact e

theorem rasks (d : Int) (lf m : Nat) : callS Tryz.prog S0 lf (m + 2) 52 [.ptr (some ⟨b, 0⟩), .int .i64 d] H = some (.v (.int .i64 (B.lc d)), H) := by
  have l2 := rload2 h
  have e1 := rhas h d lf m
  obtain ⟨v, H', e, rfl, rfl⟩ : ret (callS Tryz.prog S0 lf (m + 2) 52 [.ptr (some ⟨b, 0⟩), .int .i64 d] H) fun v H' => v = .int .i64 (B.lc d) ∧ H' = H := by
    refine ret_call rfl c52_eq ?_
    cases hdk : B.dk with
    | true =>
      rw [hdk] at l2
      rw [show B.lc d = 8 from if_pos hdk]
      simp only [c52, l2, sy, tup, ↓reduceIte, Nat.reduceEqDiff, Nat.reduceAdd, Nat.reduceSub, Nat.reduceMul, Nat.reduceDiv, Nat.reduceMod, Nat.reduceLeDiff, Int.reduceBEq, reduceCtorEq]
      exact ⟨trivial, .inr trivial, _, rfl, rfl, trivial⟩
    | false =>
      rw [hdk] at l2
      rw [show B.lc d = B.tc d from if_neg (by rw [hdk]; decide)]
      rcases h.has d with ⟨i, hi, rfl, e, _⟩ | e
      · rw [e] at e1 ⊢
        simp only [c52, l2, e1, sy, tup, ↓reduceIte, Nat.reduceEqDiff, Nat.reduceAdd, Nat.reduceSub, Nat.reduceMul, Nat.reduceDiv, Nat.reduceMod, Nat.reduceLeDiff, Int.reduceBEq, reduceCtorEq]
        exact ⟨trivial, .inr trivial, _, rfl, rfl, trivial⟩
      · rw [e] at e1 ⊢
        have z : ((2 : Int) == 0) = false := rfl
        rw [z] at e1
        simp only [c52, l2, e1, sy, tup, ↓reduceIte, Nat.reduceEqDiff, Nat.reduceAdd, Nat.reduceSub, Nat.reduceMul, Nat.reduceDiv, Nat.reduceMod, Nat.reduceLeDiff, Int.reduceBEq, reduceCtorEq]
        exact ⟨trivial, .inr trivial, _, rfl, rfl, trivial⟩
  exact e

theorem rdevices (lf m : Nat) : callS Tryz.prog S0 lf (m + 1) 17 [.ptr (some ⟨b, 0⟩)] H = some (.v (.int .i64 (l.length : Int)), H) := by
  have l0 := rload0 h
  obtain ⟨v, H', e, rfl, rfl⟩ : ret (callS Tryz.prog S0 lf (m + 1) 17 [.ptr (some ⟨b, 0⟩)] H) fun v H' => v = .int .i64 (l.length : Int) ∧ H' = H := by
    refine ret_call rfl c17_eq ?_
    simp only [c17, l0, sy, tup, ↓reduceIte, Nat.reduceEqDiff, Nat.reduceAdd, Nat.reduceSub, Nat.reduceMul, Nat.reduceDiv, Nat.reduceMod, Nat.reduceLeDiff, Int.reduceBEq, reduceCtorEq]
    exact ⟨trivial, .inr trivial, _, rfl, rfl, trivial⟩
  exact e
theorem rdark (lf m : Nat) : callS Tryz.prog S0 lf (m + 1) 67 [.ptr (some ⟨b, 0⟩)] H = some (.v (.bool B.dk), H) := by
  have l2 := rload2 h
  obtain ⟨v, H', e, rfl, rfl⟩ : ret (callS Tryz.prog S0 lf (m + 1) 67 [.ptr (some ⟨b, 0⟩)] H) fun v H' => v = .bool B.dk ∧ H' = H := by
    refine ret_call rfl c67_eq ?_
    simp only [c67, l2, sy, tup, ↓reduceIte, Nat.reduceEqDiff, Nat.reduceAdd, Nat.reduceSub, Nat.reduceMul, Nat.reduceDiv, Nat.reduceMod, Nat.reduceLeDiff, Int.reduceBEq, reduceCtorEq]
    exact ⟨trivial, .inr trivial, _, rfl, rfl, trivial⟩
  exact e
theorem rsteps (lf m : Nat) : callS Tryz.prog S0 lf (m + 1) 83 [.ptr (some ⟨b, 0⟩)] H = some (.v (.int .i64 B.st), H) := by
  have l3 := rload3 h
  obtain ⟨v, H', e, rfl, rfl⟩ : ret (callS Tryz.prog S0 lf (m + 1) 83 [.ptr (some ⟨b, 0⟩)] H) fun v H' => v = .int .i64 B.st ∧ H' = H := by
    refine ret_call rfl c83_eq ?_
    simp only [c83, l3, sy, tup, ↓reduceIte, Nat.reduceEqDiff, Nat.reduceAdd, Nat.reduceSub, Nat.reduceMul, Nat.reduceDiv, Nat.reduceMod, Nat.reduceLeDiff, Int.reduceBEq, reduceCtorEq]
    exact ⟨trivial, .inr trivial, _, rfl, rfl, trivial⟩
  exact e

theorem rsectors (d : Int) (lf m : Nat) : callS Tryz.prog S0 lf (m + 2) 81 [.ptr (some ⟨b, 0⟩), .int .i64 d] H = some (.v (.int .i64 (B.sectors d)), H) := by
  have e1 := rhas h d lf m
  obtain ⟨v, H', e, rfl, rfl⟩ : ret (callS Tryz.prog S0 lf (m + 2) 81 [.ptr (some ⟨b, 0⟩), .int .i64 d] H) fun v H' => v = .int .i64 (B.sectors d) ∧ H' = H := by
    refine ret_call rfl c81_eq ?_
    rcases h.has d with ⟨i, hi, rfl, e, eD⟩ | e
    · have hw : B.sectors (i : Int) = (l[i].D.S.length : Int) := by rw [← eD]; exact if_pos e
      rw [e] at e1
      rw [hw]
      have l0 := rload0 h
      have lp := h.loadPtr hi
      have d0 := load0 (h.row.dev i hi)
      have hi1 : i + 1 ≤ l.length := hi
      simp only [c81, e1, l0, lp, d0, hi1, Nat.mul_one, sy, tup, ↓reduceIte, Nat.reduceEqDiff, Nat.reduceAdd, Nat.reduceSub, Nat.reduceMul, Nat.reduceDiv, Nat.reduceMod, Nat.reduceLeDiff, Int.reduceBEq, reduceCtorEq]
      exact ⟨trivial, .inr trivial, _, rfl, rfl, trivial⟩
    · have hw : B.sectors d = 0 := if_neg (by rw [e]; decide)
      rw [e] at e1
      have z : ((2 : Int) == 0) = false := rfl
      rw [z] at e1
      rw [hw]
      simp only [c81, e1, sy, tup, ↓reduceIte, Nat.reduceEqDiff, Nat.reduceAdd, Nat.reduceSub, Nat.reduceMul, Nat.reduceDiv, Nat.reduceMod, Nat.reduceLeDiff, Int.reduceBEq, reduceCtorEq]
      exact ⟨trivial, .inr trivial, _, rfl, rfl, trivial⟩
  exact e
/-- a step of the document's bench -/
theorem rstep (ha : 0 ≤ B.ar ∧ B.ar ≤ 9223372036854775807) (hs : 0 ≤ B.st ∧ B.st ≤ 100000) (lf m : Nat) :
    ∃ H', callS Tryz.prog S0 lf (m + 1) 54 [.ptr (some ⟨b, 0⟩)] H = some (.v (.int .i64 B.sc), H') ∧ ((B.ar = 1 ∧ RNext true H b ds so l H' l { B with dk := true }) ∨ (B.ar ≠ 1 ∧ RNext true H b ds so l H' l ⟨B.l, B.st + 1, arLess B.ar, B.dk⟩)) := by
  have l1 := rload1 h
  by_cases h1 : B.ar = 1
  · have e0 : B.sc = 8 := if_pos h1
    have s2 := rstore2 h true
    have z : (B.ar == 1) = true := by simp [h1]
    rw [e0]
    obtain ⟨v, H', e, rfl, k⟩ : ret (callS Tryz.prog S0 lf (m + 1) 54 [.ptr (some ⟨b, 0⟩)] H) fun v H' => v = .int .i64 8 ∧ RNext true H b ds so l H' l { B with dk := true } := by
      refine ret_call rfl c54_eq ?_
      simp only [c54, l1, s2, z, sy, tup, ↓reduceIte, Nat.reduceEqDiff, Nat.reduceAdd, Nat.reduceSub, Nat.reduceMul, Nat.reduceDiv, Nat.reduceMod, Nat.reduceLeDiff, Int.reduceBEq, reduceCtorEq]
      exact ⟨trivial, .inr trivial, _, rfl, rfl, h.put' B.st B.ar true⟩
    exact ⟨H', e, .inl ⟨h1, k⟩⟩
  · have e0 : B.sc = 0 := if_neg h1
    have z : (B.ar == 1) = false := by simp; exact h1
    have w1 : IntKind.i64.wrap (B.st + 1) = B.st + 1 := wrap_i64 (by omega)
    rw [e0]
    obtain ⟨v, H', e, rfl, k⟩ : ret (callS Tryz.prog S0 lf (m + 1) 54 [.ptr (some ⟨b, 0⟩)] H) fun v H' => v = .int .i64 0 ∧ RNext true H b ds so l H' l ⟨B.l, B.st + 1, arLess B.ar, B.dk⟩ := by
      refine ret_call rfl c54_eq ?_
      by_cases g : 1 < B.ar
      · have w2 : IntKind.i64.wrap (B.ar - 1) = B.ar - 1 := wrap_i64 (by omega)
        have ea : arLess B.ar = B.ar - 1 := if_neg (by omega)
        have s1 := rstore1 h (B.ar - 1)
        have k1 := h.put' B.st (B.ar - 1) B.dk
        have l3 := rload3 k1.rep
        have s3 := rstore3 k1.rep (B.st + 1)
        have k2 := k1.trans (k1.rep.put' (B.st + 1) (B.ar - 1) B.dk)
        simp only [c54, l1, s1, z, g, w1, w2, l3, s3, sy, tup, ↓reduceIte, Nat.reduceEqDiff, Nat.reduceAdd, Nat.reduceSub, Nat.reduceMul, Nat.reduceDiv, Nat.reduceMod, Nat.reduceLeDiff, Int.reduceBEq, reduceCtorEq]
        rw [ea]
        exact ⟨trivial, .inr trivial, _, rfl, rfl, k2⟩
      · have ea : arLess B.ar = B.ar := by unfold arLess; split <;> omega
        have l3 := rload3 h
        have s3 := rstore3 h (B.st + 1)
        have k2 := h.put' (B.st + 1) B.ar B.dk
        simp only [c54, l1, z, g, w1, l3, s3, sy, tup, ↓reduceIte, Nat.reduceEqDiff, Nat.reduceAdd, Nat.reduceSub, Nat.reduceMul, Nat.reduceDiv, Nat.reduceMod, Nat.reduceLeDiff, Int.reduceBEq, reduceCtorEq]
        rw [ea]
        exact ⟨trivial, .inr trivial, _, rfl, rfl, k2⟩
    exact ⟨H', e, .inr ⟨h1, k⟩⟩

theorem rarm (n : Int) (lf m : Nat) :
    ret (callS Tryz.prog S0 lf (m + 1) 14 [.ptr (some ⟨b, 0⟩), .int .i64 n] H) fun v H' => v = .int .i64 (B.ac n) ∧ RNext true H b ds so l H' l (B.arm n) := by
  have l2 := rload2 h
  refine ret_call rfl c14_eq ?_
  cases hdk : B.dk with
  | true =>
    have e0 : B.ac n = 8 := if_pos hdk
    have e1 : B.arm n = B := if_neg (by rw [e0]; decide)
    rw [e0, e1]
    rw [hdk] at l2
    simp only [c14, l2, sy, tup, ↓reduceIte, Nat.reduceEqDiff, Nat.reduceAdd, Nat.reduceSub, Nat.reduceMul, Nat.reduceDiv, Nat.reduceMod, Nat.reduceLeDiff, Int.reduceBEq, reduceCtorEq]
    exact ⟨trivial, .inr trivial, _, rfl, rfl, h.idle (Turns.refl Z H)⟩
  | false =>
    rw [hdk] at l2
    by_cases hn : n < 0
    · have e0 : B.ac n = 2 := by unfold Bn.ac; rw [if_neg (by rw [hdk]; decide), if_pos hn]
      have e1 : B.arm n = B := if_neg (by rw [e0]; decide)
      rw [e0, e1]
      simp only [c14, l2, hn, sy, tup, ↓reduceIte, Nat.reduceEqDiff, Nat.reduceAdd, Nat.reduceSub, Nat.reduceMul, Nat.reduceDiv, Nat.reduceMod, Nat.reduceLeDiff, Int.reduceBEq, reduceCtorEq]
      exact ⟨trivial, .inr trivial, _, rfl, rfl, h.idle (Turns.refl Z H)⟩
    · have e0 : B.ac n = 0 := by unfold Bn.ac; rw [if_neg (by rw [hdk]; decide), if_neg hn]
      have e1 : B.arm n = { B with ar := n } := if_pos e0
      have s1 := rstore1 h n
      rw [e0, e1]
      simp only [c14, l2, hn, s1, sy, tup, ↓reduceIte, Nat.reduceEqDiff, Nat.reduceAdd, Nat.reduceSub, Nat.reduceMul, Nat.reduceDiv, Nat.reduceMod, Nat.reduceLeDiff, Int.reduceBEq, reduceCtorEq]
      exact ⟨trivial, .inr trivial, _, rfl, rfl, h.put' B.st n B.dk⟩

variable (hg : ∀ D ∈ B.l, Good D)
include hg

theorem rgood {i : Nat} (hi : i < l.length) : Good l[i].D := hg _ (by rw [← h.map]; exact List.mem_map_of_mem (List.getElem_mem hi))

theorem rbread (d n : Int) {lf : Nat} (hlf : 1000 < lf) (m : Nat) :
    ret (callS Tryz.prog S0 lf (m + 3) 68 [.ptr (some ⟨b, 0⟩), .int .i64 d, .int .i64 n] H) fun v H' => v = .tuple [.blk (B.read d n), .int .i64 (B.rc d n)] ∧ Turns Z H H' := by
  have t1 := Turns.add Z H (.rows false 64 [[.blk 0]])
  have h' := h.turns t1
  have e1 := rasks h' d lf m
  refine ret_call rfl c68_eq ?_
  by_cases hc : B.lc d = 0
  · have hr : B.read d n = (B.dev d).read n := if_pos hc
    have hrc : B.rc d n = code (B.dev d) n := if_pos hc
    rw [hc] at e1
    rw [hr, hrc]
    rcases h.has d with ⟨i, hi, rfl, _, e⟩ | e
    · rw [e]
      have g := rgood h hg hi
      have l0 := rload0 h'
      have lp := h'.loadPtr hi
      have hi1 : i + 1 ≤ l.length := hi
      obtain ⟨v, H1, e2, rfl, t2⟩ := rread_all (h'.row.dev i hi) (lf := lf) (by have := g.le; omega) (by have := g.le; omega) n m
      have g0 : H1.get (.run H.next) = some (.rows false 64 [[.blk 0]]) := by
        rw [t2.same _ (by show _ < _; simp) id, Heap.get_add, if_pos rfl]
      have st := cell_store (v := l[i].D.read n) g0
      simp only [c68, e1, l0, lp, hi1, e2, st, Nat.mul_one, sy, tup, ↓reduceIte, Nat.reduceEqDiff, Nat.reduceAdd, Nat.reduceSub, Nat.reduceMul, Nat.reduceDiv, Nat.reduceMod, Nat.reduceLeDiff, Int.reduceBEq, reduceCtorEq]
      exact ⟨trivial, .inr trivial, _, rfl, rfl, (t1.trans t2).setnew (Nat.le_refl _) _⟩
    · rw [lc_tc hc] at e; cases e
  · have hr : B.read d n = 0 := if_neg hc
    have hrc : B.rc d n = B.lc d := if_neg hc
    have hz : (B.lc d == 0) = false := by simp; exact hc
    rw [hr, hrc]
    simp only [c68, e1, hz, sy, tup, ↓reduceIte, Nat.reduceEqDiff, Nat.reduceAdd, Nat.reduceSub, Nat.reduceMul, Nat.reduceDiv, Nat.reduceMod, Nat.reduceLeDiff, Int.reduceBEq, reduceCtorEq]
    exact ⟨trivial, .inr trivial, _, rfl, rfl, t1.setnew (Nat.le_refl _) _⟩

theorem rbsure (d n : Int) {lf : Nat} (hlf : 1000 < lf) (m : Nat) :
    ret (callS Tryz.prog S0 lf (m + 3) 84 [.ptr (some ⟨b, 0⟩), .int .i64 d, .int .i64 n] H) fun v H' => v = .tuple [.blk (B.sure d n), .int .i64 (B.uc d n)] ∧ Turns Z H H' := by
  have t1 := Turns.add Z H (.rows false 64 [[.blk 0]])
  have h' := h.turns t1
  have e1 := rhas h' d lf (m + 1)
  change callS Tryz.prog S0 lf (m + 2) 58 _ _ = _ at e1
  refine ret_call rfl c84_eq ?_
  rcases h.has d with ⟨i, hi, rfl, e, eD⟩ | e
  · have hw : B.sure (i : Int) n = l[i].D.sure n := by rw [← eD]; exact if_pos e
    have hc : B.uc (i : Int) n = code l[i].D n := by rw [← eD]; exact if_pos e
    rw [hw, hc]
    rw [e] at e1
    have l0 := rload0 h'
    have lp := h'.loadPtr hi
    have hi1 : i + 1 ≤ l.length := hi
    obtain ⟨v, H1, e2, rfl, t2⟩ := rsure_all (h'.row.dev i hi) n lf m
    have g0 : H1.get (.run H.next) = some (.rows false 64 [[.blk 0]]) := by
      rw [t2.same _ (by show _ < _; simp) id, Heap.get_add, if_pos rfl]
    have st := cell_store (v := l[i].D.sure n) g0
    simp only [c84, e1, l0, lp, hi1, e2, st, Nat.mul_one, sy, tup, ↓reduceIte, Nat.reduceEqDiff, Nat.reduceAdd, Nat.reduceSub, Nat.reduceMul, Nat.reduceDiv, Nat.reduceMod, Nat.reduceLeDiff, Int.reduceBEq, reduceCtorEq]
    exact ⟨trivial, .inr trivial, _, rfl, rfl, (t1.trans t2).setnew (Nat.le_refl _) _⟩
  · have hw : B.sure d n = 0 := if_neg (by rw [e]; decide)
    have hc : B.uc d n = 2 := if_neg (by rw [e]; decide)
    rw [hw, hc]
    rw [e] at e1
    have z : ((2 : Int) == 0) = false := rfl
    rw [z] at e1
    simp only [c84, e1, sy, tup, ↓reduceIte, Nat.reduceEqDiff, Nat.reduceAdd, Nat.reduceSub, Nat.reduceMul, Nat.reduceDiv, Nat.reduceMod, Nat.reduceLeDiff, Int.reduceBEq, reduceCtorEq]
    exact ⟨trivial, .inr trivial, _, rfl, rfl, t1.setnew (Nat.le_refl _) _⟩

theorem rbwrite (ha : 0 ≤ B.ar ∧ B.ar ≤ 9223372036854775807) (hs : 0 ≤ B.st ∧ B.st ≤ 100000) (d n : Int) (x : Nat) {lf : Nat} (hlf : 1000 < lf) (m : Nat) :
    ret (callS Tryz.prog S0 lf (m + 3) 10 [.ptr (some ⟨b, 0⟩), .int .i64 d, .int .i64 n, .blk x] H) fun v H' => v = .int .i64 (B.wc d n) ∧ ∃ l', RNext true H b ds so l H' l' (B.write d n x) := by
  have t1 := Turns.add Z H (.rows false 64 [[.blk x]])
  have gA : (H.add (.rows false 64 [[.blk x]])).get (.run H.next) = some (.rows false 64 [[.blk x]]) := by rw [Heap.get_add, if_pos rfl]
  have oA : (H.add (.rows false 64 [[.blk x]])).Old (.run H.next) := by show _ < _; simp
  have h' := h.turns t1
  have nb : Bk.run H.next ≠ b := fun e => Heap.not_old (Nat.le_refl _) (by rw [e]; exact h.row.old.1)
  generalize hHA : H.add (.rows false 64 [[.blk x]]) = HA at t1 gA oA h'
  have e1 := rasks h' d lf m
  refine ret_call rfl c10_eq ?_
  simp only [c10, sy, tup, ↓reduceIte, Nat.reduceEqDiff, Nat.reduceAdd, Nat.reduceSub, Nat.reduceMul, Nat.reduceDiv, Nat.reduceMod, Nat.reduceLeDiff, Int.reduceBEq, reduceCtorEq]
  rw [hHA]
  by_cases hlc : B.lc d = 0
  · rw [hlc] at e1
    rcases h.has d with ⟨i, hi, rfl, _, eD⟩ | e
    · have g := rgood h hg hi
      have hrc : B.rc (i : Int) n = code l[i].D n := by rw [← eD]; exact if_pos hlc
      have l0 := rload0 h'
      have lp := h'.loadPtr hi
      have hi1 : i + 1 ≤ l.length := hi
      obtain ⟨v, _, e2, rfl, rfl⟩ := asks_code (h'.row.dev i hi) n lf (m + 1)
      change callS Tryz.prog S0 lf (m + 2) 53 _ _ = _ at e2
      by_cases hc : code l[i].D n = 0
      · have hw : B.write (i : Int) n x = B.step (i : Int) (l[i].D.write n x) := by rw [← eD]; exact if_pos (by rw [hrc]; exact hc)
        have hwc : B.wc (i : Int) n = B.sc := if_pos (by rw [hrc]; exact hc)
        rw [hw, hwc]
        rw [hc] at e2
        obtain ⟨K1, e3, hs3⟩ := rstep h' ha hs lf (m + 1)
        change callS Tryz.prog S0 lf (m + 2) 54 _ _ = _ at e3
        rcases hs3 with ⟨h1, k1⟩ | ⟨h1, k1⟩
        · rw [show B.sc = 8 from if_pos h1] at e3 ⊢
          have est : B.step (i : Int) (l[i].D.write n x) = { B with dk := true } := if_pos h1
          rw [est]
          simp only [e1, l0, lp, hi1, e2, e3, Nat.mul_one, sy, tup, ↓reduceIte, Nat.reduceEqDiff, Nat.reduceAdd, Nat.reduceSub, Nat.reduceMul, Nat.reduceDiv, Nat.reduceMod, Nat.reduceLeDiff, Int.reduceBEq, reduceCtorEq]
          exact ⟨trivial, .inr trivial, _, rfl, rfl, l, RNext.before t1 k1⟩
        · rw [show B.sc = 0 from if_neg h1] at e3 ⊢
          have est : B.step (i : Int) (l[i].D.write n x) = (⟨B.l, B.st + 1, arLess B.ar, B.dk⟩ : Bn).setd (i : Int) (l[i].D.write n x) := if_neg h1
          rw [est]
          have l0' := rload0 k1.rep
          have lp' := k1.rep.loadPtr hi
          have ld := load_of ((k1.turns.same _ oA (fun hc => by
            rcases hc with hc | hc | ⟨z, hz, hc⟩
            · exact nb hc
            · exact Heap.not_old (Nat.le_refl _) (by rw [hc]; exact h.row.old.2)
            · obtain ⟨j, hj, rfl⟩ := List.getElem_of_mem hz
              exact Heap.not_old (Nat.le_refl _) ((h.row.dev j hj).foot_old _ hc))).trans gA)
          obtain ⟨v, K2, e4, rfl, y', n4⟩ := rwrite_all (k1.rep.row.dev i hi) (by have := g.le; omega) n x lf m
          rw [hc] at e4
          simp only [e1, l0, lp, hi1, e2, e3, l0', lp', ld, e4, Nat.mul_one, sy, tup, ↓reduceIte, Nat.reduceEqDiff, Nat.reduceAdd, Nat.reduceSub, Nat.reduceMul, Nat.reduceDiv, Nat.reduceMod, Nat.reduceLeDiff, Int.reduceBEq, reduceCtorEq]
          rw [endD_ok (by kernel_rfl) (by kernel_rfl)]
          simp only [sy, tup, ↓reduceIte, Nat.reduceEqDiff, Nat.reduceAdd, Nat.reduceSub, Nat.reduceMul, Nat.reduceDiv, Nat.reduceMod, Nat.reduceLeDiff, Int.reduceBEq, reduceCtorEq]
          exact ⟨trivial, .inr trivial, _, rfl, rfl, _, RNext.before t1 (k1.trans (k1.rep.dev hi n4))⟩
      · have hw : B.write (i : Int) n x = B := if_neg (by rw [hrc]; exact hc)
        have hwc : B.wc (i : Int) n = code l[i].D n := by rw [← hrc]; exact if_neg (by rw [hrc]; exact hc)
        have hz : (code l[i].D n == 0) = false := by simp; exact hc
        rw [hw, hwc]
        simp only [e1, l0, lp, hi1, e2, hz, Nat.mul_one, sy, tup, ↓reduceIte, Nat.reduceEqDiff, Nat.reduceAdd, Nat.reduceSub, Nat.reduceMul, Nat.reduceDiv, Nat.reduceMod, Nat.reduceLeDiff, Int.reduceBEq, reduceCtorEq]
        exact ⟨trivial, .inr trivial, _, rfl, rfl, l, h.idle t1⟩
    · rw [lc_tc hlc] at e; cases e
  · have hrc : B.rc d n = B.lc d := if_neg hlc
    have hw : B.write d n x = B := if_neg (by rw [hrc]; exact hlc)
    have hwc : B.wc d n = B.lc d := by rw [← hrc]; exact if_neg (by rw [hrc]; exact hlc)
    have hz : (B.lc d == 0) = false := by simp; exact hlc
    rw [hw, hwc]
    simp only [e1, hz, sy, tup, ↓reduceIte, Nat.reduceEqDiff, Nat.reduceAdd, Nat.reduceSub, Nat.reduceMul, Nat.reduceDiv, Nat.reduceMod, Nat.reduceLeDiff, Int.reduceBEq, reduceCtorEq]
    exact ⟨trivial, .inr trivial, _, rfl, rfl, l, h.idle t1⟩

theorem rbflush (ha : 0 ≤ B.ar ∧ B.ar ≤ 9223372036854775807) (hs : 0 ≤ B.st ∧ B.st ≤ 100000) (d : Int) {lf : Nat} (hlf : 1000 < lf) (m : Nat) :
    ret (callS Tryz.prog S0 lf (m + 3) 16 [.ptr (some ⟨b, 0⟩), .int .i64 d] H) fun v H' => v = .int .i64 (B.wc d 0) ∧ ∃ l', RNext true H b ds so l H' l' (B.flush d) := by
  have e1 := rasks h d lf m
  refine ret_call rfl c16_eq ?_
  by_cases hlc : B.lc d = 0
  · rw [hlc] at e1
    rcases h.has d with ⟨i, hi, rfl, _, eD⟩ | e
    · have g := rgood h hg hi
      have hpos : 0 < l[i].D.S.length := List.length_pos_iff.2 g.ne
      have hcf : code l[i].D 0 = fcode l[i].D := by unfold code fcode; rw [if_neg (by omega)]
      have hrc : B.rc (i : Int) 0 = fcode l[i].D := by rw [← hcf, ← eD]; exact if_pos hlc
      have l0 := rload0 h
      have lp := h.loadPtr hi
      have d2 := load2 (h.row.dev i hi)
      have hi1 : i + 1 ≤ l.length := hi
      cases hdd : l[i].D.dead with
      | true =>
        have hf : fcode l[i].D = 9 := if_pos hdd
        rw [hdd] at d2
        have hw : B.flush (i : Int) = B := if_neg (by rw [hrc, hf]; decide)
        have hwc : B.wc (i : Int) 0 = 9 := by rw [← hf, ← hrc]; exact if_neg (by rw [hrc, hf]; decide)
        rw [hw, hwc]
        simp only [c16, e1, l0, lp, hi1, d2, Nat.mul_one, sy, tup, ↓reduceIte, Nat.reduceEqDiff, Nat.reduceAdd, Nat.reduceSub, Nat.reduceMul, Nat.reduceDiv, Nat.reduceMod, Nat.reduceLeDiff, Int.reduceBEq, reduceCtorEq]
        exact ⟨trivial, .inr trivial, _, rfl, rfl, l, h.idle (Turns.refl Z H)⟩
      | false =>
        have hf : fcode l[i].D = 0 := if_neg (by rw [hdd]; decide)
        rw [hdd] at d2
        have hw : B.flush (i : Int) = B.step (i : Int) l[i].D.flush := by rw [← eD]; exact if_pos (by rw [hrc, hf])
        have hwc : B.wc (i : Int) 0 = B.sc := if_pos (by rw [hrc, hf])
        rw [hw, hwc]
        obtain ⟨K1, e3, hs3⟩ := rstep h ha hs lf (m + 1)
        change callS Tryz.prog S0 lf (m + 2) 54 _ _ = _ at e3
        rcases hs3 with ⟨h1, k1⟩ | ⟨h1, k1⟩
        · rw [show B.sc = 8 from if_pos h1] at e3 ⊢
          have est : B.step (i : Int) l[i].D.flush = { B with dk := true } := if_pos h1
          rw [est]
          simp only [c16, e1, l0, lp, hi1, d2, e3, Nat.mul_one, sy, tup, ↓reduceIte, Nat.reduceEqDiff, Nat.reduceAdd, Nat.reduceSub, Nat.reduceMul, Nat.reduceDiv, Nat.reduceMod, Nat.reduceLeDiff, Int.reduceBEq, reduceCtorEq]
          exact ⟨trivial, .inr trivial, _, rfl, rfl, l, k1⟩
        · rw [show B.sc = 0 from if_neg h1] at e3 ⊢
          have est : B.step (i : Int) l[i].D.flush = (⟨B.l, B.st + 1, arLess B.ar, B.dk⟩ : Bn).setd (i : Int) l[i].D.flush := if_neg h1
          rw [est]
          have l0' := rload0 k1.rep
          have lp' := k1.rep.loadPtr hi
          obtain ⟨v, K2, e4, rfl, y', n4⟩ := rflush_all (k1.rep.row.dev i hi) g.ok (by have := g.le; omega) (lf := lf) (by have := g.le; omega) (m + 1)
          change callS Tryz.prog S0 lf (m + 2) 62 _ _ = _ at e4
          rw [hf] at e4
          simp only [c16, e1, l0, lp, hi1, d2, e3, l0', lp', e4, Nat.mul_one, sy, tup, ↓reduceIte, Nat.reduceEqDiff, Nat.reduceAdd, Nat.reduceSub, Nat.reduceMul, Nat.reduceDiv, Nat.reduceMod, Nat.reduceLeDiff, Int.reduceBEq, reduceCtorEq]
          exact ⟨trivial, .inr trivial, _, rfl, rfl, _, k1.trans (k1.rep.dev hi n4)⟩
    · rw [lc_tc hlc] at e; cases e
  · have hrc : B.rc d 0 = B.lc d := if_neg hlc
    have hw : B.flush d = B := if_neg (by rw [hrc]; exact hlc)
    have hwc : B.wc d 0 = B.lc d := by rw [← hrc]; exact if_neg (by rw [hrc]; exact hlc)
    have hz : (B.lc d == 0) = false := by simp; exact hlc
    rw [hw, hwc]
    simp only [c16, e1, hz, sy, tup, ↓reduceIte, Nat.reduceEqDiff, Nat.reduceAdd, Nat.reduceSub, Nat.reduceMul, Nat.reduceDiv, Nat.reduceMod, Nat.reduceLeDiff, Int.reduceBEq, reduceCtorEq]
    exact ⟨trivial, .inr trivial, _, rfl, rfl, l, h.idle (Turns.refl Z H)⟩

theorem rbfail (d : Int) (lf m : Nat) :
    ret (callS Tryz.prog S0 lf (m + 2) 12 [.ptr (some ⟨b, 0⟩), .int .i64 d] H) fun v H' => v = .int .i64 (B.tc d) ∧ ∃ l', RNext true H b ds so l H' l' (B.fail d) := by
  have e1 := rhas h d lf m
  refine ret_call rfl c12_eq ?_
  rcases h.has d with ⟨i, hi, rfl, e, eD⟩ | e
  · have hw : B.fail (i : Int) = B.setd (i : Int) l[i].D.fail := by rw [← eD]; exact if_pos e
    rw [hw]
    rw [e] at e1 ⊢
    have l0 := rload0 h
    have lp := h.loadPtr hi
    have hi1 : i + 1 ≤ l.length := hi
    obtain ⟨v, H', e2, y', k⟩ := rfail_ok (h.row.dev i hi) lf m
    simp only [c12, e1, l0, lp, hi1, e2, Nat.mul_one, sy, tup, ↓reduceIte, Nat.reduceEqDiff, Nat.reduceAdd, Nat.reduceSub, Nat.reduceMul, Nat.reduceDiv, Nat.reduceMod, Nat.reduceLeDiff, Int.reduceBEq, reduceCtorEq]
    exact ⟨trivial, .inr trivial, _, rfl, rfl, _, h.dev hi k⟩
  · have hw : B.fail d = B := if_neg (by rw [e]; decide)
    rw [hw]
    rw [e] at e1 ⊢
    have z : ((2 : Int) == 0) = false := rfl
    rw [z] at e1
    simp only [c12, e1, sy, tup, ↓reduceIte, Nat.reduceEqDiff, Nat.reduceAdd, Nat.reduceSub, Nat.reduceMul, Nat.reduceDiv, Nat.reduceMod, Nat.reduceLeDiff, Int.reduceBEq, reduceCtorEq]
    exact ⟨trivial, .inr trivial, _, rfl, rfl, l, h.idle (Turns.refl Z H)⟩

end

end Go.Proofs.YtpmdbbdidafehaaGreat.disk


/-
  The document's bench in the machine's heap: how it is made, and cut.
-/
set_option linter.unusedVariables false
set_option linter.unusedSectionVars false
set_option linter.unusedSimpArgs false
set_option maxRecDepth 10000
namespace Go.Proofs.YtpmdbbdidafehaaGreat.disk
open Go.Am

noncomputable def c25_l0 : C := .seq (.seq (.reg [
 mv 18 5,
 mv 19 0,
 qo 20 (.p (lenF (tt 19))) [pp 19],
 qo 21 (.p (arF .lss (tt 18) (tt 20))) [pp 18, pp 20]]) (
 .cond (tt 21) (.skip) (.exit 0))) (
 .seq (.block 1 (.seq (.reg [
 mv 25 0,
 mv 26 5,
 qo 27 (.p (iaddrSF (tt 25) (tt 26) 1)) [pp 25, pp 26],
 qo 28 (.r (loadF (tt 27) 1 .sc)) [pp 27],
 qo 29 (.c (callF (ff 74) [(tt 28)])) [pp 28],
 mv 24 29,
 qo 30 (.p (extF (tt 24) 0)) [pp 24],
 qo 31 (.p (extF (tt 24) 1)) [pp 24],
 mv 6 30,
 mv 7 31]) (
 .seq (.seq (.reg [
 mv 32 7,
 qo 33 (.p (eqcF true false [.int .i64] (tt 32) (ii 0))) [pp 32]]) (
 .cond (tt 33) (.seq (.reg [
 qo 2 (.p (S.get (.c (.ptr none)))) [],
 qo 3 (.p (S.get (ii 2))) []]) (
 .ret)) (.skip))) (
 .reg [
 mv 34 4,
 mv 35 4,
 qo 36 (.p (nilcF (tt 35))) [pp 35],
 qo 37 (.p (faddrF (tt 36) 0)) [pp 36],
 qo 38 (.r (loadF (tt 37) 1 .sc)) [pp 37],
 mv 39 6,
 qo 40 (.m (bsliceF 1 1 [.ptr none] [(0, 1, (tt 39))])) [pp 39],
 qo 41 (.a (appF 1 8 (tt 38) (tt 40))) [pp 38, pp 40],
 qo 42 (.p (nilcF (tt 34))) [pp 34],
 qo 43 (.p (faddrF (tt 42) 0)) [pp 42],
 qn (.a (storeF (tt 43) (tt 41) 1)) [pp 43, pp 41]])))) (
 .reg [
 mv 22 5,
 qo 23 (.p (arF .add (tt 22) (ii 1))) [pp 22],
 mv 5 23]))
/-- ashlar/ashlarref06.New -/
noncomputable def c25 : CFn := ⟨[.tmp (pp 2), .tmp (pp 3)],
 .seq (.reg [
 qo 2 (.p (S.get (.c (.ptr none)))) [],
 qo 3 (.p (S.get (ii 0))) []]) (
 .seq (.seq (.reg [
 mv 8 0,
 qo 9 (.p (lenF (tt 8))) [pp 8],
 qo 10 (.p (arF .lss (tt 9) (ii 1))) [pp 9],
 mv 11 10,
 mg 12 0 11 false,
 qg 13 (.p (lenF (tt 12))) 11 false [pp 12],
 qg 14 (.p (arF .gtr (tt 13) (ii 17))) 11 false [pp 13],
 qo 15 (.p (pickF (tt 11) (.c (.bool true)) (tt 14))) [pp 11, pp 14]]) (
 .cond (tt 15) (.seq (.reg [
 qo 2 (.p (S.get (.c (.ptr none)))) [],
 qo 3 (.p (S.get (ii 2))) []]) (
 .ret)) (.skip))) (
 .seq (.reg [
 qo 16 (.p (buildF [.slice none 0 0 0, .int .i64 0, .bool false, .int .i64 0] .ag [])) [],
 qo 17 (.m (boxF 4 (tt 16))) [pp 16],
 mv 4 17]) (
 .seq (.seq (.reg [
 qo 5 (.p (S.get (ii 0))) []]) (
 .block 0 (.loop c25_l0))) (
 .seq (.reg [
 mv 44 4,
 mv 2 44,
 qo 3 (.p (S.get (ii 0))) []]) (
 .ret)))))⟩
theorem c25_eq : fnOf Tryz.prog 25 = some c25 := by kernel_rfl


theorem rbnew_all (H : Heap) {pp : Option Ptr} {P : List Int} {pc po : Nat} (hP : PicksAt H pp P Z) {lf : Nat} (hlf : 1000 < lf) (m : Nat) :
    ret (callS Tryz.prog S0 lf (m + 2) 25 [.slice pp P.length pc po] H) (Newed true P H) := by
  refine ret_call rfl c25_eq ?_
  by_cases hlen : 1 ≤ P.length ∧ P.length ≤ 17
  · obtain ⟨g1, g2⟩ := hlen
    have g1' : ¬ ((P.length : Int) < 1) := by omega
    have g2' : ¬ (17 < (P.length : Int)) := by omega
    have G0 := grow0 H (.int .i64 0) (.bool false) (.int .i64 0)
    have hloop : ∀ t : T, t.getP (Tr.path 0) = some (.slice pp P.length pc po) → t.getP (Tr.path 4) = some (.ptr (some ⟨.run H.next, 0⟩)) → t.getP (Tr.path 5) = some (.int .i64 0) →
        wp (loopF (runC (callS Tryz.prog S0 lf (m + 1)) lf c25_l0) lf ⟨t, H.add (.rows false 4 [[.slice none 0 0 0, .int .i64 0, .bool false, .int .i64 0]]), []⟩) fun x s =>
          s.d = [] ∧ ((x = .ret ∧ ¬ okSizes P ∧ s.t.getP (Tr.path 2) = some (.ptr none) ∧ s.t.getP (Tr.path 3) = some (.int .i64 2) ∧ Turns Z H s.H) ∨ (x = .ex 0 ∧ s.t.getP (Tr.path 4) = some (.ptr (some ⟨.run H.next, 0⟩)) ∧ okSizes P ∧ ∃ p o l, Grow H s.H (.run H.next) p o l (.int .i64 0) (.bool false) (.int .i64 0) ∧ l.map Dv.D = P.map (fun n => blank n.toNat))) := by
      intro t q0 q4 q5
      refine wp_loopF (fun k s => ∃ i p o l, i + k = P.length ∧ s.d = [] ∧ s.t.getP (Tr.path 0) = some (.slice pp P.length pc po) ∧ s.t.getP (Tr.path 4) = some (.ptr (some ⟨.run H.next, 0⟩)) ∧ s.t.getP (Tr.path 5) = some (.int .i64 ((i : Nat) : Int)) ∧ Grow H s.H (.run H.next) p o l (.int .i64 0) (.bool false) (.int .i64 0) ∧ l.map Dv.D = (P.take i).map (fun n => blank n.toNat) ∧ ∀ n ∈ P.take i, 1 ≤ n ∧ n ≤ 512) ?_ lf P.length _ ⟨0, none, 0, [], by omega, rfl, q0, q4, q5, G0, rfl, fun n hn => absurd hn (by simp)⟩ (by omega)
      rintro k ⟨t, HH, d⟩ ⟨i, p, o, l, hi, rfl, q0, q4, q5, hG, hm, hok⟩
      dsimp only at q0 q4 q5 hG
      by_cases hiP : i < P.length
      · obtain ⟨x, ox, hpx, l1⟩ := (hP.turns hG.t).load hiP
        rw [hpx] at q0
        have hi1 : i + 1 ≤ P.length := hiP
        have hw' : IntKind.i64.wrap ((i : Int) + 1) = (i : Int) + 1 := wrap_i64 (by omega)
        by_cases hn : 1 ≤ P[i] ∧ P[i] ≤ 512
        · obtain ⟨v, H1, e1, rfl, hD, t1⟩ := rnew_ok HH (n := P[i].toNat) (by omega) (by omega) lf m
          rw [show ((P[i].toNat : Nat) : Int) = P[i] from by omega] at e1
          have hF : Fresh HH (.run (HH.next + 1)) ⟨.run HH.next, 0, .run HH.next, none, 0⟩ (blank P[i].toNat) := ⟨Heap.not_old (by omega), Heap.not_old (Nat.le_refl _), fun e => absurd rfl e⟩
          have hll : l.length = i := by have := congrArg List.length hm; simpa [Nat.min_eq_left (Nat.le_of_lt hiP)] using this
          obtain ⟨H3, H4, ds, ha, hs, hG'⟩ := hG.step t1 hD hF (by omega)
          have l0 := hG.load t1
          have l0' := hG.load (t1.addm (.rows false 1 [[.ptr (some ⟨.run (HH.next + 1), 0⟩)]]))
          simp only [c25_l0, q0, q4, q5, hiP, hi1, l1, e1, l0, l0', ha, hs, hw', Nat.mul_one, sy, tup, ↓reduceIte, Nat.reduceEqDiff, Nat.reduceAdd, Nat.reduceSub, Nat.reduceMul, Nat.reduceDiv, Nat.reduceMod, Nat.reduceLeDiff, Int.reduceBEq, reduceCtorEq]
          refine ⟨k - 1, by omega, i + 1, _, _, _, by omega, trivial, by rw [hpx], trivial, rfl, hG', ?_, ?_⟩
          · rw [List.map_append, hm, List.take_succ_eq_append_getElem hiP, List.map_append]; rfl
          · rw [List.take_succ_eq_append_getElem hiP]
            intro z hz
            rcases List.mem_append.1 hz with hz | hz
            · exact hok z hz
            · rw [List.mem_singleton.1 hz]; exact hn
        · have e1 := rnew_err HH (n := P[i]) (by omega) lf m
          have hbad : ¬ okSizes P := fun h => hn (h.2.2 _ (List.getElem_mem hiP))
          simp only [c25_l0, q0, q4, q5, hiP, hi1, l1, e1, Nat.mul_one, sy, tup, ↓reduceIte, Nat.reduceEqDiff, Nat.reduceAdd, Nat.reduceSub, Nat.reduceMul, Nat.reduceDiv, Nat.reduceMod, Nat.reduceLeDiff, Int.reduceBEq, reduceCtorEq]
          exact ⟨trivial, .inl ⟨trivial, hbad, trivial, trivial, hG.t⟩⟩
      · have hg : ¬ (i < P.length) := hiP
        have hiL : P.take i = P := List.take_of_length_le (by omega)
        rw [hiL] at hm hok
        simp only [c25_l0, q0, q4, q5, hg, sy, tup, ↓reduceIte, Nat.reduceEqDiff, Nat.reduceAdd, Nat.reduceSub, Nat.reduceMul, Nat.reduceDiv, Nat.reduceMod, Nat.reduceLeDiff, Int.reduceBEq, reduceCtorEq]
        refine ⟨trivial, .inr ⟨trivial, trivial, ⟨g1, g2, hok⟩, p, o, l, hG, hm⟩⟩
    simp only [c25, g1', g2', sy, tup, ↓reduceIte, Nat.reduceEqDiff, Nat.reduceAdd, Nat.reduceSub, Nat.reduceMul, Nat.reduceDiv, Nat.reduceMod, Nat.reduceLeDiff, Int.reduceBEq, reduceCtorEq]
    refine wp_ctx (F := fun r => seqC _ _ _ (blockC _ r)) (hloop _ ?_ ?_ ?_) ?_
    · simp only [sy, tup, ↓reduceIte, Nat.reduceEqDiff, Nat.reduceAdd, Nat.reduceSub, Nat.reduceMul, Nat.reduceDiv, Nat.reduceMod, Nat.reduceLeDiff, Int.reduceBEq, reduceCtorEq]
    · simp only [sy, tup, ↓reduceIte, Nat.reduceEqDiff, Nat.reduceAdd, Nat.reduceSub, Nat.reduceMul, Nat.reduceDiv, Nat.reduceMod, Nat.reduceLeDiff, Int.reduceBEq, reduceCtorEq]
    · simp only [sy, tup, ↓reduceIte, Nat.reduceEqDiff, Nat.reduceAdd, Nat.reduceSub, Nat.reduceMul, Nat.reduceDiv, Nat.reduceMod, Nat.reduceLeDiff, Int.reduceBEq, reduceCtorEq]
    rintro x ⟨t, HH, d⟩ ⟨rfl, ⟨rfl, hbad, q2, q3, hT⟩ | ⟨rfl, q4, hok, p, o, l, hG, hm⟩⟩
    · dsimp only at q2 q3 hT
      simp only [q2, q3, sy, tup, ↓reduceIte, Nat.reduceEqDiff, Nat.reduceAdd, Nat.reduceSub, Nat.reduceMul, Nat.reduceDiv, Nat.reduceMod, Nat.reduceLeDiff, Int.reduceBEq, reduceCtorEq]
      exact ⟨trivial, .inr trivial, _, rfl, hT, .inl ⟨hbad, rfl⟩⟩
    · dsimp only at q4 hG
      have hl : l ≠ [] := fun e => by
        have := congrArg List.length hm
        rw [e] at this; simp at this; omega
      obtain ⟨ds, rfl, rfl, hR, hN⟩ := Grow.rep (r := true) (B := newB P) hG hl hm
      simp only [q4, sy, tup, ↓reduceIte, Nat.reduceEqDiff, Nat.reduceAdd, Nat.reduceSub, Nat.reduceMul, Nat.reduceDiv, Nat.reduceMod, Nat.reduceLeDiff, Int.reduceBEq, reduceCtorEq]
      exact ⟨trivial, .inr trivial, _, rfl, hG.t, .inr ⟨hok, _, ds, l, rfl, hR, hN⟩⟩
  · have hbad : ¬ okSizes P := fun h => hlen ⟨h.1, h.2.1⟩
    by_cases g1 : (P.length : Int) < 1
    · simp only [c25, g1, sy, tup, ↓reduceIte, Nat.reduceEqDiff, Nat.reduceAdd, Nat.reduceSub, Nat.reduceMul, Nat.reduceDiv, Nat.reduceMod, Nat.reduceLeDiff, Int.reduceBEq, reduceCtorEq]
      exact ⟨trivial, .inr trivial, _, rfl, Turns.refl Z H, .inl ⟨hbad, rfl⟩⟩
    · have g2 : 17 < (P.length : Int) := by omega
      simp only [c25, g1, g2, sy, tup, ↓reduceIte, Nat.reduceEqDiff, Nat.reduceAdd, Nat.reduceSub, Nat.reduceMul, Nat.reduceDiv, Nat.reduceMod, Nat.reduceLeDiff, Int.reduceBEq, reduceCtorEq]
      exact ⟨trivial, .inr trivial, _, rfl, Turns.refl Z H, .inl ⟨hbad, rfl⟩⟩

end Go.Proofs.YtpmdbbdidafehaaGreat.disk

