import Derived.Test.YtejgheoandfikaaGreatRSup
import Derived.Test.YtejgheoandfikaaGreatSeal
import Derived.Test.YtejgheoandfikaaGreatGather
set_option linter.unusedVariables false
set_option linter.unusedSimpArgs false
set_option maxRecDepth 10000
namespace Go.Proofs.YtejgheoandfikaaGreat.draft
open Go.Am
noncomputable def c176_l0 : C := .seq (.seq (.reg [
 mv 34 9,
 qo 35 (.p (arF .geq (tt 34) (ii 0))) [pp 34]]) (
 .cond (tt 35) (.skip) (.exit 0))) (
 .seq (.block 1 (.reg [
 mv 38 8,
 qo 39 (.p (arF .mul (.c (.int .u64 256)) (tt 38))) [pp 38],
 mv 40 0,
 mv 41 1,
 mv 42 9,
 qo 43 (.p (arF .add (tt 41) (tt 42))) [pp 41, pp 42],
 qo 44 (.p (iaddrSF (tt 40) (tt 43) 1)) [pp 40, pp 43],
 qo 45 (.r (loadF (tt 44) 1 .sc)) [pp 44],
 qo 46 (.p (convF .u64 (tt 45))) [pp 45],
 qo 47 (.p (arF .add (tt 39) (tt 46))) [pp 39, pp 46],
 mv 8 47])) (
 .reg [
 mv 36 9,
 qo 37 (.p (arF .sub (tt 36) (ii 1))) [pp 36],
 mv 9 37]))
noncomputable def c176 : CFn := ⟨[.tmp (pp 6), .tmp (pp 7)],
 .seq (.reg [
 qo 6 (.p (S.get (.c (.int .u64 0)))) [],
 qo 7 (.p (S.get (ii 0))) []]) (
 .seq (.seq (.reg [
 mv 10 2,
 qo 11 (.p (arF .lss (tt 10) (ii 1))) [pp 10],
 mv 12 11,
 mg 13 2 12 false,
 qg 14 (.p (arF .gtr (tt 13) (ii 8))) 12 false [pp 13],
 qo 15 (.p (pickF (tt 12) (.c (.bool true)) (tt 14))) [pp 12, pp 14],
 mv 16 15,
 mg 17 1 16 false,
 qg 18 (.p (arF .lss (tt 17) (ii 0))) 16 false [pp 17],
 qo 19 (.p (pickF (tt 16) (.c (.bool true)) (tt 18))) [pp 16, pp 18],
 mv 20 19,
 mg 21 1 20 false,
 mg 22 0 20 false,
 qg 23 (.p (lenF (tt 22))) 20 false [pp 22],
 qg 24 (.p (arF .gtr (tt 21) (tt 23))) 20 false [pp 21, pp 23],
 qo 25 (.p (pickF (tt 20) (.c (.bool true)) (tt 24))) [pp 20, pp 24]]) (
 .cond (tt 25) (.seq (.reg [
 qo 6 (.p (S.get (.c (.int .u64 0)))) [],
 qo 7 (.p (S.get (ii 2))) []]) (
 .ret)) (.skip))) (
 .seq (.seq (.reg [
 mv 26 0,
 qo 27 (.p (lenF (tt 26))) [pp 26],
 mv 28 1,
 qo 29 (.p (arF .sub (tt 27) (tt 28))) [pp 27, pp 28],
 mv 30 2,
 qo 31 (.p (arF .lss (tt 29) (tt 30))) [pp 29, pp 30]]) (
 .cond (tt 31) (.seq (.reg [
 qo 6 (.p (S.get (.c (.int .u64 0)))) [],
 qo 7 (.p (S.get (ii 4))) []]) (
 .ret)) (.skip))) (
 .seq (.reg [
 qo 8 (.p (S.get (.c (.int .u64 0)))) []]) (
 .seq (.seq (.reg [
 mv 32 2,
 qo 33 (.p (arF .sub (tt 32) (ii 1))) [pp 32],
 mv 9 33]) (
 .block 0 (.loop c176_l0))) (
 .seq (.reg [
 mv 48 8,
 mv 6 48,
 qo 7 (.p (S.get (ii 0))) []]) (
 .ret))))))⟩
theorem c176_eq : fnOf Tryz.prog 176 = some c176 := by kernel_rfl
noncomputable def c177 : CFn := ⟨[.tmp (pp 6)],
 .seq (.reg [
 qo 6 (.p (S.get (ii 0))) []]) (
 .seq (.reg [
 mv 10 0,
 mv 11 1,
 mv 12 2,
 qo 13 (.c (callF (ff 176) [(tt 10), (tt 11), (tt 12)])) [pp 10, pp 11, pp 12],
 mv 9 13,
 qo 14 (.p (extF (tt 9) 0)) [pp 9],
 qo 15 (.p (extF (tt 9) 1)) [pp 9],
 mv 7 14,
 mv 8 15]) (
 .seq (.reg [
 mv 16 7,
 qo 17 (.p (convF .i64 (tt 16))) [pp 16],
 mv 6 17]) (
 .ret)))⟩
theorem c177_eq : fnOf Tryz.prog 177 = some c177 := by kernel_rfl
noncomputable def c178_l0 : C := .seq (.seq (.reg [
 mv 41 11,
 qo 42 (.p (arF .geq (tt 41) (ii 0))) [pp 41]]) (
 .cond (tt 42) (.skip) (.exit 2))) (
 .seq (.block 3 (.seq (.reg [
 mv 45 9,
 mv 46 1,
 qo 47 (.p (arF .mul (tt 45) (tt 46))) [pp 45, pp 46],
 mv 48 11,
 qo 49 (.p (arF .add (tt 47) (tt 48))) [pp 47, pp 48],
 mv 12 49]) (
 .reg [
 mv 50 10,
 qo 51 (.p (arF .mul (.c (.int .u8 2)) (tt 50))) [pp 50],
 mv 52 0,
 mv 53 12,
 qo 54 (.p (arF .quo (tt 53) (ii 8))) [pp 53],
 qo 55 (.p (iaddrSF (tt 52) (tt 54) 1)) [pp 52, pp 54],
 qo 56 (.r (loadF (tt 55) 1 .sc)) [pp 55],
 mv 57 12,
 qo 58 (.p (arF .rem (tt 57) (ii 8))) [pp 57],
 qo 59 (.p (convF .u64 (tt 58))) [pp 58],
 qo 60 (.p (arF .shr (tt 56) (tt 59))) [pp 56, pp 59],
 qo 61 (.p (arF .rem (tt 60) (.c (.int .u8 2)))) [pp 60],
 qo 62 (.p (arF .add (tt 51) (tt 61))) [pp 51, pp 61],
 mv 10 62]))) (
 .reg [
 mv 43 11,
 qo 44 (.p (arF .sub (tt 43) (ii 1))) [pp 43],
 mv 11 44]))
noncomputable def c178_l1 : C := .seq (.seq (.reg [
 mv 34 9,
 mv 35 2,
 qo 36 (.p (arF .lss (tt 34) (tt 35))) [pp 34, pp 35]]) (
 .cond (tt 36) (.skip) (.exit 0))) (
 .seq (.block 1 (.seq (.reg [
 qo 10 (.p (S.get (.c (.int .u8 0)))) []]) (
 .seq (.seq (.reg [
 mv 39 1,
 qo 40 (.p (arF .sub (tt 39) (ii 1))) [pp 39],
 mv 11 40]) (
 .block 2 (.loop c178_l0))) (
 .reg [
 mv 63 8,
 mv 64 10,
 qo 65 (.m (bsliceF 1 1 [.int .u8 0] [(0, 1, (tt 64))])) [pp 64],
 qo 66 (.a (appF 1 1 (tt 63) (tt 65))) [pp 63, pp 65],
 mv 8 66])))) (
 .reg [
 mv 37 9,
 qo 38 (.p (arF .add (tt 37) (ii 1))) [pp 37],
 mv 9 38]))
noncomputable def c178 : CFn := ⟨[.tmp (pp 6), .tmp (pp 7)],
 .seq (.reg [
 qo 6 (.p (S.get (.c (.slice none 0 0 0)))) [],
 qo 7 (.p (S.get (ii 0))) []]) (
 .seq (.seq (.reg [
 mv 13 1,
 qo 14 (.p (arF .lss (tt 13) (ii 1))) [pp 13],
 mv 15 14,
 mg 16 1 15 false,
 qg 17 (.p (arF .gtr (tt 16) (ii 8))) 15 false [pp 16],
 qo 18 (.p (pickF (tt 15) (.c (.bool true)) (tt 17))) [pp 15, pp 17],
 mv 19 18,
 mg 20 2 19 false,
 qg 21 (.p (arF .lss (tt 20) (ii 0))) 19 false [pp 20],
 qo 22 (.p (pickF (tt 19) (.c (.bool true)) (tt 21))) [pp 19, pp 21],
 mv 23 22,
 mg 24 2 23 false,
 qg 25 (.p (arF .gtr (tt 24) (ii 1048576))) 23 false [pp 24],
 qo 26 (.p (pickF (tt 23) (.c (.bool true)) (tt 25))) [pp 23, pp 25]]) (
 .cond (tt 26) (.seq (.reg [
 qo 6 (.p (S.get (.c (.slice none 0 0 0)))) [],
 qo 7 (.p (S.get (ii 2))) []]) (
 .ret)) (.skip))) (
 .seq (.seq (.reg [
 mv 27 0,
 qo 28 (.p (lenF (tt 27))) [pp 27],
 qo 29 (.p (arF .mul (ii 8) (tt 28))) [pp 28],
 mv 30 1,
 mv 31 2,
 qo 32 (.p (arF .mul (tt 30) (tt 31))) [pp 30, pp 31],
 qo 33 (.p (arF .lss (tt 29) (tt 32))) [pp 29, pp 32]]) (
 .cond (tt 33) (.seq (.reg [
 qo 6 (.p (S.get (.c (.slice none 0 0 0)))) [],
 qo 7 (.p (S.get (ii 4))) []]) (
 .ret)) (.skip))) (
 .seq (.reg [
 qo 8 (.p (S.get (.c (.slice none 0 0 0)))) []]) (
 .seq (.seq (.reg [
 qo 9 (.p (S.get (ii 0))) []]) (
 .block 0 (.loop c178_l1))) (
 .seq (.reg [
 mv 67 8,
 mv 6 67,
 qo 7 (.p (S.get (ii 0))) []]) (
 .ret))))))⟩
theorem c178_eq : fnOf Tryz.prog 178 = some c178 := by kernel_rfl
noncomputable def sumB (c : Nat → Nat) : Nat → Nat
  | 0 => 0
  | i + 1 => sumB c i + c i * 256 ^ i
theorem sumB_lt {c : Nat → Nat} : ∀ {n : Nat}, (∀ i, i < n → c i < 256) → sumB c n < 256 ^ n
  | 0, _ => by show 0 < 1; decide
  | n + 1, h => by
    have a := sumB_lt (c := c) (n := n) (fun i hi => h i (by omega))
    have b := h n (by omega)
    show sumB c n + c n * 256 ^ n < 256 ^ (n + 1)
    rw [Nat.pow_succ]
    have : c n * 256 ^ n ≤ 255 * 256 ^ n := Nat.mul_le_mul_right _ (by omega)
    omega
theorem leN_sum {c : Nat → Nat} : ∀ {n : Nat}, (∀ i, i < n → c i < 256) → leN c n = sumB c n
  | 0, _ => rfl
  | n + 1, h => by
    have a := sumB_lt (c := c) (n := n) (fun i hi => h i (by omega))
    have ih := leN_sum (c := c) (n := n) (fun i hi => h i (by omega))
    show leN c n ||| up (c n) n = sumB c n + c n * 256 ^ n
    rw [ih]
    unfold up
    have e : (256 : Nat) ^ n = 2 ^ (8 * n) := by rw [Nat.pow_mul]
    rw [e] at a ⊢
    rw [Nat.or_comm, Nat.mul_comm, ← Nat.two_pow_add_eq_or_of_lt a, Nat.add_comm]
noncomputable def valN (c : Nat → Nat) (s : Nat) : Nat → Nat
  | 0 => 0
  | m + 1 => 256 * valN c s m + c (s - 1 - m)
theorem valN_lt {c : Nat → Nat} {s : Nat} (h : ∀ i, i < s → c i < 256) : ∀ m, m ≤ s → valN c s m < 256 ^ m
  | 0, _ => by show 0 < 1; decide
  | m + 1, hm => by
    have a := valN_lt h m (by omega)
    have b := h (s - 1 - m) (by omega)
    show 256 * valN c s m + c (s - 1 - m) < 256 ^ (m + 1)
    rw [Nat.pow_succ]
    omega
theorem valN_sum (c : Nat → Nat) (s : Nat) : ∀ m, m ≤ s → sumB c s = valN c s m * 256 ^ (s - m) + sumB c (s - m)
  | 0, _ => by simp [valN]
  | m + 1, hm => by
    have ih := valN_sum c s m (by omega)
    rw [ih]
    have e : s - m = (s - (m + 1)) + 1 := by omega
    rw [e]
    show _ + (sumB c (s - (m + 1)) + c (s - (m + 1)) * 256 ^ (s - (m + 1))) = (256 * valN c s m + c (s - 1 - m)) * 256 ^ (s - (m + 1)) + _
    rw [show s - 1 - m = s - (m + 1) by omega, Nat.pow_succ, Nat.add_mul, Nat.mul_comm (256 ^ (s - (m + 1))) 256, ← Nat.mul_assoc, Nat.mul_comm (valN c s m) 256]
    omega
theorem valN_le {c : Nat → Nat} {s : Nat} (h : ∀ i, i < s → c i < 256) : valN c s s = leN c s := by
  rw [leN_sum h, valN_sum c s s (Nat.le_refl _)]
  simp [sumB]
theorem rnum_ok {H : Heap} {p : Ptr} {len cap loose a sz : Nat} {c : Nat → Nat} (hs : 1 ≤ sz ∧ sz ≤ 8) (ha : a + sz ≤ len) (hm : len < 1000000) (hb : ∀ i, i < sz → c i < 256) (hd : ∀ i, i < sz → loadAt H ⟨p.b, p.o + (a + i)⟩ 1 = some [.int .u8 (c i : Int)]) (lf n : Nat) (hlf : 17 < lf) :
    callS Tryz.prog S0 lf (n + 1) 176 [.slice (some p) len cap loose, .int .i64 (a : Int), .int .i64 (sz : Int)] H = some (.v (.tuple [.int .u64 ((leN c sz : Nat) : Int), .int .i64 0]), H) := by
  obtain ⟨v, H', e, rfl, rfl⟩ : ret (callS Tryz.prog S0 lf (n + 1) 176 [.slice (some p) len cap loose, .int .i64 (a : Int), .int .i64 (sz : Int)] H) fun v H' => v = .tuple [.int .u64 ((leN c sz : Nat) : Int), .int .i64 0] ∧ H' = H := by
    refine ret_call rfl c176_eq ?_
    have f1 : ¬ ((sz : Int) < 1) := by omega
    have f2 : ¬ ((8 : Int) < (sz : Int)) := by omega
    have f3 : ¬ ((a : Int) < 0) := by omega
    have f4 : ¬ ((len : Int) < (a : Int)) := by omega
    have w1 : IntKind.i64.wrap ((len : Int) - (a : Int)) = ((len - a : Nat) : Int) := by rw [wrap_i64 (by omega)]; omega
    have f5 : ¬ (((len - a : Nat) : Int) < (sz : Int)) := by omega
    have w2 : IntKind.i64.wrap ((sz : Int) - 1) = (sz : Int) - 1 := wrap_i64 (by omega)
    have hloop : ∀ t : T, t.getP (Tr.path 0) = some (.slice (some p) len cap loose) → t.getP (Tr.path 1) = some (.int .i64 (a : Int)) → t.getP (Tr.path 8) = some (.int .u64 0) → t.getP (Tr.path 9) = some (.int .i64 ((sz : Int) - 1)) →
        wp (loopF (runC (callS Tryz.prog S0 lf n) lf c176_l0) lf ⟨t, H, []⟩) fun x s => x = .ex 0 ∧ s.d = [] ∧ s.H = H ∧ s.t.getP (Tr.path 8) = some (.int .u64 ((leN c sz : Nat) : Int)) := by
      intro t q0 q1 q8 q9
      refine wp_loopF (fun k s => ∃ m : Nat, k = sz - m ∧ m ≤ sz ∧ s.d = [] ∧ s.H = H ∧ s.t.getP (Tr.path 0) = some (.slice (some p) len cap loose) ∧ s.t.getP (Tr.path 1) = some (.int .i64 (a : Int)) ∧ s.t.getP (Tr.path 8) = some (.int .u64 ((valN c sz m : Nat) : Int)) ∧ s.t.getP (Tr.path 9) = some (.int .i64 ((sz : Int) - 1 - (m : Int)))) ?_ lf sz _ ⟨0, rfl, by omega, rfl, rfl, q0, q1, q8, by rw [q9]; simp⟩ (by omega)
      rintro k ⟨t, HH, d⟩ ⟨m, rfl, hi, hd', hH, q0, q1, q8, q9⟩
      dsimp only at hd' hH q0 q1 q8 q9
      subst hd'; subst hH
      by_cases hlt : m < sz
      · have g0 : (0 : Int) ≤ (sz : Int) - 1 - (m : Int) := by omega
        obtain ⟨i, hi'⟩ : ∃ i, i = sz - 1 - m := ⟨_, rfl⟩
        have ei : (sz : Int) - 1 - (m : Int) = (i : Int) := by omega
        rw [ei] at q9
        have k0 : (0 : Int) ≤ (i : Int) := by omega
        have hval : valN c sz (m + 1) = 256 * valN c sz m + c i := by rw [valN, hi']
        have vl := valN_lt hb m (by omega)
        have vl' := valN_lt hb (m + 1) (by omega)
        rw [hval] at vl'
        have p8 : 256 ^ (m + 1) ≤ 256 ^ 8 := Nat.pow_le_pow_right (by decide) (by omega)
        rw [show (256 : Nat) ^ 8 = 18446744073709551616 by decide +kernel] at p8
        have lk := hd i (by omega)
        have hcb := hb i (by omega)
        obtain ⟨e, he⟩ : ∃ e, e = a + i := ⟨_, rfl⟩
        rw [← he] at lk
        have hle : e + 1 ≤ len := by omega
        have w3 : IntKind.i64.wrap ((a : Int) + (i : Int)) = (e : Int) := by rw [wrap_i64 (by omega)]; omega
        have w4 : IntKind.i64.wrap ((i : Int) - 1) = (sz : Int) - 1 - ((m + 1 : Nat) : Int) := by rw [wrap_i64 (by omega)]; omega
        generalize hv : valN c sz m = v at *
        generalize c i = ci at *
        have w5 : IntKind.u64.wrap (256 * (v : Int)) = ((256 * v : Nat) : Int) := by rw [show (256 * (v : Int)) = ((256 * v : Nat) : Int) by omega]; exact wrap_u64 (by omega)
        have w6 : IntKind.u64.wrap (ci : Int) = (ci : Int) := wrap_u64 (by omega)
        obtain ⟨v2, hv2⟩ : ∃ z, z = 256 * v := ⟨_, rfl⟩
        rw [← hv2] at w5 vl' hval
        have w7 : IntKind.u64.wrap ((v2 : Int) + (ci : Int)) = ((v2 + ci : Nat) : Int) := by rw [show ((v2 : Int) + (ci : Int)) = ((v2 + ci : Nat) : Int) by omega]; exact wrap_u64 (by omega)
        rw [← hval] at w7
        simp only [c176_l0, q0, q1, q8, q9, k0, hle, w3, w4, w5, w6, w7, lk, arith_mul, Nat.mul_one, sy, tup, ↓reduceIte, Nat.reduceEqDiff, Nat.reduceAdd, Nat.reduceSub, Nat.reduceMul, Nat.reduceLeDiff, Int.reduceBEq, reduceCtorEq]
        exact ⟨sz - (m + 1), by omega, m + 1, rfl, by omega, trivial, trivial, trivial, trivial, rfl, by simp⟩
      · have : m = sz := by omega
        subst this
        have g0 : ¬ ((0 : Int) ≤ (m : Int) - 1 - (m : Int)) := by omega
        simp only [c176_l0, q0, q1, q8, q9, g0, sy, tup, ↓reduceIte, Nat.reduceEqDiff, Nat.reduceAdd, Nat.reduceSub, Nat.reduceMul, Nat.reduceLeDiff, Int.reduceBEq, reduceCtorEq]
        exact ⟨trivial, trivial, trivial, by rw [valN_le hb]⟩
    simp only [c176, f1, f2, f3, f4, f5, w1, w2, sy, tup, ↓reduceIte, Nat.reduceEqDiff, Nat.reduceAdd, Nat.reduceSub, Nat.reduceMul, Nat.reduceLeDiff, Int.reduceBEq, reduceCtorEq]
    refine wp_ctx (F := fun r => seqC _ _ _ (blockC _ r)) (hloop _ ?_ ?_ ?_ ?_) ?_
    · simp only [sy, tup, ↓reduceIte, Nat.reduceEqDiff, Nat.reduceAdd, Nat.reduceSub, Nat.reduceMul, Nat.reduceLeDiff, Int.reduceBEq, reduceCtorEq]
    · simp only [sy, tup, ↓reduceIte, Nat.reduceEqDiff, Nat.reduceAdd, Nat.reduceSub, Nat.reduceMul, Nat.reduceLeDiff, Int.reduceBEq, reduceCtorEq]
    · simp only [sy, tup, ↓reduceIte, Nat.reduceEqDiff, Nat.reduceAdd, Nat.reduceSub, Nat.reduceMul, Nat.reduceLeDiff, Int.reduceBEq, reduceCtorEq]
    · simp only [sy, tup, ↓reduceIte, Nat.reduceEqDiff, Nat.reduceAdd, Nat.reduceSub, Nat.reduceMul, Nat.reduceLeDiff, Int.reduceBEq, reduceCtorEq]
    rintro x ⟨t, HH, d⟩ ⟨rfl, hd', hH, q8⟩
    dsimp only at hd' hH q8
    subst hd'; subst hH
    simp only [q8, sy, tup, ↓reduceIte, Nat.reduceEqDiff, Nat.reduceAdd, Nat.reduceSub, Nat.reduceMul, Nat.reduceLeDiff, Int.reduceBEq, reduceCtorEq]
    simp
  exact e
theorem rnumber_ok {H : Heap} {p : Ptr} {len cap loose a sz : Nat} {c : Nat → Nat} (hs : 1 ≤ sz ∧ sz ≤ 2) (ha : a + sz ≤ len) (hm : len < 1000000) (hb : ∀ i, c i < 256) (hd : ∀ i, i < sz → loadAt H ⟨p.b, p.o + (a + i)⟩ 1 = some [.int .u8 (c i : Int)]) (lf n : Nat) (hlf : 17 < lf) :
    callS Tryz.prog S0 lf (n + 2) 177 [.slice (some p) len cap loose, .int .i64 (a : Int), .int .i64 (sz : Int)] H = some (.v (.int .i64 ((leN c sz : Nat) : Int)), H) := by
  have e1 := rnum_ok (H := H) (p := p) (len := len) (cap := cap) (loose := loose) (a := a) (sz := sz) (c := c) (by omega) ha hm (fun i _ => hb i) hd lf n hlf
  have hlt : leN c sz < 65536 := Nat.lt_of_lt_of_le (leN_lt' hb sz) (Nat.le_trans (Nat.pow_le_pow_right (by decide) (show 8 * sz ≤ 16 by omega)) (by decide))
  have w1 : IntKind.i64.wrap ((leN c sz : Nat) : Int) = ((leN c sz : Nat) : Int) := wrap_i64 (by omega)
  obtain ⟨v, H', e, rfl, rfl⟩ : ret (callS Tryz.prog S0 lf (n + 2) 177 [.slice (some p) len cap loose, .int .i64 (a : Int), .int .i64 (sz : Int)] H) fun v H' => v = .int .i64 ((leN c sz : Nat) : Int) ∧ H' = H := by
    refine ret_call rfl c177_eq ?_
    simp only [c177, e1, w1, sy, tup, ↓reduceIte, Nat.reduceEqDiff, Nat.reduceAdd, Nat.reduceSub, Nat.reduceMul, Nat.reduceLeDiff, Int.reduceBEq, reduceCtorEq]
    simp
  exact e
noncomputable def twos (c : Nat → Nat) : Nat → List Nat
  | 0 => []
  | i + 1 => twos c i ++ [twoB c i]
theorem twos_len (c : Nat → Nat) : ∀ i, (twos c i).length = i
  | 0 => rfl
  | i + 1 => by simp [twos, twos_len c i]
def bitC (c : Nat → Nat) (j : Nat) : Nat := c (j / 8) / 2 ^ (j % 8) % 2
theorem bitC_lt (c : Nat → Nat) (j : Nat) : bitC c j < 2 := Nat.mod_lt _ (by decide)
noncomputable def accB (c : Nat → Nat) (i : Nat) : Nat → Nat
  | 0 => 0
  | m + 1 => 2 * accB c i m + bitC c (2 * i + (1 - m))
theorem accB_two (c : Nat → Nat) (i : Nat) : accB c i 2 = twoB c i := by
  show 2 * (2 * 0 + bitC c (2 * i + 1)) + bitC c (2 * i + 0) = _
  unfold bitC twoB
  have e1 : (2 * i + 1) / 8 = 2 * i / 8 := by omega
  have e2 : (2 * i + 1) % 8 = 2 * i % 8 + 1 := by omega
  rw [e1, e2, Nat.add_zero, Nat.pow_succ, ← Nat.div_div_eq_div_mul]
  generalize c (2 * i / 8) / 2 ^ (2 * i % 8) = x
  have : x &&& 3 = x % 4 := Nat.and_two_pow_sub_one_eq_mod x 2
  rw [this]
  omega
theorem shr_u8 {a m : Nat} (hm : m < 8) : arith .shr (.int .u8 (a : Int)) (.int .u64 (m : Int)) = some (.int .u8 ((a / 2 ^ m : Nat) : Int)) := by
  have : min m 8 = m := by omega
  show some (V.int .u8 (.ofNat (Nat.div a (Nat.pow 2 (min m 8))))) = _
  rw [this]; rfl
theorem runbits_ok {H : Heap} {p : Ptr} {cap loose : Nat} {c : Nat → Nat} (hc : ∀ i, c i < 256) (hd : ∀ {H' : Heap}, Turns Z H H' → ∀ i, i < 4 → loadAt H' ⟨p.b, p.o + i⟩ 1 = some [.int .u8 (c i : Int)]) (lf n : Nat) (hlf : 17 < lf) :
    ret (callS Tryz.prog S0 lf (n + 1) 178 [.slice (some p) 4 cap loose, .int .i64 2, .int .i64 16] H) fun v H' => Turns Z H H' ∧ ∃ y, v = .tuple [y, .int .i64 0] ∧ Lst H H' 1 (rowsN (twos c 16)) y := by
  have g1 : ¬ ((2 : Int) < 1) := by omega
  have g2 : ¬ ((8 : Int) < 2) := by omega
  have g3 : ¬ ((16 : Int) < 0) := by omega
  have g4 : ¬ ((1048576 : Int) < 16) := by omega
  have w1 : IntKind.i64.wrap (8 * ((4 : Nat) : Int)) = 32 := by kernel_rfl
  have w2 : IntKind.i64.wrap (2 * 16) = 32 := by kernel_rfl
  refine ret_call rfl c178_eq ?_
  simp only [c178, g1, g2, g3, g4, w1, w2, arith_mul, Int.lt_irrefl, sy, tup, ↓reduceIte, Nat.reduceEqDiff, Nat.reduceAdd, Nat.reduceSub, Nat.reduceMul, Nat.reduceLeDiff, Int.reduceBEq, reduceCtorEq]
  have hloop : ∀ t : T, t.getP (Tr.path 0) = some (.slice (some p) 4 cap loose) → t.getP (Tr.path 1) = some (.int .i64 2) → t.getP (Tr.path 2) = some (.int .i64 16) → t.getP (Tr.path 8) = some (.slice none 0 0 0) → t.getP (Tr.path 9) = some (.int .i64 0) →
      wp (loopF (runC (callS Tryz.prog S0 lf n) lf c178_l1) lf ⟨t, H, []⟩) fun x s' => x = .ex 0 ∧ s'.d = [] ∧ ∃ y, s'.t.getP (Tr.path 8) = some y ∧ Lst H s'.H 1 (rowsN (twos c 16)) y ∧ Turns Z H s'.H := by
    intro t q0 q1 q2 q8 q9
    refine wp_loopF (fun j s' => ∃ i : Nat, j = 16 - i ∧ i ≤ 16 ∧ s'.d = [] ∧ s'.t.getP (Tr.path 0) = some (.slice (some p) 4 cap loose) ∧ s'.t.getP (Tr.path 1) = some (.int .i64 2) ∧ s'.t.getP (Tr.path 2) = some (.int .i64 16) ∧ s'.t.getP (Tr.path 9) = some (.int .i64 (i : Int)) ∧ ∃ y, s'.t.getP (Tr.path 8) = some y ∧ Lst H s'.H 1 (rowsN (twos c i)) y ∧ Turns Z H s'.H) ?_ lf 16 _ ⟨0, rfl, by omega, rfl, q0, q1, q2, q9, _, q8, Lst.nil _ _ _, Turns.refl _ _⟩ (by omega)
    rintro j ⟨t, HH, d⟩ ⟨i, rfl, hi, hd', q0, q1, q2, q9, y, q8, hy, tz⟩
    dsimp only at hd' q0 q1 q2 q9 q8 hy tz
    subst hd'
    by_cases hlt : i < 16
    · have hlt' : (i : Int) < 16 := by omega
      have w2 : IntKind.i64.wrap ((i : Int) + 1) = ((i + 1 : Nat) : Int) := by rw [wrap_i64 (by omega)]; omega
      have w3 : IntKind.i64.wrap (2 - 1) = 1 := by kernel_rfl
      have hin : ∀ t : T, t.getP (Tr.path 0) = some (.slice (some p) 4 cap loose) → t.getP (Tr.path 1) = some (.int .i64 2) → t.getP (Tr.path 2) = some (.int .i64 16) → t.getP (Tr.path 8) = some y → t.getP (Tr.path 9) = some (.int .i64 (i : Int)) → t.getP (Tr.path 10) = some (.int .u8 0) → t.getP (Tr.path 11) = some (.int .i64 1) →
          wp (loopF (runC (callS Tryz.prog S0 lf n) lf c178_l0) lf ⟨t, HH, []⟩) fun x s' => x = .ex 2 ∧ s'.d = [] ∧ s'.H = HH ∧ s'.t.getP (Tr.path 0) = some (.slice (some p) 4 cap loose) ∧ s'.t.getP (Tr.path 1) = some (.int .i64 2) ∧ s'.t.getP (Tr.path 2) = some (.int .i64 16) ∧ s'.t.getP (Tr.path 8) = some y ∧ s'.t.getP (Tr.path 9) = some (.int .i64 (i : Int)) ∧ s'.t.getP (Tr.path 10) = some (.int .u8 ((twoB c i : Nat) : Int)) := by
        intro t q0 q1 q2 q8 q9 q10 q11
        refine wp_loopF (fun j s' => ∃ m : Nat, j = 2 - m ∧ m ≤ 2 ∧ s'.d = [] ∧ s'.H = HH ∧ s'.t.getP (Tr.path 0) = some (.slice (some p) 4 cap loose) ∧ s'.t.getP (Tr.path 1) = some (.int .i64 2) ∧ s'.t.getP (Tr.path 2) = some (.int .i64 16) ∧ s'.t.getP (Tr.path 8) = some y ∧ s'.t.getP (Tr.path 9) = some (.int .i64 (i : Int)) ∧ s'.t.getP (Tr.path 10) = some (.int .u8 ((accB c i m : Nat) : Int)) ∧ s'.t.getP (Tr.path 11) = some (.int .i64 (1 - (m : Int)))) ?_ lf 2 _ ⟨0, rfl, by omega, rfl, rfl, q0, q1, q2, q8, q9, q10, q11⟩ (by omega)
        rintro j ⟨t, HX, d⟩ ⟨m, rfl, hm, hd', hX, q0, q1, q2, q8, q9, q10, q11⟩
        dsimp only at hd' hX q0 q1 q2 q8 q9 q10 q11
        subst hd'; subst hX
        by_cases hlt : m < 2
        · obtain ⟨k, hk⟩ : ∃ k, k = 1 - m := ⟨_, rfl⟩
          have ek : (1 : Int) - (m : Int) = (k : Int) := by omega
          rw [ek] at q11
          have k0 : (0 : Int) ≤ (k : Int) := by omega
          obtain ⟨i2, hi2⟩ : ∃ a, a = 2 * i := ⟨_, rfl⟩
          obtain ⟨a, ha⟩ : ∃ a, a = i2 + k := ⟨_, rfl⟩
          have u1 : IntKind.i64.wrap ((i : Int) * 2) = (i2 : Int) := by rw [wrap_i64 (by omega)]; omega
          have u2 : IntKind.i64.wrap ((i2 : Int) + (k : Int)) = (a : Int) := by rw [wrap_i64 (by omega)]; omega
          have u3 : arith .quo (.int .i64 (a : Int)) (.int .i64 8) = some (.int .i64 ((a / 8 : Nat) : Int)) := quo_i64 a 8 (by decide) (by omega)
          have u4 : arith .rem (.int .i64 (a : Int)) (.int .i64 8) = some (.int .i64 ((a % 8 : Nat) : Int)) := rem_i64 a 8 (by decide)
          have hq4 : a / 8 < 4 := by omega
          have hm8 : a % 8 < 8 := Nat.mod_lt _ (by decide)
          have lk := hd tz (a / 8) hq4
          have hql : a / 8 + 1 ≤ 4 := hq4
          have hcx := hc (a / 8)
          have hbit : bitC c a = c (a / 8) / 2 ^ (a % 8) % 2 := rfl
          have hacc : accB c i (m + 1) = 2 * accB c i m + bitC c a := by rw [accB, ha, hi2, hk]
          have hb2 := bitC_lt c a
          rw [hbit] at hacc hb2
          generalize a / 8 = q at *
          generalize a % 8 = mm at *
          have u5 : IntKind.u64.wrap (mm : Int) = (mm : Int) := wrap_u64 (by omega)
          have u6 : arith .shr (.int .u8 (c q : Int)) (.int .u64 (mm : Int)) = some (.int .u8 ((c q / 2 ^ mm : Nat) : Int)) := shr_u8 hm8
          have u7 : arith .rem (.int .u8 ((c q / 2 ^ mm : Nat) : Int)) (.int .u8 2) = some (.int .u8 ((c q / 2 ^ mm % 2 : Nat) : Int)) := rem_u8 _ 2 (by decide)
          have ha1 : accB c i m < 4 := by
            have : m = 0 ∨ m = 1 := by omega
            rcases this with rfl | rfl
            · show 0 < 4; decide
            · show 2 * 0 + bitC c (2 * i + (1 - 0)) < 4
              have := bitC_lt c (2 * i + (1 - 0)); omega
          generalize c q = cx at *
          generalize cx / 2 ^ mm = cy at *
          generalize cy % 2 = cz at *
          generalize accB c i m = ac at *
          have u8 : IntKind.u8.wrap (2 * (ac : Int)) = ((2 * ac : Nat) : Int) := by rw [show (2 * (ac : Int)) = ((2 * ac : Nat) : Int) by omega]; exact wrap_u8 (by omega)
          obtain ⟨a2, ha2⟩ : ∃ z, z = 2 * ac := ⟨_, rfl⟩
          rw [← ha2] at u8 hacc
          have u9 : IntKind.u8.wrap ((a2 : Int) + (cz : Int)) = ((a2 + cz : Nat) : Int) := by rw [show ((a2 : Int) + (cz : Int)) = ((a2 + cz : Nat) : Int) by omega]; exact wrap_u8 (by omega)
          rw [← hacc] at u9
          have u10 : IntKind.i64.wrap ((k : Int) - 1) = 1 - ((m + 1 : Nat) : Int) := by rw [wrap_i64 (by omega)]; omega
          simp only [c178_l0, q0, q1, q2, q8, q9, q10, q11, k0, hql, u1, u2, u3, u4, u5, u6, u7, u8, u9, u10, lk, arith_mul, Nat.mul_one, sy, tup, ↓reduceIte, Nat.reduceEqDiff, Nat.reduceAdd, Nat.reduceSub, Nat.reduceMul, Nat.reduceLeDiff, Int.reduceBEq, reduceCtorEq]
          exact ⟨2 - (m + 1), by omega, m + 1, rfl, by omega, trivial, trivial, trivial, trivial, trivial, trivial, trivial, rfl, by simp⟩
        · have : m = 2 := by omega
          subst this
          have g0 : ¬ ((0 : Int) ≤ 1 - ((2 : Nat) : Int)) := by omega
          simp only [c178_l0, q0, q1, q2, q8, q9, q10, q11, g0, sy, tup, ↓reduceIte, Nat.reduceEqDiff, Nat.reduceAdd, Nat.reduceSub, Nat.reduceMul, Nat.reduceLeDiff, Int.reduceBEq, reduceCtorEq]
          refine ⟨trivial, trivial, trivial, trivial, trivial, trivial, trivial, trivial, by rw [accB_two]⟩
      simp only [c178_l1, q0, q1, q2, q8, q9, hlt', w2, w3, Nat.mul_one, sy, tup, ↓reduceIte, Nat.reduceEqDiff, Nat.reduceAdd, Nat.reduceSub, Nat.reduceMul, Nat.reduceLeDiff, Int.reduceBEq, reduceCtorEq]
      refine wp_ctx (F := fun r => seqC _ _ _ (blockC _ (seqC _ _ _ (blockC _ r)))) (hin _ ?_ ?_ ?_ ?_ ?_ ?_ ?_) ?_
      · simp only [q0, sy, tup, ↓reduceIte, Nat.reduceEqDiff, Nat.reduceAdd, Nat.reduceSub, Nat.reduceMul, Nat.reduceLeDiff, Int.reduceBEq, reduceCtorEq]
      · simp only [q1, sy, tup, ↓reduceIte, Nat.reduceEqDiff, Nat.reduceAdd, Nat.reduceSub, Nat.reduceMul, Nat.reduceLeDiff, Int.reduceBEq, reduceCtorEq]
      · simp only [q2, sy, tup, ↓reduceIte, Nat.reduceEqDiff, Nat.reduceAdd, Nat.reduceSub, Nat.reduceMul, Nat.reduceLeDiff, Int.reduceBEq, reduceCtorEq]
      · simp only [q8, sy, tup, ↓reduceIte, Nat.reduceEqDiff, Nat.reduceAdd, Nat.reduceSub, Nat.reduceMul, Nat.reduceLeDiff, Int.reduceBEq, reduceCtorEq]
      · simp only [q9, sy, tup, ↓reduceIte, Nat.reduceEqDiff, Nat.reduceAdd, Nat.reduceSub, Nat.reduceMul, Nat.reduceLeDiff, Int.reduceBEq, reduceCtorEq]
      · simp only [sy, tup, ↓reduceIte, Nat.reduceEqDiff, Nat.reduceAdd, Nat.reduceSub, Nat.reduceMul, Nat.reduceLeDiff, Int.reduceBEq, reduceCtorEq]
      · simp only [sy, tup, ↓reduceIte, Nat.reduceEqDiff, Nat.reduceAdd, Nat.reduceSub, Nat.reduceMul, Nat.reduceLeDiff, Int.reduceBEq, reduceCtorEq]
      rintro x ⟨t, HK, d⟩ ⟨rfl, hd', hX, q0, q1, q2, q8, q9, q10⟩
      dsimp only at hd' hX q0 q1 q2 q8 q9 q10
      subst hd'; subst hX
      obtain ⟨H', ea, hv', ta⟩ := appB hy tz.next (by rw [rowsN_len, twos_len]; omega) (twoB c i)
      have tz' := lst_away hy tz (Nat.le_refl _) ta
      have hdg : rowsN (twos c (i + 1)) = rowsN (twos c i) ++ [[.int .u8 ((twoB c i : Nat) : Int)]] := by rw [twos, rowsN_app]; rfl
      rw [← hdg] at hv'
      simp only [q0, q1, q2, q8, q9, q10, ea, w2, sy, tup, ↓reduceIte, Nat.reduceEqDiff, Nat.reduceAdd, Nat.reduceSub, Nat.reduceMul, Nat.reduceLeDiff, Int.reduceBEq, reduceCtorEq]
      exact ⟨16 - (i + 1), by omega, i + 1, rfl, by omega, trivial, trivial, trivial, trivial, by simp, _, rfl, hv', tz'⟩
    · have : i = 16 := by omega
      subst this
      have hnl : decide (((16 : Nat) : Int) < 16) = false := rfl
      simp only [c178_l1, q0, q1, q2, q8, q9, hnl, sy, tup, ↓reduceIte, Nat.reduceEqDiff, Nat.reduceAdd, Nat.reduceSub, Nat.reduceMul, Nat.reduceLeDiff, Int.reduceBEq, reduceCtorEq]
      exact ⟨trivial, trivial, y, by first | rfl | exact q8, hy, tz⟩
  refine wp_ctx (F := fun r => seqC _ _ _ (blockC _ r)) (hloop _ ?_ ?_ ?_ ?_ ?_) ?_
  · simp only [sy, tup, ↓reduceIte, Nat.reduceEqDiff, Nat.reduceAdd, Nat.reduceSub, Nat.reduceMul, Nat.reduceLeDiff, Int.reduceBEq, reduceCtorEq]
  · simp only [sy, tup, ↓reduceIte, Nat.reduceEqDiff, Nat.reduceAdd, Nat.reduceSub, Nat.reduceMul, Nat.reduceLeDiff, Int.reduceBEq, reduceCtorEq]
  · simp only [sy, tup, ↓reduceIte, Nat.reduceEqDiff, Nat.reduceAdd, Nat.reduceSub, Nat.reduceMul, Nat.reduceLeDiff, Int.reduceBEq, reduceCtorEq]
  · simp only [sy, tup, ↓reduceIte, Nat.reduceEqDiff, Nat.reduceAdd, Nat.reduceSub, Nat.reduceMul, Nat.reduceLeDiff, Int.reduceBEq, reduceCtorEq]
  · simp only [sy, tup, ↓reduceIte, Nat.reduceEqDiff, Nat.reduceAdd, Nat.reduceSub, Nat.reduceMul, Nat.reduceLeDiff, Int.reduceBEq, reduceCtorEq]
  rintro x ⟨t, HB, d⟩ ⟨rfl, hd', y, q8, hy, tz⟩
  dsimp only at hd' q8 hy tz
  subst hd'
  simp only [q8, sy, tup, ↓reduceIte, Nat.reduceEqDiff, Nat.reduceAdd, Nat.reduceSub, Nat.reduceMul, Nat.reduceLeDiff, Int.reduceBEq, reduceCtorEq]
  exact ⟨trivial, .inr trivial, _, rfl, tz, y, rfl, hy⟩
end Go.Proofs.YtejgheoandfikaaGreat.draft
set_option linter.unusedVariables false
set_option linter.unusedSimpArgs false
set_option maxRecDepth 10000
namespace Go.Proofs.YtejgheoandfikaaGreat.draft
open Go.Am
noncomputable def c175 : CFn := ⟨[.tmp (pp 2), .tmp (pp 3), .tmp (pp 4)],
 .seq (.reg [
 qo 1 (.m (boxF 64 (tt 0))) [pp 0],
 qo 2 (.p (S.get (.c (.int .u64 0)))) [],
 qo 3 (.p (S.get (.c (.slice none 0 0 0)))) [],
 qo 4 (.p (S.get (ii 0))) []]) (
 .seq (.reg [
 qo 12 (.p (sliceAF 64 1 (tt 1) none none none)) [pp 1],
 qo 13 (.c (callF (ff 197) [(tt 12)])) [pp 12],
 mv 5 13]) (
 .seq (.reg [
 mv 15 5,
 qo 16 (.c (callF (ff 176) [(tt 15), (ii 0), (ii 8)])) [pp 15],
 mv 14 16,
 qo 17 (.p (extF (tt 14) 0)) [pp 14],
 qo 18 (.p (extF (tt 14) 1)) [pp 14],
 mv 6 17,
 mv 7 18]) (
 .seq (.reg [
 mv 20 5,
 qo 21 (.c (callF (ff 176) [(tt 20), (ii 56), (ii 8)])) [pp 20],
 mv 19 21,
 qo 22 (.p (extF (tt 19) 0)) [pp 19],
 qo 23 (.p (extF (tt 19) 1)) [pp 19],
 mv 8 22,
 mv 9 23]) (
 .seq (.seq (.reg [
 mv 24 6,
 qo 25 (.p (eqcF false false [.int .u64] (tt 24) (.c (.int .u64 0)))) [pp 24],
 mv 26 25,
 mg 27 6 26 false,
 mg 28 8 26 false,
 qg 29 (.p (eqcF true false [.int .u64] (tt 27) (tt 28))) 26 false [pp 27, pp 28],
 qo 30 (.p (pickF (tt 26) (.c (.bool true)) (tt 29))) [pp 26, pp 29]]) (
 .cond (tt 30) (.seq (.reg [
 qo 2 (.p (S.get (.c (.int .u64 0)))) [],
 qo 3 (.p (S.get (.c (.slice none 0 0 0)))) [],
 qo 4 (.p (S.get (ii 5))) []]) (
 .ret)) (.skip))) (
 .seq (.reg [
 mv 32 5,
 qo 33 (.c (callF (ff 176) [(tt 32), (ii 52), (ii 4)])) [pp 32],
 mv 31 33,
 qo 34 (.p (extF (tt 31) 0)) [pp 31],
 qo 35 (.p (extF (tt 31) 1)) [pp 31],
 mv 10 34,
 mv 11 35]) (
 .seq (.seq (.reg [
 mv 36 5,
 qo 37 (.p (sliceF 1 (tt 36) none (some (ii 52)) none)) [pp 36],
 qo 38 (.c (callF (ff 198) [(tt 37)])) [pp 37],
 qo 39 (.p (convF .u64 (tt 38))) [pp 38],
 mv 40 10,
 qo 41 (.p (eqcF true false [.int .u64] (tt 39) (tt 40))) [pp 39, pp 40]]) (
 .cond (tt 41) (.seq (.reg [
 qo 2 (.p (S.get (.c (.int .u64 0)))) [],
 qo 3 (.p (S.get (.c (.slice none 0 0 0)))) [],
 qo 4 (.p (S.get (ii 6))) []]) (
 .ret)) (.skip))) (
 .seq (.reg [
 mv 42 6,
 mv 43 5,
 qo 44 (.p (sliceF 1 (tt 43) (some (ii 8)) (some (ii 52)) none)) [pp 43],
 qo 45 (.c (callF (ff 197) [(tt 44)])) [pp 44],
 mv 2 42,
 mv 3 45,
 qo 4 (.p (S.get (ii 0))) []]) (
 .ret))))))))⟩
theorem c175_eq : fnOf Tryz.prog 175 = some c175 := by kernel_rfl
theorem rcopyE {H : Heap} {p : Ptr} {m cap loose : Nat} {f : Nat → Nat} (hm : 0 < m ∧ m ≤ 1000) (he : elems H p.b 1 m p.o = some (rowsB f m 0)) (lf n : Nat) : ret (callS Tryz.prog S0 lf (n + 1) 197 [.slice (some p) m cap loose] H) fun v H' => Turns Z H H' ∧ ∃ k, v = .slice (some ⟨.run k, 0⟩) m m 1 ∧ BodyAt H' k f m ∧ H.next ≤ k := by
  have hl := rowsB_len f m 0
  have hne : rowsB f m 0 ≠ [] := fun e => by rw [e] at hl; simp at hl; omega
  obtain ⟨H', ea, hw, ta, hn⟩ := (Lst.nil H H 1).app (by' := 1) (x := .slice (some p) m cap loose) (new := rowsB f m 0) (Nat.le_refl _) (by show elems H p.b 1 m p.o = _; exact he) (by show some m = _; rw [hl]) hne (by decide) (by simp [hl]; omega) (by simp [hl]; omega)
  have tz : Turns Z H H' := lst_away (Lst.nil H H 1) (Turns.refl _ _) (Nat.le_refl _) ta
  simp only [List.length_nil, hl, Nat.zero_add, List.nil_append] at ea hw
  refine ret_call rfl c197_eq ?_
  simp only [c197, ea, sy, tup, ↓reduceIte, Nat.reduceEqDiff, Nat.reduceAdd, Nat.reduceSub, Nat.reduceMul, Nat.reduceLeDiff, Int.reduceBEq, reduceCtorEq]
  refine ⟨trivial, .inr trivial, _, rfl, tz, H.next, rfl, ?_, Nat.le_refl _⟩
  rcases hw with ⟨e, _⟩ | ⟨k, _, e, hg, _, h2⟩
  · exact absurd e hne
  · have e' := (V.slice.inj e).1
    cases e'
    exact ⟨hg, h2⟩
theorem elems_body {H : Heap} {k : Nat} {c : Nat → Nat} {N : Nat} (h : BodyAt H k c N) (a : Nat) : ∀ n j, a + j + n ≤ N → elems H (.run k) 1 n (a + j) = some (rowsB (fun i => c (a + i)) n j)
  | 0, _, _ => rfl
  | n + 1, j, hj => by
    unfold elems
    rw [h.load (show a + j < N by omega)]
    simp only
    rw [show Nat.add (a + j) 1 = a + (j + 1) from rfl, elems_body h a n (j + 1) (by omega)]
    rfl
theorem rget7_ok (H : Heap) (B : Nat) {lf : Nat} (hlf : 90 < lf) (n : Nat) : ret (callS Tryz.prog S0 lf (n + 5) 175 [.blk B] H) fun v H' => Turns Z H H' ∧
    ((sealE B ≠ 0 ∧ v = .tuple [.int .u64 0, .slice none 0 0 0, .int .i64 (sealE B)]) ∨ (sealE B = 0 ∧ ∃ k, v = .tuple [.int .u64 ((sealN B : Nat) : Int), .slice (some ⟨.run k, 0⟩) 44 44 1, .int .i64 0] ∧ BodyAt H' k (fun i => byte B (8 + i)) 44 ∧ H.next ≤ k)) := by
  have t1 := Turns.add Z H (.rows false 64 [[.blk B]])
  have hg : (H.add (.rows false 64 [[.blk B]])).get (.run H.next) = some (.rows false 64 [[.blk B]]) := by rw [Heap.get_add, if_pos rfl]
  generalize hH1 : H.add (.rows false 64 [[.blk B]]) = H1 at *
  obtain ⟨vr, H2, e2, t2, k, rfl, hr, hk⟩ := rcopyE (p := ⟨.run H.next, 0⟩) (cap := 64) (loose := 0) (f := byte B) (by omega) (elems_blk hg 64 0 (by omega)) lf (n + 3)
  change callS Tryz.prog S0 lf (n + 4) _ _ _ = _ at e2
  have g1 : callS Tryz.prog S0 lf (n + 4) 176 [.slice (some ⟨.run k, 0⟩) 64 64 1, .int .i64 0, .int .i64 8] H2 = some (.v (.tuple [.int .u64 ((leN (fun i => byte B (0 + i)) 8 : Nat) : Int), .int .i64 0]), H2) := rnum_ok (a := 0) (sz := 8) (c := fun i => byte B (0 + i)) (by omega) (by omega) (by omega) (fun i _ => byte_lt _ _) (fun i hi => by simpa using hr.load (i := 0 + i) (by omega)) lf (n + 3) (by omega)
  have g2 : callS Tryz.prog S0 lf (n + 4) 176 [.slice (some ⟨.run k, 0⟩) 64 64 1, .int .i64 56, .int .i64 8] H2 = some (.v (.tuple [.int .u64 ((leN (fun i => byte B (56 + i)) 8 : Nat) : Int), .int .i64 0]), H2) := rnum_ok (a := 56) (sz := 8) (c := fun i => byte B (56 + i)) (by omega) (by omega) (by omega) (fun i _ => byte_lt _ _) (fun i hi => by simpa using hr.load (i := 56 + i) (by omega)) lf (n + 3) (by omega)
  have g3 : callS Tryz.prog S0 lf (n + 4) 176 [.slice (some ⟨.run k, 0⟩) 64 64 1, .int .i64 52, .int .i64 4] H2 = some (.v (.tuple [.int .u64 ((leN (fun i => byte B (52 + i)) 4 : Nat) : Int), .int .i64 0]), H2) := rnum_ok (a := 52) (sz := 4) (c := fun i => byte B (52 + i)) (by omega) (by omega) (by omega) (fun i _ => byte_lt _ _) (fun i hi => by simpa using hr.load (i := 52 + i) (by omega)) lf (n + 3) (by omega)
  have g4 : ∀ cap loose, callS Tryz.prog S0 lf (n + 4) 198 [.slice (some ⟨.run k, 0⟩) 52 cap loose] H2 = _ := fun cap loose => rof_ok (H := H2) (p := ⟨.run k, 0⟩) (len := 52) (cap := cap) (loose := loose) (c := byte B) (by omega) (fun i _ => byte_lt _ _) (fun i hi => by simpa using hr.load (i := i) (by omega)) lf n (by omega)
  have t12 := t1.trans t2
  have hk' : H.next ≤ k := Nat.le_trans t1.next hk
  have l1 : leN (fun i => byte B (0 + i)) 8 = sealN B := rfl
  rw [l1] at g1
  generalize hN2 : leN (fun i => byte B (56 + i)) 8 = n2 at *
  generalize hN3 : leN (fun i => byte B (52 + i)) 4 = n3 at *
  have hcl : notN (crcN (byte B) 52) < 4294967296 := notN_lt (crcN_lt (fun i _ => byte_lt _ _))
  have hE : sealE B = if sealN B = 0 ∨ sealN B ≠ n2 then 5 else if notN (crcN (byte B) 52) ≠ n3 then 6 else 0 := by unfold sealE; rw [hN2, hN3]
  generalize hN4 : notN (crcN (byte B) 52) = n4 at *
  have w4 : IntKind.u64.wrap (n4 : Int) = (n4 : Int) := wrap_u64 (by omega)
  have b1 : bound 52 (.int .i64 52) = some 52 := rfl
  have b2 : bound 64 (.int .i64 52) = some 52 := rfl
  have b3 : bound 52 (.int .i64 8) = some 8 := rfl
  have m1 : Nat.beq 52 0 = false := rfl
  have m2 : Nat.beq 64 8 = false := rfl
  have m3 : Nat.beq 52 8 = false := rfl
  have m4 : Nat.beq 64 0 = false := rfl
  rw [hE]
  obtain ⟨n1, hn1⟩ : ∃ z, z = sealN B := ⟨_, rfl⟩
  rw [← hn1] at g1 ⊢
  refine ret_call rfl c175_eq ?_
  by_cases h0 : n1 = 0
  · rw [h0] at g1 ⊢
    have z0 : (((0 : Nat) : Int) == 0) = true := rfl
    simp only [c175, hH1, e2, g1, g2, g3, g4, z0, sliceAF, oget, bounds, boundD, sy, tup, ↓reduceIte, Nat.reduceEqDiff, Nat.reduceAdd, Nat.reduceSub, Nat.reduceMul, Nat.reduceLeDiff, Int.reduceBEq, reduceCtorEq]
    exact ⟨trivial, .inr trivial, _, rfl, t12, .inl ⟨by simp, by simp⟩⟩
  · have z0 : ((n1 : Int) == 0) = false := by simpa using h0
    by_cases h1 : n1 = n2
    · rw [← h1] at g2 ⊢
      by_cases h2 : n4 = n3
      · rw [← h2] at g3 ⊢
        obtain ⟨vb, H3, e3, t3, k3, rfl, hb3, hk3⟩ : ret (callS Tryz.prog S0 lf (n + 4) 197 [.slice (some ⟨.run k, 8⟩) 44 56 1] H2) _ := rcopyE (p := ⟨.run k, 8⟩) (cap := 56) (loose := 1) (f := fun i => byte B (8 + i)) (by omega) (by simpa using elems_body hr 8 44 0 (by omega)) lf (n + 3)
        simp only [c175, hH1, e2, g1, g2, g3, g4, z0, w4, e3, b1, b2, b3, m1, m2, m3, m4, sliceF, sliceAF, oget, bounds, boundD, bne_self_eq_false, sy, tup, ↓reduceIte, Nat.reduceEqDiff, Nat.reduceAdd, Nat.reduceSub, Nat.reduceMul, Nat.reduceLeDiff, Int.reduceBEq, reduceCtorEq]
        exact ⟨trivial, .inr trivial, _, rfl, t12.trans t3, .inr ⟨by simp [h0], k3, rfl, hb3, Nat.le_trans t12.next hk3⟩⟩
      · have z2 : ((n4 : Int) == (n3 : Int)) = false := by simpa using (fun e => h2 (Int.ofNat.inj e))
        simp only [c175, hH1, e2, g1, g2, g3, g4, z0, z2, w4, b1, b2, m1, m2, m3, m4, sliceAF, oget, bounds, boundD, sy, tup, ↓reduceIte, Nat.reduceEqDiff, Nat.reduceAdd, Nat.reduceSub, Nat.reduceMul, Nat.reduceLeDiff, Int.reduceBEq, reduceCtorEq]
        exact ⟨trivial, .inr trivial, _, rfl, t12, .inl ⟨by simp [h0, h2], by simp [h0, h2]⟩⟩
    · have z1 : ((n1 : Int) == (n2 : Int)) = false := by simpa using (fun e => h1 (Int.ofNat.inj e))
      simp only [c175, hH1, e2, g1, g2, g3, g4, z0, z1, sliceAF, oget, bounds, boundD, sy, tup, ↓reduceIte, Nat.reduceEqDiff, Nat.reduceAdd, Nat.reduceSub, Nat.reduceMul, Nat.reduceLeDiff, Int.reduceBEq, reduceCtorEq]
      exact ⟨trivial, .inr trivial, _, rfl, t12, .inl ⟨by simp [h1], by simp [h1]⟩⟩
end Go.Proofs.YtejgheoandfikaaGreat.draft
set_option linter.unusedVariables false
set_option linter.unusedSimpArgs false
set_option maxRecDepth 10000
namespace Go.Proofs.YtejgheoandfikaaGreat.draft
open Go.Am
theorem sumB_split (c : Nat → Nat) (i : Nat) : ∀ m, sumB c (i + m) = sumB c i + 256 ^ i * sumB (fun j => c (i + j)) m
  | 0 => by simp [sumB]
  | m + 1 => by
    have ih := sumB_split c i m
    show sumB c (i + m) + c (i + m) * 256 ^ (i + m) = sumB c i + 256 ^ i * (sumB (fun j => c (i + j)) m + c (i + m) * 256 ^ m)
    rw [ih, Nat.mul_add, Nat.pow_add, ← Nat.mul_assoc, ← Nat.mul_assoc, Nat.mul_comm (c (i + m)) (256 ^ i)]
    omega
theorem sumB_digit {c : Nat → Nat} {n i : Nat} (h : ∀ j, j < n → c j < 256) (hi : i < n) : sumB c n / 256 ^ i % 256 = c i := by
  have e : n = i + (1 + (n - i - 1)) := by omega
  have a := sumB_split c i (1 + (n - i - 1))
  rw [← e] at a
  have b := sumB_split (fun j => c (i + j)) 1 (n - i - 1)
  have l := sumB_lt (c := c) (n := i) (fun j hj => h j (by omega))
  have hp : 0 < 256 ^ i := Nat.pow_pos (by decide)
  rw [a, Nat.add_mul_div_left _ _ hp, Nat.div_eq_of_lt l, Nat.zero_add, b]
  have : sumB (fun j => c (i + j)) 1 = c i := by simp [sumB]
  rw [this, show 256 ^ 1 = 256 from rfl, Nat.add_mul_mod_self_left]
  exact Nat.mod_eq_of_lt (h i hi)
theorem stl_snoc (f : Nat → Nat) : ∀ n j, stl f (n + 1) j = stl f n j ++ [f (j + n)]
  | 0, j => rfl
  | n + 1, j => by
    show f j :: stl f (n + 1) (j + 1) = (f j :: stl f n (j + 1)) ++ [f (j + (n + 1))]
    rw [stl_snoc f n (j + 1), List.cons_append, show j + 1 + n = j + (n + 1) by omega]
theorem stl_app (f : Nat → Nat) (n : Nat) : ∀ m j, stl f n j ++ stl f m (j + n) = stl f (n + m) j
  | 0, j => by simp [stl]
  | m + 1, j => by
    rw [stl_snoc f m (j + n), ← List.append_assoc, stl_app f n m j, ← Nat.add_assoc, stl_snoc f (n + m) j, show j + n + m = j + (n + m) by omega]
theorem stl_shift (f : Nat → Nat) (a : Nat) : ∀ n j, stl (fun i => f (a + i)) n j = stl f n (a + j)
  | 0, _ => rfl
  | n + 1, j => by
    show _ :: _ = _ :: _
    rw [stl_shift f a n (j + 1), show a + (j + 1) = a + j + 1 by omega]
theorem stl_congr {f g : Nat → Nat} : ∀ n j, (∀ i, j ≤ i → i < j + n → f i = g i) → stl f n j = stl g n j
  | 0, _, _ => rfl
  | n + 1, j, h => by
    show _ :: _ = _ :: _
    rw [h j (Nat.le_refl _) (by omega), stl_congr n (j + 1) (fun i a b => h i (by omega) (by omega))]
theorem stl_get (f : Nat → Nat) : ∀ n j i, i < n → (stl f n j)[i]? = some (f (j + i))
  | n + 1, j, 0, _ => rfl
  | n + 1, j, i + 1, h => by
    show (stl f n (j + 1))[i]? = _
    rw [stl_get f n (j + 1) i (by omega), show j + 1 + i = j + (i + 1) by omega]
theorem stl_getD {f : Nat → Nat} {n j i : Nat} (h : i < n) : (stl f n j).getD i 0 = f (j + i) := by
  rw [List.getD_eq_getElem?_getD, stl_get f n j i h]; rfl
theorem digs_le {c : Nat → Nat} {n : Nat} (h : ∀ j, j < n → c j < 256) : ∀ i, i ≤ n → digs (leN c n) i = stl c i 0
  | 0, _ => rfl
  | i + 1, hi => by
    rw [digs, digs_le h i (by omega), stl_snoc, leN_sum h, sumB_digit h (by omega), Nat.zero_add]
theorem putB_le' {c : Nat → Nat} {n : Nat} (h : ∀ j, j < n → c j < 256) : putB (leN c n) n = stl c n 0 := by
  unfold putB
  have l := sumB_lt h
  rw [if_pos (by rw [leN_sum h]; exact Nat.div_eq_of_lt l), digs_le h n (Nat.le_refl _)]
theorem eight (x : Nat) (h : x < 256) : 2 * (2 * (2 * (2 * (2 * (2 * (2 * (2 * 0 + x / 64 % 4 / 2 % 2) + x / 64 % 4 / 1 % 2) + x / 16 % 4 / 2 % 2) + x / 16 % 4 / 1 % 2) + x / 4 % 4 / 2 % 2) + x / 4 % 4 / 1 % 2) + x / 1 % 4 / 2 % 2) + x / 1 % 4 / 1 % 2 = x := by
  omega
theorem and3 (x : Nat) : x &&& 3 = x % 4 := Nat.and_two_pow_sub_one_eq_mod x 2
theorem outB_two {c : Nat → Nat} {S : Nat → Nat} (hS : ∀ i, i < 16 → S i = twoB c i) (hc : ∀ i, c i < 256) {q : Nat} (hq : q < 4) : outB S q = c q := by
  have t : ∀ h, h < 4 → S (4 * q + h) = c q / 4 ^ h % 4 := fun h hh => by
    rw [hS _ (by omega)]
    unfold twoB
    rw [show 2 * (4 * q + h) / 8 = q by omega, show 2 * (4 * q + h) % 8 = 2 * h by omega, and3, Nat.pow_mul]
  have b : ∀ k, k < 8 → bitOf S (8 * q + k) = c q / 4 ^ (k / 2) % 4 / 2 ^ (k % 2) % 2 := fun k hk => by
    unfold bitOf
    rw [show (8 * q + k) / 2 = 4 * q + k / 2 by omega, show (8 * q + k) % 2 = k % 2 by omega, t _ (by omega)]
  unfold outB
  show 2 * (2 * (2 * (2 * (2 * (2 * (2 * (2 * 0 + bitOf S (8 * q + 7)) + bitOf S (8 * q + 6)) + bitOf S (8 * q + 5)) + bitOf S (8 * q + 4)) + bitOf S (8 * q + 3)) + bitOf S (8 * q + 2)) + bitOf S (8 * q + 1)) + bitOf S (8 * q + 0) = c q
  rw [b 7 (by omega), b 6 (by omega), b 5 (by omega), b 4 (by omega), b 3 (by omega), b 2 (by omega), b 1 (by omega), b 0 (by omega)]
  exact eight (c q) (hc q)
theorem outs_two {c : Nat → Nat} {S : Nat → Nat} (hS : ∀ i, i < 16 → S i = twoB c i) (hc : ∀ i, c i < 256) : ∀ q, q ≤ 4 → outs S q = stl c q 0
  | 0, _ => rfl
  | q + 1, hq => by rw [outs, outs_two hS hc q (by omega), stl_snoc, outB_two hS hc (by omega), Nat.zero_add]
theorem fld_b (B a sz : Nat) : putB (fld B a sz) sz = stl (byte B) sz (8 + a) := by
  show putB (leN (fun i => bc B (a + i)) sz) sz = _
  rw [putB_le' (c := fun i => bc B (a + i)) (fun j _ => bc_lt B _), stl_congr (g := fun i => byte B ((8 + a) + i)) sz 0 (fun i _ _ => by show byte B (8 + (a + i)) = byte B (8 + a + i); rw [Nat.add_assoc]), stl_shift (byte B) (8 + a) sz 0, Nat.add_zero]
theorem fld_one (B a : Nat) : fld B a 1 = byte B (8 + a) := by
  show leN (fun i => bc B (a + i)) 1 = _
  rw [leN_sum (fun i _ => bc_lt B _)]
  simp [sumB, bc]
noncomputable def againN (B : Nat) : Nat := if ((((fld B 20 1 : Nat) : Int) == 1) : Bool) = true then 1 else 0
theorem body_again (B : Nat) : bodyN (fld B 0 8) (fld B 13 1) (fld B 8 1) (fld B 9 2) (fld B 11 2) (gSt B) (fld B 18 2) (((fld B 20 1 : Nat) : Int) == 1) = stl (byte B) 20 8 ++ [againN B] := by
  have hS : ∀ i, i < 16 → (gSt B).getD i 0 = twoB (fun i => bc B (14 + i)) i := fun i hi => by
    unfold gSt
    rw [stl_getD hi, Nat.zero_add]
  unfold bodyN
  rw [fld_b, fld_b, fld_b, fld_b, fld_b, fld_b, outs_two (S := fun i => (gSt B).getD i 0) hS (fun i => bc_lt B _) 4 (Nat.le_refl _)]
  have e : stl (fun i => bc B (14 + i)) 4 0 = stl (byte B) 4 22 := by
    rw [stl_congr (g := fun i => byte B (22 + i)) 4 0 (fun i _ _ => by show byte B (8 + (14 + i)) = _; rw [show 8 + (14 + i) = 22 + i by omega]), stl_shift (byte B) 22 4 0]
  rw [e]
  show ((((((stl (byte B) 8 8 ++ stl (byte B) 1 (8 + 8)) ++ stl (byte B) 2 (8 + 9)) ++ stl (byte B) 2 (8 + 11)) ++ stl (byte B) 1 (8 + 13)) ++ stl (byte B) 4 (8 + 14)) ++ stl (byte B) 2 (8 + 18)) ++ [againN B] = _
  rw [stl_app, stl_app, stl_app, stl_app, stl_app, stl_app]
theorem seal_num {B : Nat} (h : sealE B = 0) : digs (sealN B) 8 = stl (byte B) 8 0 ∧ digs (sealN B) 8 = stl (byte B) 8 56 ∧ digs (notN (crcN (byte B) 52)) 4 = stl (byte B) 4 52 := by
  unfold sealE at h
  have hb : ∀ a sz : Nat, ∀ j, j < sz → byte B (a + j) < 256 := fun a sz j _ => byte_lt _ _
  split at h
  · cases h
  · rename_i h1
    split at h
    · cases h
    · rename_i h2
      have h1' : sealN B = leN (fun i => byte B (56 + i)) 8 := by
        apply Classical.byContradiction
        intro e; exact h1 (.inr e)
      have h2' : notN (crcN (byte B) 52) = leN (fun i => byte B (52 + i)) 4 := by
        apply Classical.byContradiction
        intro e; exact h2 e
      refine ⟨?_, ?_, ?_⟩
      · unfold sealN
        rw [digs_le (hb 0 8) 8 (Nat.le_refl _), stl_shift (byte B) 0 8 0]
      · rw [h1', digs_le (hb 56 8) 8 (Nat.le_refl _), stl_shift (byte B) 56 8 0]
      · rw [h2', digs_le (hb 52 4) 4 (Nat.le_refl _), stl_shift (byte B) 52 4 0]
theorem crcN_congr {f g : Nat → Nat} : ∀ {n : Nat}, (∀ i, i < n → f i = g i) → crcN f n = crcN g n
  | 0, _ => rfl
  | n + 1, h => by
    show crc.takeN (crcN f n) (f n) = crc.takeN (crcN g n) (g n)
    rw [crcN_congr (fun i hi => h i (by omega)), h n (by omega)]
noncomputable def again (B : Nat) : Nat := blkOf (sealN B) (bodyN (fld B 0 8) (fld B 13 1) (fld B 8 1) (fld B 9 2) (fld B 11 2) (gSt B) (fld B 18 2) (((fld B 20 1 : Nat) : Int) == 1))
theorem again_ok {B : Nat} (hB : B < 256 ^ 64) (h : sealE B = 0) : again B = B ↔ fld B 20 1 ≤ 1 ∧ zeroTo (fun i => bc B (21 + i)) 23 := by
  obtain ⟨d1, d2, d3⟩ := seal_num h
  have hlen : (stl (byte B) 20 8 ++ [againN B]).length = 21 := by rw [List.length_append, stl_len]; rfl
  have hhead : headOf (sealN B) (stl (byte B) 20 8 ++ [againN B]) = stl (byte B) 8 0 ++ ((stl (byte B) 20 8 ++ [againN B]) ++ List.replicate 23 0) := by
    unfold headOf
    rw [hlen, d1]
  have hx1 : againN B ≤ 1 := by unfold againN; split <;> omega
  have hxl : ∀ x ∈ stl (byte B) 20 8 ++ [againN B], x < 256 := by
    intro x hx
    rw [← body_again] at hx
    exact bodyN_lt _ _ _ _ _ _ _ _ x hx
  have hb : ∀ j, j < 64 → byte (again B) j = (rowOf (sealN B) (stl (byte B) 20 8 ++ [againN B])).getD j 0 := fun j hj => by
    unfold again blkOf
    rw [body_again, byte_fillN (fun i => getD_lt (l := rowOf (sealN B) (stl (byte B) 20 8 ++ [againN B])) (row_lt hxl) i), if_pos hj]
  constructor
  · intro e
    rw [e] at hb
    have hrow : ∀ j, j < 52 → (rowOf (sealN B) (stl (byte B) 20 8 ++ [againN B])).getD j 0 = (stl (byte B) 8 0 ++ ((stl (byte B) 20 8 ++ [againN B]) ++ List.replicate 23 0)).getD j 0 := fun j hj => by
      unfold rowOf
      have hl : (headOf (sealN B) (stl (byte B) 20 8 ++ [againN B])).length = 52 := head_len (by omega)
      rw [List.getD_eq_getElem?_getD, List.getD_eq_getElem?_getD, List.append_assoc, List.getElem?_append_left (by omega), hhead]
    constructor
    · rw [fld_one]
      have := hb 28 (by omega)
      rw [hrow 28 (by omega), List.getD_eq_getElem?_getD, List.getElem?_append_right (by rw [stl_len]; omega), stl_len, List.getElem?_append_left (by rw [hlen]; omega), List.getElem?_append_right (by rw [stl_len]; omega), stl_len] at this
      rw [this]; exact hx1
    · intro i hi
      have := hb (29 + i) (by omega)
      rw [hrow (29 + i) (by omega), List.getD_eq_getElem?_getD, List.getElem?_append_right (by rw [stl_len]; omega), stl_len, List.getElem?_append_right (by rw [hlen]; omega), hlen, List.getElem?_replicate, if_pos (by omega)] at this
      show byte B (8 + (21 + i)) = 0
      rw [show 8 + (21 + i) = 29 + i by omega, this]; rfl
  · rintro ⟨g1, g2⟩
    have hx : [againN B] = stl (byte B) 1 28 := by
      show [againN B] = [byte B 28]
      have : againN B = byte B 28 := by
        rw [fld_one] at g1
        have e := fld_one B 20
        unfold againN
        rw [e]
        have : byte B (8 + 20) = 0 ∨ byte B (8 + 20) = 1 := by omega
        rcases this with h | h
        · rw [h]; simp [h]
        · rw [h]; simp [h]
      rw [this]
    have hz : List.replicate 23 0 = stl (byte B) 23 29 := by
      apply List.ext_getElem?
      intro i
      by_cases hi : i < 23
      · rw [List.getElem?_replicate, if_pos hi, stl_get _ _ _ _ hi]
        have := g2 i hi
        have : byte B (8 + (21 + i)) = 0 := this
        rw [show 29 + i = 8 + (21 + i) by omega, this]
      · rw [List.getElem?_replicate, if_neg hi, List.getElem?_eq_none (by rw [stl_len]; omega)]
    have hh : headOf (sealN B) (stl (byte B) 20 8 ++ [againN B]) = stl (byte B) 52 0 := by
      rw [hhead, hx, hz, stl_app (byte B) 20 1 8, stl_app (byte B) 21 23 8, stl_app (byte B) 8 44 0]
    have hs : sumOf (sealN B) (stl (byte B) 20 8 ++ [againN B]) = notN (crcN (byte B) 52) := by
      unfold sumOf
      rw [hh, crcN_congr (g := byte B) (fun i hi => by rw [stl_getD hi, Nat.zero_add])]
    have hr : rowOf (sealN B) (stl (byte B) 20 8 ++ [againN B]) = stl (byte B) 64 0 := by
      unfold rowOf
      rw [hs, hh, d3, d2, stl_app (byte B) 52 4 0, stl_app (byte B) 56 8 0]
    refine disk.eq_of_bytes ?_ hB (fun j hj => ?_)
    · unfold again blkOf
      rw [body_again]
      exact fillN_lt (fun i => getD_lt (l := rowOf (sealN B) (stl (byte B) 20 8 ++ [againN B])) (row_lt hxl) i) 64 (Nat.le_refl _)
    · rw [hb j hj, hr, stl_getD hj, Nat.zero_add]
end Go.Proofs.YtejgheoandfikaaGreat.draft
set_option linter.unusedVariables false
set_option linter.unusedSimpArgs false
set_option maxRecDepth 10000
namespace Go.Proofs.YtejgheoandfikaaGreat.draft
open Go.Am
noncomputable def c125_l0 : C := .seq (.seq (.reg [
 mv 50 13,
 mv 51 11,
 qo 52 (.p (lenF (tt 51))) [pp 51],
 qo 53 (.p (arF .lss (tt 50) (tt 52))) [pp 50, pp 52]]) (
 .cond (tt 53) (.skip) (.exit 0))) (
 .seq (.block 1 (.reg [
 mv 56 13,
 mv 57 11,
 mv 58 13,
 qo 59 (.p (iaddrSF (tt 57) (tt 58) 1)) [pp 57, pp 58],
 qo 60 (.r (loadF (tt 59) 1 .sc)) [pp 59],
 qo 61 (.p (faddrF (tt 10) 2)) [pp 10],
 qo 62 (.p (faddrF (tt 61) 3)) [pp 61],
 qo 63 (.p (iaddrAF (tt 62) (tt 56) 16 1)) [pp 62, pp 56],
 qn (.a (storeF (tt 63) (tt 60) 1)) [pp 63, pp 60]])) (
 .reg [
 mv 54 13,
 qo 55 (.p (arF .add (tt 54) (ii 1))) [pp 54],
 mv 13 55]))
noncomputable def c125 : CFn := ⟨[.tmp (pp 2), .cell (pp 3) 23 .ag, .tmp (pp 4)],
 .seq (.reg [
 qo 1 (.m (boxF 64 (tt 0))) [pp 0],
 qo 2 (.p (S.get (.c (.int .u64 0)))) [],
 qo 3 (.m (allocF 23 [.int .u64 0, .int .i64 0, .int .i64 0, .int .i64 0, .int .i64 0, .int .u8 0, .int .u8 0, .int .u8 0, .int .u8 0, .int .u8 0, .int .u8 0, .int .u8 0, .int .u8 0, .int .u8 0, .int .u8 0, .int .u8 0, .int .u8 0, .int .u8 0, .int .u8 0, .int .u8 0, .int .u8 0, .int .i64 0, .bool false])) [],
 qo 4 (.p (S.get (ii 0))) []]) (
 .seq (.reg [
 qo 17 (.r (loadF (tt 1) 64 .bk)) [pp 1],
 qo 18 (.c (callF (ff 175) [(tt 17)])) [pp 17],
 mv 16 18,
 qo 19 (.p (extF (tt 16) 0)) [pp 16],
 qo 20 (.p (extF (tt 16) 1)) [pp 16],
 qo 21 (.p (extF (tt 16) 2)) [pp 16],
 mv 5 19,
 mv 6 20,
 mv 7 21]) (
 .seq (.seq (.reg [
 mv 22 7,
 qo 23 (.p (eqcF true false [.int .i64] (tt 22) (ii 0))) [pp 22]]) (
 .cond (tt 23) (.seq (.reg [
 qo 24 (.p (buildF [.int .u64 0, .int .i64 0, .int .i64 0, .int .i64 0, .int .i64 0, .int .u8 0, .int .u8 0, .int .u8 0, .int .u8 0, .int .u8 0, .int .u8 0, .int .u8 0, .int .u8 0, .int .u8 0, .int .u8 0, .int .u8 0, .int .u8 0, .int .u8 0, .int .u8 0, .int .u8 0, .int .u8 0, .int .i64 0, .bool false] .ag [])) [],
 mv 25 7,
 qo 2 (.p (S.get (.c (.int .u64 0)))) [],
 qn (.a (storeF (tt 3) (tt 24) 23)) [pp 3, pp 24],
 mv 4 25]) (
 .ret)) (.skip))) (
 .seq (.reg [
 mv 27 6,
 qo 28 (.c (callF (ff 176) [(tt 27), (ii 0), (ii 8)])) [pp 27],
 mv 26 28,
 qo 29 (.p (extF (tt 26) 0)) [pp 26],
 qo 30 (.p (extF (tt 26) 1)) [pp 26],
 mv 8 29,
 mv 9 30]) (
 .seq (.reg [
 mv 31 8,
 mv 32 6,
 qo 33 (.c (callF (ff 177) [(tt 32), (ii 13), (ii 1)])) [pp 32],
 qo 34 (.p (buildF [.int .u64 0, .int .i64 0, .int .i64 0, .int .i64 0, .int .i64 0, .int .u8 0, .int .u8 0, .int .u8 0, .int .u8 0, .int .u8 0, .int .u8 0, .int .u8 0, .int .u8 0, .int .u8 0, .int .u8 0, .int .u8 0, .int .u8 0, .int .u8 0, .int .u8 0, .int .u8 0, .int .u8 0, .int .i64 0, .bool false] .ag [(0, 1, (tt 31)), (1, 1, (tt 33))])) [pp 31, pp 33],
 qo 10 (.m (allocF 23 [.int .u64 0, .int .i64 0, .int .i64 0, .int .i64 0, .int .i64 0, .int .u8 0, .int .u8 0, .int .u8 0, .int .u8 0, .int .u8 0, .int .u8 0, .int .u8 0, .int .u8 0, .int .u8 0, .int .u8 0, .int .u8 0, .int .u8 0, .int .u8 0, .int .u8 0, .int .u8 0, .int .u8 0, .int .i64 0, .bool false])) [],
 qn (.a (storeF (tt 10) (tt 34) 23)) [pp 10, pp 34]]) (
 .seq (.reg [
 mv 35 6,
 qo 36 (.c (callF (ff 177) [(tt 35), (ii 8), (ii 1)])) [pp 35],
 mv 37 6,
 qo 38 (.c (callF (ff 177) [(tt 37), (ii 9), (ii 2)])) [pp 37],
 mv 39 6,
 qo 40 (.c (callF (ff 177) [(tt 39), (ii 11), (ii 2)])) [pp 39],
 qo 41 (.p (buildF [.int .i64 0, .int .i64 0, .int .i64 0] .ag [(0, 1, (tt 36)), (1, 1, (tt 38)), (2, 1, (tt 40))])) [pp 36, pp 38, pp 40],
 qo 42 (.p (faddrF (tt 10) 2)) [pp 10],
 qo 43 (.p (faddrF (tt 42) 0)) [pp 42],
 qn (.a (storeF (tt 43) (tt 41) 3)) [pp 43, pp 41]]) (
 .seq (.reg [
 mv 45 6,
 qo 46 (.p (sliceF 1 (tt 45) (some (ii 14)) (some (ii 18)) none)) [pp 45],
 qo 47 (.c (callF (ff 178) [(tt 46), (ii 2), (ii 16)])) [pp 46],
 mv 44 47,
 qo 48 (.p (extF (tt 44) 0)) [pp 44],
 qo 49 (.p (extF (tt 44) 1)) [pp 44],
 mv 11 48,
 mv 12 49]) (
 .seq (.seq (.reg [
 qo 13 (.p (S.get (ii 0))) []]) (
 .block 0 (.loop c125_l0))) (
 .seq (.reg [
 mv 64 6,
 qo 65 (.c (callF (ff 177) [(tt 64), (ii 18), (ii 2)])) [pp 64],
 qo 66 (.p (faddrF (tt 10) 2)) [pp 10],
 qo 67 (.p (faddrF (tt 66) 19)) [pp 66],
 qn (.a (storeF (tt 67) (tt 65) 1)) [pp 67, pp 65]]) (
 .seq (.reg [
 mv 68 6,
 qo 69 (.p (iaddrSF (tt 68) (ii 20) 1)) [pp 68],
 qo 70 (.r (loadF (tt 69) 1 .sc)) [pp 69],
 qo 71 (.p (eqcF false false [.int .u8] (tt 70) (.c (.int .u8 1)))) [pp 70],
 qo 72 (.p (faddrF (tt 10) 2)) [pp 10],
 qo 73 (.p (faddrF (tt 72) 20)) [pp 72],
 qn (.a (storeF (tt 73) (tt 71) 1)) [pp 73, pp 71]]) (
 .seq (.seq (.reg [
 mv 74 5,
 qo 75 (.c (callF (ff 155) [(tt 74)])) [pp 74],
 qo 76 (.p (unF .not (tt 75))) [pp 75],
 mv 77 76,
 qg 78 (.r (loadF (tt 10) 23 .ag)) 77 false [pp 10],
 qg 79 (.c (callF (ff 156) [(tt 78)])) 77 false [pp 78],
 qg 80 (.p (unF .not (tt 79))) 77 false [pp 79],
 qo 81 (.p (pickF (tt 77) (.c (.bool true)) (tt 80))) [pp 77, pp 80]]) (
 .cond (tt 81) (.seq (.reg [
 qo 82 (.p (buildF [.int .u64 0, .int .i64 0, .int .i64 0, .int .i64 0, .int .i64 0, .int .u8 0, .int .u8 0, .int .u8 0, .int .u8 0, .int .u8 0, .int .u8 0, .int .u8 0, .int .u8 0, .int .u8 0, .int .u8 0, .int .u8 0, .int .u8 0, .int .u8 0, .int .u8 0, .int .u8 0, .int .u8 0, .int .i64 0, .bool false] .ag [])) [],
 qo 2 (.p (S.get (.c (.int .u64 0)))) [],
 qn (.a (storeF (tt 3) (tt 82) 23)) [pp 3, pp 82],
 qo 4 (.p (S.get (ii 5))) []]) (
 .ret)) (.skip))) (
 .seq (.reg [
 mv 84 5,
 qo 85 (.r (loadF (tt 10) 23 .ag)) [pp 10],
 qo 86 (.c (callF (ff 158) [(tt 85)])) [pp 85],
 qo 87 (.c (callF (ff 157) [(tt 84), (tt 86)])) [pp 84, pp 86],
 mv 83 87,
 qo 88 (.p (extF (tt 83) 0)) [pp 83],
 qo 89 (.p (extF (tt 83) 1)) [pp 83],
 qo 14 (.m (allocF 64 [.blk 0])) [],
 qn (.a (storeF (tt 14) (tt 88) 64)) [pp 14, pp 88],
 mv 15 89]) (
 .seq (.seq (.reg [
 qo 90 (.r (loadF (tt 14) 64 .bk)) [pp 14],
 qo 91 (.r (loadF (tt 1) 64 .bk)) [pp 1],
 qo 92 (.p (eqcF true true [.blk] (tt 90) (tt 91))) [pp 90, pp 91]]) (
 .cond (tt 92) (.seq (.reg [
 qo 93 (.p (buildF [.int .u64 0, .int .i64 0, .int .i64 0, .int .i64 0, .int .i64 0, .int .u8 0, .int .u8 0, .int .u8 0, .int .u8 0, .int .u8 0, .int .u8 0, .int .u8 0, .int .u8 0, .int .u8 0, .int .u8 0, .int .u8 0, .int .u8 0, .int .u8 0, .int .u8 0, .int .u8 0, .int .u8 0, .int .i64 0, .bool false] .ag [])) [],
 qo 2 (.p (S.get (.c (.int .u64 0)))) [],
 qn (.a (storeF (tt 3) (tt 93) 23)) [pp 3, pp 93],
 qo 4 (.p (S.get (ii 5))) []]) (
 .ret)) (.skip))) (
 .seq (.regD [
 mv 94 5,
 qo 95 (.r (loadF (tt 10) 23 .ag)) [pp 10],
 mv 2 94,
 qn (.a (storeF (tt 3) (tt 95) 23)) [pp 3, pp 95],
 qo 4 (.p (S.get (ii 0))) []] [0, 0, 1, 7, 15]) (
 .ret))))))))))))))⟩
theorem c125_eq : fnOf Tryz.prog 125 = some c125 := by kernel_rfl
def eqBlk (u v : Option V) : Option V := match u, v with
  | some x, some y => match x.cells, y.cells, eqB x.flat (!true) && eqB y.flat (!true) with
    | some xs, some ys, true => match cmpCells [.blk] xs ys with
      | some b => some (.bool (match true with | true => !b | false => b))
      | none => none
    | _, _, _ => none
  | _, _ => none
theorem eqcF_blk (x y : S) (t : T) : eqcF true true [.blk] x y t = eqBlk (x.get t) (y.get t) := rfl
theorem eqBlk_some (X B : Nat) : eqBlk (some (.blk X)) (some (.blk B)) = some (.bool (!decide (X = B))) := by
  unfold eqBlk
  simp only [V.cells, Da, cmpCells, nbeq, Dg, Bool.not_true, beq_self_eq_true, Bool.and_self, Option.map_some, Bool.and_true]
structure GJ (H0 : Heap) (b1 b3 b10 k B : Nat) (K : Heap) (row : List V) : Prop where
  bx : K.get (.run b1) = some (.rows false 64 [[.blk B]])
  an : K.get (.run b3) = some (.rows false 23 [zrow])
  sp : K.get (.run b10) = some (.rows false 23 [row])
  body : BodyAt K k (bc B) 44
  t : Turns Z H0 K
  lo : H0.next ≤ b1 ∧ H0.next ≤ b3 ∧ H0.next ≤ b10
  hi : b1 < K.next ∧ b3 < K.next ∧ b10 < K.next
  ne : b10 ≠ b1 ∧ b10 ≠ b3 ∧ b10 ≠ k
theorem GJ.set {H0 K : Heap} {b1 b3 b10 k B : Nat} {row : List V} (g : GJ H0 b1 b3 b10 k B K row) (row' : List V) : GJ H0 b1 b3 b10 k B (K.set (.run b10) (.rows false 23 [row'])) row' := by
  obtain ⟨n1, n2, n3⟩ := g.ne
  refine ⟨?_, ?_, by rw [Heap.get_set, if_pos rfl], ⟨?_, by simpa using g.body.old⟩, g.t.setnew g.lo.2.2 _, g.lo, by simpa using g.hi, g.ne⟩
  · rw [Heap.get_set, if_neg (run_ne (Ne.symm n1))]; exact g.bx
  · rw [Heap.get_set, if_neg (run_ne (Ne.symm n2))]; exact g.an
  · rw [Heap.get_set, if_neg (run_ne (Ne.symm n3))]; exact g.body.own
theorem GJ.on {H0 K K' : Heap} {b1 b3 b10 k B : Nat} {row : List V} (g : GJ H0 b1 b3 b10 k B K row) (t : Turns Z K K') : GJ H0 b1 b3 b10 k B K' row :=
  ⟨(t.same (.run b1) g.hi.1 id).trans g.bx, (t.same (.run b3) g.hi.2.1 id).trans g.an, (t.same (.run b10) g.hi.2.2 id).trans g.sp, g.body.turns t, g.t.trans t, g.lo, ⟨Nat.lt_of_lt_of_le g.hi.1 t.next, Nat.lt_of_lt_of_le g.hi.2.1 t.next, Nat.lt_of_lt_of_le g.hi.2.2 t.next⟩, g.ne⟩
theorem GJ.put {H0 K : Heap} {b1 b3 b10 k B : Nat} {row : List V} (g : GJ H0 b1 b3 b10 k B K row) {o : Nat} {vs row' : List V} (ho : o < 23) (hp : put row o vs = some row') :
    ∃ K', storeAt K ⟨.run b10, o⟩ vs = some K' ∧ GJ H0 b1 b3 b10 k B K' row' ∧ ∀ c, c ≠ .run b10 → K'.get c = K.get c := by
  refine ⟨_, ?_, g.set row', fun c hc => by rw [Heap.get_set, if_neg hc]⟩
  have := storeAt_eq g.sp (o := o) (vs := vs) (r := row) (r' := row') (by rw [Nat.div_eq_of_lt ho]; rfl) (by rw [Nat.mod_eq_of_lt ho]; exact hp)
  rw [Nat.div_eq_of_lt ho] at this
  exact this
theorem GJ.ans {H0 K : Heap} {b1 b3 b10 k B : Nat} {row : List V} (g : GJ H0 b1 b3 b10 k B K row) {row' : List V} (hp : Go.Am.put zrow 0 row' = some row') (hl : row'.length = 23) (ht : Thin row') :
    ∃ K', storeAt K ⟨.run b3, 0⟩ row' = some K' ∧ loadAt K' ⟨.run b3, 0⟩ 23 = some row' ∧ Turns Z H0 K' := by
  refine ⟨_, storeAt_eq g.an (r := zrow) (r' := row') rfl hp, ?_, g.t.setnew g.lo.2.1 _⟩
  rw [loadAt_eq (b := .run b3) (r := row') (by rw [Heap.get_set, if_pos rfl]) rfl, cut_thin ht (by omega)]
  simp [← hl]
theorem twos_stl (c : Nat → Nat) : ∀ n, twos c n = stl (twoB c) n 0
  | 0 => rfl
  | n + 1 => by rw [twos, twos_stl c n, stl_snoc, Nat.zero_add]
theorem scells_set {S : List Nat} (hS : S.length = 16) (id me m s r c : Int) (g : Bool) {i : Nat} (hi : i < 16) (x : Nat) : (scells id me m s r S c g).set (5 + i) (.int .u8 (x : Int)) = scells id me m s r (S.set i x) c g := by
  show ([V.int .u64 id, .int .i64 me, .int .i64 m, .int .i64 s, .int .i64 r] ++ (sts S ++ [V.int .i64 c, V.bool g])).set (5 + i) (.int .u8 (x : Int)) = [V.int .u64 id, .int .i64 me, .int .i64 m, .int .i64 s, .int .i64 r] ++ (sts (S.set i x) ++ [V.int .i64 c, V.bool g])
  rw [List.set_append_right _ _ (by simp), List.set_append_left _ _ (by rw [sts_len]; simp; omega)]
  have : 5 + i - [V.int .u64 id, .int .i64 me, .int .i64 m, .int .i64 s, .int .i64 r].length = i := by simp
  rw [this]
  unfold sts
  rw [List.map_set]
def siN (f : Nat → Nat) (i : Nat) : List Nat := stl f i 0 ++ List.replicate (16 - i) 0
theorem siN_len (f : Nat → Nat) {i : Nat} (hi : i ≤ 16) : (siN f i).length = 16 := by
  unfold siN
  rw [List.length_append, stl_len, List.length_replicate]; omega
theorem siN_set (f : Nat → Nat) {i : Nat} (hi : i < 16) : (siN f i).set i (f i) = siN f (i + 1) := by
  unfold siN
  rw [List.set_append_right _ _ (by rw [stl_len]; omega), stl_len, Nat.sub_self, show 16 - i = (16 - (i + 1)) + 1 by omega, List.replicate_succ, List.set_cons_zero, stl_snoc, Nat.zero_add, List.append_assoc]
  rfl
theorem bload_lo {H0 H : Heap} {sz : Nat} {R : List (List V)} {v : V} (h : Lst H0 H sz R v) {k m c o : Nat} (e : v = .slice (some ⟨.run k, 0⟩) m c o) : H0.next ≤ k := by
  rcases h with ⟨_, e'⟩ | ⟨j, _, e', _, h1, _⟩
  · rw [e] at e'; cases e'
  · rw [e] at e'
    have := (V.slice.inj e').1
    cases this
    exact h1
theorem rgf_ok (H : Heap) {B : Nat} (hB : B < 256 ^ 64) {lf : Nat} (hlf : 90 < lf) (n : Nat) : ret (callS Tryz.prog S0 lf (n + 6) 125 [.blk B] H) fun v H' => Turns Z H H' ∧
    ((getE B ≠ 0 ∧ v = .tuple [.int .u64 0, .agg zrow, .int .i64 (getE B)]) ∨ (getE B = 0 ∧ v = .tuple [.int .u64 ((sealN B : Nat) : Int), gSup B, .int .i64 0])) := by
  have hzr : zrow = [.int .u64 0, .int .i64 0, .int .i64 0, .int .i64 0, .int .i64 0, .int .u8 0, .int .u8 0, .int .u8 0, .int .u8 0, .int .u8 0, .int .u8 0, .int .u8 0, .int .u8 0, .int .u8 0, .int .u8 0, .int .u8 0, .int .u8 0, .int .u8 0, .int .u8 0, .int .u8 0, .int .u8 0, .int .i64 0, .bool false] := rfl
  have t1 := Turns.add Z H (.rows false 64 [[.blk B]])
  have hg1 : (H.add (.rows false 64 [[.blk B]])).get (.run H.next) = some (.rows false 64 [[.blk B]]) := by rw [Heap.get_add, if_pos rfl]
  have t2 := t1.addm (.rows false 23 [zrow])
  have hg2 : ((H.add (.rows false 64 [[.blk B]])).add (.rows false 23 [zrow])).get (.run H.next) = some (.rows false 64 [[.blk B]]) := by
    rw [Heap.get_add, if_neg (run_ne (by simp)), hg1]
  have hg3 : ((H.add (.rows false 64 [[.blk B]])).add (.rows false 23 [zrow])).get (.run (H.next + 1)) = some (.rows false 23 [zrow]) := by
    rw [Heap.get_add, if_pos (by simp)]
  have hn2 : ((H.add (.rows false 64 [[.blk B]])).add (.rows false 23 [zrow])).next = H.next + 2 := by simp
  generalize hH2 : (H.add (.rows false 64 [[.blk B]])).add (.rows false 23 [zrow]) = H2 at *
  have l1 : loadAt H2 ⟨.run H.next, 0⟩ 64 = some [.blk B] := by rw [loadAt_eq hg2 rfl]; exact Dy _ _
  obtain ⟨v, H3, e1, t3, hv⟩ := rget7_ok H2 B hlf n
  have hg2' : H3.get (.run H.next) = some (.rows false 64 [[.blk B]]) := (t3.same (.run H.next) (by show _ < _; omega) id).trans hg2
  have hg3' : H3.get (.run (H.next + 1)) = some (.rows false 23 [zrow]) := (t3.same (.run (H.next + 1)) (by show _ < _; omega) id).trans hg3
  have hn3 : H.next + 2 ≤ H3.next := by rw [← hn2]; exact t3.next
  have hwz := width_z
  refine ret_call rfl c125_eq ?_
  rw [hzr] at hH2
  rcases hv with ⟨hE, rfl⟩ | ⟨hE, k, rfl, hb, hk⟩
  · have b0 : (sealE B == 0) = false := by simpa using hE
    have st : storeAt H3 ⟨.run (H.next + 1), 0⟩ zrow = some (H3.set (.run (H.next + 1)) (.rows false 23 [zrow])) := storeAt_eq hg3' (r := zrow) (r' := zrow) rfl put_z
    have lz : loadAt (H3.set (.run (H.next + 1)) (.rows false 23 [zrow])) ⟨.run (H.next + 1), 0⟩ 23 = some zrow := by
      rw [loadAt_eq (b := .run (H.next + 1)) (r := zrow) (by rw [Heap.get_set, if_pos rfl]) rfl]; rfl
    have hge : getE B = sealE B := by unfold getE; rw [if_pos hE]
    rw [hge]
    generalize hH4 : H3.set (.run (H.next + 1)) (.rows false 23 [zrow]) = H4 at *
    rw [hzr] at st lz hwz ⊢
    simp only [c125, hH2, l1, e1, b0, st, lz, hwz, sy, tup, ↓reduceIte, Nat.reduceEqDiff, Nat.reduceAdd, Nat.reduceSub, Nat.reduceMul, Nat.reduceLeDiff, Int.reduceBEq, reduceCtorEq]
    refine ⟨trivial, .inr trivial, _, rfl, ?_, .inl ⟨hE, rfl⟩⟩
    rw [← hH4]
    exact (t2.trans t3).setnew (by omega) _
  · have hcB : ∀ i, bc B i < 256 := bc_lt B
    have hb : BodyAt H3 k (bc B) 44 := hb
    have hkn : k < H3.next := hb.old
    have num : ∀ {K : Heap}, BodyAt K k (bc B) 44 → ∀ a sz : Nat, 1 ≤ sz ∧ sz ≤ 2 → a + sz ≤ 44 → callS Tryz.prog S0 lf (n + 5) 177 [.slice (some ⟨.run k, 0⟩) 44 44 1, .int .i64 (a : Int), .int .i64 (sz : Int)] K = some (.v (.int .i64 ((fld B a sz : Nat) : Int)), K) := fun {K} hK a sz h1 h2 =>
      rnumber_ok (c := fun i => bc B (a + i)) h1 h2 (by omega) (fun i => hcB _) (fun i hi => by simpa using hK.load (i := a + i) (by omega)) lf (n + 3) (by omega)
    have e2 : callS Tryz.prog S0 lf (n + 5) 176 [.slice (some ⟨.run k, 0⟩) 44 44 1, .int .i64 0, .int .i64 8] H3 = some (.v (.tuple [.int .u64 ((fld B 0 8 : Nat) : Int), .int .i64 0]), H3) := rnum_ok (a := 0) (sz := 8) (c := fun i => bc B (0 + i)) (by omega) (by omega) (by omega) (fun i _ => hcB _) (fun i hi => by simpa using hb.load (i := 0 + i) (by omega)) lf (n + 4) (by omega)
    have e3 : callS Tryz.prog S0 lf (n + 5) 177 [.slice (some ⟨.run k, 0⟩) 44 44 1, .int .i64 13, .int .i64 1] H3 = _ := num hb 13 1 (by omega) (by omega)
    obtain ⟨H4, hH4⟩ : ∃ K, H3.add (.rows false 23 [zrow]) = K := ⟨_, rfl⟩
    have t4 : Turns Z H3 H4 := by rw [← hH4]; exact Turns.add Z H3 _
    have hn4 : H4.next = H3.next + 1 := by rw [← hH4]; simp
    have G4 : GJ H H.next (H.next + 1) H3.next k B H4 zrow := by
      refine ⟨(t4.same (.run H.next) (by show _ < _; omega) id).trans hg2', (t4.same (.run (H.next + 1)) (by show _ < _; omega) id).trans hg3', by rw [← hH4, Heap.get_add, if_pos rfl], hb.turns t4, (t2.trans t3).trans t4, ⟨by omega, by omega, by omega⟩, ⟨by omega, by omega, by omega⟩, ⟨by omega, by omega, by omega⟩⟩
    obtain ⟨H5, st5, G5, _⟩ := G4.put (o := 0) (vs := scells (fld B 0 8) (fld B 13 1) 0 0 0 (List.replicate 16 0) 0 false) (row' := scells (fld B 0 8) (fld B 13 1) 0 0 0 (List.replicate 16 0) 0 false) (by omega) rfl
    have st5 : storeAt H4 ⟨.run H3.next, 0⟩ [.int .u64 ((fld B 0 8 : Nat) : Int), .int .i64 ((fld B 13 1 : Nat) : Int), .int .i64 0, .int .i64 0, .int .i64 0, .int .u8 0, .int .u8 0, .int .u8 0, .int .u8 0, .int .u8 0, .int .u8 0, .int .u8 0, .int .u8 0, .int .u8 0, .int .u8 0, .int .u8 0, .int .u8 0, .int .u8 0, .int .u8 0, .int .u8 0, .int .u8 0, .int .i64 0, .bool false] = some H5 := st5
    have e6 : callS Tryz.prog S0 lf (n + 5) 177 [.slice (some ⟨.run k, 0⟩) 44 44 1, .int .i64 8, .int .i64 1] H5 = _ := num G5.body 8 1 (by omega) (by omega)
    have e7 : callS Tryz.prog S0 lf (n + 5) 177 [.slice (some ⟨.run k, 0⟩) 44 44 1, .int .i64 9, .int .i64 2] H5 = _ := num G5.body 9 2 (by omega) (by omega)
    have e8 : callS Tryz.prog S0 lf (n + 5) 177 [.slice (some ⟨.run k, 0⟩) 44 44 1, .int .i64 11, .int .i64 2] H5 = _ := num G5.body 11 2 (by omega) (by omega)
    obtain ⟨H6, st6, G6, _⟩ := G5.put (o := 2) (vs := [.int .i64 (fld B 8 1), .int .i64 (fld B 9 2), .int .i64 (fld B 11 2)]) (row' := scells (fld B 0 8) (fld B 13 1) (fld B 8 1) (fld B 9 2) (fld B 11 2) (List.replicate 16 0) 0 false) (by omega) rfl
    obtain ⟨vu, H7, e9, t7, yu, rfl, hyu⟩ : ret (callS Tryz.prog S0 lf (n + 5) 178 [.slice (some ⟨.run k, 14⟩) 4 30 1, .int .i64 2, .int .i64 16] H6) _ := runbits_ok (H := H6) (p := ⟨.run k, 14⟩) (cap := 30) (loose := 1) (c := fun i => bc B (14 + i)) (fun i => hcB _) (fun t i hi => (G6.body.turns t).load (i := 14 + i) (by omega)) lf (n + 4) (by omega)
    have G7 := G6.on t7
    have bb1 : bounds 44 44 (some (.int .i64 14)) (some (.int .i64 18)) none = some (14, 18, 44) := rfl
    have hgY : isSup B → getE B = 0 := fun h => by unfold getE; rw [if_neg (by simpa using hE), if_pos h]
    have hgN : ¬ isSup B → getE B = 5 := fun h => by unfold getE; rw [if_neg (by simpa using hE), if_neg h]
    rw [hzr] at hH4
    simp only [c125, hH2, l1, e1, e2, e3, hH4, st5, e6, e7, e8, st6, bb1, e9, sliceF, oget, sy, tup, ↓reduceIte, Nat.reduceEqDiff, Nat.reduceAdd, Nat.reduceSub, Nat.reduceMul, Nat.reduceLeDiff, Int.reduceBEq, reduceCtorEq]
    obtain ⟨f, hf⟩ : ∃ f, f = twoB fun i => bc B (14 + i) := ⟨_, rfl⟩
    have htw : twos (fun i => bc B (14 + i)) 16 = stl f 16 0 := by rw [twos_stl, hf]
    have hgSt : gSt B = stl f 16 0 := by rw [hf]; rfl
    rw [htw] at hyu
    obtain ⟨ku, eyu, hku, lyu⟩ := bload hyu (fun e => by have := stl_len f 16 0; rw [e] at this; exact absurd this (by decide))
    rw [stl_len] at eyu lyu
    have hlo := bload_lo hyu eyu
    have hb10 := G6.hi.2.2
    rw [eyu]
    have hloop : ∀ t : T, t.getP (Tr.path 1) = some (.ptr (some ⟨.run H.next, 0⟩)) → t.getP (Tr.path 3) = some (.ptr (some ⟨.run (H.next + 1), 0⟩)) → t.getP (Tr.path 5) = some (.int .u64 ((sealN B : Nat) : Int)) → t.getP (Tr.path 6) = some (.slice (some ⟨.run k, 0⟩) 44 44 1) → t.getP (Tr.path 10) = some (.ptr (some ⟨.run H3.next, 0⟩)) → t.getP (Tr.path 11) = some (.slice (some ⟨.run ku, 0⟩) 16 16 1) → t.getP (Tr.path 13) = some (.int .i64 0) →
        wp (loopF (runC (callS Tryz.prog S0 lf (n + 5)) lf c125_l0) lf ⟨t, H7, []⟩) fun x s' => x = .ex 0 ∧ s'.d = [] ∧ s'.t.getP (Tr.path 1) = some (.ptr (some ⟨.run H.next, 0⟩)) ∧ s'.t.getP (Tr.path 3) = some (.ptr (some ⟨.run (H.next + 1), 0⟩)) ∧ s'.t.getP (Tr.path 5) = some (.int .u64 ((sealN B : Nat) : Int)) ∧ s'.t.getP (Tr.path 6) = some (.slice (some ⟨.run k, 0⟩) 44 44 1) ∧ s'.t.getP (Tr.path 10) = some (.ptr (some ⟨.run H3.next, 0⟩)) ∧ GJ H H.next (H.next + 1) H3.next k B s'.H (scells (fld B 0 8) (fld B 13 1) (fld B 8 1) (fld B 9 2) (fld B 11 2) (gSt B) 0 false) := by
      intro t q1 q3 q5 q6 q10 q11 q13
      refine wp_loopF (fun j s' => ∃ i : Nat, j = 16 - i ∧ i ≤ 16 ∧ s'.d = [] ∧ s'.t.getP (Tr.path 1) = some (.ptr (some ⟨.run H.next, 0⟩)) ∧ s'.t.getP (Tr.path 3) = some (.ptr (some ⟨.run (H.next + 1), 0⟩)) ∧ s'.t.getP (Tr.path 5) = some (.int .u64 ((sealN B : Nat) : Int)) ∧ s'.t.getP (Tr.path 6) = some (.slice (some ⟨.run k, 0⟩) 44 44 1) ∧ s'.t.getP (Tr.path 10) = some (.ptr (some ⟨.run H3.next, 0⟩)) ∧ s'.t.getP (Tr.path 11) = some (.slice (some ⟨.run ku, 0⟩) 16 16 1) ∧ s'.t.getP (Tr.path 13) = some (.int .i64 (i : Int)) ∧ (∀ q, q < 16 → loadAt s'.H ⟨.run ku, q⟩ 1 = some [.int .u8 (((stl f 16 0).getD q 0 : Nat) : Int)]) ∧ GJ H H.next (H.next + 1) H3.next k B s'.H (scells (fld B 0 8) (fld B 13 1) (fld B 8 1) (fld B 9 2) (fld B 11 2) (siN f i) 0 false)) ?_ lf 16 _ ⟨0, rfl, by omega, rfl, q1, q3, q5, q6, q10, q11, q13, lyu, G7⟩ (by omega)
      rintro j ⟨t, HH, d⟩ ⟨i, rfl, hi, hd', q1, q3, q5, q6, q10, q11, q13, lq, G⟩
      dsimp only at hd' q1 q3 q5 q6 q10 q11 q13 lq G
      subst hd'
      by_cases hlt : i < 16
      · have hlt' : (i : Int) < ((16 : Nat) : Int) := by omega
        have hle' : i + 1 ≤ 16 := hlt
        have w2 : IntKind.i64.wrap ((i : Int) + 1) = ((i + 1 : Nat) : Int) := by rw [wrap_i64 (by omega)]; omega
        have lk := lq i hlt
        rw [stl_getD hlt, Nat.zero_add] at lk
        have hp : Go.Am.put (scells (fld B 0 8) (fld B 13 1) (fld B 8 1) (fld B 9 2) (fld B 11 2) (siN f i) 0 false) (5 + i) [.int .u8 (f i : Int)] = some (scells (fld B 0 8) (fld B 13 1) (fld B 8 1) (fld B 9 2) (fld B 11 2) (siN f (i + 1)) 0 false) := by
          rw [put_one (s_thin _ _ _ _ _ _ _ _) (by rw [s_len (siN_len f hi)]; omega) rfl, scells_set (siN_len f hi) _ _ _ _ _ _ _ hlt, siN_set f hlt]
        obtain ⟨H', so, G', oth⟩ := G.put (o := 5 + i) (by omega) hp
        have lq' : ∀ q, q < 16 → loadAt H' ⟨.run ku, q⟩ 1 = some [.int .u8 (((stl f 16 0).getD q 0 : Nat) : Int)] := fun q hq => (load_same (oth (.run ku) (run_ne (by omega)))).trans (lq q hq)
        simp only [c125_l0, q1, q3, q5, q6, q10, q11, q13, hlt', hle', w2, lk, so, iaddrAF, Nat.mul_one, sy, tup, ↓reduceIte, Nat.reduceEqDiff, Nat.reduceAdd, Nat.reduceSub, Nat.reduceMul, Nat.reduceLeDiff, Int.reduceBEq, reduceCtorEq]
        exact ⟨16 - (i + 1), by omega, i + 1, rfl, by omega, trivial, trivial, trivial, trivial, trivial, trivial, trivial, by simp, lq', G'⟩
      · have : i = 16 := by omega
        subst this
        simp only [c125_l0, q1, q3, q5, q6, q10, q11, q13, Int.lt_irrefl, Nat.lt_irrefl, sy, tup, ↓reduceIte, Nat.reduceEqDiff, Nat.reduceAdd, Nat.reduceSub, Nat.reduceMul, Nat.reduceLeDiff, Int.reduceBEq, reduceCtorEq]
        exact ⟨trivial, trivial, trivial, trivial, trivial, trivial, trivial, by rw [hgSt]; unfold siN at G; simpa using G⟩
    refine wp_ctx (F := fun r => seqC _ _ _ (blockC _ r)) (hloop _ ?_ ?_ ?_ ?_ ?_ ?_ ?_) ?_
    · simp only [sy, tup, ↓reduceIte, Nat.reduceEqDiff, Nat.reduceAdd, Nat.reduceSub, Nat.reduceMul, Nat.reduceLeDiff, Int.reduceBEq, reduceCtorEq]
    · simp only [hn2, sy, tup, ↓reduceIte, Nat.reduceEqDiff, Nat.reduceAdd, Nat.reduceSub, Nat.reduceMul, Nat.reduceLeDiff, Int.reduceBEq, reduceCtorEq]
    · simp only [sy, tup, ↓reduceIte, Nat.reduceEqDiff, Nat.reduceAdd, Nat.reduceSub, Nat.reduceMul, Nat.reduceLeDiff, Int.reduceBEq, reduceCtorEq]
    · simp only [sy, tup, ↓reduceIte, Nat.reduceEqDiff, Nat.reduceAdd, Nat.reduceSub, Nat.reduceMul, Nat.reduceLeDiff, Int.reduceBEq, reduceCtorEq]
    · simp only [sy, tup, ↓reduceIte, Nat.reduceEqDiff, Nat.reduceAdd, Nat.reduceSub, Nat.reduceMul, Nat.reduceLeDiff, Int.reduceBEq, reduceCtorEq]
    · simp only [sy, tup, ↓reduceIte, Nat.reduceEqDiff, Nat.reduceAdd, Nat.reduceSub, Nat.reduceMul, Nat.reduceLeDiff, Int.reduceBEq, reduceCtorEq]
    · simp only [sy, tup, ↓reduceIte, Nat.reduceEqDiff, Nat.reduceAdd, Nat.reduceSub, Nat.reduceMul, Nat.reduceLeDiff, Int.reduceBEq, reduceCtorEq]
    rintro x ⟨t, H8, d⟩ ⟨rfl, hd', q1, q3, q5, q6, q10, G8⟩
    dsimp only at hd' q1 q3 q5 q6 q10 G8
    subst hd'
    have hS16 : (gSt B).length = 16 := stl_len _ _ _
    have e10 : callS Tryz.prog S0 lf (n + 5) 177 [.slice (some ⟨.run k, 0⟩) 44 44 1, .int .i64 18, .int .i64 2] H8 = _ := num G8.body 18 2 (by omega) (by omega)
    obtain ⟨H9, st9, G9, _⟩ := G8.put (o := 21) (vs := [.int .i64 (fld B 18 2)]) (row' := scells (fld B 0 8) (fld B 13 1) (fld B 8 1) (fld B 9 2) (fld B 11 2) (gSt B) (fld B 18 2) false) (by omega) (put_c hS16 _ _ _ _ _ _ _ _)
    have l20 : loadAt H9 ⟨.run k, 20⟩ 1 = some [.int .u8 ((fld B 20 1 : Nat) : Int)] := by rw [fld_one]; exact G9.body.load (i := 20) (by omega)
    obtain ⟨H10, st10, G10, _⟩ := G9.put (o := 22) (vs := [.bool (((fld B 20 1 : Nat) : Int) == 1)]) (row' := scells (fld B 0 8) (fld B 13 1) (fld B 8 1) (fld B 9 2) (fld B 11 2) (gSt B) (fld B 18 2) (((fld B 20 1 : Nat) : Int) == 1)) (by omega) (put_g hS16 _ _ _ _ _ _ _ _)
    have e11 := revent_ok H10 ((sealN B : Nat) : Int) lf (n + 4)
    have ls := sup_all (⟨G10.sp, hS16⟩ : SupAt H10 (.run H3.next) _ _ _ _ _ _ _ _)
    obtain ⟨vm, H11, e12, ⟨zm, rfl, hzm⟩, t11⟩ := rsmay_ok H10 (id := fld B 0 8) (me := fld B 13 1) (m := fld B 8 1) (s := fld B 9 2) (r := fld B 11 2) (c := fld B 18 2) (g := ((fld B 20 1 : Nat) : Int) == 1) hS16 lf (n + 2) (by omega)
    change callS Tryz.prog S0 lf (n + 5) _ _ _ = _ at e12
    unfold sup at e12
    have G11 := G10.on t11
    have ls11 := sup_all (⟨G11.sp, hS16⟩ : SupAt H11 (.run H3.next) _ _ _ _ _ _ _ _)
    obtain ⟨F1, sf1, lf1, tf1⟩ := G10.ans (row' := zrow) put_z rfl (s_thin 0 0 0 0 0 (List.replicate 16 0) 0 false)
    obtain ⟨F2, sf2, lf2, tf2⟩ := G11.ans (row' := zrow) put_z rfl (s_thin 0 0 0 0 0 (List.replicate 16 0) 0 false)
    rw [hzr] at sf1 lf1 sf2 lf2 hwz ⊢
    have a20 : asNat (.int .i64 20) = some 20 := rfl
    have d20 : decide (20 + 1 ≤ 44) = true := rfl
    cases hev : evt (sealN B) with
    | false =>
      have hno : ¬ isSup B := fun h => by rw [h.1] at hev; cases hev
      rw [hev] at e11
      simp only [q1, q3, q5, q6, q10, e10, st9, a20, d20, l20, st10, e11, sf1, lf1, hwz, iaddrSF, sy, tup, ↓reduceIte, Nat.reduceEqDiff, Nat.reduceAdd, Nat.reduceSub, Nat.reduceMul, Nat.reduceLeDiff, Int.reduceBEq, reduceCtorEq]
      exact ⟨trivial, .inr trivial, _, rfl, tf1, .inl ⟨by rw [hgN hno]; decide, by rw [hgN hno]⟩⟩
    | true =>
      rw [hev] at e11
      cases hz : zm with
      | false =>
        subst hz
        have hno : ¬ isSup B := fun h => by have := hzm.2 h.2.1; cases this
        simp only [q1, q3, q5, q6, q10, e10, st9, a20, d20, l20, st10, e11, ls, e12, sf2, lf2, hwz, iaddrSF, sy, tup, ↓reduceIte, Nat.reduceEqDiff, Nat.reduceAdd, Nat.reduceSub, Nat.reduceMul, Nat.reduceLeDiff, Int.reduceBEq, reduceCtorEq]
        exact ⟨trivial, .inr trivial, _, rfl, tf2, .inl ⟨by rw [hgN hno]; decide, by rw [hgN hno]⟩⟩
      | true =>
        subst hz
        have hm := hzm.1 rfl
        obtain ⟨f1, f2, f3, f4, f5, f6⟩ := hm.2.2.2
        have hS4 : ∀ i, i < 16 → (gSt B).getD i 0 < 4 := fun i hi => by
          have := (f2 i hi _ (getD_some (by omega))).1
          omega
        have hN : sealN B < 18446744073709551616 := leN_lt (by omega) (fun i _ => byte_lt _ _)
        have hid : fld B 0 8 < 18446744073709551616 := leN_lt (by omega) (fun i _ => bc_lt B _)
        have hN0 : sealN B ≠ 0 := fun e => by rw [e] at hev; revert hev; decide
        obtain ⟨vb, H12, e13, t12, K, hK, lb⟩ := rbody_ok H11 (id := fld B 0 8) (me := fld B 13 1) (m := fld B 8 1) (s := fld B 9 2) (r := fld B 11 2) (c := fld B 18 2) (g := ((fld B 20 1 : Nat) : Int) == 1) (S := gSt B) hid ⟨by have := fld_1 B 13; omega, by have := fld_1 B 8; omega, fld_2 B 9, fld_2 B 11, fld_2 B 18⟩ hS16 hS4 (lf := lf) (by omega) (n + 2)
        change callS Tryz.prog S0 lf (n + 5) _ _ _ = _ at e13
        unfold sup at e13
        obtain ⟨vs, H13, e14, t13, rfl⟩ := rput7_ok lb (bodyN_le _ _ _ _ _ _ _ _) (bodyN_lt _ _ _ _ _ _ _ _) hN hN0 (lf := lf) (by omega) n
        have hiff : blkOf (sealN B) (bodyN (fld B 0 8) (fld B 13 1) (fld B 8 1) (fld B 9 2) (fld B 11 2) (gSt B) (fld B 18 2) (((fld B 20 1 : Nat) : Int) == 1)) = B ↔ fld B 20 1 ≤ 1 ∧ zeroTo (fun i => bc B (21 + i)) 23 := again_ok hB hE
        generalize blkOf (sealN B) (bodyN (fld B 0 8) (fld B 13 1) (fld B 8 1) (fld B 9 2) (fld B 11 2) (gSt B) (fld B 18 2) (((fld B 20 1 : Nat) : Int) == 1)) = X at e14 hiff
        have g14 : (H13.add (.rows false 64 [[.blk 0]])).get (.run H13.next) = some (.rows false 64 [[.blk 0]]) := by rw [Heap.get_add, if_pos rfl]
        have s14 := disk.cell_store (v := X) g14
        have t14 : Turns Z H13 ((H13.add (.rows false 64 [[.blk 0]])).set (.run H13.next) (.rows false 64 [[.blk (X)]])) := (Turns.add Z H13 _).setnew (Nat.le_refl _) _
        have g14' : ((H13.add (.rows false 64 [[.blk 0]])).set (.run H13.next) (.rows false 64 [[.blk (X)]])).get (.run H13.next) = some (.rows false 64 [[.blk (X)]]) := by rw [Heap.get_set, if_pos rfl]
        obtain ⟨H14, hH14⟩ : ∃ K, (H13.add (.rows false 64 [[.blk 0]])).set (.run H13.next) (.rows false 64 [[.blk (X)]]) = K := ⟨_, rfl⟩
        rw [hH14] at s14 t14 g14'
        have l14 : loadAt H14 ⟨.run H13.next, 0⟩ 64 = some [.blk (X)] := by rw [loadAt_eq g14' (r := [.blk (X)]) rfl]; exact Dy _ _
        have G14 := G11.on ((t12.trans t13).trans t14)
        have lB : loadAt H14 ⟨.run H.next, 0⟩ 64 = some [.blk B] := by rw [loadAt_eq G14.bx (r := [.blk B]) rfl]; exact Dy _ _
        have ls14 := sup_all (⟨G14.sp, hS16⟩ : SupAt H14 (.run H3.next) _ _ _ _ _ _ _ _)
        obtain ⟨F3, sf3, lf3, tf3⟩ := G14.ans (row' := zrow) put_z rfl (s_thin 0 0 0 0 0 (List.replicate 16 0) 0 false)
        obtain ⟨F4, sf4, lf4, tf4⟩ := G14.ans (put_s hS16 (fld B 0 8) (fld B 13 1) (fld B 8 1) (fld B 9 2) (fld B 11 2) (fld B 18 2) (((fld B 20 1 : Nat) : Int) == 1)) (s_len hS16 _ _ _ _ _ _ _) (s_thin _ _ _ _ _ _ _ _)
        have hsw := s_width hS16 (fld B 0 8) (fld B 13 1) (fld B 8 1) (fld B 9 2) (fld B 11 2) (fld B 18 2) (((fld B 20 1 : Nat) : Int) == 1)
        rw [hzr] at sf3 lf3
        simp only [q1, q3, q5, q6, q10, e10, st9, a20, d20, l20, st10, e11, ls, e12, ls11, e13, e14, s14, l14, iaddrSF, sy, tup, ↓reduceIte, Nat.reduceEqDiff, Nat.reduceAdd, Nat.reduceSub, Nat.reduceMul, Nat.reduceLeDiff, Int.reduceBEq, reduceCtorEq]
        simp only [lB, Ba, Option.bind_some, unc]
        simp only [Bw]
        simp only [Bh]
        simp only [Al, Ak, Au, sO_p, sE_p, Bl, Bj, Bm, Tr.getP_e, B8, ↓reduceIte, Nat.reduceEqDiff]
        simp only [eqcF_blk, B4, B8, ↓reduceIte, Nat.reduceEqDiff]
        simp only [eqBlk_some]
        simp only [A0, Bw, Bh]
        cases hX : decide (X = B) with
        | true =>
          have hX := of_decide_eq_true hX
          have hyes : isSup B := ⟨hev, hm, hiff.1 hX⟩
          simp only [ls14, sf4, lf4, hsw, q3, q5, q10, sy, tup, ↓reduceIte, Nat.reduceEqDiff, Nat.reduceAdd, Nat.reduceSub, Nat.reduceMul, Nat.reduceLeDiff, Int.reduceBEq, reduceCtorEq]
          rw [endD_ok (by kernel_rfl) (by kernel_rfl)]
          simp only [ls14, sf4, lf4, hsw, q3, q5, q10, sy, tup, ↓reduceIte, Nat.reduceEqDiff, Nat.reduceAdd, Nat.reduceSub, Nat.reduceMul, Nat.reduceLeDiff, Int.reduceBEq, reduceCtorEq]
          exact ⟨trivial, .inr trivial, _, rfl, tf4, .inr ⟨hgY hyes, rfl⟩⟩
        | false =>
          have hX := of_decide_eq_false hX
          have hno : ¬ isSup B := fun h => hX (hiff.2 h.2.2)
          simp only [sf3, lf3, hwz, q3, q5, q10, sy, tup, ↓reduceIte, Nat.reduceEqDiff, Nat.reduceAdd, Nat.reduceSub, Nat.reduceMul, Nat.reduceLeDiff, Int.reduceBEq, reduceCtorEq]
          exact ⟨trivial, .inr trivial, _, rfl, tf3, .inl ⟨by rw [hgN hno]; decide, by rw [hgN hno]⟩⟩
end Go.Proofs.YtejgheoandfikaaGreat.draft
set_option linter.unusedVariables false
set_option linter.unusedSimpArgs false
set_option maxRecDepth 10000
namespace Go.Proofs.YtejgheoandfikaaGreat.draft
open Go.Am
noncomputable def c52 : CFn := ⟨[.tmp (pp 4), .cell (pp 5) 23 .ag, .tmp (pp 6)],
 .seq (.reg [
 qo 2 (.m (boxF 64 (tt 0))) [pp 0],
 qo 3 (.m (boxF 64 (tt 1))) [pp 1],
 qo 4 (.p (S.get (.c (.int .u64 0)))) [],
 qo 5 (.m (allocF 23 [.int .u64 0, .int .i64 0, .int .i64 0, .int .i64 0, .int .i64 0, .int .u8 0, .int .u8 0, .int .u8 0, .int .u8 0, .int .u8 0, .int .u8 0, .int .u8 0, .int .u8 0, .int .u8 0, .int .u8 0, .int .u8 0, .int .u8 0, .int .u8 0, .int .u8 0, .int .u8 0, .int .u8 0, .int .i64 0, .bool false])) [],
 qo 6 (.p (S.get (ii 0))) []]) (
 .seq (.reg [
 qo 14 (.r (loadF (tt 2) 64 .bk)) [pp 2],
 qo 15 (.c (callF (ff 125) [(tt 14)])) [pp 14],
 mv 13 15,
 qo 16 (.p (extF (tt 13) 0)) [pp 13],
 qo 17 (.p (extF (tt 13) 1)) [pp 13],
 qo 18 (.p (extF (tt 13) 2)) [pp 13],
 qo 8 (.m (allocF 23 [.int .u64 0, .int .i64 0, .int .i64 0, .int .i64 0, .int .i64 0, .int .u8 0, .int .u8 0, .int .u8 0, .int .u8 0, .int .u8 0, .int .u8 0, .int .u8 0, .int .u8 0, .int .u8 0, .int .u8 0, .int .u8 0, .int .u8 0, .int .u8 0, .int .u8 0, .int .u8 0, .int .u8 0, .int .i64 0, .bool false])) [],
 mv 7 16,
 qn (.a (storeF (tt 8) (tt 17) 23)) [pp 8, pp 17],
 mv 9 18]) (
 .seq (.reg [
 qo 20 (.r (loadF (tt 3) 64 .bk)) [pp 3],
 qo 21 (.c (callF (ff 125) [(tt 20)])) [pp 20],
 mv 19 21,
 qo 22 (.p (extF (tt 19) 0)) [pp 19],
 qo 23 (.p (extF (tt 19) 1)) [pp 19],
 qo 24 (.p (extF (tt 19) 2)) [pp 19],
 qo 11 (.m (allocF 23 [.int .u64 0, .int .i64 0, .int .i64 0, .int .i64 0, .int .i64 0, .int .u8 0, .int .u8 0, .int .u8 0, .int .u8 0, .int .u8 0, .int .u8 0, .int .u8 0, .int .u8 0, .int .u8 0, .int .u8 0, .int .u8 0, .int .u8 0, .int .u8 0, .int .u8 0, .int .u8 0, .int .u8 0, .int .i64 0, .bool false])) [],
 mv 10 22,
 qn (.a (storeF (tt 11) (tt 23) 23)) [pp 11, pp 23],
 mv 12 24]) (
 .seq (.seq (.reg [
 mv 25 9,
 qo 26 (.p (eqcF true false [.int .i64] (tt 25) (ii 0))) [pp 25],
 mv 27 26,
 mg 28 12 27 true,
 qg 29 (.p (eqcF true false [.int .i64] (tt 28) (ii 0))) 27 true [pp 28],
 qo 30 (.p (pickF (tt 27) (tt 29) (.c (.bool false)))) [pp 27, pp 29]]) (
 .cond (tt 30) (.seq (.reg [
 qo 31 (.p (buildF [.int .u64 0, .int .i64 0, .int .i64 0, .int .i64 0, .int .i64 0, .int .u8 0, .int .u8 0, .int .u8 0, .int .u8 0, .int .u8 0, .int .u8 0, .int .u8 0, .int .u8 0, .int .u8 0, .int .u8 0, .int .u8 0, .int .u8 0, .int .u8 0, .int .u8 0, .int .u8 0, .int .u8 0, .int .i64 0, .bool false] .ag [])) [],
 qo 4 (.p (S.get (.c (.int .u64 0)))) [],
 qn (.a (storeF (tt 5) (tt 31) 23)) [pp 5, pp 31],
 qo 6 (.p (S.get (ii 7))) []]) (
 .ret)) (.skip))) (
 .seq (.seq (.reg [
 mv 32 9,
 qo 33 (.p (eqcF true false [.int .i64] (tt 32) (ii 0))) [pp 32],
 mv 34 33,
 mg 35 12 34 false,
 qg 36 (.p (eqcF false false [.int .i64] (tt 35) (ii 0))) 34 false [pp 35],
 mg 37 36 34 false,
 mg 38 10 37 true,
 mg 39 7 37 true,
 qg 40 (.p (arF .gtr (tt 38) (tt 39))) 37 true [pp 38, pp 39],
 qg 41 (.p (pickF (tt 37) (tt 40) (.c (.bool false)))) 34 false [pp 37, pp 40],
 qo 42 (.p (pickF (tt 34) (.c (.bool true)) (tt 41))) [pp 34, pp 41]]) (
 .cond (tt 42) (.seq (.regD [
 mv 43 10,
 qo 44 (.r (loadF (tt 11) 23 .ag)) [pp 11],
 mv 4 43,
 qn (.a (storeF (tt 5) (tt 44) 23)) [pp 5, pp 44],
 qo 6 (.p (S.get (ii 0))) []] [0, 0, 1, 7, 15]) (
 .ret)) (.skip))) (
 .seq (.regD [
 mv 45 7,
 qo 46 (.r (loadF (tt 8) 23 .ag)) [pp 8],
 mv 4 45,
 qn (.a (storeF (tt 5) (tt 46) 23)) [pp 5, pp 46],
 qo 6 (.p (S.get (ii 0))) []] [0, 0, 1, 7, 15]) (
 .ret))))))⟩
theorem c52_eq : fnOf Tryz.prog 52 = some c52 := by kernel_rfl
theorem rgr_ok (H : Heap) {B : Nat} (hB : B < 256 ^ 64) {lf : Nat} (hlf : 90 < lf) (n : Nat) : ret (callS Tryz.prog S0 lf (n + 6) 125 [.blk B] H) fun v H' => Turns Z H H' ∧ ∃ row, v = .tuple [.int .u64 ((numOf B : Nat) : Int), .agg row, .int .i64 (getE B)] ∧ SRow row ∧ (getE B = 0 → V.agg row = gSup B) := by
  refine (rgf_ok H hB hlf n).mono ?_
  rintro v H' ⟨t, ⟨hE, rfl⟩ | ⟨hE, rfl⟩⟩
  · exact ⟨t, zrow, by unfold numOf; rw [if_neg hE]; rfl, SRow.z, fun h => absurd h hE⟩
  · exact ⟨t, scells (fld B 0 8) (fld B 13 1) (fld B 8 1) (fld B 9 2) (fld B 11 2) (gSt B) (fld B 18 2) (((fld B 20 1 : Nat) : Int) == 1), by unfold numOf; rw [if_pos hE, hE]; rfl, SRow.s (gSt_len B) _ _ _ _ _ _ _, fun _ => rfl⟩
theorem SRow.load {row : List V} (h : SRow row) {K : Heap} {b : Nat} (g : K.get (.run b) = some (.rows false 23 [row])) : loadAt K ⟨.run b, 0⟩ 23 = some row := by
  rw [loadAt_eq g (r := row) rfl, cut_thin h.thin (by have := h.len; omega)]
  simp [← h.len]
theorem rnew_ok (H : Heap) {A B : Nat} (hA : A < 256 ^ 64) (hB : B < 256 ^ 64) {lf : Nat} (hlf : 90 < lf) (n : Nat) : ret (callS Tryz.prog S0 lf (n + 7) 52 [.blk A, .blk B] H) fun v H' => Turns Z H H' ∧
    ((newC A B = none ∧ v = .tuple [.int .u64 0, .agg zrow, .int .i64 7]) ∨ ∃ C, newC A B = some C ∧ v = .tuple [.int .u64 ((sealN C : Nat) : Int), gSup C, .int .i64 0]) := by
  have t3 := ((Turns.add Z H (.rows false 64 [[.blk A]])).addm (.rows false 64 [[.blk B]])).addm (.rows false 23 [zrow])
  have hg0 : (H.add (.rows false 64 [[.blk A]])).get (.run H.next) = some (.rows false 64 [[.blk A]]) := by rw [Heap.get_add, if_pos rfl]
  have hgA : (((H.add (.rows false 64 [[.blk A]])).add (.rows false 64 [[.blk B]])).add (.rows false 23 [zrow])).get (.run H.next) = some (.rows false 64 [[.blk A]]) := by
    rw [Heap.get_add, if_neg (run_ne (by simp; omega)), Heap.get_add, if_neg (run_ne (by simp)), hg0]
  have hgB : (((H.add (.rows false 64 [[.blk A]])).add (.rows false 64 [[.blk B]])).add (.rows false 23 [zrow])).get (.run (H.next + 1)) = some (.rows false 64 [[.blk B]]) := by
    rw [Heap.get_add, if_neg (run_ne (by simp)), Heap.get_add, if_pos (by simp)]
  have hgZ : (((H.add (.rows false 64 [[.blk A]])).add (.rows false 64 [[.blk B]])).add (.rows false 23 [zrow])).get (.run (H.next + 1 + 1)) = some (.rows false 23 [zrow]) := by
    rw [Heap.get_add, if_pos (by simp)]
  have hn : (((H.add (.rows false 64 [[.blk A]])).add (.rows false 64 [[.blk B]])).add (.rows false 23 [zrow])).next = H.next + 3 := by simp
  have hzr : zrow = [.int .u64 0, .int .i64 0, .int .i64 0, .int .i64 0, .int .i64 0, .int .u8 0, .int .u8 0, .int .u8 0, .int .u8 0, .int .u8 0, .int .u8 0, .int .u8 0, .int .u8 0, .int .u8 0, .int .u8 0, .int .u8 0, .int .u8 0, .int .u8 0, .int .u8 0, .int .u8 0, .int .u8 0, .int .i64 0, .bool false] := rfl
  generalize hH2 : ((H.add (.rows false 64 [[.blk A]])).add (.rows false 64 [[.blk B]])).add (.rows false 23 [zrow]) = H2 at *
  rw [hzr] at hH2
  have lA : loadAt H2 ⟨.run H.next, 0⟩ 64 = some [.blk A] := by rw [loadAt_eq hgA rfl]; exact Dy _ _
  obtain ⟨v1, H3, e1, t4, r1, rfl, R1, hr1⟩ := rgr_ok H2 hA hlf n
  obtain ⟨H4, s4, g4, t5, n4⟩ := R1.new H3
  have lB : loadAt H4 ⟨.run (H.next + 1), 0⟩ 64 = some [.blk B] := by rw [loadAt_eq (((t4.trans t5).same (.run (H.next + 1)) (by show _ < _; omega) id).trans hgB) rfl]; exact Dy _ _
  obtain ⟨v2, H5, e2, t6, r2, rfl, R2, hr2⟩ := rgr_ok H4 hB hlf n
  obtain ⟨H6, s6, g6, t7, n6⟩ := R2.new H5
  have w1 := R1.width
  have w2 := R2.width
  have t26 : Turns Z H2 H6 := ((t4.trans t5).trans t6).trans t7
  have gZ : H6.get (.run (H.next + 1 + 1)) = some (.rows false 23 [zrow]) := (t26.same (.run (H.next + 1 + 1)) (by show _ < _; omega) id).trans hgZ
  have sto : ∀ {row : List V}, SRow row → ∃ F, storeAt H6 ⟨.run (H.next + 1 + 1), 0⟩ row = some F ∧ loadAt F ⟨.run (H.next + 1 + 1), 0⟩ 23 = some row ∧ Turns Z H F := fun {row} R => by
    refine ⟨_, storeAt_eq gZ (r := zrow) (r' := row) rfl R.put, ?_, (t3.trans t26).setnew (by omega) _⟩
    exact R.load (by rw [Heap.get_set, if_pos rfl]; rfl)
  have l1 : loadAt H6 ⟨.run H3.next, 0⟩ 23 = some r1 := R1.load (((t6.trans t7).same (.run H3.next) (by show _ < _; omega) id).trans g4)
  have l2 : loadAt H6 ⟨.run H5.next, 0⟩ 23 = some r2 := R2.load g6
  have hW : newW A B = if getE A ≠ 0 ∧ getE B ≠ 0 then none else if getE A ≠ 0 ∨ (getE B = 0 ∧ numOf A < numOf B) then some 1 else some 0 := rfl
  have hCB : newW A B = some 1 → newC A B = some B := fun h => by unfold newC; rw [h]; rfl
  have hCA : newW A B = some 0 → newC A B = some A := fun h => by unfold newC; rw [h]; rfl
  have hC0 : newW A B = none → newC A B = none := fun h => by unfold newC; rw [h]; rfl
  have hNA : getE A = 0 → numOf A = sealN A := fun h => by unfold numOf; rw [if_pos h]
  have hNB : getE B = 0 → numOf B = sealN B := fun h => by unfold numOf; rw [if_pos h]
  rw [hzr] at s4 s6
  generalize getE A = ea at *
  generalize getE B = eb at *
  obtain ⟨na, hna⟩ : ∃ z, z = numOf A := ⟨_, rfl⟩
  obtain ⟨nb, hnb⟩ : ∃ z, z = numOf B := ⟨_, rfl⟩
  rw [← hna] at e1 hW
  rw [← hnb] at e2 hW
  refine ret_call rfl c52_eq ?_
  by_cases ha : ea = 0
  · have ba : (ea == 0) = true := by simp [ha]
    by_cases hb : eb = 0
    · have bb : (eb == 0) = true := by simp [hb]
      by_cases hlt : na < nb
      · have hlt' : (na : Int) < (nb : Int) := by omega
        have hw : newW A B = some 1 := by rw [hW]; simp [ha, hb, hlt]
        obtain ⟨F, sf, lf', tf⟩ := sto R2
        have hr := hr2 hb
        simp only [c52, hH2, lA, e1, w1, s4, lB, e2, w2, s6, ba, bb, hlt', l2, sf, lf', sy, tup, ↓reduceIte, Nat.reduceEqDiff, Nat.reduceAdd, Nat.reduceSub, Nat.reduceMul, Nat.reduceLeDiff, Int.reduceBEq, reduceCtorEq]
        rw [endD_ok (by kernel_rfl) (by kernel_rfl)]
        simp only [l2, sf, lf', w2, sy, tup, ↓reduceIte, Nat.reduceEqDiff, Nat.reduceAdd, Nat.reduceSub, Nat.reduceMul, Nat.reduceLeDiff, Int.reduceBEq, reduceCtorEq]
        exact ⟨trivial, .inr trivial, _, rfl, tf, .inr ⟨B, hCB hw, by rw [← hr, ← hNB hb, ← hnb]⟩⟩
      · have hlt' : ¬ (na : Int) < (nb : Int) := by omega
        have hw : newW A B = some 0 := by rw [hW]; simp [ha, hb, hlt]
        obtain ⟨F, sf, lf', tf⟩ := sto R1
        have hr := hr1 ha
        simp only [c52, hH2, lA, e1, w1, s4, lB, e2, w2, s6, ba, bb, hlt', l1, sf, lf', sy, tup, ↓reduceIte, Nat.reduceEqDiff, Nat.reduceAdd, Nat.reduceSub, Nat.reduceMul, Nat.reduceLeDiff, Int.reduceBEq, reduceCtorEq]
        rw [endD_ok (by kernel_rfl) (by kernel_rfl)]
        simp only [l1, sf, lf', w1, sy, tup, ↓reduceIte, Nat.reduceEqDiff, Nat.reduceAdd, Nat.reduceSub, Nat.reduceMul, Nat.reduceLeDiff, Int.reduceBEq, reduceCtorEq]
        exact ⟨trivial, .inr trivial, _, rfl, tf, .inr ⟨A, hCA hw, by rw [← hr, ← hNA ha, ← hna]⟩⟩
    · have bb : (eb == 0) = false := by simp [hb]
      have hw : newW A B = some 0 := by rw [hW]; simp [ha, hb]
      obtain ⟨F, sf, lf', tf⟩ := sto R1
      have hr := hr1 ha
      simp only [c52, hH2, lA, e1, w1, s4, lB, e2, w2, s6, ba, bb, l1, sf, lf', sy, tup, ↓reduceIte, Nat.reduceEqDiff, Nat.reduceAdd, Nat.reduceSub, Nat.reduceMul, Nat.reduceLeDiff, Int.reduceBEq, reduceCtorEq]
      rw [endD_ok (by kernel_rfl) (by kernel_rfl)]
      simp only [l1, sf, lf', w1, sy, tup, ↓reduceIte, Nat.reduceEqDiff, Nat.reduceAdd, Nat.reduceSub, Nat.reduceMul, Nat.reduceLeDiff, Int.reduceBEq, reduceCtorEq]
      exact ⟨trivial, .inr trivial, _, rfl, tf, .inr ⟨A, hCA hw, by rw [← hr, ← hNA ha, ← hna]⟩⟩
  · have ba : (ea == 0) = false := by simp [ha]
    by_cases hb : eb = 0
    · have bb : (eb == 0) = true := by simp [hb]
      have hw : newW A B = some 1 := by rw [hW]; simp [ha, hb]
      obtain ⟨F, sf, lf', tf⟩ := sto R2
      have hr := hr2 hb
      simp only [c52, hH2, lA, e1, w1, s4, lB, e2, w2, s6, ba, bb, l2, sf, lf', sy, tup, ↓reduceIte, Nat.reduceEqDiff, Nat.reduceAdd, Nat.reduceSub, Nat.reduceMul, Nat.reduceLeDiff, Int.reduceBEq, reduceCtorEq]
      rw [endD_ok (by kernel_rfl) (by kernel_rfl)]
      simp only [l2, sf, lf', w2, sy, tup, ↓reduceIte, Nat.reduceEqDiff, Nat.reduceAdd, Nat.reduceSub, Nat.reduceMul, Nat.reduceLeDiff, Int.reduceBEq, reduceCtorEq]
      exact ⟨trivial, .inr trivial, _, rfl, tf, .inr ⟨B, hCB hw, by rw [← hr, ← hNB hb, ← hnb]⟩⟩
    · have bb : (eb == 0) = false := by simp [hb]
      have hw : newW A B = none := by rw [hW]; simp [ha, hb]
      obtain ⟨F, sf, lf', tf⟩ := sto SRow.z
      have wz := SRow.z.width
      rw [hzr] at sf lf' wz ⊢
      simp only [c52, hH2, lA, e1, w1, s4, lB, e2, w2, s6, ba, bb, sf, lf', wz, sy, tup, ↓reduceIte, Nat.reduceEqDiff, Nat.reduceAdd, Nat.reduceSub, Nat.reduceMul, Nat.reduceLeDiff, Int.reduceBEq, reduceCtorEq]
      exact ⟨trivial, .inr trivial, _, rfl, tf, .inl ⟨hC0 hw, rfl⟩⟩
end Go.Proofs.YtejgheoandfikaaGreat.draft
set_option linter.unusedVariables false
set_option linter.unusedSimpArgs false
set_option maxRecDepth 10000
namespace Go.Proofs.YtejgheoandfikaaGreat.draft
open Go.Am
noncomputable def c112_l0 : C := .seq (.seq (.reg [
 mv 32 8,
 qo 33 (.p (faddrF (tt 7) 0)) [pp 7],
 qo 34 (.r (loadF (tt 33) 1 .sc)) [pp 33],
 qo 35 (.p (arF .lss (tt 32) (tt 34))) [pp 32, pp 34]]) (
 .cond (tt 35) (.skip) (.exit 0))) (
 .seq (.block 1 (.seq (.regD [
 mv 38 0,
 mv 39 8,
 qo 40 (.c (callF (ff 139) [(tt 38), (tt 39)])) [pp 38, pp 39],
 qo 41 (.p (faddrF (tt 7) 1)) [pp 7],
 qo 42 (.r (loadF (tt 41) 1 .sc)) [pp 41],
 qo 43 (.p (arF .add (ii 2) (tt 42))) [pp 42],
 qo 44 (.p (arF .lss (tt 40) (tt 43))) [pp 40, pp 43]] [0, 0, 3, 0, 8, 24, 63]) (
 .cond (tt 44) (.seq (.reg [
 qo 6 (.p (S.get (.c (.bool false)))) []]) (
 .ret)) (.skip)))) (
 .reg [
 mv 36 8,
 qo 37 (.p (arF .add (tt 36) (ii 1))) [pp 36],
 mv 8 37]))
noncomputable def c112 : CFn := ⟨[.tmp (pp 6)],
 .seq (.reg [
 qo 5 (.m (boxF 23 (tt 2))) [pp 2],
 qo 6 (.p (S.get (.c (.bool false)))) []]) (
 .seq (.reg [
 qo 9 (.p (faddrF (tt 5) 2)) [pp 5],
 qo 10 (.p (faddrF (tt 9) 0)) [pp 9],
 qo 11 (.r (loadF (tt 10) 3 .ag)) [pp 10],
 qo 7 (.m (allocF 3 [.int .i64 0, .int .i64 0, .int .i64 0])) [],
 qn (.a (storeF (tt 7) (tt 11) 3)) [pp 7, pp 11]]) (
 .seq (.seq (.regD [
 mv 12 1,
 qo 13 (.p (arF .gtr (tt 12) (.c (.int .u64 2305843009213693952)))) [pp 12],
 mv 14 13,
 mg 15 0 14 false,
 qg 16 (.c (callF (ff 36) [(tt 15)])) 14 false [pp 15],
 qg 17 (.p (faddrF (tt 7) 0)) 14 false [pp 7],
 qg 18 (.r (loadF (tt 17) 1 .sc)) 14 false [pp 17],
 qg 19 (.p (arF .add (tt 18) (ii 1))) 14 false [pp 18],
 qg 20 (.p (eqcF true false [.int .i64] (tt 16) (tt 19))) 14 false [pp 16, pp 19],
 qo 21 (.p (pickF (tt 14) (.c (.bool true)) (tt 20))) [pp 14, pp 20],
 mv 22 21,
 mg 23 0 22 false,
 qg 24 (.p (faddrF (tt 7) 0)) 22 false [pp 7],
 qg 25 (.r (loadF (tt 24) 1 .sc)) 22 false [pp 24],
 qg 26 (.c (callF (ff 139) [(tt 23), (tt 25)])) 22 false [pp 23, pp 25],
 qg 27 (.p (faddrF (tt 7) 2)) 22 false [pp 7],
 qg 28 (.r (loadF (tt 27) 1 .sc)) 22 false [pp 27],
 qg 29 (.p (arF .add (ii 10) (tt 28))) 22 false [pp 28],
 qg 30 (.p (arF .lss (tt 26) (tt 29))) 22 false [pp 26, pp 29],
 qo 31 (.p (pickF (tt 22) (.c (.bool true)) (tt 30))) [pp 22, pp 30]] [0, 1, 3, 7, 15, 7, 39, 103, 255, 511, 1023, 2047, 2047, 6143, 16383, 2047, 34815, 100351, 262143, 524287]) (
 .cond (tt 31) (.seq (.reg [
 qo 6 (.p (S.get (.c (.bool false)))) []]) (
 .ret)) (.skip))) (
 .seq (.seq (.reg [
 qo 8 (.p (S.get (ii 0))) []]) (
 .block 0 (.loop c112_l0))) (
 .seq (.reg [
 qo 6 (.p (S.get (.c (.bool true)))) []]) (
 .ret)))))⟩
theorem c112_eq : fnOf Tryz.prog 112 = some c112 := by kernel_rfl
theorem sup_geo {H : Heap} {b : Bk} {id me m s r : Int} {S : List Nat} {c : Int} {g : Bool} (h : SupAt H b id me m s r S c g) : loadAt H ⟨b, 2⟩ 3 = some [.int .i64 m, .int .i64 s, .int .i64 r] := by rw [sup_cut h (by omega) (by omega)]; rfl
theorem rfits_ok (H : Heap) {b : Bk} {ev : Nat} {id me m s r c : Int} {g : Bool} {S : List Nat} (hS : S.length = 16) (hm : may m s r = true) {N : Nat} {sec : Int → Int} (lf k : Nat) (hlf : 20 < lf)
    (hd : ∀ H', Turns Z H H' → callS Tryz.prog S0 lf (k + 3) 36 [.ptr (some ⟨b, 0⟩)] H' = some (.v (.int .i64 (N : Int)), H'))
    (hs : ∀ H' d, Turns Z H H' → callS Tryz.prog S0 lf (k + 3) 139 [.ptr (some ⟨b, 0⟩), .int .i64 d] H' = some (.v (.int .i64 (sec d)), H')) :
    ret (callS Tryz.prog S0 lf (k + 4) 112 [.ptr (some ⟨b, 0⟩), .int .u64 (ev : Int), sup id me m s r S c g] H) fun v H' => Turns Z H H' ∧ ∃ z : Bool, v = .bool z ∧ (z = true ↔ ev ≤ 2305843009213693952 ∧ fits N sec m s r) := by
  have t0 := Turns.add Z H (.rows false 23 [scells id me m s r S c g])
  have g0 : (H.add (.rows false 23 [scells id me m s r S c g])).get (.run H.next) = some (.rows false 23 [scells id me m s r S c g]) := by rw [Heap.get_add, if_pos rfl]
  have n0 : (H.add (.rows false 23 [scells id me m s r S c g])).next = H.next + 1 := by simp
  have hw := s_width hS id me m s r c g
  obtain ⟨H0, hH0⟩ : ∃ K, H.add (.rows false 23 [scells id me m s r S c g]) = K := ⟨_, rfl⟩
  rw [hH0] at t0 g0 n0
  have lg := sup_geo (⟨g0, hS⟩ : SupAt H0 (.run H.next) id me m s r S c g)
  have ga : (H0.add (.rows false 3 [[.int .i64 0, .int .i64 0, .int .i64 0]])).get (.run (H.next + 1)) = some (.rows false 3 [[.int .i64 0, .int .i64 0, .int .i64 0]]) := by rw [Heap.get_add, if_pos (by rw [n0])]
  have sa : storeAt (H0.add (.rows false 3 [[.int .i64 0, .int .i64 0, .int .i64 0]])) ⟨.run (H.next + 1), 0⟩ [.int .i64 m, .int .i64 s, .int .i64 r] = some ((H0.add (.rows false 3 [[.int .i64 0, .int .i64 0, .int .i64 0]])).set (.run (H.next + 1)) (.rows false 3 [[.int .i64 m, .int .i64 s, .int .i64 r]])) := storeAt_eq ga (r := [.int .i64 0, .int .i64 0, .int .i64 0]) (r' := [.int .i64 m, .int .i64 s, .int .i64 r]) rfl rfl
  have ta : Turns Z H0 ((H0.add (.rows false 3 [[.int .i64 0, .int .i64 0, .int .i64 0]])).set (.run (H.next + 1)) (.rows false 3 [[.int .i64 m, .int .i64 s, .int .i64 r]])) := (Turns.add Z H0 _).setnew (by omega) _
  have gb : ((H0.add (.rows false 3 [[.int .i64 0, .int .i64 0, .int .i64 0]])).set (.run (H.next + 1)) (.rows false 3 [[.int .i64 m, .int .i64 s, .int .i64 r]])).get (.run (H.next + 1)) = some (.rows false 3 [[.int .i64 m, .int .i64 s, .int .i64 r]]) := by rw [Heap.get_set, if_pos rfl]
  have nb : ((H0.add (.rows false 3 [[.int .i64 0, .int .i64 0, .int .i64 0]])).set (.run (H.next + 1)) (.rows false 3 [[.int .i64 m, .int .i64 s, .int .i64 r]])).next = H.next + 2 := by simp [n0]
  obtain ⟨H1, hH1⟩ : ∃ K, (H0.add (.rows false 3 [[.int .i64 0, .int .i64 0, .int .i64 0]])).set (.run (H.next + 1)) (.rows false 3 [[.int .i64 m, .int .i64 s, .int .i64 r]]) = K := ⟨_, rfl⟩
  rw [hH1] at sa ta gb nb
  have t1 := t0.trans ta
  have hr : ∀ {H' : Heap}, Turns Z H1 H' → GeoAt H' (.run (H.next + 1)) m s r := fun t => ⟨(t.same _ (by show _ < _; omega) (fun h => h)).trans gb⟩
  obtain ⟨bm, bs, br⟩ := may_t hm
  have d1 := hd H1 t1
  have m1 := (hr (Turns.refl Z H1)).m
  have r1 := (hr (Turns.refl Z H1)).r
  have s1 := hs H1 m t1
  have wm : IntKind.i64.wrap (m + 1) = m + 1 := wrap_i64 (by omega)
  have wr : IntKind.i64.wrap (10 + r) = r + 10 := by rw [wrap_i64 (by omega)]; omega
  obtain ⟨q, hqd⟩ : ∃ q : List (Option V × Option V), q = [(loadF (.t (Tr.path 17)) 1 .sc (Tr.setP (Tr.path 17) (.ptr (some ⟨.run (H.next + 1), 0⟩)) .e) H1, some (.int .i64 m)), (loadF (.t (Tr.path 17)) 1 .sc (Tr.setP (Tr.path 17) (.ptr (some ⟨.run (H.next + 1), 0⟩)) .e) H1, some (.int .i64 m))] := ⟨_, rfl⟩
  have hq : ∀ p ∈ q, p.1 = p.2 := by
    rw [hqd]
    intro p hp
    simp only [List.mem_cons, List.not_mem_nil, or_false] at hp
    rcases hp with rfl | rfl
    · simp only [m1, sy, tup, ↓reduceIte, Nat.reduceEqDiff, Nat.reduceAdd, Nat.reduceSub, Nat.reduceMul, Nat.reduceLeDiff, Int.reduceBEq, reduceCtorEq]
    · simp only [m1, sy, tup, ↓reduceIte, Nat.reduceEqDiff, Nat.reduceAdd, Nat.reduceSub, Nat.reduceMul, Nat.reduceLeDiff, Int.reduceBEq, reduceCtorEq]
  obtain ⟨q2, hqd2⟩ : ∃ q : List (Option V × Option V), q = [(loadF (.t (Tr.path 17)) 1 .sc (Tr.setP (Tr.path 17) (.ptr (some ⟨.run (H.next + 1), 0⟩)) .e) H1, some (.int .i64 m)), (loadF (.t (Tr.path 17)) 1 .sc (Tr.setP (Tr.path 17) (.ptr (some ⟨.run (H.next + 1), 0⟩)) .e) H1, some (.int .i64 m)), (loadF (.t (Tr.path 27)) 1 .sc (Tr.setP (Tr.path 27) (.ptr (some ⟨.run (H.next + 1), 2⟩)) .e) H1, some (.int .i64 r)), (loadF (.t (Tr.path 27)) 1 .sc (Tr.setP (Tr.path 27) (.ptr (some ⟨.run (H.next + 1), 2⟩)) .e) H1, some (.int .i64 r))] := ⟨_, rfl⟩
  have hq2 : ∀ p ∈ q2, p.1 = p.2 := by
    rw [hqd2]
    intro p hp
    simp only [List.mem_cons, List.not_mem_nil, or_false] at hp
    rcases hp with rfl | rfl | rfl | rfl
    · simp only [m1, sy, tup, ↓reduceIte, Nat.reduceEqDiff, Nat.reduceAdd, Nat.reduceSub, Nat.reduceMul, Nat.reduceLeDiff, Int.reduceBEq, reduceCtorEq]
    · simp only [m1, sy, tup, ↓reduceIte, Nat.reduceEqDiff, Nat.reduceAdd, Nat.reduceSub, Nat.reduceMul, Nat.reduceLeDiff, Int.reduceBEq, reduceCtorEq]
    · simp only [r1, sy, tup, ↓reduceIte, Nat.reduceEqDiff, Nat.reduceAdd, Nat.reduceSub, Nat.reduceMul, Nat.reduceLeDiff, Int.reduceBEq, reduceCtorEq]
    · simp only [r1, sy, tup, ↓reduceIte, Nat.reduceEqDiff, Nat.reduceAdd, Nat.reduceSub, Nat.reduceMul, Nat.reduceLeDiff, Int.reduceBEq, reduceCtorEq]
  refine ret_call rfl c112_eq ?_
  by_cases hev : ev ≤ 2305843009213693952
  rotate_left
  · have hev' : (2305843009213693952 : Int) < (ev : Int) := by omega
    simp only [c112, sup, hw, hH0, n0, lg, sa, hev', sy, tup, ↓reduceIte, Nat.reduceEqDiff, Nat.reduceAdd, Nat.reduceSub, Nat.reduceMul, Nat.reduceLeDiff, Int.reduceBEq, reduceCtorEq]
    rw [endD_ok (by kernel_rfl) (by kernel_rfl)]
    simp only [sy, tup, ↓reduceIte, Nat.reduceEqDiff, Nat.reduceAdd, Nat.reduceSub, Nat.reduceMul, Nat.reduceLeDiff, Int.reduceBEq, reduceCtorEq]
    exact ⟨trivial, .inr trivial, _, rfl, t1, false, rfl, by simp [hev]⟩
  have hev' : ¬ (2305843009213693952 : Int) < (ev : Int) := by omega
  by_cases hN : (N : Int) = m + 1
  · have bN : ((N : Int) == m + 1) = true := by simpa using hN
    by_cases hR : sec m < r + 10
    · simp only [c112, sup, hw, hH0, n0, lg, sa, hev', d1, m1, r1, s1, wm, wr, bN, hR, sy, tup, ↓reduceIte, Nat.reduceEqDiff, Nat.reduceAdd, Nat.reduceSub, Nat.reduceMul, Nat.reduceLeDiff, Int.reduceBEq, reduceCtorEq]
      rw [endD_q (q := q2) (by kernel_rfl) (by rw [hqd2]; kernel_rfl)]
      simp only [sy, tup, ↓reduceIte, Nat.reduceEqDiff, Nat.reduceAdd, Nat.reduceSub, Nat.reduceMul, Nat.reduceLeDiff, Int.reduceBEq, reduceCtorEq]
      exact ⟨trivial, .inr trivial, _, rfl, t1.trans ((Turns.refl Z H1).owe hq2), false, rfl, by unfold fits; simp; omega⟩
    · have tq := (Turns.refl Z H1).owe hq2
      simp only [c112, sup, hw, hH0, n0, lg, sa, hev', d1, m1, r1, s1, wm, wr, bN, hR, sy, tup, ↓reduceIte, Nat.reduceEqDiff, Nat.reduceAdd, Nat.reduceSub, Nat.reduceMul, Nat.reduceLeDiff, Int.reduceBEq, reduceCtorEq]
      rw [endD_q (q := q2) (by kernel_rfl) (by rw [hqd2]; kernel_rfl)]
      simp only [sy, tup, ↓reduceIte, Nat.reduceEqDiff, Nat.reduceAdd, Nat.reduceSub, Nat.reduceMul, Nat.reduceLeDiff, Int.reduceBEq, reduceCtorEq]
      have hloop : ∀ t : T, t.getP (Tr.path 0) = some (.ptr (some ⟨b, 0⟩)) → t.getP (Tr.path 7) = some (.ptr (some ⟨.run (H.next + 1), 0⟩)) → t.getP (Tr.path 8) = some (.int .i64 0) →
          wp (loopF (runC (callS Tryz.prog S0 lf (k + 3)) lf c112_l0) lf ⟨t, H1.owe q2, []⟩) fun x s' => s'.d = [] ∧ Turns Z H1 s'.H ∧ ((x = .ex 0 ∧ (∀ d, 0 ≤ d ∧ d < m → s + 2 ≤ sec d)) ∨ (x = .ret ∧ ¬ (∀ d, 0 ≤ d ∧ d < m → s + 2 ≤ sec d) ∧ s'.t.getP (Tr.path 6) = some (.bool false))) := by
        intro t q0 q7 q8
        refine wp_loopF (fun j s' => ∃ i : Nat, (j : Int) = m - i ∧ (i : Int) ≤ m ∧ s'.d = [] ∧ Turns Z H1 s'.H ∧ (∀ d, 0 ≤ d ∧ d < (i : Int) → s + 2 ≤ sec d) ∧ s'.t.getP (Tr.path 0) = some (.ptr (some ⟨b, 0⟩)) ∧ s'.t.getP (Tr.path 7) = some (.ptr (some ⟨.run (H.next + 1), 0⟩)) ∧ s'.t.getP (Tr.path 8) = some (.int .i64 (i : Int))) ?_ lf m.toNat _ ⟨0, by omega, by omega, rfl, tq, fun d hd => absurd hd (by omega), q0, q7, q8⟩ (by omega)
        rintro j ⟨t, HH, dd⟩ ⟨i, hj, hi, hdd, tz, hall, q0, q7, q8⟩
        dsimp only at hdd tz q0 q7 q8
        subst hdd
        have lm := (hr tz).m
        by_cases hlt : (i : Int) < m
        · have eS := hs HH (i : Int) (t1.trans tz)
          have ls := (hr tz).s
          have ws : IntKind.i64.wrap (2 + s) = s + 2 := by rw [wrap_i64 (by omega)]; omega
          have w1 : IntKind.i64.wrap ((i : Int) + 1) = ((i + 1 : Nat) : Int) := by rw [wrap_i64 (by omega)]; omega
          obtain ⟨q', hqd'⟩ : ∃ q' : List (Option V × Option V), q' = [(loadF (.t (Tr.path 41)) 1 .sc (Tr.setP (Tr.path 41) (.ptr (some ⟨.run (H.next + 1), 1⟩)) .e) HH, some (.int .i64 s)), (loadF (.t (Tr.path 41)) 1 .sc (Tr.setP (Tr.path 41) (.ptr (some ⟨.run (H.next + 1), 1⟩)) .e) HH, some (.int .i64 s))] := ⟨_, rfl⟩
          have hq' : ∀ p ∈ q', p.1 = p.2 := by
            rw [hqd']
            intro p hp
            simp only [List.mem_cons, List.not_mem_nil, or_false] at hp
            rcases hp with rfl | rfl
            · simp only [ls, sy, tup, ↓reduceIte, Nat.reduceEqDiff, Nat.reduceAdd, Nat.reduceSub, Nat.reduceMul, Nat.reduceLeDiff, Int.reduceBEq, reduceCtorEq]
            · simp only [ls, sy, tup, ↓reduceIte, Nat.reduceEqDiff, Nat.reduceAdd, Nat.reduceSub, Nat.reduceMul, Nat.reduceLeDiff, Int.reduceBEq, reduceCtorEq]
          have tz' : Turns Z H1 (HH.owe q') := tz.owe hq'
          by_cases hsec : sec (i : Int) < s + 2
          · simp only [c112_l0, q0, q7, q8, lm, hlt, eS, ls, ws, hsec, sy, tup, ↓reduceIte, Nat.reduceEqDiff, Nat.reduceAdd, Nat.reduceSub, Nat.reduceMul, Nat.reduceLeDiff, Int.reduceBEq, reduceCtorEq]
            rw [endD_q (q := q') (by kernel_rfl) (by rw [hqd']; kernel_rfl)]
            simp only [sy, tup, ↓reduceIte, Nat.reduceEqDiff, Nat.reduceAdd, Nat.reduceSub, Nat.reduceMul, Nat.reduceLeDiff, Int.reduceBEq, reduceCtorEq]
            exact ⟨trivial, tz', .inr ⟨trivial, fun h => by have := h (i : Int) (by omega); omega, trivial⟩⟩
          · simp only [c112_l0, q0, q7, q8, lm, hlt, eS, ls, ws, hsec, sy, tup, ↓reduceIte, Nat.reduceEqDiff, Nat.reduceAdd, Nat.reduceSub, Nat.reduceMul, Nat.reduceLeDiff, Int.reduceBEq, reduceCtorEq]
            rw [endD_q (q := q') (by kernel_rfl) (by rw [hqd']; kernel_rfl)]
            simp only [q0, q7, q8, w1, sy, tup, ↓reduceIte, Nat.reduceEqDiff, Nat.reduceAdd, Nat.reduceSub, Nat.reduceMul, Nat.reduceLeDiff, Int.reduceBEq, reduceCtorEq]
            refine ⟨j - 1, by omega, i + 1, by omega, by omega, trivial, tz', fun d hd => ?_, by simp [q0], by simp [q7], by simp⟩
            by_cases e : d = (i : Int)
            · subst e; omega
            · exact hall d (by omega)
        · have hnl : ¬ (i : Int) < m := hlt
          have : (i : Int) = m := by omega
          simp only [c112_l0, q0, q7, q8, lm, hnl, sy, tup, ↓reduceIte, Nat.reduceEqDiff, Nat.reduceAdd, Nat.reduceSub, Nat.reduceMul, Nat.reduceLeDiff, Int.reduceBEq, reduceCtorEq]
          exact ⟨trivial, tz, .inl ⟨trivial, fun d hd => hall d (by omega)⟩⟩
      refine wp_ctx (F := fun r => seqC _ _ _ (blockC _ r)) (hloop _ ?_ ?_ ?_) ?_
      · simp only [sy, tup, ↓reduceIte, Nat.reduceEqDiff, Nat.reduceAdd, Nat.reduceSub, Nat.reduceMul, Nat.reduceLeDiff, Int.reduceBEq, reduceCtorEq]
      · simp only [sy, tup, ↓reduceIte, Nat.reduceEqDiff, Nat.reduceAdd, Nat.reduceSub, Nat.reduceMul, Nat.reduceLeDiff, Int.reduceBEq, reduceCtorEq]
      · simp only [sy, tup, ↓reduceIte, Nat.reduceEqDiff, Nat.reduceAdd, Nat.reduceSub, Nat.reduceMul, Nat.reduceLeDiff, Int.reduceBEq, reduceCtorEq]
      rintro x ⟨t, HH, dd⟩ ⟨hdd, tz, ⟨rfl, hall⟩ | ⟨rfl, hno, q6⟩⟩
      · dsimp only at hdd tz
        subst hdd
        simp only [sy, tup, ↓reduceIte, Nat.reduceEqDiff, Nat.reduceAdd, Nat.reduceSub, Nat.reduceMul, Nat.reduceLeDiff, Int.reduceBEq, reduceCtorEq]
        exact ⟨trivial, .inr trivial, _, rfl, t1.trans tz, true, rfl, by unfold fits; simp; exact ⟨hev, hN, by omega, fun d h1 h2 => hall d ⟨h1, h2⟩⟩⟩
      · dsimp only at hdd tz q6
        subst hdd
        simp only [q6, sy, tup, ↓reduceIte, Nat.reduceEqDiff, Nat.reduceAdd, Nat.reduceSub, Nat.reduceMul, Nat.reduceLeDiff, Int.reduceBEq, reduceCtorEq]
        exact ⟨trivial, .inr trivial, _, rfl, t1.trans tz, false, rfl, by unfold fits; simp; exact fun _ _ _ => by simpa using hno⟩
  · have bN : ((N : Int) == m + 1) = false := by simpa using hN
    simp only [c112, sup, hw, hH0, n0, lg, sa, hev', d1, m1, wm, bN, sy, tup, ↓reduceIte, Nat.reduceEqDiff, Nat.reduceAdd, Nat.reduceSub, Nat.reduceMul, Nat.reduceLeDiff, Int.reduceBEq, reduceCtorEq]
    rw [endD_q (q := q) (by kernel_rfl) (by rw [hqd]; kernel_rfl)]
    simp only [sy, tup, ↓reduceIte, Nat.reduceEqDiff, Nat.reduceAdd, Nat.reduceSub, Nat.reduceMul, Nat.reduceLeDiff, Int.reduceBEq, reduceCtorEq]
    exact ⟨trivial, .inr trivial, _, rfl, t1.trans ((Turns.refl Z H1).owe hq), false, rfl, by unfold fits; simp [hN]⟩
end Go.Proofs.YtejgheoandfikaaGreat.draft
set_option linter.unusedVariables false
set_option linter.unusedSimpArgs false
set_option maxRecDepth 10000
namespace Go.Proofs.YtejgheoandfikaaGreat.draft
open Go.Am
noncomputable def c38 : CFn := ⟨[.tmp (pp 4), .cell (pp 5) 23 .ag, .tmp (pp 6)],
 .seq (.reg [
 qo 4 (.p (S.get (.c (.int .u64 0)))) [],
 qo 5 (.m (allocF 23 [.int .u64 0, .int .i64 0, .int .i64 0, .int .i64 0, .int .i64 0, .int .u8 0, .int .u8 0, .int .u8 0, .int .u8 0, .int .u8 0, .int .u8 0, .int .u8 0, .int .u8 0, .int .u8 0, .int .u8 0, .int .u8 0, .int .u8 0, .int .u8 0, .int .u8 0, .int .u8 0, .int .u8 0, .int .i64 0, .bool false])) [],
 qo 6 (.p (S.get (ii 0))) []]) (
 .seq (.seq (.reg [
 mv 14 0,
 qo 15 (.c (callF (ff 110) [(tt 14)])) [pp 14]]) (
 .cond (tt 15) (.seq (.reg [
 qo 16 (.p (buildF [.int .u64 0, .int .i64 0, .int .i64 0, .int .i64 0, .int .i64 0, .int .u8 0, .int .u8 0, .int .u8 0, .int .u8 0, .int .u8 0, .int .u8 0, .int .u8 0, .int .u8 0, .int .u8 0, .int .u8 0, .int .u8 0, .int .u8 0, .int .u8 0, .int .u8 0, .int .u8 0, .int .u8 0, .int .i64 0, .bool false] .ag [])) [],
 qo 4 (.p (S.get (.c (.int .u64 0)))) [],
 qn (.a (storeF (tt 5) (tt 16) 23)) [pp 5, pp 16],
 qo 6 (.p (S.get (ii 8))) []]) (
 .ret)) (.skip))) (
 .seq (.seq (.reg [
 mv 17 1,
 qo 18 (.p (arF .lss (tt 17) (ii 0))) [pp 17],
 mv 19 18,
 mg 20 1 19 false,
 mg 21 0 19 false,
 qg 22 (.c (callF (ff 36) [(tt 21)])) 19 false [pp 21],
 qg 23 (.p (arF .sub (tt 22) (ii 1))) 19 false [pp 22],
 qg 24 (.p (arF .geq (tt 20) (tt 23))) 19 false [pp 20, pp 23],
 qo 25 (.p (pickF (tt 19) (.c (.bool true)) (tt 24))) [pp 19, pp 24]]) (
 .cond (tt 25) (.seq (.reg [
 qo 26 (.p (buildF [.int .u64 0, .int .i64 0, .int .i64 0, .int .i64 0, .int .i64 0, .int .u8 0, .int .u8 0, .int .u8 0, .int .u8 0, .int .u8 0, .int .u8 0, .int .u8 0, .int .u8 0, .int .u8 0, .int .u8 0, .int .u8 0, .int .u8 0, .int .u8 0, .int .u8 0, .int .u8 0, .int .u8 0, .int .i64 0, .bool false] .ag [])) [],
 qo 4 (.p (S.get (.c (.int .u64 0)))) [],
 qn (.a (storeF (tt 5) (tt 26) 23)) [pp 5, pp 26],
 qo 6 (.p (S.get (ii 7))) []]) (
 .ret)) (.skip))) (
 .seq (.reg [
 mv 28 0,
 mv 29 1,
 qo 30 (.c (callF (ff 111) [(tt 28), (tt 29), (ii 0)])) [pp 28, pp 29],
 mv 27 30,
 qo 31 (.p (extF (tt 27) 0)) [pp 27],
 qo 32 (.p (extF (tt 27) 1)) [pp 27],
 qo 7 (.m (allocF 64 [.blk 0])) [],
 qn (.a (storeF (tt 7) (tt 31) 64)) [pp 7, pp 31],
 mv 8 32]) (
 .seq (.reg [
 mv 34 0,
 mv 35 1,
 qo 36 (.c (callF (ff 111) [(tt 34), (tt 35), (ii 1)])) [pp 34, pp 35],
 mv 33 36,
 qo 37 (.p (extF (tt 33) 0)) [pp 33],
 qo 38 (.p (extF (tt 33) 1)) [pp 33],
 qo 9 (.m (allocF 64 [.blk 0])) [],
 qn (.a (storeF (tt 9) (tt 37) 64)) [pp 9, pp 37],
 mv 10 38]) (
 .seq (.seq (.reg [
 mv 39 8,
 qo 40 (.p (eqcF true false [.int .i64] (tt 39) (ii 0))) [pp 39],
 mv 41 40,
 mg 42 10 41 false,
 qg 43 (.p (eqcF true false [.int .i64] (tt 42) (ii 0))) 41 false [pp 42],
 qo 44 (.p (pickF (tt 41) (.c (.bool true)) (tt 43))) [pp 41, pp 43]]) (
 .cond (tt 44) (.seq (.reg [
 qo 45 (.p (buildF [.int .u64 0, .int .i64 0, .int .i64 0, .int .i64 0, .int .i64 0, .int .u8 0, .int .u8 0, .int .u8 0, .int .u8 0, .int .u8 0, .int .u8 0, .int .u8 0, .int .u8 0, .int .u8 0, .int .u8 0, .int .u8 0, .int .u8 0, .int .u8 0, .int .u8 0, .int .u8 0, .int .u8 0, .int .i64 0, .bool false] .ag [])) [],
 qo 4 (.p (S.get (.c (.int .u64 0)))) [],
 qn (.a (storeF (tt 5) (tt 45) 23)) [pp 5, pp 45],
 qo 6 (.p (S.get (ii 7))) []]) (
 .ret)) (.skip))) (
 .seq (.reg [
 qo 47 (.r (loadF (tt 7) 64 .bk)) [pp 7],
 qo 48 (.r (loadF (tt 9) 64 .bk)) [pp 9],
 qo 49 (.c (callF (ff 52) [(tt 47), (tt 48)])) [pp 47, pp 48],
 mv 46 49,
 qo 50 (.p (extF (tt 46) 0)) [pp 46],
 qo 51 (.p (extF (tt 46) 1)) [pp 46],
 qo 52 (.p (extF (tt 46) 2)) [pp 46],
 qo 12 (.m (allocF 23 [.int .u64 0, .int .i64 0, .int .i64 0, .int .i64 0, .int .i64 0, .int .u8 0, .int .u8 0, .int .u8 0, .int .u8 0, .int .u8 0, .int .u8 0, .int .u8 0, .int .u8 0, .int .u8 0, .int .u8 0, .int .u8 0, .int .u8 0, .int .u8 0, .int .u8 0, .int .u8 0, .int .u8 0, .int .i64 0, .bool false])) [],
 mv 11 50,
 qn (.a (storeF (tt 12) (tt 51) 23)) [pp 12, pp 51],
 mv 13 52]) (
 .seq (.seq (.reg [
 mv 53 13,
 qo 54 (.p (eqcF true false [.int .i64] (tt 53) (ii 0))) [pp 53],
 mv 55 54,
 mg 56 0 55 false,
 mg 57 11 55 false,
 qg 58 (.r (loadF (tt 12) 23 .ag)) 55 false [pp 12],
 qg 59 (.c (callF (ff 112) [(tt 56), (tt 57), (tt 58)])) 55 false [pp 56, pp 57, pp 58],
 qg 60 (.p (unF .not (tt 59))) 55 false [pp 59],
 qo 61 (.p (pickF (tt 55) (.c (.bool true)) (tt 60))) [pp 55, pp 60]]) (
 .cond (tt 61) (.seq (.reg [
 qo 62 (.p (buildF [.int .u64 0, .int .i64 0, .int .i64 0, .int .i64 0, .int .i64 0, .int .u8 0, .int .u8 0, .int .u8 0, .int .u8 0, .int .u8 0, .int .u8 0, .int .u8 0, .int .u8 0, .int .u8 0, .int .u8 0, .int .u8 0, .int .u8 0, .int .u8 0, .int .u8 0, .int .u8 0, .int .u8 0, .int .i64 0, .bool false] .ag [])) [],
 qo 4 (.p (S.get (.c (.int .u64 0)))) [],
 qn (.a (storeF (tt 5) (tt 62) 23)) [pp 5, pp 62],
 qo 6 (.p (S.get (ii 7))) []]) (
 .ret)) (.skip))) (
 .seq (.regD [
 mv 63 11,
 qo 64 (.r (loadF (tt 12) 23 .ag)) [pp 12],
 mv 4 63,
 qn (.a (storeF (tt 5) (tt 64) 23)) [pp 5, pp 64],
 qo 6 (.p (S.get (ii 0))) []] [0, 0, 1, 7, 15]) (
 .ret)))))))))⟩
theorem c38_eq : fnOf Tryz.prog 38 = some c38 := by kernel_rfl
theorem rsuper_ok {H : Heap} {b ds : Bk} {so : Nat} {l : List disk.Dv} {B : disk.Bn} (h : disk.Rep true H b ds so l B) (hl : l ≠ []) (hg : ∀ D ∈ B.l, disk.Good D) (hsm : ∀ d n, B.read d n < 256 ^ 64) (hdk : B.dk = false) (hlen : l.length ≤ 17) (d : Int) {lf : Nat} (hlf : 1000 < lf) (n : Nat) :
    ret (callS Tryz.prog S0 lf (n + 8) 38 [.ptr (some ⟨b, 0⟩), .int .i64 d] H) fun v H' => Turns Z H H' ∧
      ((gC B l.length d = none ∧ v = .tuple [.int .u64 0, .agg zrow, .int .i64 7]) ∨ ∃ C, gC B l.length d = some C ∧ v = .tuple [.int .u64 ((sealN C : Nat) : Int), gSup C, .int .i64 0]) := by
  have hzr : zrow = [.int .u64 0, .int .i64 0, .int .i64 0, .int .i64 0, .int .i64 0, .int .u8 0, .int .u8 0, .int .u8 0, .int .u8 0, .int .u8 0, .int .u8 0, .int .u8 0, .int .u8 0, .int .u8 0, .int .u8 0, .int .u8 0, .int .u8 0, .int .u8 0, .int .u8 0, .int .u8 0, .int .u8 0, .int .i64 0, .bool false] := rfl
  have t1 := Turns.add Z H (.rows false 23 [zrow])
  have hg1 : (H.add (.rows false 23 [zrow])).get (.run H.next) = some (.rows false 23 [zrow]) := by rw [Heap.get_add, if_pos rfl]
  have hn1 : (H.add (.rows false 23 [zrow])).next = H.next + 1 := by simp
  obtain ⟨H1, hH1⟩ : ∃ K, H.add (.rows false 23 [zrow]) = K := ⟨_, rfl⟩
  rw [hH1] at t1 hg1 hn1
  have old : ∀ {H' : Heap}, Turns Z H1 H' → H'.get (.run H.next) = some (.rows false 23 [zrow]) := fun t => (t.same (.run H.next) (by show _ < _; omega) id).trans hg1
  have sto : ∀ {H' : Heap}, Turns Z H1 H' → ∀ {row : List V}, SRow row → ∃ H'', storeAt H' ⟨.run H.next, 0⟩ row = some H'' ∧ loadAt H'' ⟨.run H.next, 0⟩ 23 = some row ∧ Turns Z H H'' := fun {H'} t {row} R => by
    refine ⟨_, storeAt_eq (old t) (r := zrow) (r' := row) rfl R.put, ?_, (t1.trans t).setnew (Nat.le_refl _) _⟩
    rw [loadAt_eq (b := .run H.next) (r := row) (by rw [Heap.get_set, if_pos rfl]) rfl, cut_thin R.thin (by have := R.len; omega)]
    simp [← R.len]
  have hN : 1 ≤ l.length := by cases l with
    | nil => exact absurd rfl hl
    | cons x xs => simp
  have e1 : callS Tryz.prog S0 lf (n + 7) 36 [.ptr (some ⟨b, 0⟩)] H1 = _ := disk.rdevices (h.turns t1) lf (n + 6)
  have e2 : callS Tryz.prog S0 lf (n + 7) 110 [.ptr (some ⟨b, 0⟩)] H1 = some (.v (.bool false), H1) := by rw [← hdk]; exact disk.rdark (h.turns t1) lf (n + 6)
  have w1 : IntKind.i64.wrap ((l.length : Int) - 1) = (l.length : Int) - 1 := wrap_i64 (by omega)
  obtain ⟨F1, sf1, lf1, tf1⟩ := sto (Turns.refl Z H1) SRow.z
  have wz := SRow.z.width
  have hzH := hH1
  rw [hzr] at hzH
  have sf1' := sf1
  have lf1' := lf1
  have wz' := wz
  rw [hzr] at sf1' lf1' wz'
  refine ret_call rfl c38_eq ?_
  by_cases hd0 : d < 0
  · simp only [c38, hzH, e1, e2, hd0, sf1', lf1', wz', sy, tup, ↓reduceIte, Nat.reduceEqDiff, Nat.reduceAdd, Nat.reduceSub, Nat.reduceMul, Nat.reduceLeDiff, Int.reduceBEq, reduceCtorEq]
    exact ⟨trivial, .inr trivial, _, rfl, tf1, .inl ⟨by unfold gC; rw [if_pos (.inl hd0)], rfl⟩⟩
  by_cases hd1 : (l.length : Int) - 1 ≤ d
  · simp only [c38, hzH, e1, e2, hd0, w1, hd1, sf1', lf1', wz', sy, tup, ↓reduceIte, Nat.reduceEqDiff, Nat.reduceAdd, Nat.reduceSub, Nat.reduceMul, Nat.reduceLeDiff, Int.reduceBEq, reduceCtorEq]
    exact ⟨trivial, .inr trivial, _, rfl, tf1, .inl ⟨by unfold gC; rw [if_pos (.inr hd1)], rfl⟩⟩
  obtain ⟨v2, H2, e3, rfl, t2⟩ := disk.rbread (h.turns t1) hg d 0 hlf (n + 4)
  change callS Tryz.prog S0 lf (n + 7) 111 _ _ = _ at e3
  have u3 : Turns Z H2 ((H2.add (.rows false 64 [[.blk 0]])).set (.run H2.next) (.rows false 64 [[.blk (B.read d 0)]])) := (Turns.add Z H2 _).setnew (Nat.le_refl _) _
  have g3 : ((H2.add (.rows false 64 [[.blk 0]])).set (.run H2.next) (.rows false 64 [[.blk (B.read d 0)]])).get (.run H2.next) = some (.rows false 64 [[.blk (B.read d 0)]]) := by rw [Heap.get_set, if_pos rfl]
  have n3 : ((H2.add (.rows false 64 [[.blk 0]])).set (.run H2.next) (.rows false 64 [[.blk (B.read d 0)]])).next = H2.next + 1 := by simp
  obtain ⟨H3, hH3⟩ : ∃ K, (H2.add (.rows false 64 [[.blk 0]])).set (.run H2.next) (.rows false 64 [[.blk (B.read d 0)]]) = K := ⟨_, rfl⟩
  rw [hH3] at u3 g3 n3
  have t3 := t2.trans u3
  obtain ⟨v4, H4, e4, rfl, t4⟩ := disk.rbread (h.turns (t1.trans t3)) hg d 1 hlf (n + 4)
  change callS Tryz.prog S0 lf (n + 7) 111 _ _ = _ at e4
  have u5 : Turns Z H4 ((H4.add (.rows false 64 [[.blk 0]])).set (.run H4.next) (.rows false 64 [[.blk (B.read d 1)]])) := (Turns.add Z H4 _).setnew (Nat.le_refl _) _
  have g5 : ((H4.add (.rows false 64 [[.blk 0]])).set (.run H4.next) (.rows false 64 [[.blk (B.read d 1)]])).get (.run H4.next) = some (.rows false 64 [[.blk (B.read d 1)]]) := by rw [Heap.get_set, if_pos rfl]
  obtain ⟨H5, hH5⟩ : ∃ K, (H4.add (.rows false 64 [[.blk 0]])).set (.run H4.next) (.rows false 64 [[.blk (B.read d 1)]]) = K := ⟨_, rfl⟩
  rw [hH5] at u5 g5
  have t5 := (t3.trans t4).trans u5
  have g35 := ((t4.trans u5).same (.run H2.next) (by show _ < _; omega) id).trans g3
  have la : loadAt H5 ⟨.run H2.next, 0⟩ 64 = some [.blk (B.read d 0)] := by rw [loadAt_eq g35 rfl]; exact Dy _ _
  have lb : loadAt H5 ⟨.run H4.next, 0⟩ 64 = some [.blk (B.read d 1)] := by rw [loadAt_eq g5 rfl]; exact Dy _ _
  obtain ⟨F2, sf2, lf2, tf2⟩ := sto t5 SRow.z
  rw [hzr] at sf2 lf2
  have hgd : gC B l.length d = if B.rc d 0 ≠ 0 ∨ B.rc d 1 ≠ 0 then none else match newC (B.read d 0) (B.read d 1) with
    | none => none
    | some C => (by classical exact if sealN C ≤ 2305843009213693952 ∧ fitsC l.length B.sectors C then some C else none) := by
    unfold gC; rw [if_neg (by omega)]; rfl
  by_cases hr0' : ¬ B.rc d 0 = 0
  · have hr0 : B.rc d 0 ≠ 0 := hr0'
    have z0 : (B.rc d 0 == 0) = false := by simpa using hr0
    simp only [c38, hzH, e1, e2, hd0, w1, hd1, e3, hH3, e4, hH5, z0, sf2, lf2, wz', sy, tup, ↓reduceIte, Nat.reduceEqDiff, Nat.reduceAdd, Nat.reduceSub, Nat.reduceMul, Nat.reduceLeDiff, Int.reduceBEq, reduceCtorEq]
    exact ⟨trivial, .inr trivial, _, rfl, tf2, .inl ⟨by rw [hgd, if_pos (.inl hr0)], rfl⟩⟩
  have hr0 : B.rc d 0 = 0 := Classical.byContradiction hr0'
  have z0 : (B.rc d 0 == 0) = true := by simpa using hr0
  by_cases hr1' : ¬ B.rc d 1 = 0
  · have hr1 : B.rc d 1 ≠ 0 := hr1'
    have z1 : (B.rc d 1 == 0) = false := by simpa using hr1
    simp only [c38, hzH, e1, e2, hd0, w1, hd1, e3, hH3, e4, hH5, z0, z1, sf2, lf2, wz', sy, tup, ↓reduceIte, Nat.reduceEqDiff, Nat.reduceAdd, Nat.reduceSub, Nat.reduceMul, Nat.reduceLeDiff, Int.reduceBEq, reduceCtorEq]
    exact ⟨trivial, .inr trivial, _, rfl, tf2, .inl ⟨by rw [hgd, if_pos (.inr hr1)], rfl⟩⟩
  have hr1 : B.rc d 1 = 0 := Classical.byContradiction hr1'
  have z1 : (B.rc d 1 == 0) = true := by simpa using hr1
  rw [if_neg (by simp [hr0, hr1])] at hgd
  obtain ⟨v6, H6, e6, t6, hv⟩ := rnew_ok H5 (hsm d 0) (hsm d 1) (lf := lf) (by omega) n
  rcases hv with ⟨hC, rfl⟩ | ⟨C, hC, rfl⟩
  · obtain ⟨K7, s7, _, t7, _⟩ := SRow.z.new H6
    obtain ⟨F3, sf3, lf3, tf3⟩ := sto ((t5.trans t6).trans t7) SRow.z
    rw [hzr] at sf3 lf3 s7
    rw [hzr] at e6 ⊢
    simp only [c38, hzH, e1, e2, hd0, w1, hd1, e3, hH3, e4, hH5, z0, z1, la, lb, e6, s7, sf3, lf3, wz', sy, tup, ↓reduceIte, Nat.reduceEqDiff, Nat.reduceAdd, Nat.reduceSub, Nat.reduceMul, Nat.reduceLeDiff, Int.reduceBEq, reduceCtorEq]
    exact ⟨trivial, .inr trivial, _, rfl, tf3, .inl ⟨by rw [hgd, hC], rfl⟩⟩
  · have hE := (newC_ok hC).1
    obtain ⟨_, hS⟩ := isSup_of hE
    have hmay := hS.2.1.2.2.2.1
    obtain ⟨K7, s7, g7, t7, n7⟩ := (SRow.s (gSt_len C) (fld C 0 8) (fld C 13 1) (fld C 8 1) (fld C 9 2) (fld C 11 2) (fld C 18 2) (((fld C 20 1 : Nat) : Int) == 1)).new H6
    obtain ⟨H7, hH7⟩ : ∃ K, H6.add (.rows false 23 [zrow]) = K := ⟨_, rfl⟩
    rw [hH7] at s7
    rw [hzr] at hH7
    have S7 : SupAt K7 (.run H6.next) (fld C 0 8) (fld C 13 1) (fld C 8 1) (fld C 9 2) (fld C 11 2) (gSt C) (fld C 18 2) (((fld C 20 1 : Nat) : Int) == 1) := ⟨g7, gSt_len C⟩
    have lS := sup_all S7
    have wS := s_width (gSt_len C) (fld C 0 8) (fld C 13 1) (fld C 8 1) (fld C 9 2) (fld C 11 2) (fld C 18 2) (((fld C 20 1 : Nat) : Int) == 1)
    have hgd : gC B l.length d = (by classical exact if sealN C ≤ 2305843009213693952 ∧ fitsC l.length B.sectors C then some C else none) := by rw [hgd, hC]
    rw [gSup_row] at e6
    have T7 := t1.trans ((t5.trans t6).trans t7)
    obtain ⟨v8, H8, e8, t8, z, rfl, hz⟩ := rfits_ok K7 (b := b) (ev := sealN C) (id := fld C 0 8) (me := fld C 13 1) (m := fld C 8 1) (s := fld C 9 2) (r := fld C 11 2) (c := fld C 18 2) (g := ((fld C 20 1 : Nat) : Int) == 1) (gSt_len C) hmay (N := l.length) (sec := B.sectors) lf (n + 3) (by omega)
      (fun H' t => disk.rdevices (h.turns (T7.trans t)) lf (n + 5)) (fun H' dd t => disk.rsectors (h.turns (T7.trans t)) dd lf (n + 4))
    change callS Tryz.prog S0 lf (n + 7) 112 _ _ = _ at e8
    unfold sup at e8
    have hzz : z = true ↔ sealN C ≤ 2305843009213693952 ∧ fitsC l.length B.sectors C := hz
    cases z with
    | false =>
      obtain ⟨F3, sf3, lf3, tf3⟩ := sto (((t5.trans t6).trans t7).trans t8) SRow.z
      rw [hzr] at sf3 lf3
      simp only [c38, hzH, e1, e2, hd0, w1, hd1, e3, hH3, e4, hH5, z0, z1, la, lb, e6, hH7, s7, wS, lS, e8, sf3, lf3, wz', sy, tup, ↓reduceIte, Nat.reduceEqDiff, Nat.reduceAdd, Nat.reduceSub, Nat.reduceMul, Nat.reduceLeDiff, Int.reduceBEq, reduceCtorEq]
      exact ⟨trivial, .inr trivial, _, rfl, tf3, .inl ⟨by rw [hgd, if_neg (fun hh => by have := hzz.2 hh; cases this)], by rw [hzr]⟩⟩
    | true =>
      have S8 : SupAt H8 (.run H6.next) (fld C 0 8) (fld C 13 1) (fld C 8 1) (fld C 9 2) (fld C 11 2) (gSt C) (fld C 18 2) (((fld C 20 1 : Nat) : Int) == 1) := ⟨(t8.same (.run H6.next) (by show _ < _; omega) id).trans g7, gSt_len C⟩
      have ls := sup_all S8
      obtain ⟨F3, sf3, lf3, tf3⟩ := sto (((t5.trans t6).trans t7).trans t8) (SRow.s (gSt_len C) (fld C 0 8) (fld C 13 1) (fld C 8 1) (fld C 9 2) (fld C 11 2) (fld C 18 2) (((fld C 20 1 : Nat) : Int) == 1))
      simp only [c38, hzH, e1, e2, hd0, w1, hd1, e3, hH3, e4, hH5, z0, z1, la, lb, e6, hH7, s7, wS, lS, e8, ls, sf3, lf3, sy, tup, ↓reduceIte, Nat.reduceEqDiff, Nat.reduceAdd, Nat.reduceSub, Nat.reduceMul, Nat.reduceLeDiff, Int.reduceBEq, reduceCtorEq]
      rw [endD_ok (by kernel_rfl) (by kernel_rfl)]
      simp only [ls, sf3, lf3, wS, sy, tup, ↓reduceIte, Nat.reduceEqDiff, Nat.reduceAdd, Nat.reduceSub, Nat.reduceMul, Nat.reduceLeDiff, Int.reduceBEq, reduceCtorEq]
      exact ⟨trivial, .inr trivial, _, rfl, tf3, .inr ⟨C, by rw [hgd, if_pos (hzz.1 rfl)], rfl⟩⟩
theorem gsuper_dark {H : Heap} {b ds : Bk} {so : Nat} {l : List disk.Dv} {B : disk.Bn} (h : disk.BRep H b ds so l B) (hl : l ≠ []) (hdk : B.dk = true) (d : Int) (lf n : Nat) :
    ret (callS Tryz.prog S0 lf (n + 8) 37 [.ptr (some ⟨b, 0⟩), .int .i64 d] H) fun v H' => Turns Z H H' ∧ v = .tuple [.int .u64 0, .agg zrow, .int .i64 8] := by
  have hzr : zrow = [.int .u64 0, .int .i64 0, .int .i64 0, .int .i64 0, .int .i64 0, .int .u8 0, .int .u8 0, .int .u8 0, .int .u8 0, .int .u8 0, .int .u8 0, .int .u8 0, .int .u8 0, .int .u8 0, .int .u8 0, .int .u8 0, .int .u8 0, .int .u8 0, .int .u8 0, .int .u8 0, .int .u8 0, .int .i64 0, .bool false] := rfl
  have t1 := Turns.add Z H (.rows false 23 [zrow])
  have hg1 : (H.add (.rows false 23 [zrow])).get (.run H.next) = some (.rows false 23 [zrow]) := by rw [Heap.get_add, if_pos rfl]
  obtain ⟨H1, hH1⟩ : ∃ K, H.add (.rows false 23 [zrow]) = K := ⟨_, rfl⟩
  rw [hH1] at t1 hg1
  have e1 : callS Tryz.prog S0 lf (n + 7) 106 [.ptr (some ⟨b, 0⟩)] H1 = _ := bench_devs (h.turns t1) hl lf (n + 5)
  have e2 : callS Tryz.prog S0 lf (n + 7) 107 [.ptr (some ⟨b, 0⟩)] H1 = some (.v (.bool true), H1) := by rw [← hdk]; exact disk.bdark (h.turns t1).at' hl lf (n + 5)
  have b0 : ((l.length : Int) == 0) = false := by simp; exact hl
  have sf : storeAt H1 ⟨.run H.next, 0⟩ zrow = some (H1.set (.run H.next) (.rows false 23 [zrow])) := storeAt_eq hg1 (r := zrow) (r' := zrow) rfl put_z
  have lf' : loadAt (H1.set (.run H.next) (.rows false 23 [zrow])) ⟨.run H.next, 0⟩ 23 = some zrow := SRow.z.load (by rw [Heap.get_set, if_pos rfl])
  have tf : Turns Z H (H1.set (.run H.next) (.rows false 23 [zrow])) := t1.setnew (Nat.le_refl _) _
  obtain ⟨F, hF⟩ : ∃ K, H1.set (.run H.next) (.rows false 23 [zrow]) = K := ⟨_, rfl⟩
  rw [hF] at sf lf' tf
  have wz := SRow.z.width
  rw [hzr] at hH1 sf lf' wz ⊢
  refine ret_call rfl c37_eq ?_
  simp only [c37, hH1, e1, e2, b0, sf, lf', wz, sy, tup, ↓reduceIte, Nat.reduceEqDiff, Nat.reduceAdd, Nat.reduceSub, Nat.reduceMul, Nat.reduceLeDiff, Int.reduceBEq, reduceCtorEq]
  exact ⟨trivial, .inr trivial, _, rfl, tf, rfl⟩
theorem rsuper_dark {H : Heap} {b ds : Bk} {so : Nat} {l : List disk.Dv} {B : disk.Bn} (h : disk.Rep true H b ds so l B) (hdk : B.dk = true) (d : Int) (lf n : Nat) :
    ret (callS Tryz.prog S0 lf (n + 8) 38 [.ptr (some ⟨b, 0⟩), .int .i64 d] H) fun v H' => Turns Z H H' ∧ v = .tuple [.int .u64 0, .agg zrow, .int .i64 8] := by
  have hzr : zrow = [.int .u64 0, .int .i64 0, .int .i64 0, .int .i64 0, .int .i64 0, .int .u8 0, .int .u8 0, .int .u8 0, .int .u8 0, .int .u8 0, .int .u8 0, .int .u8 0, .int .u8 0, .int .u8 0, .int .u8 0, .int .u8 0, .int .u8 0, .int .u8 0, .int .u8 0, .int .u8 0, .int .u8 0, .int .i64 0, .bool false] := rfl
  have t1 := Turns.add Z H (.rows false 23 [zrow])
  have hg1 : (H.add (.rows false 23 [zrow])).get (.run H.next) = some (.rows false 23 [zrow]) := by rw [Heap.get_add, if_pos rfl]
  obtain ⟨H1, hH1⟩ : ∃ K, H.add (.rows false 23 [zrow]) = K := ⟨_, rfl⟩
  rw [hH1] at t1 hg1
  have e2 : callS Tryz.prog S0 lf (n + 7) 110 [.ptr (some ⟨b, 0⟩)] H1 = some (.v (.bool true), H1) := by rw [← hdk]; exact disk.rdark (h.turns t1) lf (n + 6)
  have sf : storeAt H1 ⟨.run H.next, 0⟩ zrow = some (H1.set (.run H.next) (.rows false 23 [zrow])) := storeAt_eq hg1 (r := zrow) (r' := zrow) rfl put_z
  have lf' : loadAt (H1.set (.run H.next) (.rows false 23 [zrow])) ⟨.run H.next, 0⟩ 23 = some zrow := SRow.z.load (by rw [Heap.get_set, if_pos rfl])
  have tf : Turns Z H (H1.set (.run H.next) (.rows false 23 [zrow])) := t1.setnew (Nat.le_refl _) _
  obtain ⟨F, hF⟩ : ∃ K, H1.set (.run H.next) (.rows false 23 [zrow]) = K := ⟨_, rfl⟩
  rw [hF] at sf lf' tf
  have wz := SRow.z.width
  rw [hzr] at hH1 sf lf' wz ⊢
  refine ret_call rfl c38_eq ?_
  simp only [c38, hH1, e2, sf, lf', wz, sy, tup, ↓reduceIte, Nat.reduceEqDiff, Nat.reduceAdd, Nat.reduceSub, Nat.reduceMul, Nat.reduceLeDiff, Int.reduceBEq, reduceCtorEq]
  exact ⟨trivial, .inr trivial, _, rfl, tf, rfl⟩
end Go.Proofs.YtejgheoandfikaaGreat.draft
set_option linter.unusedVariables false
set_option linter.unusedSimpArgs false
set_option maxRecDepth 10000
namespace Go.Proofs.YtejgheoandfikaaGreat.draft
open Go.Am
noncomputable def c114 : CFn := ⟨[.cell (pp 4) 21 .ag, .tmp (pp 5)],
 .seq (.reg [
 qo 2 (.m (boxF 21 (tt 0))) [pp 0],
 qo 4 (.m (allocF 21 [.int .i64 0, .int .i64 0, .int .i64 0, .int .u8 0, .int .u8 0, .int .u8 0, .int .u8 0, .int .u8 0, .int .u8 0, .int .u8 0, .int .u8 0, .int .u8 0, .int .u8 0, .int .u8 0, .int .u8 0, .int .u8 0, .int .u8 0, .int .u8 0, .int .u8 0, .int .i64 0, .bool false])) [],
 qo 5 (.p (S.get (.c (.bool false)))) []]) (
 .seq (.seq (.reg [
 qo 6 (.r (loadF (tt 2) 21 .ag)) [pp 2],
 qo 7 (.c (callF (ff 138) [(tt 6)])) [pp 6],
 qo 8 (.p (unF .not (tt 7))) [pp 7],
 mv 9 8,
 qg 10 (.r (loadF (tt 2) 21 .ag)) 9 false [pp 2],
 mg 11 1 9 false,
 qg 12 (.c (callF (ff 168) [(tt 10), (tt 11)])) 9 false [pp 10, pp 11],
 qg 13 (.p (unF .not (tt 12))) 9 false [pp 12],
 qo 14 (.p (pickF (tt 9) (.c (.bool true)) (tt 13))) [pp 9, pp 13],
 mv 15 14,
 mg 16 1 15 false,
 qg 17 (.p (faddrF (tt 2) 3)) 15 false [pp 2],
 qg 18 (.p (iaddrAF (tt 17) (tt 16) 16 1)) 15 false [pp 17, pp 16],
 qg 19 (.r (loadF (tt 18) 1 .sc)) 15 false [pp 18],
 qg 20 (.p (eqcF false false [.int .u8] (tt 19) (.c (.int .u8 1)))) 15 false [pp 19],
 qo 21 (.p (pickF (tt 15) (.c (.bool true)) (tt 20))) [pp 15, pp 20]]) (
 .cond (tt 21) (.seq (.reg [
 qo 22 (.r (loadF (tt 2) 21 .ag)) [pp 2],
 qn (.a (storeF (tt 4) (tt 22) 21)) [pp 4, pp 22],
 qo 5 (.p (S.get (.c (.bool false)))) []]) (
 .ret)) (.skip))) (
 .seq (.seq (.reg [
 mv 23 1,
 qo 24 (.p (faddrF (tt 2) 3)) [pp 2],
 qo 25 (.p (iaddrAF (tt 24) (tt 23) 16 1)) [pp 24, pp 23],
 qo 26 (.r (loadF (tt 25) 1 .sc)) [pp 25],
 qo 27 (.p (eqcF false false [.int .u8] (tt 26) (.c (.int .u8 2)))) [pp 26]]) (
 .cond (tt 27) (.reg [
 qo 28 (.p (faddrF (tt 2) 19)) [pp 2],
 qn (.a (storeF (tt 28) (ii 0) 1)) [pp 28]]) (.skip))) (
 .seq (.reg [
 mv 29 1,
 qo 30 (.p (faddrF (tt 2) 3)) [pp 2],
 qo 31 (.p (iaddrAF (tt 30) (tt 29) 16 1)) [pp 30, pp 29],
 qn (.a (storeF (tt 31) (.c (.int .u8 1)) 1)) [pp 31]]) (
 .seq (.reg [
 qo 32 (.r (loadF (tt 2) 21 .ag)) [pp 2],
 qn (.a (storeF (tt 4) (tt 32) 21)) [pp 4, pp 32],
 qo 5 (.p (S.get (.c (.bool true)))) []]) (
 .ret)))))⟩
theorem c114_eq : fnOf Tryz.prog 114 = some c114 := by kernel_rfl
noncomputable def c168 : CFn := ⟨[.tmp (pp 4)],
 .seq (.reg [
 qo 2 (.m (boxF 21 (tt 0))) [pp 0],
 qo 4 (.p (S.get (.c (.bool false)))) []]) (
 .seq (.reg [
 mv 5 1,
 qo 6 (.p (arF .geq (tt 5) (ii 0))) [pp 5],
 mv 7 6,
 mg 8 1 7 true,
 qg 9 (.p (faddrF (tt 2) 0)) 7 true [pp 2],
 qg 10 (.p (faddrF (tt 9) 0)) 7 true [pp 9],
 qg 11 (.r (loadF (tt 10) 1 .sc)) 7 true [pp 10],
 qg 12 (.p (arF .lss (tt 8) (tt 11))) 7 true [pp 8, pp 11],
 qo 13 (.p (pickF (tt 7) (tt 12) (.c (.bool false)))) [pp 7, pp 12],
 mv 4 13]) (
 .ret))⟩
theorem c168_eq : fnOf Tryz.prog 168 = some c168 := by kernel_rfl
theorem rmember_ok (H : Heap) {m s r c : Int} {g : Bool} {S : List Nat} (hS : S.length = 16) {i : Nat} (hi : (i : Int) < m) (lf n : Nat) : ret (callS Tryz.prog S0 lf (n + 1) 168 [ros m s r S c g, .int .i64 (i : Int)] H) fun v H' => v = .bool true ∧ Turns Z H H' := by
  have t1 := Turns.add Z H (.rows false 21 [rcells m s r S c g])
  have hg : (H.add (.rows false 21 [rcells m s r S c g])).get (.run H.next) = some (.rows false 21 [rcells m s r S c g]) := by rw [Heap.get_add, if_pos rfl]
  have hr : RosAt (H.add (.rows false 21 [rcells m s r S c g])) (.run H.next) m s r S c g := ⟨hg, hS⟩
  have hw := r_width hS m s r c g
  have lm := ros_m hr
  generalize hH1 : H.add (.rows false 21 [rcells m s r S c g]) = H1 at *
  have h0 : (0 : Int) ≤ (i : Int) := by omega
  refine ret_call rfl c168_eq ?_
  simp only [c168, ros, hw, hH1, lm, h0, hi, sy, tup, ↓reduceIte, Nat.reduceEqDiff, Nat.reduceAdd, Nat.reduceSub, Nat.reduceMul, Nat.reduceLeDiff, Int.reduceBEq, reduceCtorEq]
  exact ⟨trivial, .inr trivial, _, rfl, rfl, t1⟩
theorem rlose_ok (H : Heap) {m s r c : Int} {g : Bool} {S : List Nat} (hS : S.length = 16) (hf : fine m s r S c) {i : Nat} (hi : (i : Int) < m) (lf n : Nat) (hlf : 17 < lf) : ret (callS Tryz.prog S0 lf (n + 5) 114 [ros m s r S c g, .int .i64 (i : Int)] H) fun v H' => (∃ z : Bool, v = .tuple [ros m s r (S.set i 1) (loseC S c i) g, .bool z]) ∧ Turns Z H H' := by
  obtain ⟨bm, bs, br⟩ := may_t hf.1
  have hi16 : i < 16 := by omega
  have hiS : i < S.length := by omega
  have t1 := Turns.add Z H (.rows false 21 [rcells m s r S c g])
  have t2 := t1.addm (.rows false 21 [zro])
  have hg1 : (H.add (.rows false 21 [rcells m s r S c g])).get (.run H.next) = some (.rows false 21 [rcells m s r S c g]) := by rw [Heap.get_add, if_pos rfl]
  have hg2 : ((H.add (.rows false 21 [rcells m s r S c g])).add (.rows false 21 [zro])).get (.run H.next) = some (.rows false 21 [rcells m s r S c g]) := by
    rw [Heap.get_add, if_neg (run_ne (by simp)), hg1]
  have hg3 : ((H.add (.rows false 21 [rcells m s r S c g])).add (.rows false 21 [zro])).get (.run (H.next + 1)) = some (.rows false 21 [zro]) := by
    rw [Heap.get_add, if_pos (by simp)]
  have hn : ((H.add (.rows false 21 [rcells m s r S c g])).add (.rows false 21 [zro])).next = H.next + 2 := by simp
  have hw := r_width hS m s r c g
  generalize hH2 : (H.add (.rows false 21 [rcells m s r S c g])).add (.rows false 21 [zro]) = H2 at *
  have la := ros_all (H := H2) ⟨hg2, hS⟩
  obtain ⟨v9, H9, e9, ⟨zm, rfl, hzm⟩, t9⟩ := rosmay_ok H2 (m := m) (s := s) (r := r) (c := c) (g := g) hS lf (n + 1) hlf
  have hzm := hzm.2 hf
  subst hzm
  unfold ros at e9
  have la9 := ros_all (H := H9) ⟨(t9.same (.run H.next) (by show _ < _; omega) id).trans hg2, hS⟩
  obtain ⟨v3, H3, e3, rfl, t39⟩ := rmember_ok H9 (m := m) (s := s) (r := r) (c := c) (g := g) hS hi lf (n + 3)
  have t3 := t9.trans t39
  unfold ros at e3
  have R3 : RosAt H3 (.run H.next) m s r S c g := ⟨(t3.same (.run H.next) (by show _ < _; omega) id).trans hg2, hS⟩
  have hg33 : H3.get (.run (H.next + 1)) = some (.rows false 21 [zro]) := (t3.same (.run (H.next + 1)) (by show _ < _; omega) id).trans hg3
  have ls := ros_st R3 hi16
  have hget : S.getD i 0 = S[i] := by simp [List.getD, hiS]
  have hle : i + 1 ≤ 16 := hi16
  have hT3 : Turns Z H H3 := t2.trans t3
  have hzro : zro = [.int .i64 0, .int .i64 0, .int .i64 0, .int .u8 0, .int .u8 0, .int .u8 0, .int .u8 0, .int .u8 0, .int .u8 0, .int .u8 0, .int .u8 0, .int .u8 0, .int .u8 0, .int .u8 0, .int .u8 0, .int .u8 0, .int .u8 0, .int .u8 0, .int .u8 0, .int .i64 0, .bool false] := rfl
  rw [hzro] at hH2
  rw [Nat.mul_one] at ls
  have stS : ∀ {K : Heap} {c' : Int}, K.get (.run H.next) = some (.rows false 21 [rcells m s r S c' g]) → storeAt K ⟨.run H.next, 3 + i⟩ [.int .u8 1] = some (K.set (.run H.next) (.rows false 21 [rcells m s r (S.set i 1) c' g])) := fun {K c'} h => by
    have := storeAt_eq h (o := 3 + i) (vs := [.int .u8 1]) (r := rcells m s r S c' g) (r' := rcells m s r (S.set i 1) c' g) (by rw [Nat.div_eq_of_lt (by omega)]; rfl) (by rw [Nat.mod_eq_of_lt (by omega), put_one (r_thin m s r S c' g) (by rw [r_len hS]; omega) rfl]; exact congrArg some (rset_s hS m s r c' g hi16 1))
    rw [Nat.div_eq_of_lt (by omega)] at this
    exact this
  have fin : ∀ {K : Heap} {c' : Int}, K.get (.run H.next) = some (.rows false 21 [rcells m s r S c' g]) → K.get (.run (H.next + 1)) = some (.rows false 21 [zro]) → Turns Z H K → ∃ F, loadAt (K.set (.run H.next) (.rows false 21 [rcells m s r (S.set i 1) c' g])) ⟨.run H.next, 0⟩ 21 = some (rcells m s r (S.set i 1) c' g) ∧ storeAt (K.set (.run H.next) (.rows false 21 [rcells m s r (S.set i 1) c' g])) ⟨.run (H.next + 1), 0⟩ (rcells m s r (S.set i 1) c' g) = some F ∧ loadAt F ⟨.run (H.next + 1), 0⟩ 21 = some (rcells m s r (S.set i 1) c' g) ∧ Turns Z H F := fun {K c'} h1 h2 hT => by
    have hS' : (S.set i 1).length = 16 := by simp [hS]
    have ha : (K.set (.run H.next) (.rows false 21 [rcells m s r (S.set i 1) c' g])).get (.run (H.next + 1)) = some (.rows false 21 [zro]) := by rw [Heap.get_set, if_neg (run_ne (by omega))]; exact h2
    refine ⟨_, ros_all ⟨by rw [Heap.get_set, if_pos rfl], hS'⟩, storeAt_eq ha (r := zro) (r' := rcells m s r (S.set i 1) c' g) rfl (put_zro hS' _ _ _ _ _), ros_all ⟨by rw [Heap.get_set, if_pos rfl]; rfl, hS'⟩, (hT.setnew (Nat.le_refl _) _).setnew (by omega) _⟩
  refine ret_call rfl c114_eq ?_
  by_cases h1 : S[i] = 1
  · have b1 : (((S[i] : Nat) : Int) == 1) = true := by simp [h1]
    have hc' : loseC S c i = c := by unfold loseC; rw [hget, if_neg (by omega)]
    have hSS : S.set i 1 = S := by
      apply List.ext_getElem?
      intro j
      by_cases e : j = i
      · subst e
        rw [List.getElem?_set_self hiS, List.getElem?_eq_getElem hiS, h1]
      · rw [List.getElem?_set_ne (Ne.symm e)]
    rw [hc', hSS]
    have la3 := ros_all R3
    have sF := storeAt_eq hg33 (o := 0) (r := zro) (r' := rcells m s r S c g) (vs := rcells m s r S c g) rfl (put_zro hS _ _ _ _ _)
    have lF : loadAt (H3.set (.run (H.next + 1)) (.rows false 21 [rcells m s r S c g])) ⟨.run (H.next + 1), 0⟩ 21 = some (rcells m s r S c g) := ros_all ⟨by rw [Heap.get_set, if_pos rfl], hS⟩
    have tF : Turns Z H (H3.set (.run (H.next + 1)) (.rows false 21 [rcells m s r S c g])) := hT3.setnew (by omega) _
    have sF' : storeAt H3 ⟨.run (H.next + 1), 0⟩ (rcells m s r S c g) = some (H3.set (.run (H.next + 1)) (.rows false 21 [rcells m s r S c g])) := sF
    simp only [c114, ros, hw, hH2, la, e9, la9, e3, iaddrAF, hle, ls, b1, la3, sF', lF, Nat.mul_one, sy, tup, ↓reduceIte, Nat.reduceEqDiff, Nat.reduceAdd, Nat.reduceSub, Nat.reduceMul, Nat.reduceLeDiff, Int.reduceBEq, reduceCtorEq]
    exact ⟨trivial, .inr trivial, _, rfl, ⟨_, rfl⟩, tF⟩
  have b1 : (((S[i] : Nat) : Int) == 1) = false := by simp; omega
  by_cases h2 : S[i] = 2
  · have b2 : (((S[i] : Nat) : Int) == 2) = true := by simp [h2]
    have hc' : loseC S c i = 0 := by unfold loseC; rw [hget, if_pos h2]
    rw [hc']
    have st0 : storeAt H3 ⟨.run H.next, 19⟩ [.int .i64 0] = some (H3.set (.run H.next) (.rows false 21 [rcells m s r S 0 g])) := by
      have := storeAt_eq R3.own (o := 19) (vs := [.int .i64 0]) (r := rcells m s r S c g) (r' := rcells m s r S 0 g) rfl (by rw [put_one (r_thin m s r S c g) (by rw [r_len hS]; omega) rfl, rset_c hS])
      exact this
    have gK : (H3.set (.run H.next) (.rows false 21 [rcells m s r S 0 g])).get (.run H.next) = some (.rows false 21 [rcells m s r S 0 g]) := by rw [Heap.get_set, if_pos rfl]
    have st1 := stS gK
    obtain ⟨F, l1, s2, l2, tF⟩ := fin gK (by rw [Heap.get_set, if_neg (run_ne (by omega))]; exact hg33) (hT3.setnew (Nat.le_refl _) _)
    have hw' := r_width (S := S.set i 1) (by simp [hS]) m s r 0 g
    simp only [c114, ros, hw, hH2, la, e9, la9, e3, iaddrAF, hle, ls, b1, b2, st0, st1, l1, s2, l2, hw', Nat.mul_one, sy, tup, ↓reduceIte, Nat.reduceEqDiff, Nat.reduceAdd, Nat.reduceSub, Nat.reduceMul, Nat.reduceLeDiff, Int.reduceBEq, reduceCtorEq]
    exact ⟨trivial, .inr trivial, _, rfl, ⟨_, rfl⟩, tF⟩
  · have b2 : (((S[i] : Nat) : Int) == 2) = false := by simp; omega
    have hc' : loseC S c i = c := by unfold loseC; rw [hget, if_neg h2]
    rw [hc']
    have st1 := stS R3.own
    obtain ⟨F, l1, s2, l2, tF⟩ := fin R3.own hg33 hT3
    have hw' := r_width (S := S.set i 1) (by simp [hS]) m s r c g
    simp only [c114, ros, hw, hH2, la, e9, la9, e3, iaddrAF, hle, ls, b1, b2, st1, l1, s2, l2, hw', Nat.mul_one, sy, tup, ↓reduceIte, Nat.reduceEqDiff, Nat.reduceAdd, Nat.reduceSub, Nat.reduceMul, Nat.reduceLeDiff, Int.reduceBEq, reduceCtorEq]
    exact ⟨trivial, .inr trivial, _, rfl, ⟨_, rfl⟩, tF⟩
end Go.Proofs.YtejgheoandfikaaGreat.draft
set_option linter.unusedVariables false
set_option linter.unusedSimpArgs false
set_option maxRecDepth 10000
namespace Go.Proofs.YtejgheoandfikaaGreat.draft
open Go.Am
noncomputable def c40_l0 : C := .seq (.seq (.reg [
 mv 52 10,
 qo 53 (.p (faddrF (tt 4) 2)) [pp 4],
 qo 54 (.p (faddrF (tt 53) 0)) [pp 53],
 qo 55 (.p (faddrF (tt 54) 0)) [pp 54],
 qo 56 (.r (loadF (tt 55) 1 .sc)) [pp 55],
 qo 57 (.p (arF .lss (tt 52) (tt 56))) [pp 52, pp 56]]) (
 .cond (tt 57) (.skip) (.exit 2))) (
 .seq (.block 3 (.seq (.reg [
 mv 61 0,
 mv 62 10,
 qo 63 (.c (callF (ff 38) [(tt 61), (tt 62)])) [pp 61, pp 62],
 mv 60 63,
 qo 64 (.p (extF (tt 60) 0)) [pp 60],
 qo 65 (.p (extF (tt 60) 1)) [pp 60],
 qo 66 (.p (extF (tt 60) 2)) [pp 60],
 qo 12 (.m (allocF 23 [.int .u64 0, .int .i64 0, .int .i64 0, .int .i64 0, .int .i64 0, .int .u8 0, .int .u8 0, .int .u8 0, .int .u8 0, .int .u8 0, .int .u8 0, .int .u8 0, .int .u8 0, .int .u8 0, .int .u8 0, .int .u8 0, .int .u8 0, .int .u8 0, .int .u8 0, .int .u8 0, .int .u8 0, .int .i64 0, .bool false])) [],
 mv 11 64,
 qn (.a (storeF (tt 12) (tt 65) 23)) [pp 12, pp 65],
 mv 13 66]) (
 .seq (.reg [
 mv 67 13,
 qo 68 (.p (eqcF true false [.int .i64] (tt 67) (ii 0))) [pp 67],
 mv 69 68,
 qg 70 (.p (faddrF (tt 12) 1)) 69 false [pp 12],
 qg 71 (.r (loadF (tt 70) 1 .sc)) 69 false [pp 70],
 mg 72 10 69 false,
 qg 73 (.p (eqcF true false [.int .i64] (tt 71) (tt 72))) 69 false [pp 71, pp 72],
 qo 74 (.p (pickF (tt 69) (.c (.bool true)) (tt 73))) [pp 69, pp 73],
 mv 75 74,
 qg 76 (.p (faddrF (tt 12) 0)) 75 false [pp 12],
 qg 77 (.r (loadF (tt 76) 1 .sc)) 75 false [pp 76],
 qg 78 (.p (faddrF (tt 4) 1)) 75 false [pp 4],
 qg 79 (.r (loadF (tt 78) 1 .sc)) 75 false [pp 78],
 qg 80 (.p (eqcF true false [.int .u64] (tt 77) (tt 79))) 75 false [pp 77, pp 79],
 qo 81 (.p (pickF (tt 75) (.c (.bool true)) (tt 80))) [pp 75, pp 80],
 mv 82 81,
 qg 83 (.p (faddrF (tt 12) 2)) 82 false [pp 12],
 qg 84 (.p (faddrF (tt 83) 0)) 82 false [pp 83],
 qg 85 (.r (loadF (tt 84) 3 .ag)) 82 false [pp 84],
 qg 86 (.p (faddrF (tt 4) 2)) 82 false [pp 4],
 qg 87 (.p (faddrF (tt 86) 0)) 82 false [pp 86],
 qg 88 (.r (loadF (tt 87) 3 .ag)) 82 false [pp 87],
 qg 89 (.p (eqcF true true [.int .i64, .int .i64, .int .i64] (tt 85) (tt 88))) 82 false [pp 85, pp 88],
 qo 90 (.p (pickF (tt 82) (.c (.bool true)) (tt 89))) [pp 82, pp 89]]) (
 .cond (tt 90) (.reg [
 qo 92 (.p (faddrF (tt 4) 2)) [pp 4],
 qo 93 (.r (loadF (tt 92) 21 .ag)) [pp 92],
 mv 94 10,
 qo 95 (.c (callF (ff 114) [(tt 93), (tt 94)])) [pp 93, pp 94],
 mv 91 95,
 qo 96 (.p (extF (tt 91) 0)) [pp 91],
 qo 97 (.p (extF (tt 91) 1)) [pp 91],
 qo 98 (.p (faddrF (tt 4) 2)) [pp 4],
 qn (.a (storeF (tt 98) (tt 96) 21)) [pp 98, pp 96]]) (.skip))))) (
 .reg [
 mv 58 10,
 qo 59 (.p (arF .add (tt 58) (ii 1))) [pp 58],
 mv 10 59]))
noncomputable def c40_l1 : C := .seq (.seq (.reg [
 mv 17 6,
 mv 18 0,
 qo 19 (.c (callF (ff 36) [(tt 18)])) [pp 18],
 qo 20 (.p (arF .sub (tt 19) (ii 1))) [pp 19],
 qo 21 (.p (arF .lss (tt 17) (tt 20))) [pp 17, pp 20]]) (
 .cond (tt 21) (.skip) (.exit 0))) (
 .seq (.block 1 (.seq (.reg [
 mv 25 0,
 mv 26 6,
 qo 27 (.c (callF (ff 38) [(tt 25), (tt 26)])) [pp 25, pp 26],
 mv 24 27,
 qo 28 (.p (extF (tt 24) 0)) [pp 24],
 qo 29 (.p (extF (tt 24) 1)) [pp 24],
 qo 30 (.p (extF (tt 24) 2)) [pp 24],
 qo 8 (.m (allocF 23 [.int .u64 0, .int .i64 0, .int .i64 0, .int .i64 0, .int .i64 0, .int .u8 0, .int .u8 0, .int .u8 0, .int .u8 0, .int .u8 0, .int .u8 0, .int .u8 0, .int .u8 0, .int .u8 0, .int .u8 0, .int .u8 0, .int .u8 0, .int .u8 0, .int .u8 0, .int .u8 0, .int .u8 0, .int .i64 0, .bool false])) [],
 mv 7 28,
 qn (.a (storeF (tt 8) (tt 29) 23)) [pp 8, pp 29],
 mv 9 30]) (
 .seq (.reg [
 mv 31 9,
 qo 32 (.p (eqcF false false [.int .i64] (tt 31) (ii 0))) [pp 31],
 mv 33 32,
 mg 34 5 33 true,
 qg 35 (.p (unF .not (tt 34))) 33 true [pp 34],
 mg 36 35 33 true,
 mg 37 7 36 false,
 qg 38 (.p (faddrF (tt 4) 0)) 36 false [pp 4],
 qg 39 (.r (loadF (tt 38) 1 .sc)) 36 false [pp 38],
 qg 40 (.p (arF .gtr (tt 37) (tt 39))) 36 false [pp 37, pp 39],
 qg 41 (.p (pickF (tt 36) (.c (.bool true)) (tt 40))) 33 true [pp 36, pp 40],
 qo 42 (.p (pickF (tt 33) (tt 41) (.c (.bool false)))) [pp 33, pp 41]]) (
 .cond (tt 42) (.seq (.reg [
 qo 5 (.p (S.get (.c (.bool true)))) []]) (
 .reg [
 mv 43 7,
 qo 44 (.p (faddrF (tt 8) 0)) [pp 8],
 qo 45 (.r (loadF (tt 44) 1 .sc)) [pp 44],
 qo 46 (.p (faddrF (tt 8) 2)) [pp 8],
 qo 47 (.r (loadF (tt 46) 21 .ag)) [pp 46],
 qo 48 (.p (buildF [.int .u64 0, .int .u64 0, .int .i64 0, .int .i64 0, .int .i64 0, .int .u8 0, .int .u8 0, .int .u8 0, .int .u8 0, .int .u8 0, .int .u8 0, .int .u8 0, .int .u8 0, .int .u8 0, .int .u8 0, .int .u8 0, .int .u8 0, .int .u8 0, .int .u8 0, .int .u8 0, .int .u8 0, .int .i64 0, .bool false] .ag [(0, 1, (tt 43)), (1, 1, (tt 45)), (2, 21, (tt 47))])) [pp 43, pp 45, pp 47],
 qn (.a (storeF (tt 4) (tt 48) 23)) [pp 4, pp 48]])) (.skip))))) (
 .reg [
 mv 22 6,
 qo 23 (.p (arF .add (tt 22) (ii 1))) [pp 22],
 mv 6 23]))
noncomputable def c40 : CFn := ⟨[.cell (pp 2) 23 .ag, .tmp (pp 3)],
 .seq (.reg [
 qo 2 (.m (allocF 23 [.int .u64 0, .int .u64 0, .int .i64 0, .int .i64 0, .int .i64 0, .int .u8 0, .int .u8 0, .int .u8 0, .int .u8 0, .int .u8 0, .int .u8 0, .int .u8 0, .int .u8 0, .int .u8 0, .int .u8 0, .int .u8 0, .int .u8 0, .int .u8 0, .int .u8 0, .int .u8 0, .int .u8 0, .int .i64 0, .bool false])) [],
 qo 3 (.p (S.get (ii 0))) []]) (
 .seq (.seq (.reg [
 mv 14 0,
 qo 15 (.c (callF (ff 110) [(tt 14)])) [pp 14]]) (
 .cond (tt 15) (.seq (.reg [
 qo 16 (.p (buildF [.int .u64 0, .int .u64 0, .int .i64 0, .int .i64 0, .int .i64 0, .int .u8 0, .int .u8 0, .int .u8 0, .int .u8 0, .int .u8 0, .int .u8 0, .int .u8 0, .int .u8 0, .int .u8 0, .int .u8 0, .int .u8 0, .int .u8 0, .int .u8 0, .int .u8 0, .int .u8 0, .int .u8 0, .int .i64 0, .bool false] .ag [])) [],
 qn (.a (storeF (tt 2) (tt 16) 23)) [pp 2, pp 16],
 qo 3 (.p (S.get (ii 8))) []]) (
 .ret)) (.skip))) (
 .seq (.reg [
 qo 4 (.m (allocF 23 [.int .u64 0, .int .u64 0, .int .i64 0, .int .i64 0, .int .i64 0, .int .u8 0, .int .u8 0, .int .u8 0, .int .u8 0, .int .u8 0, .int .u8 0, .int .u8 0, .int .u8 0, .int .u8 0, .int .u8 0, .int .u8 0, .int .u8 0, .int .u8 0, .int .u8 0, .int .u8 0, .int .u8 0, .int .i64 0, .bool false])) []]) (
 .seq (.reg [
 qo 5 (.p (S.get (.c (.bool false)))) []]) (
 .seq (.seq (.reg [
 qo 6 (.p (S.get (ii 0))) []]) (
 .block 0 (.loop c40_l1))) (
 .seq (.seq (.reg [
 mv 49 5,
 qo 50 (.p (unF .not (tt 49))) [pp 49]]) (
 .cond (tt 50) (.seq (.reg [
 qo 51 (.p (buildF [.int .u64 0, .int .u64 0, .int .i64 0, .int .i64 0, .int .i64 0, .int .u8 0, .int .u8 0, .int .u8 0, .int .u8 0, .int .u8 0, .int .u8 0, .int .u8 0, .int .u8 0, .int .u8 0, .int .u8 0, .int .u8 0, .int .u8 0, .int .u8 0, .int .u8 0, .int .u8 0, .int .u8 0, .int .i64 0, .bool false] .ag [])) [],
 qn (.a (storeF (tt 2) (tt 51) 23)) [pp 2, pp 51],
 qo 3 (.p (S.get (ii 7))) []]) (
 .ret)) (.skip))) (
 .seq (.seq (.reg [
 qo 10 (.p (S.get (ii 0))) []]) (
 .block 2 (.loop c40_l0))) (
 .seq (.reg [
 qo 99 (.r (loadF (tt 4) 23 .ag)) [pp 4],
 qn (.a (storeF (tt 2) (tt 99) 23)) [pp 2, pp 99],
 qo 3 (.p (S.get (ii 0))) []]) (
 .ret))))))))⟩
theorem c40_eq : fnOf Tryz.prog 40 = some c40 := by kernel_rfl
section
variable {H : Heap} {b ds : Bk} {so : Nat} {l : List disk.Dv} {B : disk.Bn}
theorem rlook1 (h : disk.Rep true H b ds so l B) (hl : l ≠ []) (hg : ∀ D ∈ B.l, disk.Good D) (hsm : ∀ d n, B.read d n < 256 ^ 64) (hdk : B.dk = false) (hlen : l.length ≤ 17) {lf : Nat} (hlf : 1000 < lf) (n : Nat) {b2 b4 : Nat} {HS : Heap} (hS : Turns Z H HS) (hb : H.next ≤ b4 ∧ b4 < HS.next) (g4 : HS.get (.run b4) = some (.rows false 23 [zf])) :
    ∀ t : T, t.getP (Tr.path 0) = some (.ptr (some ⟨b, 0⟩)) → t.getP (Tr.path 2) = some (.ptr (some ⟨.run b2, 0⟩)) → t.getP (Tr.path 4) = some (.ptr (some ⟨.run b4, 0⟩)) → t.getP (Tr.path 5) = some (.bool false) → t.getP (Tr.path 6) = some (.int .i64 0) →
      wp (loopF (runC (callS Tryz.prog S0 lf (n + 8)) lf c40_l1) lf ⟨t, HS, []⟩) fun x s => x = .ex 0 ∧ s.d = [] ∧ s.t.getP (Tr.path 0) = some (.ptr (some ⟨b, 0⟩)) ∧ s.t.getP (Tr.path 2) = some (.ptr (some ⟨.run b2, 0⟩)) ∧ s.t.getP (Tr.path 4) = some (.ptr (some ⟨.run b4, 0⟩)) ∧ s.t.getP (Tr.path 5) = some (.bool (bestC B l.length (l.length - 1)).isSome) ∧ Turns (fun c => c = .run b4) HS s.H ∧ s.H.get (.run b4) = some (.rows false 23 [fOf (bestC B l.length (l.length - 1))]) := by
  intro t q0 q2 q4 q5 q6
  have hN : 1 ≤ l.length := by cases l with
    | nil => exact absurd rfl hl
    | cons x xs => simp
  have hzr : zrow = [.int .u64 0, .int .i64 0, .int .i64 0, .int .i64 0, .int .i64 0, .int .u8 0, .int .u8 0, .int .u8 0, .int .u8 0, .int .u8 0, .int .u8 0, .int .u8 0, .int .u8 0, .int .u8 0, .int .u8 0, .int .u8 0, .int .u8 0, .int .u8 0, .int .u8 0, .int .u8 0, .int .u8 0, .int .i64 0, .bool false] := rfl
  have w0 : IntKind.i64.wrap ((l.length : Int) - 1) = (l.length : Int) - 1 := wrap_i64 (by omega)
  refine wp_loopF (fun k s => ∃ i : Nat, k = l.length - 1 - i ∧ i ≤ l.length - 1 ∧ s.d = [] ∧ s.t.getP (Tr.path 0) = some (.ptr (some ⟨b, 0⟩)) ∧ s.t.getP (Tr.path 2) = some (.ptr (some ⟨.run b2, 0⟩)) ∧ s.t.getP (Tr.path 4) = some (.ptr (some ⟨.run b4, 0⟩)) ∧ s.t.getP (Tr.path 5) = some (.bool (bestC B l.length i).isSome) ∧ s.t.getP (Tr.path 6) = some (.int .i64 (i : Int)) ∧ Turns (fun c => c = .run b4) HS s.H ∧ s.H.get (.run b4) = some (.rows false 23 [fOf (bestC B l.length i)])) ?_ lf (l.length - 1) _ ⟨0, rfl, by omega, rfl, q0, q2, q4, q5, q6, Turns.refl _ _, g4⟩ (by omega)
  rintro k ⟨t, HH, d⟩ ⟨i, rfl, hi, hd', q0, q2, q4, q5, q6, tz, gb⟩
  dsimp only at hd' q0 q2 q4 q5 q6 tz gb
  subst hd'
  have tH : Turns Z H HH := hS.later tz (fun c ho e => by subst e; exact absurd ho (Heap.not_old hb.1))
  have eD : callS Tryz.prog S0 lf (n + 8) 36 [.ptr (some ⟨b, 0⟩)] HH = _ := disk.rdevices (h.turns tH) lf (n + 7)
  by_cases hlt : i < l.length - 1
  · have hlt' : (i : Int) < (l.length : Int) - 1 := by omega
    have w1 : IntKind.i64.wrap ((i : Int) + 1) = ((i + 1 : Nat) : Int) := by rw [wrap_i64 (by omega)]; omega
    obtain ⟨v1, H3, e1, t3, hv⟩ := rsuper_ok (h.turns tH) hl hg hsm hdk hlen (i : Int) hlf n
    have o4 : b4 < HH.next := Nat.lt_of_lt_of_le hb.2 tz.next
    rcases hv with ⟨hC, rfl⟩ | ⟨C, hC, rfl⟩
    · have hb1 : bestC B l.length (i + 1) = bestC B l.length i := by
        show (match gC B l.length (i : Int) with | none => bestC B l.length i | some C => if sealN C ≤ evOf (bestC B l.length i) then bestC B l.length i else some C) = _
        rw [hC]
      obtain ⟨K4, s4, _, t4, _⟩ := SRow.z.new H3
      have wz := SRow.z.width
      have g4' := ((t3.trans t4).same (.run b4) o4 id).trans gb
      obtain ⟨H4, hH4⟩ : ∃ K, H3.add (.rows false 23 [zrow]) = K := ⟨_, rfl⟩
      rw [hH4] at s4
      rw [hzr] at hH4 s4 wz e1
      have b7 : ((7 : Int) == 0) = false := rfl
      simp only [c40_l1, q0, q2, q4, q5, q6, eD, w0, hlt', e1, hH4, s4, wz, b7, w1, sy, tup, ↓reduceIte, Nat.reduceEqDiff, Nat.reduceAdd, Nat.reduceSub, Nat.reduceMul, Nat.reduceLeDiff, Int.reduceBEq, reduceCtorEq]
      exact ⟨l.length - 1 - (i + 1), by omega, i + 1, rfl, by omega, trivial, by simp [q0], by simp [q2], by simp [q4], by simp [q5, hb1], by simp, tz.trans ((t3.trans t4).wide (fun c hc => hc.elim)), by rw [hb1]; exact g4'⟩
    · obtain ⟨K4, s4, g7, t4, _⟩ := (SRow.s (gSt_len C) (fld C 0 8) (fld C 13 1) (fld C 8 1) (fld C 9 2) (fld C 11 2) (fld C 18 2) (((fld C 20 1 : Nat) : Int) == 1)).new H3
      have wS := s_width (gSt_len C) (fld C 0 8) (fld C 13 1) (fld C 8 1) (fld C 9 2) (fld C 11 2) (fld C 18 2) (((fld C 20 1 : Nat) : Int) == 1)
      have g4' := ((t3.trans t4).same (.run b4) o4 id).trans gb
      have lev := ev_load g4'
      have S7 : SupAt K4 (.run H3.next) (fld C 0 8) (fld C 13 1) (fld C 8 1) (fld C 9 2) (fld C 11 2) (gSt C) (fld C 18 2) (((fld C 20 1 : Nat) : Int) == 1) := ⟨g7, gSt_len C⟩
      obtain ⟨H4, hH4⟩ : ∃ K, H3.add (.rows false 23 [zrow]) = K := ⟨_, rfl⟩
      rw [hH4] at s4
      rw [hzr] at hH4
      rw [gSup_row] at e1
      have hpos := ev_pos (gC_ok hC).1
      have b0 : ((0 : Int) == 0) = true := rfl
      have li := sup_id S7
      have lr := sup_r S7
      have wr := r_width (gSt_len C) (fld C 8 1) (fld C 9 2) (fld C 11 2) (fld C 18 2) (((fld C 20 1 : Nat) : Int) == 1)
      have wf := f_width (gSt_len C) (sealN C) (fld C 0 8) (fld C 8 1) (fld C 9 2) (fld C 11 2) (fld C 18 2) (((fld C 20 1 : Nat) : Int) == 1)
      have pf := put_fr (gSt_len C) (sealN C) (fld C 0 8) (fld C 8 1) (fld C 9 2) (fld C 11 2) (fld C 18 2) (((fld C 20 1 : Nat) : Int) == 1)
      have st : storeAt K4 ⟨.run b4, 0⟩ (fcells (sealN C) (fld C 0 8) (fld C 8 1) (fld C 9 2) (fld C 11 2) (gSt C) (fld C 18 2) (((fld C 20 1 : Nat) : Int) == 1)) = some (K4.set (.run b4) (.rows false 23 [fOf (some C)])) := storeAt_eq g4' (r := fOf (bestC B l.length i)) (r' := fOf (some C)) rfl (put_fo _ _)
      cases hbc : bestC B l.length i with
      | none =>
        have hb1 : bestC B l.length (i + 1) = some C := by
          show (match gC B l.length (i : Int) with | none => bestC B l.length i | some C => if sealN C ≤ evOf (bestC B l.length i) then bestC B l.length i else some C) = _
          rw [hC, hbc]; exact if_neg (by show ¬ sealN C ≤ 0; omega)
        rw [hbc] at q5
        have q5 : t.getP (Tr.path 5) = some (.bool false) := q5
        simp only [c40_l1, q0, q2, q4, q5, q6, eD, w0, hlt', e1, hH4, s4, wS, b0, li, lr, wr, wf, pf, st, w1, sy, tup, ↓reduceIte, Nat.reduceEqDiff, Nat.reduceAdd, Nat.reduceSub, Nat.reduceMul, Nat.reduceLeDiff, Int.reduceBEq, reduceCtorEq]
        exact ⟨l.length - 1 - (i + 1), by omega, i + 1, rfl, by omega, trivial, by simp [q0], by simp [q2], by simp [q4], by simp [hb1], by simp, (tz.trans ((t3.trans t4).wide (fun c hc => hc.elim))).setm rfl _, by rw [hb1, Heap.get_set, if_pos rfl]⟩
      | some D =>
        rw [hbc] at q5
        have q5 : t.getP (Tr.path 5) = some (.bool true) := q5
        by_cases hle : sealN C ≤ evOf (bestC B l.length i)
        · have hb1 : bestC B l.length (i + 1) = bestC B l.length i := by
            show (match gC B l.length (i : Int) with | none => bestC B l.length i | some C => if sealN C ≤ evOf (bestC B l.length i) then bestC B l.length i else some C) = _
            rw [hC]; exact if_pos hle
          have hle' : ¬ ((evOf (bestC B l.length i) : Nat) : Int) < ((sealN C : Nat) : Int) := by omega
          simp only [c40_l1, q0, q2, q4, q5, q6, eD, w0, hlt', e1, hH4, s4, wS, b0, lev, hle', w1, sy, tup, ↓reduceIte, Nat.reduceEqDiff, Nat.reduceAdd, Nat.reduceSub, Nat.reduceMul, Nat.reduceLeDiff, Int.reduceBEq, reduceCtorEq]
          exact ⟨l.length - 1 - (i + 1), by omega, i + 1, rfl, by omega, trivial, by simp [q0], by simp [q2], by simp [q4], by simp [q5, hb1, hbc], by simp, tz.trans ((t3.trans t4).wide (fun c hc => hc.elim)), by rw [hb1]; exact g4'⟩
        · have hb1 : bestC B l.length (i + 1) = some C := by
            show (match gC B l.length (i : Int) with | none => bestC B l.length i | some C => if sealN C ≤ evOf (bestC B l.length i) then bestC B l.length i else some C) = _
            rw [hC]; exact if_neg hle
          have hle' : ((evOf (bestC B l.length i) : Nat) : Int) < ((sealN C : Nat) : Int) := by omega
          simp only [c40_l1, q0, q2, q4, q5, q6, eD, w0, hlt', e1, hH4, s4, wS, b0, lev, hle', li, lr, wr, wf, pf, st, w1, sy, tup, ↓reduceIte, Nat.reduceEqDiff, Nat.reduceAdd, Nat.reduceSub, Nat.reduceMul, Nat.reduceLeDiff, Int.reduceBEq, reduceCtorEq]
          exact ⟨l.length - 1 - (i + 1), by omega, i + 1, rfl, by omega, trivial, by simp [q0], by simp [q2], by simp [q4], by simp [hb1], by simp, (tz.trans ((t3.trans t4).wide (fun c hc => hc.elim))).setm rfl _, by rw [hb1, Heap.get_set, if_pos rfl]⟩
  · have hi' : i = l.length - 1 := by omega
    have hnl : ¬ (i : Int) < (l.length : Int) - 1 := by omega
    subst hi'
    simp only [c40_l1, q0, q2, q4, q5, q6, eD, w0, hnl, sy, tup, ↓reduceIte, Nat.reduceEqDiff, Nat.reduceAdd, Nat.reduceSub, Nat.reduceMul, Nat.reduceLeDiff, Int.reduceBEq, reduceCtorEq]
    exact ⟨trivial, trivial, by first | trivial | exact q0, by first | trivial | exact q2, by first | trivial | exact q4, by first | trivial | exact q5, tz, gb⟩
end
end Go.Proofs.YtejgheoandfikaaGreat.draft
set_option linter.unusedVariables false
set_option linter.unusedSimpArgs false
set_option maxRecDepth 10000
namespace Go.Proofs.YtejgheoandfikaaGreat.draft
open Go.Am
section
variable {H : Heap} {b ds : Bk} {so : Nat} {l : List disk.Dv} {B : disk.Bn}
theorem rlook2 (h : disk.Rep true H b ds so l B) (hl : l ≠ []) (hg : ∀ D ∈ B.l, disk.Good D) (hsm : ∀ d n, B.read d n < 256 ^ 64) (hdk : B.dk = false) (hlen : l.length ≤ 17) {lf : Nat} (hlf : 1000 < lf) (n : Nat) {C b2 b4 : Nat} {HS : Heap} (hS : Turns Z H HS) (hb : H.next ≤ b4 ∧ b4 < HS.next)
    (hf : fine (fld C 8 1) (fld C 9 2) (fld C 11 2) (gSt C) (fld C 18 2)) (g4 : HS.get (.run b4) = some (.rows false 23 [fcells (sealN C) (fld C 0 8) (fld C 8 1) (fld C 9 2) (fld C 11 2) (gSt C) (fld C 18 2) (((fld C 20 1 : Nat) : Int) == 1)])) :
    ∀ t : T, t.getP (Tr.path 0) = some (.ptr (some ⟨b, 0⟩)) → t.getP (Tr.path 2) = some (.ptr (some ⟨.run b2, 0⟩)) → t.getP (Tr.path 4) = some (.ptr (some ⟨.run b4, 0⟩)) → t.getP (Tr.path 10) = some (.int .i64 0) →
      wp (loopF (runC (callS Tryz.prog S0 lf (n + 8)) lf c40_l0) lf ⟨t, HS, []⟩) fun x s => x = .ex 2 ∧ s.d = [] ∧ s.t.getP (Tr.path 2) = some (.ptr (some ⟨.run b2, 0⟩)) ∧ s.t.getP (Tr.path 4) = some (.ptr (some ⟨.run b4, 0⟩)) ∧ Turns (fun c => c = .run b4) HS s.H ∧ s.H.get (.run b4) = some (.rows false 23 [fcells (sealN C) (fld C 0 8) (fld C 8 1) (fld C 9 2) (fld C 11 2) (lostS B l.length C (fld C 8 1)).1 ((lostS B l.length C (fld C 8 1)).2 : Int) (((fld C 20 1 : Nat) : Int) == 1)]) := by
  intro t q0 q2 q4 q10
  have hzr : zrow = [.int .u64 0, .int .i64 0, .int .i64 0, .int .i64 0, .int .i64 0, .int .u8 0, .int .u8 0, .int .u8 0, .int .u8 0, .int .u8 0, .int .u8 0, .int .u8 0, .int .u8 0, .int .u8 0, .int .u8 0, .int .u8 0, .int .u8 0, .int .u8 0, .int .u8 0, .int .u8 0, .int .u8 0, .int .i64 0, .bool false] := rfl
  have hM := fld_1 C 8
  generalize hMM : fld C 8 1 = M at *
  refine wp_loopF (fun k s => ∃ i : Nat, k = M - i ∧ i ≤ M ∧ s.d = [] ∧ s.t.getP (Tr.path 0) = some (.ptr (some ⟨b, 0⟩)) ∧ s.t.getP (Tr.path 2) = some (.ptr (some ⟨.run b2, 0⟩)) ∧ s.t.getP (Tr.path 4) = some (.ptr (some ⟨.run b4, 0⟩)) ∧ s.t.getP (Tr.path 10) = some (.int .i64 (i : Int)) ∧ Turns (fun c => c = .run b4) HS s.H ∧ s.H.get (.run b4) = some (.rows false 23 [fcells (sealN C) (fld C 0 8) M (fld C 9 2) (fld C 11 2) (lostS B l.length C i).1 ((lostS B l.length C i).2 : Int) (((fld C 20 1 : Nat) : Int) == 1)])) ?_ lf M _ ⟨0, rfl, by omega, rfl, q0, q2, q4, q10, Turns.refl _ _, g4⟩ (by omega)
  rintro k ⟨t, HH, d⟩ ⟨i, rfl, hi, hd', q0, q2, q4, q10, tz, gb⟩
  dsimp only at hd' q0 q2 q4 q10 tz gb
  subst hd'
  have lM := fnd_m (H := HH) (b := .run b4) (S := (lostS B l.length C i).1) ⟨gb, lostS_len B l.length C i⟩
  by_cases hlt : i < M
  · have hlt' : (i : Int) < (M : Int) := by omega
    have w1 : IntKind.i64.wrap ((i : Int) + 1) = ((i + 1 : Nat) : Int) := by rw [wrap_i64 (by omega)]; omega
    have tH : Turns Z H HH := hS.later tz (fun c ho e => by subst e; exact absurd ho (Heap.not_old hb.1))
    obtain ⟨v1, H3, e1, t3, hv⟩ := rsuper_ok (h.turns tH) hl hg hsm hdk hlen (i : Int) hlf n
    have o4 : b4 < HH.next := Nat.lt_of_lt_of_le hb.2 tz.next
    have hSl := lostS_len B l.length C i
    have hSl' : ((lostS B l.length C i).1.set i 1).length = 16 := by simpa using hSl
    have hfi : fine M (fld C 9 2) (fld C 11 2) (lostS B l.length C i).1 ((lostS B l.length C i).2 : Int) := lostS_fine hf i (by omega)
    have lose : ∀ {K : Heap}, Turns Z HH K → ¬ keepM B l.length C i → ∃ v F F', loadAt K ⟨.run b4, 2⟩ 21 = some (rcells M (fld C 9 2) (fld C 11 2) (lostS B l.length C i).1 ((lostS B l.length C i).2 : Int) (((fld C 20 1 : Nat) : Int) == 1)) ∧
        callS Tryz.prog S0 lf (n + 8) 114 [.agg (rcells M (fld C 9 2) (fld C 11 2) (lostS B l.length C i).1 ((lostS B l.length C i).2 : Int) (((fld C 20 1 : Nat) : Int) == 1)), .int .i64 (i : Int)] K = some (.v (.tuple [.agg (rcells M (fld C 9 2) (fld C 11 2) (lostS B l.length C (i + 1)).1 ((lostS B l.length C (i + 1)).2 : Int) (((fld C 20 1 : Nat) : Int) == 1)), .bool v]), F) ∧
        storeAt F ⟨.run b4, 2⟩ (rcells M (fld C 9 2) (fld C 11 2) (lostS B l.length C (i + 1)).1 ((lostS B l.length C (i + 1)).2 : Int) (((fld C 20 1 : Nat) : Int) == 1)) = some F' ∧
        Turns (fun c => c = .run b4) HS F' ∧ F'.get (.run b4) = some (.rows false 23 [fcells (sealN C) (fld C 0 8) M (fld C 9 2) (fld C 11 2) (lostS B l.length C (i + 1)).1 ((lostS B l.length C (i + 1)).2 : Int) (((fld C 20 1 : Nat) : Int) == 1)]) := fun {K} tK hk => by
      have gK := (tK.same (.run b4) o4 id).trans gb
      obtain ⟨v, F, eF, ⟨z, rfl⟩, tF⟩ := rlose_ok K (g := (((fld C 20 1 : Nat) : Int) == 1)) hSl hfi hlt' lf (n + 3) (by omega)
      have oK : b4 < K.next := Nat.lt_of_lt_of_le o4 tK.next
      have gF := (tF.same (.run b4) oK id).trans gK
      rw [lost_lose hk]
      rw [lost_c] at eF
      refine ⟨z, F, _, fnd_r (S := (lostS B l.length C i).1) ⟨gK, hSl⟩, eF, storeAt_eq gF (r := fcells (sealN C) (fld C 0 8) M (fld C 9 2) (fld C 11 2) (lostS B l.length C i).1 ((lostS B l.length C i).2 : Int) (((fld C 20 1 : Nat) : Int) == 1)) rfl (put_f hSl hSl' _ _ _ _ _ _ _ _), ?_, by rw [Heap.get_set, if_pos rfl]; rfl⟩
      exact (tz.trans ((tK.trans tF).wide (fun c hc => hc.elim))).setm rfl _
    have wr' := r_width (lostS_len B l.length C (i + 1)) M (fld C 9 2) (fld C 11 2) ((lostS B l.length C (i + 1)).2 : Int) (((fld C 20 1 : Nat) : Int) == 1)
    rcases hv with ⟨hC, rfl⟩ | ⟨D, hC, rfl⟩
    · have hk : ¬ keepM B l.length C i := fun ⟨D, hD, _⟩ => by rw [hC] at hD; cases hD
      obtain ⟨K4, s4, _, t4, _⟩ := SRow.z.new H3
      have wz := SRow.z.width
      obtain ⟨z, F, F', ll, el, sl, tF, gF⟩ := lose (t3.trans t4) hk
      obtain ⟨H4, hH4⟩ : ∃ K, H3.add (.rows false 23 [zrow]) = K := ⟨_, rfl⟩
      rw [hH4] at s4
      rw [hzr] at hH4 s4 wz e1
      simp only [c40_l0, q0, q2, q4, q10, lM, hlt', e1, hH4, s4, wz, ll, el, sl, wr', w1, sy, tup, ↓reduceIte, Nat.reduceEqDiff, Nat.reduceAdd, Nat.reduceSub, Nat.reduceMul, Nat.reduceLeDiff, Int.reduceBEq, reduceCtorEq]
      exact ⟨M - (i + 1), by omega, i + 1, rfl, by omega, trivial, by simp [q0], by simp [q2], by simp [q4], by simp, tF, gF⟩
    · obtain ⟨K4, s4, g7, t4, _⟩ := (SRow.s (gSt_len D) (fld D 0 8) (fld D 13 1) (fld D 8 1) (fld D 9 2) (fld D 11 2) (fld D 18 2) (((fld D 20 1 : Nat) : Int) == 1)).new H3
      have wS := s_width (gSt_len D) (fld D 0 8) (fld D 13 1) (fld D 8 1) (fld D 9 2) (fld D 11 2) (fld D 18 2) (((fld D 20 1 : Nat) : Int) == 1)
      have g4' := ((t3.trans t4).same (.run b4) o4 id).trans gb
      have S7 : SupAt K4 (.run H3.next) (fld D 0 8) (fld D 13 1) (fld D 8 1) (fld D 9 2) (fld D 11 2) (gSt D) (fld D 18 2) (((fld D 20 1 : Nat) : Int) == 1) := ⟨g7, gSt_len D⟩
      have F7 : FndAt K4 (.run b4) (sealN C) (fld C 0 8) M (fld C 9 2) (fld C 11 2) (lostS B l.length C i).1 ((lostS B l.length C i).2 : Int) (((fld C 20 1 : Nat) : Int) == 1) := ⟨g4', hSl⟩
      have l1 := sup_id S7
      have l2 := fnd_id F7
      have l3 : loadAt K4 ⟨.run H3.next, 2⟩ 3 = some [.int .i64 (fld D 8 1), .int .i64 (fld D 9 2), .int .i64 (fld D 11 2)] := by rw [sup_cut S7 (by omega) (by omega)]; rfl
      have l4 := fnd_g F7
      have l5 := sup_self S7
      obtain ⟨H4, hH4⟩ : ∃ K, H3.add (.rows false 23 [zrow]) = K := ⟨_, rfl⟩
      rw [hH4] at s4
      rw [hzr] at hH4
      rw [gSup_row] at e1
      have eqn : ∀ {x y : Nat}, x = y → ((x : Int) == (y : Int)) = true := fun e => by simp [e]
      have nen : ∀ {x y : Nat}, x ≠ y → ((x : Int) == (y : Int)) = false := fun e => by simpa using (fun e' => e (Int.ofNat.inj e'))
      by_cases h5' : ¬ fld D 13 1 = i
      · have h5 : fld D 13 1 ≠ i := h5'
        have c5 := nen h5
        have hk : ¬ keepM B l.length C i := fun ⟨D', hD, k2, k3, k4⟩ => by
          rw [hC] at hD
          cases hD
          exact absurd k4 h5
        obtain ⟨z, F, F', ll, el, sl, tF, gF⟩ := lose (t3.trans t4) hk
        simp only [c40_l0, q0, q2, q4, q10, lM, hlt', e1, hH4, s4, wS, l1, l2, l3, l4, l5, c5, ll, el, sl, wr', w1, Bool.false_and, Bool.and_false, sy, tup, ↓reduceIte, Nat.reduceEqDiff, Nat.reduceAdd, Nat.reduceSub, Nat.reduceMul, Nat.reduceLeDiff, Int.reduceBEq, reduceCtorEq]
        exact ⟨M - (i + 1), by omega, i + 1, rfl, by omega, trivial, by simp [q0], by simp [q2], by simp [q4], by simp, tF, gF⟩
      have h5 : fld D 13 1 = i := Classical.byContradiction h5'
      have c5 := eqn h5
      by_cases h1' : ¬ fld D 0 8 = fld C 0 8
      · have h1 : fld D 0 8 ≠ fld C 0 8 := h1'
        have c1 := nen h1
        have hk : ¬ keepM B l.length C i := fun ⟨D', hD, k2, k3, k4⟩ => by
          rw [hC] at hD
          cases hD
          exact absurd k2 h1
        obtain ⟨z, F, F', ll, el, sl, tF, gF⟩ := lose (t3.trans t4) hk
        simp only [c40_l0, q0, q2, q4, q10, lM, hlt', e1, hH4, s4, wS, l1, l2, l3, l4, l5, c5, c1, ll, el, sl, wr', w1, Bool.false_and, Bool.and_false, sy, tup, ↓reduceIte, Nat.reduceEqDiff, Nat.reduceAdd, Nat.reduceSub, Nat.reduceMul, Nat.reduceLeDiff, Int.reduceBEq, reduceCtorEq]
        exact ⟨M - (i + 1), by omega, i + 1, rfl, by omega, trivial, by simp [q0], by simp [q2], by simp [q4], by simp, tF, gF⟩
      have h1 : fld D 0 8 = fld C 0 8 := Classical.byContradiction h1'
      have c1 := eqn h1
      by_cases h2' : ¬ fld D 8 1 = M
      · have h2 : fld D 8 1 ≠ M := h2'
        have c2 := nen h2
        have hk : ¬ keepM B l.length C i := fun ⟨D', hD, k2, k3, k4⟩ => by
          rw [hC] at hD
          cases hD
          exact absurd (k3.1.trans hMM) h2
        obtain ⟨z, F, F', ll, el, sl, tF, gF⟩ := lose (t3.trans t4) hk
        simp only [c40_l0, q0, q2, q4, q10, lM, hlt', e1, hH4, s4, wS, l1, l2, l3, l4, l5, c5, c1, c2, ll, el, sl, wr', w1, Bool.false_and, Bool.and_false, sy, tup, ↓reduceIte, Nat.reduceEqDiff, Nat.reduceAdd, Nat.reduceSub, Nat.reduceMul, Nat.reduceLeDiff, Int.reduceBEq, reduceCtorEq]
        exact ⟨M - (i + 1), by omega, i + 1, rfl, by omega, trivial, by simp [q0], by simp [q2], by simp [q4], by simp, tF, gF⟩
      have h2 : fld D 8 1 = M := Classical.byContradiction h2'
      have c2 := eqn h2
      by_cases h3' : ¬ fld D 9 2 = fld C 9 2
      · have h3 : fld D 9 2 ≠ fld C 9 2 := h3'
        have c3 := nen h3
        have hk : ¬ keepM B l.length C i := fun ⟨D', hD, k2, k3, k4⟩ => by
          rw [hC] at hD
          cases hD
          exact absurd k3.2.1 h3
        obtain ⟨z, F, F', ll, el, sl, tF, gF⟩ := lose (t3.trans t4) hk
        simp only [c40_l0, q0, q2, q4, q10, lM, hlt', e1, hH4, s4, wS, l1, l2, l3, l4, l5, c5, c1, c2, c3, ll, el, sl, wr', w1, Bool.false_and, Bool.and_false, sy, tup, ↓reduceIte, Nat.reduceEqDiff, Nat.reduceAdd, Nat.reduceSub, Nat.reduceMul, Nat.reduceLeDiff, Int.reduceBEq, reduceCtorEq]
        exact ⟨M - (i + 1), by omega, i + 1, rfl, by omega, trivial, by simp [q0], by simp [q2], by simp [q4], by simp, tF, gF⟩
      have h3 : fld D 9 2 = fld C 9 2 := Classical.byContradiction h3'
      have c3 := eqn h3
      by_cases h4' : ¬ fld D 11 2 = fld C 11 2
      · have h4 : fld D 11 2 ≠ fld C 11 2 := h4'
        have c4 := nen h4
        have hk : ¬ keepM B l.length C i := fun ⟨D', hD, k2, k3, k4⟩ => by
          rw [hC] at hD
          cases hD
          exact absurd k3.2.2 h4
        obtain ⟨z, F, F', ll, el, sl, tF, gF⟩ := lose (t3.trans t4) hk
        simp only [c40_l0, q0, q2, q4, q10, lM, hlt', e1, hH4, s4, wS, l1, l2, l3, l4, l5, c5, c1, c2, c3, c4, ll, el, sl, wr', w1, Bool.false_and, Bool.and_false, sy, tup, ↓reduceIte, Nat.reduceEqDiff, Nat.reduceAdd, Nat.reduceSub, Nat.reduceMul, Nat.reduceLeDiff, Int.reduceBEq, reduceCtorEq]
        exact ⟨M - (i + 1), by omega, i + 1, rfl, by omega, trivial, by simp [q0], by simp [q2], by simp [q4], by simp, tF, gF⟩
      have h4 : fld D 11 2 = fld C 11 2 := Classical.byContradiction h4'
      have c4 := eqn h4
      have hk : keepM B l.length C i := ⟨D, hC, h1, ⟨by rw [hMM]; exact h2, h3, h4⟩, h5⟩
      simp only [c40_l0, q0, q2, q4, q10, lM, hlt', e1, hH4, s4, wS, l1, l2, l3, l4, l5, c1, c2, c3, c4, c5, w1, sy, tup, ↓reduceIte, Nat.reduceEqDiff, Nat.reduceAdd, Nat.reduceSub, Nat.reduceMul, Nat.reduceLeDiff, Int.reduceBEq, reduceCtorEq]
      exact ⟨M - (i + 1), by omega, i + 1, rfl, by omega, trivial, by simp [q0], by simp [q2], by simp [q4], by simp, tz.trans ((t3.trans t4).wide (fun c hc => hc.elim)), by rw [lost_keep hk]; exact g4'⟩
  · have hi' : i = M := by omega
    have hnl : ¬ (i : Int) < (M : Int) := by omega
    subst hi'
    simp only [c40_l0, q0, q2, q4, q10, lM, hnl, sy, tup, ↓reduceIte, Nat.reduceEqDiff, Nat.reduceAdd, Nat.reduceSub, Nat.reduceMul, Nat.reduceLeDiff, Int.reduceBEq, reduceCtorEq]
    exact ⟨trivial, trivial, by first | trivial | exact q2, by first | trivial | exact q4, tz, gb⟩
end
end Go.Proofs.YtejgheoandfikaaGreat.draft
set_option linter.unusedVariables false
set_option linter.unusedSimpArgs false
set_option maxRecDepth 10000
namespace Go.Proofs.YtejgheoandfikaaGreat.draft
open Go.Am
theorem rlook_ok {H : Heap} {b ds : Bk} {so : Nat} {l : List disk.Dv} {B : disk.Bn} (h : disk.Rep true H b ds so l B) (hl : l ≠ []) (hg : ∀ D ∈ B.l, disk.Good D) (hsm : ∀ d n, B.read d n < 256 ^ 64) (hdk : B.dk = false) (hlen : l.length ≤ 17) {lf : Nat} (hlf : 1000 < lf) (n : Nat) :
    ret (callS Tryz.prog S0 lf (n + 9) 40 [.ptr (some ⟨b, 0⟩)] H) fun v H' => Turns Z H H' ∧
      ((bestC B l.length (l.length - 1) = none ∧ v = .tuple [.agg zf, .int .i64 7]) ∨ ∃ C, bestC B l.length (l.length - 1) = some C ∧ v = .tuple [foundC B l.length C, .int .i64 0]) := by
  have hzf : zf = [.int .u64 0, .int .u64 0, .int .i64 0, .int .i64 0, .int .i64 0, .int .u8 0, .int .u8 0, .int .u8 0, .int .u8 0, .int .u8 0, .int .u8 0, .int .u8 0, .int .u8 0, .int .u8 0, .int .u8 0, .int .u8 0, .int .u8 0, .int .u8 0, .int .u8 0, .int .u8 0, .int .u8 0, .int .i64 0, .bool false] := rfl
  have t1 := Turns.add Z H (.rows false 23 [zf])
  have hg1 : (H.add (.rows false 23 [zf])).get (.run H.next) = some (.rows false 23 [zf]) := by rw [Heap.get_add, if_pos rfl]
  have hn1 : (H.add (.rows false 23 [zf])).next = H.next + 1 := by simp
  obtain ⟨H1, hH1⟩ : ∃ K, H.add (.rows false 23 [zf]) = K := ⟨_, rfl⟩
  rw [hH1] at t1 hg1 hn1
  have e2 : callS Tryz.prog S0 lf (n + 8) 110 [.ptr (some ⟨b, 0⟩)] H1 = some (.v (.bool false), H1) := by rw [← hdk]; exact disk.rdark (h.turns t1) lf (n + 7)
  have t2 := Turns.add Z H1 (.rows false 23 [zf])
  have hg2 : (H1.add (.rows false 23 [zf])).get (.run (H.next + 1)) = some (.rows false 23 [zf]) := by rw [Heap.get_add, if_pos (by rw [hn1])]
  have hn2 : (H1.add (.rows false 23 [zf])).next = H.next + 2 := by simp [hn1]
  obtain ⟨H2, hH2⟩ : ∃ K, H1.add (.rows false 23 [zf]) = K := ⟨_, rfl⟩
  rw [hH2] at t2 hg2 hn2
  have g2 : H2.get (.run H.next) = some (.rows false 23 [zf]) := (t2.same (.run H.next) (by show _ < _; omega) id).trans hg1
  have L1 := rlook1 h hl hg hsm hdk hlen hlf n (b2 := H.next) (b4 := H.next + 1) (t1.trans t2) ⟨by omega, by omega⟩ hg2
  have zH1 := hH1
  have zH2 := hH2
  rw [hzf] at zH1 zH2
  refine ret_call rfl c40_eq ?_
  simp only [c40, zH1, e2, zH2, hn1, sy, tup, ↓reduceIte, Nat.reduceEqDiff, Nat.reduceAdd, Nat.reduceSub, Nat.reduceMul, Nat.reduceLeDiff, Int.reduceBEq, reduceCtorEq]
  refine wp_ctx (F := fun r => seqC _ _ _ (blockC _ r)) (L1 _ ?_ ?_ ?_ ?_ ?_) ?_
  · simp only [sy, tup, ↓reduceIte, Nat.reduceEqDiff, Nat.reduceAdd, Nat.reduceSub, Nat.reduceMul, Nat.reduceLeDiff, Int.reduceBEq, reduceCtorEq]
  · simp only [sy, tup, ↓reduceIte, Nat.reduceEqDiff, Nat.reduceAdd, Nat.reduceSub, Nat.reduceMul, Nat.reduceLeDiff, Int.reduceBEq, reduceCtorEq]
  · simp only [sy, tup, ↓reduceIte, Nat.reduceEqDiff, Nat.reduceAdd, Nat.reduceSub, Nat.reduceMul, Nat.reduceLeDiff, Int.reduceBEq, reduceCtorEq]
  · simp only [sy, tup, ↓reduceIte, Nat.reduceEqDiff, Nat.reduceAdd, Nat.reduceSub, Nat.reduceMul, Nat.reduceLeDiff, Int.reduceBEq, reduceCtorEq]
  · simp only [sy, tup, ↓reduceIte, Nat.reduceEqDiff, Nat.reduceAdd, Nat.reduceSub, Nat.reduceMul, Nat.reduceLeDiff, Int.reduceBEq, reduceCtorEq]
  rintro x ⟨t, HH, d⟩ ⟨rfl, hd', q0, q2, q4, q5, tz, gb⟩
  dsimp only at hd' q0 q2 q4 q5 tz gb
  subst hd'
  have tH : Turns Z H HH := (t1.trans t2).later tz (fun c ho e => by subst e; exact absurd ho (Heap.not_old (by omega)))
  have gA : HH.get (.run H.next) = some (.rows false 23 [zf]) := (tz.same (.run H.next) (by show _ < _; omega) (run_ne (by omega))).trans g2
  have nH : H.next + 2 ≤ HH.next := by have := tz.next; omega
  have ans : ∀ {K : Heap} {row : List V}, K.get (.run H.next) = some (.rows false 23 [zf]) → Turns Z H K → row.length = 23 → Thin row → Go.Am.put zf 0 row = some row → ∃ F, storeAt K ⟨.run H.next, 0⟩ row = some F ∧ loadAt F ⟨.run H.next, 0⟩ 23 = some row ∧ Turns Z H F := fun {K row} gK tK hr ht hp => by
    refine ⟨_, storeAt_eq gK (r := zf) (r' := row) rfl hp, ?_, tK.setnew (Nat.le_refl _) _⟩
    rw [loadAt_eq (b := .run H.next) (r := row) (by rw [Heap.get_set, if_pos rfl]) rfl, cut_thin ht (by omega)]
    simp [← hr]
  cases hC : bestC B l.length (l.length - 1) with
  | none =>
    rw [hC] at gb q5
    have q5 : t.getP (Tr.path 5) = some (.bool false) := q5
    obtain ⟨F, sf, lf', tF⟩ := ans (row := zf) gA tH rfl (f_thin 0 0 0 0 0 (List.replicate 16 0) 0 false) (put_ff (by simp) (by simp) _ _ _ _ _ _ _ _ _ _ _ _ _ _)
    have wz : width zf = 23 := f_width (by simp) _ _ _ _ _ _ _
    rw [hzf] at sf lf' wz
    simp only [q0, q2, q4, q5, sf, lf', wz, sy, tup, ↓reduceIte, Nat.reduceEqDiff, Nat.reduceAdd, Nat.reduceSub, Nat.reduceMul, Nat.reduceLeDiff, Int.reduceBEq, reduceCtorEq]
    exact ⟨trivial, .inr trivial, _, rfl, tF, .inl ⟨trivial, by rw [hzf]⟩⟩
  | some C =>
    rw [hC] at gb q5
    have q5 : t.getP (Tr.path 5) = some (.bool true) := q5
    obtain ⟨i, hi, hgC⟩ := bestC_ok hC
    have hE := (gC_ok hgC).1
    have hf := (isSup_of hE).2.2.1.2.2.2
    have L2 := rlook2 h hl hg hsm hdk hlen hlf n (C := C) (b2 := H.next) (b4 := H.next + 1) tH ⟨by omega, by omega⟩ hf gb
    simp only [q0, q2, q4, q5, sy, tup, ↓reduceIte, Nat.reduceEqDiff, Nat.reduceAdd, Nat.reduceSub, Nat.reduceMul, Nat.reduceLeDiff, Int.reduceBEq, reduceCtorEq]
    refine wp_ctx (F := fun r => seqC _ _ _ (blockC _ r)) (L2 _ ?_ ?_ ?_ ?_) ?_
    · simp only [q0, sy, tup, ↓reduceIte, Nat.reduceEqDiff, Nat.reduceAdd, Nat.reduceSub, Nat.reduceMul, Nat.reduceLeDiff, Int.reduceBEq, reduceCtorEq]
    · simp only [q2, sy, tup, ↓reduceIte, Nat.reduceEqDiff, Nat.reduceAdd, Nat.reduceSub, Nat.reduceMul, Nat.reduceLeDiff, Int.reduceBEq, reduceCtorEq]
    · simp only [q4, sy, tup, ↓reduceIte, Nat.reduceEqDiff, Nat.reduceAdd, Nat.reduceSub, Nat.reduceMul, Nat.reduceLeDiff, Int.reduceBEq, reduceCtorEq]
    · simp only [sy, tup, ↓reduceIte, Nat.reduceEqDiff, Nat.reduceAdd, Nat.reduceSub, Nat.reduceMul, Nat.reduceLeDiff, Int.reduceBEq, reduceCtorEq]
    rintro x ⟨t', HK, d⟩ ⟨rfl, hd', q2, q4, tz2, gb2⟩
    dsimp only at hd' q2 q4 tz2 gb2
    subst hd'
    have tK : Turns Z H HK := tH.later tz2 (fun c ho e => by subst e; exact absurd ho (Heap.not_old (by omega)))
    have gA2 : HK.get (.run H.next) = some (.rows false 23 [zf]) := (tz2.same (.run H.next) (by show _ < _; omega) (run_ne (by omega))).trans gA
    have hSl := lostS_len B l.length C (fld C 8 1)
    have la := fnd_all (H := HK) (b := .run (H.next + 1)) (S := (lostS B l.length C (fld C 8 1)).1) ⟨gb2, hSl⟩
    have wf := f_width hSl (sealN C) (fld C 0 8) (fld C 8 1) (fld C 9 2) (fld C 11 2) ((lostS B l.length C (fld C 8 1)).2 : Int) (((fld C 20 1 : Nat) : Int) == 1)
    obtain ⟨F, sf, lf', tF⟩ := ans gA2 tK (f_len hSl (sealN C) (fld C 0 8) (fld C 8 1) (fld C 9 2) (fld C 11 2) ((lostS B l.length C (fld C 8 1)).2 : Int) (((fld C 20 1 : Nat) : Int) == 1)) (f_thin _ _ _ _ _ _ _ _) (put_ff (by simp) hSl _ _ _ _ _ _ _ _ _ _ _ _ _ _)
    simp only [q2, q4, la, wf, sf, lf', sy, tup, ↓reduceIte, Nat.reduceEqDiff, Nat.reduceAdd, Nat.reduceSub, Nat.reduceMul, Nat.reduceLeDiff, Int.reduceBEq, reduceCtorEq]
    exact ⟨trivial, .inr trivial, _, rfl, tF, .inr ⟨C, rfl, rfl⟩⟩
theorem zf_put : Go.Am.put zf 0 zf = some zf := put_ff (by simp) (by simp) _ _ _ _ _ _ _ _ _ _ _ _ _ _
theorem zf_load {K : Heap} {b : Nat} (g : K.get (.run b) = some (.rows false 23 [zf])) : loadAt K ⟨.run b, 0⟩ 23 = some zf := by
  rw [loadAt_eq g (r := zf) rfl]
  exact (cut_thin (f_thin 0 0 0 0 0 (List.replicate 16 0) 0 false) (by show 0 + 23 ≤ 23; omega)).trans rfl
theorem look_dark {H : Heap} {b ds : Bk} {so : Nat} {l : List disk.Dv} {B : disk.Bn} (h : disk.BRep H b ds so l B) (hl : l ≠ []) (hdk : B.dk = true) (lf n : Nat) :
    ret (callS Tryz.prog S0 lf (n + 9) 39 [.ptr (some ⟨b, 0⟩)] H) fun v H' => Turns Z H H' ∧ v = .tuple [.agg zf, .int .i64 8] := by
  have hzf : zf = [.int .u64 0, .int .u64 0, .int .i64 0, .int .i64 0, .int .i64 0, .int .u8 0, .int .u8 0, .int .u8 0, .int .u8 0, .int .u8 0, .int .u8 0, .int .u8 0, .int .u8 0, .int .u8 0, .int .u8 0, .int .u8 0, .int .u8 0, .int .u8 0, .int .u8 0, .int .u8 0, .int .u8 0, .int .i64 0, .bool false] := rfl
  have t1 := Turns.add Z H (.rows false 23 [zf])
  have hg1 : (H.add (.rows false 23 [zf])).get (.run H.next) = some (.rows false 23 [zf]) := by rw [Heap.get_add, if_pos rfl]
  obtain ⟨H1, hH1⟩ : ∃ K, H.add (.rows false 23 [zf]) = K := ⟨_, rfl⟩
  rw [hH1] at t1 hg1
  have e1 : callS Tryz.prog S0 lf (n + 8) 106 [.ptr (some ⟨b, 0⟩)] H1 = _ := bench_devs (h.turns t1) hl lf (n + 6)
  have e2 : callS Tryz.prog S0 lf (n + 8) 107 [.ptr (some ⟨b, 0⟩)] H1 = some (.v (.bool true), H1) := by rw [← hdk]; exact disk.bdark (h.turns t1).at' hl lf (n + 6)
  have b0 : ((l.length : Int) == 0) = false := by simp; exact hl
  have sf : storeAt H1 ⟨.run H.next, 0⟩ zf = some (H1.set (.run H.next) (.rows false 23 [zf])) := storeAt_eq hg1 (r := zf) (r' := zf) rfl zf_put
  have lf' : loadAt (H1.set (.run H.next) (.rows false 23 [zf])) ⟨.run H.next, 0⟩ 23 = some zf := zf_load (by rw [Heap.get_set, if_pos rfl])
  have tf : Turns Z H (H1.set (.run H.next) (.rows false 23 [zf])) := t1.setnew (Nat.le_refl _) _
  obtain ⟨F, hF⟩ : ∃ K, H1.set (.run H.next) (.rows false 23 [zf]) = K := ⟨_, rfl⟩
  rw [hF] at sf lf' tf
  have wz : width zf = 23 := f_width (by simp) _ _ _ _ _ _ _
  rw [hzf] at hH1 sf lf' wz ⊢
  refine ret_call rfl c39_eq ?_
  simp only [c39, hH1, e1, e2, b0, sf, lf', wz, sy, tup, ↓reduceIte, Nat.reduceEqDiff, Nat.reduceAdd, Nat.reduceSub, Nat.reduceMul, Nat.reduceLeDiff, Int.reduceBEq, reduceCtorEq]
  exact ⟨trivial, .inr trivial, _, rfl, tf, rfl⟩
theorem rlook_dark {H : Heap} {b ds : Bk} {so : Nat} {l : List disk.Dv} {B : disk.Bn} (h : disk.Rep true H b ds so l B) (hdk : B.dk = true) (lf n : Nat) :
    ret (callS Tryz.prog S0 lf (n + 9) 40 [.ptr (some ⟨b, 0⟩)] H) fun v H' => Turns Z H H' ∧ v = .tuple [.agg zf, .int .i64 8] := by
  have hzf : zf = [.int .u64 0, .int .u64 0, .int .i64 0, .int .i64 0, .int .i64 0, .int .u8 0, .int .u8 0, .int .u8 0, .int .u8 0, .int .u8 0, .int .u8 0, .int .u8 0, .int .u8 0, .int .u8 0, .int .u8 0, .int .u8 0, .int .u8 0, .int .u8 0, .int .u8 0, .int .u8 0, .int .u8 0, .int .i64 0, .bool false] := rfl
  have t1 := Turns.add Z H (.rows false 23 [zf])
  have hg1 : (H.add (.rows false 23 [zf])).get (.run H.next) = some (.rows false 23 [zf]) := by rw [Heap.get_add, if_pos rfl]
  obtain ⟨H1, hH1⟩ : ∃ K, H.add (.rows false 23 [zf]) = K := ⟨_, rfl⟩
  rw [hH1] at t1 hg1
  have e2 : callS Tryz.prog S0 lf (n + 8) 110 [.ptr (some ⟨b, 0⟩)] H1 = some (.v (.bool true), H1) := by rw [← hdk]; exact disk.rdark (h.turns t1) lf (n + 7)
  have sf : storeAt H1 ⟨.run H.next, 0⟩ zf = some (H1.set (.run H.next) (.rows false 23 [zf])) := storeAt_eq hg1 (r := zf) (r' := zf) rfl zf_put
  have lf' : loadAt (H1.set (.run H.next) (.rows false 23 [zf])) ⟨.run H.next, 0⟩ 23 = some zf := zf_load (by rw [Heap.get_set, if_pos rfl])
  have tf : Turns Z H (H1.set (.run H.next) (.rows false 23 [zf])) := t1.setnew (Nat.le_refl _) _
  obtain ⟨F, hF⟩ : ∃ K, H1.set (.run H.next) (.rows false 23 [zf]) = K := ⟨_, rfl⟩
  rw [hF] at sf lf' tf
  have wz : width zf = 23 := f_width (by simp) _ _ _ _ _ _ _
  rw [hzf] at hH1 sf lf' wz ⊢
  refine ret_call rfl c40_eq ?_
  simp only [c40, hH1, e2, sf, lf', wz, sy, tup, ↓reduceIte, Nat.reduceEqDiff, Nat.reduceAdd, Nat.reduceSub, Nat.reduceMul, Nat.reduceLeDiff, Int.reduceBEq, reduceCtorEq]
  exact ⟨trivial, .inr trivial, _, rfl, tf, rfl⟩
end Go.Proofs.YtejgheoandfikaaGreat.draft
