import Derived.Test.YtejgheoandfikaaGreatRef
set_option linter.unusedVariables false
set_option linter.unusedSimpArgs false
set_option maxRecDepth 10000
namespace Go.Proofs.YtejgheoandfikaaGreat.draft
open Go.Am
noncomputable def c221_l0 : C := .seq (.reg [
 qo 43 (.p (arF .lss (tt 42) (tt 41))) [pp 42, pp 41]]) (
 .seq (.cond (tt 43) (.skip) (.exit 1)) (
 .seq (.block 2 (.seq (.reg [
 mv 44 42,
 qo 45 (.p (iaddrSF (tt 40) (tt 42) 1)) [pp 40, pp 42],
 qo 46 (.r (loadF (tt 45) 1 .sc)) [pp 45],
 mv 9 44,
 mv 10 46]) (
 .reg [
 mv 47 8,
 mv 48 10,
 qo 49 (.p (convF .u64 (tt 48))) [pp 48],
 mv 50 9,
 qo 51 (.p (arF .mul (ii 8) (tt 50))) [pp 50],
 qo 52 (.p (arF .shl (tt 49) (tt 51))) [pp 49, pp 51],
 qo 53 (.p (arF .or (tt 47) (tt 52))) [pp 47, pp 52],
 mv 8 53]))) (
 .reg [
 qo 54 (.p (arF .add (tt 42) (ii 1))) [pp 42],
 mv 42 54])))
noncomputable def c221 : CFn := ⟨[.tmp (pp 6), .tmp (pp 7)],
 .seq (.reg [
 qo 6 (.p (S.get (.c (.int .u64 0)))) [],
 qo 7 (.p (S.get (ii 0))) []]) (
 .seq (.block 0 (.seq (.reg [
 mv 12 2,
 qo 13 (.p (arF .lss (tt 12) (ii 1))) [pp 12],
 mv 14 13,
 mg 15 2 14 false,
 qg 16 (.p (arF .gtr (tt 15) (ii 8))) 14 false [pp 15],
 qo 17 (.p (pickF (tt 14) (.c (.bool true)) (tt 16))) [pp 14, pp 16],
 mv 18 17,
 mg 19 1 18 false,
 qg 20 (.p (arF .lss (tt 19) (ii 0))) 18 false [pp 19],
 qo 21 (.p (pickF (tt 18) (.c (.bool true)) (tt 20))) [pp 18, pp 20],
 mv 22 21,
 mg 23 1 22 false,
 mg 24 0 22 false,
 qg 25 (.p (lenF (tt 24))) 22 false [pp 24],
 qg 26 (.p (arF .gtr (tt 23) (tt 25))) 22 false [pp 23, pp 25],
 qo 27 (.p (pickF (tt 22) (.c (.bool true)) (tt 26))) [pp 22, pp 26],
 mv 11 27]) (
 .cond (tt 11) (.seq (.reg [
 qo 6 (.p (S.get (.c (.int .u64 0)))) [],
 qo 7 (.p (S.get (ii 2))) []]) (
 .ret)) (.seq (.reg [
 mv 29 2,
 mv 30 0,
 qo 31 (.p (lenF (tt 30))) [pp 30],
 mv 32 1,
 qo 33 (.p (arF .sub (tt 31) (tt 32))) [pp 31, pp 32],
 qo 34 (.p (arF .gtr (tt 29) (tt 33))) [pp 29, pp 33],
 mv 28 34]) (
 .cond (tt 28) (.seq (.reg [
 qo 6 (.p (S.get (.c (.int .u64 0)))) [],
 qo 7 (.p (S.get (ii 4))) []]) (
 .ret)) (.skip)))))) (
 .seq (.reg [
 qo 8 (.p (S.get (.c (.int .u64 0)))) []]) (
 .seq (.seq (.reg [
 mv 35 0,
 mv 36 1,
 mv 37 1,
 mv 38 2,
 qo 39 (.p (arF .add (tt 37) (tt 38))) [pp 37, pp 38],
 qo 40 (.p (sliceF 1 (tt 35) (some (tt 36)) (some (tt 39)) none)) [pp 35, pp 36, pp 39],
 qo 41 (.p (lenF (tt 40))) [pp 40],
 qo 42 (.p (S.get (ii 0))) []]) (
 .block 1 (.loop c221_l0))) (
 .seq (.reg [
 mv 55 8,
 mv 6 55,
 qo 7 (.p (S.get (ii 0))) []]) (
 .ret)))))⟩
theorem c221_eq : fnOf Tryz.prog 221 = some c221 := by kernel_rfl
theorem wrap_u64 {n : Nat} (h : n < 18446744073709551616) : IntKind.u64.wrap (n : Int) = n := by
  show (if false && decide ((n : Int) % (2 ^ 64 : Int) ≥ (2 ^ (64 - 1) : Int)) then (n : Int) % (2 ^ 64 : Int) - (2 ^ 64 : Int) else (n : Int) % (2 ^ 64 : Int)) = n
  rw [show (2 ^ 64 : Int) = 18446744073709551616 from rfl]
  simp only [Bool.false_and, Bool.false_eq_true, if_false]
  omega
theorem fits_u64 {n : Nat} (h : n < 18446744073709551616) : fitsK .u64 n = true := by
  show Nat.ble n 18446744073709551615 = true
  rw [ble_iff]; omega
theorem lor_lt {a b : Nat} (h : a < 18446744073709551616) (k : b < 18446744073709551616) : a ||| b < 18446744073709551616 := Nat.or_lt_two_pow (n := 64) h k
theorem or_u64 {a b : Nat} (h : a < 18446744073709551616) (k : b < 18446744073709551616) : arith .or (.int .u64 (a : Int)) (.int .u64 (b : Int)) = some (.int .u64 ((a ||| b : Nat) : Int)) := by
  have e : bitI Nat.lor (fun _ a b => a ||| b) .u64 (a : Int) (b : Int) = ((a ||| b : Nat) : Int) := by
    show (match fitsK .u64 a && fitsK .u64 b with | true => Int.ofNat (Nat.lor a b) | false => _) = _
    rw [fits_u64 h, fits_u64 k]; rfl
  show (match decide (IntKind.u64 = IntKind.u64) with | false => none | true => mkI .u64 (bitI Nat.lor (fun _ a b => a ||| b) .u64 (a : Int) (b : Int))) = _
  rw [e, Dh, wrap_u64 (lor_lt h k)]; rfl
noncomputable def up (c i : Nat) : Nat := c * 2 ^ (8 * i)
theorem up_lt {c i : Nat} (hc : c < 256) (hi : i < 8) : up c i < 18446744073709551616 := by
  unfold up
  have h1 : 2 ^ (8 * i) ≤ 2 ^ 56 := Nat.pow_le_pow_right (by decide) (by omega)
  have h2 : c * 2 ^ (8 * i) ≤ 255 * 2 ^ 56 := Nat.mul_le_mul (by omega) h1
  exact Nat.lt_of_le_of_lt h2 (by decide)
theorem shl_u64 {c i : Nat} (hc : c < 256) (hi : i < 8) : arith .shl (.int .u64 (c : Int)) (.int .i64 ((8 * i : Nat) : Int)) = some (.int .u64 ((up c i : Nat) : Int)) := by
  have hm : min (8 * i) 64 = 8 * i := by omega
  show mkI .u64 (mulI (c : Int) (.ofNat (Nat.pow 2 (min (8 * i) 64)))) = _
  rw [hm, Dh]
  show some (V.int .u64 (IntKind.u64.wrap ((c * 2 ^ (8 * i) : Nat) : Int))) = _
  have := up_lt hc hi
  unfold up at this
  rw [wrap_u64 this]
  rfl
noncomputable def leN (c : Nat → Nat) : Nat → Nat
  | 0 => 0
  | i + 1 => leN c i ||| up (c i) i
theorem leN_lt {c : Nat → Nat} : ∀ {n : Nat}, n ≤ 8 → (∀ i, i < n → c i < 256) → leN c n < 18446744073709551616
  | 0, _, _ => by show 0 < _; decide
  | n + 1, h, hc => lor_lt (leN_lt (by omega) (fun i hi => hc i (by omega))) (up_lt (hc n (by omega)) (by omega))
theorem bounds_ok {len cap a b : Nat} (h1 : a ≤ b) (h2 : b ≤ cap) : bounds len cap (some (.int .i64 (a : Int))) (some (.int .i64 (b : Int))) none = some (a, b, cap) := by
  have b1 : bound cap (.int .i64 (b : Int)) = some b := by
    show (match Nat.ble b cap with | true => some b | false => none) = _
    rw [ble_iff.2 (by omega)]
  have b2 : bound b (.int .i64 (a : Int)) = some a := by
    show (match Nat.ble a b with | true => some a | false => none) = _
    rw [ble_iff.2 (by omega)]
  unfold bounds
  simp only [boundD, b1, b2]
theorem wrap_nat {n : Nat} (h : n < 9223372036854775808) : IntKind.i64.wrap (n : Int) = n := wrap_i64 (by omega)
theorem nget_ok {H : Heap} {p : Ptr} {len cap loose a sz : Nat} {c : Nat → Nat} (hs : 1 ≤ sz ∧ sz ≤ 8) (ha : a + sz ≤ len) (hc : len ≤ cap) (hm : cap < 1000000) (hl : loose = 0 ∨ loose = 1) (hb : ∀ i, i < sz → c i < 256) (hd : ∀ i, i < sz → loadAt H ⟨p.b, p.o + a + i⟩ 1 = some [.int .u8 (c i : Int)]) (lf n : Nat) (hlf : 9 < lf) :
    callS Tryz.prog S0 lf (n + 1) 221 [.slice (some p) len cap loose, .int .i64 (a : Int), .int .i64 (sz : Int)] H = some (.v (.tuple [.int .u64 ((leN c sz : Nat) : Int), .int .i64 0]), H) := by
  obtain ⟨v, H', e, rfl, rfl⟩ : ret (callS Tryz.prog S0 lf (n + 1) 221 [.slice (some p) len cap loose, .int .i64 (a : Int), .int .i64 (sz : Int)] H) fun v H' => v = .tuple [.int .u64 ((leN c sz : Nat) : Int), .int .i64 0] ∧ H' = H := by
    refine ret_call rfl c221_eq ?_
    have f1 : ¬ ((sz : Int) < 1) := by omega
    have f2 : ¬ ((8 : Int) < (sz : Int)) := by omega
    have f3 : ¬ ((a : Int) < 0) := by omega
    have f4 : ¬ ((len : Int) < (a : Int)) := by omega
    have w1 : IntKind.i64.wrap ((len : Int) - (a : Int)) = ((len - a : Nat) : Int) := by rw [wrap_i64 (by omega)]; omega
    have f5 : ¬ (((len - a : Nat) : Int) < (sz : Int)) := by omega
    obtain ⟨e, he⟩ : ∃ e, e = a + sz := ⟨_, rfl⟩
    have w2 : IntKind.i64.wrap ((a : Int) + (sz : Int)) = (e : Int) := by rw [wrap_i64 (by omega)]; omega
    have bb : bounds len cap (some (.int .i64 (a : Int))) (some (.int .i64 (e : Int))) none = some (a, e, cap) := bounds_ok (by omega) (by omega)
    have hsz : e - a = sz := by omega
    have ne : ¬ (cap = a) := by omega
    have le : a + 1 ≤ cap := by omega
    have hloop : ∀ t : T, t.getP (Tr.path 8) = some (.int .u64 0) → t.getP (Tr.path 40) = some (.slice (some ⟨p.b, p.o + a⟩) sz (cap - a) loose) → t.getP (Tr.path 41) = some (.int .i64 (sz : Int)) → t.getP (Tr.path 42) = some (.int .i64 0) →
        wp (loopF (runC (callS Tryz.prog S0 lf n) lf c221_l0) lf ⟨t, H, []⟩) fun x s => x = .ex 1 ∧ s.d = [] ∧ s.H = H ∧ s.t.getP (Tr.path 8) = some (.int .u64 ((leN c sz : Nat) : Int)) := by
      intro t q8 q40 q41 q42
      refine wp_loopF (fun k s => ∃ i : Nat, k = sz - i ∧ i ≤ sz ∧ s.d = [] ∧ s.H = H ∧ s.t.getP (Tr.path 8) = some (.int .u64 ((leN c i : Nat) : Int)) ∧ s.t.getP (Tr.path 40) = some (.slice (some ⟨p.b, p.o + a⟩) sz (cap - a) loose) ∧ s.t.getP (Tr.path 41) = some (.int .i64 (sz : Int)) ∧ s.t.getP (Tr.path 42) = some (.int .i64 (i : Int))) ?_ lf sz _ ⟨0, rfl, by omega, rfl, rfl, q8, q40, q41, q42⟩ (by omega)
      rintro k ⟨t, HH, d⟩ ⟨i, rfl, hi, hd', hH, q8, q40, q41, q42⟩
      dsimp only at hd' hH q8 q40 q41 q42
      subst hd'; subst hH
      by_cases hlt : i < sz
      · have hlt' : (i : Int) < (sz : Int) := by omega
        have hle' : i + 1 ≤ sz := hlt
        have lk := hd i hlt
        have w3 : IntKind.i64.wrap ((i : Int) + 1) = ((i + 1 : Nat) : Int) := by rw [wrap_i64 (by omega)]; omega
        have w4 : IntKind.i64.wrap (8 * (i : Int)) = ((8 * i : Nat) : Int) := by rw [wrap_i64 (by omega)]; omega
        have w5 : IntKind.u64.wrap (c i : Int) = (c i : Int) := wrap_u64 (by have := hb i hlt; omega)
        have hsh := shl_u64 (hb i hlt) (show i < 8 by omega)
        have hor := or_u64 (leN_lt (c := c) (n := i) (by omega) (fun j hj => hb j (by omega))) (up_lt (hb i hlt) (show i < 8 by omega))
        change _ = some (V.int .u64 ((leN c (i + 1) : Nat) : Int)) at hor
        simp only [c221_l0, q8, q40, q41, q42, hlt', hle', w3, w4, w5, lk, arith_mul, hsh, hor, Nat.mul_one, sy, tup, ↓reduceIte, Nat.reduceEqDiff, Nat.reduceAdd, Nat.reduceSub, Nat.reduceMul, Nat.reduceLeDiff, Int.reduceBEq, reduceCtorEq]
        exact ⟨sz - (i + 1), by omega, i + 1, rfl, by omega, trivial, trivial, rfl, trivial, trivial, by simp⟩
      · have : i = sz := by omega
        subst this
        simp only [c221_l0, q8, q40, q41, q42, Nat.lt_irrefl, Int.lt_irrefl, sy, tup, ↓reduceIte, Nat.reduceEqDiff, Nat.reduceAdd, Nat.reduceSub, Nat.reduceMul, Nat.reduceLeDiff, Int.reduceBEq, reduceCtorEq]
        exact ⟨trivial, trivial, trivial, trivial⟩
    rcases hl with rfl | rfl
    · simp only [c221, f1, f2, f3, f4, f5, w1, w2, bb, hsz, ne, le, Nat.mul_one, sy, tup, ↓reduceIte, Nat.reduceEqDiff, Nat.reduceAdd, Nat.reduceSub, Nat.reduceMul, Nat.reduceLeDiff, Int.reduceBEq, reduceCtorEq]
      refine wp_ctx (F := fun r => seqC _ _ _ (blockC _ r)) (hloop _ ?_ ?_ ?_ ?_) ?_
      · simp only [sy, tup, ↓reduceIte, Nat.reduceEqDiff, Nat.reduceAdd, Nat.reduceSub, Nat.reduceMul, Nat.reduceLeDiff, Int.reduceBEq, reduceCtorEq]
      · simp only [sy, tup, ↓reduceIte, Nat.reduceEqDiff, Nat.reduceAdd, Nat.reduceSub, Nat.reduceMul, Nat.reduceLeDiff, Int.reduceBEq, reduceCtorEq]
      · simp only [sy, tup, ↓reduceIte, Nat.reduceEqDiff, Nat.reduceAdd, Nat.reduceSub, Nat.reduceMul, Nat.reduceLeDiff, Int.reduceBEq, reduceCtorEq]
      · simp only [sy, tup, ↓reduceIte, Nat.reduceEqDiff, Nat.reduceAdd, Nat.reduceSub, Nat.reduceMul, Nat.reduceLeDiff, Int.reduceBEq, reduceCtorEq]
      rintro x ⟨t, HH, d⟩ ⟨rfl, hd', hH, q8⟩
      dsimp only at hd' hH q8
      subst hd'; subst hH
      simp only [q8, sy, tup, ↓reduceIte, Nat.reduceEqDiff, Nat.reduceAdd, Nat.reduceSub, Nat.reduceMul, Nat.reduceLeDiff, Int.reduceBEq, reduceCtorEq]
      simp
    · simp only [c221, f1, f2, f3, f4, f5, w1, w2, bb, hsz, ne, le, Nat.mul_one, sy, tup, ↓reduceIte, Nat.reduceEqDiff, Nat.reduceAdd, Nat.reduceSub, Nat.reduceMul, Nat.reduceLeDiff, Int.reduceBEq, reduceCtorEq]
      refine wp_ctx (F := fun r => seqC _ _ _ (blockC _ r)) (hloop _ ?_ ?_ ?_ ?_) ?_
      · simp only [sy, tup, ↓reduceIte, Nat.reduceEqDiff, Nat.reduceAdd, Nat.reduceSub, Nat.reduceMul, Nat.reduceLeDiff, Int.reduceBEq, reduceCtorEq]
      · simp only [sy, tup, ↓reduceIte, Nat.reduceEqDiff, Nat.reduceAdd, Nat.reduceSub, Nat.reduceMul, Nat.reduceLeDiff, Int.reduceBEq, reduceCtorEq]
      · simp only [sy, tup, ↓reduceIte, Nat.reduceEqDiff, Nat.reduceAdd, Nat.reduceSub, Nat.reduceMul, Nat.reduceLeDiff, Int.reduceBEq, reduceCtorEq]
      · simp only [sy, tup, ↓reduceIte, Nat.reduceEqDiff, Nat.reduceAdd, Nat.reduceSub, Nat.reduceMul, Nat.reduceLeDiff, Int.reduceBEq, reduceCtorEq]
      rintro x ⟨t, HH, d⟩ ⟨rfl, hd', hH, q8⟩
      dsimp only at hd' hH q8
      subst hd'; subst hH
      simp only [q8, sy, tup, ↓reduceIte, Nat.reduceEqDiff, Nat.reduceAdd, Nat.reduceSub, Nat.reduceMul, Nat.reduceLeDiff, Int.reduceBEq, reduceCtorEq]
      simp
  exact e
end Go.Proofs.YtejgheoandfikaaGreat.draft
set_option linter.unusedVariables false
set_option linter.unusedSimpArgs false
set_option maxRecDepth 10000
namespace Go.Proofs.YtejgheoandfikaaGreat.draft
open Go.Am
noncomputable def c222 : CFn := ⟨[.tmp (pp 2)],
 .seq (.reg [
 qo 2 (.p (S.get (.c (.int .u32 0)))) []]) (
 .seq (.reg [
 mv 3 0,
 qo 4 (.c (callF (ff 232) [(.c (.int .u32 0)), (tt 3)])) [pp 3],
 mv 2 4]) (
 .ret))⟩
theorem c222_eq : fnOf Tryz.prog 222 = some c222 := by kernel_rfl
noncomputable def c232_l0 : C := .seq (.reg [
 qo 13 (.p (arF .lss (tt 12) (tt 11))) [pp 12, pp 11]]) (
 .seq (.cond (tt 13) (.skip) (.exit 0)) (
 .seq (.block 1 (.seq (.reg [
 qo 14 (.p (iaddrSF (tt 10) (tt 12) 1)) [pp 10, pp 12],
 qo 15 (.r (loadF (tt 14) 1 .sc)) [pp 14],
 mv 7 15]) (
 .reg [
 mv 16 5,
 mv 17 7,
 qo 18 (.c (callF (ff 234) [(tt 16), (tt 17)])) [pp 16, pp 17],
 mv 5 18]))) (
 .reg [
 qo 19 (.p (arF .add (tt 12) (ii 1))) [pp 12],
 mv 12 19])))
noncomputable def c232 : CFn := ⟨[.tmp (pp 4)],
 .seq (.reg [
 qo 4 (.p (S.get (.c (.int .u32 0)))) []]) (
 .seq (.reg [
 mv 8 0,
 qo 9 (.p (unF .xor (tt 8))) [pp 8],
 mv 5 9]) (
 .seq (.seq (.reg [
 mv 10 1,
 qo 11 (.p (lenF (tt 10))) [pp 10],
 qo 12 (.p (S.get (ii 0))) []]) (
 .block 0 (.loop c232_l0))) (
 .seq (.reg [
 mv 20 5,
 qo 21 (.p (unF .xor (tt 20))) [pp 20],
 mv 4 21]) (
 .ret))))⟩
theorem c232_eq : fnOf Tryz.prog 232 = some c232 := by kernel_rfl
noncomputable def c223 : CFn := ⟨[.tmp (pp 2)],
 .seq (.reg [
 qo 2 (.p (S.get (.c (.slice none 0 0 0)))) []]) (
 .seq (.seq (.reg [
 mv 3 0,
 qo 4 (.r (eqnF false .slice (tt 3) (.c (.slice none 0 0 0)))) [pp 3]]) (
 .cond (tt 4) (.seq (.reg [
 qo 2 (.p (S.get (.c (.slice none 0 0 0)))) []]) (
 .ret)) (.skip))) (
 .seq (.reg [
 qo 5 (.m (bsliceF 0 1 [.int .u8 0] [])) [],
 mv 6 0,
 qo 7 (.a (appF 1 1 (tt 5) (tt 6))) [pp 5, pp 6],
 mv 2 7]) (
 .ret)))⟩
theorem c223_eq : fnOf Tryz.prog 223 = some c223 := by kernel_rfl
noncomputable def c201 : CFn := ⟨[.tmp (pp 2), .tmp (pp 3), .tmp (pp 4)],
 .seq (.reg [
 qo 1 (.m (boxF 64 (tt 0))) [pp 0],
 qo 2 (.p (S.get (.c (.int .u64 0)))) [],
 qo 3 (.p (S.get (.c (.slice none 0 0 0)))) [],
 qo 4 (.p (S.get (ii 0))) []]) (
 .seq (.reg [
 qo 12 (.p (sliceAF 64 1 (tt 1) none none none)) [pp 1],
 qo 13 (.c (callF (ff 221) [(tt 12), (ii 0), (ii 8)])) [pp 12],
 mv 11 13,
 qo 14 (.p (extF (tt 11) 0)) [pp 11],
 qo 15 (.p (extF (tt 11) 1)) [pp 11],
 mv 5 14,
 mv 6 15]) (
 .seq (.reg [
 qo 17 (.p (sliceAF 64 1 (tt 1) none none none)) [pp 1],
 qo 18 (.c (callF (ff 221) [(tt 17), (ii 56), (ii 8)])) [pp 17],
 mv 16 18,
 qo 19 (.p (extF (tt 16) 0)) [pp 16],
 qo 20 (.p (extF (tt 16) 1)) [pp 16],
 mv 7 19,
 mv 8 20]) (
 .seq (.seq (.reg [
 mv 21 5,
 qo 22 (.p (eqcF false false [.int .u64] (tt 21) (.c (.int .u64 0)))) [pp 21],
 mv 23 22,
 mg 24 5 23 false,
 mg 25 7 23 false,
 qg 26 (.p (eqcF true false [.int .u64] (tt 24) (tt 25))) 23 false [pp 24, pp 25],
 qo 27 (.p (pickF (tt 23) (.c (.bool true)) (tt 26))) [pp 23, pp 26]]) (
 .cond (tt 27) (.seq (.reg [
 qo 2 (.p (S.get (.c (.int .u64 0)))) [],
 qo 3 (.p (S.get (.c (.slice none 0 0 0)))) [],
 qo 4 (.p (S.get (ii 5))) []]) (
 .ret)) (.skip))) (
 .seq (.seq (.reg [
 qo 29 (.p (sliceAF 64 1 (tt 1) none none none)) [pp 1],
 qo 30 (.c (callF (ff 221) [(tt 29), (ii 52), (ii 4)])) [pp 29],
 mv 28 30,
 qo 31 (.p (extF (tt 28) 0)) [pp 28],
 qo 32 (.p (extF (tt 28) 1)) [pp 28],
 mv 9 31,
 mv 10 32]) (
 .seq (.reg [
 qo 33 (.p (sliceAF 64 1 (tt 1) none (some (ii 52)) (some (ii 52)))) [pp 1],
 qo 34 (.c (callF (ff 222) [(tt 33)])) [pp 33],
 qo 35 (.p (convF .u64 (tt 34))) [pp 34],
 mv 36 9,
 qo 37 (.p (eqcF true false [.int .u64] (tt 35) (tt 36))) [pp 35, pp 36]]) (
 .cond (tt 37) (.seq (.reg [
 qo 2 (.p (S.get (.c (.int .u64 0)))) [],
 qo 3 (.p (S.get (.c (.slice none 0 0 0)))) [],
 qo 4 (.p (S.get (ii 6))) []]) (
 .ret)) (.skip)))) (
 .seq (.reg [
 mv 38 5,
 qo 39 (.p (sliceAF 64 1 (tt 1) (some (ii 8)) (some (ii 52)) (some (ii 52)))) [pp 1],
 qo 40 (.c (callF (ff 223) [(tt 39)])) [pp 39],
 mv 2 38,
 mv 3 40,
 qo 4 (.p (S.get (ii 0))) []]) (
 .ret))))))⟩
theorem c201_eq : fnOf Tryz.prog 201 = some c201 := by kernel_rfl
theorem take_ok (H : Heap) {r c : Nat} (hr : r < 4294967296) (hc : c < 256) (lf n : Nat) : callS Tryz.prog S0 lf (n + 1) 234 [.int .u32 (r : Int), .int .u8 (c : Int)] H = some (.v (.int .u32 ((crc.takeN r c : Nat) : Int)), H) := by
  have h : (Nat.ble r 4294967295 && Nat.ble c 255) = true := by
    rw [ble_iff.2 (by omega : r ≤ 4294967295), ble_iff.2 (by omega : c ≤ 255)]; rfl
  show (match (match Nat.ble r 4294967295 && Nat.ble c 255 with | true => some (Rs.v (.int .u32 (.ofNat (crc.takeN r c))), H) | false => none) with | some r => some r | none => _) = _
  rw [h]
  rfl
theorem take_lt {r c : Nat} (hr : r < 4294967296) (hc : c < 256) : crc.takeN r c < 4294967296 := crc.half_lt (crc.half_lt (crc.xor_lt hr (by omega)))
noncomputable def notN (r : Nat) : Nat := crc.xo 4294967295 r
theorem notN_lt {r : Nat} (hr : r < 4294967296) : notN r < 4294967296 := crc.xor_lt (by decide) hr
noncomputable def crcN (c : Nat → Nat) : Nat → Nat
  | 0 => 4294967295
  | i + 1 => crc.takeN (crcN c i) (c i)
theorem crcN_lt {c : Nat → Nat} : ∀ {n : Nat}, (∀ i, i < n → c i < 256) → crcN c n < 4294967296
  | 0, _ => by show 4294967295 < _; decide
  | n + 1, hc => take_lt (crcN_lt (fun i hi => hc i (by omega))) (hc n (by omega))
theorem not_u32 {r : Nat} (hr : r < 4294967296) : unary .xor (.int .u32 (r : Int)) = some (.int .u32 ((notN r : Nat) : Int)) := by
  have e : bitI Nat.xor (fun _ a b => a ^^^ b) .u32 (4294967295 : Int) (r : Int) = ((notN r : Nat) : Int) := by
    show (match fitsK .u32 4294967295 && fitsK .u32 r with | true => Int.ofNat (Nat.xor 4294967295 r) | false => _) = _
    rw [crc.fits_u32 hr]; rfl
  show mkI .u32 (bitI Nat.xor (fun _ a b => a ^^^ b) .u32 (4294967295 : Int) (r : Int)) = _
  rw [e, Dh, crc.u32_wrap (notN_lt hr)]
theorem crc_ok {H : Heap} {p : Ptr} {len cap loose : Nat} {c : Nat → Nat} (hm : len < 1000000) (hb : ∀ i, i < len → c i < 256) (hd : ∀ i, i < len → loadAt H ⟨p.b, p.o + i⟩ 1 = some [.int .u8 (c i : Int)]) (lf n : Nat) (hlf : len + 1 < lf) :
    callS Tryz.prog S0 lf (n + 2) 232 [.int .u32 0, .slice (some p) len cap loose] H = some (.v (.int .u32 ((notN (crcN c len) : Nat) : Int)), H) := by
  obtain ⟨v, H', e, rfl, rfl⟩ : ret (callS Tryz.prog S0 lf (n + 2) 232 [.int .u32 0, .slice (some p) len cap loose] H) fun v H' => v = .int .u32 ((notN (crcN c len) : Nat) : Int) ∧ H' = H := by
    refine ret_call rfl c232_eq ?_
    have u0 : unary .xor (.int .u32 0) = some (.int .u32 4294967295) := by kernel_rfl
    have hloop : ∀ t : T, t.getP (Tr.path 5) = some (.int .u32 4294967295) → t.getP (Tr.path 10) = some (.slice (some p) len cap loose) → t.getP (Tr.path 11) = some (.int .i64 (len : Int)) → t.getP (Tr.path 12) = some (.int .i64 0) →
        wp (loopF (runC (callS Tryz.prog S0 lf (n + 1)) lf c232_l0) lf ⟨t, H, []⟩) fun x s => x = .ex 0 ∧ s.d = [] ∧ s.H = H ∧ s.t.getP (Tr.path 5) = some (.int .u32 ((crcN c len : Nat) : Int)) := by
      intro t q5 q10 q11 q12
      refine wp_loopF (fun k s => ∃ i : Nat, k = len - i ∧ i ≤ len ∧ s.d = [] ∧ s.H = H ∧ s.t.getP (Tr.path 5) = some (.int .u32 ((crcN c i : Nat) : Int)) ∧ s.t.getP (Tr.path 10) = some (.slice (some p) len cap loose) ∧ s.t.getP (Tr.path 11) = some (.int .i64 (len : Int)) ∧ s.t.getP (Tr.path 12) = some (.int .i64 (i : Int))) ?_ lf len _ ⟨0, rfl, by omega, rfl, rfl, q5, q10, q11, q12⟩ (by omega)
      rintro k ⟨t, HH, d⟩ ⟨i, rfl, hi, hd', hH, q5, q10, q11, q12⟩
      dsimp only at hd' hH q5 q10 q11 q12
      subst hd'; subst hH
      by_cases hlt : i < len
      · have hlt' : (i : Int) < (len : Int) := by omega
        have hle' : i + 1 ≤ len := hlt
        have lk := hd i hlt
        have w3 : IntKind.i64.wrap ((i : Int) + 1) = ((i + 1 : Nat) : Int) := by rw [wrap_i64 (by omega)]; omega
        have tk := take_ok HH (crcN_lt (c := c) (n := i) (fun j hj => hb j (by omega))) (hb i hlt) lf n
        simp only [c232_l0, q5, q10, q11, q12, hlt', hle', w3, lk, tk, Nat.mul_one, sy, tup, ↓reduceIte, Nat.reduceEqDiff, Nat.reduceAdd, Nat.reduceSub, Nat.reduceMul, Nat.reduceLeDiff, Int.reduceBEq, reduceCtorEq]
        exact ⟨len - (i + 1), by omega, i + 1, rfl, by omega, trivial, trivial, rfl, trivial, trivial, by simp⟩
      · have : i = len := by omega
        subst this
        simp only [c232_l0, q5, q10, q11, q12, Nat.lt_irrefl, Int.lt_irrefl, sy, tup, ↓reduceIte, Nat.reduceEqDiff, Nat.reduceAdd, Nat.reduceSub, Nat.reduceMul, Nat.reduceLeDiff, Int.reduceBEq, reduceCtorEq]
        exact ⟨trivial, trivial, trivial, trivial⟩
    have un := not_u32 (crcN_lt hb)
    simp only [c232, u0, sy, tup, ↓reduceIte, Nat.reduceEqDiff, Nat.reduceAdd, Nat.reduceSub, Nat.reduceMul, Nat.reduceLeDiff, Int.reduceBEq, reduceCtorEq]
    refine wp_ctx (F := fun r => seqC _ _ _ (blockC _ r)) (hloop _ ?_ ?_ ?_ ?_) ?_
    · simp only [sy, tup, ↓reduceIte, Nat.reduceEqDiff, Nat.reduceAdd, Nat.reduceSub, Nat.reduceMul, Nat.reduceLeDiff, Int.reduceBEq, reduceCtorEq]
    · simp only [sy, tup, ↓reduceIte, Nat.reduceEqDiff, Nat.reduceAdd, Nat.reduceSub, Nat.reduceMul, Nat.reduceLeDiff, Int.reduceBEq, reduceCtorEq]
    · simp only [sy, tup, ↓reduceIte, Nat.reduceEqDiff, Nat.reduceAdd, Nat.reduceSub, Nat.reduceMul, Nat.reduceLeDiff, Int.reduceBEq, reduceCtorEq]
    · simp only [sy, tup, ↓reduceIte, Nat.reduceEqDiff, Nat.reduceAdd, Nat.reduceSub, Nat.reduceMul, Nat.reduceLeDiff, Int.reduceBEq, reduceCtorEq]
    rintro x ⟨t, HH, d⟩ ⟨rfl, hd', hH, q5⟩
    dsimp only at hd' hH q5
    subst hd'; subst hH
    simp only [q5, un, sy, tup, ↓reduceIte, Nat.reduceEqDiff, Nat.reduceAdd, Nat.reduceSub, Nat.reduceMul, Nat.reduceLeDiff, Int.reduceBEq, reduceCtorEq]
    simp
  exact e
theorem of_ok {H : Heap} {p : Ptr} {len cap loose : Nat} {c : Nat → Nat} (hm : len < 1000000) (hb : ∀ i, i < len → c i < 256) (hd : ∀ i, i < len → loadAt H ⟨p.b, p.o + i⟩ 1 = some [.int .u8 (c i : Int)]) (lf n : Nat) (hlf : len + 1 < lf) :
    callS Tryz.prog S0 lf (n + 3) 222 [.slice (some p) len cap loose] H = some (.v (.int .u32 ((notN (crcN c len) : Nat) : Int)), H) := by
  have e1 := crc_ok (cap := cap) (loose := loose) hm hb hd lf n hlf
  obtain ⟨v, H', e, rfl, rfl⟩ : ret (callS Tryz.prog S0 lf (n + 3) 222 [.slice (some p) len cap loose] H) fun v H' => v = .int .u32 ((notN (crcN c len) : Nat) : Int) ∧ H' = H := by
    refine ret_call rfl c222_eq ?_
    simp only [c222, e1, sy, tup, ↓reduceIte, Nat.reduceEqDiff, Nat.reduceAdd, Nat.reduceSub, Nat.reduceMul, Nat.reduceLeDiff, Int.reduceBEq, reduceCtorEq]
    simp
  exact e
theorem byte_lt (B i : Nat) : byte B i < 256 := Nat.mod_lt _ (by decide)
theorem load_byte {H : Heap} {b : Bk} {ro : Bool} {B i : Nat} (h : H.get b = some (.rows ro 64 [[.blk B]])) (hi : i < 64) : loadAt H ⟨b, i⟩ 1 = some [.int .u8 (byte B i : Int)] := by
  rw [loadAt_eq h (r := [.blk B]) (by rw [Nat.div_eq_of_lt hi]; rfl), Nat.mod_eq_of_lt hi]
  exact disk.cut_byte B i hi
def rowsB (c : Nat → Nat) : Nat → Nat → List (List V)
  | 0, _ => []
  | n + 1, j => [.int .u8 (c j : Int)] :: rowsB c n (j + 1)
theorem rowsB_len (c : Nat → Nat) : ∀ n j, (rowsB c n j).length = n
  | 0, _ => rfl
  | n + 1, j => by simp [rowsB, rowsB_len c n (j + 1)]
theorem rowsB_get (c : Nat → Nat) : ∀ n j i, i < n → (rowsB c n j)[i]? = some [.int .u8 (c (j + i) : Int)]
  | n + 1, j, 0, _ => rfl
  | n + 1, j, i + 1, h => by
    have := rowsB_get c n (j + 1) i (by omega)
    rw [show j + 1 + i = j + (i + 1) by omega] at this
    exact this
theorem elems_blk {H : Heap} {b : Bk} {B : Nat} (h : H.get b = some (.rows false 64 [[.blk B]])) : ∀ (n j : Nat), j + n ≤ 64 → elems H b 1 n j = some (rowsB (byte B) n j)
  | 0, _, _ => rfl
  | n + 1, j, hj => by
    unfold elems
    rw [load_byte h (show j < 64 by omega)]
    simp only
    rw [show Nat.add j 1 = j + 1 from rfl, elems_blk h n (j + 1) (by omega)]
    rfl
structure BodyAt (H : Heap) (k : Nat) (c : Nat → Nat) (n : Nat) : Prop where
  own : H.get (.run k) = some (.rows false 1 (rowsB c n 0))
  old : k < H.next
theorem BodyAt.turns {H H' : Heap} {k : Nat} {c : Nat → Nat} {n : Nat} (h : BodyAt H k c n) (t : Turns Z H H') : BodyAt H' k c n := ⟨(t.same (.run k) h.old id).trans h.own, Nat.lt_of_lt_of_le h.old t.next⟩
theorem BodyAt.load {H : Heap} {k : Nat} {c : Nat → Nat} {n i : Nat} (h : BodyAt H k c n) (hi : i < n) : loadAt H ⟨.run k, i⟩ 1 = some [.int .u8 (c i : Int)] := by
  rw [loadAt_eq h.own (r := [.int .u8 (c i : Int)]) (by rw [Nat.div_one, nth_eq, rowsB_get c n 0 i hi, Nat.zero_add]), Nat.mod_one]
  rfl
theorem rowsB_shift (c : Nat → Nat) (a : Nat) : ∀ n j, rowsB c n (a + j) = rowsB (fun i => c (a + i)) n j
  | 0, _ => rfl
  | n + 1, j => by
    show _ :: _ = _ :: _
    rw [show a + j + 1 = a + (j + 1) by omega, rowsB_shift c a n (j + 1)]
theorem clone_ok {H : Heap} {b : Bk} {B : Nat} (h : H.get b = some (.rows false 64 [[.blk B]])) (ho : H.Old b) (lf n : Nat) : ret (callS Tryz.prog S0 lf (n + 1) 223 [.slice (some ⟨b, 8⟩) 44 44 0] H) fun v H' =>
    Turns Z H H' ∧ ∃ k, v = .slice (some ⟨.run k, 0⟩) 44 44 1 ∧ BodyAt H' k (fun i => byte B (8 + i)) 44 ∧ H.next ≤ k := by
  have h1 : (H.add (.rows false 1 [])).get b = some (.rows false 64 [[.blk B]]) := ((Turns.add Z H (.rows false 1 [])).same b ho id).trans h
  have he := elems_blk h1 44 8 (by omega)
  have ha : appendV 1 1 (H.add (.rows false 1 [])) (.slice (some ⟨.run H.next, 0⟩) 0 0 0) (.slice (some ⟨b, 8⟩) 44 44 0) = some (.slice (some ⟨.run (H.next + 1), 0⟩) 44 44 1, (H.add (.rows false 1 [])).add (.rows false 1 (rowsB (byte B) 44 8))) := by
    have e0 : elems (H.add (.rows false 1 [])) (.run H.next) 1 0 0 = some [] := rfl
    unfold appendV
    simp only [lenOf, firstE, he, e0]
    rfl
  have hq : eqSl (.slice (some ⟨b, 8⟩) 44 44 0) (.slice none 0 0 0) = some false := rfl
  refine ret_call rfl c223_eq ?_
  simp only [c223, hq, ha, List.replicate_zero, sy, tup, ↓reduceIte, Nat.reduceEqDiff, Nat.reduceAdd, Nat.reduceSub, Nat.reduceMul, Nat.reduceLeDiff, Int.reduceBEq, reduceCtorEq]
  refine ⟨trivial, .inr trivial, _, rfl, (Turns.add Z H _).addm _, H.next + 1, rfl, ⟨?_, ?_⟩, by omega⟩
  · rw [Heap.get_add, if_pos (by simp)]
    rw [rowsB_shift (byte B) 8 44 0]
  · show _ < _
    simp
noncomputable def sealN (B : Nat) : Nat := leN (fun i => byte B (0 + i)) 8
noncomputable def sealE (B : Nat) : Int :=
  if sealN B = 0 ∨ sealN B ≠ leN (fun i => byte B (56 + i)) 8 then 5
  else if notN (crcN (byte B) 52) ≠ leN (fun i => byte B (52 + i)) 4 then 6 else 0
theorem sget_ok (H : Heap) (B : Nat) {lf : Nat} (hlf : 60 < lf) (n : Nat) : ret (callS Tryz.prog S0 lf (n + 4) 201 [.blk B] H) fun v H' => Turns Z H H' ∧
    ((sealE B ≠ 0 ∧ v = .tuple [.int .u64 0, .slice none 0 0 0, .int .i64 (sealE B)]) ∨ (sealE B = 0 ∧ ∃ k, v = .tuple [.int .u64 ((sealN B : Nat) : Int), .slice (some ⟨.run k, 0⟩) 44 44 1, .int .i64 0] ∧ BodyAt H' k (fun i => byte B (8 + i)) 44 ∧ H.next ≤ k)) := by
  have t1 := Turns.add Z H (.rows false 64 [[.blk B]])
  have hg : (H.add (.rows false 64 [[.blk B]])).get (.run H.next) = some (.rows false 64 [[.blk B]]) := by rw [Heap.get_add, if_pos rfl]
  have ho : (H.add (.rows false 64 [[.blk B]])).Old (.run H.next) := by show _ < _; simp
  generalize hH1 : H.add (.rows false 64 [[.blk B]]) = H1 at *
  have g1 : callS Tryz.prog S0 lf (n + 3) 221 [.slice (some ⟨.run H.next, 0⟩) 64 64 0, .int .i64 0, .int .i64 8] H1 = some (.v (.tuple [.int .u64 ((leN (fun i => byte B (0 + i)) 8 : Nat) : Int), .int .i64 0]), H1) := nget_ok (H := H1) (p := ⟨.run H.next, 0⟩) (len := 64) (cap := 64) (loose := 0) (a := 0) (sz := 8) (c := fun i => byte B (0 + i)) (by omega) (by omega) (by omega) (by omega) (.inl rfl) (fun i _ => byte_lt _ _) (fun i hi => by simpa using load_byte hg (i := 0 + i) (by omega)) lf (n + 2) (by omega)
  have g2 : callS Tryz.prog S0 lf (n + 3) 221 [.slice (some ⟨.run H.next, 0⟩) 64 64 0, .int .i64 56, .int .i64 8] H1 = some (.v (.tuple [.int .u64 ((leN (fun i => byte B (56 + i)) 8 : Nat) : Int), .int .i64 0]), H1) := nget_ok (H := H1) (p := ⟨.run H.next, 0⟩) (len := 64) (cap := 64) (loose := 0) (a := 56) (sz := 8) (c := fun i => byte B (56 + i)) (by omega) (by omega) (by omega) (by omega) (.inl rfl) (fun i _ => byte_lt _ _) (fun i hi => by simpa using load_byte hg (i := 56 + i) (by omega)) lf (n + 2) (by omega)
  have g3 : callS Tryz.prog S0 lf (n + 3) 221 [.slice (some ⟨.run H.next, 0⟩) 64 64 0, .int .i64 52, .int .i64 4] H1 = some (.v (.tuple [.int .u64 ((leN (fun i => byte B (52 + i)) 4 : Nat) : Int), .int .i64 0]), H1) := nget_ok (H := H1) (p := ⟨.run H.next, 0⟩) (len := 64) (cap := 64) (loose := 0) (a := 52) (sz := 4) (c := fun i => byte B (52 + i)) (by omega) (by omega) (by omega) (by omega) (.inl rfl) (fun i _ => byte_lt _ _) (fun i hi => by simpa using load_byte hg (i := 52 + i) (by omega)) lf (n + 2) (by omega)
  have g4 := of_ok (H := H1) (p := ⟨.run H.next, 0⟩) (len := 52) (cap := 52) (loose := 0) (c := byte B) (by omega) (fun i _ => byte_lt _ _) (fun i hi => by simpa using load_byte hg (i := i) (by omega)) lf n (by omega)
  obtain ⟨vb, H2, e2, t2, k, rfl, hb, hk⟩ := clone_ok hg ho lf (n + 2)
  have hk' : H.next ≤ k := Nat.le_trans t1.next hk
  change callS Tryz.prog S0 lf (n + 3) 223 _ _ = _ at e2
  have l1 : leN (fun i => byte B (0 + i)) 8 = sealN B := rfl
  rw [l1] at g1
  generalize hN2 : leN (fun i => byte B (56 + i)) 8 = n2 at *
  generalize hN3 : leN (fun i => byte B (52 + i)) 4 = n3 at *
  have hcl : notN (crcN (byte B) 52) < 4294967296 := notN_lt (crcN_lt (fun i _ => byte_lt _ _))
  generalize hN4 : notN (crcN (byte B) 52) = n4 at *
  have w4 : IntKind.u64.wrap (n4 : Int) = (n4 : Int) := wrap_u64 (by omega)
  have hE : sealE B = if sealN B = 0 ∨ sealN B ≠ n2 then 5 else if n4 ≠ n3 then 6 else 0 := by unfold sealE; rw [hN2, hN3, hN4]
  rw [hE]
  generalize sealN B = n1 at *
  refine ret_call rfl c201_eq ?_
  by_cases h0 : n1 = 0
  · subst h0
    have z0 : (((0 : Nat) : Int) == 0) = true := rfl
    simp only [c201, hH1, g1, g2, g3, g4, z0, sliceAF, oget, bounds, boundD, sy, tup, ↓reduceIte, Nat.reduceEqDiff, Nat.reduceAdd, Nat.reduceSub, Nat.reduceMul, Nat.reduceLeDiff, Int.reduceBEq, reduceCtorEq]
    refine ⟨trivial, .inr trivial, _, rfl, t1, .inl ⟨by simp, by simp⟩⟩
  · have z0 : ((n1 : Int) == 0) = false := by simpa using h0
    by_cases h1 : n1 = n2
    · subst h1
      by_cases h2 : n4 = n3
      · subst h2
        have b1 : bound 52 (.int .i64 52) = some 52 := rfl
        have b2 : bound 64 (.int .i64 52) = some 52 := rfl
        have b3 : bound 52 (.int .i64 8) = some 8 := rfl
        have m1 : Nat.beq 52 0 = false := rfl
        have m2 : Nat.beq 52 8 = false := rfl
        simp only [c201, hH1, g1, g2, g3, g4, z0, w4, e2, b1, b2, b3, m1, m2, sliceAF, oget, bounds, boundD, bne_self_eq_false, sy, tup, ↓reduceIte, Nat.reduceEqDiff, Nat.reduceAdd, Nat.reduceSub, Nat.reduceMul, Nat.reduceLeDiff, Int.reduceBEq, reduceCtorEq]
        refine ⟨trivial, .inr trivial, _, rfl, t1.trans t2, .inr ⟨by simp [h0], k, rfl, hb, hk'⟩⟩
      · have z2 : ((n4 : Int) == (n3 : Int)) = false := by simpa using (fun e => h2 (Int.ofNat.inj e))
        have b1 : bound 52 (.int .i64 52) = some 52 := rfl
        have b2 : bound 64 (.int .i64 52) = some 52 := rfl
        simp only [c201, hH1, g1, g2, g3, g4, z0, z2, w4, b1, b2, sliceAF, oget, bounds, boundD, sy, tup, ↓reduceIte, Nat.reduceEqDiff, Nat.reduceAdd, Nat.reduceSub, Nat.reduceMul, Nat.reduceLeDiff, Int.reduceBEq, reduceCtorEq]
        refine ⟨trivial, .inr trivial, _, rfl, t1, .inl ⟨by simp [h0, h2], by simp [h0, h2]⟩⟩
    · have z1 : ((n1 : Int) == (n2 : Int)) = false := by simpa using (fun e => h1 (Int.ofNat.inj e))
      simp only [c201, hH1, g1, g2, g3, g4, z0, z1, sliceAF, oget, bounds, boundD, sy, tup, ↓reduceIte, Nat.reduceEqDiff, Nat.reduceAdd, Nat.reduceSub, Nat.reduceMul, Nat.reduceLeDiff, Int.reduceBEq, reduceCtorEq]
      refine ⟨trivial, .inr trivial, _, rfl, t1, .inl ⟨by simp [h1], by simp [h1]⟩⟩
end Go.Proofs.YtejgheoandfikaaGreat.draft
set_option linter.unusedVariables false
set_option linter.unusedSimpArgs false
set_option maxRecDepth 10000
namespace Go.Proofs.YtejgheoandfikaaGreat.draft
open Go.Am
noncomputable def c226_l0 : C := .seq (.reg [
 qo 13 (.p (arF .lss (tt 12) (ii 16))) [pp 12]]) (
 .seq (.cond (tt 13) (.skip) (.exit 0)) (
 .seq (.block 1 (.seq (.reg [
 mv 14 12,
 qo 15 (.p (idxAF (tt 11) (tt 12) 16 1 .sc)) [pp 11, pp 12],
 mv 4 14,
 mv 5 15]) (
 .block 2 (.seq (.seq (.reg [
 mv 17 5,
 qo 18 (.p (arF .gtr (tt 17) (.c (.int .u8 2)))) [pp 17],
 mv 16 18]) (
 .cond (tt 16) (.skip) (.reg [
 mv 19 4,
 qo 20 (.p (faddrF (tt 1) 0)) [pp 1],
 qo 21 (.p (faddrF (tt 20) 0)) [pp 20],
 qo 22 (.r (loadF (tt 21) 1 .sc)) [pp 21],
 qo 23 (.p (arF .geq (tt 19) (tt 22))) [pp 19, pp 22],
 mv 24 23,
 mg 25 5 24 true,
 qg 26 (.p (eqcF true false [.int .u8] (tt 25) (.c (.int .u8 0)))) 24 true [pp 25],
 qo 27 (.p (pickF (tt 24) (tt 26) (.c (.bool false)))) [pp 24, pp 26],
 mv 16 27]))) (
 .cond (tt 16) (.seq (.reg [
 qo 2 (.p (S.get (.c (.bool false)))) []]) (
 .ret)) (.seq (.reg [
 mv 29 5,
 qo 30 (.p (eqcF false false [.int .u8] (tt 29) (.c (.int .u8 2)))) [pp 29],
 mv 28 30]) (
 .cond (tt 28) (.reg [
 mv 31 3,
 qo 32 (.p (arF .add (tt 31) (ii 1))) [pp 31],
 mv 3 32]) (.skip)))))))) (
 .reg [
 qo 33 (.p (arF .add (tt 12) (ii 1))) [pp 12],
 mv 12 33])))
noncomputable def c226 : CFn := ⟨[.tmp (pp 2)],
 .seq (.reg [
 qo 1 (.m (boxF 21 (tt 0))) [pp 0],
 qo 2 (.p (S.get (.c (.bool false)))) []]) (
 .seq (.seq (.reg [
 qo 6 (.p (faddrF (tt 1) 0)) [pp 1],
 qo 7 (.r (loadF (tt 6) 3 .ag)) [pp 6],
 qo 8 (.c (callF (ff 69) [(tt 7)])) [pp 7],
 qo 9 (.p (unF .not (tt 8))) [pp 8]]) (
 .cond (tt 9) (.seq (.reg [
 qo 2 (.p (S.get (.c (.bool false)))) []]) (
 .ret)) (.skip))) (
 .seq (.reg [
 qo 3 (.p (S.get (ii 0))) []]) (
 .seq (.seq (.reg [
 qo 10 (.p (faddrF (tt 1) 3)) [pp 1],
 qo 11 (.r (loadF (tt 10) 16 .ag)) [pp 10],
 qo 12 (.p (S.get (ii 0))) []]) (
 .block 0 (.loop c226_l0))) (
 .seq (.reg [
 mv 34 3,
 qo 35 (.p (arF .leq (tt 34) (ii 1))) [pp 34],
 mv 36 35,
 qg 37 (.p (faddrF (tt 1) 19)) 36 true [pp 1],
 qg 38 (.r (loadF (tt 37) 1 .sc)) 36 true [pp 37],
 qg 39 (.p (arF .geq (tt 38) (ii 0))) 36 true [pp 38],
 qo 40 (.p (pickF (tt 36) (tt 39) (.c (.bool false)))) [pp 36, pp 39],
 mv 41 40,
 qg 42 (.p (faddrF (tt 1) 19)) 41 true [pp 1],
 qg 43 (.r (loadF (tt 42) 1 .sc)) 41 true [pp 42],
 qg 44 (.p (faddrF (tt 1) 0)) 41 true [pp 1],
 qg 45 (.p (faddrF (tt 44) 1)) 41 true [pp 44],
 qg 46 (.r (loadF (tt 45) 1 .sc)) 41 true [pp 45],
 qg 47 (.p (arF .lss (tt 43) (tt 46))) 41 true [pp 43, pp 46],
 qo 48 (.p (pickF (tt 41) (tt 47) (.c (.bool false)))) [pp 41, pp 47],
 mv 49 48,
 mg 50 3 49 true,
 qg 51 (.p (eqcF false false [.int .i64] (tt 50) (ii 1))) 49 true [pp 50],
 mg 52 51 49 true,
 qg 53 (.p (faddrF (tt 1) 19)) 52 false [pp 1],
 qg 54 (.r (loadF (tt 53) 1 .sc)) 52 false [pp 53],
 qg 55 (.p (eqcF false false [.int .i64] (tt 54) (ii 0))) 52 false [pp 54],
 qg 56 (.p (pickF (tt 52) (.c (.bool true)) (tt 55))) 49 true [pp 52, pp 55],
 qo 57 (.p (pickF (tt 49) (tt 56) (.c (.bool false)))) [pp 49, pp 56],
 mv 2 57]) (
 .ret)))))⟩
theorem c226_eq : fnOf Tryz.prog 226 = some c226 := by kernel_rfl
noncomputable def c207 : CFn := ⟨[.tmp (pp 2)],
 .seq (.reg [
 qo 1 (.m (boxF 23 (tt 0))) [pp 0],
 qo 2 (.p (S.get (.c (.bool false)))) []]) (
 .seq (.reg [
 qo 3 (.p (faddrF (tt 1) 0)) [pp 1],
 qo 4 (.r (loadF (tt 3) 1 .sc)) [pp 3],
 qo 5 (.p (eqcF true false [.int .u64] (tt 4) (.c (.int .u64 0)))) [pp 4],
 mv 6 5,
 qg 7 (.p (faddrF (tt 1) 1)) 6 true [pp 1],
 qg 8 (.r (loadF (tt 7) 1 .sc)) 6 true [pp 7],
 qg 9 (.p (arF .geq (tt 8) (ii 0))) 6 true [pp 8],
 qo 10 (.p (pickF (tt 6) (tt 9) (.c (.bool false)))) [pp 6, pp 9],
 mv 11 10,
 qg 12 (.p (faddrF (tt 1) 1)) 11 true [pp 1],
 qg 13 (.r (loadF (tt 12) 1 .sc)) 11 true [pp 12],
 qg 14 (.p (faddrF (tt 1) 2)) 11 true [pp 1],
 qg 15 (.p (faddrF (tt 14) 0)) 11 true [pp 14],
 qg 16 (.p (faddrF (tt 15) 0)) 11 true [pp 15],
 qg 17 (.r (loadF (tt 16) 1 .sc)) 11 true [pp 16],
 qg 18 (.p (arF .lss (tt 13) (tt 17))) 11 true [pp 13, pp 17],
 qo 19 (.p (pickF (tt 11) (tt 18) (.c (.bool false)))) [pp 11, pp 18],
 mv 20 19,
 qg 21 (.p (faddrF (tt 1) 2)) 20 true [pp 1],
 qg 22 (.r (loadF (tt 21) 21 .ag)) 20 true [pp 21],
 qg 23 (.c (callF (ff 226) [(tt 22)])) 20 true [pp 22],
 qo 24 (.p (pickF (tt 20) (tt 23) (.c (.bool false)))) [pp 20, pp 23],
 mv 2 24]) (
 .ret))⟩
theorem c207_eq : fnOf Tryz.prog 207 = some c207 := by kernel_rfl
noncomputable def c206 : CFn := ⟨[.tmp (pp 2)],
 .seq (.reg [
 qo 2 (.p (S.get (.c (.bool false)))) []]) (
 .seq (.reg [
 mv 3 0,
 qo 4 (.p (arF .geq (tt 3) (.c (.int .u64 1)))) [pp 3],
 mv 5 4,
 mg 6 0 5 true,
 qg 7 (.p (arF .leq (tt 6) (.c (.int .u64 4611686018427387904)))) 5 true [pp 6],
 qo 8 (.p (pickF (tt 5) (tt 7) (.c (.bool false)))) [pp 5, pp 7],
 mv 2 8]) (
 .ret))⟩
theorem c206_eq : fnOf Tryz.prog 206 = some c206 := by kernel_rfl
theorem sfine_ok (H : Heap) {m s r c : Int} {g : Bool} {S : List Nat} (hS : S.length = 16) (lf n : Nat) (hlf : 17 < lf) : ret (callS Tryz.prog S0 lf (n + 3) 226 [ros m s r S c g] H) fun v H' => (∃ z : Bool, v = .bool z ∧ (z = true ↔ fine m s r S c)) ∧ Turns Z H H' := by
  have t1 := Turns.add Z H (.rows false 21 [rcells m s r S c g])
  have hg : (H.add (.rows false 21 [rcells m s r S c g])).get (.run H.next) = some (.rows false 21 [rcells m s r S c g]) := by rw [Heap.get_add, if_pos rfl]
  have og : (H.add (.rows false 21 [rcells m s r S c g])).Old (.run H.next) := by show _ < _; simp
  have hr : ∀ {H' : Heap}, Turns Z (H.add (.rows false 21 [rcells m s r S c g])) H' → RosAt H' (.run H.next) m s r S c g := fun t => ⟨(t.same _ og id).trans hg, hS⟩
  have lg := ros_geo (hr (Turns.refl Z _))
  have hw := r_width hS m s r c g
  generalize hH1 : H.add (.rows false 21 [rcells m s r S c g]) = H1 at *
  obtain ⟨v, H2, e2, rfl, t2⟩ := may_ok H1 m s r lf n
  unfold geo at e2
  refine ret_call rfl c226_eq ?_
  cases hm : may m s r with
  | false =>
    rw [hm] at e2
    simp only [c226, ros, hw, hH1, lg, e2, sy, tup, ↓reduceIte, Nat.reduceEqDiff, Nat.reduceAdd, Nat.reduceSub, Nat.reduceMul, Nat.reduceLeDiff, Int.reduceBEq, reduceCtorEq]
    exact ⟨trivial, .inr trivial, _, rfl, ⟨false, rfl, by unfold fine; rw [hm]; simp⟩, t1.trans t2⟩
  | true =>
    rw [hm] at e2
    have hr2 := hr t2
    have l0 := ros_m hr2
    have lS := ros_sts hr2
    simp only [c226, ros, hw, hH1, lg, e2, lS, sy, tup, ↓reduceIte, Nat.reduceEqDiff, Nat.reduceAdd, Nat.reduceSub, Nat.reduceMul, Nat.reduceLeDiff, Int.reduceBEq, reduceCtorEq]
    have hloop : ∀ t : T, t.getP (Tr.path 1) = some (.ptr (some ⟨.run H.next, 0⟩)) → t.getP (Tr.path 3) = some (.int .i64 0) → t.getP (Tr.path 11) = some (.agg (sts S)) → t.getP (Tr.path 12) = some (.int .i64 0) →
        wp (loopF (runC (callS Tryz.prog S0 lf (n + 2)) lf c226_l0) lf ⟨t, H2, []⟩) fun x' s' => s'.d = [] ∧ s'.H = H2 ∧ ((x' = .ex 0 ∧ okTo m S 16 ∧ s'.t.getP (Tr.path 1) = some (.ptr (some ⟨.run H.next, 0⟩)) ∧ s'.t.getP (Tr.path 3) = some (.int .i64 (cnt S 2 : Int))) ∨
          (x' = .ret ∧ ¬ okTo m S 16 ∧ s'.t.getP (Tr.path 2) = some (.bool false))) := by
      intro t q1 q3 q11 q4
      refine wp_loopF (fun j s' => ∃ i : Nat, j = 16 - i ∧ i ≤ 16 ∧ s'.d = [] ∧ s'.H = H2 ∧ okTo m S i ∧ s'.t.getP (Tr.path 1) = some (.ptr (some ⟨.run H.next, 0⟩)) ∧ s'.t.getP (Tr.path 3) = some (.int .i64 (cnt (S.take i) 2 : Int)) ∧ s'.t.getP (Tr.path 11) = some (.agg (sts S)) ∧ s'.t.getP (Tr.path 12) = some (.int .i64 (i : Int))) ?_ lf 16 _ ⟨0, rfl, by omega, rfl, rfl, fun j hj => absurd hj (by omega), q1, q3, q11, q4⟩ (by omega)
      rintro j ⟨t, HH, d⟩ ⟨i, rfl, hi, hd, hH, hok, q1, q3, q11, q4⟩
      dsimp only at hd hH q1 q3 q11 q4
      subst hd; subst hH
      by_cases hlt : i < 16
      · have hlt' : (i : Int) < 16 := by omega
        have hle' : i + 1 ≤ 16 := hlt
        have hiS : i < S.length := by omega
        have hget : S[i]? = some S[i] := List.getElem?_eq_getElem hiS
        have lx := sts_cut hiS
        have hn := cnt_le (S.take i) 2
        rw [List.length_take] at hn
        have w1 : IntKind.i64.wrap ((i : Int) + 1) = ((i + 1 : Nat) : Int) := by rw [wrap_i64 (by omega)]; omega
        have w2 : IntKind.i64.wrap ((cnt (S.take i) 2 : Int) + 1) = ((cnt (S.take i) 2 + 1 : Nat) : Int) := by rw [wrap_i64 (by omega)]; omega
        have hk := cnt_take (x := 2) hiS
        by_cases h2 : 2 < S[i]
        · have h2' : (2 : Int) < ((S[i] : Nat) : Int) := by omega
          simp only [c226_l0, q1, q3, q11, q4, hlt', hle', lx, h2', sy, tup, ↓reduceIte, Nat.reduceEqDiff, Nat.reduceAdd, Nat.reduceSub, Nat.reduceMul, Nat.reduceLeDiff, Int.reduceBEq, reduceCtorEq]
          refine ⟨trivial, trivial, .inr ⟨trivial, fun h => ?_, trivial⟩⟩
          have := (h i hlt _ hget).1
          omega
        · have h2' : ¬ (2 : Int) < ((S[i] : Nat) : Int) := by omega
          by_cases hmi : m ≤ (i : Int)
          · by_cases h0 : S[i] = 0
            · have hb0 : (((S[i] : Nat) : Int) == 0) = true := by simp [h0]
              have hb2 : (((S[i] : Nat) : Int) == 2) = false := by simp [h0]
              rw [if_neg (by omega), Nat.add_zero] at hk
              simp only [c226_l0, q1, q3, q11, q4, hlt', hle', lx, l0, h2', hmi, hb0, hb2, w1, sy, tup, ↓reduceIte, Nat.reduceEqDiff, Nat.reduceAdd, Nat.reduceSub, Nat.reduceMul, Nat.reduceLeDiff, Int.reduceBEq, reduceCtorEq]
              exact ⟨16 - (i + 1), by omega, i + 1, rfl, by omega, trivial, trivial, okTo_succ hok hget ⟨by omega, fun _ => h0⟩, by simp [q1], by simp [q3, hk], by simp [q11], by simp⟩
            · have hb0 : (((S[i] : Nat) : Int) == 0) = false := by simp; omega
              simp only [c226_l0, q1, q3, q11, q4, hlt', hle', lx, l0, h2', hmi, hb0, sy, tup, ↓reduceIte, Nat.reduceEqDiff, Nat.reduceAdd, Nat.reduceSub, Nat.reduceMul, Nat.reduceLeDiff, Int.reduceBEq, reduceCtorEq]
              refine ⟨trivial, trivial, .inr ⟨trivial, fun h => ?_, trivial⟩⟩
              exact h0 ((h i hlt _ hget).2 hmi)
          · by_cases e2 : S[i] = 2
            · have hb2 : (((S[i] : Nat) : Int) == 2) = true := by simp [e2]
              rw [if_pos e2] at hk
              simp only [c226_l0, q1, q3, q11, q4, hlt', hle', lx, l0, h2', hmi, hb2, w1, w2, sy, tup, ↓reduceIte, Nat.reduceEqDiff, Nat.reduceAdd, Nat.reduceSub, Nat.reduceMul, Nat.reduceLeDiff, Int.reduceBEq, reduceCtorEq]
              exact ⟨16 - (i + 1), by omega, i + 1, rfl, by omega, trivial, trivial, okTo_succ hok hget ⟨by omega, fun h => absurd h hmi⟩, by simp [q1], by simp [hk], by simp [q11], by simp⟩
            · have hb2 : (((S[i] : Nat) : Int) == 2) = false := by simp; omega
              rw [if_neg e2, Nat.add_zero] at hk
              simp only [c226_l0, q1, q3, q11, q4, hlt', hle', lx, l0, h2', hmi, hb2, w1, sy, tup, ↓reduceIte, Nat.reduceEqDiff, Nat.reduceAdd, Nat.reduceSub, Nat.reduceMul, Nat.reduceLeDiff, Int.reduceBEq, reduceCtorEq]
              exact ⟨16 - (i + 1), by omega, i + 1, rfl, by omega, trivial, trivial, okTo_succ hok hget ⟨by omega, fun h => absurd h hmi⟩, by simp [q1], by simp [q3, hk], by simp [q11], by simp⟩
      · have : i = 16 := by omega
        subst this
        have hnl : decide (((16 : Nat) : Int) < 16) = false := rfl
        rw [List.take_of_length_le (by omega)] at q3
        simp only [c226_l0, q1, q3, q11, q4, hnl, sy, tup, ↓reduceIte, Nat.reduceEqDiff, Nat.reduceAdd, Nat.reduceSub, Nat.reduceMul, Nat.reduceLeDiff, Int.reduceBEq, reduceCtorEq]
        exact ⟨trivial, trivial, .inl ⟨trivial, hok, by first | trivial | exact q1, by first | trivial | exact q3⟩⟩
    refine wp_ctx (F := fun r => seqC _ _ _ (blockC _ r)) (hloop _ ?_ ?_ ?_ ?_) ?_
    · simp only [sy, tup, ↓reduceIte, Nat.reduceEqDiff, Nat.reduceAdd, Nat.reduceSub, Nat.reduceMul, Nat.reduceLeDiff, Int.reduceBEq, reduceCtorEq]
    · simp only [sy, tup, ↓reduceIte, Nat.reduceEqDiff, Nat.reduceAdd, Nat.reduceSub, Nat.reduceMul, Nat.reduceLeDiff, Int.reduceBEq, reduceCtorEq]
    · simp only [sy, tup, ↓reduceIte, Nat.reduceEqDiff, Nat.reduceAdd, Nat.reduceSub, Nat.reduceMul, Nat.reduceLeDiff, Int.reduceBEq, reduceCtorEq]
    · simp only [sy, tup, ↓reduceIte, Nat.reduceEqDiff, Nat.reduceAdd, Nat.reduceSub, Nat.reduceMul, Nat.reduceLeDiff, Int.reduceBEq, reduceCtorEq]
    rintro x' ⟨t, HH, d⟩ ⟨hd, hH, ⟨rfl, hok, q1, q3⟩ | ⟨rfl, hno, q2⟩⟩
    · dsimp only at hd hH q1 q3
      subst hd; subst hH
      have lc := ros_c hr2
      have ls := ros_s hr2
      have hN : (fine m s r S c) = (cnt S 2 ≤ 1 ∧ 0 ≤ c ∧ c < s ∧ (cnt S 2 = 1 ∨ c = 0)) := by unfold fine; rw [hm]; simp [hok]
      rw [hN]
      by_cases h1 : cnt S 2 ≤ 1
      · have h1' : (cnt S 2 : Int) ≤ 1 := by omega
        by_cases hc0 : 0 ≤ c
        · by_cases hcs : c < s
          · by_cases h11 : cnt S 2 = 1
            · have hb : ((cnt S 2 : Int) == 1) = true := by simp [h11]
              simp only [q1, q3, lc, ls, h1', hc0, hcs, hb, sy, tup, ↓reduceIte, Nat.reduceEqDiff, Nat.reduceAdd, Nat.reduceSub, Nat.reduceMul, Nat.reduceLeDiff, Int.reduceBEq, reduceCtorEq]
              exact ⟨trivial, .inr trivial, _, rfl, ⟨_, rfl, by simp [h1, hc0, hcs, h11]⟩, t1.trans t2⟩
            · have hb : ((cnt S 2 : Int) == 1) = false := by simp; omega
              by_cases hcz : c = 0
              · have hbc : (c == 0) = true := by simp [hcz]
                simp only [q1, q3, lc, ls, h1', hc0, hcs, hb, hbc, sy, tup, ↓reduceIte, Nat.reduceEqDiff, Nat.reduceAdd, Nat.reduceSub, Nat.reduceMul, Nat.reduceLeDiff, Int.reduceBEq, reduceCtorEq]
                exact ⟨trivial, .inr trivial, _, rfl, ⟨_, rfl, by simp [h1, hc0, hcs, hcz]⟩, t1.trans t2⟩
              · have hbc : (c == 0) = false := by simp [hcz]
                simp only [q1, q3, lc, ls, h1', hc0, hcs, hb, hbc, sy, tup, ↓reduceIte, Nat.reduceEqDiff, Nat.reduceAdd, Nat.reduceSub, Nat.reduceMul, Nat.reduceLeDiff, Int.reduceBEq, reduceCtorEq]
                exact ⟨trivial, .inr trivial, _, rfl, ⟨_, rfl, by simp [h11, hcz]⟩, t1.trans t2⟩
          · simp only [q1, q3, lc, ls, h1', hc0, hcs, sy, tup, ↓reduceIte, Nat.reduceEqDiff, Nat.reduceAdd, Nat.reduceSub, Nat.reduceMul, Nat.reduceLeDiff, Int.reduceBEq, reduceCtorEq]
            exact ⟨trivial, .inr trivial, _, rfl, ⟨_, rfl, by simp [hcs]⟩, t1.trans t2⟩
        · simp only [q1, q3, lc, ls, h1', hc0, sy, tup, ↓reduceIte, Nat.reduceEqDiff, Nat.reduceAdd, Nat.reduceSub, Nat.reduceMul, Nat.reduceLeDiff, Int.reduceBEq, reduceCtorEq]
          exact ⟨trivial, .inr trivial, _, rfl, ⟨_, rfl, by simp [hc0]⟩, t1.trans t2⟩
      · have h1' : ¬ (cnt S 2 : Int) ≤ 1 := by omega
        simp only [q1, q3, lc, ls, h1', sy, tup, ↓reduceIte, Nat.reduceEqDiff, Nat.reduceAdd, Nat.reduceSub, Nat.reduceMul, Nat.reduceLeDiff, Int.reduceBEq, reduceCtorEq]
        exact ⟨trivial, .inr trivial, _, rfl, ⟨_, rfl, by simp [h1]⟩, t1.trans t2⟩
    · dsimp only at hd hH q2
      subst hd; subst hH
      simp only [q2, sy, tup, ↓reduceIte, Nat.reduceEqDiff, Nat.reduceAdd, Nat.reduceSub, Nat.reduceMul, Nat.reduceLeDiff, Int.reduceBEq, reduceCtorEq]
      exact ⟨trivial, .inr trivial, _, rfl, ⟨false, rfl, by unfold fine; simp [hno]⟩, t1.trans t2⟩
def scells (id me m s r : Int) (S : List Nat) (c : Int) (g : Bool) : List V := [.int .u64 id, .int .i64 me] ++ rcells m s r S c g
def sup (id me m s r : Int) (S : List Nat) (c : Int) (g : Bool) : V := .agg (scells id me m s r S c g)
theorem s_thin (id me m s r : Int) (S : List Nat) (c : Int) (g : Bool) : Thin (scells id me m s r S c g) := by
  intro v hv
  unfold scells at hv
  rcases List.mem_append.1 hv with h | h
  · simp at h; rcases h with rfl | rfl <;> rfl
  · exact r_thin m s r S c g v h
theorem s_len {S : List Nat} (hS : S.length = 16) (id me m s r c : Int) (g : Bool) : (scells id me m s r S c g).length = 23 := by
  unfold scells
  rw [List.length_append, r_len hS]
  rfl
theorem s_width {S : List Nat} (hS : S.length = 16) (id me m s r c : Int) (g : Bool) : width (scells id me m s r S c g) = 23 := by
  rw [width_thin (s_thin id me m s r S c g), s_len hS]
structure SupAt (H : Heap) (b : Bk) (id me m s r : Int) (S : List Nat) (c : Int) (g : Bool) : Prop where
  own : H.get b = some (.rows false 23 [scells id me m s r S c g])
  len : S.length = 16
section
variable {H : Heap} {b : Bk} {id me m s r : Int} {S : List Nat} {c : Int} {g : Bool} (h : SupAt H b id me m s r S c g)
include h
theorem sup_cut {o n : Nat} (hn : o + n ≤ 23) (ho : o < 23) : loadAt H ⟨b, o⟩ n = some (((scells id me m s r S c g).drop o).take n) := by
  rw [loadAt_eq h.own (r := scells id me m s r S c g) (nth_of (by rw [Nat.div_eq_of_lt ho]; rfl)), Nat.mod_eq_of_lt ho]
  exact cut_thin (s_thin id me m s r S c g) (by rw [s_len h.len]; exact hn)
theorem sup_all : loadAt H ⟨b, 0⟩ 23 = some (scells id me m s r S c g) := by
  rw [sup_cut h (by omega) (by omega), List.drop_zero, List.take_of_length_le (by rw [s_len h.len]; omega)]
theorem sup_id : loadAt H ⟨b, 0⟩ 1 = some [.int .u64 id] := by rw [sup_cut h (by omega) (by omega)]; rfl
theorem sup_self : loadAt H ⟨b, 1⟩ 1 = some [.int .i64 me] := by rw [sup_cut h (by omega) (by omega)]; rfl
theorem sup_m : loadAt H ⟨b, 2⟩ 1 = some [.int .i64 m] := by rw [sup_cut h (by omega) (by omega)]; rfl
theorem sup_r : loadAt H ⟨b, 2⟩ 21 = some (rcells m s r S c g) := by
  rw [sup_cut h (by omega) (by omega)]
  unfold scells
  show some (List.take 21 (rcells m s r S c g)) = _
  rw [List.take_of_length_le (by rw [r_len h.len]; omega)]
end
def evt (n : Int) : Bool := decide (1 ≤ n) && decide (n ≤ 4611686018427387904)
theorem event_ok (H : Heap) (x : Int) (lf n : Nat) : callS Tryz.prog S0 lf (n + 1) 206 [.int .u64 x] H = some (.v (.bool (evt x)), H) := by
  obtain ⟨v, H', e, rfl, rfl⟩ : ret (callS Tryz.prog S0 lf (n + 1) 206 [.int .u64 x] H) fun v H' => v = .bool (evt x) ∧ H' = H := by
    refine ret_call rfl c206_eq ?_
    by_cases h : 1 ≤ x
    · simp only [c206, h, sy, tup, ↓reduceIte, Nat.reduceEqDiff, Nat.reduceAdd, Nat.reduceSub, Nat.reduceMul, Nat.reduceLeDiff, Int.reduceBEq, reduceCtorEq]
      simp [evt, h]
    · simp only [c206, h, sy, tup, ↓reduceIte, Nat.reduceEqDiff, Nat.reduceAdd, Nat.reduceSub, Nat.reduceMul, Nat.reduceLeDiff, Int.reduceBEq, reduceCtorEq]
      simp [evt, h]
  exact e
def smay (id me m s r : Int) (S : List Nat) (c : Int) : Prop := id ≠ 0 ∧ 0 ≤ me ∧ me < m ∧ fine m s r S c
theorem smay_ok (H : Heap) {id me m s r c : Int} {g : Bool} {S : List Nat} (hS : S.length = 16) (lf n : Nat) (hlf : 17 < lf) : ret (callS Tryz.prog S0 lf (n + 4) 207 [sup id me m s r S c g] H) fun v H' => (∃ z : Bool, v = .bool z ∧ (z = true ↔ smay id me m s r S c)) ∧ Turns Z H H' := by
  have t1 := Turns.add Z H (.rows false 23 [scells id me m s r S c g])
  have hg : (H.add (.rows false 23 [scells id me m s r S c g])).get (.run H.next) = some (.rows false 23 [scells id me m s r S c g]) := by rw [Heap.get_add, if_pos rfl]
  have hr : SupAt (H.add (.rows false 23 [scells id me m s r S c g])) (.run H.next) id me m s r S c g := ⟨hg, hS⟩
  have l1 := sup_id hr
  have l2 := sup_self hr
  have l3 := sup_m hr
  have l4 := sup_r hr
  have hw := s_width hS id me m s r c g
  generalize hH1 : H.add (.rows false 23 [scells id me m s r S c g]) = H1 at *
  obtain ⟨v, H2, e2, ⟨z, rfl, hz⟩, t2⟩ := sfine_ok H1 (m := m) (s := s) (r := r) (c := c) (g := g) hS lf n hlf
  unfold ros at e2
  refine ret_call rfl c207_eq ?_
  by_cases h0 : id = 0
  · have b0 : (id == 0) = true := by simp [h0]
    simp only [c207, sup, hw, hH1, l1, l2, l3, l4, b0, sy, tup, ↓reduceIte, Nat.reduceEqDiff, Nat.reduceAdd, Nat.reduceSub, Nat.reduceMul, Nat.reduceLeDiff, Int.reduceBEq, reduceCtorEq]
    exact ⟨trivial, .inr trivial, _, rfl, ⟨false, rfl, by simp [smay, h0]⟩, t1⟩
  · have b0 : (id == 0) = false := by simp [h0]
    by_cases h1 : 0 ≤ me
    · by_cases h2 : me < m
      · simp only [c207, sup, hw, hH1, l1, l2, l3, l4, b0, h1, h2, e2, sy, tup, ↓reduceIte, Nat.reduceEqDiff, Nat.reduceAdd, Nat.reduceSub, Nat.reduceMul, Nat.reduceLeDiff, Int.reduceBEq, reduceCtorEq]
        exact ⟨trivial, .inr trivial, _, rfl, ⟨z, rfl, by simp [smay, h0, h1, h2, hz]⟩, t1.trans t2⟩
      · simp only [c207, sup, hw, hH1, l1, l2, l3, l4, b0, h1, h2, sy, tup, ↓reduceIte, Nat.reduceEqDiff, Nat.reduceAdd, Nat.reduceSub, Nat.reduceMul, Nat.reduceLeDiff, Int.reduceBEq, reduceCtorEq]
        exact ⟨trivial, .inr trivial, _, rfl, ⟨false, rfl, by simp [smay, h2]⟩, t1⟩
    · simp only [c207, sup, hw, hH1, l1, l2, l3, l4, b0, h1, sy, tup, ↓reduceIte, Nat.reduceEqDiff, Nat.reduceAdd, Nat.reduceSub, Nat.reduceMul, Nat.reduceLeDiff, Int.reduceBEq, reduceCtorEq]
      exact ⟨trivial, .inr trivial, _, rfl, ⟨false, rfl, by simp [smay, h1]⟩, t1⟩
end Go.Proofs.YtejgheoandfikaaGreat.draft
set_option linter.unusedVariables false
set_option linter.unusedSimpArgs false
set_option maxRecDepth 10000
namespace Go.Proofs.YtejgheoandfikaaGreat.draft
open Go.Am
noncomputable def c202 : CFn := ⟨[.tmp (pp 4)],
 .seq (.reg [
 qo 4 (.p (S.get (.c (.int .u64 0)))) []]) (
 .seq (.regD [
 mv 8 0,
 qo 9 (.p (nilcF (tt 8))) [pp 8],
 qo 10 (.p (faddrF (tt 9) 0)) [pp 9],
 qo 11 (.r (loadF (tt 10) 1 .sc)) [pp 10],
 mv 12 0,
 qo 13 (.p (nilcF (tt 12))) [pp 12],
 qo 14 (.p (faddrF (tt 13) 1)) [pp 13],
 qo 15 (.r (loadF (tt 14) 1 .sc)) [pp 14],
 mv 16 1,
 qo 17 (.c (callF (ff 221) [(tt 11), (tt 15), (tt 16)])) [pp 11, pp 15, pp 16],
 mv 7 17,
 qo 18 (.p (extF (tt 7) 0)) [pp 7],
 qo 19 (.p (extF (tt 7) 1)) [pp 7],
 mv 5 18,
 mv 6 19] [0, 1, 3, 7, 0, 16, 48, 112, 0, 511, 1023, 2047, 2047, 4095, 16383]) (
 .seq (.reg [
 mv 20 0,
 qo 21 (.p (nilcF (tt 20))) [pp 20],
 qo 22 (.p (faddrF (tt 21) 1)) [pp 21],
 qo 23 (.r (loadF (tt 22) 1 .sc)) [pp 22],
 mv 24 1,
 qo 25 (.p (arF .add (tt 23) (tt 24))) [pp 23, pp 24],
 qo 26 (.p (nilcF (tt 20))) [pp 20],
 qo 27 (.p (faddrF (tt 26) 1)) [pp 26],
 qn (.a (storeF (tt 27) (tt 25) 1)) [pp 27, pp 25]]) (
 .seq (.reg [
 mv 28 5,
 mv 4 28]) (
 .ret))))⟩
theorem c202_eq : fnOf Tryz.prog 202 = some c202 := by kernel_rfl
noncomputable def c205 : CFn := ⟨[.tmp (pp 2)],
 .seq (.reg [
 qo 2 (.p (S.get (.c (.bool false)))) []]) (
 .seq (.reg [
 mv 3 0,
 qo 4 (.p (eqcF true false [.int .u8] (tt 3) (.c (.int .u8 0)))) [pp 3],
 mv 2 4]) (
 .ret))⟩
theorem c205_eq : fnOf Tryz.prog 205 = some c205 := by kernel_rfl
noncomputable def c225_l0 : C := .seq (.reg [
 qo 9 (.p (arF .lss (tt 8) (tt 7))) [pp 8, pp 7]]) (
 .seq (.cond (tt 9) (.skip) (.exit 0)) (
 .seq (.block 1 (.seq (.reg [
 mv 10 8,
 mv 5 10]) (
 .seq (.reg [
 mv 11 1,
 mv 12 0,
 mv 13 5,
 qo 14 (.p (iaddrSF (tt 12) (tt 13) 1)) [pp 12, pp 13],
 qo 15 (.r (loadF (tt 14) 1 .sc)) [pp 14],
 qo 16 (.c (callF (tt 11) [(tt 15)])) [pp 11, pp 15]]) (
 .cond (tt 16) (.seq (.reg [
 mv 17 5,
 mv 4 17]) (
 .ret)) (.skip))))) (
 .reg [
 qo 18 (.p (arF .add (tt 8) (ii 1))) [pp 8],
 mv 8 18])))
noncomputable def c225 : CFn := ⟨[.tmp (pp 4)],
 .seq (.reg [
 qo 4 (.p (S.get (ii 0))) []]) (
 .seq (.seq (.reg [
 mv 6 0,
 qo 7 (.p (lenF (tt 6))) [pp 6],
 qo 8 (.p (S.get (ii 0))) []]) (
 .block 0 (.loop c225_l0))) (
 .seq (.reg [
 qo 4 (.p (S.get (ii (-1)))) []]) (
 .ret)))⟩
theorem c225_eq : fnOf Tryz.prog 225 = some c225 := by kernel_rfl
noncomputable def c204 : CFn := ⟨[.tmp (pp 4)],
 .seq (.reg [
 qo 4 (.p (S.get (.c (.bool false)))) []]) (
 .seq (.reg [
 mv 5 0,
 mv 6 1,
 qo 7 (.c (callF (ff 225) [(tt 5), (tt 6)])) [pp 5, pp 6],
 qo 8 (.p (arF .geq (tt 7) (ii 0))) [pp 7],
 mv 4 8]) (
 .ret))⟩
theorem c204_eq : fnOf Tryz.prog 204 = some c204 := by kernel_rfl
noncomputable def c224 : CFn := ⟨[.tmp (pp 2)],
 .seq (.reg [
 qo 2 (.p (S.get (.c (.bool false)))) []]) (
 .seq (.reg [
 mv 3 0,
 qo 4 (.p (arF .geq (tt 3) (ii 1))) [pp 3],
 mv 5 4,
 mg 6 0 5 true,
 qg 7 (.p (arF .leq (tt 6) (ii 8))) 5 true [pp 6],
 qo 8 (.p (pickF (tt 5) (tt 7) (.c (.bool false)))) [pp 5, pp 7],
 mv 2 8]) (
 .ret))⟩
theorem c224_eq : fnOf Tryz.prog 224 = some c224 := by kernel_rfl
noncomputable def c203_l0 : C := .seq (.reg [
 qo 39 (.p (arF .lss (tt 38) (tt 37))) [pp 38, pp 37]]) (
 .seq (.cond (tt 39) (.skip) (.exit 1)) (
 .seq (.block 2 (.seq (.reg [
 mv 40 38,
 mv 9 40]) (
 .seq (.reg [
 mv 41 9,
 mv 42 1,
 qo 43 (.p (arF .mul (tt 41) (tt 42))) [pp 41, pp 42],
 mv 10 43]) (
 .seq (.reg [
 mv 44 0,
 mv 45 10,
 qo 46 (.p (arF .quo (tt 45) (ii 8))) [pp 45],
 qo 47 (.p (iaddrSF (tt 44) (tt 46) 1)) [pp 44, pp 46],
 qo 48 (.r (loadF (tt 47) 1 .sc)) [pp 47],
 qo 49 (.p (convF .u16 (tt 48))) [pp 48],
 mv 11 49]) (
 .seq (.seq (.reg [
 mv 50 10,
 qo 51 (.p (arF .rem (tt 50) (ii 8))) [pp 50],
 mv 52 1,
 qo 53 (.p (arF .add (tt 51) (tt 52))) [pp 51, pp 52],
 qo 54 (.p (arF .gtr (tt 53) (ii 8))) [pp 53]]) (
 .cond (tt 54) (.reg [
 mv 55 11,
 mv 56 0,
 mv 57 10,
 qo 58 (.p (arF .quo (tt 57) (ii 8))) [pp 57],
 qo 59 (.p (arF .add (tt 58) (ii 1))) [pp 58],
 qo 60 (.p (iaddrSF (tt 56) (tt 59) 1)) [pp 56, pp 59],
 qo 61 (.r (loadF (tt 60) 1 .sc)) [pp 60],
 qo 62 (.p (convF .u16 (tt 61))) [pp 61],
 qo 63 (.p (arF .shl (tt 62) (.c (.int .u64 8)))) [pp 62],
 qo 64 (.p (arF .or (tt 55) (tt 63))) [pp 55, pp 63],
 mv 11 64]) (.skip))) (
 .regD [
 mv 65 8,
 mv 66 9,
 mv 67 11,
 mv 68 10,
 qo 69 (.p (arF .rem (tt 68) (ii 8))) [pp 68],
 qo 70 (.p (arF .shr (tt 67) (tt 69))) [pp 67, pp 69],
 mv 71 1,
 qo 72 (.p (arF .shl (.c (.int .u16 1)) (tt 71))) [pp 71],
 qo 73 (.p (arF .sub (tt 72) (.c (.int .u16 1)))) [pp 72],
 qo 74 (.p (arF .and (tt 70) (tt 73))) [pp 70, pp 73],
 qo 75 (.p (convF .u8 (tt 74))) [pp 74],
 qo 76 (.p (iaddrSF (tt 65) (tt 66) 1)) [pp 65, pp 66],
 qn (.a (storeF (tt 76) (tt 75) 1)) [pp 76, pp 75]] [0, 0, 0, 0, 8, 28, 0, 64, 192, 508, 1020, 2047, 4095])))))) (
 .reg [
 qo 77 (.p (arF .add (tt 38) (ii 1))) [pp 38],
 mv 38 77])))
noncomputable def c203 : CFn := ⟨[.tmp (pp 6), .tmp (pp 7)],
 .seq (.reg [
 qo 6 (.p (S.get (.c (.slice none 0 0 0)))) [],
 qo 7 (.p (S.get (ii 0))) []]) (
 .seq (.block 0 (.seq (.reg [
 mv 13 1,
 qo 14 (.c (callF (ff 224) [(tt 13)])) [pp 13],
 qo 15 (.p (unF .not (tt 14))) [pp 14],
 mv 16 15,
 mg 17 2 16 false,
 qg 18 (.p (arF .lss (tt 17) (ii 0))) 16 false [pp 17],
 qo 19 (.p (pickF (tt 16) (.c (.bool true)) (tt 18))) [pp 16, pp 18],
 mv 20 19,
 mg 21 2 20 false,
 qg 22 (.p (arF .gtr (tt 21) (ii 1048576))) 20 false [pp 21],
 qo 23 (.p (pickF (tt 20) (.c (.bool true)) (tt 22))) [pp 20, pp 22],
 mv 12 23]) (
 .cond (tt 12) (.seq (.reg [
 qo 6 (.p (S.get (.c (.slice none 0 0 0)))) [],
 qo 7 (.p (S.get (ii 2))) []]) (
 .ret)) (.seq (.reg [
 mv 25 2,
 mv 26 1,
 qo 27 (.p (arF .mul (tt 25) (tt 26))) [pp 25, pp 26],
 qo 28 (.p (arF .add (tt 27) (ii 8))) [pp 27],
 qo 29 (.p (arF .sub (tt 28) (ii 1))) [pp 28],
 qo 30 (.p (arF .quo (tt 29) (ii 8))) [pp 29],
 mv 31 0,
 qo 32 (.p (lenF (tt 31))) [pp 31],
 qo 33 (.p (arF .gtr (tt 30) (tt 32))) [pp 30, pp 32],
 mv 24 33]) (
 .cond (tt 24) (.seq (.reg [
 qo 6 (.p (S.get (.c (.slice none 0 0 0)))) [],
 qo 7 (.p (S.get (ii 4))) []]) (
 .ret)) (.skip)))))) (
 .seq (.reg [
 mv 34 2,
 qo 35 (.m (mksliceF 1 1 [.int .u8 0] (tt 34) (tt 34))) [pp 34, pp 34],
 mv 8 35]) (
 .seq (.seq (.reg [
 mv 36 8,
 qo 37 (.p (lenF (tt 36))) [pp 36],
 qo 38 (.p (S.get (ii 0))) []]) (
 .block 1 (.loop c203_l0))) (
 .seq (.reg [
 mv 78 8,
 mv 6 78,
 qo 7 (.p (S.get (ii 0))) []]) (
 .ret)))))⟩
theorem c203_eq : fnOf Tryz.prog 203 = some c203 := by kernel_rfl
def rdr (k : Nat) (a : Nat) : Am.Obj := .rows false 2 [[.slice (some ⟨.run k, 0⟩) 44 44 1, .int .i64 (a : Int)]]
theorem rtake_ok {H : Heap} {b : Bk} {k a sz : Nat} {c : Nat → Nat} (hr : H.get b = some (rdr k a)) (hb : BodyAt H k c 44) (hc : ∀ i, c i < 256) (hs : 1 ≤ sz ∧ sz ≤ 8) (ha : a + sz ≤ 44) {lf : Nat} (hlf : 60 < lf) (n : Nat) :
    callS Tryz.prog S0 lf (n + 2) 202 [.ptr (some ⟨b, 0⟩), .int .i64 (sz : Int)] H = some (.v (.int .u64 ((leN (fun i => c (a + i)) sz : Nat) : Int)), H.set b (rdr k (a + sz))) := by
  have g := nget_ok (H := H) (p := ⟨.run k, 0⟩) (len := 44) (cap := 44) (loose := 1) (a := a) (sz := sz) (c := fun i => c (a + i)) hs ha (by omega) (by omega) (.inr rfl) (fun i _ => hc _) (fun i hi => by simpa using hb.load (i := a + i) (by omega)) lf n (by omega)
  have l0 : loadAt H ⟨b, 0⟩ 1 = some [.slice (some ⟨.run k, 0⟩) 44 44 1] := by rw [loadAt_eq hr rfl]; rfl
  have l1 : loadAt H ⟨b, 1⟩ 1 = some [.int .i64 (a : Int)] := by rw [loadAt_eq hr rfl]; rfl
  have w : IntKind.i64.wrap ((a : Int) + (sz : Int)) = ((a + sz : Nat) : Int) := by rw [wrap_i64 (by omega)]; omega
  have st : storeAt H ⟨b, 1⟩ [.int .i64 ((a + sz : Nat) : Int)] = some (H.set b (rdr k (a + sz))) := storeAt_eq hr (r := [.slice (some ⟨.run k, 0⟩) 44 44 1, .int .i64 (a : Int)]) rfl rfl
  obtain ⟨e, he⟩ : ∃ e, e = a + sz := ⟨_, rfl⟩
  rw [← he] at w st ⊢
  obtain ⟨v, H', e, rfl, rfl⟩ : ret (callS Tryz.prog S0 lf (n + 2) 202 [.ptr (some ⟨b, 0⟩), .int .i64 (sz : Int)] H) fun v H' => v = .int .u64 ((leN (fun i => c (a + i)) sz : Nat) : Int) ∧ H' = H.set b (rdr k e) := by
    refine ret_call rfl c202_eq ?_
    simp only [c202, l0, l1, g, w, st, sy, tup, ↓reduceIte, Nat.reduceEqDiff, Nat.reduceAdd, Nat.reduceSub, Nat.reduceMul, Nat.reduceLeDiff, Int.reduceBEq, reduceCtorEq]
    rw [endD_ok (by kernel_rfl) (by kernel_rfl)]
    simp only [l0, l1, g, w, st, sy, tup, ↓reduceIte, Nat.reduceEqDiff, Nat.reduceAdd, Nat.reduceSub, Nat.reduceMul, Nat.reduceLeDiff, Int.reduceBEq, reduceCtorEq]
    simp
  exact e
theorem nz_ok (H : Heap) (x : Nat) (lf n : Nat) : callS Tryz.prog S0 lf (n + 1) 205 [.int .u8 (x : Int)] H = some (.v (.bool (!((x : Int) == 0))), H) := by
  obtain ⟨v, H', e, rfl, rfl⟩ : ret (callS Tryz.prog S0 lf (n + 1) 205 [.int .u8 (x : Int)] H) fun v H' => v = .bool (!((x : Int) == 0)) ∧ H' = H := by
    refine ret_call rfl c205_eq ?_
    simp only [c205, sy, tup, ↓reduceIte, Nat.reduceEqDiff, Nat.reduceAdd, Nat.reduceSub, Nat.reduceMul, Nat.reduceLeDiff, Int.reduceBEq, reduceCtorEq]
    simp
  exact e
def zeroTo (c : Nat → Nat) (n : Nat) : Prop := ∀ i, i < n → c i = 0
theorem index_ok {H : Heap} {p : Ptr} {len cap loose : Nat} {c : Nat → Nat} (hm : len < 1000000) (hd : ∀ i, i < len → loadAt H ⟨p.b, p.o + i⟩ 1 = some [.int .u8 (c i : Int)]) (lf n : Nat) (hlf : len + 1 < lf) :
    ret (callS Tryz.prog S0 lf (n + 2) 225 [.slice (some p) len cap loose, .func (.func 205) [] []] H) fun v H' => H' = H ∧ ((zeroTo c len ∧ v = .int .i64 (-1)) ∨ (¬ zeroTo c len ∧ ∃ i : Nat, v = .int .i64 (i : Int))) := by
  refine ret_call rfl c225_eq ?_
  simp only [c225, sy, tup, ↓reduceIte, Nat.reduceEqDiff, Nat.reduceAdd, Nat.reduceSub, Nat.reduceMul, Nat.reduceLeDiff, Int.reduceBEq, reduceCtorEq]
  have hloop : ∀ t : T, t.getP (Tr.path 0) = some (.slice (some p) len cap loose) → t.getP (Tr.path 1) = some (.func (.func 205) [] []) → t.getP (Tr.path 7) = some (.int .i64 (len : Int)) → t.getP (Tr.path 8) = some (.int .i64 0) →
      wp (loopF (runC (callS Tryz.prog S0 lf (n + 1)) lf c225_l0) lf ⟨t, H, []⟩) fun x s => s.d = [] ∧ s.H = H ∧ ((x = .ex 0 ∧ zeroTo c len) ∨ (x = .ret ∧ ¬ zeroTo c len ∧ ∃ i : Nat, s.t.getP (Tr.path 4) = some (.int .i64 (i : Int)))) := by
    intro t q0 q1 q7 q8
    refine wp_loopF (fun k s => ∃ i : Nat, k = len - i ∧ i ≤ len ∧ s.d = [] ∧ s.H = H ∧ zeroTo c i ∧ s.t.getP (Tr.path 0) = some (.slice (some p) len cap loose) ∧ s.t.getP (Tr.path 1) = some (.func (.func 205) [] []) ∧ s.t.getP (Tr.path 7) = some (.int .i64 (len : Int)) ∧ s.t.getP (Tr.path 8) = some (.int .i64 (i : Int))) ?_ lf len _ ⟨0, rfl, by omega, rfl, rfl, fun i hi => absurd hi (by omega), q0, q1, q7, q8⟩ (by omega)
    rintro k ⟨t, HH, d⟩ ⟨i, rfl, hi, hd', hH, hz, q0, q1, q7, q8⟩
    dsimp only at hd' hH q0 q1 q7 q8
    subst hd'; subst hH
    by_cases hlt : i < len
    · have hlt' : (i : Int) < (len : Int) := by omega
      have hle' : i + 1 ≤ len := hlt
      have lk := hd i hlt
      have w3 : IntKind.i64.wrap ((i : Int) + 1) = ((i + 1 : Nat) : Int) := by rw [wrap_i64 (by omega)]; omega
      have nz := nz_ok HH (c i) lf n
      by_cases h0 : c i = 0
      · have b0 : ((c i : Int) == 0) = true := by simp [h0]
        rw [b0] at nz
        simp only [c225_l0, q0, q1, q7, q8, hlt', hle', w3, lk, nz, Nat.mul_one, sy, tup, ↓reduceIte, Nat.reduceEqDiff, Nat.reduceAdd, Nat.reduceSub, Nat.reduceMul, Nat.reduceLeDiff, Int.reduceBEq, reduceCtorEq]
        refine ⟨len - (i + 1), by omega, i + 1, rfl, by omega, trivial, trivial, fun j hj => ?_, trivial, trivial, trivial, by simp⟩
        by_cases e : j = i
        · subst e; exact h0
        · exact hz j (by omega)
      · have b0 : ((c i : Int) == 0) = false := by simp [h0]
        rw [b0] at nz
        simp only [c225_l0, q0, q1, q7, q8, hlt', hle', w3, lk, nz, Nat.mul_one, sy, tup, ↓reduceIte, Nat.reduceEqDiff, Nat.reduceAdd, Nat.reduceSub, Nat.reduceMul, Nat.reduceLeDiff, Int.reduceBEq, reduceCtorEq]
        exact ⟨trivial, trivial, .inr ⟨trivial, fun h => h0 (h i hlt), i, rfl⟩⟩
    · have : i = len := by omega
      subst this
      simp only [c225_l0, q0, q1, q7, q8, Nat.lt_irrefl, Int.lt_irrefl, sy, tup, ↓reduceIte, Nat.reduceEqDiff, Nat.reduceAdd, Nat.reduceSub, Nat.reduceMul, Nat.reduceLeDiff, Int.reduceBEq, reduceCtorEq]
      exact ⟨trivial, trivial, .inl ⟨trivial, hz⟩⟩
  refine wp_ctx (F := fun r => seqC _ _ _ (blockC _ r)) (hloop _ ?_ ?_ ?_ ?_) ?_
  · simp only [sy, tup, ↓reduceIte, Nat.reduceEqDiff, Nat.reduceAdd, Nat.reduceSub, Nat.reduceMul, Nat.reduceLeDiff, Int.reduceBEq, reduceCtorEq]
  · simp only [sy, tup, ↓reduceIte, Nat.reduceEqDiff, Nat.reduceAdd, Nat.reduceSub, Nat.reduceMul, Nat.reduceLeDiff, Int.reduceBEq, reduceCtorEq]
  · simp only [sy, tup, ↓reduceIte, Nat.reduceEqDiff, Nat.reduceAdd, Nat.reduceSub, Nat.reduceMul, Nat.reduceLeDiff, Int.reduceBEq, reduceCtorEq]
  · simp only [sy, tup, ↓reduceIte, Nat.reduceEqDiff, Nat.reduceAdd, Nat.reduceSub, Nat.reduceMul, Nat.reduceLeDiff, Int.reduceBEq, reduceCtorEq]
  rintro x ⟨t, HH, d⟩ ⟨hd', hH, ⟨rfl, hz⟩ | ⟨rfl, hz, i, q4⟩⟩
  · dsimp only at hd' hH
    subst hd'; subst hH
    simp only [sy, tup, ↓reduceIte, Nat.reduceEqDiff, Nat.reduceAdd, Nat.reduceSub, Nat.reduceMul, Nat.reduceLeDiff, Int.reduceBEq, reduceCtorEq]
    exact ⟨trivial, .inr trivial, _, rfl, trivial, .inl ⟨hz, rfl⟩⟩
  · dsimp only at hd' hH q4
    subst hd'; subst hH
    simp only [q4, sy, tup, ↓reduceIte, Nat.reduceEqDiff, Nat.reduceAdd, Nat.reduceSub, Nat.reduceMul, Nat.reduceLeDiff, Int.reduceBEq, reduceCtorEq]
    exact ⟨trivial, .inr trivial, _, rfl, trivial, .inr ⟨hz, i, rfl⟩⟩
theorem contains_ok {H : Heap} {p : Ptr} {len cap loose : Nat} {c : Nat → Nat} (hm : len < 1000000) (hd : ∀ i, i < len → loadAt H ⟨p.b, p.o + i⟩ 1 = some [.int .u8 (c i : Int)]) (lf n : Nat) (hlf : len + 1 < lf) :
    ret (callS Tryz.prog S0 lf (n + 3) 204 [.slice (some p) len cap loose, .func (.func 205) [] []] H) fun v H' => H' = H ∧ ∃ z : Bool, v = .bool z ∧ (z = false ↔ zeroTo c len) := by
  obtain ⟨v, H', e, rfl, hv⟩ := index_ok (cap := cap) (loose := loose) hm hd lf n hlf
  refine ret_call rfl c204_eq ?_
  rcases hv with ⟨hz, rfl⟩ | ⟨hz, i, rfl⟩
  · have hn : ¬ ((0 : Int) ≤ -1) := by omega
    simp only [c204, e, hn, sy, tup, ↓reduceIte, Nat.reduceEqDiff, Nat.reduceAdd, Nat.reduceSub, Nat.reduceMul, Nat.reduceLeDiff, Int.reduceBEq, reduceCtorEq]
    exact ⟨trivial, .inr trivial, _, rfl, trivial, false, rfl, by simp [hz]⟩
  · have hn : (0 : Int) ≤ (i : Int) := by omega
    simp only [c204, e, hn, sy, tup, ↓reduceIte, Nat.reduceEqDiff, Nat.reduceAdd, Nat.reduceSub, Nat.reduceMul, Nat.reduceLeDiff, Int.reduceBEq, reduceCtorEq]
    exact ⟨trivial, .inr trivial, _, rfl, trivial, true, rfl, by simp [hz]⟩
theorem wide_ok (H : Heap) (lf n : Nat) : callS Tryz.prog S0 lf (n + 1) 224 [.int .i64 2] H = some (.v (.bool true), H) := by
  obtain ⟨v, H', e, rfl, rfl⟩ : ret (callS Tryz.prog S0 lf (n + 1) 224 [.int .i64 2] H) fun v H' => v = .bool true ∧ H' = H := by
    refine ret_call rfl c224_eq ?_
    have h1 : (1 : Int) ≤ 2 := by omega
    have h2 : (2 : Int) ≤ 8 := by omega
    simp only [c224, h1, h2, sy, tup, ↓reduceIte, Nat.reduceEqDiff, Nat.reduceAdd, Nat.reduceSub, Nat.reduceMul, Nat.reduceLeDiff, Int.reduceBEq, reduceCtorEq]
    simp
  exact e
theorem wrap_u16 {n : Nat} (h : n < 65536) : IntKind.u16.wrap (n : Int) = n := by
  show (if false && decide ((n : Int) % (2 ^ 16 : Int) ≥ (2 ^ (16 - 1) : Int)) then (n : Int) % (2 ^ 16 : Int) - (2 ^ 16 : Int) else (n : Int) % (2 ^ 16 : Int)) = n
  rw [show (2 ^ 16 : Int) = 65536 from rfl]
  simp only [Bool.false_and, Bool.false_eq_true, if_false]
  omega
theorem wrap_u8 {n : Nat} (h : n < 256) : IntKind.u8.wrap (n : Int) = n := by
  show (if false && decide ((n : Int) % (2 ^ 8 : Int) ≥ (2 ^ (8 - 1) : Int)) then (n : Int) % (2 ^ 8 : Int) - (2 ^ 8 : Int) else (n : Int) % (2 ^ 8 : Int)) = n
  rw [show (2 ^ 8 : Int) = 256 from rfl]
  simp only [Bool.false_and, Bool.false_eq_true, if_false]
  omega
theorem quo_i64 (a b : Nat) (hb : b ≠ 0) (ha : a < 9223372036854775808) : arith .quo (.int .i64 (a : Int)) (.int .i64 (b : Int)) = some (.int .i64 ((a / b : Nat) : Int)) := by
  have h0 : eqI (b : Int) 0 = false := by
    rw [Df]; simpa using hb
  show (match eqI (b : Int) 0 with | true => none | false => mkI .i64 (quoI (a : Int) (b : Int))) = _
  rw [h0]
  show mkI .i64 ((a / b : Nat) : Int) = _
  rw [Dh, wrap_nat (Nat.lt_of_le_of_lt (Nat.div_le_self _ _) ha)]
theorem rem_i64 (a b : Nat) (hb : b ≠ 0) : arith .rem (.int .i64 (a : Int)) (.int .i64 (b : Int)) = some (.int .i64 ((a % b : Nat) : Int)) := by
  have h0 : eqI (b : Int) 0 = false := by
    rw [Df]; simpa using hb
  show (match eqI (b : Int) 0 with | true => none | false => frc (remI (a : Int) (b : Int)) fun n => some (V.int .i64 n)) = _
  rw [h0]
  show frc (((a % b : Nat)) : Int) _ = _
  generalize a % b = z
  cases z <;> rfl
theorem shr_u16 {a m : Nat} (hm : m < 16) : arith .shr (.int .u16 (a : Int)) (.int .i64 (m : Int)) = some (.int .u16 ((a / 2 ^ m : Nat) : Int)) := by
  have : min m 16 = m := by omega
  show some (V.int .u16 (.ofNat (Nat.div a (Nat.pow 2 (min m 16))))) = _
  rw [this]; rfl
theorem and_u16 {a b : Nat} (h : a < 65536) (k : b < 65536) : arith .and (.int .u16 (a : Int)) (.int .u16 (b : Int)) = some (.int .u16 ((a &&& b : Nat) : Int)) := by
  have f : ∀ {x : Nat}, x < 65536 → fitsK .u16 x = true := fun {x} hx => by
    show Nat.ble x 65535 = true
    rw [ble_iff]; omega
  have hl : a &&& b < 65536 := Nat.lt_of_le_of_lt Nat.and_le_left h
  have e : bitI Nat.land (fun _ a b => a &&& b) .u16 (a : Int) (b : Int) = ((a &&& b : Nat) : Int) := by
    show (match fitsK .u16 a && fitsK .u16 b with | true => Int.ofNat (Nat.land a b) | false => _) = _
    rw [f h, f k]; rfl
  show (match decide (IntKind.u16 = IntKind.u16) with | false => none | true => mkI .u16 (bitI Nat.land (fun _ a b => a &&& b) .u16 (a : Int) (b : Int))) = _
  rw [e, Dh, wrap_u16 hl]; rfl
noncomputable def twoB (c : Nat → Nat) (i : Nat) : Nat := (c (2 * i / 8) / 2 ^ (2 * i % 8)) &&& 3
theorem rowsB_congr {f g : Nat → Nat} : ∀ n j, (∀ i, j ≤ i → i < j + n → f i = g i) → rowsB f n j = rowsB g n j
  | 0, _, _ => rfl
  | n + 1, j, h => by
    show _ :: _ = _ :: _
    rw [h j (by omega) (by omega), rowsB_congr n (j + 1) (fun i h1 h2 => h i (by omega) (by omega))]
theorem rowsB_upd (f : Nat → Nat) (x : Nat) : ∀ n j i, i < n → upd [V.int .u8 (x : Int)] (rowsB f n j) i = rowsB (fun q => if q = j + i then x else f q) n j
  | n + 1, j, 0, _ => by
    show _ :: _ = _ :: _
    simp only [Nat.add_zero, if_true]
    rw [rowsB_congr (g := fun q => if q = j then x else f q) n (j + 1) (fun i h1 h2 => by rw [if_neg (by omega)])]
  | n + 1, j, i + 1, h => by
    show _ :: upd [V.int .u8 (x : Int)] (rowsB f n (j + 1)) i = _ :: _
    rw [rowsB_upd f x n (j + 1) i (by omega), show j + 1 + i = j + (i + 1) by omega]
    have e : (fun q => if q = j + (i + 1) then x else f q) j = f j := if_neg (by omega)
    rw [e]
theorem rowsB_rep : ∀ n j, List.replicate n [V.int .u8 0] = rowsB (fun _ => 0) n j
  | 0, _ => rfl
  | n + 1, j => by
    rw [List.replicate_succ, rowsB_rep n (j + 1)]
    rfl
theorem unbits_ok {H : Heap} {p : Ptr} {len cap loose : Nat} {c : Nat → Nat} (h4 : 4 ≤ len) (hm : len < 1000000) (ho : H.Old p.b) (hc : ∀ i, c i < 256) (hd : ∀ {H' : Heap}, Turns Z H H' → ∀ i, i < 4 → loadAt H' ⟨p.b, p.o + i⟩ 1 = some [.int .u8 (c i : Int)]) (lf n : Nat) (hlf : 17 < lf) :
    ret (callS Tryz.prog S0 lf (n + 2) 203 [.slice (some p) len cap loose, .int .i64 2, .int .i64 16] H) fun v H' => Turns Z H H' ∧ ∃ k, v = .tuple [.slice (some ⟨.run k, 0⟩) 16 16 0, .int .i64 0] ∧ H'.get (.run k) = some (.rows false 1 (rowsB (twoB c) 16 0)) ∧ k < H'.next := by
  have wd := wide_ok H lf n
  have f1 : ¬ ((16 : Int) < 0) := by omega
  have f2 : ¬ ((1048576 : Int) < 16) := by omega
  have f3 : ¬ ((len : Int) < 4) := by omega
  have q1 : arith .quo (.int .i64 39) (.int .i64 8) = some (.int .i64 4) := by kernel_rfl
  have w1 : IntKind.i64.wrap (16 * 2) = 32 := by kernel_rfl
  have w2 : IntKind.i64.wrap (32 + 8) = 40 := by kernel_rfl
  have w3 : IntKind.i64.wrap (40 - 1) = 39 := by kernel_rfl
  refine ret_call rfl c203_eq ?_
  have a16 : asNat (.int .i64 16) = some 16 := rfl
  obtain ⟨kb, hkb⟩ : ∃ kb, kb = H.next := ⟨_, rfl⟩
  have hloop : ∀ t : T, t.getP (Tr.path 0) = some (.slice (some p) len cap loose) → t.getP (Tr.path 1) = some (.int .i64 2) → t.getP (Tr.path 8) = some (.slice (some ⟨.run kb, 0⟩) 16 16 0) → t.getP (Tr.path 37) = some (.int .i64 16) → t.getP (Tr.path 38) = some (.int .i64 0) →
      wp (loopF (runC (callS Tryz.prog S0 lf (n + 1)) lf c203_l0) lf ⟨t, H.add (.rows false 1 (List.replicate 16 [.int .u8 0])), []⟩) fun x s => x = .ex 1 ∧ s.d = [] ∧ s.t.getP (Tr.path 8) = some (.slice (some ⟨.run kb, 0⟩) 16 16 0) ∧ Turns Z H s.H ∧ s.H.get (.run kb) = some (.rows false 1 (rowsB (twoB c) 16 0)) ∧ kb < s.H.next := by
    intro t p0 p1 p8 p37 p38
    refine wp_loopF (fun k s => ∃ i : Nat, k = 16 - i ∧ i ≤ 16 ∧ s.d = [] ∧ s.t.getP (Tr.path 0) = some (.slice (some p) len cap loose) ∧ s.t.getP (Tr.path 1) = some (.int .i64 2) ∧ s.t.getP (Tr.path 8) = some (.slice (some ⟨.run kb, 0⟩) 16 16 0) ∧ s.t.getP (Tr.path 37) = some (.int .i64 16) ∧ s.t.getP (Tr.path 38) = some (.int .i64 (i : Int)) ∧ Turns Z H s.H ∧ s.H.get (.run kb) = some (.rows false 1 (rowsB (fun j => if j < i then twoB c j else 0) 16 0)) ∧ kb < s.H.next) ?_ lf 16 _ ⟨0, rfl, by omega, rfl, p0, p1, p8, p37, p38, Turns.add Z H _, ?_, by rw [hkb]; simp⟩ (by omega)
    · rintro k ⟨t, HH, d⟩ ⟨i, rfl, hi, hd', p0, p1, p8, p37, p38, hT, hg, hkn⟩
      dsimp only at hd' p0 p1 p8 p37 p38 hT hg hkn
      subst hd'
      by_cases hlt : i < 16
      · have hlt' : (i : Int) < 16 := by omega
        have hle' : i + 1 ≤ 16 := hlt
        obtain ⟨e, he⟩ : ∃ e, e = 2 * i := ⟨_, rfl⟩
        have u1 : IntKind.i64.wrap ((i : Int) * 2) = (e : Int) := by rw [wrap_i64 (by omega)]; omega
        have u2 : arith .quo (.int .i64 (e : Int)) (.int .i64 8) = some (.int .i64 ((e / 8 : Nat) : Int)) := quo_i64 e 8 (by decide) (by omega)
        have u3 : arith .rem (.int .i64 (e : Int)) (.int .i64 8) = some (.int .i64 ((e % 8 : Nat) : Int)) := rem_i64 e 8 (by decide)
        have hq4 : e / 8 < 4 := by omega
        have lk := hd hT (e / 8) hq4
        have hql : e / 8 + 1 ≤ len := by omega
        have hm6 : e % 8 ≤ 6 := by omega
        have hcx := hc (e / 8)
        have htw : twoB c i = (c (e / 8) / 2 ^ (e % 8)) &&& 3 := by unfold twoB; rw [he]
        have hsh := shr_u16 (a := c (e / 8)) (m := e % 8) (by omega)
        generalize e / 8 = q at *
        generalize e % 8 = mm at *
        generalize c q = cx at *
        have hx4 : cx / 2 ^ mm < 65536 := Nat.lt_of_le_of_lt (Nat.div_le_self _ _) (by omega)
        generalize cx / 2 ^ mm = cy at *
        have w4 : IntKind.u16.wrap (cx : Int) = (cx : Int) := wrap_u16 (by omega)
        obtain ⟨m2, hm2⟩ : ∃ m2, m2 = mm + 2 := ⟨_, rfl⟩
        have w5 : IntKind.i64.wrap ((mm : Int) + 2) = (m2 : Int) := by rw [wrap_i64 (by omega)]; omega
        have w6 : ¬ ((8 : Int) < (m2 : Int)) := by omega
        have s1 : arith .shl (.int .u16 1) (.int .i64 2) = some (.int .u16 4) := by kernel_rfl
        have s2 : IntKind.u16.wrap (4 - 1) = 3 := by kernel_rfl
        have s3 : arith .and (.int .u16 (cy : Int)) (.int .u16 3) = some (.int .u16 ((cy &&& 3 : Nat) : Int)) := and_u16 hx4 (by decide)
        have hle3 : cy &&& 3 ≤ 3 := Nat.and_le_right
        rw [← htw] at s3 hle3
        have s4 : IntKind.u8.wrap ((twoB c i : Nat) : Int) = ((twoB c i : Nat) : Int) := wrap_u8 (by omega)
        have w7 : IntKind.i64.wrap ((i : Int) + 1) = ((i + 1 : Nat) : Int) := by rw [wrap_i64 (by omega)]; omega
        have sto : storeAt HH ⟨.run kb, i⟩ [.int .u8 ((twoB c i : Nat) : Int)] = some (HH.set (.run kb) (.rows false 1 (rowsB (fun j => if j < i + 1 then twoB c j else 0) 16 0))) := by
          rw [storeAt_eq hg (r := [.int .u8 (((fun j => if j < i then twoB c j else 0) i : Nat) : Int)]) (r' := [.int .u8 ((twoB c i : Nat) : Int)]) (by rw [Nat.div_one, nth_eq, rowsB_get _ 16 0 i hlt, Nat.zero_add]) (by rw [Nat.mod_one]; rfl), ← upd_eq, Nat.div_one, rowsB_upd _ _ 16 0 i hlt]
          rw [rowsB_congr (g := fun j => if j < i + 1 then twoB c j else 0) 16 0 (fun j h1 h2 => ?_)]
          by_cases e1 : j = i
          · subst e1; simp
          · by_cases e2 : j < i
            · simp [e1, e2, show j < i + 1 by omega]
            · simp [e1, e2, show ¬ j < i + 1 by omega]
        simp only [c203_l0, p0, p1, p8, p37, p38, hlt', hle', hql, arith_mul, u1, u2, u3, lk, w4, w5, w6, w7, hsh, s1, s2, s3, s4, sto, Nat.mul_one, sy, tup, ↓reduceIte, Nat.reduceEqDiff, Nat.reduceAdd, Nat.reduceSub, Nat.reduceMul, Nat.reduceLeDiff, Int.reduceBEq, reduceCtorEq]
        rw [endD_ok (by kernel_rfl) (by kernel_rfl)]
        simp only [p0, p1, p8, p37, p38, w7, hsh, s1, s2, s3, s4, sto, hle', Nat.mul_one, sy, tup, ↓reduceIte, Nat.reduceEqDiff, Nat.reduceAdd, Nat.reduceSub, Nat.reduceMul, Nat.reduceLeDiff, Int.reduceBEq, reduceCtorEq]
        exact ⟨16 - (i + 1), by omega, i + 1, rfl, by omega, trivial, by simp [p0], by simp [p1], by simp [p8], by simp [p37], by simp, hT.setnew (by omega) _, by rw [Heap.get_set, if_pos rfl], by simpa using hkn⟩
      · have : i = 16 := by omega
        subst this
        have hnl : decide (((16 : Nat) : Int) < 16) = false := rfl
        simp only [c203_l0, p0, p1, p8, p37, p38, hnl, sy, tup, ↓reduceIte, Nat.reduceEqDiff, Nat.reduceAdd, Nat.reduceSub, Nat.reduceMul, Nat.reduceLeDiff, Int.reduceBEq, reduceCtorEq]
        refine ⟨trivial, trivial, by first | trivial | exact p8, hT, ?_, hkn⟩
        rw [hg, rowsB_congr (g := twoB c) 16 0 (fun j h1 h2 => by simp [show j < 16 by omega])]
    · show (H.add _).get (.run kb) = _
      rw [hkb, Heap.get_add, if_pos rfl, rowsB_rep 16 0]
      rfl
  simp only [c203, wd, f1, f2, f3, w1, w2, w3, q1, a16, arith_mul, mksliceF, sy, tup, ↓reduceIte, Nat.reduceEqDiff, Nat.reduceAdd, Nat.reduceSub, Nat.reduceMul, Nat.reduceLeDiff, Int.reduceBEq, reduceCtorEq]
  refine wp_ctx (F := fun r => seqC _ _ _ (blockC _ r)) (hloop _ ?_ ?_ ?_ ?_ ?_) ?_
  · simp only [sy, tup, ↓reduceIte, Nat.reduceEqDiff, Nat.reduceAdd, Nat.reduceSub, Nat.reduceMul, Nat.reduceLeDiff, Int.reduceBEq, reduceCtorEq]
  · simp only [sy, tup, ↓reduceIte, Nat.reduceEqDiff, Nat.reduceAdd, Nat.reduceSub, Nat.reduceMul, Nat.reduceLeDiff, Int.reduceBEq, reduceCtorEq]
  · simp only [hkb, sy, tup, ↓reduceIte, Nat.reduceEqDiff, Nat.reduceAdd, Nat.reduceSub, Nat.reduceMul, Nat.reduceLeDiff, Int.reduceBEq, reduceCtorEq]
  · simp only [sy, tup, ↓reduceIte, Nat.reduceEqDiff, Nat.reduceAdd, Nat.reduceSub, Nat.reduceMul, Nat.reduceLeDiff, Int.reduceBEq, reduceCtorEq]
    rfl
  · simp only [sy, tup, ↓reduceIte, Nat.reduceEqDiff, Nat.reduceAdd, Nat.reduceSub, Nat.reduceMul, Nat.reduceLeDiff, Int.reduceBEq, reduceCtorEq]
  rintro x ⟨t, HH, d⟩ ⟨rfl, hd', p8, hT, hg, hn⟩
  dsimp only at hd' p8 hT hg hn
  subst hd'
  simp only [p8, sy, tup, ↓reduceIte, Nat.reduceEqDiff, Nat.reduceAdd, Nat.reduceSub, Nat.reduceMul, Nat.reduceLeDiff, Int.reduceBEq, reduceCtorEq]
  exact ⟨trivial, .inr trivial, _, rfl, hT, kb, rfl, hg, hn⟩
end Go.Proofs.YtejgheoandfikaaGreat.draft
set_option linter.unusedVariables false
set_option linter.unusedSimpArgs false
set_option maxRecDepth 10000
namespace Go.Proofs.YtejgheoandfikaaGreat.draft
open Go.Am
noncomputable def c165 : CFn := ⟨[.tmp (pp 2), .cell (pp 3) 23 .ag, .tmp (pp 4)],
 .seq (.reg [
 qo 1 (.m (boxF 64 (tt 0))) [pp 0],
 qo 2 (.p (S.get (.c (.int .u64 0)))) [],
 qo 3 (.m (allocF 23 [.int .u64 0, .int .i64 0, .int .i64 0, .int .i64 0, .int .i64 0, .int .u8 0, .int .u8 0, .int .u8 0, .int .u8 0, .int .u8 0, .int .u8 0, .int .u8 0, .int .u8 0, .int .u8 0, .int .u8 0, .int .u8 0, .int .u8 0, .int .u8 0, .int .u8 0, .int .u8 0, .int .u8 0, .int .i64 0, .bool false])) [],
 qo 4 (.p (S.get (ii 0))) []]) (
 .seq (.reg [
 qo 15 (.r (loadF (tt 1) 64 .bk)) [pp 1],
 qo 16 (.c (callF (ff 201) [(tt 15)])) [pp 15],
 mv 14 16,
 qo 17 (.p (extF (tt 14) 0)) [pp 14],
 qo 18 (.p (extF (tt 14) 1)) [pp 14],
 qo 19 (.p (extF (tt 14) 2)) [pp 14],
 mv 5 17,
 mv 6 18,
 mv 7 19]) (
 .seq (.seq (.reg [
 mv 20 7,
 qo 21 (.p (eqcF true false [.int .i64] (tt 20) (ii 0))) [pp 20]]) (
 .cond (tt 21) (.seq (.reg [
 qo 22 (.p (buildF [.int .u64 0, .int .i64 0, .int .i64 0, .int .i64 0, .int .i64 0, .int .u8 0, .int .u8 0, .int .u8 0, .int .u8 0, .int .u8 0, .int .u8 0, .int .u8 0, .int .u8 0, .int .u8 0, .int .u8 0, .int .u8 0, .int .u8 0, .int .u8 0, .int .u8 0, .int .u8 0, .int .u8 0, .int .i64 0, .bool false] .ag [])) [],
 mv 23 7,
 qo 2 (.p (S.get (.c (.int .u64 0)))) [],
 qn (.a (storeF (tt 3) (tt 22) 23)) [pp 3, pp 22],
 mv 4 23]) (
 .ret)) (.skip))) (
 .seq (.reg [
 mv 24 6,
 qo 25 (.p (buildF [.slice none 0 0 0, .int .i64 0] .ag [(0, 1, (tt 24))])) [pp 24],
 qo 26 (.m (boxF 2 (tt 25))) [pp 25],
 mv 8 26]) (
 .seq (.reg [
 mv 27 8,
 qo 28 (.c (callF (ff 202) [(tt 27), (ii 8)])) [pp 27],
 qo 29 (.p (buildF [.int .u64 0, .int .i64 0, .int .i64 0, .int .i64 0, .int .i64 0, .int .u8 0, .int .u8 0, .int .u8 0, .int .u8 0, .int .u8 0, .int .u8 0, .int .u8 0, .int .u8 0, .int .u8 0, .int .u8 0, .int .u8 0, .int .u8 0, .int .u8 0, .int .u8 0, .int .u8 0, .int .u8 0, .int .i64 0, .bool false] .ag [(0, 1, (tt 28))])) [pp 28],
 qo 9 (.m (allocF 23 [.int .u64 0, .int .i64 0, .int .i64 0, .int .i64 0, .int .i64 0, .int .u8 0, .int .u8 0, .int .u8 0, .int .u8 0, .int .u8 0, .int .u8 0, .int .u8 0, .int .u8 0, .int .u8 0, .int .u8 0, .int .u8 0, .int .u8 0, .int .u8 0, .int .u8 0, .int .u8 0, .int .u8 0, .int .i64 0, .bool false])) [],
 qn (.a (storeF (tt 9) (tt 29) 23)) [pp 9, pp 29]]) (
 .seq (.reg [
 mv 30 8,
 qo 31 (.c (callF (ff 202) [(tt 30), (ii 1)])) [pp 30],
 qo 32 (.p (convF .i64 (tt 31))) [pp 31],
 mv 33 8,
 qo 34 (.c (callF (ff 202) [(tt 33), (ii 2)])) [pp 33],
 qo 35 (.p (convF .i64 (tt 34))) [pp 34],
 mv 36 8,
 qo 37 (.c (callF (ff 202) [(tt 36), (ii 2)])) [pp 36],
 qo 38 (.p (convF .i64 (tt 37))) [pp 37],
 qo 39 (.p (buildF [.int .i64 0, .int .i64 0, .int .i64 0] .ag [(0, 1, (tt 32)), (1, 1, (tt 35)), (2, 1, (tt 38))])) [pp 32, pp 35, pp 38],
 qo 40 (.p (faddrF (tt 9) 2)) [pp 9],
 qo 41 (.p (faddrF (tt 40) 0)) [pp 40],
 qn (.a (storeF (tt 41) (tt 39) 3)) [pp 41, pp 39]]) (
 .seq (.reg [
 mv 42 8,
 qo 43 (.c (callF (ff 202) [(tt 42), (ii 1)])) [pp 42],
 qo 44 (.p (convF .i64 (tt 43))) [pp 43],
 qo 45 (.p (faddrF (tt 9) 1)) [pp 9],
 qn (.a (storeF (tt 45) (tt 44) 1)) [pp 45, pp 44]]) (
 .seq (.regD [
 mv 47 8,
 qo 48 (.p (nilcF (tt 47))) [pp 47],
 qo 49 (.p (faddrF (tt 48) 0)) [pp 48],
 qo 50 (.r (loadF (tt 49) 1 .sc)) [pp 49],
 mv 51 8,
 qo 52 (.p (nilcF (tt 51))) [pp 51],
 qo 53 (.p (faddrF (tt 52) 1)) [pp 52],
 qo 54 (.r (loadF (tt 53) 1 .sc)) [pp 53],
 qo 55 (.p (sliceF 1 (tt 50) (some (tt 54)) none none)) [pp 50, pp 54],
 qo 56 (.c (callF (ff 203) [(tt 55), (ii 2), (ii 16)])) [pp 55],
 mv 46 56,
 qo 57 (.p (extF (tt 46) 0)) [pp 46],
 qo 58 (.p (extF (tt 46) 1)) [pp 46],
 mv 10 57,
 mv 11 58] [0, 1, 3, 7, 0, 16, 48, 112, 255, 511, 1023, 2047, 2047, 4095, 16383]) (
 .seq (.reg [
 qo 59 (.p (faddrF (tt 9) 2)) [pp 9],
 qo 60 (.p (faddrF (tt 59) 3)) [pp 59],
 qo 61 (.p (sliceAF 16 1 (tt 60) none none none)) [pp 60],
 mv 62 10,
 qo 63 (.a (cpyF 1 (tt 61) (tt 62))) [pp 61, pp 62]]) (
 .seq (.reg [
 mv 64 8,
 qo 65 (.p (nilcF (tt 64))) [pp 64],
 qo 66 (.p (faddrF (tt 65) 1)) [pp 65],
 qo 67 (.r (loadF (tt 66) 1 .sc)) [pp 66],
 mv 68 10,
 qo 69 (.p (lenF (tt 68))) [pp 68],
 qo 70 (.p (arF .mul (tt 69) (ii 2))) [pp 69],
 qo 71 (.p (arF .quo (tt 70) (ii 8))) [pp 70],
 qo 72 (.p (arF .add (tt 67) (tt 71))) [pp 67, pp 71],
 qo 73 (.p (nilcF (tt 64))) [pp 64],
 qo 74 (.p (faddrF (tt 73) 1)) [pp 73],
 qn (.a (storeF (tt 74) (tt 72) 1)) [pp 74, pp 72]]) (
 .seq (.reg [
 mv 75 8,
 qo 76 (.c (callF (ff 202) [(tt 75), (ii 2)])) [pp 75],
 qo 77 (.p (convF .i64 (tt 76))) [pp 76],
 qo 78 (.p (faddrF (tt 9) 2)) [pp 9],
 qo 79 (.p (faddrF (tt 78) 19)) [pp 78],
 qn (.a (storeF (tt 79) (tt 77) 1)) [pp 79, pp 77]]) (
 .seq (.reg [
 mv 80 8,
 qo 81 (.c (callF (ff 202) [(tt 80), (ii 1)])) [pp 80],
 mv 12 81]) (
 .seq (.reg [
 mv 82 12,
 qo 83 (.p (eqcF false false [.int .u64] (tt 82) (.c (.int .u64 1)))) [pp 82],
 qo 84 (.p (faddrF (tt 9) 2)) [pp 9],
 qo 85 (.p (faddrF (tt 84) 20)) [pp 84],
 qn (.a (storeF (tt 85) (tt 83) 1)) [pp 85, pp 83]]) (
 .seq (.regD [
 mv 86 8,
 qo 87 (.p (nilcF (tt 86))) [pp 86],
 qo 88 (.p (faddrF (tt 87) 0)) [pp 87],
 qo 89 (.r (loadF (tt 88) 1 .sc)) [pp 88],
 mv 90 8,
 qo 91 (.p (nilcF (tt 90))) [pp 90],
 qo 92 (.p (faddrF (tt 91) 1)) [pp 91],
 qo 93 (.r (loadF (tt 92) 1 .sc)) [pp 92],
 qo 94 (.p (sliceF 1 (tt 89) (some (tt 93)) none none)) [pp 89, pp 93],
 qo 95 (.c (callF (ff 204) [(tt 94), (ff 205)])) [pp 94],
 mv 13 95] [0, 1, 3, 7, 0, 16, 48, 112, 255, 511, 1023]) (
 .seq (.seq (.reg [
 mv 96 5,
 qo 97 (.c (callF (ff 206) [(tt 96)])) [pp 96],
 qo 98 (.p (unF .not (tt 97))) [pp 97],
 mv 99 98,
 qg 100 (.r (loadF (tt 9) 23 .ag)) 99 false [pp 9],
 qg 101 (.c (callF (ff 207) [(tt 100)])) 99 false [pp 100],
 qg 102 (.p (unF .not (tt 101))) 99 false [pp 101],
 qo 103 (.p (pickF (tt 99) (.c (.bool true)) (tt 102))) [pp 99, pp 102],
 mv 104 103,
 mg 105 12 104 false,
 qg 106 (.p (arF .gtr (tt 105) (.c (.int .u64 1)))) 104 false [pp 105],
 qo 107 (.p (pickF (tt 104) (.c (.bool true)) (tt 106))) [pp 104, pp 106],
 mv 108 107,
 mg 109 13 108 false,
 qo 110 (.p (pickF (tt 108) (.c (.bool true)) (tt 109))) [pp 108, pp 109]]) (
 .cond (tt 110) (.seq (.reg [
 qo 111 (.p (buildF [.int .u64 0, .int .i64 0, .int .i64 0, .int .i64 0, .int .i64 0, .int .u8 0, .int .u8 0, .int .u8 0, .int .u8 0, .int .u8 0, .int .u8 0, .int .u8 0, .int .u8 0, .int .u8 0, .int .u8 0, .int .u8 0, .int .u8 0, .int .u8 0, .int .u8 0, .int .u8 0, .int .u8 0, .int .i64 0, .bool false] .ag [])) [],
 qo 2 (.p (S.get (.c (.int .u64 0)))) [],
 qn (.a (storeF (tt 3) (tt 111) 23)) [pp 3, pp 111],
 qo 4 (.p (S.get (ii 5))) []]) (
 .ret)) (.skip))) (
 .seq (.regD [
 mv 112 5,
 qo 113 (.r (loadF (tt 9) 23 .ag)) [pp 9],
 mv 2 112,
 qn (.a (storeF (tt 3) (tt 113) 23)) [pp 3, pp 113],
 qo 4 (.p (S.get (ii 0))) []] [0, 0, 1, 7, 15]) (
 .ret))))))))))))))))⟩
theorem c165_eq : fnOf Tryz.prog 165 = some c165 := by kernel_rfl
theorem put_one : ∀ {cs : List V} {o : Nat} {v : V}, Thin cs → o < cs.length → v.flat = true → put cs o [v] = some (cs.set o v)
  | c :: cs, 0, v, h, _, hv => by
    have h1 : c.asBlk = none := h c (List.mem_cons_self ..)
    unfold put
    simp only [h1, show Nat.beq 0 0 = true from rfl, hv]
    cases cs <;> rfl
  | c :: cs, o + 1, v, h, hl, hv => by
    have h1 : c.asBlk = none := h c (List.mem_cons_self ..)
    unfold put
    simp only [h1, show Nat.beq (o + 1) 0 = false from rfl]
    rw [show Nat.sub (o + 1) 1 = o from rfl, put_one (fun v hv => h v (List.mem_cons_of_mem _ hv)) (by simpa using hl) hv]
    rfl
  | [], o, v, _, hl, _ => by simp at hl
theorem thin_set {cs : List V} {o : Nat} {v : V} (h : Thin cs) (hv : v.asBlk = none) : Thin (cs.set o v) := fun u hu => by
  rcases List.mem_or_eq_of_mem_set hu with hu | rfl
  · exact h u hu
  · exact hv
def laid (row : List V) : Nat → List Nat → List V
  | _, [] => row
  | o, x :: xs => laid (row.set o (.int .u8 (x : Int))) (o + 1) xs
def cellB (x : Nat) : List V := [.int .u8 (x : Int)]
theorem store_cells {b : Bk} {W : Nat} : ∀ (xs : List Nat) (o : Nat) (H : Heap) (row : List V), H.get b = some (.rows false W [row]) → row.length = W → Thin row → o + xs.length ≤ W →
    ∃ H', storeElems b 1 (xs.map cellB) o H = some H' ∧ H'.get b = some (.rows false W [laid row o xs]) ∧ Turns (fun c => c = b) H H' ∧ H'.next = H.next
  | [], o, H, row, h, hl, ht, hn => ⟨H, rfl, h, Turns.refl _ _, rfl⟩
  | x :: xs, o, H, row, h, hl, ht, hn => by
    rw [List.length_cons] at hn
    have hW : o / W = 0 := Nat.div_eq_of_lt (by omega)
    have hM : o % W = o := Nat.mod_eq_of_lt (by omega)
    have st : storeAt H ⟨b, o⟩ (cellB x) = some (H.set b (.rows false W [row.set o (.int .u8 (x : Int))])) := by
      have := storeAt_eq h (o := o) (vs := cellB x) (r := row) (r' := row.set o (.int .u8 (x : Int))) (by rw [hW]; rfl) (by rw [hM]; exact put_one ht (by omega) rfl)
      rw [hW] at this
      exact this
    obtain ⟨H', e, hg, hT, hx⟩ := store_cells (b := b) (W := W) xs (o + 1) (H.set b (.rows false W [row.set o (.int .u8 (x : Int))])) (row.set o (.int .u8 (x : Int))) (by rw [Heap.get_set, if_pos rfl]) (by simpa using hl) (thin_set ht rfl) (by omega)
    refine ⟨H', ?_, hg, (Turns.set (X := fun c => c = b) rfl H _).trans hT, by rw [hx]; simp⟩
    show (match storeAt H ⟨b, o⟩ (cellB x) with | some H' => storeElems b 1 (xs.map cellB) (Nat.add o 1) H' | none => none) = _
    rw [st]
    exact e
def stl (f : Nat → Nat) : Nat → Nat → List Nat
  | 0, _ => []
  | n + 1, j => f j :: stl f n (j + 1)
theorem stl_len (f : Nat → Nat) : ∀ n j, (stl f n j).length = n
  | 0, _ => rfl
  | n + 1, j => by simp [stl, stl_len f n (j + 1)]
theorem elems_rows {H : Heap} {k : Nat} {f : Nat → Nat} {N : Nat} (h : H.get (.run k) = some (.rows false 1 (rowsB f N 0))) : ∀ n j, j + n ≤ N → elems H (.run k) 1 n j = some ((stl f n j).map cellB)
  | 0, _, _ => rfl
  | n + 1, j, hj => by
    unfold elems
    have l : loadAt H ⟨.run k, j⟩ 1 = some [.int .u8 (f j : Int)] := by
      rw [loadAt_eq h (r := [.int .u8 (f j : Int)]) (by rw [Nat.div_one, nth_eq, rowsB_get f N 0 j (by omega), Nat.zero_add]), Nat.mod_one]
      rfl
    rw [l]
    simp only
    rw [show Nat.add j 1 = j + 1 from rfl, elems_rows h n (j + 1) (by omega)]
    rfl
theorem copy_states {H : Heap} {b k : Nat} {f : Nat → Nat} {row : List V} (hk : H.get (.run k) = some (.rows false 1 (rowsB f 16 0))) (hb : H.get (.run b) = some (.rows false 23 [row])) (hl : row.length = 23) (ht : Thin row) :
    ∃ H', copyV 1 H (.slice (some ⟨.run b, 5⟩) 16 16 0) (.slice (some ⟨.run k, 0⟩) 16 16 0) = some (.int .i64 16, H') ∧ H'.get (.run b) = some (.rows false 23 [laid row 5 (stl f 16 0)]) ∧ Turns (fun c => c = .run b) H H' ∧ H'.next = H.next := by
  obtain ⟨H', e, hg, hT, hx⟩ := store_cells (b := .run b) (W := 23) (stl f 16 0) 5 H row hb hl ht (by rw [stl_len]; omega)
  refine ⟨H', ?_, hg, hT, hx⟩
  have he := elems_rows hk 16 0 (by omega)
  unfold copyV
  simp only [lenOf, firstE]
  rw [show min 16 16 = 16 from rfl, he]
  simp only [show Nat.beq 16 0 = false from rfl, e]
  rfl
noncomputable def bc (B i : Nat) : Nat := byte B (8 + i)
theorem bc_lt (B i : Nat) : bc B i < 256 := byte_lt _ _
noncomputable def fld (B a sz : Nat) : Nat := leN (fun i => bc B (a + i)) sz
noncomputable def gSt (B : Nat) : List Nat := stl (twoB fun i => bc B (14 + i)) 16 0
noncomputable def gSup (B : Nat) : V := sup (fld B 0 8) (fld B 13 1) (fld B 8 1) (fld B 9 2) (fld B 11 2) (gSt B) (fld B 18 2) (((fld B 20 1 : Nat) : Int) == 1)
def isSup (B : Nat) : Prop := evt (sealN B) = true ∧ smay (fld B 0 8) (fld B 13 1) (fld B 8 1) (fld B 9 2) (fld B 11 2) (gSt B) (fld B 18 2) ∧ fld B 20 1 ≤ 1 ∧ zeroTo (fun i => bc B (21 + i)) 23
open Classical in
noncomputable def getE (B : Nat) : Int := if sealE B ≠ 0 then sealE B else if isSup B then 0 else 5
def zrow : List V := [.int .u64 0, .int .i64 0, .int .i64 0, .int .i64 0, .int .i64 0, .int .u8 0, .int .u8 0, .int .u8 0, .int .u8 0, .int .u8 0, .int .u8 0, .int .u8 0, .int .u8 0, .int .u8 0, .int .u8 0, .int .u8 0, .int .u8 0, .int .u8 0, .int .u8 0, .int .u8 0, .int .u8 0, .int .i64 0, .bool false]
structure GI (H0 : Heap) (b8 b9 b3 kb : Nat) (c : Nat → Nat) (H : Heap) (a : Nat) (row : List V) : Prop where
  rd : H.get (.run b8) = some (rdr kb a)
  sp : H.get (.run b9) = some (.rows false 23 [row])
  an : H.get (.run b3) = some (.rows false 23 [zrow])
  body : BodyAt H kb c 44
  t : Turns Z H0 H
  lo : H0.next ≤ b8 ∧ H0.next ≤ b9 ∧ H0.next ≤ b3
  hi : b8 < H.next ∧ b9 < H.next ∧ b3 < H.next
  ne : b8 ≠ b9 ∧ b8 ≠ b3 ∧ b9 ≠ b3 ∧ kb ≠ b8 ∧ kb ≠ b9 ∧ kb ≠ b3
theorem run_ne {a b : Nat} (h : a ≠ b) : ¬ (Bk.run a = Bk.run b) := fun e => h (by cases e; rfl)
theorem GI.set8 {H0 H : Heap} {b8 b9 b3 kb a : Nat} {c : Nat → Nat} {row : List V} (g : GI H0 b8 b9 b3 kb c H a row) (a' : Nat) : GI H0 b8 b9 b3 kb c (H.set (.run b8) (rdr kb a')) a' row := by
  obtain ⟨n1, n2, n3, n4, n5, n6⟩ := g.ne
  refine ⟨by rw [Heap.get_set, if_pos rfl], ?_, ?_, ⟨?_, by simpa using g.body.old⟩, g.t.setnew g.lo.1 _, g.lo, by simpa using g.hi, g.ne⟩
  · rw [Heap.get_set, if_neg (run_ne (Ne.symm n1))]; exact g.sp
  · rw [Heap.get_set, if_neg (run_ne (Ne.symm n2))]; exact g.an
  · rw [Heap.get_set, if_neg (run_ne n4)]; exact g.body.own
theorem GI.set9 {H0 H : Heap} {b8 b9 b3 kb a : Nat} {c : Nat → Nat} {row : List V} (g : GI H0 b8 b9 b3 kb c H a row) (row' : List V) : GI H0 b8 b9 b3 kb c (H.set (.run b9) (.rows false 23 [row'])) a row' := by
  obtain ⟨n1, n2, n3, n4, n5, n6⟩ := g.ne
  refine ⟨?_, by rw [Heap.get_set, if_pos rfl], ?_, ⟨?_, by simpa using g.body.old⟩, g.t.setnew g.lo.2.1 _, g.lo, by simpa using g.hi, g.ne⟩
  · rw [Heap.get_set, if_neg (run_ne n1)]; exact g.rd
  · rw [Heap.get_set, if_neg (run_ne (Ne.symm n3))]; exact g.an
  · rw [Heap.get_set, if_neg (run_ne n5)]; exact g.body.own
theorem GI.on {H0 H H' : Heap} {b8 b9 b3 kb a : Nat} {c : Nat → Nat} {row : List V} (g : GI H0 b8 b9 b3 kb c H a row) (t : Turns Z H H') : GI H0 b8 b9 b3 kb c H' a row :=
  ⟨(t.same (.run b8) g.hi.1 id).trans g.rd, (t.same (.run b9) g.hi.2.1 id).trans g.sp, (t.same (.run b3) g.hi.2.2 id).trans g.an, g.body.turns t, g.t.trans t, g.lo, ⟨Nat.lt_of_lt_of_le g.hi.1 t.next, Nat.lt_of_lt_of_le g.hi.2.1 t.next, Nat.lt_of_lt_of_le g.hi.2.2 t.next⟩, g.ne⟩
theorem GI.on9 {H0 H H' : Heap} {b8 b9 b3 kb a : Nat} {c : Nat → Nat} {row row' : List V} (g : GI H0 b8 b9 b3 kb c H a row) (t : Turns (fun c => c = .run b9) H H') (h : H'.get (.run b9) = some (.rows false 23 [row'])) : GI H0 b8 b9 b3 kb c H' a row' := by
  obtain ⟨n1, n2, n3, n4, n5, n6⟩ := g.ne
  refine ⟨(t.same (.run b8) g.hi.1 (run_ne n1)).trans g.rd, h, (t.same (.run b3) g.hi.2.2 (run_ne (Ne.symm n3))).trans g.an, ⟨(t.same (.run kb) g.body.old (run_ne n5)).trans g.body.own, Nat.lt_of_lt_of_le g.body.old t.next⟩, ?_, g.lo, ⟨Nat.lt_of_lt_of_le g.hi.1 t.next, Nat.lt_of_lt_of_le g.hi.2.1 t.next, Nat.lt_of_lt_of_le g.hi.2.2 t.next⟩, g.ne⟩
  exact g.t.later t (fun c ho e => by subst e; exact absurd ho (Heap.not_old g.lo.2.1))
theorem GI.take {H0 H : Heap} {b8 b9 b3 kb a : Nat} {c : Nat → Nat} {row : List V} (g : GI H0 b8 b9 b3 kb c H a row) (hc : ∀ i, c i < 256) {sz : Nat} (hs : 1 ≤ sz ∧ sz ≤ 8) (ha : a + sz ≤ 44) {lf : Nat} (hlf : 60 < lf) (n : Nat) :
    ∃ H', callS Tryz.prog S0 lf (n + 2) 202 [.ptr (some ⟨.run b8, 0⟩), .int .i64 (sz : Int)] H = some (.v (.int .u64 ((leN (fun i => c (a + i)) sz : Nat) : Int)), H') ∧ GI H0 b8 b9 b3 kb c H' (a + sz) row :=
  ⟨_, rtake_ok g.rd g.body hc hs ha hlf n, g.set8 (a + sz)⟩
theorem GI.put {H0 H : Heap} {b8 b9 b3 kb a : Nat} {c : Nat → Nat} {row : List V} (g : GI H0 b8 b9 b3 kb c H a row) {o : Nat} {vs row' : List V} (ho : o < 23) (hp : put row o vs = some row') :
    ∃ H', storeAt H ⟨.run b9, o⟩ vs = some H' ∧ GI H0 b8 b9 b3 kb c H' a row' := by
  refine ⟨_, ?_, g.set9 row'⟩
  have := storeAt_eq g.sp (o := o) (vs := vs) (r := row) (r' := row') (by rw [Nat.div_eq_of_lt ho]; rfl) (by rw [Nat.mod_eq_of_lt ho]; exact hp)
  rw [Nat.div_eq_of_lt ho] at this
  exact this
end Go.Proofs.YtejgheoandfikaaGreat.draft
set_option linter.unusedVariables false
set_option linter.unusedSimpArgs false
set_option maxRecDepth 10000
namespace Go.Proofs.YtejgheoandfikaaGreat.draft
open Go.Am
theorem up_lt' {c i : Nat} (hc : c < 256) : up c i < 2 ^ (8 * (i + 1)) := by
  unfold up
  have : 2 ^ (8 * (i + 1)) = 256 * 2 ^ (8 * i) := by rw [show 8 * (i + 1) = 8 + 8 * i by omega, Nat.pow_add]
  rw [this]
  exact Nat.mul_lt_mul_of_pos_right hc (Nat.pow_pos (by decide))
theorem leN_lt' {c : Nat → Nat} (hc : ∀ i, c i < 256) : ∀ n, leN c n < 2 ^ (8 * n)
  | 0 => by show 0 < _; exact Nat.pow_pos (by decide)
  | n + 1 => Nat.or_lt_two_pow (Nat.lt_of_lt_of_le (leN_lt' hc n) (Nat.pow_le_pow_right (by decide) (by omega))) (up_lt' (hc n))
theorem fld_1 (B a : Nat) : fld B a 1 < 256 := leN_lt' (fun i => bc_lt B (a + i)) 1
theorem fld_2 (B a : Nat) : fld B a 2 < 65536 := leN_lt' (fun i => bc_lt B (a + i)) 2
theorem set_c {S : List Nat} (hS : S.length = 16) (id me m s r c c' : Int) (g : Bool) : (scells id me m s r S c g).set 21 (.int .i64 c') = scells id me m s r S c' g := by
  match S, hS with
  | [_, _, _, _, _, _, _, _, _, _, _, _, _, _, _, _], _ => rfl
theorem set_g {S : List Nat} (hS : S.length = 16) (id me m s r c : Int) (g g' : Bool) : (scells id me m s r S c g).set 22 (.bool g') = scells id me m s r S c g' := by
  match S, hS with
  | [_, _, _, _, _, _, _, _, _, _, _, _, _, _, _, _], _ => rfl
theorem put_c {S : List Nat} (hS : S.length = 16) (id me m s r c c' : Int) (g : Bool) : put (scells id me m s r S c g) 21 [.int .i64 c'] = some (scells id me m s r S c' g) := by
  rw [put_one (s_thin id me m s r S c g) (by rw [s_len hS]; omega) rfl, set_c hS]
theorem put_g {S : List Nat} (hS : S.length = 16) (id me m s r c : Int) (g g' : Bool) : put (scells id me m s r S c g) 22 [.bool g'] = some (scells id me m s r S c g') := by
  rw [put_one (s_thin id me m s r S c g) (by rw [s_len hS]; omega) rfl, set_g hS]
theorem laid_s {S : List Nat} (hS : S.length = 16) (id me m s r c : Int) (g : Bool) : laid (scells id me m s r (List.replicate 16 0) c g) 5 S = scells id me m s r S c g := by
  match S, hS with
  | [_, _, _, _, _, _, _, _, _, _, _, _, _, _, _, _], _ => simp [laid, scells, rcells, sts, List.replicate]
theorem put_s {S : List Nat} (hS : S.length = 16) (id me m s r c : Int) (g : Bool) : put zrow 0 (scells id me m s r S c g) = some (scells id me m s r S c g) := by
  match S, hS with
  | [_, _, _, _, _, _, _, _, _, _, _, _, _, _, _, _], _ => rfl
theorem GI.ans {H0 H : Heap} {b8 b9 b3 kb a : Nat} {c : Nat → Nat} {row : List V} (G : GI H0 b8 b9 b3 kb c H a row) {row' : List V} (hp : Go.Am.put zrow 0 row' = some row') (hl : row'.length = 23) (ht : Thin row') :
    ∃ H', storeAt H ⟨.run b3, 0⟩ row' = some H' ∧ loadAt H' ⟨.run b3, 0⟩ 23 = some row' ∧ Turns Z H0 H' := by
  refine ⟨_, storeAt_eq G.an (r := zrow) (r' := row') rfl hp, ?_, G.t.setnew G.lo.2.2 _⟩
  rw [loadAt_eq (b := .run b3) (r := row') (by rw [Heap.get_set, if_pos rfl]) rfl, cut_thin ht (by omega)]
  simp [← hl]
theorem put_z : put zrow 0 zrow = some zrow := rfl
theorem width_z : width zrow = 23 := rfl
theorem sgf_ok (H : Heap) (B : Nat) {lf : Nat} (hlf : 60 < lf) (n : Nat) : ret (callS Tryz.prog S0 lf (n + 5) 165 [.blk B] H) fun v H' => Turns Z H H' ∧
    ((getE B ≠ 0 ∧ v = .tuple [.int .u64 0, .agg zrow, .int .i64 (getE B)]) ∨ (getE B = 0 ∧ v = .tuple [.int .u64 ((sealN B : Nat) : Int), gSup B, .int .i64 0])) := by
  have t1 := Turns.add Z H (.rows false 64 [[.blk B]])
  have hg1 : (H.add (.rows false 64 [[.blk B]])).get (.run H.next) = some (.rows false 64 [[.blk B]]) := by rw [Heap.get_add, if_pos rfl]
  have t2 := t1.addm (.rows false 23 [zrow])
  have hg2 : ((H.add (.rows false 64 [[.blk B]])).add (.rows false 23 [zrow])).get (.run H.next) = some (.rows false 64 [[.blk B]]) := by
    rw [Heap.get_add, if_neg (run_ne (by simp)), hg1]
  have hg3 : ((H.add (.rows false 64 [[.blk B]])).add (.rows false 23 [zrow])).get (.run (H.next + 1)) = some (.rows false 23 [zrow]) := by
    rw [Heap.get_add, if_pos (by simp)]
  have hn2 : ((H.add (.rows false 64 [[.blk B]])).add (.rows false 23 [zrow])).next = H.next + 2 := by simp
  have hzr : zrow = [.int .u64 0, .int .i64 0, .int .i64 0, .int .i64 0, .int .i64 0, .int .u8 0, .int .u8 0, .int .u8 0, .int .u8 0, .int .u8 0, .int .u8 0, .int .u8 0, .int .u8 0, .int .u8 0, .int .u8 0, .int .u8 0, .int .u8 0, .int .u8 0, .int .u8 0, .int .u8 0, .int .u8 0, .int .i64 0, .bool false] := rfl
  generalize hH2 : (H.add (.rows false 64 [[.blk B]])).add (.rows false 23 [zrow]) = H2 at *
  have l1 : loadAt H2 ⟨.run H.next, 0⟩ 64 = some [.blk B] := by rw [loadAt_eq hg2 rfl]; exact Dy _ _
  obtain ⟨v, H3, e1, t3, hv⟩ := sget_ok H2 B hlf n
  have hg3' : H3.get (.run (H.next + 1)) = some (.rows false 23 [zrow]) := (t3.same (.run (H.next + 1)) (by show _ < _; omega) id).trans hg3
  have hn3 : H.next + 2 ≤ H3.next := by rw [← hn2]; exact t3.next
  refine ret_call rfl c165_eq ?_
  rw [hzr] at hH2
  rcases hv with ⟨hE, rfl⟩ | ⟨hE, k, rfl, hb, hk⟩
  · have b0 : (sealE B == 0) = false := by simpa using hE
    have st : storeAt H3 ⟨.run (H.next + 1), 0⟩ zrow = some (H3.set (.run (H.next + 1)) (.rows false 23 [zrow])) := storeAt_eq hg3' (r := zrow) (r' := zrow) rfl put_z
    have lz : loadAt (H3.set (.run (H.next + 1)) (.rows false 23 [zrow])) ⟨.run (H.next + 1), 0⟩ 23 = some zrow := by
      rw [loadAt_eq (b := .run (H.next + 1)) (r := zrow) (by rw [Heap.get_set, if_pos rfl]) rfl]; rfl
    have hw := width_z
    have hge : getE B = sealE B := by unfold getE; rw [if_pos hE]
    rw [hge]
    generalize hH4 : H3.set (.run (H.next + 1)) (.rows false 23 [zrow]) = H4 at *
    rw [hzr] at st lz hw ⊢
    simp only [c165, hH2, l1, e1, b0, st, lz, hw, sy, tup, ↓reduceIte, Nat.reduceEqDiff, Nat.reduceAdd, Nat.reduceSub, Nat.reduceMul, Nat.reduceLeDiff, Int.reduceBEq, reduceCtorEq]
    refine ⟨trivial, .inr trivial, _, rfl, ?_, .inl ⟨hE, rfl⟩⟩
    rw [← hH4]
    exact (t2.trans t3).setnew (by omega) _
  · have hcB : ∀ i, bc B i < 256 := bc_lt B
    have hb : BodyAt H3 k (bc B) 44 := hb
    obtain ⟨H4, hH4⟩ : ∃ H4, H3.add (.rows false 2 [[.slice (some ⟨.run k, 0⟩) 44 44 1, .int .i64 0]]) = H4 := ⟨_, rfl⟩
    have g4 : H4.get (.run H3.next) = some (rdr k 0) := by rw [← hH4, Heap.get_add, if_pos rfl]; rfl
    have t4 : Turns Z H3 H4 := by rw [← hH4]; exact Turns.add Z H3 _
    have n4 : H4.next = H3.next + 1 := by rw [← hH4]; simp
    have e2 : callS Tryz.prog S0 lf (n + 4) 202 [.ptr (some ⟨.run H3.next, 0⟩), .int .i64 8] H4 = some (.v (.int .u64 ((fld B 0 8 : Nat) : Int)), H4.set (.run H3.next) (rdr k 8)) := rtake_ok g4 (hb.turns t4) hcB (a := 0) (sz := 8) (by omega) (by omega) hlf (n + 2)
    obtain ⟨H5, hH5⟩ : ∃ H5, H4.set (.run H3.next) (rdr k 8) = H5 := ⟨_, rfl⟩
    rw [hH5] at e2
    have g5 : H5.get (.run H3.next) = some (rdr k 8) := by rw [← hH5, Heap.get_set, if_pos rfl]
    have n5 : H5.next = H3.next + 1 := by rw [← hH5]; simpa using n4
    have bk := hb.old
    have b5 : BodyAt H5 k (bc B) 44 := ⟨by rw [← hH5, Heap.get_set, if_neg (run_ne (by omega))]; exact (hb.turns t4).own, by omega⟩
    have a5 : H5.get (.run (H.next + 1)) = some (.rows false 23 [zrow]) := by
      rw [← hH5, Heap.get_set, if_neg (run_ne (by omega))]
      exact (t4.same (.run (H.next + 1)) (by show _ < _; omega) id).trans hg3'
    have T5 : Turns Z H H5 := by rw [← hH5]; exact ((t2.trans t3).trans t4).setnew (by omega) _
    obtain ⟨H6, hH6⟩ : ∃ H6, H5.add (.rows false 23 [zrow]) = H6 := ⟨_, rfl⟩
    have t6 : Turns Z H5 H6 := by rw [← hH6]; exact Turns.add Z H5 _
    have G6 : GI H H3.next H5.next (H.next + 1) k (bc B) H6 8 zrow := by
      refine ⟨(t6.same (.run H3.next) (by show _ < _; omega) id).trans g5, by rw [← hH6, Heap.get_add, if_pos rfl], (t6.same (.run (H.next + 1)) (by show _ < _; omega) id).trans a5, b5.turns t6, T5.trans t6, ⟨by omega, by omega, by omega⟩, ?_, ⟨by omega, by omega, by omega, by omega, by omega, by omega⟩⟩
      have : H6.next = H5.next + 1 := by rw [← hH6]; simp
      exact ⟨by omega, by omega, by omega⟩
    obtain ⟨H7, st7, G7⟩ := G6.put (o := 0) (vs := scells (fld B 0 8) 0 0 0 0 (List.replicate 16 0) 0 false) (row' := scells (fld B 0 8) 0 0 0 0 (List.replicate 16 0) 0 false) (by omega) rfl
    obtain ⟨H8, e8, G8⟩ := G7.take hcB (sz := 1) (by omega) (by omega) hlf (n + 2)
    have e8 : callS Tryz.prog S0 lf (n + 4) 202 [.ptr (some ⟨.run H3.next, 0⟩), .int .i64 1] H7 = some (.v (.int .u64 ((fld B 8 1 : Nat) : Int)), H8) := e8
    have G8 : GI H H3.next H5.next (H.next + 1) k (bc B) H8 9 _ := G8
    obtain ⟨H9, e9, G9⟩ := G8.take hcB (sz := 2) (by omega) (by omega) hlf (n + 2)
    have e9 : callS Tryz.prog S0 lf (n + 4) 202 [.ptr (some ⟨.run H3.next, 0⟩), .int .i64 2] H8 = some (.v (.int .u64 ((fld B 9 2 : Nat) : Int)), H9) := e9
    have G9 : GI H H3.next H5.next (H.next + 1) k (bc B) H9 11 _ := G9
    obtain ⟨H10, e10, G10⟩ := G9.take hcB (sz := 2) (by omega) (by omega) hlf (n + 2)
    have e10 : callS Tryz.prog S0 lf (n + 4) 202 [.ptr (some ⟨.run H3.next, 0⟩), .int .i64 2] H9 = some (.v (.int .u64 ((fld B 11 2 : Nat) : Int)), H10) := e10
    have G10 : GI H H3.next H5.next (H.next + 1) k (bc B) H10 13 _ := G10
    obtain ⟨H11, st11, G11⟩ := G10.put (o := 2) (vs := [.int .i64 (fld B 8 1), .int .i64 (fld B 9 2), .int .i64 (fld B 11 2)]) (row' := scells (fld B 0 8) 0 (fld B 8 1) (fld B 9 2) (fld B 11 2) (List.replicate 16 0) 0 false) (by omega) rfl
    obtain ⟨H12, e12, G12⟩ := G11.take hcB (sz := 1) (by omega) (by omega) hlf (n + 2)
    have e12 : callS Tryz.prog S0 lf (n + 4) 202 [.ptr (some ⟨.run H3.next, 0⟩), .int .i64 1] H11 = some (.v (.int .u64 ((fld B 13 1 : Nat) : Int)), H12) := e12
    have G12 : GI H H3.next H5.next (H.next + 1) k (bc B) H12 14 _ := G12
    obtain ⟨H13, st13, G13⟩ := G12.put (o := 1) (vs := [.int .i64 (fld B 13 1)]) (row' := scells (fld B 0 8) (fld B 13 1) (fld B 8 1) (fld B 9 2) (fld B 11 2) (List.replicate 16 0) 0 false) (by omega) rfl
    have r13 : loadAt H13 ⟨.run H3.next, 0⟩ 1 = some [.slice (some ⟨.run k, 0⟩) 44 44 1] := by rw [loadAt_eq G13.rd rfl]; rfl
    have a13 : loadAt H13 ⟨.run H3.next, 1⟩ 1 = some [.int .i64 14] := by rw [loadAt_eq G13.rd rfl]; rfl
    obtain ⟨vu, H14, e14, t14, ku, rfl, gu, ou⟩ := unbits_ok (H := H13) (p := ⟨.run k, 14⟩) (len := 30) (cap := 30) (loose := 1) (c := fun i => bc B (14 + i)) (by omega) (by omega) G13.body.old (fun i => hcB _) (fun t i hi => (G13.body.turns t).load (i := 14 + i) (by omega)) lf (n + 2) (by omega)
    change callS Tryz.prog S0 lf (n + 4) 203 _ _ = _ at e14
    have G14 := G13.on t14
    have hS16 : (gSt B).length = 16 := stl_len _ _ _
    obtain ⟨H15, e15, g15, t15, n15⟩ := copy_states gu G14.sp rfl (s_thin _ _ _ _ _ _ _ _)
    have G15 : GI H H3.next H5.next (H.next + 1) k (bc B) H15 14 (scells (fld B 0 8) (fld B 13 1) (fld B 8 1) (fld B 9 2) (fld B 11 2) (gSt B) 0 false) := G14.on9 t15 (by rw [g15]; exact congrArg (fun r => some (Am.Obj.rows false 23 [r])) (laid_s hS16 _ _ _ _ _ _ _))
    have a15 : loadAt H15 ⟨.run H3.next, 1⟩ 1 = some [.int .i64 14] := by rw [loadAt_eq G15.rd rfl]; rfl
    have w1 : IntKind.i64.wrap (((16 : Nat) : Int) * 2) = 32 := by kernel_rfl
    have w2 : arith .quo (.int .i64 32) (.int .i64 8) = some (.int .i64 4) := by kernel_rfl
    have w3 : IntKind.i64.wrap (14 + 4) = 18 := by kernel_rfl
    have st16 : storeAt H15 ⟨.run H3.next, 1⟩ [.int .i64 18] = some (H15.set (.run H3.next) (rdr k 18)) := storeAt_eq G15.rd (r := [.slice (some ⟨.run k, 0⟩) 44 44 1, .int .i64 14]) (r' := [.slice (some ⟨.run k, 0⟩) 44 44 1, .int .i64 18]) rfl rfl
    have G16 := G15.set8 18
    obtain ⟨H16, hH16⟩ : ∃ H16, H15.set (.run H3.next) (rdr k 18) = H16 := ⟨_, rfl⟩
    rw [hH16] at st16 G16
    obtain ⟨H17, e17, G17⟩ := G16.take hcB (sz := 2) (by omega) (by omega) hlf (n + 2)
    have e17 : callS Tryz.prog S0 lf (n + 4) 202 [.ptr (some ⟨.run H3.next, 0⟩), .int .i64 2] H16 = some (.v (.int .u64 ((fld B 18 2 : Nat) : Int)), H17) := e17
    have G17 : GI H H3.next H5.next (H.next + 1) k (bc B) H17 20 _ := G17
    obtain ⟨H18, st18, G18⟩ := G17.put (o := 21) (vs := [.int .i64 (fld B 18 2)]) (row' := scells (fld B 0 8) (fld B 13 1) (fld B 8 1) (fld B 9 2) (fld B 11 2) (gSt B) (fld B 18 2) false) (by omega) (put_c hS16 _ _ _ _ _ _ _ _)
    obtain ⟨H19, e19, G19⟩ := G18.take hcB (sz := 1) (by omega) (by omega) hlf (n + 2)
    have e19 : callS Tryz.prog S0 lf (n + 4) 202 [.ptr (some ⟨.run H3.next, 0⟩), .int .i64 1] H18 = some (.v (.int .u64 ((fld B 20 1 : Nat) : Int)), H19) := e19
    have G19 : GI H H3.next H5.next (H.next + 1) k (bc B) H19 21 _ := G19
    obtain ⟨H20, st20, G20⟩ := G19.put (o := 22) (vs := [.bool (((fld B 20 1 : Nat) : Int) == 1)]) (row' := scells (fld B 0 8) (fld B 13 1) (fld B 8 1) (fld B 9 2) (fld B 11 2) (gSt B) (fld B 18 2) (((fld B 20 1 : Nat) : Int) == 1)) (by omega) (put_g hS16 _ _ _ _ _ _ _ _)
    have r20 : loadAt H20 ⟨.run H3.next, 0⟩ 1 = some [.slice (some ⟨.run k, 0⟩) 44 44 1] := by rw [loadAt_eq G20.rd rfl]; rfl
    have a20 : loadAt H20 ⟨.run H3.next, 1⟩ 1 = some [.int .i64 21] := by rw [loadAt_eq G20.rd rfl]; rfl
    obtain ⟨vz, H21, e21, rfl, zl, rfl, hzl⟩ := contains_ok (H := H20) (p := ⟨.run k, 21⟩) (len := 23) (cap := 23) (loose := 1) (c := fun i => bc B (21 + i)) (by omega) (fun i hi => G20.body.load (i := 21 + i) (by omega)) lf (n + 1) (by omega)
    change callS Tryz.prog S0 lf (n + 4) 204 _ _ = _ at e21
    have e22 : callS Tryz.prog S0 lf (n + 4) 206 [.int .u64 ((sealN B : Nat) : Int)] H21 = _ := event_ok H21 _ lf (n + 3)
    have S20 : SupAt H21 (.run H5.next) (fld B 0 8) (fld B 13 1) (fld B 8 1) (fld B 9 2) (fld B 11 2) (gSt B) (fld B 18 2) (((fld B 20 1 : Nat) : Int) == 1) := ⟨G20.sp, hS16⟩
    have ls := sup_all S20
    obtain ⟨vm, H23, e23, ⟨zm, rfl, hzm⟩, t23⟩ := smay_ok H21 (id := fld B 0 8) (me := fld B 13 1) (m := fld B 8 1) (s := fld B 9 2) (r := fld B 11 2) (c := fld B 18 2) (g := ((fld B 20 1 : Nat) : Int) == 1) hS16 lf n (by omega)
    unfold sup at e23
    have c1 : IntKind.i64.wrap ((fld B 8 1 : Nat) : Int) = ((fld B 8 1 : Nat) : Int) := wrap_nat (by have := fld_1 B 8; omega)
    have c2 : IntKind.i64.wrap ((fld B 9 2 : Nat) : Int) = ((fld B 9 2 : Nat) : Int) := wrap_nat (by have := fld_2 B 9; omega)
    have c3 : IntKind.i64.wrap ((fld B 11 2 : Nat) : Int) = ((fld B 11 2 : Nat) : Int) := wrap_nat (by have := fld_2 B 11; omega)
    have c4 : IntKind.i64.wrap ((fld B 13 1 : Nat) : Int) = ((fld B 13 1 : Nat) : Int) := wrap_nat (by have := fld_1 B 13; omega)
    have c5 : IntKind.i64.wrap ((fld B 18 2 : Nat) : Int) = ((fld B 18 2 : Nat) : Int) := wrap_nat (by have := fld_2 B 18; omega)
    have bb1 : bounds 44 44 (some (.int .i64 14)) none none = some (14, 44, 44) := rfl
    have bb2 : bounds 44 44 (some (.int .i64 21)) none none = some (21, 44, 44) := rfl
    have bb3 : bounds 16 16 none none none = some (0, 16, 16) := rfl
    have st7 : storeAt H6 ⟨.run H5.next, 0⟩ [.int .u64 ((fld B 0 8 : Nat) : Int), .int .i64 0, .int .i64 0, .int .i64 0, .int .i64 0, .int .u8 0, .int .u8 0, .int .u8 0, .int .u8 0, .int .u8 0, .int .u8 0, .int .u8 0, .int .u8 0, .int .u8 0, .int .u8 0, .int .u8 0, .int .u8 0, .int .u8 0, .int .u8 0, .int .u8 0, .int .u8 0, .int .i64 0, .bool false] = some H7 := st7
    rw [hzr] at hH6
    simp only [c165, hH2, l1, e1, hH4, e2, hH6, st7, e8, e9, e10, c1, c2, c3, st11, e12, c4, st13, r13, a13, bb1, e14, sy, tup, ↓reduceIte, Nat.reduceEqDiff, Nat.reduceAdd, Nat.reduceSub, Nat.reduceMul, Nat.reduceLeDiff, Int.reduceBEq, reduceCtorEq]
    rw [endD_ok (by kernel_rfl) (by kernel_rfl)]
    simp only [r13, a13, bb1, bb2, bb3, e14, e15, a15, w1, w2, w3, st16, e17, c5, st18, e19, st20, r20, a20, e21, e22, arith_mul, sy, tup, ↓reduceIte, Nat.reduceEqDiff, Nat.reduceAdd, Nat.reduceSub, Nat.reduceMul, Nat.reduceLeDiff, Int.reduceBEq, reduceCtorEq]
    rw [endD_ok (by kernel_rfl) (by kernel_rfl)]
    have hgY : isSup B → getE B = 0 := fun h => by unfold getE; rw [if_neg (by simpa using hE), if_pos h]
    have hgN : ¬ isSup B → getE B = 5 := fun h => by unfold getE; rw [if_neg (by simpa using hE), if_neg h]
    have G23 := G20.on t23
    have ls23 : loadAt H23 ⟨.run H5.next, 0⟩ 23 = _ := sup_all ⟨G23.sp, hS16⟩
    obtain ⟨F1, sf1, lf1, tf1⟩ := G20.ans (row' := zrow) put_z rfl (s_thin 0 0 0 0 0 (List.replicate 16 0) 0 false)
    obtain ⟨F2, sf2, lf2, tf2⟩ := G23.ans (row' := zrow) put_z rfl (s_thin 0 0 0 0 0 (List.replicate 16 0) 0 false)
    obtain ⟨F3, sf3, lf3, tf3⟩ := G23.ans (put_s hS16 (fld B 0 8) (fld B 13 1) (fld B 8 1) (fld B 9 2) (fld B 11 2) (fld B 18 2) (((fld B 20 1 : Nat) : Int) == 1)) (s_len hS16 _ _ _ _ _ _ _) (s_thin _ _ _ _ _ _ _ _)
    have hsw := s_width hS16 (fld B 0 8) (fld B 13 1) (fld B 8 1) (fld B 9 2) (fld B 11 2) (fld B 18 2) (((fld B 20 1 : Nat) : Int) == 1)
    have hwz := width_z
    rw [hzr] at sf1 lf1 sf2 lf2 hwz ⊢
    cases hev : evt (sealN B) with
    | false =>
      have hno : ¬ isSup B := fun h => by rw [h.1] at hev; cases hev
      rw [hev] at e22
      simp only [r20, a20, bb2, e21, e22, sf1, lf1, hwz, sy, tup, ↓reduceIte, Nat.reduceEqDiff, Nat.reduceAdd, Nat.reduceSub, Nat.reduceMul, Nat.reduceLeDiff, Int.reduceBEq, reduceCtorEq]
      exact ⟨trivial, .inr trivial, _, rfl, tf1, .inl ⟨by rw [hgN hno]; decide, by rw [hgN hno]⟩⟩
    | true =>
      rw [hev] at e22
      cases hz : zm with
      | false =>
        subst hz
        have hno : ¬ isSup B := fun h => by have := hzm.2 h.2.1; cases this
        simp only [r20, a20, bb2, e21, e22, ls, e23, sf2, lf2, hwz, sy, tup, ↓reduceIte, Nat.reduceEqDiff, Nat.reduceAdd, Nat.reduceSub, Nat.reduceMul, Nat.reduceLeDiff, Int.reduceBEq, reduceCtorEq]
        exact ⟨trivial, .inr trivial, _, rfl, tf2, .inl ⟨by rw [hgN hno]; decide, by rw [hgN hno]⟩⟩
      | true =>
        subst hz
        by_cases hg1 : 1 < fld B 20 1
        · have hno : ¬ isSup B := fun h => by have := h.2.2.1; omega
          have hg1' : (1 : Int) < ((fld B 20 1 : Nat) : Int) := by omega
          simp only [r20, a20, bb2, e21, e22, ls, e23, sf2, lf2, hwz, hg1', sy, tup, ↓reduceIte, Nat.reduceEqDiff, Nat.reduceAdd, Nat.reduceSub, Nat.reduceMul, Nat.reduceLeDiff, Int.reduceBEq, reduceCtorEq]
          exact ⟨trivial, .inr trivial, _, rfl, tf2, .inl ⟨by rw [hgN hno]; decide, by rw [hgN hno]⟩⟩
        · have hg1' : ¬ (1 : Int) < ((fld B 20 1 : Nat) : Int) := by omega
          cases hl : zl with
          | true =>
            subst hl
            have hno : ¬ isSup B := fun h => by have := hzl.2 h.2.2.2; cases this
            simp only [r20, a20, bb2, e21, e22, ls, e23, sf2, lf2, hwz, hg1', sy, tup, ↓reduceIte, Nat.reduceEqDiff, Nat.reduceAdd, Nat.reduceSub, Nat.reduceMul, Nat.reduceLeDiff, Int.reduceBEq, reduceCtorEq]
            exact ⟨trivial, .inr trivial, _, rfl, tf2, .inl ⟨by rw [hgN hno]; decide, by rw [hgN hno]⟩⟩
          | false =>
            subst hl
            have hyes : isSup B := ⟨hev, hzm.1 rfl, by omega, hzl.1 rfl⟩
            simp only [r20, a20, bb2, e21, e22, ls, e23, hg1', ls23, sf3, lf3, hsw, sy, tup, ↓reduceIte, Nat.reduceEqDiff, Nat.reduceAdd, Nat.reduceSub, Nat.reduceMul, Nat.reduceLeDiff, Int.reduceBEq, reduceCtorEq]
            rw [endD_ok (by kernel_rfl) (by kernel_rfl)]
            simp only [ls23, sf3, lf3, hsw, sy, tup, ↓reduceIte, Nat.reduceEqDiff, Nat.reduceAdd, Nat.reduceSub, Nat.reduceMul, Nat.reduceLeDiff, Int.reduceBEq, reduceCtorEq]
            exact ⟨trivial, .inr trivial, _, rfl, tf3, .inr ⟨hgY hyes, rfl⟩⟩
end Go.Proofs.YtejgheoandfikaaGreat.draft
set_option linter.unusedVariables false
set_option linter.unusedSimpArgs false
set_option maxRecDepth 10000
namespace Go.Proofs.YtejgheoandfikaaGreat.draft
open Go.Am
noncomputable def c164 : CFn := ⟨[.tmp (pp 4), .tmp (pp 5)],
 .seq (.reg [
 qo 2 (.m (boxF 64 (tt 0))) [pp 0],
 qo 3 (.m (boxF 64 (tt 1))) [pp 1],
 qo 4 (.p (S.get (ii 0))) [],
 qo 5 (.p (S.get (.c (.bool false)))) []]) (
 .seq (.reg [
 qo 13 (.r (loadF (tt 2) 64 .bk)) [pp 2],
 qo 14 (.c (callF (ff 165) [(tt 13)])) [pp 13],
 mv 12 14,
 qo 15 (.p (extF (tt 12) 0)) [pp 12],
 qo 16 (.p (extF (tt 12) 1)) [pp 12],
 qo 17 (.p (extF (tt 12) 2)) [pp 12],
 qo 7 (.m (allocF 23 [.int .u64 0, .int .i64 0, .int .i64 0, .int .i64 0, .int .i64 0, .int .u8 0, .int .u8 0, .int .u8 0, .int .u8 0, .int .u8 0, .int .u8 0, .int .u8 0, .int .u8 0, .int .u8 0, .int .u8 0, .int .u8 0, .int .u8 0, .int .u8 0, .int .u8 0, .int .u8 0, .int .u8 0, .int .i64 0, .bool false])) [],
 mv 6 15,
 qn (.a (storeF (tt 7) (tt 16) 23)) [pp 7, pp 16],
 mv 8 17]) (
 .seq (.reg [
 qo 19 (.r (loadF (tt 3) 64 .bk)) [pp 3],
 qo 20 (.c (callF (ff 165) [(tt 19)])) [pp 19],
 mv 18 20,
 qo 21 (.p (extF (tt 18) 0)) [pp 18],
 qo 22 (.p (extF (tt 18) 1)) [pp 18],
 qo 23 (.p (extF (tt 18) 2)) [pp 18],
 qo 10 (.m (allocF 23 [.int .u64 0, .int .i64 0, .int .i64 0, .int .i64 0, .int .i64 0, .int .u8 0, .int .u8 0, .int .u8 0, .int .u8 0, .int .u8 0, .int .u8 0, .int .u8 0, .int .u8 0, .int .u8 0, .int .u8 0, .int .u8 0, .int .u8 0, .int .u8 0, .int .u8 0, .int .u8 0, .int .u8 0, .int .i64 0, .bool false])) [],
 mv 9 21,
 qn (.a (storeF (tt 10) (tt 22) 23)) [pp 10, pp 22],
 mv 11 23]) (
 .seq (.block 0 (.seq (.reg [
 mv 25 8,
 qo 26 (.p (eqcF true false [.int .i64] (tt 25) (ii 0))) [pp 25],
 mv 27 26,
 mg 28 11 27 true,
 qg 29 (.p (eqcF true false [.int .i64] (tt 28) (ii 0))) 27 true [pp 28],
 qo 30 (.p (pickF (tt 27) (tt 29) (.c (.bool false)))) [pp 27, pp 29],
 mv 24 30]) (
 .cond (tt 24) (.seq (.reg [
 qo 4 (.p (S.get (ii 0))) [],
 qo 5 (.p (S.get (.c (.bool true)))) []]) (
 .ret)) (.seq (.seq (.reg [
 mv 32 8,
 qo 33 (.p (eqcF true false [.int .i64] (tt 32) (ii 0))) [pp 32],
 mv 31 33]) (
 .cond (tt 31) (.skip) (.reg [
 mv 34 11,
 qo 35 (.p (eqcF false false [.int .i64] (tt 34) (ii 0))) [pp 34],
 mv 36 35,
 mg 37 9 36 true,
 mg 38 6 36 true,
 qg 39 (.p (arF .gtr (tt 37) (tt 38))) 36 true [pp 37, pp 38],
 qo 40 (.p (pickF (tt 36) (tt 39) (.c (.bool false)))) [pp 36, pp 39],
 mv 31 40]))) (
 .cond (tt 31) (.seq (.reg [
 qo 4 (.p (S.get (ii 1))) [],
 qo 5 (.p (S.get (.c (.bool false)))) []]) (
 .ret)) (.skip)))))) (
 .seq (.reg [
 qo 4 (.p (S.get (ii 0))) [],
 qo 5 (.p (S.get (.c (.bool false)))) []]) (
 .ret)))))⟩
theorem c164_eq : fnOf Tryz.prog 164 = some c164 := by kernel_rfl
noncomputable def c108 : CFn := ⟨[.tmp (pp 4), .cell (pp 5) 23 .ag, .tmp (pp 6)],
 .seq (.reg [
 qo 2 (.m (boxF 64 (tt 0))) [pp 0],
 qo 3 (.m (boxF 64 (tt 1))) [pp 1],
 qo 4 (.p (S.get (.c (.int .u64 0)))) [],
 qo 5 (.m (allocF 23 [.int .u64 0, .int .i64 0, .int .i64 0, .int .i64 0, .int .i64 0, .int .u8 0, .int .u8 0, .int .u8 0, .int .u8 0, .int .u8 0, .int .u8 0, .int .u8 0, .int .u8 0, .int .u8 0, .int .u8 0, .int .u8 0, .int .u8 0, .int .u8 0, .int .u8 0, .int .u8 0, .int .u8 0, .int .i64 0, .bool false])) [],
 qo 6 (.p (S.get (ii 0))) []]) (
 .seq (.reg [
 qo 10 (.r (loadF (tt 2) 64 .bk)) [pp 2],
 qo 11 (.r (loadF (tt 3) 64 .bk)) [pp 3],
 qo 12 (.c (callF (ff 164) [(tt 10), (tt 11)])) [pp 10, pp 11],
 mv 9 12,
 qo 13 (.p (extF (tt 9) 0)) [pp 9],
 qo 14 (.p (extF (tt 9) 1)) [pp 9],
 mv 7 13,
 mv 8 14]) (
 .seq (.seq (.reg [
 mv 15 8]) (
 .cond (tt 15) (.seq (.reg [
 qo 16 (.p (buildF [.int .u64 0, .int .i64 0, .int .i64 0, .int .i64 0, .int .i64 0, .int .u8 0, .int .u8 0, .int .u8 0, .int .u8 0, .int .u8 0, .int .u8 0, .int .u8 0, .int .u8 0, .int .u8 0, .int .u8 0, .int .u8 0, .int .u8 0, .int .u8 0, .int .u8 0, .int .u8 0, .int .u8 0, .int .i64 0, .bool false] .ag [])) [],
 qo 4 (.p (S.get (.c (.int .u64 0)))) [],
 qn (.a (storeF (tt 5) (tt 16) 23)) [pp 5, pp 16],
 qo 6 (.p (S.get (ii 7))) []]) (
 .ret)) (.skip))) (
 .seq (.reg [
 qo 17 (.r (loadF (tt 2) 64 .bk)) [pp 2],
 qo 18 (.r (loadF (tt 3) 64 .bk)) [pp 3],
 qo 19 (.p (buildF [.blk 0, .blk 0] .ag [(0, 64, (tt 17)), (64, 64, (tt 18))])) [pp 17, pp 18],
 mv 20 7,
 qo 21 (.p (idxAF (tt 19) (tt 20) 2 64 .bk)) [pp 19, pp 20],
 qo 22 (.c (callF (ff 165) [(tt 21)])) [pp 21],
 qo 23 (.p (extF (tt 22) 0)) [pp 22],
 qo 24 (.p (extF (tt 22) 1)) [pp 22],
 qo 25 (.p (extF (tt 22) 2)) [pp 22],
 mv 4 23,
 qn (.a (storeF (tt 5) (tt 24) 23)) [pp 5, pp 24],
 mv 6 25]) (
 .ret))))⟩
theorem c108_eq : fnOf Tryz.prog 108 = some c108 := by kernel_rfl
structure SRow (row : List V) : Prop where
  len : row.length = 23
  thin : Thin row
  put : Go.Am.put zrow 0 row = some row
theorem SRow.z : SRow zrow := ⟨rfl, s_thin 0 0 0 0 0 (List.replicate 16 0) 0 false, put_z⟩
theorem SRow.s {S : List Nat} (hS : S.length = 16) (id me m s r c : Int) (g : Bool) : SRow (scells id me m s r S c g) := ⟨s_len hS _ _ _ _ _ _ _, s_thin _ _ _ _ _ _ _ _, put_s hS _ _ _ _ _ _ _⟩
theorem SRow.width {row : List V} (h : SRow row) : width row = 23 := by rw [width_thin h.thin, h.len]
noncomputable def numOf (B : Nat) : Nat := if getE B = 0 then sealN B else 0
theorem gSt_len (B : Nat) : (gSt B).length = 16 := stl_len _ _ _
theorem sgr_ok (H : Heap) (B : Nat) {lf : Nat} (hlf : 60 < lf) (n : Nat) : ret (callS Tryz.prog S0 lf (n + 5) 165 [.blk B] H) fun v H' => Turns Z H H' ∧ ∃ row, v = .tuple [.int .u64 ((numOf B : Nat) : Int), .agg row, .int .i64 (getE B)] ∧ SRow row ∧ (getE B = 0 → V.agg row = gSup B) := by
  refine (sgf_ok H B hlf n).mono ?_
  rintro v H' ⟨t, ⟨hE, rfl⟩ | ⟨hE, rfl⟩⟩
  · exact ⟨t, zrow, by unfold numOf; rw [if_neg hE]; rfl, SRow.z, fun h => absurd h hE⟩
  · exact ⟨t, scells (fld B 0 8) (fld B 13 1) (fld B 8 1) (fld B 9 2) (fld B 11 2) (gSt B) (fld B 18 2) (((fld B 20 1 : Nat) : Int) == 1), by unfold numOf; rw [if_pos hE, hE]; rfl, SRow.s (gSt_len B) _ _ _ _ _ _ _, fun _ => rfl⟩
theorem SRow.new {row : List V} (h : SRow row) (H : Heap) : ∃ H', storeAt (H.add (.rows false 23 [zrow])) ⟨.run H.next, 0⟩ row = some H' ∧ H'.get (.run H.next) = some (.rows false 23 [row]) ∧ Turns Z H H' ∧ H'.next = H.next + 1 := by
  have hg : (H.add (.rows false 23 [zrow])).get (.run H.next) = some (.rows false 23 [zrow]) := by rw [Heap.get_add, if_pos rfl]
  exact ⟨_, storeAt_eq hg (r := zrow) (r' := row) rfl h.put, by rw [Heap.get_set, if_pos rfl]; rfl, (Turns.add Z H _).setnew (Nat.le_refl _) _, by simp⟩
noncomputable def newW (A B : Nat) : Option Nat :=
  if getE A ≠ 0 ∧ getE B ≠ 0 then none else if getE A ≠ 0 ∨ (getE B = 0 ∧ numOf A < numOf B) then some 1 else some 0
theorem newest_ok (H : Heap) (A B : Nat) {lf : Nat} (hlf : 60 < lf) (n : Nat) : ret (callS Tryz.prog S0 lf (n + 6) 164 [.blk A, .blk B] H) fun v H' => Turns Z H H' ∧
    ((newW A B = none ∧ v = .tuple [.int .i64 0, .bool true]) ∨ (newW A B = some 1 ∧ v = .tuple [.int .i64 1, .bool false]) ∨ (newW A B = some 0 ∧ v = .tuple [.int .i64 0, .bool false])) := by
  have t1 := Turns.add Z H (.rows false 64 [[.blk A]])
  have hg1 : (H.add (.rows false 64 [[.blk A]])).get (.run H.next) = some (.rows false 64 [[.blk A]]) := by rw [Heap.get_add, if_pos rfl]
  have t2 := t1.addm (.rows false 64 [[.blk B]])
  have hgA : ((H.add (.rows false 64 [[.blk A]])).add (.rows false 64 [[.blk B]])).get (.run H.next) = some (.rows false 64 [[.blk A]]) := by
    rw [Heap.get_add, if_neg (run_ne (by simp)), hg1]
  have hgB : ((H.add (.rows false 64 [[.blk A]])).add (.rows false 64 [[.blk B]])).get (.run (H.next + 1)) = some (.rows false 64 [[.blk B]]) := by
    rw [Heap.get_add, if_pos (by simp)]
  have hn : ((H.add (.rows false 64 [[.blk A]])).add (.rows false 64 [[.blk B]])).next = H.next + 2 := by simp
  generalize hH2 : (H.add (.rows false 64 [[.blk A]])).add (.rows false 64 [[.blk B]]) = H2 at *
  have lA : loadAt H2 ⟨.run H.next, 0⟩ 64 = some [.blk A] := by rw [loadAt_eq hgA rfl]; exact Dy _ _
  obtain ⟨v1, H3, e1, t3, r1, rfl, R1, _⟩ := sgr_ok H2 A hlf n
  obtain ⟨H4, s4, _, t4, _⟩ := R1.new H3
  have hgB4 : H4.get (.run (H.next + 1)) = some (.rows false 64 [[.blk B]]) := ((t3.trans t4).same (.run (H.next + 1)) (by show _ < _; omega) id).trans hgB
  have lB : loadAt H4 ⟨.run (H.next + 1), 0⟩ 64 = some [.blk B] := by rw [loadAt_eq hgB4 rfl]; exact Dy _ _
  obtain ⟨v2, H5, e2, t5, r2, rfl, R2, _⟩ := sgr_ok H4 B hlf n
  obtain ⟨H6, s6, _, t6, _⟩ := R2.new H5
  have tt : Turns Z H H6 := (((t2.trans t3).trans t4).trans t5).trans t6
  have w1 := R1.width
  have w2 := R2.width
  have hzr : zrow = [.int .u64 0, .int .i64 0, .int .i64 0, .int .i64 0, .int .i64 0, .int .u8 0, .int .u8 0, .int .u8 0, .int .u8 0, .int .u8 0, .int .u8 0, .int .u8 0, .int .u8 0, .int .u8 0, .int .u8 0, .int .u8 0, .int .u8 0, .int .u8 0, .int .u8 0, .int .u8 0, .int .u8 0, .int .i64 0, .bool false] := rfl
  obtain ⟨K4, hK4⟩ : ∃ K, H3.add (.rows false 23 [zrow]) = K := ⟨_, rfl⟩
  obtain ⟨K6, hK6⟩ : ∃ K, H5.add (.rows false 23 [zrow]) = K := ⟨_, rfl⟩
  rw [hK4] at s4
  rw [hK6] at s6
  rw [hzr] at hK4 hK6
  unfold newW
  generalize getE A = eA at *
  generalize getE B = eB at *
  generalize numOf A = nA at *
  generalize numOf B = nB at *
  refine ret_call rfl c164_eq ?_
  by_cases hA : eA = 0
  · have bA : (eA == 0) = true := by simpa using hA
    by_cases hB : eB = 0
    · have bB : (eB == 0) = true := by simpa using hB
      by_cases hlt : nA < nB
      · have hlt' : (nA : Int) < (nB : Int) := by omega
        simp only [c164, hH2, lA, e1, hK4, s4, w1, lB, e2, hK6, s6, w2, bA, bB, hlt', sy, tup, ↓reduceIte, Nat.reduceEqDiff, Nat.reduceAdd, Nat.reduceSub, Nat.reduceMul, Nat.reduceLeDiff, Int.reduceBEq, reduceCtorEq]
        exact ⟨trivial, .inr trivial, _, rfl, tt, .inr (.inl ⟨by simp [hA, hB, hlt], rfl⟩)⟩
      · have hlt' : ¬ (nA : Int) < (nB : Int) := by omega
        simp only [c164, hH2, lA, e1, hK4, s4, w1, lB, e2, hK6, s6, w2, bA, bB, hlt', sy, tup, ↓reduceIte, Nat.reduceEqDiff, Nat.reduceAdd, Nat.reduceSub, Nat.reduceMul, Nat.reduceLeDiff, Int.reduceBEq, reduceCtorEq]
        exact ⟨trivial, .inr trivial, _, rfl, tt, .inr (.inr ⟨by simp [hA, hB, hlt], rfl⟩)⟩
    · have bB : (eB == 0) = false := by simpa using hB
      simp only [c164, hH2, lA, e1, hK4, s4, w1, lB, e2, hK6, s6, w2, bA, bB, sy, tup, ↓reduceIte, Nat.reduceEqDiff, Nat.reduceAdd, Nat.reduceSub, Nat.reduceMul, Nat.reduceLeDiff, Int.reduceBEq, reduceCtorEq]
      exact ⟨trivial, .inr trivial, _, rfl, tt, .inr (.inr ⟨by simp [hA, hB], rfl⟩)⟩
  · have bA : (eA == 0) = false := by simpa using hA
    by_cases hB : eB = 0
    · have bB : (eB == 0) = true := by simpa using hB
      simp only [c164, hH2, lA, e1, hK4, s4, w1, lB, e2, hK6, s6, w2, bA, bB, sy, tup, ↓reduceIte, Nat.reduceEqDiff, Nat.reduceAdd, Nat.reduceSub, Nat.reduceMul, Nat.reduceLeDiff, Int.reduceBEq, reduceCtorEq]
      exact ⟨trivial, .inr trivial, _, rfl, tt, .inr (.inl ⟨by simp [hA, hB], rfl⟩)⟩
    · have bB : (eB == 0) = false := by simpa using hB
      simp only [c164, hH2, lA, e1, hK4, s4, w1, lB, e2, hK6, s6, w2, bA, bB, sy, tup, ↓reduceIte, Nat.reduceEqDiff, Nat.reduceAdd, Nat.reduceSub, Nat.reduceMul, Nat.reduceLeDiff, Int.reduceBEq, reduceCtorEq]
      exact ⟨trivial, .inr trivial, _, rfl, tt, .inl ⟨by simp [hA, hB], rfl⟩⟩
noncomputable def newC (A B : Nat) : Option Nat := (newW A B).map fun w => if w = 1 then B else A
theorem newC_ok {A B C : Nat} (h : newC A B = some C) : getE C = 0 ∧ (C = A ∨ C = B) := by
  unfold newC newW at h
  by_cases h1 : getE A ≠ 0 ∧ getE B ≠ 0
  · rw [if_pos h1] at h; cases h
  · rw [if_neg h1] at h
    by_cases h2 : getE A ≠ 0 ∨ (getE B = 0 ∧ numOf A < numOf B)
    · rw [if_pos h2] at h
      cases h
      refine ⟨?_, .inr rfl⟩
      show getE B = 0
      rcases h2 with h2 | h2
      · exact Classical.byContradiction fun h3 => h1 ⟨h2, h3⟩
      · exact h2.1
    · rw [if_neg h2] at h
      cases h
      refine ⟨?_, .inl rfl⟩
      show getE A = 0
      exact Classical.byContradiction fun h3 => h2 (.inl h3)
theorem newest2_ok (H : Heap) (A B : Nat) {lf : Nat} (hlf : 60 < lf) (n : Nat) : ret (callS Tryz.prog S0 lf (n + 7) 108 [.blk A, .blk B] H) fun v H' => Turns Z H H' ∧
    ((newC A B = none ∧ v = .tuple [.int .u64 0, .agg zrow, .int .i64 7]) ∨ ∃ C, newC A B = some C ∧ v = .tuple [.int .u64 ((sealN C : Nat) : Int), gSup C, .int .i64 0]) := by
  have t3 := ((Turns.add Z H (.rows false 64 [[.blk A]])).addm (.rows false 64 [[.blk B]])).addm (.rows false 23 [zrow])
  have hg0 : (H.add (.rows false 64 [[.blk A]])).get (.run H.next) = some (.rows false 64 [[.blk A]]) := by rw [Heap.get_add, if_pos rfl]
  have hgA : (((H.add (.rows false 64 [[.blk A]])).add (.rows false 64 [[.blk B]])).add (.rows false 23 [zrow])).get (.run H.next) = some (.rows false 64 [[.blk A]]) := by
    rw [Heap.get_add, if_neg (run_ne (by simp; omega)), Heap.get_add, if_neg (run_ne (by simp)), hg0]
  have hgB : (((H.add (.rows false 64 [[.blk A]])).add (.rows false 64 [[.blk B]])).add (.rows false 23 [zrow])).get (.run (H.next + 1)) = some (.rows false 64 [[.blk B]]) := by
    rw [Heap.get_add, if_neg (run_ne (by simp)), Heap.get_add, if_pos (by simp)]
  have hgZ : (((H.add (.rows false 64 [[.blk A]])).add (.rows false 64 [[.blk B]])).add (.rows false 23 [zrow])).get (.run (H.next + 1 + 1)) = some (.rows false 23 [zrow]) := by
    rw [Heap.get_add, if_pos (by simp)]
  have hn : (((H.add (.rows false 64 [[.blk A]])).add (.rows false 64 [[.blk B]])).add (.rows false 23 [zrow])).next = H.next + 3 := by simp
  have hzr : zrow = [.int .u64 0, .int .i64 0, .int .i64 0, .int .i64 0, .int .i64 0, .int .u8 0, .int .u8 0, .int .u8 0, .int .u8 0, .int .u8 0, .int .u8 0, .int .u8 0, .int .u8 0, .int .u8 0, .int .u8 0, .int .u8 0, .int .u8 0, .int .u8 0, .int .u8 0, .int .u8 0, .int .u8 0, .int .i64 0, .bool false] := rfl
  generalize hH2 : ((H.add (.rows false 64 [[.blk A]])).add (.rows false 64 [[.blk B]])).add (.rows false 23 [zrow]) = H2 at *
  rw [hzr] at hH2
  have old : ∀ {H' : Heap}, Turns Z H2 H' → H'.get (.run H.next) = some (.rows false 64 [[.blk A]]) ∧ H'.get (.run (H.next + 1)) = some (.rows false 64 [[.blk B]]) ∧ H'.get (.run (H.next + 1 + 1)) = some (.rows false 23 [zrow]) := fun t =>
    ⟨(t.same (.run H.next) (by show _ < _; omega) id).trans hgA, (t.same (.run (H.next + 1)) (by show _ < _; omega) id).trans hgB, (t.same (.run (H.next + 1 + 1)) (by show _ < _; omega) id).trans hgZ⟩
  have ld : ∀ {H' : Heap}, Turns Z H2 H' → loadAt H' ⟨.run H.next, 0⟩ 64 = some [.blk A] ∧ loadAt H' ⟨.run (H.next + 1), 0⟩ 64 = some [.blk B] := fun t => by
    obtain ⟨h1, h2, _⟩ := old t
    exact ⟨by rw [loadAt_eq h1 rfl]; exact Dy _ _, by rw [loadAt_eq h2 rfl]; exact Dy _ _⟩
  have sto : ∀ {H' : Heap}, Turns Z H2 H' → ∀ {row : List V}, SRow row → ∃ H'', storeAt H' ⟨.run (H.next + 1 + 1), 0⟩ row = some H'' ∧ loadAt H'' ⟨.run (H.next + 1 + 1), 0⟩ 23 = some row ∧ Turns Z H H'' := fun {H'} t {row} R => by
    refine ⟨_, storeAt_eq (old t).2.2 (r := zrow) (r' := row) rfl R.put, ?_, (t3.trans t).setnew (by omega) _⟩
    rw [loadAt_eq (b := .run (H.next + 1 + 1)) (r := row) (by rw [Heap.get_set, if_pos rfl]) rfl, cut_thin R.thin (by have := R.len; omega)]
    simp [← R.len]
  obtain ⟨lA, lB⟩ := ld (Turns.refl Z H2)
  obtain ⟨v1, H3, e1, t1, hv⟩ := newest_ok H2 A B hlf n
  obtain ⟨lA3, lB3⟩ := ld t1
  have p1 : Go.Am.put [.blk 0, .blk 0] 0 [.blk A] = some [.blk A, .blk 0] := rfl
  have p2 : Go.Am.put [.blk A, .blk 0] 64 [.blk B] = some [.blk A, .blk B] := rfl
  have c0 : cut [.blk A, .blk B] 0 64 = some [.blk A] := rfl
  have c1 : cut [.blk A, .blk B] 64 64 = some [.blk B] := rfl
  refine ret_call rfl c108_eq ?_
  rcases hv with ⟨hw, rfl⟩ | ⟨hw, rfl⟩ | ⟨hw, rfl⟩
  · obtain ⟨F, sf, lf', tf⟩ := sto t1 SRow.z
    have w := SRow.z.width
    rw [hzr] at sf lf' w ⊢
    simp only [c108, hH2, lA, lB, e1, sf, lf', w, sy, tup, ↓reduceIte, Nat.reduceEqDiff, Nat.reduceAdd, Nat.reduceSub, Nat.reduceMul, Nat.reduceLeDiff, Int.reduceBEq, reduceCtorEq]
    exact ⟨trivial, .inr trivial, _, rfl, tf, .inl ⟨by unfold newC; rw [hw]; rfl, rfl⟩⟩
  · have hC : newC A B = some B := by unfold newC; rw [hw]; rfl
    obtain ⟨v2, H4, e2, t2, row, rfl, R, hrow⟩ := sgr_ok H3 B hlf (n + 1)
    change callS Tryz.prog S0 lf (n + 6) 165 _ _ = _ at e2
    obtain ⟨F, sf, lf', tf⟩ := sto (t1.trans t2) R
    have w := R.width
    have hE := (newC_ok hC).1
    have hN : numOf B = sealN B := by unfold numOf; rw [if_pos hE]
    have hr := hrow hE
    rw [hE, hN] at e2
    simp only [c108, hH2, lA, lB, e1, lA3, lB3, p1, p2, c0, c1, e2, sf, lf', w, sy, tup, ↓reduceIte, Nat.reduceEqDiff, Nat.reduceAdd, Nat.reduceSub, Nat.reduceMul, Nat.reduceLeDiff, Int.reduceBEq, reduceCtorEq]
    exact ⟨trivial, .inr trivial, _, rfl, tf, .inr ⟨B, hC, by rw [← hr]⟩⟩
  · have hC : newC A B = some A := by unfold newC; rw [hw]; rfl
    obtain ⟨v2, H4, e2, t2, row, rfl, R, hrow⟩ := sgr_ok H3 A hlf (n + 1)
    change callS Tryz.prog S0 lf (n + 6) 165 _ _ = _ at e2
    obtain ⟨F, sf, lf', tf⟩ := sto (t1.trans t2) R
    have w := R.width
    have hE := (newC_ok hC).1
    have hN : numOf A = sealN A := by unfold numOf; rw [if_pos hE]
    have hr := hrow hE
    rw [hE, hN] at e2
    simp only [c108, hH2, lA, lB, e1, lA3, lB3, p1, p2, c0, c1, e2, sf, lf', w, sy, tup, ↓reduceIte, Nat.reduceEqDiff, Nat.reduceAdd, Nat.reduceSub, Nat.reduceMul, Nat.reduceLeDiff, Int.reduceBEq, reduceCtorEq]
    exact ⟨trivial, .inr trivial, _, rfl, tf, .inr ⟨A, hC, by rw [← hr]⟩⟩
end Go.Proofs.YtejgheoandfikaaGreat.draft
