/-
  A device in the machine's heap: spoiling a byte; and the document's torn block.
-/
import Derived.Test.YtcelngepfdchiaaDisk3
set_option linter.unusedVariables false
set_option linter.unusedSimpArgs false
set_option maxRecDepth 10000
namespace Go.Proofs.Ytcelngepfdchiaa.disk
open Go.Am

/-- (*ashlar/disk.Disk).Rot -/
noncomputable def c24 : CFn := ⟨[.tmp (Tr.path 8)],
 .seq (.reg [
  ⟨(some (Tr.path 8)), (some (.p (S.get (.c (.int .i64 0))))), none, []⟩]) (
 .seq (.seq (.reg [
   ⟨(some (Tr.path 10)), (some (.p (S.get (.t (Tr.path 0))))), none, [Tr.path 0]⟩,
   ⟨(some (Tr.path 11)), (some (.p (S.get (.t (Tr.path 1))))), none, [Tr.path 1]⟩,
   ⟨(some (Tr.path 12)), (some (.c (callF (.c (.func (.func 70) [] [])) [(.t (Tr.path 10)), (.t (Tr.path 11))]))), none, [Tr.path 10, Tr.path 11]⟩,
   ⟨(some (Tr.path 9)), (some (.p (S.get (.t (Tr.path 12))))), none, [Tr.path 12]⟩]) (
  .block 0 (.seq (.reg [
    ⟨(some (Tr.path 14)), (some (.p (S.get (.t (Tr.path 9))))), none, [Tr.path 9]⟩,
    ⟨(some (Tr.path 15)), (some (.p (eqcF false false [.int .i64] (.t (Tr.path 14)) (.c (.int .i64 1))))), none, [Tr.path 14]⟩,
    ⟨(some (Tr.path 13)), (some (.p (S.get (.t (Tr.path 15))))), none, [Tr.path 15]⟩]) (
   .cond (.t (Tr.path 13)) (.seq (.reg [
      ⟨(some (Tr.path 16)), (some (.p (S.get (.t (Tr.path 9))))), none, [Tr.path 9]⟩,
      ⟨(some (Tr.path 8)), (some (.p (S.get (.t (Tr.path 16))))), none, [Tr.path 16]⟩]) (
     .ret)) (.seq (.reg [
      ⟨(some (Tr.path 18)), (some (.p (S.get (.t (Tr.path 9))))), none, [Tr.path 9]⟩,
      ⟨(some (Tr.path 19)), (some (.p (eqcF false false [.int .i64] (.t (Tr.path 18)) (.c (.int .i64 2))))), none, [Tr.path 18]⟩,
      ⟨(some (Tr.path 20)), (some (.p (S.get (.t (Tr.path 19))))), none, [Tr.path 19]⟩,
      ⟨(some (Tr.path 21)), (some (.p (S.get (.t (Tr.path 2))))), (some (some (Tr.path 20), false)), [Tr.path 2]⟩,
      ⟨(some (Tr.path 22)), (some (.p (arF .lss (.t (Tr.path 21)) (.c (.int .i64 0))))), (some (some (Tr.path 20), false)), [Tr.path 21]⟩,
      ⟨(some (Tr.path 23)), (some (.p (pickF (.t (Tr.path 20)) (.c (.bool true)) (.t (Tr.path 22))))), none, [Tr.path 20, Tr.path 22]⟩,
      ⟨(some (Tr.path 24)), (some (.p (S.get (.t (Tr.path 23))))), none, [Tr.path 23]⟩,
      ⟨(some (Tr.path 25)), (some (.p (S.get (.t (Tr.path 2))))), (some (some (Tr.path 24), false)), [Tr.path 2]⟩,
      ⟨(some (Tr.path 26)), (some (.p (arF .geq (.t (Tr.path 25)) (.c (.int .i64 64))))), (some (some (Tr.path 24), false)), [Tr.path 25]⟩,
      ⟨(some (Tr.path 27)), (some (.p (pickF (.t (Tr.path 24)) (.c (.bool true)) (.t (Tr.path 26))))), none, [Tr.path 24, Tr.path 26]⟩,
      ⟨(some (Tr.path 17)), (some (.p (S.get (.t (Tr.path 27))))), none, [Tr.path 27]⟩]) (
     .cond (.t (Tr.path 17)) (.seq (.reg [
        ⟨(some (Tr.path 8)), (some (.p (S.get (.c (.int .i64 2))))), none, []⟩]) (
       .ret)) (.seq (.reg [
        ⟨(some (Tr.path 29)), (some (.p (S.get (.t (Tr.path 9))))), none, [Tr.path 9]⟩,
        ⟨(some (Tr.path 30)), (some (.p (eqcF true false [.int .i64] (.t (Tr.path 29)) (.c (.int .i64 0))))), none, [Tr.path 29]⟩,
        ⟨(some (Tr.path 28)), (some (.p (S.get (.t (Tr.path 30))))), none, [Tr.path 30]⟩]) (
       .cond (.t (Tr.path 28)) (.seq (.reg [
          ⟨(some (Tr.path 31)), (some (.p (S.get (.t (Tr.path 9))))), none, [Tr.path 9]⟩,
          ⟨(some (Tr.path 8)), (some (.p (S.get (.t (Tr.path 31))))), none, [Tr.path 31]⟩]) (
         .ret)) (.skip))))))))) (
 .seq (.regD [
  ⟨(some (Tr.path 32)), (some (.p (S.get (.t (Tr.path 0))))), none, [Tr.path 0]⟩,
  ⟨(some (Tr.path 33)), (some (.p (nilcF (.t (Tr.path 32))))), none, [Tr.path 32]⟩,
  ⟨(some (Tr.path 34)), (some (.p (faddrF (.t (Tr.path 33)) 0))), none, [Tr.path 33]⟩,
  ⟨(some (Tr.path 35)), (some (.r (loadF (.t (Tr.path 34)) 1 .sc))), none, [Tr.path 34]⟩,
  ⟨(some (Tr.path 36)), (some (.p (S.get (.t (Tr.path 1))))), none, [Tr.path 1]⟩,
  ⟨(some (Tr.path 37)), (some (.p (S.get (.t (Tr.path 2))))), none, [Tr.path 2]⟩,
  ⟨(some (Tr.path 38)), (some (.p (iaddrSF (.t (Tr.path 35)) (.t (Tr.path 36)) 64))), none, [Tr.path 35, Tr.path 36]⟩,
  ⟨(some (Tr.path 39)), (some (.p (iaddrAF (.t (Tr.path 38)) (.t (Tr.path 37)) 64 1))), none, [Tr.path 38, Tr.path 37]⟩,
  ⟨(some (Tr.path 40)), (some (.r (loadF (.t (Tr.path 39)) 1 .sc))), none, [Tr.path 39]⟩,
  ⟨(some (Tr.path 41)), (some (.p (S.get (.t (Tr.path 3))))), none, [Tr.path 3]⟩,
  ⟨(some (Tr.path 42)), (some (.p (arF .xor (.t (Tr.path 40)) (.t (Tr.path 41))))), none, [Tr.path 40, Tr.path 41]⟩,
  ⟨(some (Tr.path 43)), (some (.p (iaddrSF (.t (Tr.path 35)) (.t (Tr.path 36)) 64))), none, [Tr.path 35, Tr.path 36]⟩,
  ⟨(some (Tr.path 44)), (some (.p (iaddrAF (.t (Tr.path 43)) (.t (Tr.path 37)) 64 1))), none, [Tr.path 43, Tr.path 37]⟩,
  ⟨none, (some (.a (storeF (.t (Tr.path 44)) (.t (Tr.path 42)) 1))), none, [Tr.path 44, Tr.path 42]⟩] [0, 1, 3, 7, 0, 0, 31, 127, 255, 0, 1023, 31, 4095, 8191]) (
 .seq (.reg [
  ⟨(some (Tr.path 8)), (some (.p (S.get (.c (.int .i64 0))))), none, []⟩]) (
 .ret))))⟩
theorem c24_eq : fnOf Try.prog 24 = some c24 := by kernel_rfl

noncomputable def c25_l0 : C := .seq (.seq (.reg [
      ⟨(some (Tr.path 10)), (some (.p (S.get (.t (Tr.path 8))))), none, [Tr.path 8]⟩,
      ⟨(some (Tr.path 11)), (some (.p (arF .lss (.t (Tr.path 10)) (.c (.int .i64 64))))), none, [Tr.path 10]⟩,
      ⟨(some (Tr.path 12)), (some (.p (S.get (.t (Tr.path 11))))), none, [Tr.path 11]⟩,
      ⟨(some (Tr.path 13)), (some (.p (S.get (.t (Tr.path 8))))), (some (some (Tr.path 12), true)), [Tr.path 8]⟩,
      ⟨(some (Tr.path 14)), (some (.p (S.get (.t (Tr.path 2))))), (some (some (Tr.path 12), true)), [Tr.path 2]⟩,
      ⟨(some (Tr.path 15)), (some (.p (arF .lss (.t (Tr.path 13)) (.t (Tr.path 14))))), (some (some (Tr.path 12), true)), [Tr.path 13, Tr.path 14]⟩,
      ⟨(some (Tr.path 16)), (some (.p (pickF (.t (Tr.path 12)) (.t (Tr.path 15)) (.c (.bool false))))), none, [Tr.path 12, Tr.path 15]⟩]) (
     .cond (.t (Tr.path 16)) (.skip) (.exit 0))) (
    .seq (.block 1 (.reg [
      ⟨(some (Tr.path 19)), (some (.p (S.get (.t (Tr.path 8))))), none, [Tr.path 8]⟩,
      ⟨(some (Tr.path 20)), (some (.p (S.get (.t (Tr.path 8))))), none, [Tr.path 8]⟩,
      ⟨(some (Tr.path 21)), (some (.p (iaddrAF (.t (Tr.path 4)) (.t (Tr.path 20)) 64 1))), none, [Tr.path 4, Tr.path 20]⟩,
      ⟨(some (Tr.path 22)), (some (.r (loadF (.t (Tr.path 21)) 1 .sc))), none, [Tr.path 21]⟩,
      ⟨(some (Tr.path 23)), (some (.p (iaddrAF (.t (Tr.path 7)) (.t (Tr.path 19)) 64 1))), none, [Tr.path 7, Tr.path 19]⟩,
      ⟨none, (some (.a (storeF (.t (Tr.path 23)) (.t (Tr.path 22)) 1))), none, [Tr.path 23, Tr.path 22]⟩])) (
    .reg [
    ⟨(some (Tr.path 17)), (some (.p (S.get (.t (Tr.path 8))))), none, [Tr.path 8]⟩,
    ⟨(some (Tr.path 18)), (some (.p (arF .add (.t (Tr.path 17)) (.c (.int .i64 1))))), none, [Tr.path 17]⟩,
    ⟨(some (Tr.path 8)), (some (.p (S.get (.t (Tr.path 18))))), none, [Tr.path 18]⟩]))
/-- ashlar/ashlarref03.Torn -/
noncomputable def c25 : CFn := ⟨[.cell (Tr.path 6) 64 .bk],
 .seq (.reg [
  ⟨(some (Tr.path 3)), (some (.m (boxF 64 (.t (Tr.path 0))))), none, [Tr.path 0]⟩,
  ⟨(some (Tr.path 4)), (some (.m (boxF 64 (.t (Tr.path 1))))), none, [Tr.path 1]⟩,
  ⟨(some (Tr.path 6)), (some (.m (allocF 64 [.blk 0]))), none, []⟩]) (
 .seq (.reg [
  ⟨(some (Tr.path 9)), (some (.r (loadF (.t (Tr.path 3)) 64 .bk))), none, [Tr.path 3]⟩,
  ⟨(some (Tr.path 7)), (some (.m (allocF 64 [.blk 0]))), none, []⟩,
  ⟨none, (some (.a (storeF (.t (Tr.path 7)) (.t (Tr.path 9)) 64))), none, [Tr.path 7, Tr.path 9]⟩]) (
 .seq (.seq (.reg [
   ⟨(some (Tr.path 8)), (some (.p (S.get (.c (.int .i64 0))))), none, []⟩]) (
  .block 0 (.loop c25_l0))) (
 .seq (.reg [
  ⟨(some (Tr.path 24)), (some (.r (loadF (.t (Tr.path 7)) 64 .bk))), none, [Tr.path 7]⟩,
  ⟨none, (some (.a (storeF (.t (Tr.path 6)) (.t (Tr.path 24)) 64))), none, [Tr.path 6, Tr.path 24]⟩]) (
 .ret))))⟩
theorem c25_eq : fnOf Try.prog 25 = some c25 := by kernel_rfl


noncomputable def xo8 (a b : Nat) : Nat := Nat.xor a b
theorem xo8_lt {a b : Nat} (h : a < 256) (k : b < 256) : xo8 a b < 256 := Nat.xor_lt_two_pow (n := 8) h k
theorem u8_wrap {n : Nat} (h : n < 256) : IntKind.u8.wrap (n : Int) = n := by
  show (if false && decide ((n : Int) % (2 ^ 8 : Int) ≥ (2 ^ (8 - 1) : Int)) then (n : Int) % (2 ^ 8 : Int) - (2 ^ 8 : Int) else (n : Int) % (2 ^ 8 : Int)) = n
  rw [show (2 ^ 8 : Int) = 256 from rfl]
  simp only [Bool.false_and, Bool.false_eq_true, if_false]
  omega
theorem fits_u8 {n : Nat} (h : n < 256) : fitsK .u8 n = true := by
  show Nat.ble n 255 = true
  rw [ble_iff]; omega
theorem xor_u8 {a b : Nat} (h : a < 256) (k : b < 256) : arith .xor (.int .u8 (a : Int)) (.int .u8 (b : Int)) = some (.int .u8 ((xo8 a b : Nat) : Int)) := by
  have e : bitI Nat.xor (fun _ a b => a ^^^ b) .u8 (a : Int) (b : Int) = ((xo8 a b : Nat) : Int) := by
    show (match fitsK .u8 a && fitsK .u8 b with | true => Int.ofNat (Nat.xor a b) | false => _) = _
    rw [fits_u8 h, fits_u8 k]; rfl
  show (match decide (IntKind.u8 = IntKind.u8) with | false => none | true => mkI .u8 (bitI Nat.xor (fun _ a b => a ^^^ b) .u8 (a : Int) (b : Int))) = _
  rw [e, C6, u8_wrap (xo8_lt h k)]; rfl

theorem load_byte {H : Heap} {b : Bk} {y : Lay} {D : Dev} (h : DevAt H b y D) {w j : Nat} (hw : w < D.S.length) (hj : j < 64) : loadAt H ⟨y.s, w * 64 + j⟩ 1 = some [.int .u8 ((byte D.S[w] j : Nat) : Int)] := by
  have e1 : (w * 64 + j) / 64 = w := by omega
  have e2 : (w * 64 + j) % 64 = j := by omega
  rw [loadAt_eq h.sure (r := [.blk D.S[w]]) (nth_of (by rw [e1]; simp [sureRows, hw])), e2]
  exact cut_byte _ _ hj
theorem cell_load_byte {H : Heap} {c : Bk} {x j : Nat} (h : H.get c = some (.rows false 64 [[.blk x]])) (hj : j < 64) : loadAt H ⟨c, j⟩ 1 = some [.int .u8 ((byte x j : Nat) : Int)] := by
  rw [loadAt_eq h (r := [.blk x]) (by rw [Nat.div_eq_of_lt hj]; rfl), Nat.mod_eq_of_lt hj]
  exact cut_byte _ _ hj
theorem cell_store_byte {H : Heap} {c : Bk} {x j v : Nat} (h : H.get c = some (.rows false 64 [[.blk x]])) (hj : j < 64) (hv : v < 256) : storeAt H ⟨c, j⟩ [.int .u8 (v : Int)] = some (H.set c (.rows false 64 [[.blk (setByte x j v)]])) := by
  rw [storeAt_eq h (r := [.blk x]) (r' := [.blk (setByte x j v)]) (by rw [Nat.div_eq_of_lt hj]; rfl) (by rw [Nat.mod_eq_of_lt hj]; exact put_byte _ _ _ hj hv), Nat.div_eq_of_lt hj]
  rfl
theorem cell_store {H : Heap} {c : Bk} {x v : Nat} (h : H.get c = some (.rows false 64 [[.blk x]])) : storeAt H ⟨c, 0⟩ [.blk v] = some (H.set c (.rows false 64 [[.blk v]])) := by
  rw [storeAt_eq h (r := [.blk x]) (r' := [.blk v]) rfl (Dl _ _ _)]; rfl

noncomputable def rotN (x j by' : Nat) : Nat := setByte x j (xo8 (byte x j) by')

theorem rot_ok {H : Heap} {b : Bk} {y : Lay} {D : Dev} (h : DevAt H b y D) {n j by' : Nat} (hn : n < D.S.length) (hd : D.dead = false) (hj : j < 64) (hb : by' < 256) (lf m : Nat) :
    ret (callS Try.prog S0 lf (m + 3) 24 [.ptr (some ⟨b, 0⟩), .int .i64 (n : Int), .int .i64 (j : Int), .int .u8 (by' : Int)] H) fun v H' => v = .int .i64 0 ∧ Next H b y D H' y { D with S := D.S.set n (rotN D.S[n] j by') } := by
  refine ret_call rfl c24_eq ?_
  obtain ⟨v, H1, e, rfl, e1⟩ := asked_ok h hn hd lf m
  subst e1
  have l0 := load0 h
  have lb := load_byte h hn hj
  have hx := xor_u8 (byte_lt D.S[n] j) hb
  have st : storeAt H1 ⟨y.s, n * 64 + j⟩ [.int .u8 ((xo8 (byte D.S[n] j) by' : Nat) : Int)] = _ := store_byte h hn hj (xo8_lt (byte_lt _ _) hb)
  have g1 : ¬ ((j : Int) < 0) := by omega
  have g2 : ¬ ((64 : Int) ≤ (j : Int)) := by omega
  have g3 : n + 1 ≤ D.S.length := hn
  have g4 : j + 1 ≤ 64 := hj
  simp only [c24, e, l0, lb, hx, st, g1, g2, g3, g4, iaddrAF, Nat.mul_one, Aa, Ab, Ad, Ae, Af, Ag, Ah, Ai, Aj, Ak, Al, Ao, Ap, Aq, Ar, Au, sO_p, sO_r, sO_m, sO_a, sO_c, Av, Aw, Ax, Ay, Az, sE_p, sE_r, sE_m, sE_a, sE_c, A0, A2, A3, A4, A5, A6, A7, A8, A9, Ba, Bb, Bc, Bd, Be, Bf, Bg, Bh, Bi, Bj, Bl, Bm, Bo, Bp, Bq, Br, Bs, Bt, Bu, Bv, Tr.getP_e, Bw, Bx, ↓reduceIte, Nat.reduceEqDiff, Nat.reduceAdd, Nat.reduceSub, Nat.reduceMul, Nat.reduceDiv, Nat.reduceMod, Nat.zero_add, Nat.add_zero, beq_self_eq_true, Nat.zero_ne_one, Nat.one_ne_zero, Nat.reduceLeDiff, Int.reduceBEq, constF, unF, unary,  pickF, nilcF, faddrF, fldF, iaddrSF, arF, Bz, B3, B4, B5, B6, B7, convF, extF, lenF, eqcF, eqnF, eqN, eqPtr, isNone, loadF, storeF, allocF, callF, gets, Option.map_some, Option.bind_some, B8, B9, Ca, Cb, Cc, nbeq, nble, Cd, Ce, Cf, Cg, Ch, Ci, Cj, Ck, Cl, Cm, Cn, Co, Cp, Cq, Cr, Cs, Ct, Cu, Cv, Cw, Cx, V.w, width, unc, cmpCells, Cy, Cz, C6, C7, C8, Da, undef, List.append_nil, List.nil_append, List.cons_append, Db, Dc, resultsV, result, tup, Dd, Bool.and_true, Bool.true_and, Bool.and_self, decide_true, decide_false, Bool.not_true, Bool.not_false, Bool.true_beq, Bool.false_beq, beq_iff_eq, reduceCtorEq, Nat.succ_eq_add_one, ptr0, Int.ofNat_eq_natCast, Int.ofNat_le, Int.ofNat_lt, Int.natCast_add, De, Df, Dg, Dh, Di, List.map_cons, List.map_nil, Dj, Heap.next_add, Heap.next_set, boxF, buildF, fill, bsliceF, fillRows, List.replicate_one, Dk, Dl, Dm, Dn, Dp, Dq, Dr, Ds, Dt, Du, Dw, Dx, Dy, Dz, D2, D3, D4, D5, D6, D7, D8, D9, Ea, Eb, Ec, appF, List.length_cons, List.length_nil]
  rw [endD_ok (by kernel_rfl) (by kernel_rfl)]
  simp only [Aa, Ab, Ad, Ae, Af, Ag, Ah, Ai, Aj, Ak, Al, Ao, Ap, Aq, Ar, Au, sO_p, sO_r, sO_m, sO_a, sO_c, Av, Aw, Ax, Ay, Az, sE_p, sE_r, sE_m, sE_a, sE_c, A0, A2, A3, A4, A5, A6, A7, A8, A9, Ba, Bb, Bc, Bd, Be, Bf, Bg, Bh, Bi, Bj, Bl, Bm, Bo, Bp, Bq, Br, Bs, Bt, Bu, Bv, Tr.getP_e, Bw, Bx, ↓reduceIte, Nat.reduceEqDiff, Nat.reduceAdd, Nat.reduceSub, Nat.reduceMul, Nat.reduceDiv, Nat.reduceMod, Nat.zero_add, Nat.add_zero, beq_self_eq_true, Nat.zero_ne_one, Nat.one_ne_zero, Nat.reduceLeDiff, Int.reduceBEq, constF, unF, unary,  pickF, nilcF, faddrF, fldF, iaddrSF, arF, Bz, B3, B4, B5, B6, B7, convF, extF, lenF, eqcF, eqnF, eqN, eqPtr, isNone, loadF, storeF, allocF, callF, gets, Option.map_some, Option.bind_some, B8, B9, Ca, Cb, Cc, nbeq, nble, Cd, Ce, Cf, Cg, Ch, Ci, Cj, Ck, Cl, Cm, Cn, Co, Cp, Cq, Cr, Cs, Ct, Cu, Cv, Cw, Cx, V.w, width, unc, cmpCells, Cy, Cz, C6, C7, C8, Da, undef, List.append_nil, List.nil_append, List.cons_append, Db, Dc, resultsV, result, tup, Dd, Bool.and_true, Bool.true_and, Bool.and_self, decide_true, decide_false, Bool.not_true, Bool.not_false, Bool.true_beq, Bool.false_beq, beq_iff_eq, reduceCtorEq, Nat.succ_eq_add_one, ptr0, Int.ofNat_eq_natCast, Int.ofNat_le, Int.ofNat_lt, Int.natCast_add, De, Df, Dg, Dh, Di, List.map_cons, List.map_nil, Dj, Heap.next_add, Heap.next_set, boxF, buildF, fill, bsliceF, fillRows, List.replicate_one, Dk, Dl, Dm, Dn, Dp, Dq, Dr, Ds, Dt, Du, Dw, Dx, Dy, Dz, D2, D3, D4, D5, D6, D7, D8, D9, Ea, Eb, Ec, appF, List.length_cons, List.length_nil]
  exact ⟨trivial, .inr trivial, _, rfl, rfl, h.setS (by simp), Turns.set (.inr (.inl rfl)) _ _, rfl, fun e => .inl ⟨e, rfl⟩⟩

theorem bl_succ (B : Nat) : ∀ n j, bl B (n + 1) j = bl B n j ++ [byte B (j + n)]
  | 0, j => rfl
  | n + 1, j => by
    show byte B j :: bl B (n + 1) (j + 1) = byte B j :: (bl B n (j + 1) ++ [byte B (j + (n + 1))])
    rw [bl_succ B n (j + 1), show j + 1 + n = j + (n + 1) by omega]
theorem puts_append : ∀ (xs : List Nat) (B j x : Nat), puts B j (xs ++ [x]) = setByte (puts B j xs) (j + xs.length) x
  | [], B, j, x => rfl
  | z :: xs, B, j, x => by
    show puts (setByte B j z) (j + 1) (xs ++ [x]) = setByte (puts (setByte B j z) (j + 1) xs) _ x
    rw [puts_append xs _ (j + 1) x, List.length_cons, show j + 1 + xs.length = j + (xs.length + 1) by omega]
theorem tornN_succ (old now i : Nat) : tornN old now (i + 1) = setByte (tornN old now i) i (byte now i) := by
  unfold tornN
  rw [bl_succ, puts_append, bl_length, Nat.zero_add]

theorem torn_ok (H : Heap) (old now : Nat) (n : Int) {lf : Nat} (hlf : 1000 < lf) (m : Nat) : ret (callS Try.prog S0 lf (m + 1) 25 [.blk old, .blk now, .int .i64 n] H) fun v H' => v = .blk (tornN old now (clampN n)) ∧ Turns Z H H' := by
  have hcl : clampN n ≤ 64 := clamp_le n
  have hloop : ∀ (H1 : Heap) (t : T), H1.next = H.next + 4 → Turns Z H H1 → H1.get (.run (H.next + 1)) = some (.rows false 64 [[.blk now]]) → H1.get (.run (H.next + 2)) = some (.rows false 64 [[.blk 0]]) → H1.get (.run (H.next + 3)) = some (.rows false 64 [[.blk old]]) →
      t.getP (Tr.path 2) = some (.int .i64 n) → t.getP (Tr.path 4) = some (.ptr (some ⟨.run (H.next + 1), 0⟩)) → t.getP (Tr.path 6) = some (.ptr (some ⟨.run (H.next + 2), 0⟩)) → t.getP (Tr.path 7) = some (.ptr (some ⟨.run (H.next + 3), 0⟩)) → t.getP (Tr.path 8) = some (.int .i64 0) →
      wp (loopF (runC (callS Try.prog S0 lf m) lf c25_l0) lf ⟨t, H1, []⟩) fun x s =>
        x = .ex 0 ∧ s.d = [] ∧ s.t.getP (Tr.path 6) = some (.ptr (some ⟨.run (H.next + 2), 0⟩)) ∧ s.t.getP (Tr.path 7) = some (.ptr (some ⟨.run (H.next + 3), 0⟩)) ∧ Turns Z H s.H ∧ s.H.get (.run (H.next + 2)) = some (.rows false 64 [[.blk 0]]) ∧ s.H.get (.run (H.next + 3)) = some (.rows false 64 [[.blk (tornN old now (clampN n))]]) := by
    intro H1 t hn1 hT1 hg1 hg2 hg3 q2 q4 q6 q7 q8
    refine wp_loopF (fun k s => ∃ i, i + k = clampN n ∧ s.d = [] ∧ s.t.getP (Tr.path 2) = some (.int .i64 n) ∧ s.t.getP (Tr.path 4) = some (.ptr (some ⟨.run (H.next + 1), 0⟩)) ∧ s.t.getP (Tr.path 6) = some (.ptr (some ⟨.run (H.next + 2), 0⟩)) ∧ s.t.getP (Tr.path 7) = some (.ptr (some ⟨.run (H.next + 3), 0⟩)) ∧ s.t.getP (Tr.path 8) = some (.int .i64 (i : Int)) ∧ Turns Z H s.H ∧
      s.H.get (.run (H.next + 1)) = some (.rows false 64 [[.blk now]]) ∧ s.H.get (.run (H.next + 2)) = some (.rows false 64 [[.blk 0]]) ∧ s.H.get (.run (H.next + 3)) = some (.rows false 64 [[.blk (tornN old now i)]])) ?_ lf (clampN n) _ ⟨0, by simp, rfl, q2, q4, q6, q7, q8, hT1, hg1, hg2, hg3⟩ (by omega)
    rintro k ⟨t, HH, d⟩ ⟨i, hi, rfl, q2, q4, q6, q7, q8, hT, g1, g2, g3⟩
    dsimp only at q2 q4 q6 q7 q8 hT g1 g2 g3
    cases k with
    | zero =>
      have hi : i = clampN n := by omega
      subst hi
      by_cases h64 : ((clampN n : Nat) : Int) < 64
      · have hlt : ¬ (((clampN n : Nat) : Int) < n) := by
          have := clamp_eq n
          omega
        simp only [c25_l0, q2, q4, q6, q7, q8, h64, hlt, Aa, Ab, Ad, Ae, Af, Ag, Ah, Ai, Aj, Ak, Al, Ao, Ap, Aq, Ar, Au, sO_p, sO_r, sO_m, sO_a, sO_c, Av, Aw, Ax, Ay, Az, sE_p, sE_r, sE_m, sE_a, sE_c, A0, A2, A3, A4, A5, A6, A7, A8, A9, Ba, Bb, Bc, Bd, Be, Bf, Bg, Bh, Bi, Bj, Bl, Bm, Bo, Bp, Bq, Br, Bs, Bt, Bu, Bv, Tr.getP_e, Bw, Bx, ↓reduceIte, Nat.reduceEqDiff, Nat.reduceAdd, Nat.reduceSub, Nat.reduceMul, Nat.reduceDiv, Nat.reduceMod, Nat.zero_add, Nat.add_zero, beq_self_eq_true, Nat.zero_ne_one, Nat.one_ne_zero, Nat.reduceLeDiff, Int.reduceBEq, constF, unF, unary,  pickF, nilcF, faddrF, fldF, iaddrSF, arF, Bz, B3, B4, B5, B6, B7, convF, extF, lenF, eqcF, eqnF, eqN, eqPtr, isNone, loadF, storeF, allocF, callF, gets, Option.map_some, Option.bind_some, B8, B9, Ca, Cb, Cc, nbeq, nble, Cd, Ce, Cf, Cg, Ch, Ci, Cj, Ck, Cl, Cm, Cn, Co, Cp, Cq, Cr, Cs, Ct, Cu, Cv, Cw, Cx, V.w, width, unc, cmpCells, Cy, Cz, C6, C7, C8, Da, undef, List.append_nil, List.nil_append, List.cons_append, Db, Dc, resultsV, result, tup, Dd, Bool.and_true, Bool.true_and, Bool.and_self, decide_true, decide_false, Bool.not_true, Bool.not_false, Bool.true_beq, Bool.false_beq, beq_iff_eq, reduceCtorEq, Nat.succ_eq_add_one, ptr0, Int.ofNat_eq_natCast, Int.ofNat_le, Int.ofNat_lt, Int.natCast_add, De, Df, Dg, Dh, Di, List.map_cons, List.map_nil, Dj, Heap.next_add, Heap.next_set, boxF, buildF, fill, bsliceF, fillRows, List.replicate_one, Dk, Dl, Dm, Dn, Dp, Dq, Dr, Ds, Dt, Du, Dw, Dx, Dy, Dz, D2, D3, D4, D5, D6, D7, D8, D9, Ea, Eb, Ec, appF, List.length_cons, List.length_nil]
        exact ⟨trivial, trivial, trivial, trivial, hT, g2, g3⟩
      · simp only [c25_l0, q2, q4, q6, q7, q8, h64, Aa, Ab, Ad, Ae, Af, Ag, Ah, Ai, Aj, Ak, Al, Ao, Ap, Aq, Ar, Au, sO_p, sO_r, sO_m, sO_a, sO_c, Av, Aw, Ax, Ay, Az, sE_p, sE_r, sE_m, sE_a, sE_c, A0, A2, A3, A4, A5, A6, A7, A8, A9, Ba, Bb, Bc, Bd, Be, Bf, Bg, Bh, Bi, Bj, Bl, Bm, Bo, Bp, Bq, Br, Bs, Bt, Bu, Bv, Tr.getP_e, Bw, Bx, ↓reduceIte, Nat.reduceEqDiff, Nat.reduceAdd, Nat.reduceSub, Nat.reduceMul, Nat.reduceDiv, Nat.reduceMod, Nat.zero_add, Nat.add_zero, beq_self_eq_true, Nat.zero_ne_one, Nat.one_ne_zero, Nat.reduceLeDiff, Int.reduceBEq, constF, unF, unary,  pickF, nilcF, faddrF, fldF, iaddrSF, arF, Bz, B3, B4, B5, B6, B7, convF, extF, lenF, eqcF, eqnF, eqN, eqPtr, isNone, loadF, storeF, allocF, callF, gets, Option.map_some, Option.bind_some, B8, B9, Ca, Cb, Cc, nbeq, nble, Cd, Ce, Cf, Cg, Ch, Ci, Cj, Ck, Cl, Cm, Cn, Co, Cp, Cq, Cr, Cs, Ct, Cu, Cv, Cw, Cx, V.w, width, unc, cmpCells, Cy, Cz, C6, C7, C8, Da, undef, List.append_nil, List.nil_append, List.cons_append, Db, Dc, resultsV, result, tup, Dd, Bool.and_true, Bool.true_and, Bool.and_self, decide_true, decide_false, Bool.not_true, Bool.not_false, Bool.true_beq, Bool.false_beq, beq_iff_eq, reduceCtorEq, Nat.succ_eq_add_one, ptr0, Int.ofNat_eq_natCast, Int.ofNat_le, Int.ofNat_lt, Int.natCast_add, De, Df, Dg, Dh, Di, List.map_cons, List.map_nil, Dj, Heap.next_add, Heap.next_set, boxF, buildF, fill, bsliceF, fillRows, List.replicate_one, Dk, Dl, Dm, Dn, Dp, Dq, Dr, Ds, Dt, Du, Dw, Dx, Dy, Dz, D2, D3, D4, D5, D6, D7, D8, D9, Ea, Eb, Ec, appF, List.length_cons, List.length_nil]
        exact ⟨trivial, trivial, trivial, trivial, hT, g2, g3⟩
    | succ k =>
      have h64 : (i : Int) < 64 := by omega
      have hi64 : i < 64 := by omega
      have hi1 : i + 1 ≤ 64 := hi64
      have hlt : (i : Int) < n := by
        have := clamp_eq n
        omega
      have lb := cell_load_byte g1 hi64
      have st := cell_store_byte g3 hi64 (byte_lt now i)
      rw [← tornN_succ] at st
      have hw : IntKind.i64.wrap ((i : Int) + 1) = ((i + 1 : Nat) : Int) := by rw [wrap_i64 (by omega)]; rfl
      simp only [c25_l0, q2, q4, q6, q7, q8, h64, hlt, hi1, lb, st, hw, iaddrAF, Nat.mul_one, Aa, Ab, Ad, Ae, Af, Ag, Ah, Ai, Aj, Ak, Al, Ao, Ap, Aq, Ar, Au, sO_p, sO_r, sO_m, sO_a, sO_c, Av, Aw, Ax, Ay, Az, sE_p, sE_r, sE_m, sE_a, sE_c, A0, A2, A3, A4, A5, A6, A7, A8, A9, Ba, Bb, Bc, Bd, Be, Bf, Bg, Bh, Bi, Bj, Bl, Bm, Bo, Bp, Bq, Br, Bs, Bt, Bu, Bv, Tr.getP_e, Bw, Bx, ↓reduceIte, Nat.reduceEqDiff, Nat.reduceAdd, Nat.reduceSub, Nat.reduceMul, Nat.reduceDiv, Nat.reduceMod, Nat.zero_add, Nat.add_zero, beq_self_eq_true, Nat.zero_ne_one, Nat.one_ne_zero, Nat.reduceLeDiff, Int.reduceBEq, constF, unF, unary,  pickF, nilcF, faddrF, fldF, iaddrSF, arF, Bz, B3, B4, B5, B6, B7, convF, extF, lenF, eqcF, eqnF, eqN, eqPtr, isNone, loadF, storeF, allocF, callF, gets, Option.map_some, Option.bind_some, B8, B9, Ca, Cb, Cc, nbeq, nble, Cd, Ce, Cf, Cg, Ch, Ci, Cj, Ck, Cl, Cm, Cn, Co, Cp, Cq, Cr, Cs, Ct, Cu, Cv, Cw, Cx, V.w, width, unc, cmpCells, Cy, Cz, C6, C7, C8, Da, undef, List.append_nil, List.nil_append, List.cons_append, Db, Dc, resultsV, result, tup, Dd, Bool.and_true, Bool.true_and, Bool.and_self, decide_true, decide_false, Bool.not_true, Bool.not_false, Bool.true_beq, Bool.false_beq, beq_iff_eq, reduceCtorEq, Nat.succ_eq_add_one, ptr0, Int.ofNat_eq_natCast, Int.ofNat_le, Int.ofNat_lt, Int.natCast_add, De, Df, Dg, Dh, Di, List.map_cons, List.map_nil, Dj, Heap.next_add, Heap.next_set, boxF, buildF, fill, bsliceF, fillRows, List.replicate_one, Dk, Dl, Dm, Dn, Dp, Dq, Dr, Ds, Dt, Du, Dw, Dx, Dy, Dz, D2, D3, D4, D5, D6, D7, D8, D9, Ea, Eb, Ec, appF, List.length_cons, List.length_nil]
      refine ⟨k, Nat.lt_succ_self k, i + 1, by omega, trivial, trivial, trivial, trivial, trivial, rfl, hT.setnew (by omega) _, ?_, ?_, ?_⟩
      · rw [Heap.get_set, if_neg (by simp <;> omega)]; exact g1
      · rw [Heap.get_set, if_neg (by simp <;> omega)]; exact g2
      · rw [Heap.get_set, if_pos rfl]
  refine ret_call rfl c25_eq ?_
  have hA : ((((H.add (.rows false 64 [[.blk old]])).add (.rows false 64 [[.blk now]])).add (.rows false 64 [[.blk 0]])).get (.run H.next)) = some (.rows false 64 [[.blk old]]) := by
    rw [Heap.get_add, if_neg (by simp <;> omega), Heap.get_add, if_neg (by simp <;> omega), Heap.get_add, if_pos rfl]
  have ld := load_of hA
  have st : storeAt ((((H.add (.rows false 64 [[.blk old]])).add (.rows false 64 [[.blk now]])).add (.rows false 64 [[.blk 0]])).add (.rows false 64 [[.blk 0]])) ⟨.run (H.next + 1 + 1 + 1), 0⟩ [.blk old] = _ := De _ _ _
  simp only [c25, ld, st, Aa, Ab, Ad, Ae, Af, Ag, Ah, Ai, Aj, Ak, Al, Ao, Ap, Aq, Ar, Au, sO_p, sO_r, sO_m, sO_a, sO_c, Av, Aw, Ax, Ay, Az, sE_p, sE_r, sE_m, sE_a, sE_c, A0, A2, A3, A4, A5, A6, A7, A8, A9, Ba, Bb, Bc, Bd, Be, Bf, Bg, Bh, Bi, Bj, Bl, Bm, Bo, Bp, Bq, Br, Bs, Bt, Bu, Bv, Tr.getP_e, Bw, Bx, ↓reduceIte, Nat.reduceEqDiff, Nat.reduceAdd, Nat.reduceSub, Nat.reduceMul, Nat.reduceDiv, Nat.reduceMod, Nat.zero_add, Nat.add_zero, beq_self_eq_true, Nat.zero_ne_one, Nat.one_ne_zero, Nat.reduceLeDiff, Int.reduceBEq, constF, unF, unary,  pickF, nilcF, faddrF, fldF, iaddrSF, arF, Bz, B3, B4, B5, B6, B7, convF, extF, lenF, eqcF, eqnF, eqN, eqPtr, isNone, loadF, storeF, allocF, callF, gets, Option.map_some, Option.bind_some, B8, B9, Ca, Cb, Cc, nbeq, nble, Cd, Ce, Cf, Cg, Ch, Ci, Cj, Ck, Cl, Cm, Cn, Co, Cp, Cq, Cr, Cs, Ct, Cu, Cv, Cw, Cx, V.w, width, unc, cmpCells, Cy, Cz, C6, C7, C8, Da, undef, List.append_nil, List.nil_append, List.cons_append, Db, Dc, resultsV, result, tup, Dd, Bool.and_true, Bool.true_and, Bool.and_self, decide_true, decide_false, Bool.not_true, Bool.not_false, Bool.true_beq, Bool.false_beq, beq_iff_eq, reduceCtorEq, Nat.succ_eq_add_one, ptr0, Int.ofNat_eq_natCast, Int.ofNat_le, Int.ofNat_lt, Int.natCast_add, De, Df, Dg, Dh, Di, List.map_cons, List.map_nil, Dj, Heap.next_add, Heap.next_set, boxF, buildF, fill, bsliceF, fillRows, List.replicate_one, Dk, Dl, Dm, Dn, Dp, Dq, Dr, Ds, Dt, Du, Dw, Dx, Dy, Dz, D2, D3, D4, D5, D6, D7, D8, D9, Ea, Eb, Ec, appF, List.length_cons, List.length_nil]
  have hT1 : Turns Z H (((((H.add (.rows false 64 [[.blk old]])).add (.rows false 64 [[.blk now]])).add (.rows false 64 [[.blk 0]])).add (.rows false 64 [[.blk 0]])).set (.run (H.next + 1 + 1 + 1)) (.rows false 64 [[.blk old]])) :=
    (((((Turns.refl Z H).addm _).addm _).addm _).addm _).setnew (by omega) _
  refine wp_ctx (F := fun r => seqC _ _ _ (blockC _ r)) (hloop _ _ (by simp) hT1 ?_ ?_ ?_ ?_ ?_ ?_ ?_ ?_) ?_
  · rw [Heap.get_set, if_neg (by simp <;> omega), Heap.get_add, if_neg (by simp <;> omega), Heap.get_add, if_neg (by simp <;> omega), Heap.get_add, if_pos (by simp <;> omega)]
  · rw [Heap.get_set, if_neg (by simp <;> omega), Heap.get_add, if_neg (by simp <;> omega), Heap.get_add, if_pos (by simp <;> omega)]
  · rw [Heap.get_set, if_pos rfl]
  · simp only [Bv, Tr.getP_e, ↓reduceIte, Nat.reduceEqDiff, Nat.zero_ne_one, Nat.one_ne_zero, Bw, Bx, Nat.reduceAdd, Nat.zero_add, Int.ofNat_eq_natCast]
  · simp only [Bv, Tr.getP_e, ↓reduceIte, Nat.reduceEqDiff, Nat.zero_ne_one, Nat.one_ne_zero, Bw, Bx, Nat.reduceAdd, Nat.zero_add, Int.ofNat_eq_natCast]
  · simp only [Bv, Tr.getP_e, ↓reduceIte, Nat.reduceEqDiff, Nat.zero_ne_one, Nat.one_ne_zero, Bw, Bx, Nat.reduceAdd, Nat.zero_add, Int.ofNat_eq_natCast]
  · simp only [Bv, Tr.getP_e, ↓reduceIte, Nat.reduceEqDiff, Nat.zero_ne_one, Nat.one_ne_zero, Bw, Bx, Nat.reduceAdd, Nat.zero_add, Int.ofNat_eq_natCast]
  · simp only [Bv, Tr.getP_e, ↓reduceIte, Nat.reduceEqDiff, Nat.zero_ne_one, Nat.one_ne_zero, Bw, Bx, Nat.reduceAdd, Nat.zero_add, Int.ofNat_eq_natCast]
  rintro x ⟨t, HH, d⟩ ⟨rfl, rfl, q6, q7, hT, g2, g3⟩
  dsimp only at q6 q7 hT g2 g3
  have ld := load_of g3
  have st := cell_store (v := tornN old now (clampN n)) g2
  have hg : (HH.set (.run (H.next + 2)) (.rows false 64 [[.blk (tornN old now (clampN n))]])).get (.run (H.next + 2)) = some (.rows false 64 [[.blk (tornN old now (clampN n))]]) := by rw [Heap.get_set, if_pos rfl]
  have ld2 := load_of hg
  simp only [q6, q7, ld, st, ld2, Aa, Ab, Ad, Ae, Af, Ag, Ah, Ai, Aj, Ak, Al, Ao, Ap, Aq, Ar, Au, sO_p, sO_r, sO_m, sO_a, sO_c, Av, Aw, Ax, Ay, Az, sE_p, sE_r, sE_m, sE_a, sE_c, A0, A2, A3, A4, A5, A6, A7, A8, A9, Ba, Bb, Bc, Bd, Be, Bf, Bg, Bh, Bi, Bj, Bl, Bm, Bo, Bp, Bq, Br, Bs, Bt, Bu, Bv, Tr.getP_e, Bw, Bx, ↓reduceIte, Nat.reduceEqDiff, Nat.reduceAdd, Nat.reduceSub, Nat.reduceMul, Nat.reduceDiv, Nat.reduceMod, Nat.zero_add, Nat.add_zero, beq_self_eq_true, Nat.zero_ne_one, Nat.one_ne_zero, Nat.reduceLeDiff, Int.reduceBEq, constF, unF, unary,  pickF, nilcF, faddrF, fldF, iaddrSF, arF, Bz, B3, B4, B5, B6, B7, convF, extF, lenF, eqcF, eqnF, eqN, eqPtr, isNone, loadF, storeF, allocF, callF, gets, Option.map_some, Option.bind_some, B8, B9, Ca, Cb, Cc, nbeq, nble, Cd, Ce, Cf, Cg, Ch, Ci, Cj, Ck, Cl, Cm, Cn, Co, Cp, Cq, Cr, Cs, Ct, Cu, Cv, Cw, Cx, V.w, width, unc, cmpCells, Cy, Cz, C6, C7, C8, Da, undef, List.append_nil, List.nil_append, List.cons_append, Db, Dc, resultsV, result, tup, Dd, Bool.and_true, Bool.true_and, Bool.and_self, decide_true, decide_false, Bool.not_true, Bool.not_false, Bool.true_beq, Bool.false_beq, beq_iff_eq, reduceCtorEq, Nat.succ_eq_add_one, ptr0, Int.ofNat_eq_natCast, Int.ofNat_le, Int.ofNat_lt, Int.natCast_add, De, Df, Dg, Dh, Di, List.map_cons, List.map_nil, Dj, Heap.next_add, Heap.next_set, boxF, buildF, fill, bsliceF, fillRows, List.replicate_one, Dk, Dl, Dm, Dn, Dp, Dq, Dr, Ds, Dt, Du, Dw, Dx, Dy, Dz, D2, D3, D4, D5, D6, D7, D8, D9, Ea, Eb, Ec, appF, List.length_cons, List.length_nil]
  exact ⟨trivial, .inr trivial, _, rfl, rfl, hT.setnew (by omega) _⟩

end Go.Proofs.Ytcelngepfdchiaa.disk

