/-
  A device's methods, whatever is asked of it.
-/
import Derived.Test.YtcelngepfdchiaaDisk6
set_option linter.unusedVariables false
set_option linter.unusedSimpArgs false
set_option maxRecDepth 10000
namespace Go.Proofs.Ytcelngepfdchiaa.disk
open Go.Am

/-- (*ashlar/disk.Disk).Fail -/
noncomputable def c42 : CFn := ⟨[.tmp (Tr.path 2)],
 .seq (.reg [
  ⟨(some (Tr.path 2)), (some (.p (S.get (.c (.int .i64 0))))), none, []⟩]) (
 .seq (.seq (.reg [
   ⟨(some (Tr.path 3)), (some (.p (S.get (.t (Tr.path 0))))), none, [Tr.path 0]⟩,
   ⟨(some (Tr.path 4)), (some (.c (callF (.c (.func (.func 71) [] [])) [(.t (Tr.path 3))]))), none, [Tr.path 3]⟩]) (
  .cond (.t (Tr.path 4)) (.seq (.reg [
     ⟨(some (Tr.path 2)), (some (.p (S.get (.c (.int .i64 1))))), none, []⟩]) (
    .ret)) (.skip))) (
 .seq (.reg [
  ⟨(some (Tr.path 5)), (some (.p (S.get (.t (Tr.path 0))))), none, [Tr.path 0]⟩,
  ⟨(some (Tr.path 6)), (some (.p (S.get (.t (Tr.path 0))))), none, [Tr.path 0]⟩,
  ⟨(some (Tr.path 7)), (some (.p (nilcF (.t (Tr.path 5))))), none, [Tr.path 5]⟩,
  ⟨(some (Tr.path 8)), (some (.p (faddrF (.t (Tr.path 7)) 2))), none, [Tr.path 7]⟩,
  ⟨none, (some (.a (storeF (.t (Tr.path 8)) (.c (.bool true)) 1))), none, [Tr.path 8]⟩,
  ⟨(some (Tr.path 9)), (some (.p (nilcF (.t (Tr.path 6))))), none, [Tr.path 6]⟩,
  ⟨(some (Tr.path 10)), (some (.p (faddrF (.t (Tr.path 9)) 1))), none, [Tr.path 9]⟩,
  ⟨none, (some (.a (storeF (.t (Tr.path 10)) (.c (.slice none 0 0 0)) 1))), none, [Tr.path 10]⟩]) (
 .seq (.reg [
  ⟨(some (Tr.path 2)), (some (.p (S.get (.c (.int .i64 0))))), none, []⟩]) (
 .ret))))⟩
theorem c42_eq : fnOf Try.prog 42 = some c42 := by kernel_rfl

/-- (*ashlar/disk.Disk).Dead -/
noncomputable def c82 : CFn := ⟨[.tmp (Tr.path 2)],
 .seq (.reg [
  ⟨(some (Tr.path 2)), (some (.p (S.get (.c (.bool false))))), none, []⟩]) (
 .seq (.reg [
  ⟨(some (Tr.path 3)), (some (.p (S.get (.t (Tr.path 0))))), none, [Tr.path 0]⟩,
  ⟨(some (Tr.path 4)), (some (.c (callF (.c (.func (.func 71) [] [])) [(.t (Tr.path 3))]))), none, [Tr.path 3]⟩,
  ⟨(some (Tr.path 5)), (some (.p (unF .not (.t (Tr.path 4))))), none, [Tr.path 4]⟩,
  ⟨(some (Tr.path 6)), (some (.p (S.get (.t (Tr.path 5))))), none, [Tr.path 5]⟩,
  ⟨(some (Tr.path 7)), (some (.p (S.get (.t (Tr.path 0))))), (some (some (Tr.path 6), true)), [Tr.path 0]⟩,
  ⟨(some (Tr.path 8)), (some (.p (nilcF (.t (Tr.path 7))))), (some (some (Tr.path 6), true)), [Tr.path 7]⟩,
  ⟨(some (Tr.path 9)), (some (.p (faddrF (.t (Tr.path 8)) 2))), (some (some (Tr.path 6), true)), [Tr.path 8]⟩,
  ⟨(some (Tr.path 10)), (some (.r (loadF (.t (Tr.path 9)) 1 .sc))), (some (some (Tr.path 6), true)), [Tr.path 9]⟩,
  ⟨(some (Tr.path 11)), (some (.p (pickF (.t (Tr.path 6)) (.t (Tr.path 10)) (.c (.bool false))))), none, [Tr.path 6, Tr.path 10]⟩,
  ⟨(some (Tr.path 2)), (some (.p (S.get (.t (Tr.path 11))))), none, [Tr.path 11]⟩]) (
 .ret))⟩
theorem c82_eq : fnOf Try.prog 82 = some c82 := by kernel_rfl

/-- (*ashlar/disk.Disk).Sectors -/
noncomputable def c81 : CFn := ⟨[.tmp (Tr.path 2)],
 .seq (.reg [
  ⟨(some (Tr.path 2)), (some (.p (S.get (.c (.int .i64 0))))), none, []⟩]) (
 .seq (.seq (.reg [
   ⟨(some (Tr.path 3)), (some (.p (S.get (.t (Tr.path 0))))), none, [Tr.path 0]⟩,
   ⟨(some (Tr.path 4)), (some (.c (callF (.c (.func (.func 71) [] [])) [(.t (Tr.path 3))]))), none, [Tr.path 3]⟩]) (
  .cond (.t (Tr.path 4)) (.seq (.reg [
     ⟨(some (Tr.path 2)), (some (.p (S.get (.c (.int .i64 0))))), none, []⟩]) (
    .ret)) (.skip))) (
 .seq (.reg [
  ⟨(some (Tr.path 5)), (some (.p (S.get (.t (Tr.path 0))))), none, [Tr.path 0]⟩,
  ⟨(some (Tr.path 6)), (some (.p (nilcF (.t (Tr.path 5))))), none, [Tr.path 5]⟩,
  ⟨(some (Tr.path 7)), (some (.p (faddrF (.t (Tr.path 6)) 0))), none, [Tr.path 6]⟩,
  ⟨(some (Tr.path 8)), (some (.r (loadF (.t (Tr.path 7)) 1 .sc))), none, [Tr.path 7]⟩,
  ⟨(some (Tr.path 9)), (some (.p (lenF (.t (Tr.path 8))))), none, [Tr.path 8]⟩,
  ⟨(some (Tr.path 2)), (some (.p (S.get (.t (Tr.path 9))))), none, [Tr.path 9]⟩]) (
 .ret)))⟩
theorem c81_eq : fnOf Try.prog 81 = some c81 := by kernel_rfl


def code (D : Dev) (n : Int) : Int := if n < 0 ∨ (D.S.length : Int) ≤ n then 2 else if D.dead = true then 9 else 0
theorem code_out {D : Dev} {n : Int} (h : n < 0 ∨ (D.S.length : Int) ≤ n) : code D n = 2 := if_pos h
theorem code_dead {D : Dev} {n : Int} (h : ¬ (n < 0 ∨ (D.S.length : Int) ≤ n)) (hd : D.dead = true) : code D n = 9 := by unfold code; rw [if_neg h, if_pos hd]
theorem code_ok {D : Dev} {n : Int} (h : ¬ (n < 0 ∨ (D.S.length : Int) ≤ n)) (hd : D.dead = false) : code D n = 0 := by unfold code; rw [if_neg h, hd]; rfl
/-- two ways it goes: a sector that is there, of a device that lives; or an error -/
theorem code_cases (D : Dev) (n : Int) : (∃ k : Nat, n = (k : Int) ∧ k < D.S.length ∧ D.dead = false ∧ code D n = 0) ∨ code D n = 2 ∨ code D n = 9 := by
  by_cases h : n < 0 ∨ (D.S.length : Int) ≤ n
  · exact .inr (.inl (code_out h))
  · cases hd : D.dead with
    | true => exact .inr (.inr (code_dead h hd))
    | false =>
      have h' : 0 ≤ n ∧ n < (D.S.length : Int) := by omega
      exact .inl ⟨n.toNat, by omega, by omega, rfl, code_ok h hd⟩

theorem asked_code {H : Heap} {b : Bk} {y : Lay} {D : Dev} (h : DevAt H b y D) (hS : D.S ≠ []) (n : Int) (lf m : Nat) : ret (callS Try.prog S0 lf (m + 2) 70 [.ptr (some ⟨b, 0⟩), .int .i64 n] H) fun v H' => v = .int .i64 (code D n) ∧ H' = H := by
  by_cases hout : n < 0 ∨ (D.S.length : Int) ≤ n
  · rw [code_out hout]
    have h0 := load0 h
    refine ret_call rfl c70_eq ?_
    obtain ⟨v, H1, e, rfl, rfl⟩ := none_ret h hS lf m
    by_cases hlt : n < 0
    · simp only [c70, e, h0, hlt, Aa, Ab, Ad, Ae, Af, Ag, Ah, Ai, Aj, Ak, Al, Ao, Ap, Aq, Ar, Au, sO_p, sO_r, sO_m, sO_a, sO_c, Av, Aw, Ax, Ay, Az, sE_p, sE_r, sE_m, sE_a, sE_c, A0, A2, A3, A4, A5, A6, A7, A8, A9, Ba, Bb, Bc, Bd, Be, Bf, Bg, Bh, Bi, Bj, Bl, Bm, Bo, Bp, Bq, Br, Bs, Bt, Bu, Bv, Tr.getP_e, Bw, Bx, ↓reduceIte, Nat.reduceEqDiff, Nat.reduceAdd, Nat.reduceSub, Nat.reduceMul, Nat.reduceDiv, Nat.reduceMod, Nat.zero_add, Nat.add_zero, beq_self_eq_true, Nat.zero_ne_one, Nat.one_ne_zero, Nat.reduceLeDiff, Int.reduceBEq, constF, unF, unary,  pickF, nilcF, faddrF, fldF, iaddrSF, arF, Bz, B3, B4, B5, B6, B7, convF, extF, lenF, eqcF, eqnF, eqN, eqPtr, isNone, loadF, storeF, allocF, callF, gets, Option.map_some, Option.bind_some, B8, B9, Ca, Cb, Cc, nbeq, nble, Cd, Ce, Cf, Cg, Ch, Ci, Cj, Ck, Cl, Cm, Cn, Co, Cp, Cq, Cr, Cs, Ct, Cu, Cv, Cw, Cx, V.w, width, unc, cmpCells, Cy, Cz, C6, C7, C8, Da, undef, List.append_nil, List.nil_append, List.cons_append, Db, Dc, resultsV, result, tup, Dd, Bool.and_true, Bool.true_and, Bool.and_self, decide_true, decide_false, Bool.not_true, Bool.not_false, Bool.true_beq, Bool.false_beq, beq_iff_eq, reduceCtorEq, Nat.succ_eq_add_one, ptr0, Int.ofNat_eq_natCast, Int.ofNat_le, Int.ofNat_lt, Int.natCast_add, De, Df, Dg, Dh, Di, List.map_cons, List.map_nil, Dj, Heap.next_add, Heap.next_set, boxF, buildF, fill, bsliceF, fillRows, List.replicate_one, Dk, Dl, Dm, Dn, Dp, Dq, Dr, Ds, Dt, Du, Dw, Dx, Dy, Dz, D2, D3, D4, D5, D6, D7, D8, D9, Ea, Eb, Ec, appF, List.length_cons, List.length_nil]
      simp
    · have hge : (D.S.length : Int) ≤ n := by omega
      simp only [c70, e, h0, hlt, hge, Aa, Ab, Ad, Ae, Af, Ag, Ah, Ai, Aj, Ak, Al, Ao, Ap, Aq, Ar, Au, sO_p, sO_r, sO_m, sO_a, sO_c, Av, Aw, Ax, Ay, Az, sE_p, sE_r, sE_m, sE_a, sE_c, A0, A2, A3, A4, A5, A6, A7, A8, A9, Ba, Bb, Bc, Bd, Be, Bf, Bg, Bh, Bi, Bj, Bl, Bm, Bo, Bp, Bq, Br, Bs, Bt, Bu, Bv, Tr.getP_e, Bw, Bx, ↓reduceIte, Nat.reduceEqDiff, Nat.reduceAdd, Nat.reduceSub, Nat.reduceMul, Nat.reduceDiv, Nat.reduceMod, Nat.zero_add, Nat.add_zero, beq_self_eq_true, Nat.zero_ne_one, Nat.one_ne_zero, Nat.reduceLeDiff, Int.reduceBEq, constF, unF, unary,  pickF, nilcF, faddrF, fldF, iaddrSF, arF, Bz, B3, B4, B5, B6, B7, convF, extF, lenF, eqcF, eqnF, eqN, eqPtr, isNone, loadF, storeF, allocF, callF, gets, Option.map_some, Option.bind_some, B8, B9, Ca, Cb, Cc, nbeq, nble, Cd, Ce, Cf, Cg, Ch, Ci, Cj, Ck, Cl, Cm, Cn, Co, Cp, Cq, Cr, Cs, Ct, Cu, Cv, Cw, Cx, V.w, width, unc, cmpCells, Cy, Cz, C6, C7, C8, Da, undef, List.append_nil, List.nil_append, List.cons_append, Db, Dc, resultsV, result, tup, Dd, Bool.and_true, Bool.true_and, Bool.and_self, decide_true, decide_false, Bool.not_true, Bool.not_false, Bool.true_beq, Bool.false_beq, beq_iff_eq, reduceCtorEq, Nat.succ_eq_add_one, ptr0, Int.ofNat_eq_natCast, Int.ofNat_le, Int.ofNat_lt, Int.natCast_add, De, Df, Dg, Dh, Di, List.map_cons, List.map_nil, Dj, Heap.next_add, Heap.next_set, boxF, buildF, fill, bsliceF, fillRows, List.replicate_one, Dk, Dl, Dm, Dn, Dp, Dq, Dr, Ds, Dt, Du, Dw, Dx, Dy, Dz, D2, D3, D4, D5, D6, D7, D8, D9, Ea, Eb, Ec, appF, List.length_cons, List.length_nil]
      simp
  · cases hd : D.dead with
    | false =>
      rw [code_ok hout hd]
      obtain ⟨k, rfl⟩ : ∃ k : Nat, n = (k : Int) := ⟨n.toNat, by omega⟩
      exact asked_ok h (by omega) hd lf m
    | true =>
      rw [code_dead hout hd]
      have h0 := load0 h
      have h2 := load2 h
      have hlt : ¬ (n < 0) := by omega
      have hge : ¬ ((D.S.length : Int) ≤ n) := by omega
      refine ret_call rfl c70_eq ?_
      obtain ⟨v, H1, e, rfl, rfl⟩ := none_ret h hS lf m
      simp only [c70, e, h0, h2, hd, hlt, hge, Aa, Ab, Ad, Ae, Af, Ag, Ah, Ai, Aj, Ak, Al, Ao, Ap, Aq, Ar, Au, sO_p, sO_r, sO_m, sO_a, sO_c, Av, Aw, Ax, Ay, Az, sE_p, sE_r, sE_m, sE_a, sE_c, A0, A2, A3, A4, A5, A6, A7, A8, A9, Ba, Bb, Bc, Bd, Be, Bf, Bg, Bh, Bi, Bj, Bl, Bm, Bo, Bp, Bq, Br, Bs, Bt, Bu, Bv, Tr.getP_e, Bw, Bx, ↓reduceIte, Nat.reduceEqDiff, Nat.reduceAdd, Nat.reduceSub, Nat.reduceMul, Nat.reduceDiv, Nat.reduceMod, Nat.zero_add, Nat.add_zero, beq_self_eq_true, Nat.zero_ne_one, Nat.one_ne_zero, Nat.reduceLeDiff, Int.reduceBEq, constF, unF, unary,  pickF, nilcF, faddrF, fldF, iaddrSF, arF, Bz, B3, B4, B5, B6, B7, convF, extF, lenF, eqcF, eqnF, eqN, eqPtr, isNone, loadF, storeF, allocF, callF, gets, Option.map_some, Option.bind_some, B8, B9, Ca, Cb, Cc, nbeq, nble, Cd, Ce, Cf, Cg, Ch, Ci, Cj, Ck, Cl, Cm, Cn, Co, Cp, Cq, Cr, Cs, Ct, Cu, Cv, Cw, Cx, V.w, width, unc, cmpCells, Cy, Cz, C6, C7, C8, Da, undef, List.append_nil, List.nil_append, List.cons_append, Db, Dc, resultsV, result, tup, Dd, Bool.and_true, Bool.true_and, Bool.and_self, decide_true, decide_false, Bool.not_true, Bool.not_false, Bool.true_beq, Bool.false_beq, beq_iff_eq, reduceCtorEq, Nat.succ_eq_add_one, ptr0, Int.ofNat_eq_natCast, Int.ofNat_le, Int.ofNat_lt, Int.natCast_add, De, Df, Dg, Dh, Di, List.map_cons, List.map_nil, Dj, Heap.next_add, Heap.next_set, boxF, buildF, fill, bsliceF, fillRows, List.replicate_one, Dk, Dl, Dm, Dn, Dp, Dq, Dr, Ds, Dt, Du, Dw, Dx, Dy, Dz, D2, D3, D4, D5, D6, D7, D8, D9, Ea, Eb, Ec, appF, List.length_cons, List.length_nil]
      simp

theorem Next.idle {H H' : Heap} {b : Bk} {y : Lay} {D : Dev} (h : DevAt H b y D) (k : Turns Z H H') : Next H b y D H' y D :=
  ⟨h.turns k id id (fun _ => id), k.wide (fun c hc => hc.elim), rfl, fun e => .inl ⟨e, rfl⟩⟩

def Dev.write (D : Dev) (n : Int) (B : Nat) : Dev := if code D n = 0 then { D with L := D.L ++ [(n.toNat, B)] } else D
noncomputable def Dev.read (D : Dev) (n : Int) : Nat := if code D n = 0 then readN D n.toNat else 0
def Dev.sure (D : Dev) (n : Int) : Nat := if code D n = 0 then D.S.getD n.toNat 0 else 0
def Dev.flush (D : Dev) : Dev := if D.dead = true then D else { D with S := flushS D.S D.L, L := [] }
def fcode (D : Dev) : Int := if D.dead = true then 9 else 0
def rcode (D : Dev) (n j : Int) : Int := if code D n = 2 ∨ j < 0 ∨ 64 ≤ j then 2 else code D n
noncomputable def Dev.rot (D : Dev) (n j : Int) (by' : Nat) : Dev := if rcode D n j = 0 then { D with S := D.S.set n.toNat (rotN (D.S.getD n.toNat 0) j.toNat by') } else D
def Dev.crash (D : Dev) (P : List Int) : Dev := { D with S := crashS D.S (D.L.zip P), L := [] }
def Dev.fail (D : Dev) : Dev := { D with L := [], dead := true }

theorem write_all {H : Heap} {b : Bk} {y : Lay} {D : Dev} (h : DevAt H b y D) (hS : D.S ≠ []) (hmax : D.L.length < 1000000) (n : Int) (B : Nat) (lf m : Nat) :
    ret (callS Try.prog S0 lf (m + 3) 18 [.ptr (some ⟨b, 0⟩), .int .i64 n, .blk B] H) fun v H' => v = .int .i64 (code D n) ∧ ∃ y', Next H b y D H' y' (D.write n B) := by
  have err : ∀ z : Int, z = 2 ∨ z = 9 → code D n = z → ret (callS Try.prog S0 lf (m + 3) 18 [.ptr (some ⟨b, 0⟩), .int .i64 n, .blk B] H) fun v H' => v = .int .i64 (code D n) ∧ ∃ y', Next H b y D H' y' (D.write n B) := by
    intro z hz hc
    have hw : D.write n B = D := if_neg (by rw [hc]; omega)
    have t1 := Turns.add Z H (.rows false 64 [[.blk B]])
    have h' := h.turns t1 id id (fun _ => id)
    have hz0 : (z == 0) = false := by simp; omega
    refine ret_call rfl c18_eq ?_
    obtain ⟨v, H1, e, rfl, e1⟩ := asked_code h' hS n lf m
    subst e1
    rw [hc] at e
    simp only [c18, e, hz0, Aa, Ab, Ad, Ae, Af, Ag, Ah, Ai, Aj, Ak, Al, Ao, Ap, Aq, Ar, Au, sO_p, sO_r, sO_m, sO_a, sO_c, Av, Aw, Ax, Ay, Az, sE_p, sE_r, sE_m, sE_a, sE_c, A0, A2, A3, A4, A5, A6, A7, A8, A9, Ba, Bb, Bc, Bd, Be, Bf, Bg, Bh, Bi, Bj, Bl, Bm, Bo, Bp, Bq, Br, Bs, Bt, Bu, Bv, Tr.getP_e, Bw, Bx, ↓reduceIte, Nat.reduceEqDiff, Nat.reduceAdd, Nat.reduceSub, Nat.reduceMul, Nat.reduceDiv, Nat.reduceMod, Nat.zero_add, Nat.add_zero, beq_self_eq_true, Nat.zero_ne_one, Nat.one_ne_zero, Nat.reduceLeDiff, Int.reduceBEq, constF, unF, unary,  pickF, nilcF, faddrF, fldF, iaddrSF, arF, Bz, B3, B4, B5, B6, B7, convF, extF, lenF, eqcF, eqnF, eqN, eqPtr, isNone, loadF, storeF, allocF, callF, gets, Option.map_some, Option.bind_some, B8, B9, Ca, Cb, Cc, nbeq, nble, Cd, Ce, Cf, Cg, Ch, Ci, Cj, Ck, Cl, Cm, Cn, Co, Cp, Cq, Cr, Cs, Ct, Cu, Cv, Cw, Cx, V.w, width, unc, cmpCells, Cy, Cz, C6, C7, C8, Da, undef, List.append_nil, List.nil_append, List.cons_append, Db, Dc, resultsV, result, tup, Dd, Bool.and_true, Bool.true_and, Bool.and_self, decide_true, decide_false, Bool.not_true, Bool.not_false, Bool.true_beq, Bool.false_beq, beq_iff_eq, reduceCtorEq, Nat.succ_eq_add_one, ptr0, Int.ofNat_eq_natCast, Int.ofNat_le, Int.ofNat_lt, Int.natCast_add, De, Df, Dg, Dh, Di, List.map_cons, List.map_nil, Dj, Heap.next_add, Heap.next_set, boxF, buildF, fill, bsliceF, fillRows, List.replicate_one, Dk, Dl, Dm, Dn, Dp, Dq, Dr, Ds, Dt, Du, Dw, Dx, Dy, Dz, D2, D3, D4, D5, D6, D7, D8, D9, Ea, Eb, Ec, appF, List.length_cons, List.length_nil]
    rw [hw, hc]
    exact ⟨trivial, .inr trivial, _, rfl, rfl, y, Next.idle h t1⟩
  rcases code_cases D n with ⟨k, rfl, hk, hd, hc⟩ | hc | hc
  · rw [hc]
    have hw : D.write (k : Int) B = { D with L := D.L ++ [(k, B)] } := if_pos hc
    rw [hw]
    exact write_ok h hk hd hmax B lf m
  · exact err 2 (.inl rfl) hc
  · exact err 9 (.inr rfl) hc

theorem read_all {H : Heap} {b : Bk} {y : Lay} {D : Dev} (h : DevAt H b y D) (hS : D.S ≠ []) {lf : Nat} (hlf : D.L.length + 1 < lf) (hmax : D.L.length < 1000000) (n : Int) (m : Nat) :
    ret (callS Try.prog S0 lf (m + 3) 17 [.ptr (some ⟨b, 0⟩), .int .i64 n] H) fun v H' => v = .tuple [.blk (D.read n), .int .i64 (code D n)] ∧ Turns Z H H' := by
  have err : ∀ z : Int, z = 2 ∨ z = 9 → code D n = z → ret (callS Try.prog S0 lf (m + 3) 17 [.ptr (some ⟨b, 0⟩), .int .i64 n] H) fun v H' => v = .tuple [.blk (D.read n), .int .i64 (code D n)] ∧ Turns Z H H' := by
    intro z hz hc
    have hw : D.read n = 0 := if_neg (by rw [hc]; omega)
    have t1 := Turns.add Z H (.rows false 64 [[.blk 0]])
    have h' := h.turns t1 id id (fun _ => id)
    have hz0 : (z == 0) = false := by simp; omega
    refine ret_call rfl c17_eq ?_
    obtain ⟨v, H1, e, rfl, e1⟩ := asked_code h' hS n lf m
    subst e1
    rw [hc] at e
    simp only [c17, e, hz0, Aa, Ab, Ad, Ae, Af, Ag, Ah, Ai, Aj, Ak, Al, Ao, Ap, Aq, Ar, Au, sO_p, sO_r, sO_m, sO_a, sO_c, Av, Aw, Ax, Ay, Az, sE_p, sE_r, sE_m, sE_a, sE_c, A0, A2, A3, A4, A5, A6, A7, A8, A9, Ba, Bb, Bc, Bd, Be, Bf, Bg, Bh, Bi, Bj, Bl, Bm, Bo, Bp, Bq, Br, Bs, Bt, Bu, Bv, Tr.getP_e, Bw, Bx, ↓reduceIte, Nat.reduceEqDiff, Nat.reduceAdd, Nat.reduceSub, Nat.reduceMul, Nat.reduceDiv, Nat.reduceMod, Nat.zero_add, Nat.add_zero, beq_self_eq_true, Nat.zero_ne_one, Nat.one_ne_zero, Nat.reduceLeDiff, Int.reduceBEq, constF, unF, unary,  pickF, nilcF, faddrF, fldF, iaddrSF, arF, Bz, B3, B4, B5, B6, B7, convF, extF, lenF, eqcF, eqnF, eqN, eqPtr, isNone, loadF, storeF, allocF, callF, gets, Option.map_some, Option.bind_some, B8, B9, Ca, Cb, Cc, nbeq, nble, Cd, Ce, Cf, Cg, Ch, Ci, Cj, Ck, Cl, Cm, Cn, Co, Cp, Cq, Cr, Cs, Ct, Cu, Cv, Cw, Cx, V.w, width, unc, cmpCells, Cy, Cz, C6, C7, C8, Da, undef, List.append_nil, List.nil_append, List.cons_append, Db, Dc, resultsV, result, tup, Dd, Bool.and_true, Bool.true_and, Bool.and_self, decide_true, decide_false, Bool.not_true, Bool.not_false, Bool.true_beq, Bool.false_beq, beq_iff_eq, reduceCtorEq, Nat.succ_eq_add_one, ptr0, Int.ofNat_eq_natCast, Int.ofNat_le, Int.ofNat_lt, Int.natCast_add, De, Df, Dg, Dh, Di, List.map_cons, List.map_nil, Dj, Heap.next_add, Heap.next_set, boxF, buildF, fill, bsliceF, fillRows, List.replicate_one, Dk, Dl, Dm, Dn, Dp, Dq, Dr, Ds, Dt, Du, Dw, Dx, Dy, Dz, D2, D3, D4, D5, D6, D7, D8, D9, Ea, Eb, Ec, appF, List.length_cons, List.length_nil]
    rw [hw, hc]
    exact ⟨trivial, .inr trivial, _, rfl, rfl, t1.setnew (Nat.le_refl _) _⟩
  rcases code_cases D n with ⟨k, rfl, hk, hd, hc⟩ | hc | hc
  · have hw : D.read (k : Int) = readN D k := if_pos hc
    rw [hc, hw]
    exact read_ok h hk hd hlf hmax m
  · exact err 2 (.inl rfl) hc
  · exact err 9 (.inr rfl) hc

theorem sure_all {H : Heap} {b : Bk} {y : Lay} {D : Dev} (h : DevAt H b y D) (hS : D.S ≠ []) (n : Int) (lf m : Nat) :
    ret (callS Try.prog S0 lf (m + 3) 20 [.ptr (some ⟨b, 0⟩), .int .i64 n] H) fun v H' => v = .tuple [.blk (D.sure n), .int .i64 (code D n)] ∧ Turns Z H H' := by
  have err : ∀ z : Int, z = 2 ∨ z = 9 → code D n = z → ret (callS Try.prog S0 lf (m + 3) 20 [.ptr (some ⟨b, 0⟩), .int .i64 n] H) fun v H' => v = .tuple [.blk (D.sure n), .int .i64 (code D n)] ∧ Turns Z H H' := by
    intro z hz hc
    have hw : D.sure n = 0 := if_neg (by rw [hc]; omega)
    have t1 := Turns.add Z H (.rows false 64 [[.blk 0]])
    have h' := h.turns t1 id id (fun _ => id)
    have hz0 : (z == 0) = false := by simp; omega
    refine ret_call rfl c20_eq ?_
    obtain ⟨v, H1, e, rfl, e1⟩ := asked_code h' hS n lf m
    subst e1
    rw [hc] at e
    simp only [c20, e, hz0, Aa, Ab, Ad, Ae, Af, Ag, Ah, Ai, Aj, Ak, Al, Ao, Ap, Aq, Ar, Au, sO_p, sO_r, sO_m, sO_a, sO_c, Av, Aw, Ax, Ay, Az, sE_p, sE_r, sE_m, sE_a, sE_c, A0, A2, A3, A4, A5, A6, A7, A8, A9, Ba, Bb, Bc, Bd, Be, Bf, Bg, Bh, Bi, Bj, Bl, Bm, Bo, Bp, Bq, Br, Bs, Bt, Bu, Bv, Tr.getP_e, Bw, Bx, ↓reduceIte, Nat.reduceEqDiff, Nat.reduceAdd, Nat.reduceSub, Nat.reduceMul, Nat.reduceDiv, Nat.reduceMod, Nat.zero_add, Nat.add_zero, beq_self_eq_true, Nat.zero_ne_one, Nat.one_ne_zero, Nat.reduceLeDiff, Int.reduceBEq, constF, unF, unary,  pickF, nilcF, faddrF, fldF, iaddrSF, arF, Bz, B3, B4, B5, B6, B7, convF, extF, lenF, eqcF, eqnF, eqN, eqPtr, isNone, loadF, storeF, allocF, callF, gets, Option.map_some, Option.bind_some, B8, B9, Ca, Cb, Cc, nbeq, nble, Cd, Ce, Cf, Cg, Ch, Ci, Cj, Ck, Cl, Cm, Cn, Co, Cp, Cq, Cr, Cs, Ct, Cu, Cv, Cw, Cx, V.w, width, unc, cmpCells, Cy, Cz, C6, C7, C8, Da, undef, List.append_nil, List.nil_append, List.cons_append, Db, Dc, resultsV, result, tup, Dd, Bool.and_true, Bool.true_and, Bool.and_self, decide_true, decide_false, Bool.not_true, Bool.not_false, Bool.true_beq, Bool.false_beq, beq_iff_eq, reduceCtorEq, Nat.succ_eq_add_one, ptr0, Int.ofNat_eq_natCast, Int.ofNat_le, Int.ofNat_lt, Int.natCast_add, De, Df, Dg, Dh, Di, List.map_cons, List.map_nil, Dj, Heap.next_add, Heap.next_set, boxF, buildF, fill, bsliceF, fillRows, List.replicate_one, Dk, Dl, Dm, Dn, Dp, Dq, Dr, Ds, Dt, Du, Dw, Dx, Dy, Dz, D2, D3, D4, D5, D6, D7, D8, D9, Ea, Eb, Ec, appF, List.length_cons, List.length_nil]
    rw [hw, hc]
    exact ⟨trivial, .inr trivial, _, rfl, rfl, t1.setnew (Nat.le_refl _) _⟩
  rcases code_cases D n with ⟨k, rfl, hk, hd, hc⟩ | hc | hc
  · have hw : D.sure (k : Int) = D.S[k] := by unfold Dev.sure; rw [if_pos hc]; exact getD_lt hk
    rw [hc, hw]
    exact sure_ok h hk hd lf m
  · exact err 2 (.inl rfl) hc
  · exact err 9 (.inr rfl) hc

theorem flush_all {H : Heap} {b : Bk} {y : Lay} {D : Dev} (h : DevAt H b y D) (hS : D.S ≠ []) (hok : ∀ w ∈ D.L, w.1 < D.S.length) (hmax : D.L.length < 1000000) {lf : Nat} (hlf : D.L.length + 1 < lf) (m : Nat) :
    ret (callS Try.prog S0 lf (m + 3) 16 [.ptr (some ⟨b, 0⟩)] H) fun v H' => v = .int .i64 (fcode D) ∧ ∃ y', Next H b y D H' y' D.flush := by
  have hpos : 0 < D.S.length := by cases hc : D.S with
    | nil => exact absurd hc hS
    | cons a l => simp
  cases hd : D.dead with
  | false =>
    have e1 : fcode D = 0 := by unfold fcode; rw [hd]; rfl
    have e2 : D.flush = { D with S := flushS D.S D.L, L := [] } := by unfold Dev.flush; rw [hd]; rfl
    rw [e1, e2]
    exact (flush_ok h hS hd hok hmax hlf m).mono (fun v H' hv => ⟨hv.1, _, hv.2⟩)
  | true =>
    have e1 : fcode D = 9 := by unfold fcode; rw [hd]; rfl
    have e2 : D.flush = D := by unfold Dev.flush; rw [hd]; rfl
    have hc : code D 0 = 9 := code_dead (by omega) hd
    rw [e1, e2]
    refine ret_call rfl c16_eq ?_
    obtain ⟨v, H1, e, rfl, e3⟩ := asked_code h hS 0 lf m
    subst e3
    rw [hc] at e
    simp only [c16, e, Aa, Ab, Ad, Ae, Af, Ag, Ah, Ai, Aj, Ak, Al, Ao, Ap, Aq, Ar, Au, sO_p, sO_r, sO_m, sO_a, sO_c, Av, Aw, Ax, Ay, Az, sE_p, sE_r, sE_m, sE_a, sE_c, A0, A2, A3, A4, A5, A6, A7, A8, A9, Ba, Bb, Bc, Bd, Be, Bf, Bg, Bh, Bi, Bj, Bl, Bm, Bo, Bp, Bq, Br, Bs, Bt, Bu, Bv, Tr.getP_e, Bw, Bx, ↓reduceIte, Nat.reduceEqDiff, Nat.reduceAdd, Nat.reduceSub, Nat.reduceMul, Nat.reduceDiv, Nat.reduceMod, Nat.zero_add, Nat.add_zero, beq_self_eq_true, Nat.zero_ne_one, Nat.one_ne_zero, Nat.reduceLeDiff, Int.reduceBEq, constF, unF, unary,  pickF, nilcF, faddrF, fldF, iaddrSF, arF, Bz, B3, B4, B5, B6, B7, convF, extF, lenF, eqcF, eqnF, eqN, eqPtr, isNone, loadF, storeF, allocF, callF, gets, Option.map_some, Option.bind_some, B8, B9, Ca, Cb, Cc, nbeq, nble, Cd, Ce, Cf, Cg, Ch, Ci, Cj, Ck, Cl, Cm, Cn, Co, Cp, Cq, Cr, Cs, Ct, Cu, Cv, Cw, Cx, V.w, width, unc, cmpCells, Cy, Cz, C6, C7, C8, Da, undef, List.append_nil, List.nil_append, List.cons_append, Db, Dc, resultsV, result, tup, Dd, Bool.and_true, Bool.true_and, Bool.and_self, decide_true, decide_false, Bool.not_true, Bool.not_false, Bool.true_beq, Bool.false_beq, beq_iff_eq, reduceCtorEq, Nat.succ_eq_add_one, ptr0, Int.ofNat_eq_natCast, Int.ofNat_le, Int.ofNat_lt, Int.natCast_add, De, Df, Dg, Dh, Di, List.map_cons, List.map_nil, Dj, Heap.next_add, Heap.next_set, boxF, buildF, fill, bsliceF, fillRows, List.replicate_one, Dk, Dl, Dm, Dn, Dp, Dq, Dr, Ds, Dt, Du, Dw, Dx, Dy, Dz, D2, D3, D4, D5, D6, D7, D8, D9, Ea, Eb, Ec, appF, List.length_cons, List.length_nil]
    exact ⟨trivial, .inr trivial, _, rfl, rfl, y, Next.idle h (Turns.refl _ _)⟩

theorem rot_all {H : Heap} {b : Bk} {y : Lay} {D : Dev} (h : DevAt H b y D) (hS : D.S ≠ []) (n j : Int) {by' : Nat} (hb : by' < 256) (lf m : Nat) :
    ret (callS Try.prog S0 lf (m + 3) 24 [.ptr (some ⟨b, 0⟩), .int .i64 n, .int .i64 j, .int .u8 (by' : Int)] H) fun v H' => v = .int .i64 (rcode D n j) ∧ ∃ y', Next H b y D H' y' (D.rot n j by') := by
  by_cases hj : j < 0 ∨ 64 ≤ j
  · have e1 : rcode D n j = 2 := if_pos (.inr hj)
    have e2 : D.rot n j by' = D := if_neg (by rw [e1]; decide)
    rw [e1, e2]
    have hc : code D n = 0 ∨ code D n = 2 ∨ code D n = 9 := by
      rcases code_cases D n with ⟨_, _, _, _, hc⟩ | hc | hc
      · exact .inl hc
      · exact .inr (.inl hc)
      · exact .inr (.inr hc)
    have key : ∀ z : Int, z = 0 ∨ z = 2 ∨ z = 9 → code D n = z → ret (callS Try.prog S0 lf (m + 3) 24 [.ptr (some ⟨b, 0⟩), .int .i64 n, .int .i64 j, .int .u8 (by' : Int)] H) fun v H' => v = .int .i64 2 ∧ ∃ y', Next H b y D H' y' D := by
      intro z hz hc
      have z1 : (z == 1) = false := by simp; omega
      refine ret_call rfl c24_eq ?_
      obtain ⟨v, H1, e, rfl, e3⟩ := asked_code h hS n lf m
      subst e3
      rw [hc] at e
      rcases hz with rfl | rfl | rfl
      · by_cases hj0 : j < 0
        · simp only [c24, e, hj0, Aa, Ab, Ad, Ae, Af, Ag, Ah, Ai, Aj, Ak, Al, Ao, Ap, Aq, Ar, Au, sO_p, sO_r, sO_m, sO_a, sO_c, Av, Aw, Ax, Ay, Az, sE_p, sE_r, sE_m, sE_a, sE_c, A0, A2, A3, A4, A5, A6, A7, A8, A9, Ba, Bb, Bc, Bd, Be, Bf, Bg, Bh, Bi, Bj, Bl, Bm, Bo, Bp, Bq, Br, Bs, Bt, Bu, Bv, Tr.getP_e, Bw, Bx, ↓reduceIte, Nat.reduceEqDiff, Nat.reduceAdd, Nat.reduceSub, Nat.reduceMul, Nat.reduceDiv, Nat.reduceMod, Nat.zero_add, Nat.add_zero, beq_self_eq_true, Nat.zero_ne_one, Nat.one_ne_zero, Nat.reduceLeDiff, Int.reduceBEq, constF, unF, unary,  pickF, nilcF, faddrF, fldF, iaddrSF, arF, Bz, B3, B4, B5, B6, B7, convF, extF, lenF, eqcF, eqnF, eqN, eqPtr, isNone, loadF, storeF, allocF, callF, gets, Option.map_some, Option.bind_some, B8, B9, Ca, Cb, Cc, nbeq, nble, Cd, Ce, Cf, Cg, Ch, Ci, Cj, Ck, Cl, Cm, Cn, Co, Cp, Cq, Cr, Cs, Ct, Cu, Cv, Cw, Cx, V.w, width, unc, cmpCells, Cy, Cz, C6, C7, C8, Da, undef, List.append_nil, List.nil_append, List.cons_append, Db, Dc, resultsV, result, tup, Dd, Bool.and_true, Bool.true_and, Bool.and_self, decide_true, decide_false, Bool.not_true, Bool.not_false, Bool.true_beq, Bool.false_beq, beq_iff_eq, reduceCtorEq, Nat.succ_eq_add_one, ptr0, Int.ofNat_eq_natCast, Int.ofNat_le, Int.ofNat_lt, Int.natCast_add, De, Df, Dg, Dh, Di, List.map_cons, List.map_nil, Dj, Heap.next_add, Heap.next_set, boxF, buildF, fill, bsliceF, fillRows, List.replicate_one, Dk, Dl, Dm, Dn, Dp, Dq, Dr, Ds, Dt, Du, Dw, Dx, Dy, Dz, D2, D3, D4, D5, D6, D7, D8, D9, Ea, Eb, Ec, appF, List.length_cons, List.length_nil]
          exact ⟨trivial, .inr trivial, _, rfl, rfl, y, Next.idle h (Turns.refl _ _)⟩
        · have hj1 : (64 : Int) ≤ j := by omega
          simp only [c24, e, hj0, hj1, Aa, Ab, Ad, Ae, Af, Ag, Ah, Ai, Aj, Ak, Al, Ao, Ap, Aq, Ar, Au, sO_p, sO_r, sO_m, sO_a, sO_c, Av, Aw, Ax, Ay, Az, sE_p, sE_r, sE_m, sE_a, sE_c, A0, A2, A3, A4, A5, A6, A7, A8, A9, Ba, Bb, Bc, Bd, Be, Bf, Bg, Bh, Bi, Bj, Bl, Bm, Bo, Bp, Bq, Br, Bs, Bt, Bu, Bv, Tr.getP_e, Bw, Bx, ↓reduceIte, Nat.reduceEqDiff, Nat.reduceAdd, Nat.reduceSub, Nat.reduceMul, Nat.reduceDiv, Nat.reduceMod, Nat.zero_add, Nat.add_zero, beq_self_eq_true, Nat.zero_ne_one, Nat.one_ne_zero, Nat.reduceLeDiff, Int.reduceBEq, constF, unF, unary,  pickF, nilcF, faddrF, fldF, iaddrSF, arF, Bz, B3, B4, B5, B6, B7, convF, extF, lenF, eqcF, eqnF, eqN, eqPtr, isNone, loadF, storeF, allocF, callF, gets, Option.map_some, Option.bind_some, B8, B9, Ca, Cb, Cc, nbeq, nble, Cd, Ce, Cf, Cg, Ch, Ci, Cj, Ck, Cl, Cm, Cn, Co, Cp, Cq, Cr, Cs, Ct, Cu, Cv, Cw, Cx, V.w, width, unc, cmpCells, Cy, Cz, C6, C7, C8, Da, undef, List.append_nil, List.nil_append, List.cons_append, Db, Dc, resultsV, result, tup, Dd, Bool.and_true, Bool.true_and, Bool.and_self, decide_true, decide_false, Bool.not_true, Bool.not_false, Bool.true_beq, Bool.false_beq, beq_iff_eq, reduceCtorEq, Nat.succ_eq_add_one, ptr0, Int.ofNat_eq_natCast, Int.ofNat_le, Int.ofNat_lt, Int.natCast_add, De, Df, Dg, Dh, Di, List.map_cons, List.map_nil, Dj, Heap.next_add, Heap.next_set, boxF, buildF, fill, bsliceF, fillRows, List.replicate_one, Dk, Dl, Dm, Dn, Dp, Dq, Dr, Ds, Dt, Du, Dw, Dx, Dy, Dz, D2, D3, D4, D5, D6, D7, D8, D9, Ea, Eb, Ec, appF, List.length_cons, List.length_nil]
          exact ⟨trivial, .inr trivial, _, rfl, rfl, y, Next.idle h (Turns.refl _ _)⟩
      · simp only [c24, e, Aa, Ab, Ad, Ae, Af, Ag, Ah, Ai, Aj, Ak, Al, Ao, Ap, Aq, Ar, Au, sO_p, sO_r, sO_m, sO_a, sO_c, Av, Aw, Ax, Ay, Az, sE_p, sE_r, sE_m, sE_a, sE_c, A0, A2, A3, A4, A5, A6, A7, A8, A9, Ba, Bb, Bc, Bd, Be, Bf, Bg, Bh, Bi, Bj, Bl, Bm, Bo, Bp, Bq, Br, Bs, Bt, Bu, Bv, Tr.getP_e, Bw, Bx, ↓reduceIte, Nat.reduceEqDiff, Nat.reduceAdd, Nat.reduceSub, Nat.reduceMul, Nat.reduceDiv, Nat.reduceMod, Nat.zero_add, Nat.add_zero, beq_self_eq_true, Nat.zero_ne_one, Nat.one_ne_zero, Nat.reduceLeDiff, Int.reduceBEq, constF, unF, unary,  pickF, nilcF, faddrF, fldF, iaddrSF, arF, Bz, B3, B4, B5, B6, B7, convF, extF, lenF, eqcF, eqnF, eqN, eqPtr, isNone, loadF, storeF, allocF, callF, gets, Option.map_some, Option.bind_some, B8, B9, Ca, Cb, Cc, nbeq, nble, Cd, Ce, Cf, Cg, Ch, Ci, Cj, Ck, Cl, Cm, Cn, Co, Cp, Cq, Cr, Cs, Ct, Cu, Cv, Cw, Cx, V.w, width, unc, cmpCells, Cy, Cz, C6, C7, C8, Da, undef, List.append_nil, List.nil_append, List.cons_append, Db, Dc, resultsV, result, tup, Dd, Bool.and_true, Bool.true_and, Bool.and_self, decide_true, decide_false, Bool.not_true, Bool.not_false, Bool.true_beq, Bool.false_beq, beq_iff_eq, reduceCtorEq, Nat.succ_eq_add_one, ptr0, Int.ofNat_eq_natCast, Int.ofNat_le, Int.ofNat_lt, Int.natCast_add, De, Df, Dg, Dh, Di, List.map_cons, List.map_nil, Dj, Heap.next_add, Heap.next_set, boxF, buildF, fill, bsliceF, fillRows, List.replicate_one, Dk, Dl, Dm, Dn, Dp, Dq, Dr, Ds, Dt, Du, Dw, Dx, Dy, Dz, D2, D3, D4, D5, D6, D7, D8, D9, Ea, Eb, Ec, appF, List.length_cons, List.length_nil]
        exact ⟨trivial, .inr trivial, _, rfl, rfl, y, Next.idle h (Turns.refl _ _)⟩
      · by_cases hj0 : j < 0
        · simp only [c24, e, hj0, Aa, Ab, Ad, Ae, Af, Ag, Ah, Ai, Aj, Ak, Al, Ao, Ap, Aq, Ar, Au, sO_p, sO_r, sO_m, sO_a, sO_c, Av, Aw, Ax, Ay, Az, sE_p, sE_r, sE_m, sE_a, sE_c, A0, A2, A3, A4, A5, A6, A7, A8, A9, Ba, Bb, Bc, Bd, Be, Bf, Bg, Bh, Bi, Bj, Bl, Bm, Bo, Bp, Bq, Br, Bs, Bt, Bu, Bv, Tr.getP_e, Bw, Bx, ↓reduceIte, Nat.reduceEqDiff, Nat.reduceAdd, Nat.reduceSub, Nat.reduceMul, Nat.reduceDiv, Nat.reduceMod, Nat.zero_add, Nat.add_zero, beq_self_eq_true, Nat.zero_ne_one, Nat.one_ne_zero, Nat.reduceLeDiff, Int.reduceBEq, constF, unF, unary,  pickF, nilcF, faddrF, fldF, iaddrSF, arF, Bz, B3, B4, B5, B6, B7, convF, extF, lenF, eqcF, eqnF, eqN, eqPtr, isNone, loadF, storeF, allocF, callF, gets, Option.map_some, Option.bind_some, B8, B9, Ca, Cb, Cc, nbeq, nble, Cd, Ce, Cf, Cg, Ch, Ci, Cj, Ck, Cl, Cm, Cn, Co, Cp, Cq, Cr, Cs, Ct, Cu, Cv, Cw, Cx, V.w, width, unc, cmpCells, Cy, Cz, C6, C7, C8, Da, undef, List.append_nil, List.nil_append, List.cons_append, Db, Dc, resultsV, result, tup, Dd, Bool.and_true, Bool.true_and, Bool.and_self, decide_true, decide_false, Bool.not_true, Bool.not_false, Bool.true_beq, Bool.false_beq, beq_iff_eq, reduceCtorEq, Nat.succ_eq_add_one, ptr0, Int.ofNat_eq_natCast, Int.ofNat_le, Int.ofNat_lt, Int.natCast_add, De, Df, Dg, Dh, Di, List.map_cons, List.map_nil, Dj, Heap.next_add, Heap.next_set, boxF, buildF, fill, bsliceF, fillRows, List.replicate_one, Dk, Dl, Dm, Dn, Dp, Dq, Dr, Ds, Dt, Du, Dw, Dx, Dy, Dz, D2, D3, D4, D5, D6, D7, D8, D9, Ea, Eb, Ec, appF, List.length_cons, List.length_nil]
          exact ⟨trivial, .inr trivial, _, rfl, rfl, y, Next.idle h (Turns.refl _ _)⟩
        · have hj1 : (64 : Int) ≤ j := by omega
          simp only [c24, e, hj0, hj1, Aa, Ab, Ad, Ae, Af, Ag, Ah, Ai, Aj, Ak, Al, Ao, Ap, Aq, Ar, Au, sO_p, sO_r, sO_m, sO_a, sO_c, Av, Aw, Ax, Ay, Az, sE_p, sE_r, sE_m, sE_a, sE_c, A0, A2, A3, A4, A5, A6, A7, A8, A9, Ba, Bb, Bc, Bd, Be, Bf, Bg, Bh, Bi, Bj, Bl, Bm, Bo, Bp, Bq, Br, Bs, Bt, Bu, Bv, Tr.getP_e, Bw, Bx, ↓reduceIte, Nat.reduceEqDiff, Nat.reduceAdd, Nat.reduceSub, Nat.reduceMul, Nat.reduceDiv, Nat.reduceMod, Nat.zero_add, Nat.add_zero, beq_self_eq_true, Nat.zero_ne_one, Nat.one_ne_zero, Nat.reduceLeDiff, Int.reduceBEq, constF, unF, unary,  pickF, nilcF, faddrF, fldF, iaddrSF, arF, Bz, B3, B4, B5, B6, B7, convF, extF, lenF, eqcF, eqnF, eqN, eqPtr, isNone, loadF, storeF, allocF, callF, gets, Option.map_some, Option.bind_some, B8, B9, Ca, Cb, Cc, nbeq, nble, Cd, Ce, Cf, Cg, Ch, Ci, Cj, Ck, Cl, Cm, Cn, Co, Cp, Cq, Cr, Cs, Ct, Cu, Cv, Cw, Cx, V.w, width, unc, cmpCells, Cy, Cz, C6, C7, C8, Da, undef, List.append_nil, List.nil_append, List.cons_append, Db, Dc, resultsV, result, tup, Dd, Bool.and_true, Bool.true_and, Bool.and_self, decide_true, decide_false, Bool.not_true, Bool.not_false, Bool.true_beq, Bool.false_beq, beq_iff_eq, reduceCtorEq, Nat.succ_eq_add_one, ptr0, Int.ofNat_eq_natCast, Int.ofNat_le, Int.ofNat_lt, Int.natCast_add, De, Df, Dg, Dh, Di, List.map_cons, List.map_nil, Dj, Heap.next_add, Heap.next_set, boxF, buildF, fill, bsliceF, fillRows, List.replicate_one, Dk, Dl, Dm, Dn, Dp, Dq, Dr, Ds, Dt, Du, Dw, Dx, Dy, Dz, D2, D3, D4, D5, D6, D7, D8, D9, Ea, Eb, Ec, appF, List.length_cons, List.length_nil]
          exact ⟨trivial, .inr trivial, _, rfl, rfl, y, Next.idle h (Turns.refl _ _)⟩
    exact key _ hc rfl
  · obtain ⟨q, rfl⟩ : ∃ q : Nat, j = (q : Int) := ⟨j.toNat, by omega⟩
    have hq : q < 64 := by omega
    rcases code_cases D n with ⟨k, rfl, hk, hd, hc⟩ | hc | hc
    · have e1 : rcode D (k : Int) (q : Int) = 0 := by unfold rcode; rw [if_neg (by rw [hc]; omega), hc]
      have e2 : D.rot (k : Int) (q : Int) by' = { D with S := D.S.set k (rotN D.S[k] q by') } := by
        unfold Dev.rot; rw [if_pos e1, Int.toNat_natCast, Int.toNat_natCast, getD_lt hk]
      rw [e1, e2]
      exact (rot_ok h hk hd hq hb lf m).mono (fun v H' hv => ⟨hv.1, _, hv.2⟩)
    · have e1 : rcode D n (q : Int) = 2 := if_pos (.inl hc)
      have e2 : D.rot n (q : Int) by' = D := if_neg (by rw [e1]; decide)
      rw [e1, e2]
      refine ret_call rfl c24_eq ?_
      obtain ⟨v, H1, e, rfl, e3⟩ := asked_code h hS n lf m
      subst e3
      rw [hc] at e
      simp only [c24, e, Aa, Ab, Ad, Ae, Af, Ag, Ah, Ai, Aj, Ak, Al, Ao, Ap, Aq, Ar, Au, sO_p, sO_r, sO_m, sO_a, sO_c, Av, Aw, Ax, Ay, Az, sE_p, sE_r, sE_m, sE_a, sE_c, A0, A2, A3, A4, A5, A6, A7, A8, A9, Ba, Bb, Bc, Bd, Be, Bf, Bg, Bh, Bi, Bj, Bl, Bm, Bo, Bp, Bq, Br, Bs, Bt, Bu, Bv, Tr.getP_e, Bw, Bx, ↓reduceIte, Nat.reduceEqDiff, Nat.reduceAdd, Nat.reduceSub, Nat.reduceMul, Nat.reduceDiv, Nat.reduceMod, Nat.zero_add, Nat.add_zero, beq_self_eq_true, Nat.zero_ne_one, Nat.one_ne_zero, Nat.reduceLeDiff, Int.reduceBEq, constF, unF, unary,  pickF, nilcF, faddrF, fldF, iaddrSF, arF, Bz, B3, B4, B5, B6, B7, convF, extF, lenF, eqcF, eqnF, eqN, eqPtr, isNone, loadF, storeF, allocF, callF, gets, Option.map_some, Option.bind_some, B8, B9, Ca, Cb, Cc, nbeq, nble, Cd, Ce, Cf, Cg, Ch, Ci, Cj, Ck, Cl, Cm, Cn, Co, Cp, Cq, Cr, Cs, Ct, Cu, Cv, Cw, Cx, V.w, width, unc, cmpCells, Cy, Cz, C6, C7, C8, Da, undef, List.append_nil, List.nil_append, List.cons_append, Db, Dc, resultsV, result, tup, Dd, Bool.and_true, Bool.true_and, Bool.and_self, decide_true, decide_false, Bool.not_true, Bool.not_false, Bool.true_beq, Bool.false_beq, beq_iff_eq, reduceCtorEq, Nat.succ_eq_add_one, ptr0, Int.ofNat_eq_natCast, Int.ofNat_le, Int.ofNat_lt, Int.natCast_add, De, Df, Dg, Dh, Di, List.map_cons, List.map_nil, Dj, Heap.next_add, Heap.next_set, boxF, buildF, fill, bsliceF, fillRows, List.replicate_one, Dk, Dl, Dm, Dn, Dp, Dq, Dr, Ds, Dt, Du, Dw, Dx, Dy, Dz, D2, D3, D4, D5, D6, D7, D8, D9, Ea, Eb, Ec, appF, List.length_cons, List.length_nil]
      exact ⟨trivial, .inr trivial, _, rfl, rfl, y, Next.idle h (Turns.refl _ _)⟩
    · have e1 : rcode D n (q : Int) = 9 := by unfold rcode; rw [if_neg (by rw [hc]; omega), hc]
      have e2 : D.rot n (q : Int) by' = D := if_neg (by rw [e1]; decide)
      rw [e1, e2]
      have g1 : ¬ ((q : Int) < 0) := by omega
      have g2 : ¬ ((64 : Int) ≤ (q : Int)) := by omega
      refine ret_call rfl c24_eq ?_
      obtain ⟨v, H1, e, rfl, e3⟩ := asked_code h hS n lf m
      subst e3
      rw [hc] at e
      simp only [c24, e, g1, g2, Aa, Ab, Ad, Ae, Af, Ag, Ah, Ai, Aj, Ak, Al, Ao, Ap, Aq, Ar, Au, sO_p, sO_r, sO_m, sO_a, sO_c, Av, Aw, Ax, Ay, Az, sE_p, sE_r, sE_m, sE_a, sE_c, A0, A2, A3, A4, A5, A6, A7, A8, A9, Ba, Bb, Bc, Bd, Be, Bf, Bg, Bh, Bi, Bj, Bl, Bm, Bo, Bp, Bq, Br, Bs, Bt, Bu, Bv, Tr.getP_e, Bw, Bx, ↓reduceIte, Nat.reduceEqDiff, Nat.reduceAdd, Nat.reduceSub, Nat.reduceMul, Nat.reduceDiv, Nat.reduceMod, Nat.zero_add, Nat.add_zero, beq_self_eq_true, Nat.zero_ne_one, Nat.one_ne_zero, Nat.reduceLeDiff, Int.reduceBEq, constF, unF, unary,  pickF, nilcF, faddrF, fldF, iaddrSF, arF, Bz, B3, B4, B5, B6, B7, convF, extF, lenF, eqcF, eqnF, eqN, eqPtr, isNone, loadF, storeF, allocF, callF, gets, Option.map_some, Option.bind_some, B8, B9, Ca, Cb, Cc, nbeq, nble, Cd, Ce, Cf, Cg, Ch, Ci, Cj, Ck, Cl, Cm, Cn, Co, Cp, Cq, Cr, Cs, Ct, Cu, Cv, Cw, Cx, V.w, width, unc, cmpCells, Cy, Cz, C6, C7, C8, Da, undef, List.append_nil, List.nil_append, List.cons_append, Db, Dc, resultsV, result, tup, Dd, Bool.and_true, Bool.true_and, Bool.and_self, decide_true, decide_false, Bool.not_true, Bool.not_false, Bool.true_beq, Bool.false_beq, beq_iff_eq, reduceCtorEq, Nat.succ_eq_add_one, ptr0, Int.ofNat_eq_natCast, Int.ofNat_le, Int.ofNat_lt, Int.natCast_add, De, Df, Dg, Dh, Di, List.map_cons, List.map_nil, Dj, Heap.next_add, Heap.next_set, boxF, buildF, fill, bsliceF, fillRows, List.replicate_one, Dk, Dl, Dm, Dn, Dp, Dq, Dr, Ds, Dt, Du, Dw, Dx, Dy, Dz, D2, D3, D4, D5, D6, D7, D8, D9, Ea, Eb, Ec, appF, List.length_cons, List.length_nil]
      exact ⟨trivial, .inr trivial, _, rfl, rfl, y, Next.idle h (Turns.refl _ _)⟩

theorem put_own2 (a c d v : V) (ha : a.asBlk = none) (hc : c.asBlk = none) (hd : d.asBlk = none) (hv : v.flat = true) : put [a, c, d] 2 [v] = some [a, c, v] := by
  rw [show 2 = 1 + 1 from rfl, put_miss _ _ _ _ _ ha, show 1 = 0 + 1 from rfl, put_miss _ _ _ _ _ hc, put_hit _ _ _ hd hv]; rfl
theorem storeDead {H : Heap} {b : Bk} {y : Lay} {D : Dev} (h : DevAt H b y D) (x : Bool) : storeAt H ⟨b, 2⟩ [.bool x] = some (H.set b (.rows false 3 [[.slice (some ⟨y.s, 0⟩) D.S.length D.S.length y.so, .slice y.p D.L.length D.L.length y.o, .bool x]])) :=
  storeAt_eq h.own (r := [.slice (some ⟨y.s, 0⟩) D.S.length D.S.length y.so, .slice y.p D.L.length D.L.length y.o, .bool D.dead]) rfl (put_own2 _ _ _ _ rfl rfl rfl rfl)
theorem DevAt.kill {H : Heap} {b : Bk} {y : Lay} {D : Dev} (h : DevAt H b y D) (x : Bool) : DevAt (H.set b (.rows false 3 [[.slice (some ⟨y.s, 0⟩) D.S.length D.S.length y.so, .slice y.p D.L.length D.L.length y.o, .bool x]])) b y { D with dead := x } := by
  refine ⟨?_, ?_, h.nil, fun e => ⟨(h.loose e).1, (h.loose e).2.1, ?_⟩, ?_, h.ne⟩
  · rw [Heap.get_set, if_pos rfl]
  · rw [Heap.get_set, if_neg (Ne.symm h.ne.1)]; exact h.sure
  · rw [Heap.get_set, if_neg (Ne.symm (h.ne.2 e).1)]; exact (h.loose e).2.2
  · simpa using h.old

theorem fail_next {H : Heap} {b : Bk} {y : Lay} {D : Dev} (h : DevAt H b y D) : ∃ o1 o2, storeAt H ⟨b, 2⟩ [.bool true] = some (H.set b o1) ∧ storeAt (H.set b o1) ⟨b, 1⟩ [.slice none 0 0 0] = some ((H.set b o1).set b o2) ∧ Next H b y D ((H.set b o1).set b o2) { y with p := none, o := 0 } D.fail :=
  ⟨_, _, storeDead h true, storeNil (h.kill true), (h.kill true).clear true, (Turns.set (.inl rfl) _ _).setm (.inl rfl) _, rfl, fun e => absurd rfl e⟩

theorem fail_ok {H : Heap} {b : Bk} {y : Lay} {D : Dev} (h : DevAt H b y D) (hS : D.S ≠ []) (lf m : Nat) : ret (callS Try.prog S0 lf (m + 2) 42 [.ptr (some ⟨b, 0⟩)] H) fun v H' => v = .int .i64 0 ∧ ∃ y', Next H b y D H' y' D.fail := by
  refine ret_call rfl c42_eq ?_
  obtain ⟨v, H1, e, rfl, e1⟩ := none_ret h hS lf m
  subst e1
  obtain ⟨o1, o2, s1, s2, hN⟩ := fail_next h
  simp only [c42, e, s1, s2, Aa, Ab, Ad, Ae, Af, Ag, Ah, Ai, Aj, Ak, Al, Ao, Ap, Aq, Ar, Au, sO_p, sO_r, sO_m, sO_a, sO_c, Av, Aw, Ax, Ay, Az, sE_p, sE_r, sE_m, sE_a, sE_c, A0, A2, A3, A4, A5, A6, A7, A8, A9, Ba, Bb, Bc, Bd, Be, Bf, Bg, Bh, Bi, Bj, Bl, Bm, Bo, Bp, Bq, Br, Bs, Bt, Bu, Bv, Tr.getP_e, Bw, Bx, ↓reduceIte, Nat.reduceEqDiff, Nat.reduceAdd, Nat.reduceSub, Nat.reduceMul, Nat.reduceDiv, Nat.reduceMod, Nat.zero_add, Nat.add_zero, beq_self_eq_true, Nat.zero_ne_one, Nat.one_ne_zero, Nat.reduceLeDiff, Int.reduceBEq, constF, unF, unary,  pickF, nilcF, faddrF, fldF, iaddrSF, arF, Bz, B3, B4, B5, B6, B7, convF, extF, lenF, eqcF, eqnF, eqN, eqPtr, isNone, loadF, storeF, allocF, callF, gets, Option.map_some, Option.bind_some, B8, B9, Ca, Cb, Cc, nbeq, nble, Cd, Ce, Cf, Cg, Ch, Ci, Cj, Ck, Cl, Cm, Cn, Co, Cp, Cq, Cr, Cs, Ct, Cu, Cv, Cw, Cx, V.w, width, unc, cmpCells, Cy, Cz, C6, C7, C8, Da, undef, List.append_nil, List.nil_append, List.cons_append, Db, Dc, resultsV, result, tup, Dd, Bool.and_true, Bool.true_and, Bool.and_self, decide_true, decide_false, Bool.not_true, Bool.not_false, Bool.true_beq, Bool.false_beq, beq_iff_eq, reduceCtorEq, Nat.succ_eq_add_one, ptr0, Int.ofNat_eq_natCast, Int.ofNat_le, Int.ofNat_lt, Int.natCast_add, De, Df, Dg, Dh, Di, List.map_cons, List.map_nil, Dj, Heap.next_add, Heap.next_set, boxF, buildF, fill, bsliceF, fillRows, List.replicate_one, Dk, Dl, Dm, Dn, Dp, Dq, Dr, Ds, Dt, Du, Dw, Dx, Dy, Dz, D2, D3, D4, D5, D6, D7, D8, D9, Ea, Eb, Ec, appF, List.length_cons, List.length_nil]
  exact ⟨trivial, .inr trivial, _, rfl, rfl, _, hN⟩

theorem dead_ok {H : Heap} {b : Bk} {y : Lay} {D : Dev} (h : DevAt H b y D) (hS : D.S ≠ []) (lf m : Nat) : ret (callS Try.prog S0 lf (m + 2) 82 [.ptr (some ⟨b, 0⟩)] H) fun v H' => v = .bool D.dead ∧ H' = H := by
  have l2 := load2 h
  refine ret_call rfl c82_eq ?_
  obtain ⟨v, H1, e, rfl, rfl⟩ := none_ret h hS lf m
  simp only [c82, e, l2, Aa, Ab, Ad, Ae, Af, Ag, Ah, Ai, Aj, Ak, Al, Ao, Ap, Aq, Ar, Au, sO_p, sO_r, sO_m, sO_a, sO_c, Av, Aw, Ax, Ay, Az, sE_p, sE_r, sE_m, sE_a, sE_c, A0, A2, A3, A4, A5, A6, A7, A8, A9, Ba, Bb, Bc, Bd, Be, Bf, Bg, Bh, Bi, Bj, Bl, Bm, Bo, Bp, Bq, Br, Bs, Bt, Bu, Bv, Tr.getP_e, Bw, Bx, ↓reduceIte, Nat.reduceEqDiff, Nat.reduceAdd, Nat.reduceSub, Nat.reduceMul, Nat.reduceDiv, Nat.reduceMod, Nat.zero_add, Nat.add_zero, beq_self_eq_true, Nat.zero_ne_one, Nat.one_ne_zero, Nat.reduceLeDiff, Int.reduceBEq, constF, unF, unary,  pickF, nilcF, faddrF, fldF, iaddrSF, arF, Bz, B3, B4, B5, B6, B7, convF, extF, lenF, eqcF, eqnF, eqN, eqPtr, isNone, loadF, storeF, allocF, callF, gets, Option.map_some, Option.bind_some, B8, B9, Ca, Cb, Cc, nbeq, nble, Cd, Ce, Cf, Cg, Ch, Ci, Cj, Ck, Cl, Cm, Cn, Co, Cp, Cq, Cr, Cs, Ct, Cu, Cv, Cw, Cx, V.w, width, unc, cmpCells, Cy, Cz, C6, C7, C8, Da, undef, List.append_nil, List.nil_append, List.cons_append, Db, Dc, resultsV, result, tup, Dd, Bool.and_true, Bool.true_and, Bool.and_self, decide_true, decide_false, Bool.not_true, Bool.not_false, Bool.true_beq, Bool.false_beq, beq_iff_eq, reduceCtorEq, Nat.succ_eq_add_one, ptr0, Int.ofNat_eq_natCast, Int.ofNat_le, Int.ofNat_lt, Int.natCast_add, De, Df, Dg, Dh, Di, List.map_cons, List.map_nil, Dj, Heap.next_add, Heap.next_set, boxF, buildF, fill, bsliceF, fillRows, List.replicate_one, Dk, Dl, Dm, Dn, Dp, Dq, Dr, Ds, Dt, Du, Dw, Dx, Dy, Dz, D2, D3, D4, D5, D6, D7, D8, D9, Ea, Eb, Ec, appF, List.length_cons, List.length_nil]
  simp

theorem sectors_ok {H : Heap} {b : Bk} {y : Lay} {D : Dev} (h : DevAt H b y D) (hS : D.S ≠ []) (lf m : Nat) : ret (callS Try.prog S0 lf (m + 2) 81 [.ptr (some ⟨b, 0⟩)] H) fun v H' => v = .int .i64 (D.S.length : Int) ∧ H' = H := by
  have l0 := load0 h
  refine ret_call rfl c81_eq ?_
  obtain ⟨v, H1, e, rfl, rfl⟩ := none_ret h hS lf m
  simp only [c81, e, l0, Aa, Ab, Ad, Ae, Af, Ag, Ah, Ai, Aj, Ak, Al, Ao, Ap, Aq, Ar, Au, sO_p, sO_r, sO_m, sO_a, sO_c, Av, Aw, Ax, Ay, Az, sE_p, sE_r, sE_m, sE_a, sE_c, A0, A2, A3, A4, A5, A6, A7, A8, A9, Ba, Bb, Bc, Bd, Be, Bf, Bg, Bh, Bi, Bj, Bl, Bm, Bo, Bp, Bq, Br, Bs, Bt, Bu, Bv, Tr.getP_e, Bw, Bx, ↓reduceIte, Nat.reduceEqDiff, Nat.reduceAdd, Nat.reduceSub, Nat.reduceMul, Nat.reduceDiv, Nat.reduceMod, Nat.zero_add, Nat.add_zero, beq_self_eq_true, Nat.zero_ne_one, Nat.one_ne_zero, Nat.reduceLeDiff, Int.reduceBEq, constF, unF, unary,  pickF, nilcF, faddrF, fldF, iaddrSF, arF, Bz, B3, B4, B5, B6, B7, convF, extF, lenF, eqcF, eqnF, eqN, eqPtr, isNone, loadF, storeF, allocF, callF, gets, Option.map_some, Option.bind_some, B8, B9, Ca, Cb, Cc, nbeq, nble, Cd, Ce, Cf, Cg, Ch, Ci, Cj, Ck, Cl, Cm, Cn, Co, Cp, Cq, Cr, Cs, Ct, Cu, Cv, Cw, Cx, V.w, width, unc, cmpCells, Cy, Cz, C6, C7, C8, Da, undef, List.append_nil, List.nil_append, List.cons_append, Db, Dc, resultsV, result, tup, Dd, Bool.and_true, Bool.true_and, Bool.and_self, decide_true, decide_false, Bool.not_true, Bool.not_false, Bool.true_beq, Bool.false_beq, beq_iff_eq, reduceCtorEq, Nat.succ_eq_add_one, ptr0, Int.ofNat_eq_natCast, Int.ofNat_le, Int.ofNat_lt, Int.natCast_add, De, Df, Dg, Dh, Di, List.map_cons, List.map_nil, Dj, Heap.next_add, Heap.next_set, boxF, buildF, fill, bsliceF, fillRows, List.replicate_one, Dk, Dl, Dm, Dn, Dp, Dq, Dr, Ds, Dt, Du, Dw, Dx, Dy, Dz, D2, D3, D4, D5, D6, D7, D8, D9, Ea, Eb, Ec, appF, List.length_cons, List.length_nil]
  simp

end Go.Proofs.Ytcelngepfdchiaa.disk

