/-
  A bench in the machine's heap: a step; writing, flushing.
-/
import Derived.Test.YtcelngepfdchiaaBench
set_option linter.unusedVariables false
set_option linter.unusedSimpArgs false
set_option maxRecDepth 10000
namespace Go.Proofs.Ytcelngepfdchiaa.disk
open Go.Am

theorem load1_of {H : Heap} {c : Bk} {x : V} (h : H.get c = some (.rows false 1 [[x]])) (hx : x.asBlk = none) : loadAt H ⟨c, 0⟩ 1 = some [x] := by
  rw [loadAt_eq h (r := [x]) rfl]; exact cut_hit _ _ hx

def arLess (ar : Int) : Int := if ar = 0 then 0 else ar - 1

theorem bstep_cut {H : Heap} {b ds : Bk} {so : Nat} {l : List Dv} {st : Int} {dk : Bool} (h : BenchAt H b ds so l st 1 dk) (f : V) (lf m : Nat) :
    callS Try.prog S0 lf (m + 1) 84 [.ptr (some ⟨b, 0⟩), f] H = some (.v (.int .i64 8), H.set b (.rows false 4 [[.slice (some ⟨ds, 0⟩) l.length l.length so, .int .i64 st, .int .i64 1, .bool true]])) := by
  have l2 := bload2 h
  have s3 := bstore3 h true
  obtain ⟨v, H', e, rfl, rfl⟩ : ret (callS Try.prog S0 lf (m + 1) 84 [.ptr (some ⟨b, 0⟩), f] H) fun v H' => v = .int .i64 8 ∧ H' = H.set b (.rows false 4 [[.slice (some ⟨ds, 0⟩) l.length l.length so, .int .i64 st, .int .i64 1, .bool true]]) := by
    refine ret_call rfl c84_eq ?_
    simp only [c84, l2, s3, Aa, Ab, Ad, Ae, Af, Ag, Ah, Ai, Aj, Ak, Al, Ao, Ap, Aq, Ar, Au, sO_p, sO_r, sO_m, sO_a, sO_c, Av, Aw, Ax, Ay, Az, sE_p, sE_r, sE_m, sE_a, sE_c, A0, A2, A3, A4, A5, A6, A7, A8, A9, Ba, Bb, Bc, Bd, Be, Bf, Bg, Bh, Bi, Bj, Bl, Bm, Bo, Bp, Bq, Br, Bs, Bt, Bu, Bv, Tr.getP_e, Bw, Bx, ↓reduceIte, Nat.reduceEqDiff, Nat.reduceAdd, Nat.reduceSub, Nat.reduceMul, Nat.reduceDiv, Nat.reduceMod, Nat.zero_add, Nat.add_zero, beq_self_eq_true, Nat.zero_ne_one, Nat.one_ne_zero, Nat.reduceLeDiff, Int.reduceBEq, constF, unF, unary,  pickF, nilcF, faddrF, fldF, iaddrSF, arF, Bz, B3, B4, B5, B6, B7, convF, extF, lenF, eqcF, eqnF, eqN, eqPtr, isNone, loadF, storeF, allocF, callF, gets, Option.map_some, Option.bind_some, B8, B9, Ca, Cb, Cc, nbeq, nble, Cd, Ce, Cf, Cg, Ch, Ci, Cj, Ck, Cl, Cm, Cn, Co, Cp, Cq, Cr, Cs, Ct, Cu, Cv, Cw, Cx, V.w, width, unc, cmpCells, Cy, Cz, C6, C7, C8, Da, undef, List.append_nil, List.nil_append, List.cons_append, Db, Dc, resultsV, result, tup, Dd, Bool.and_true, Bool.true_and, Bool.and_self, decide_true, decide_false, Bool.not_true, Bool.not_false, Bool.true_beq, Bool.false_beq, beq_iff_eq, reduceCtorEq, Nat.succ_eq_add_one, ptr0, Int.ofNat_eq_natCast, Int.ofNat_le, Int.ofNat_lt, Int.natCast_add, De, Df, Dg, Dh, Di, List.map_cons, List.map_nil, Dj, Heap.next_add, Heap.next_set, boxF, buildF, fill, bsliceF, fillRows, List.replicate_one, Dk, Dl, Dm, Dn, Dp, Dq, Dr, Ds, Dt, Du, Dw, Dx, Dy, Dz, D2, D3, D4, D5, D6, D7, D8, D9, Ea, Eb, Ec, appF, List.length_cons, List.length_nil]
    simp
  exact e

theorem bstep_go {H : Heap} {b ds : Bk} {so : Nat} {l : List Dv} {st ar : Int} {dk : Bool} (h : BenchAt H b ds so l st ar dk) (h1 : ar ≠ 1) (ha : 0 ≤ ar ∧ ar ≤ 9223372036854775807) (hs : 0 ≤ st ∧ st ≤ 100000) (lf m : Nat) :
    ∃ H1, BenchAt H1 b ds so l (st + 1) (arLess ar) dk ∧ Turns (fun c => c = b) H H1 ∧ ∀ id first cap v H', callS Try.prog S0 lf m id (first ++ cap) H1 = some (.v v, H') → callS Try.prog S0 lf (m + 1) 84 [.ptr (some ⟨b, 0⟩), .func (.func id) first cap] H = some (.v v, H') := by
  have l2 := bload2 h
  have z1 : (ar == 1) = false := by simp; exact h1
  have w1 : IntKind.i64.wrap (st + 1) = st + 1 := wrap_i64 (by omega)
  by_cases h0 : ar = 0
  · subst h0
    have l1 := bload1 h
    have s1 := bstore1 h (st + 1)
    refine ⟨_, h.put (st + 1) 0 dk, Turns.set (X := fun c => c = b) rfl _ _, fun id first cap v H' e => ?_⟩
    obtain ⟨v', H'', e', rfl, rfl⟩ : ret (callS Try.prog S0 lf (m + 1) 84 [.ptr (some ⟨b, 0⟩), .func (.func id) first cap] H) fun v' H'' => v' = v ∧ H'' = H' := by
      refine ret_call rfl c84_eq ?_
      simp only [c84, l2, l1, s1, w1, e, Aa, Ab, Ad, Ae, Af, Ag, Ah, Ai, Aj, Ak, Al, Ao, Ap, Aq, Ar, Au, sO_p, sO_r, sO_m, sO_a, sO_c, Av, Aw, Ax, Ay, Az, sE_p, sE_r, sE_m, sE_a, sE_c, A0, A2, A3, A4, A5, A6, A7, A8, A9, Ba, Bb, Bc, Bd, Be, Bf, Bg, Bh, Bi, Bj, Bl, Bm, Bo, Bp, Bq, Br, Bs, Bt, Bu, Bv, Tr.getP_e, Bw, Bx, ↓reduceIte, Nat.reduceEqDiff, Nat.reduceAdd, Nat.reduceSub, Nat.reduceMul, Nat.reduceDiv, Nat.reduceMod, Nat.zero_add, Nat.add_zero, beq_self_eq_true, Nat.zero_ne_one, Nat.one_ne_zero, Nat.reduceLeDiff, Int.reduceBEq, constF, unF, unary,  pickF, nilcF, faddrF, fldF, iaddrSF, arF, Bz, B3, B4, B5, B6, B7, convF, extF, lenF, eqcF, eqnF, eqN, eqPtr, isNone, loadF, storeF, allocF, callF, gets, Option.map_some, Option.bind_some, B8, B9, Ca, Cb, Cc, nbeq, nble, Cd, Ce, Cf, Cg, Ch, Ci, Cj, Ck, Cl, Cm, Cn, Co, Cp, Cq, Cr, Cs, Ct, Cu, Cv, Cw, Cx, V.w, width, unc, cmpCells, Cy, Cz, C6, C7, C8, Da, undef, List.append_nil, List.nil_append, List.cons_append, Db, Dc, resultsV, result, tup, Dd, Bool.and_true, Bool.true_and, Bool.and_self, decide_true, decide_false, Bool.not_true, Bool.not_false, Bool.true_beq, Bool.false_beq, beq_iff_eq, reduceCtorEq, Nat.succ_eq_add_one, ptr0, Int.ofNat_eq_natCast, Int.ofNat_le, Int.ofNat_lt, Int.natCast_add, De, Df, Dg, Dh, Di, List.map_cons, List.map_nil, Dj, Heap.next_add, Heap.next_set, boxF, buildF, fill, bsliceF, fillRows, List.replicate_one, Dk, Dl, Dm, Dn, Dp, Dq, Dr, Ds, Dt, Du, Dw, Dx, Dy, Dz, D2, D3, D4, D5, D6, D7, D8, D9, Ea, Eb, Ec, appF, List.length_cons, List.length_nil]
      simp
    exact e'
  · have z0 : (ar == 0) = false := by simp; exact h0
    have w2 : IntKind.i64.wrap (ar - 1) = ar - 1 := wrap_i64 (by omega)
    have s2 := bstore2 h (ar - 1)
    have hm := h.put st (ar - 1) dk
    have l1 := bload1 hm
    have s1 := bstore1 hm (st + 1)
    have hal : arLess ar = ar - 1 := if_neg h0
    refine ⟨_, by rw [hal]; exact hm.put (st + 1) (ar - 1) dk, (Turns.set (X := fun c => c = b) rfl _ _).setm rfl _, fun id first cap v H' e => ?_⟩
    obtain ⟨v', H'', e', rfl, rfl⟩ : ret (callS Try.prog S0 lf (m + 1) 84 [.ptr (some ⟨b, 0⟩), .func (.func id) first cap] H) fun v' H'' => v' = v ∧ H'' = H' := by
      refine ret_call rfl c84_eq ?_
      simp only [c84, l2, z0, z1, w2, s2, l1, s1, w1, e, Aa, Ab, Ad, Ae, Af, Ag, Ah, Ai, Aj, Ak, Al, Ao, Ap, Aq, Ar, Au, sO_p, sO_r, sO_m, sO_a, sO_c, Av, Aw, Ax, Ay, Az, sE_p, sE_r, sE_m, sE_a, sE_c, A0, A2, A3, A4, A5, A6, A7, A8, A9, Ba, Bb, Bc, Bd, Be, Bf, Bg, Bh, Bi, Bj, Bl, Bm, Bo, Bp, Bq, Br, Bs, Bt, Bu, Bv, Tr.getP_e, Bw, Bx, ↓reduceIte, Nat.reduceEqDiff, Nat.reduceAdd, Nat.reduceSub, Nat.reduceMul, Nat.reduceDiv, Nat.reduceMod, Nat.zero_add, Nat.add_zero, beq_self_eq_true, Nat.zero_ne_one, Nat.one_ne_zero, Nat.reduceLeDiff, Int.reduceBEq, constF, unF, unary,  pickF, nilcF, faddrF, fldF, iaddrSF, arF, Bz, B3, B4, B5, B6, B7, convF, extF, lenF, eqcF, eqnF, eqN, eqPtr, isNone, loadF, storeF, allocF, callF, gets, Option.map_some, Option.bind_some, B8, B9, Ca, Cb, Cc, nbeq, nble, Cd, Ce, Cf, Cg, Ch, Ci, Cj, Ck, Cl, Cm, Cn, Co, Cp, Cq, Cr, Cs, Ct, Cu, Cv, Cw, Cx, V.w, width, unc, cmpCells, Cy, Cz, C6, C7, C8, Da, undef, List.append_nil, List.nil_append, List.cons_append, Db, Dc, resultsV, result, tup, Dd, Bool.and_true, Bool.true_and, Bool.and_self, decide_true, decide_false, Bool.not_true, Bool.not_false, Bool.true_beq, Bool.false_beq, beq_iff_eq, reduceCtorEq, Nat.succ_eq_add_one, ptr0, Int.ofNat_eq_natCast, Int.ofNat_le, Int.ofNat_lt, Int.natCast_add, De, Df, Dg, Dh, Di, List.map_cons, List.map_nil, Dj, Heap.next_add, Heap.next_set, boxF, buildF, fill, bsliceF, fillRows, List.replicate_one, Dk, Dl, Dm, Dn, Dp, Dq, Dr, Ds, Dt, Du, Dw, Dx, Dy, Dz, D2, D3, D4, D5, D6, D7, D8, D9, Ea, Eb, Ec, appF, List.length_cons, List.length_nil]
      simp
    exact e'

theorem wclos {K : Heap} {b ds : Bk} {so : Nat} {l : List Dv} {st ar : Int} {dk : Bool} (h : BenchAt K b ds so l st ar dk) {i : Nat} (hi : i < l.length) (hS : l[i].D.S ≠ []) (hmax : l[i].D.L.length < 1000000) (n : Int) (B : Nat) {c0 c1 c2 c3 : Bk}
    (g0 : K.get c0 = some (.rows false 1 [[.ptr (some ⟨b, 0⟩)]])) (g1 : K.get c1 = some (.rows false 1 [[.int .i64 (i : Int)]])) (g2 : K.get c2 = some (.rows false 1 [[.int .i64 n]])) (g3 : K.get c3 = some (.rows false 64 [[.blk B]])) (lf m : Nat) :
    ret (callS Try.prog S0 lf (m + 4) 85 [.ptr (some ⟨c0, 0⟩), .ptr (some ⟨c1, 0⟩), .ptr (some ⟨c2, 0⟩), .ptr (some ⟨c3, 0⟩)] K) fun v H' => v = .int .i64 (code l[i].D n) ∧ ∃ y', Next K l[i].b l[i].y l[i].D H' y' (l[i].D.write n B) := by
  have d0 := load1_of g0 rfl
  have d1 := load1_of g1 rfl
  have d2 := load1_of g2 rfl
  have d3 := load_of g3
  have l0 := bload0 h
  have lp := bloadP h hi
  have hi1 : i + 1 ≤ l.length := hi
  obtain ⟨v, H1, e, rfl, y', hN⟩ := write_all (h.dev i hi) hS hmax n B lf m
  refine ret_call rfl c85_eq ?_
  simp only [c85, d0, d1, d2, d3, l0, lp, hi1, e, Nat.mul_one, Aa, Ab, Ad, Ae, Af, Ag, Ah, Ai, Aj, Ak, Al, Ao, Ap, Aq, Ar, Au, sO_p, sO_r, sO_m, sO_a, sO_c, Av, Aw, Ax, Ay, Az, sE_p, sE_r, sE_m, sE_a, sE_c, A0, A2, A3, A4, A5, A6, A7, A8, A9, Ba, Bb, Bc, Bd, Be, Bf, Bg, Bh, Bi, Bj, Bl, Bm, Bo, Bp, Bq, Br, Bs, Bt, Bu, Bv, Tr.getP_e, Bw, Bx, ↓reduceIte, Nat.reduceEqDiff, Nat.reduceAdd, Nat.reduceSub, Nat.reduceMul, Nat.reduceDiv, Nat.reduceMod, Nat.zero_add, Nat.add_zero, beq_self_eq_true, Nat.zero_ne_one, Nat.one_ne_zero, Nat.reduceLeDiff, Int.reduceBEq, constF, unF, unary,  pickF, nilcF, faddrF, fldF, iaddrSF, arF, Bz, B3, B4, B5, B6, B7, convF, extF, lenF, eqcF, eqnF, eqN, eqPtr, isNone, loadF, storeF, allocF, callF, gets, Option.map_some, Option.bind_some, B8, B9, Ca, Cb, Cc, nbeq, nble, Cd, Ce, Cf, Cg, Ch, Ci, Cj, Ck, Cl, Cm, Cn, Co, Cp, Cq, Cr, Cs, Ct, Cu, Cv, Cw, Cx, V.w, width, unc, cmpCells, Cy, Cz, C6, C7, C8, Da, undef, List.append_nil, List.nil_append, List.cons_append, Db, Dc, resultsV, result, tup, Dd, Bool.and_true, Bool.true_and, Bool.and_self, decide_true, decide_false, Bool.not_true, Bool.not_false, Bool.true_beq, Bool.false_beq, beq_iff_eq, reduceCtorEq, Nat.succ_eq_add_one, ptr0, Int.ofNat_eq_natCast, Int.ofNat_le, Int.ofNat_lt, Int.natCast_add, De, Df, Dg, Dh, Di, List.map_cons, List.map_nil, Dj, Heap.next_add, Heap.next_set, boxF, buildF, fill, bsliceF, fillRows, List.replicate_one, Dk, Dl, Dm, Dn, Dp, Dq, Dr, Ds, Dt, Du, Dw, Dx, Dy, Dz, D2, D3, D4, D5, D6, D7, D8, D9, Ea, Eb, Ec, appF, List.length_cons, List.length_nil]
  rw [endD_ok (by kernel_rfl) (by kernel_rfl)]
  simp only [Aa, Ab, Ad, Ae, Af, Ag, Ah, Ai, Aj, Ak, Al, Ao, Ap, Aq, Ar, Au, sO_p, sO_r, sO_m, sO_a, sO_c, Av, Aw, Ax, Ay, Az, sE_p, sE_r, sE_m, sE_a, sE_c, A0, A2, A3, A4, A5, A6, A7, A8, A9, Ba, Bb, Bc, Bd, Be, Bf, Bg, Bh, Bi, Bj, Bl, Bm, Bo, Bp, Bq, Br, Bs, Bt, Bu, Bv, Tr.getP_e, Bw, Bx, ↓reduceIte, Nat.reduceEqDiff, Nat.reduceAdd, Nat.reduceSub, Nat.reduceMul, Nat.reduceDiv, Nat.reduceMod, Nat.zero_add, Nat.add_zero, beq_self_eq_true, Nat.zero_ne_one, Nat.one_ne_zero, Nat.reduceLeDiff, Int.reduceBEq, constF, unF, unary,  pickF, nilcF, faddrF, fldF, iaddrSF, arF, Bz, B3, B4, B5, B6, B7, convF, extF, lenF, eqcF, eqnF, eqN, eqPtr, isNone, loadF, storeF, allocF, callF, gets, Option.map_some, Option.bind_some, B8, B9, Ca, Cb, Cc, nbeq, nble, Cd, Ce, Cf, Cg, Ch, Ci, Cj, Ck, Cl, Cm, Cn, Co, Cp, Cq, Cr, Cs, Ct, Cu, Cv, Cw, Cx, V.w, width, unc, cmpCells, Cy, Cz, C6, C7, C8, Da, undef, List.append_nil, List.nil_append, List.cons_append, Db, Dc, resultsV, result, tup, Dd, Bool.and_true, Bool.true_and, Bool.and_self, decide_true, decide_false, Bool.not_true, Bool.not_false, Bool.true_beq, Bool.false_beq, beq_iff_eq, reduceCtorEq, Nat.succ_eq_add_one, ptr0, Int.ofNat_eq_natCast, Int.ofNat_le, Int.ofNat_lt, Int.natCast_add, De, Df, Dg, Dh, Di, List.map_cons, List.map_nil, Dj, Heap.next_add, Heap.next_set, boxF, buildF, fill, bsliceF, fillRows, List.replicate_one, Dk, Dl, Dm, Dn, Dp, Dq, Dr, Ds, Dt, Du, Dw, Dx, Dy, Dz, D2, D3, D4, D5, D6, D7, D8, D9, Ea, Eb, Ec, appF, List.length_cons, List.length_nil]
  exact ⟨trivial, .inr trivial, _, rfl, rfl, y', hN⟩

/-- what a step of a device did to the bench -/
structure Did (H : Heap) (b ds : Bk) (so : Nat) (l : List Dv) (st ar : Int) (i : Nat) (hi : i < l.length) (D' : Dev) (H' : Heap) (y' : Lay) : Prop where
  at' : BenchAt H' b ds so (l.set i ⟨l[i].b, y', D'⟩) (st + 1) (arLess ar) false
  turns : Turns (fun c => c = b ∨ l[i].foot c) H H'
  foot : ∀ c, Foot l[i].b y' D' c → l[i].foot c ∨ ¬ H.Old c

theorem did_of {H H1 H2 H' : Heap} {b ds : Bk} {so : Nat} {l : List Dv} {st ar : Int} {i : Nat} {hi : i < l.length} (t : Turns Z H H1) (h2 : BenchAt H2 b ds so l (st + 1) (arLess ar) false) (t2 : Turns (fun c => c = b) H1 H2) {y' : Lay} {D' : Dev} (hN : Next H2 l[i].b l[i].y l[i].D H' y' D') : Did H b ds so l st ar i hi D' H' y' := by
  refine ⟨h2.step hi hN, ?_, fun c hc => ?_⟩
  · exact ((t.wide (fun c hc => hc.elim)).trans (t2.wide (fun c hc => .inl hc))).trans (hN.turns.wide (fun c hc => .inr hc))
  · have hn := t.next
    have hn2 := t2.next
    rcases hc with rfl | rfl | ⟨hl, rfl⟩
    · exact .inl (.inl rfl)
    · exact .inl (.inr (.inl hN.s))
    · rcases hN.l hl with ⟨k1, k2⟩ | k1
      · exact .inl (.inr (.inr ⟨k1, k2⟩))
      · exact .inr (fun o => k1 ((o.mono hn).mono hn2))

theorem bwrite {H : Heap} {b ds : Bk} {so : Nat} {l : List Dv} {st ar : Int} (h : BenchAt H b ds so l st ar false) (ha : 0 ≤ ar ∧ ar ≤ 9223372036854775807) (hs : 0 ≤ st ∧ st ≤ 100000) {i : Nat} (hi : i < l.length) (n : Int) (B : Nat) {lf : Nat} (hS : l[i].D.S ≠ []) (hlf : l[i].D.L.length + 1 < lf) (hmax : l[i].D.L.length < 1000000) (hc : code l[i].D n = 0) (m : Nat) :
    ret (callS Try.prog S0 lf (m + 6) 33 [.ptr (some ⟨b, 0⟩), .int .i64 (i : Int), .int .i64 n, .blk B] H) fun v H' => (ar = 1 ∧ v = .int .i64 8 ∧ BenchAt H' b ds so l st 1 true ∧ Turns (fun c => c = b) H H') ∨ (ar ≠ 1 ∧ v = .int .i64 0 ∧ ∃ y', Did H b ds so l st ar i hi (l[i].D.write n B) H' y') := by
  have hT4 : Turns Z H ((((H.add (.rows false 1 [[.ptr (some ⟨b, 0⟩)]])).add (.rows false 1 [[.int .i64 (i : Int)]])).add (.rows false 1 [[.int .i64 n]])).add (.rows false 64 [[.blk B]])) := ((((Turns.refl Z H).addm _).addm _).addm _).addm _
  have g0 : ((((H.add (.rows false 1 [[.ptr (some ⟨b, 0⟩)]])).add (.rows false 1 [[.int .i64 (i : Int)]])).add (.rows false 1 [[.int .i64 n]])).add (.rows false 64 [[.blk B]])).get (.run H.next) = some (.rows false 1 [[.ptr (some ⟨b, 0⟩)]]) := by
    rw [Heap.get_add, if_neg (by simp <;> omega), Heap.get_add, if_neg (by simp <;> omega), Heap.get_add, if_neg (by simp <;> omega), Heap.get_add, if_pos rfl]
  have g1 : ((((H.add (.rows false 1 [[.ptr (some ⟨b, 0⟩)]])).add (.rows false 1 [[.int .i64 (i : Int)]])).add (.rows false 1 [[.int .i64 n]])).add (.rows false 64 [[.blk B]])).get (.run (H.next + 1)) = some (.rows false 1 [[.int .i64 (i : Int)]]) := by
    rw [Heap.get_add, if_neg (by simp <;> omega), Heap.get_add, if_neg (by simp <;> omega), Heap.get_add, if_pos (by simp)]
  have g2 : ((((H.add (.rows false 1 [[.ptr (some ⟨b, 0⟩)]])).add (.rows false 1 [[.int .i64 (i : Int)]])).add (.rows false 1 [[.int .i64 n]])).add (.rows false 64 [[.blk B]])).get (.run (H.next + 1 + 1)) = some (.rows false 1 [[.int .i64 n]]) := by
    rw [Heap.get_add, if_neg (by simp <;> omega), Heap.get_add, if_pos (by simp)]
  have g3 : ((((H.add (.rows false 1 [[.ptr (some ⟨b, 0⟩)]])).add (.rows false 1 [[.int .i64 (i : Int)]])).add (.rows false 1 [[.int .i64 n]])).add (.rows false 64 [[.blk B]])).get (.run (H.next + 1 + 1 + 1)) = some (.rows false 64 [[.blk B]]) := by
    rw [Heap.get_add, if_pos (by simp)]
  have n4 : ((((H.add (.rows false 1 [[.ptr (some ⟨b, 0⟩)]])).add (.rows false 1 [[.int .i64 (i : Int)]])).add (.rows false 1 [[.int .i64 n]])).add (.rows false 64 [[.blk B]])).next = H.next + 4 := rfl
  generalize hH4 : ((((H.add (.rows false 1 [[.ptr (some ⟨b, 0⟩)]])).add (.rows false 1 [[.int .i64 (i : Int)]])).add (.rows false 1 [[.int .i64 n]])).add (.rows false 64 [[.blk B]])) = H4 at hT4 g0 g1 g2 g3 n4
  have h4 := h.turns hT4
  have o0 : H4.Old (.run H.next) := by show _ < _; omega
  have o1 : H4.Old (.run (H.next + 1)) := by show _ < _; omega
  have o2 : H4.Old (.run (H.next + 1 + 1)) := by show _ < _; omega
  have o3 : H4.Old (.run (H.next + 1 + 1 + 1)) := by show _ < _; omega
  have d0 := load1_of g0 rfl
  have d1 := load1_of g1 rfl
  have d2 := load1_of g2 rfl
  obtain ⟨v1, K1, e1, rfl, t1⟩ := bread h4 hi rfl n hS hlf hmax (m + 1)
  rw [hc] at e1
  change callS Try.prog S0 lf (m + 5) 40 [.ptr (some ⟨b, 0⟩), .int .i64 (i : Int), .int .i64 n] H4 = _ at e1
  generalize l[i].D.read n = X at e1
  have t5 := t1.trans (cell_turns K1 X)
  have h5 := h4.turns t5
  have d0' := load1_of ((t5.same _ o0 id).trans g0) rfl
  have hT5 := hT4.trans t5
  by_cases h1 : ar = 1
  · subst h1
    have e2 := bstep_cut h5 (.func (.func 85) [] [.ptr (some ⟨.run H.next, 0⟩), .ptr (some ⟨.run (H.next + 1), 0⟩), .ptr (some ⟨.run (H.next + 1 + 1), 0⟩), .ptr (some ⟨.run (H.next + 1 + 1 + 1), 0⟩)]) lf (m + 4)
    change callS Try.prog S0 lf (m + 5) 84 _ _ = _ at e2
    refine ret_call rfl c33_eq ?_
    simp only [c33, Aa, Ab, Ad, Ae, Af, Ag, Ah, Ai, Aj, Ak, Al, Ao, Ap, Aq, Ar, Au, sO_p, sO_r, sO_m, sO_a, sO_c, Av, Aw, Ax, Ay, Az, sE_p, sE_r, sE_m, sE_a, sE_c, A0, A2, A3, A4, A5, A6, A7, A8, A9, Ba, Bb, Bc, Bd, Be, Bf, Bg, Bh, Bi, Bj, Bl, Bm, Bo, Bp, Bq, Br, Bs, Bt, Bu, Bv, Tr.getP_e, Bw, Bx, ↓reduceIte, Nat.reduceEqDiff, Nat.reduceAdd, Nat.reduceSub, Nat.reduceMul, Nat.reduceDiv, Nat.reduceMod, Nat.zero_add, Nat.add_zero, beq_self_eq_true, Nat.zero_ne_one, Nat.one_ne_zero, Nat.reduceLeDiff, Int.reduceBEq, constF, unF, unary,  pickF, nilcF, faddrF, fldF, iaddrSF, arF, Bz, B3, B4, B5, B6, B7, convF, extF, lenF, eqcF, eqnF, eqN, eqPtr, isNone, loadF, storeF, allocF, callF, gets, Option.map_some, Option.bind_some, B8, B9, Ca, Cb, Cc, nbeq, nble, Cd, Ce, Cf, Cg, Ch, Ci, Cj, Ck, Cl, Cm, Cn, Co, Cp, Cq, Cr, Cs, Ct, Cu, Cv, Cw, Cx, V.w, width, unc, cmpCells, Cy, Cz, C6, C7, C8, Da, undef, List.append_nil, List.nil_append, List.cons_append, Db, Dc, resultsV, result, tup, Dd, Bool.and_true, Bool.true_and, Bool.and_self, decide_true, decide_false, Bool.not_true, Bool.not_false, Bool.true_beq, Bool.false_beq, beq_iff_eq, reduceCtorEq, Nat.succ_eq_add_one, ptr0, Int.ofNat_eq_natCast, Int.ofNat_le, Int.ofNat_lt, Int.natCast_add, De, Df, Dg, Dh, Di, List.map_cons, List.map_nil, Dj, Heap.next_add, Heap.next_set, boxF, buildF, fill, bsliceF, fillRows, List.replicate_one, Dk, Dl, Dm, Dn, Dp, Dq, Dr, Ds, Dt, Du, Dw, Dx, Dy, Dz, D2, D3, D4, D5, D6, D7, D8, D9, Ea, Eb, Ec, appF, List.length_cons, List.length_nil]
    rw [hH4]
    simp only [d0, d1, d2, e1, cell_fold, d0', e2, mkfnF, Aa, Ab, Ad, Ae, Af, Ag, Ah, Ai, Aj, Ak, Al, Ao, Ap, Aq, Ar, Au, sO_p, sO_r, sO_m, sO_a, sO_c, Av, Aw, Ax, Ay, Az, sE_p, sE_r, sE_m, sE_a, sE_c, A0, A2, A3, A4, A5, A6, A7, A8, A9, Ba, Bb, Bc, Bd, Be, Bf, Bg, Bh, Bi, Bj, Bl, Bm, Bo, Bp, Bq, Br, Bs, Bt, Bu, Bv, Tr.getP_e, Bw, Bx, ↓reduceIte, Nat.reduceEqDiff, Nat.reduceAdd, Nat.reduceSub, Nat.reduceMul, Nat.reduceDiv, Nat.reduceMod, Nat.zero_add, Nat.add_zero, beq_self_eq_true, Nat.zero_ne_one, Nat.one_ne_zero, Nat.reduceLeDiff, Int.reduceBEq, constF, unF, unary,  pickF, nilcF, faddrF, fldF, iaddrSF, arF, Bz, B3, B4, B5, B6, B7, convF, extF, lenF, eqcF, eqnF, eqN, eqPtr, isNone, loadF, storeF, allocF, callF, gets, Option.map_some, Option.bind_some, B8, B9, Ca, Cb, Cc, nbeq, nble, Cd, Ce, Cf, Cg, Ch, Ci, Cj, Ck, Cl, Cm, Cn, Co, Cp, Cq, Cr, Cs, Ct, Cu, Cv, Cw, Cx, V.w, width, unc, cmpCells, Cy, Cz, C6, C7, C8, Da, undef, List.append_nil, List.nil_append, List.cons_append, Db, Dc, resultsV, result, tup, Dd, Bool.and_true, Bool.true_and, Bool.and_self, decide_true, decide_false, Bool.not_true, Bool.not_false, Bool.true_beq, Bool.false_beq, beq_iff_eq, reduceCtorEq, Nat.succ_eq_add_one, ptr0, Int.ofNat_eq_natCast, Int.ofNat_le, Int.ofNat_lt, Int.natCast_add, De, Df, Dg, Dh, Di, List.map_cons, List.map_nil, Dj, Heap.next_add, Heap.next_set, boxF, buildF, fill, bsliceF, fillRows, List.replicate_one, Dk, Dl, Dm, Dn, Dp, Dq, Dr, Ds, Dt, Du, Dw, Dx, Dy, Dz, D2, D3, D4, D5, D6, D7, D8, D9, Ea, Eb, Ec, appF, List.length_cons, List.length_nil]
    exact ⟨trivial, .inr trivial, _, rfl, .inl ⟨trivial, rfl, BenchAt.put h5 st 1 true, Turns.setm (X := fun c => c = b) (b := b) (hT5.wide (fun c hc => hc.elim)) rfl _⟩⟩
  · obtain ⟨H6, h6, t6, hrun⟩ := bstep_go h5 h1 ha hs lf (m + 4)
    have ne : ∀ c, H4.Old c → ¬ H.Old c → c ≠ b := fun c _ hno e => hno (by rw [e]; exact h.old.1)
    have get6 : ∀ c o, H4.Old c → ¬ H.Old c → H4.get c = some o → H6.get c = some o := fun c o ho hno hg => (t6.same c (ho.mono t5.next) (ne c ho hno)).trans ((t5.same c ho id).trans hg)
    obtain ⟨v7, H7, e7, rfl, y', hN⟩ := wclos h6 hi hS hmax n B (get6 _ _ o0 (Heap.not_old (by omega)) g0) (get6 _ _ o1 (Heap.not_old (by omega)) g1) (get6 _ _ o2 (Heap.not_old (by omega)) g2) (get6 _ _ o3 (Heap.not_old (by omega)) g3) lf m
    rw [hc] at e7
    have e2 := hrun 85 [] [.ptr (some ⟨.run H.next, 0⟩), .ptr (some ⟨.run (H.next + 1), 0⟩), .ptr (some ⟨.run (H.next + 1 + 1), 0⟩), .ptr (some ⟨.run (H.next + 1 + 1 + 1), 0⟩)] _ _ e7
    change callS Try.prog S0 lf (m + 5) 84 _ _ = _ at e2
    refine ret_call rfl c33_eq ?_
    simp only [c33, Aa, Ab, Ad, Ae, Af, Ag, Ah, Ai, Aj, Ak, Al, Ao, Ap, Aq, Ar, Au, sO_p, sO_r, sO_m, sO_a, sO_c, Av, Aw, Ax, Ay, Az, sE_p, sE_r, sE_m, sE_a, sE_c, A0, A2, A3, A4, A5, A6, A7, A8, A9, Ba, Bb, Bc, Bd, Be, Bf, Bg, Bh, Bi, Bj, Bl, Bm, Bo, Bp, Bq, Br, Bs, Bt, Bu, Bv, Tr.getP_e, Bw, Bx, ↓reduceIte, Nat.reduceEqDiff, Nat.reduceAdd, Nat.reduceSub, Nat.reduceMul, Nat.reduceDiv, Nat.reduceMod, Nat.zero_add, Nat.add_zero, beq_self_eq_true, Nat.zero_ne_one, Nat.one_ne_zero, Nat.reduceLeDiff, Int.reduceBEq, constF, unF, unary,  pickF, nilcF, faddrF, fldF, iaddrSF, arF, Bz, B3, B4, B5, B6, B7, convF, extF, lenF, eqcF, eqnF, eqN, eqPtr, isNone, loadF, storeF, allocF, callF, gets, Option.map_some, Option.bind_some, B8, B9, Ca, Cb, Cc, nbeq, nble, Cd, Ce, Cf, Cg, Ch, Ci, Cj, Ck, Cl, Cm, Cn, Co, Cp, Cq, Cr, Cs, Ct, Cu, Cv, Cw, Cx, V.w, width, unc, cmpCells, Cy, Cz, C6, C7, C8, Da, undef, List.append_nil, List.nil_append, List.cons_append, Db, Dc, resultsV, result, tup, Dd, Bool.and_true, Bool.true_and, Bool.and_self, decide_true, decide_false, Bool.not_true, Bool.not_false, Bool.true_beq, Bool.false_beq, beq_iff_eq, reduceCtorEq, Nat.succ_eq_add_one, ptr0, Int.ofNat_eq_natCast, Int.ofNat_le, Int.ofNat_lt, Int.natCast_add, De, Df, Dg, Dh, Di, List.map_cons, List.map_nil, Dj, Heap.next_add, Heap.next_set, boxF, buildF, fill, bsliceF, fillRows, List.replicate_one, Dk, Dl, Dm, Dn, Dp, Dq, Dr, Ds, Dt, Du, Dw, Dx, Dy, Dz, D2, D3, D4, D5, D6, D7, D8, D9, Ea, Eb, Ec, appF, List.length_cons, List.length_nil]
    rw [hH4]
    simp only [d0, d1, d2, e1, cell_fold, d0', e2, mkfnF, Aa, Ab, Ad, Ae, Af, Ag, Ah, Ai, Aj, Ak, Al, Ao, Ap, Aq, Ar, Au, sO_p, sO_r, sO_m, sO_a, sO_c, Av, Aw, Ax, Ay, Az, sE_p, sE_r, sE_m, sE_a, sE_c, A0, A2, A3, A4, A5, A6, A7, A8, A9, Ba, Bb, Bc, Bd, Be, Bf, Bg, Bh, Bi, Bj, Bl, Bm, Bo, Bp, Bq, Br, Bs, Bt, Bu, Bv, Tr.getP_e, Bw, Bx, ↓reduceIte, Nat.reduceEqDiff, Nat.reduceAdd, Nat.reduceSub, Nat.reduceMul, Nat.reduceDiv, Nat.reduceMod, Nat.zero_add, Nat.add_zero, beq_self_eq_true, Nat.zero_ne_one, Nat.one_ne_zero, Nat.reduceLeDiff, Int.reduceBEq, constF, unF, unary,  pickF, nilcF, faddrF, fldF, iaddrSF, arF, Bz, B3, B4, B5, B6, B7, convF, extF, lenF, eqcF, eqnF, eqN, eqPtr, isNone, loadF, storeF, allocF, callF, gets, Option.map_some, Option.bind_some, B8, B9, Ca, Cb, Cc, nbeq, nble, Cd, Ce, Cf, Cg, Ch, Ci, Cj, Ck, Cl, Cm, Cn, Co, Cp, Cq, Cr, Cs, Ct, Cu, Cv, Cw, Cx, V.w, width, unc, cmpCells, Cy, Cz, C6, C7, C8, Da, undef, List.append_nil, List.nil_append, List.cons_append, Db, Dc, resultsV, result, tup, Dd, Bool.and_true, Bool.true_and, Bool.and_self, decide_true, decide_false, Bool.not_true, Bool.not_false, Bool.true_beq, Bool.false_beq, beq_iff_eq, reduceCtorEq, Nat.succ_eq_add_one, ptr0, Int.ofNat_eq_natCast, Int.ofNat_le, Int.ofNat_lt, Int.natCast_add, De, Df, Dg, Dh, Di, List.map_cons, List.map_nil, Dj, Heap.next_add, Heap.next_set, boxF, buildF, fill, bsliceF, fillRows, List.replicate_one, Dk, Dl, Dm, Dn, Dp, Dq, Dr, Ds, Dt, Du, Dw, Dx, Dy, Dz, D2, D3, D4, D5, D6, D7, D8, D9, Ea, Eb, Ec, appF, List.length_cons, List.length_nil]
    exact ⟨trivial, .inr trivial, _, rfl, .inr ⟨h1, rfl, y', did_of hT5 h6 t6 hN⟩⟩

theorem bflush {H : Heap} {b ds : Bk} {so : Nat} {l : List Dv} {st ar : Int} (h : BenchAt H b ds so l st ar false) (ha : 0 ≤ ar ∧ ar ≤ 9223372036854775807) (hs : 0 ≤ st ∧ st ≤ 100000) {i : Nat} (hi : i < l.length) {lf : Nat} (hS : l[i].D.S ≠ []) (hok : ∀ w ∈ l[i].D.L, w.1 < l[i].D.S.length) (hlf : l[i].D.L.length + 1 < lf) (hmax : l[i].D.L.length < 1000000) (hd : l[i].D.dead = false) (m : Nat) :
    ret (callS Try.prog S0 lf (m + 5) 32 [.ptr (some ⟨b, 0⟩), .int .i64 (i : Int)] H) fun v H' => (ar = 1 ∧ v = .int .i64 8 ∧ BenchAt H' b ds so l st 1 true ∧ Turns (fun c => c = b) H H') ∨ (ar ≠ 1 ∧ v = .int .i64 0 ∧ ∃ y', Did H b ds so l st ar i hi l[i].D.flush H' y') := by
  have hpos : 0 < l[i].D.S.length := by
    cases hc : l[i].D.S with
    | nil => exact absurd hc hS
    | cons x xs => simp
  have hc : code l[i].D 0 = 0 := code_ok (by omega) hd
  have hfc : fcode l[i].D = 0 := by unfold fcode; rw [hd]; rfl
  obtain ⟨v1, K1, e1, rfl, t1⟩ := bread h hi rfl 0 hS hlf hmax m
  rw [hc] at e1
  generalize l[i].D.read 0 = X at e1
  have t5 := t1.trans (cell_turns K1 X)
  have h5 := h.turns t5
  have l0 := bload0 h5
  have lp := bloadP h5 hi
  have hi1 : i + 1 ≤ l.length := hi
  by_cases h1 : ar = 1
  · subst h1
    have e2 := bstep_cut h5 (.func (.func 16) [.ptr (some ⟨l[i].b, 0⟩)] []) lf (m + 3)
    change callS Try.prog S0 lf (m + 4) 84 _ _ = _ at e2
    refine ret_call rfl c32_eq ?_
    simp only [c32, e1, cell_fold, l0, lp, hi1, e2, mkfnF, Nat.mul_one, Aa, Ab, Ad, Ae, Af, Ag, Ah, Ai, Aj, Ak, Al, Ao, Ap, Aq, Ar, Au, sO_p, sO_r, sO_m, sO_a, sO_c, Av, Aw, Ax, Ay, Az, sE_p, sE_r, sE_m, sE_a, sE_c, A0, A2, A3, A4, A5, A6, A7, A8, A9, Ba, Bb, Bc, Bd, Be, Bf, Bg, Bh, Bi, Bj, Bl, Bm, Bo, Bp, Bq, Br, Bs, Bt, Bu, Bv, Tr.getP_e, Bw, Bx, ↓reduceIte, Nat.reduceEqDiff, Nat.reduceAdd, Nat.reduceSub, Nat.reduceMul, Nat.reduceDiv, Nat.reduceMod, Nat.zero_add, Nat.add_zero, beq_self_eq_true, Nat.zero_ne_one, Nat.one_ne_zero, Nat.reduceLeDiff, Int.reduceBEq, constF, unF, unary,  pickF, nilcF, faddrF, fldF, iaddrSF, arF, Bz, B3, B4, B5, B6, B7, convF, extF, lenF, eqcF, eqnF, eqN, eqPtr, isNone, loadF, storeF, allocF, callF, gets, Option.map_some, Option.bind_some, B8, B9, Ca, Cb, Cc, nbeq, nble, Cd, Ce, Cf, Cg, Ch, Ci, Cj, Ck, Cl, Cm, Cn, Co, Cp, Cq, Cr, Cs, Ct, Cu, Cv, Cw, Cx, V.w, width, unc, cmpCells, Cy, Cz, C6, C7, C8, Da, undef, List.append_nil, List.nil_append, List.cons_append, Db, Dc, resultsV, result, tup, Dd, Bool.and_true, Bool.true_and, Bool.and_self, decide_true, decide_false, Bool.not_true, Bool.not_false, Bool.true_beq, Bool.false_beq, beq_iff_eq, reduceCtorEq, Nat.succ_eq_add_one, ptr0, Int.ofNat_eq_natCast, Int.ofNat_le, Int.ofNat_lt, Int.natCast_add, De, Df, Dg, Dh, Di, List.map_cons, List.map_nil, Dj, Heap.next_add, Heap.next_set, boxF, buildF, fill, bsliceF, fillRows, List.replicate_one, Dk, Dl, Dm, Dn, Dp, Dq, Dr, Ds, Dt, Du, Dw, Dx, Dy, Dz, D2, D3, D4, D5, D6, D7, D8, D9, Ea, Eb, Ec, appF, List.length_cons, List.length_nil]
    exact ⟨trivial, .inr trivial, _, rfl, .inl ⟨trivial, rfl, BenchAt.put h5 st 1 true, Turns.setm (X := fun c => c = b) (b := b) (t5.wide (fun c hc => hc.elim)) rfl _⟩⟩
  · obtain ⟨H6, h6, t6, hrun⟩ := bstep_go h5 h1 ha hs lf (m + 3)
    obtain ⟨v7, H7, e7, rfl, y', hN⟩ := flush_all (h6.dev i hi) hS hok hmax hlf m
    rw [hfc] at e7
    have e2 := hrun 16 [.ptr (some ⟨l[i].b, 0⟩)] [] _ _ e7
    change callS Try.prog S0 lf (m + 4) 84 _ _ = _ at e2
    refine ret_call rfl c32_eq ?_
    simp only [c32, e1, cell_fold, l0, lp, hi1, e2, mkfnF, Nat.mul_one, Aa, Ab, Ad, Ae, Af, Ag, Ah, Ai, Aj, Ak, Al, Ao, Ap, Aq, Ar, Au, sO_p, sO_r, sO_m, sO_a, sO_c, Av, Aw, Ax, Ay, Az, sE_p, sE_r, sE_m, sE_a, sE_c, A0, A2, A3, A4, A5, A6, A7, A8, A9, Ba, Bb, Bc, Bd, Be, Bf, Bg, Bh, Bi, Bj, Bl, Bm, Bo, Bp, Bq, Br, Bs, Bt, Bu, Bv, Tr.getP_e, Bw, Bx, ↓reduceIte, Nat.reduceEqDiff, Nat.reduceAdd, Nat.reduceSub, Nat.reduceMul, Nat.reduceDiv, Nat.reduceMod, Nat.zero_add, Nat.add_zero, beq_self_eq_true, Nat.zero_ne_one, Nat.one_ne_zero, Nat.reduceLeDiff, Int.reduceBEq, constF, unF, unary,  pickF, nilcF, faddrF, fldF, iaddrSF, arF, Bz, B3, B4, B5, B6, B7, convF, extF, lenF, eqcF, eqnF, eqN, eqPtr, isNone, loadF, storeF, allocF, callF, gets, Option.map_some, Option.bind_some, B8, B9, Ca, Cb, Cc, nbeq, nble, Cd, Ce, Cf, Cg, Ch, Ci, Cj, Ck, Cl, Cm, Cn, Co, Cp, Cq, Cr, Cs, Ct, Cu, Cv, Cw, Cx, V.w, width, unc, cmpCells, Cy, Cz, C6, C7, C8, Da, undef, List.append_nil, List.nil_append, List.cons_append, Db, Dc, resultsV, result, tup, Dd, Bool.and_true, Bool.true_and, Bool.and_self, decide_true, decide_false, Bool.not_true, Bool.not_false, Bool.true_beq, Bool.false_beq, beq_iff_eq, reduceCtorEq, Nat.succ_eq_add_one, ptr0, Int.ofNat_eq_natCast, Int.ofNat_le, Int.ofNat_lt, Int.natCast_add, De, Df, Dg, Dh, Di, List.map_cons, List.map_nil, Dj, Heap.next_add, Heap.next_set, boxF, buildF, fill, bsliceF, fillRows, List.replicate_one, Dk, Dl, Dm, Dn, Dp, Dq, Dr, Ds, Dt, Du, Dw, Dx, Dy, Dz, D2, D3, D4, D5, D6, D7, D8, D9, Ea, Eb, Ec, appF, List.length_cons, List.length_nil]
    exact ⟨trivial, .inr trivial, _, rfl, .inr ⟨h1, rfl, y', did_of t5 h6 t6 hN⟩⟩

end Go.Proofs.Ytcelngepfdchiaa.disk

