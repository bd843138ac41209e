/-
  A bench in the machine's heap: its copy.
-/
import Derived.Test.YtcelngepfdchiaaBench7
set_option linter.unusedVariables false
set_option linter.unusedSectionVars false
set_option linter.unusedSimpArgs false
set_option maxRecDepth 10000
namespace Go.Proofs.Ytcelngepfdchiaa.disk
open Go.Am

noncomputable def c48_l0 : C := .seq (.reg [
     ⟨(some (Tr.path 28)), (some (.p (arF .lss (.t (Tr.path 27)) (.t (Tr.path 26))))), none, [Tr.path 27, Tr.path 26]⟩]) (
    .seq (.cond (.t (Tr.path 28)) (.skip) (.exit 0)) (
    .seq (.block 1 (.seq (.reg [
       ⟨(some (Tr.path 29)), (some (.p (iaddrSF (.t (Tr.path 25)) (.t (Tr.path 27)) 1))), none, [Tr.path 25, Tr.path 27]⟩,
       ⟨(some (Tr.path 30)), (some (.r (loadF (.t (Tr.path 29)) 1 .sc))), none, [Tr.path 29]⟩,
       ⟨(some (Tr.path 5)), (some (.p (S.get (.t (Tr.path 30))))), none, [Tr.path 30]⟩]) (
      .regD [
      ⟨(some (Tr.path 31)), (some (.p (S.get (.t (Tr.path 3))))), none, [Tr.path 3]⟩,
      ⟨(some (Tr.path 32)), (some (.p (S.get (.t (Tr.path 3))))), none, [Tr.path 3]⟩,
      ⟨(some (Tr.path 33)), (some (.p (nilcF (.t (Tr.path 32))))), none, [Tr.path 32]⟩,
      ⟨(some (Tr.path 34)), (some (.p (faddrF (.t (Tr.path 33)) 0))), none, [Tr.path 33]⟩,
      ⟨(some (Tr.path 35)), (some (.r (loadF (.t (Tr.path 34)) 1 .sc))), none, [Tr.path 34]⟩,
      ⟨(some (Tr.path 36)), (some (.p (S.get (.t (Tr.path 5))))), none, [Tr.path 5]⟩,
      ⟨(some (Tr.path 37)), (some (.c (callF (.c (.func (.func 26) [] [])) [(.t (Tr.path 36))]))), none, [Tr.path 36]⟩,
      ⟨(some (Tr.path 38)), (some (.m (bsliceF 1 1 [.ptr none] [(0, 1, (.t (Tr.path 37)))]))), none, [Tr.path 37]⟩,
      ⟨(some (Tr.path 39)), (some (.a (appF 1 8 (.t (Tr.path 35)) (.t (Tr.path 38))))), none, [Tr.path 35, Tr.path 38]⟩,
      ⟨(some (Tr.path 40)), (some (.p (nilcF (.t (Tr.path 31))))), none, [Tr.path 31]⟩,
      ⟨(some (Tr.path 41)), (some (.p (faddrF (.t (Tr.path 40)) 0))), none, [Tr.path 40]⟩,
      ⟨none, (some (.a (storeF (.t (Tr.path 41)) (.t (Tr.path 39)) 1))), none, [Tr.path 41, Tr.path 39]⟩] [0, 0, 2, 6, 14, 0, 32, 96, 254, 511, 1023, 2047]))) (
    .reg [
    ⟨(some (Tr.path 42)), (some (.p (arF .add (.t (Tr.path 27)) (.c (.int .i64 1))))), none, [Tr.path 27]⟩,
    ⟨(some (Tr.path 27)), (some (.p (S.get (.t (Tr.path 42))))), none, [Tr.path 42]⟩])))
/-- (*ashlar/bench.Bench).Copy -/
noncomputable def c48 : CFn := ⟨[.tmp (Tr.path 2)],
 .seq (.reg [
  ⟨(some (Tr.path 2)), (some (.p (S.get (.c (.ptr none))))), none, []⟩]) (
 .seq (.seq (.reg [
   ⟨(some (Tr.path 6)), (some (.p (S.get (.t (Tr.path 0))))), none, [Tr.path 0]⟩,
   ⟨(some (Tr.path 7)), (some (.c (callF (.c (.func (.func 83) [] [])) [(.t (Tr.path 6))]))), none, [Tr.path 6]⟩]) (
  .cond (.t (Tr.path 7)) (.seq (.reg [
     ⟨(some (Tr.path 2)), (some (.p (S.get (.c (.ptr none))))), none, []⟩]) (
    .ret)) (.skip))) (
 .seq (.regD [
  ⟨(some (Tr.path 8)), (some (.p (S.get (.t (Tr.path 0))))), none, [Tr.path 0]⟩,
  ⟨(some (Tr.path 9)), (some (.p (nilcF (.t (Tr.path 8))))), none, [Tr.path 8]⟩,
  ⟨(some (Tr.path 10)), (some (.p (faddrF (.t (Tr.path 9)) 1))), none, [Tr.path 9]⟩,
  ⟨(some (Tr.path 11)), (some (.r (loadF (.t (Tr.path 10)) 1 .sc))), none, [Tr.path 10]⟩,
  ⟨(some (Tr.path 12)), (some (.p (S.get (.t (Tr.path 0))))), none, [Tr.path 0]⟩,
  ⟨(some (Tr.path 13)), (some (.p (nilcF (.t (Tr.path 12))))), none, [Tr.path 12]⟩,
  ⟨(some (Tr.path 14)), (some (.p (faddrF (.t (Tr.path 13)) 2))), none, [Tr.path 13]⟩,
  ⟨(some (Tr.path 15)), (some (.r (loadF (.t (Tr.path 14)) 1 .sc))), none, [Tr.path 14]⟩,
  ⟨(some (Tr.path 16)), (some (.p (S.get (.t (Tr.path 0))))), none, [Tr.path 0]⟩,
  ⟨(some (Tr.path 17)), (some (.p (nilcF (.t (Tr.path 16))))), none, [Tr.path 16]⟩,
  ⟨(some (Tr.path 18)), (some (.p (faddrF (.t (Tr.path 17)) 3))), none, [Tr.path 17]⟩,
  ⟨(some (Tr.path 19)), (some (.r (loadF (.t (Tr.path 18)) 1 .sc))), none, [Tr.path 18]⟩,
  ⟨(some (Tr.path 20)), (some (.p (buildF [.slice none 0 0 0, .int .i64 0, .int .i64 0, .bool false] .ag [(1, 1, (.t (Tr.path 11))), (2, 1, (.t (Tr.path 15))), (3, 1, (.t (Tr.path 19)))]))), none, [Tr.path 11, Tr.path 15, Tr.path 19]⟩,
  ⟨(some (Tr.path 21)), (some (.m (boxF 4 (.t (Tr.path 20))))), none, [Tr.path 20]⟩,
  ⟨(some (Tr.path 3)), (some (.p (S.get (.t (Tr.path 21))))), none, [Tr.path 21]⟩] [0, 1, 3, 7, 0, 16, 48, 112, 0, 256, 768, 1792, 4095, 8191, 16383]) (
 .seq (.seq (.reg [
   ⟨(some (Tr.path 22)), (some (.p (S.get (.t (Tr.path 0))))), none, [Tr.path 0]⟩,
   ⟨(some (Tr.path 23)), (some (.p (nilcF (.t (Tr.path 22))))), none, [Tr.path 22]⟩,
   ⟨(some (Tr.path 24)), (some (.p (faddrF (.t (Tr.path 23)) 0))), none, [Tr.path 23]⟩,
   ⟨(some (Tr.path 25)), (some (.r (loadF (.t (Tr.path 24)) 1 .sc))), none, [Tr.path 24]⟩,
   ⟨(some (Tr.path 26)), (some (.p (lenF (.t (Tr.path 25))))), none, [Tr.path 25]⟩,
   ⟨(some (Tr.path 27)), (some (.p (S.get (.c (.int .i64 0))))), none, []⟩]) (
  .block 0 (.loop c48_l0))) (
 .seq (.reg [
  ⟨(some (Tr.path 43)), (some (.p (S.get (.t (Tr.path 3))))), none, [Tr.path 3]⟩,
  ⟨(some (Tr.path 2)), (some (.p (S.get (.t (Tr.path 43))))), none, [Tr.path 43]⟩]) (
 .ret)))))⟩
theorem c48_eq : fnOf Try.prog 48 = some c48 := by kernel_rfl


theorem bdevices {H : Heap} {b ds : Bk} {so : Nat} {l : List Dv} {B : Bn} (h : BRep H b ds so l B) (hl : l ≠ []) (lf m : Nat) : callS Try.prog S0 lf (m + 2) 98 [.ptr (some ⟨b, 0⟩)] H = some (.v (.int .i64 (l.length : Int)), H) := by
  have e1 := bnone h.at' hl lf m
  have l0 := bload0 h.at'
  obtain ⟨v, H', e, rfl, rfl⟩ : ret (callS Try.prog S0 lf (m + 2) 98 [.ptr (some ⟨b, 0⟩)] H) fun v H' => v = .int .i64 (l.length : Int) ∧ H' = H := by
    refine ret_call rfl c98_eq ?_
    simp only [c98, e1, l0, Aa, Ab, Ad, Ae, Af, Ag, Ah, Ai, Aj, Ak, Al, Ao, Ap, Aq, Ar, Au, sO_p, sO_r, sO_m, sO_a, sO_c, Av, Aw, Ax, Ay, Az, sE_p, sE_r, sE_m, sE_a, sE_c, A0, A2, A3, A4, A5, A6, A7, A8, A9, Ba, Bb, Bc, Bd, Be, Bf, Bg, Bh, Bi, Bj, Bl, Bm, Bo, Bp, Bq, Br, Bs, Bt, Bu, Bv, Tr.getP_e, Bw, Bx, ↓reduceIte, Nat.reduceEqDiff, Nat.reduceAdd, Nat.reduceSub, Nat.reduceMul, Nat.reduceDiv, Nat.reduceMod, Nat.zero_add, Nat.add_zero, beq_self_eq_true, Nat.zero_ne_one, Nat.one_ne_zero, Nat.reduceLeDiff, Int.reduceBEq, constF, unF, unary,  pickF, nilcF, faddrF, fldF, iaddrSF, arF, Bz, B3, B4, B5, B6, B7, convF, extF, lenF, eqcF, eqnF, eqN, eqPtr, isNone, loadF, storeF, allocF, callF, gets, Option.map_some, Option.bind_some, B8, B9, Ca, Cb, Cc, nbeq, nble, Cd, Ce, Cf, Cg, Ch, Ci, Cj, Ck, Cl, Cm, Cn, Co, Cp, Cq, Cr, Cs, Ct, Cu, Cv, Cw, Cx, V.w, width, unc, cmpCells, Cy, Cz, C6, C7, C8, Da, undef, List.append_nil, List.nil_append, List.cons_append, Db, Dc, resultsV, result, tup, Dd, Bool.and_true, Bool.true_and, Bool.and_self, decide_true, decide_false, Bool.not_true, Bool.not_false, Bool.true_beq, Bool.false_beq, beq_iff_eq, reduceCtorEq, Nat.succ_eq_add_one, ptr0, Int.ofNat_eq_natCast, Int.ofNat_le, Int.ofNat_lt, Int.natCast_add, De, Df, Dg, Dh, Di, List.map_cons, List.map_nil, Dj, Heap.next_add, Heap.next_set, boxF, buildF, fill, bsliceF, fillRows, List.replicate_one, Dk, Dl, Dm, Dn, Dp, Dq, Dr, Ds, Dt, Du, Dw, Dx, Dy, Dz, D2, D3, D4, D5, D6, D7, D8, D9, Ea, Eb, Ec, appF, List.length_cons, List.length_nil]
    exact ⟨trivial, .inr trivial, _, rfl, rfl, trivial⟩
  exact e

theorem Grow.owe {H0 H : Heap} {b : Bk} {p : Option Ptr} {o : Nat} {l : List Dv} {r1 r2 r3 : V} (h : Grow H0 H b p o l r1 r2 r3) {q : List (Option V × Option V)} (hq : ∀ p ∈ q, p.1 = p.2) : Grow H0 (H.owe q) b p o l r1 r2 r3 := by
  have t := (Turns.refl Z H).owe hq
  refine ⟨(t.same _ h.old id).trans h.own, h.nil, fun e => ?_, fun x hx => (h.dev x hx).turns t id id (fun _ => id), h.sep, h.out, h.old.mono t.next, h.new, h.fresh, h.t.trans t⟩
  obtain ⟨ds, h1, h2, h3, h4, h5, h6, h7⟩ := h.ptrs e
  exact ⟨ds, h1, h2, (t.same _ h4 id).trans h3, h4.mono t.next, h5, h6, h7⟩

theorem bcopy {H : Heap} {b ds : Bk} {so : Nat} {l : List Dv} {B : Bn} (h : BRep H b ds so l B) (hl : l ≠ []) (hg : ∀ D ∈ B.l, Good D) (hlen : l.length ≤ 17) {lf : Nat} (hlf : 1000 < lf) (m : Nat) :
    ret (callS Try.prog S0 lf (m + 3) 48 [.ptr (some ⟨b, 0⟩)] H) fun v H' => ∃ b' ds' l', v = .ptr (some ⟨b', 0⟩) ∧ Rep false H' b' ds' 1 l' B ∧ (∀ c, BFoot b' ds' l' c → ¬ H.Old c) ∧ Turns Z H H' := by
  have en := bnone h.at' hl lf (m + 1)
  change callS Try.prog S0 lf (m + 2) 83 _ _ = _ at en
  have l0 := bload0 h.at'
  have l1 := bload1 h.at'
  have l2 := bload2 h.at'
  have l3 := bload3 h.at'
  have G0 := grow0 H (.int .i64 B.st) (.int .i64 B.ar) (.bool B.dk)
  have l0' := bload0 (h.turns G0.t).at'
  have hLl := h.len
  have hloop : ∀ t : T, t.getP (Tr.path 3) = some (.ptr (some ⟨.run H.next, 0⟩)) → t.getP (Tr.path 25) = some (.slice (some ⟨ds, 0⟩) l.length l.length so) → t.getP (Tr.path 26) = some (.int .i64 (l.length : Int)) → t.getP (Tr.path 27) = some (.int .i64 0) →
      wp (loopF (runC (callS Try.prog S0 lf (m + 2)) lf c48_l0) lf ⟨t, H.add (.rows false 4 [[.slice none 0 0 0, .int .i64 B.st, .int .i64 B.ar, .bool B.dk]]), []⟩) fun x s =>
        x = .ex 0 ∧ s.d = [] ∧ s.t.getP (Tr.path 3) = some (.ptr (some ⟨.run H.next, 0⟩)) ∧ ∃ p o l', Grow H s.H (.run H.next) p o l' (.int .i64 B.st) (.int .i64 B.ar) (.bool B.dk) ∧ l'.map Dv.D = B.l := by
    intro t q3 q25 q26 q27
    refine wp_loopF (fun r s => ∃ i p o l', i + r = l.length ∧ s.d = [] ∧ s.t.getP (Tr.path 3) = some (.ptr (some ⟨.run H.next, 0⟩)) ∧ s.t.getP (Tr.path 25) = some (.slice (some ⟨ds, 0⟩) l.length l.length so) ∧ s.t.getP (Tr.path 26) = some (.int .i64 (l.length : Int)) ∧ s.t.getP (Tr.path 27) = some (.int .i64 ((i : Nat) : Int)) ∧ Grow H s.H (.run H.next) p o l' (.int .i64 B.st) (.int .i64 B.ar) (.bool B.dk) ∧ l'.map Dv.D = B.l.take i) ?_ lf l.length _ ⟨0, none, 0, [], by omega, rfl, q3, q25, q26, q27, G0, rfl⟩ (by omega)
    rintro r ⟨t, HH, d⟩ ⟨i, p, o, l', hi, rfl, q3, q25, q26, q27, hG, hm⟩
    dsimp only at q3 q25 q26 q27 hG
    cases r with
    | zero =>
      have hi : i = l.length := by omega
      subst hi
      have hg : ¬ (l.length < l.length) := Nat.lt_irrefl _
      rw [hLl, List.take_length] at hm
      simp only [c48_l0, q3, q25, q26, q27, hg, Aa, Ab, Ad, Ae, Af, Ag, Ah, Ai, Aj, Ak, Al, Ao, Ap, Aq, Ar, Au, sO_p, sO_r, sO_m, sO_a, sO_c, Av, Aw, Ax, Ay, Az, sE_p, sE_r, sE_m, sE_a, sE_c, A0, A2, A3, A4, A5, A6, A7, A8, A9, Ba, Bb, Bc, Bd, Be, Bf, Bg, Bh, Bi, Bj, Bl, Bm, Bo, Bp, Bq, Br, Bs, Bt, Bu, Bv, Tr.getP_e, Bw, Bx, ↓reduceIte, Nat.reduceEqDiff, Nat.reduceAdd, Nat.reduceSub, Nat.reduceMul, Nat.reduceDiv, Nat.reduceMod, Nat.zero_add, Nat.add_zero, beq_self_eq_true, Nat.zero_ne_one, Nat.one_ne_zero, Nat.reduceLeDiff, Int.reduceBEq, constF, unF, unary,  pickF, nilcF, faddrF, fldF, iaddrSF, arF, Bz, B3, B4, B5, B6, B7, convF, extF, lenF, eqcF, eqnF, eqN, eqPtr, isNone, loadF, storeF, allocF, callF, gets, Option.map_some, Option.bind_some, B8, B9, Ca, Cb, Cc, nbeq, nble, Cd, Ce, Cf, Cg, Ch, Ci, Cj, Ck, Cl, Cm, Cn, Co, Cp, Cq, Cr, Cs, Ct, Cu, Cv, Cw, Cx, V.w, width, unc, cmpCells, Cy, Cz, C6, C7, C8, Da, undef, List.append_nil, List.nil_append, List.cons_append, Db, Dc, resultsV, result, tup, Dd, Bool.and_true, Bool.true_and, Bool.and_self, decide_true, decide_false, Bool.not_true, Bool.not_false, Bool.true_beq, Bool.false_beq, beq_iff_eq, reduceCtorEq, Nat.succ_eq_add_one, ptr0, Int.ofNat_eq_natCast, Int.ofNat_le, Int.ofNat_lt, Int.natCast_add, De, Df, Dg, Dh, Di, List.map_cons, List.map_nil, Dj, Heap.next_add, Heap.next_set, boxF, buildF, fill, bsliceF, fillRows, List.replicate_one, Dk, Dl, Dm, Dn, Dp, Dq, Dr, Ds, Dt, Du, Dw, Dx, Dy, Dz, D2, D3, D4, D5, D6, D7, D8, D9, Ea, Eb, Ec, appF, List.length_cons, List.length_nil]
      exact ⟨trivial, trivial, trivial, p, o, l', hG, hm⟩
    | succ r =>
      have hil : i < l.length := by omega
      have hi1 : i + 1 ≤ l.length := hil
      have hiB : i < B.l.length := by omega
      have hw : IntKind.i64.wrap ((i : Int) + 1) = (i : Int) + 1 := wrap_i64 (by omega)
      have hH := h.turns hG.t
      have lp := bloadP hH.at' hil
      have eD : l[i].D = B.l[i] := by
        have e1 : (l.map Dv.D)[i]'(by simpa using hil) = B.l[i] := by
          congr 1
          exact h.map
        simpa using e1
      have g : Good l[i].D := by rw [eD]; exact hg _ (List.getElem_mem hiB)
      obtain ⟨v, H1, e1, b', y', rfl, hD, hF, t1⟩ := copy_ok (hH.at'.dev i hil) g.ne (by have := g.len; omega) (by have := g.le; omega) lf m
      have hll : l'.length = i := by have := congrArg List.length hm; simpa [Nat.min_eq_left (Nat.le_of_lt hiB)] using this
      obtain ⟨H3, H4, ds', ha, hs, hG'⟩ := hG.step t1 hD hF (by omega)
      have x0 := hG.load (Turns.refl Z HH)
      have x1 := hG.load t1
      have x2 := hG.load (t1.addm (.rows false 1 [[.ptr (some ⟨b', 0⟩)]]))
      obtain ⟨q, hqd⟩ : ∃ q : List (Option V × Option V), q = [(loadF (.t (Tr.path 34)) 1 .sc (Tr.setP (Tr.path 34) (.ptr (some ⟨.run H.next, 0⟩)) .e) HH, some (.slice p l'.length l'.length o)), (loadF (.t (Tr.path 34)) 1 .sc (Tr.setP (Tr.path 34) (.ptr (some ⟨.run H.next, 0⟩)) .e) H1, some (.slice p l'.length l'.length o))] := ⟨_, rfl⟩
      have hq : ∀ p ∈ q, p.1 = p.2 := by
        rw [hqd]
        intro p hp
        simp only [List.mem_cons, List.not_mem_nil, or_false] at hp
        rcases hp with rfl | rfl <;> simp only [x0, x1, Aa, Ab, Ad, Ae, Af, Ag, Ah, Ai, Aj, Ak, Al, Ao, Ap, Aq, Ar, Au, sO_p, sO_r, sO_m, sO_a, sO_c, Av, Aw, Ax, Ay, Az, sE_p, sE_r, sE_m, sE_a, sE_c, A0, A2, A3, A4, A5, A6, A7, A8, A9, Ba, Bb, Bc, Bd, Be, Bf, Bg, Bh, Bi, Bj, Bl, Bm, Bo, Bp, Bq, Br, Bs, Bt, Bu, Bv, Tr.getP_e, Bw, Bx, ↓reduceIte, Nat.reduceEqDiff, Nat.reduceAdd, Nat.reduceSub, Nat.reduceMul, Nat.reduceDiv, Nat.reduceMod, Nat.zero_add, Nat.add_zero, beq_self_eq_true, Nat.zero_ne_one, Nat.one_ne_zero, Nat.reduceLeDiff, Int.reduceBEq, constF, unF, unary,  pickF, nilcF, faddrF, fldF, iaddrSF, arF, Bz, B3, B4, B5, B6, B7, convF, extF, lenF, eqcF, eqnF, eqN, eqPtr, isNone, loadF, storeF, allocF, callF, gets, Option.map_some, Option.bind_some, B8, B9, Ca, Cb, Cc, nbeq, nble, Cd, Ce, Cf, Cg, Ch, Ci, Cj, Ck, Cl, Cm, Cn, Co, Cp, Cq, Cr, Cs, Ct, Cu, Cv, Cw, Cx, V.w, width, unc, cmpCells, Cy, Cz, C6, C7, C8, Da, undef, List.append_nil, List.nil_append, List.cons_append, Db, Dc, resultsV, result, tup, Dd, Bool.and_true, Bool.true_and, Bool.and_self, decide_true, decide_false, Bool.not_true, Bool.not_false, Bool.true_beq, Bool.false_beq, beq_iff_eq, reduceCtorEq, Nat.succ_eq_add_one, ptr0, Int.ofNat_eq_natCast, Int.ofNat_le, Int.ofNat_lt, Int.natCast_add, De, Df, Dg, Dh, Di, List.map_cons, List.map_nil, Dj, Heap.next_add, Heap.next_set, boxF, buildF, fill, bsliceF, fillRows, List.replicate_one, Dk, Dl, Dm, Dn, Dp, Dq, Dr, Ds, Dt, Du, Dw, Dx, Dy, Dz, D2, D3, D4, D5, D6, D7, D8, D9, Ea, Eb, Ec, appF, List.length_cons, List.length_nil]
      simp only [c48_l0, q3, q25, q26, q27, hil, hi1, lp, e1, x0, ha, hs, Nat.mul_one, Aa, Ab, Ad, Ae, Af, Ag, Ah, Ai, Aj, Ak, Al, Ao, Ap, Aq, Ar, Au, sO_p, sO_r, sO_m, sO_a, sO_c, Av, Aw, Ax, Ay, Az, sE_p, sE_r, sE_m, sE_a, sE_c, A0, A2, A3, A4, A5, A6, A7, A8, A9, Ba, Bb, Bc, Bd, Be, Bf, Bg, Bh, Bi, Bj, Bl, Bm, Bo, Bp, Bq, Br, Bs, Bt, Bu, Bv, Tr.getP_e, Bw, Bx, ↓reduceIte, Nat.reduceEqDiff, Nat.reduceAdd, Nat.reduceSub, Nat.reduceMul, Nat.reduceDiv, Nat.reduceMod, Nat.zero_add, Nat.add_zero, beq_self_eq_true, Nat.zero_ne_one, Nat.one_ne_zero, Nat.reduceLeDiff, Int.reduceBEq, constF, unF, unary,  pickF, nilcF, faddrF, fldF, iaddrSF, arF, Bz, B3, B4, B5, B6, B7, convF, extF, lenF, eqcF, eqnF, eqN, eqPtr, isNone, loadF, storeF, allocF, callF, gets, Option.map_some, Option.bind_some, B8, B9, Ca, Cb, Cc, nbeq, nble, Cd, Ce, Cf, Cg, Ch, Ci, Cj, Ck, Cl, Cm, Cn, Co, Cp, Cq, Cr, Cs, Ct, Cu, Cv, Cw, Cx, V.w, width, unc, cmpCells, Cy, Cz, C6, C7, C8, Da, undef, List.append_nil, List.nil_append, List.cons_append, Db, Dc, resultsV, result, tup, Dd, Bool.and_true, Bool.true_and, Bool.and_self, decide_true, decide_false, Bool.not_true, Bool.not_false, Bool.true_beq, Bool.false_beq, beq_iff_eq, reduceCtorEq, Nat.succ_eq_add_one, ptr0, Int.ofNat_eq_natCast, Int.ofNat_le, Int.ofNat_lt, Int.natCast_add, De, Df, Dg, Dh, Di, List.map_cons, List.map_nil, Dj, Heap.next_add, Heap.next_set, boxF, buildF, fill, bsliceF, fillRows, List.replicate_one, Dk, Dl, Dm, Dn, Dp, Dq, Dr, Ds, Dt, Du, Dw, Dx, Dy, Dz, D2, D3, D4, D5, D6, D7, D8, D9, Ea, Eb, Ec, appF, List.length_cons, List.length_nil]
      rw [endD_q (q := q) (by kernel_rfl) (by rw [hqd]; kernel_rfl)]
      simp only [q3, q25, q26, q27, hw, Aa, Ab, Ad, Ae, Af, Ag, Ah, Ai, Aj, Ak, Al, Ao, Ap, Aq, Ar, Au, sO_p, sO_r, sO_m, sO_a, sO_c, Av, Aw, Ax, Ay, Az, sE_p, sE_r, sE_m, sE_a, sE_c, A0, A2, A3, A4, A5, A6, A7, A8, A9, Ba, Bb, Bc, Bd, Be, Bf, Bg, Bh, Bi, Bj, Bl, Bm, Bo, Bp, Bq, Br, Bs, Bt, Bu, Bv, Tr.getP_e, Bw, Bx, ↓reduceIte, Nat.reduceEqDiff, Nat.reduceAdd, Nat.reduceSub, Nat.reduceMul, Nat.reduceDiv, Nat.reduceMod, Nat.zero_add, Nat.add_zero, beq_self_eq_true, Nat.zero_ne_one, Nat.one_ne_zero, Nat.reduceLeDiff, Int.reduceBEq, constF, unF, unary,  pickF, nilcF, faddrF, fldF, iaddrSF, arF, Bz, B3, B4, B5, B6, B7, convF, extF, lenF, eqcF, eqnF, eqN, eqPtr, isNone, loadF, storeF, allocF, callF, gets, Option.map_some, Option.bind_some, B8, B9, Ca, Cb, Cc, nbeq, nble, Cd, Ce, Cf, Cg, Ch, Ci, Cj, Ck, Cl, Cm, Cn, Co, Cp, Cq, Cr, Cs, Ct, Cu, Cv, Cw, Cx, V.w, width, unc, cmpCells, Cy, Cz, C6, C7, C8, Da, undef, List.append_nil, List.nil_append, List.cons_append, Db, Dc, resultsV, result, tup, Dd, Bool.and_true, Bool.true_and, Bool.and_self, decide_true, decide_false, Bool.not_true, Bool.not_false, Bool.true_beq, Bool.false_beq, beq_iff_eq, reduceCtorEq, Nat.succ_eq_add_one, ptr0, Int.ofNat_eq_natCast, Int.ofNat_le, Int.ofNat_lt, Int.natCast_add, De, Df, Dg, Dh, Di, List.map_cons, List.map_nil, Dj, Heap.next_add, Heap.next_set, boxF, buildF, fill, bsliceF, fillRows, List.replicate_one, Dk, Dl, Dm, Dn, Dp, Dq, Dr, Ds, Dt, Du, Dw, Dx, Dy, Dz, D2, D3, D4, D5, D6, D7, D8, D9, Ea, Eb, Ec, appF, List.length_cons, List.length_nil]
      refine ⟨r, Nat.lt_succ_self r, i + 1, _, _, _, by omega, trivial, trivial, trivial, trivial, rfl, hG'.owe hq, ?_⟩
      rw [List.map_append, hm, List.take_succ_eq_append_getElem hiB]
      show _ ++ [l[i].D] = _
      rw [eD]
  refine ret_call rfl c48_eq ?_
  simp only [c48, en, l1, l2, l3, Aa, Ab, Ad, Ae, Af, Ag, Ah, Ai, Aj, Ak, Al, Ao, Ap, Aq, Ar, Au, sO_p, sO_r, sO_m, sO_a, sO_c, Av, Aw, Ax, Ay, Az, sE_p, sE_r, sE_m, sE_a, sE_c, A0, A2, A3, A4, A5, A6, A7, A8, A9, Ba, Bb, Bc, Bd, Be, Bf, Bg, Bh, Bi, Bj, Bl, Bm, Bo, Bp, Bq, Br, Bs, Bt, Bu, Bv, Tr.getP_e, Bw, Bx, ↓reduceIte, Nat.reduceEqDiff, Nat.reduceAdd, Nat.reduceSub, Nat.reduceMul, Nat.reduceDiv, Nat.reduceMod, Nat.zero_add, Nat.add_zero, beq_self_eq_true, Nat.zero_ne_one, Nat.one_ne_zero, Nat.reduceLeDiff, Int.reduceBEq, constF, unF, unary,  pickF, nilcF, faddrF, fldF, iaddrSF, arF, Bz, B3, B4, B5, B6, B7, convF, extF, lenF, eqcF, eqnF, eqN, eqPtr, isNone, loadF, storeF, allocF, callF, gets, Option.map_some, Option.bind_some, B8, B9, Ca, Cb, Cc, nbeq, nble, Cd, Ce, Cf, Cg, Ch, Ci, Cj, Ck, Cl, Cm, Cn, Co, Cp, Cq, Cr, Cs, Ct, Cu, Cv, Cw, Cx, V.w, width, unc, cmpCells, Cy, Cz, C6, C7, C8, Da, undef, List.append_nil, List.nil_append, List.cons_append, Db, Dc, resultsV, result, tup, Dd, Bool.and_true, Bool.true_and, Bool.and_self, decide_true, decide_false, Bool.not_true, Bool.not_false, Bool.true_beq, Bool.false_beq, beq_iff_eq, reduceCtorEq, Nat.succ_eq_add_one, ptr0, Int.ofNat_eq_natCast, Int.ofNat_le, Int.ofNat_lt, Int.natCast_add, De, Df, Dg, Dh, Di, List.map_cons, List.map_nil, Dj, Heap.next_add, Heap.next_set, boxF, buildF, fill, bsliceF, fillRows, List.replicate_one, Dk, Dl, Dm, Dn, Dp, Dq, Dr, Ds, Dt, Du, Dw, Dx, Dy, Dz, D2, D3, D4, D5, D6, D7, D8, D9, Ea, Eb, Ec, appF, List.length_cons, List.length_nil]
  rw [endD_ok (by kernel_rfl) (by kernel_rfl)]
  simp only [l0', Aa, Ab, Ad, Ae, Af, Ag, Ah, Ai, Aj, Ak, Al, Ao, Ap, Aq, Ar, Au, sO_p, sO_r, sO_m, sO_a, sO_c, Av, Aw, Ax, Ay, Az, sE_p, sE_r, sE_m, sE_a, sE_c, A0, A2, A3, A4, A5, A6, A7, A8, A9, Ba, Bb, Bc, Bd, Be, Bf, Bg, Bh, Bi, Bj, Bl, Bm, Bo, Bp, Bq, Br, Bs, Bt, Bu, Bv, Tr.getP_e, Bw, Bx, ↓reduceIte, Nat.reduceEqDiff, Nat.reduceAdd, Nat.reduceSub, Nat.reduceMul, Nat.reduceDiv, Nat.reduceMod, Nat.zero_add, Nat.add_zero, beq_self_eq_true, Nat.zero_ne_one, Nat.one_ne_zero, Nat.reduceLeDiff, Int.reduceBEq, constF, unF, unary,  pickF, nilcF, faddrF, fldF, iaddrSF, arF, Bz, B3, B4, B5, B6, B7, convF, extF, lenF, eqcF, eqnF, eqN, eqPtr, isNone, loadF, storeF, allocF, callF, gets, Option.map_some, Option.bind_some, B8, B9, Ca, Cb, Cc, nbeq, nble, Cd, Ce, Cf, Cg, Ch, Ci, Cj, Ck, Cl, Cm, Cn, Co, Cp, Cq, Cr, Cs, Ct, Cu, Cv, Cw, Cx, V.w, width, unc, cmpCells, Cy, Cz, C6, C7, C8, Da, undef, List.append_nil, List.nil_append, List.cons_append, Db, Dc, resultsV, result, tup, Dd, Bool.and_true, Bool.true_and, Bool.and_self, decide_true, decide_false, Bool.not_true, Bool.not_false, Bool.true_beq, Bool.false_beq, beq_iff_eq, reduceCtorEq, Nat.succ_eq_add_one, ptr0, Int.ofNat_eq_natCast, Int.ofNat_le, Int.ofNat_lt, Int.natCast_add, De, Df, Dg, Dh, Di, List.map_cons, List.map_nil, Dj, Heap.next_add, Heap.next_set, boxF, buildF, fill, bsliceF, fillRows, List.replicate_one, Dk, Dl, Dm, Dn, Dp, Dq, Dr, Ds, Dt, Du, Dw, Dx, Dy, Dz, D2, D3, D4, D5, D6, D7, D8, D9, Ea, Eb, Ec, appF, List.length_cons, List.length_nil]
  refine wp_ctx (F := fun r => seqC _ _ _ (blockC _ r)) (hloop _ ?_ ?_ ?_ ?_) ?_
  · simp only [Bv, Tr.getP_e, ↓reduceIte, Nat.reduceEqDiff, Nat.zero_ne_one, Nat.one_ne_zero, Bw, Bx, Nat.reduceAdd, Nat.zero_add, Int.ofNat_eq_natCast]
  · simp only [Bv, Tr.getP_e, ↓reduceIte, Nat.reduceEqDiff, Nat.zero_ne_one, Nat.one_ne_zero, Bw, Bx, Nat.reduceAdd, Nat.zero_add, Int.ofNat_eq_natCast]
  · simp only [Bv, Tr.getP_e, ↓reduceIte, Nat.reduceEqDiff, Nat.zero_ne_one, Nat.one_ne_zero, Bw, Bx, Nat.reduceAdd, Nat.zero_add, Int.ofNat_eq_natCast]
  · simp only [Bv, Tr.getP_e, ↓reduceIte, Nat.reduceEqDiff, Nat.zero_ne_one, Nat.one_ne_zero, Bw, Bx, Nat.reduceAdd, Nat.zero_add, Int.ofNat_eq_natCast]
  rintro x ⟨t, HH, d⟩ ⟨rfl, rfl, q3, p, o, l', hG, hm⟩
  dsimp only at q3 hG
  have hl' : l' ≠ [] := fun e => by
    have := congrArg List.length hm
    rw [e] at this
    have h0 : 0 < l.length := List.length_pos_iff.2 hl
    simp at this; omega
  obtain ⟨ds', rfl, rfl, hR, hN⟩ := Grow.rep (r := false) (B := B) hG hl' hm
  simp only [q3, Aa, Ab, Ad, Ae, Af, Ag, Ah, Ai, Aj, Ak, Al, Ao, Ap, Aq, Ar, Au, sO_p, sO_r, sO_m, sO_a, sO_c, Av, Aw, Ax, Ay, Az, sE_p, sE_r, sE_m, sE_a, sE_c, A0, A2, A3, A4, A5, A6, A7, A8, A9, Ba, Bb, Bc, Bd, Be, Bf, Bg, Bh, Bi, Bj, Bl, Bm, Bo, Bp, Bq, Br, Bs, Bt, Bu, Bv, Tr.getP_e, Bw, Bx, ↓reduceIte, Nat.reduceEqDiff, Nat.reduceAdd, Nat.reduceSub, Nat.reduceMul, Nat.reduceDiv, Nat.reduceMod, Nat.zero_add, Nat.add_zero, beq_self_eq_true, Nat.zero_ne_one, Nat.one_ne_zero, Nat.reduceLeDiff, Int.reduceBEq, constF, unF, unary,  pickF, nilcF, faddrF, fldF, iaddrSF, arF, Bz, B3, B4, B5, B6, B7, convF, extF, lenF, eqcF, eqnF, eqN, eqPtr, isNone, loadF, storeF, allocF, callF, gets, Option.map_some, Option.bind_some, B8, B9, Ca, Cb, Cc, nbeq, nble, Cd, Ce, Cf, Cg, Ch, Ci, Cj, Ck, Cl, Cm, Cn, Co, Cp, Cq, Cr, Cs, Ct, Cu, Cv, Cw, Cx, V.w, width, unc, cmpCells, Cy, Cz, C6, C7, C8, Da, undef, List.append_nil, List.nil_append, List.cons_append, Db, Dc, resultsV, result, tup, Dd, Bool.and_true, Bool.true_and, Bool.and_self, decide_true, decide_false, Bool.not_true, Bool.not_false, Bool.true_beq, Bool.false_beq, beq_iff_eq, reduceCtorEq, Nat.succ_eq_add_one, ptr0, Int.ofNat_eq_natCast, Int.ofNat_le, Int.ofNat_lt, Int.natCast_add, De, Df, Dg, Dh, Di, List.map_cons, List.map_nil, Dj, Heap.next_add, Heap.next_set, boxF, buildF, fill, bsliceF, fillRows, List.replicate_one, Dk, Dl, Dm, Dn, Dp, Dq, Dr, Ds, Dt, Du, Dw, Dx, Dy, Dz, D2, D3, D4, D5, D6, D7, D8, D9, Ea, Eb, Ec, appF, List.length_cons, List.length_nil]
  exact ⟨trivial, .inr trivial, _, rfl, _, ds', l', rfl, hR, hN, hG.t⟩

end Go.Proofs.Ytcelngepfdchiaa.disk

