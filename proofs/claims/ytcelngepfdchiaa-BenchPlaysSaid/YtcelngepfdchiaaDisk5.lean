/-
  Devices in the machine's heap: a copy; several beside each other.
-/
import Derived.Test.YtcelngepfdchiaaDisk4
set_option linter.unusedVariables false
set_option linter.unusedSimpArgs false
set_option maxRecDepth 10000
namespace Go.Proofs.Ytcelngepfdchiaa.disk
open Go.Am

/-- (*ashlar/disk.Disk).Copy -/
noncomputable def c26 : CFn := ⟨[.tmp (Tr.path 2)],
 .seq (.reg [
  ⟨(some (Tr.path 2)), (some (.p (S.get (.c (.ptr none))))), none, []⟩]) (
 .seq (.seq (.reg [
   ⟨(some (Tr.path 3)), (some (.p (S.get (.t (Tr.path 0))))), none, [Tr.path 0]⟩,
   ⟨(some (Tr.path 4)), (some (.c (callF (.c (.func (.func 71) [] [])) [(.t (Tr.path 3))]))), none, [Tr.path 3]⟩]) (
  .cond (.t (Tr.path 4)) (.seq (.reg [
     ⟨(some (Tr.path 2)), (some (.p (S.get (.c (.ptr none))))), none, []⟩]) (
    .ret)) (.skip))) (
 .seq (.regD [
  ⟨(some (Tr.path 5)), (some (.p (S.get (.t (Tr.path 0))))), none, [Tr.path 0]⟩,
  ⟨(some (Tr.path 6)), (some (.p (nilcF (.t (Tr.path 5))))), none, [Tr.path 5]⟩,
  ⟨(some (Tr.path 7)), (some (.p (faddrF (.t (Tr.path 6)) 0))), none, [Tr.path 6]⟩,
  ⟨(some (Tr.path 8)), (some (.r (loadF (.t (Tr.path 7)) 1 .sc))), none, [Tr.path 7]⟩,
  ⟨(some (Tr.path 9)), (some (.c (callF (.c (.func (.func 72) [] [])) [(.t (Tr.path 8))]))), none, [Tr.path 8]⟩,
  ⟨(some (Tr.path 10)), (some (.p (S.get (.t (Tr.path 0))))), none, [Tr.path 0]⟩,
  ⟨(some (Tr.path 11)), (some (.p (nilcF (.t (Tr.path 10))))), none, [Tr.path 10]⟩,
  ⟨(some (Tr.path 12)), (some (.p (faddrF (.t (Tr.path 11)) 1))), none, [Tr.path 11]⟩,
  ⟨(some (Tr.path 13)), (some (.r (loadF (.t (Tr.path 12)) 1 .sc))), none, [Tr.path 12]⟩,
  ⟨(some (Tr.path 14)), (some (.c (callF (.c (.func (.func 73) [] [])) [(.t (Tr.path 13))]))), none, [Tr.path 13]⟩,
  ⟨(some (Tr.path 15)), (some (.p (S.get (.t (Tr.path 0))))), none, [Tr.path 0]⟩,
  ⟨(some (Tr.path 16)), (some (.p (nilcF (.t (Tr.path 15))))), none, [Tr.path 15]⟩,
  ⟨(some (Tr.path 17)), (some (.p (faddrF (.t (Tr.path 16)) 2))), none, [Tr.path 16]⟩,
  ⟨(some (Tr.path 18)), (some (.r (loadF (.t (Tr.path 17)) 1 .sc))), none, [Tr.path 17]⟩,
  ⟨(some (Tr.path 19)), (some (.p (buildF [.slice none 0 0 0, .slice none 0 0 0, .bool false] .ag [(0, 1, (.t (Tr.path 9))), (1, 1, (.t (Tr.path 14))), (2, 1, (.t (Tr.path 18)))]))), none, [Tr.path 9, Tr.path 14, Tr.path 18]⟩,
  ⟨(some (Tr.path 20)), (some (.m (boxF 3 (.t (Tr.path 19))))), none, [Tr.path 19]⟩,
  ⟨(some (Tr.path 2)), (some (.p (S.get (.t (Tr.path 20))))), none, [Tr.path 20]⟩] [0, 1, 3, 7, 15, 0, 32, 96, 224, 511, 0, 1024, 3072, 7168, 16383, 32767, 65535]) (
 .ret)))⟩
theorem c26_eq : fnOf Try.prog 26 = some c26 := by kernel_rfl

/-- slices.Clone[[]ashlar/api.Block,ashlar/api.Block] -/
noncomputable def c72 : CFn := ⟨[.tmp (Tr.path 2)],
 .seq (.reg [
  ⟨(some (Tr.path 2)), (some (.p (S.get (.c (.slice none 0 0 0))))), none, []⟩]) (
 .seq (.seq (.reg [
   ⟨(some (Tr.path 3)), (some (.p (S.get (.t (Tr.path 0))))), none, [Tr.path 0]⟩,
   ⟨(some (Tr.path 4)), (some (.r (eqnF false .slice (.t (Tr.path 3)) (.c (.slice none 0 0 0))))), none, [Tr.path 3]⟩]) (
  .cond (.t (Tr.path 4)) (.seq (.reg [
     ⟨(some (Tr.path 2)), (some (.p (S.get (.c (.slice none 0 0 0))))), none, []⟩]) (
    .ret)) (.skip))) (
 .seq (.reg [
  ⟨(some (Tr.path 5)), (some (.m (bsliceF 0 64 [.blk 0] []))), none, []⟩,
  ⟨(some (Tr.path 6)), (some (.p (S.get (.t (Tr.path 0))))), none, [Tr.path 0]⟩,
  ⟨(some (Tr.path 7)), (some (.a (appF 64 64 (.t (Tr.path 5)) (.t (Tr.path 6))))), none, [Tr.path 5, Tr.path 6]⟩,
  ⟨(some (Tr.path 2)), (some (.p (S.get (.t (Tr.path 7))))), none, [Tr.path 7]⟩]) (
 .ret)))⟩
theorem c72_eq : fnOf Try.prog 72 = some c72 := by kernel_rfl

/-- slices.Clone[[]ashlar/disk.write,ashlar/disk.write] -/
noncomputable def c73 : CFn := ⟨[.tmp (Tr.path 2)],
 .seq (.reg [
  ⟨(some (Tr.path 2)), (some (.p (S.get (.c (.slice none 0 0 0))))), none, []⟩]) (
 .seq (.seq (.reg [
   ⟨(some (Tr.path 3)), (some (.p (S.get (.t (Tr.path 0))))), none, [Tr.path 0]⟩,
   ⟨(some (Tr.path 4)), (some (.r (eqnF false .slice (.t (Tr.path 3)) (.c (.slice none 0 0 0))))), none, [Tr.path 3]⟩]) (
  .cond (.t (Tr.path 4)) (.seq (.reg [
     ⟨(some (Tr.path 2)), (some (.p (S.get (.c (.slice none 0 0 0))))), none, []⟩]) (
    .ret)) (.skip))) (
 .seq (.reg [
  ⟨(some (Tr.path 5)), (some (.m (bsliceF 0 65 [.int .i64 0, .blk 0] []))), none, []⟩,
  ⟨(some (Tr.path 6)), (some (.p (S.get (.t (Tr.path 0))))), none, [Tr.path 0]⟩,
  ⟨(some (Tr.path 7)), (some (.a (appF 65 72 (.t (Tr.path 5)) (.t (Tr.path 6))))), none, [Tr.path 5, Tr.path 6]⟩,
  ⟨(some (Tr.path 2)), (some (.p (S.get (.t (Tr.path 7))))), none, [Tr.path 7]⟩]) (
 .ret)))⟩
theorem c73_eq : fnOf Try.prog 73 = some c73 := by kernel_rfl


def Sep (b : Bk) (y : Lay) (D : Dev) (b' : Bk) (y' : Lay) (D' : Dev) : Prop := ∀ c, Foot b y D c → ¬ Foot b' y' D' c
theorem DevAt.foot_old {H : Heap} {b : Bk} {y : Lay} {D : Dev} (h : DevAt H b y D) : ∀ c, Foot b y D c → H.Old c := by
  rintro c (rfl | rfl | ⟨hl, rfl⟩)
  · exact h.old.1
  · exact h.old.2.1
  · exact h.old.2.2 hl
theorem Sep.symm {b b' : Bk} {y y' : Lay} {D D' : Dev} (h : Sep b y D b' y' D') : Sep b' y' D' b y D := fun c h1 h2 => h c h2 h1
theorem Sep.dev {H H' : Heap} {b b' : Bk} {y y' : Lay} {D D' : Dev} (hs : Sep b y D b' y' D') (h' : DevAt H b' y' D') (k : Turns (Foot b y D) H H') : DevAt H' b' y' D' :=
  h'.turns k (fun e => hs _ e (.inl rfl)) (fun e => hs _ e (.inr (.inl rfl))) (fun hl e => hs _ e (.inr (.inr ⟨hl, rfl⟩)))
theorem Sep.next {H H' : Heap} {b b' : Bk} {y y' y1 : Lay} {D D' D1 : Dev} (hs : Sep b y D b' y' D') (h' : DevAt H b' y' D') (k : Next H b y D H' y1 D1) : Sep b y1 D1 b' y' D' := by
  rintro c (rfl | rfl | ⟨hl, rfl⟩) hc
  · exact hs _ (.inl rfl) hc
  · rw [k.s] at hc; exact hs _ (.inr (.inl rfl)) hc
  · rcases k.l hl with ⟨h1, h2⟩ | h1
    · rw [h2] at hc; exact hs _ (.inr (.inr ⟨h1, rfl⟩)) hc
    · exact h1 (h'.foot_old _ hc)
theorem sep_fresh {H : Heap} {b b' : Bk} {y y' : Lay} {D D' : Dev} (h : DevAt H b y D) (hF : Fresh H b' y' D') : Sep b y D b' y' D' := fun c hc hc' => hF.foot c hc' (h.foot_old c hc)

theorem elems_rows {H : Heap} {b : Bk} {ro : Bool} {sz : Nat} (hsz : 0 < sz) {rows : List (List V)} (h : H.get b = some (.rows ro sz rows)) (hr : ∀ r ∈ rows, cut r 0 sz = some r) : ∀ (n j : Nat), j + n ≤ rows.length → elems H b sz n (j * sz) = some ((rows.drop j).take n)
  | 0, j, _ => by simp [elems]
  | n + 1, j, hl => by
    have hj : j < rows.length := by omega
    have e1 : loadAt H ⟨b, j * sz⟩ sz = some rows[j] := by
      rw [loadAt_eq h (r := rows[j]) (nth_of (by rw [Nat.mul_div_cancel _ hsz]; simp [hj])), Nat.mul_mod_left]
      exact hr _ (List.getElem_mem hj)
    simp only [elems, e1, B8]
    rw [show j * sz + sz = (j + 1) * sz by rw [Nat.add_mul, Nat.one_mul], elems_rows hsz h hr n (j + 1) (by omega)]
    rw [List.drop_eq_getElem_cons hj]
    rfl

theorem cloneS_ok {H : Heap} {s : Bk} {S : List Nat} (hg : H.get s = some (.rows false 64 (sureRows S))) (ho : H.Old s) (hS : S ≠ []) (hmax : S.length < 1000000) (so : Nat) (lf m : Nat) :
    ret (callS Try.prog S0 lf (m + 1) 72 [.slice (some ⟨s, 0⟩) S.length S.length so] H) fun v H' => v = .slice (some ⟨.run (H.next + 1), 0⟩) S.length S.length 64 ∧ H' = (H.add (.rows false 64 [])).add (.rows false 64 (sureRows S)) := by
  have hlen : (sureRows S).length = S.length := by simp [sureRows]
  have hg1 : (H.add (.rows false 64 [])).get s = some (.rows false 64 (sureRows S)) := by
    rw [Heap.get_add, if_neg (fun e : s = .run H.next => Heap.not_old (Nat.le_refl _) (by rw [← e]; exact ho)), hg]
  have he := elems_rows (sz := 64) (by decide) hg1 (by
    intro r hr
    simp only [sureRows, List.mem_map] at hr
    obtain ⟨x, _, rfl⟩ := hr
    exact Dm _ _) S.length 0 (by omega)
  rw [Nat.zero_mul, List.drop_zero, ← hlen, List.take_length, hlen] at he
  have hpos : S.length ≠ 0 := by simpa using hS
  have ha : appendV 64 64 (H.add (.rows false 64 [])) (.slice (some ⟨.run H.next, 0⟩) 0 0 0) (.slice (some ⟨s, 0⟩) S.length S.length so) = some (.slice (some ⟨.run (H.next + 1), 0⟩) S.length S.length 64, (H.add (.rows false 64 [])).add (.rows false 64 (sureRows S))) := by
    have e1 : S.length * 64 ≤ 1099511627776 := by omega
    have e2 : S.length ≤ 1099511627776 := by omega
    simp only [appendV, lenOf, nbeq, nble, firstE, he]
    simp [hpos, hS, B9, B8, e1, e2, elems]
  refine ret_call rfl c72_eq ?_
  simp only [c72, ha, eqSl, List.replicate_zero, Aa, Ab, Ad, Ae, Af, Ag, Ah, Ai, Aj, Ak, Al, Ao, Ap, Aq, Ar, Au, sO_p, sO_r, sO_m, sO_a, sO_c, Av, Aw, Ax, Ay, Az, sE_p, sE_r, sE_m, sE_a, sE_c, A0, A2, A3, A4, A5, A6, A7, A8, A9, Ba, Bb, Bc, Bd, Be, Bf, Bg, Bh, Bi, Bj, Bl, Bm, Bo, Bp, Bq, Br, Bs, Bt, Bu, Bv, Tr.getP_e, Bw, Bx, ↓reduceIte, Nat.reduceEqDiff, Nat.reduceAdd, Nat.reduceSub, Nat.reduceMul, Nat.reduceDiv, Nat.reduceMod, Nat.zero_add, Nat.add_zero, beq_self_eq_true, Nat.zero_ne_one, Nat.one_ne_zero, Nat.reduceLeDiff, Int.reduceBEq, constF, unF, unary,  pickF, nilcF, faddrF, fldF, iaddrSF, arF, Bz, B3, B4, B5, B6, B7, convF, extF, lenF, eqcF, eqnF, eqN, eqPtr, isNone, loadF, storeF, allocF, callF, gets, Option.map_some, Option.bind_some, B8, B9, Ca, Cb, Cc, nbeq, nble, Cd, Ce, Cf, Cg, Ch, Ci, Cj, Ck, Cl, Cm, Cn, Co, Cp, Cq, Cr, Cs, Ct, Cu, Cv, Cw, Cx, V.w, width, unc, cmpCells, Cy, Cz, C6, C7, C8, Da, undef, List.append_nil, List.nil_append, List.cons_append, Db, Dc, resultsV, result, tup, Dd, Bool.and_true, Bool.true_and, Bool.and_self, decide_true, decide_false, Bool.not_true, Bool.not_false, Bool.true_beq, Bool.false_beq, beq_iff_eq, reduceCtorEq, Nat.succ_eq_add_one, ptr0, Int.ofNat_eq_natCast, Int.ofNat_le, Int.ofNat_lt, Int.natCast_add, De, Df, Dg, Dh, Di, List.map_cons, List.map_nil, Dj, Heap.next_add, Heap.next_set, boxF, buildF, fill, bsliceF, fillRows, List.replicate_one, Dk, Dl, Dm, Dn, Dp, Dq, Dr, Ds, Dt, Du, Dw, Dx, Dy, Dz, D2, D3, D4, D5, D6, D7, D8, D9, Ea, Eb, Ec, appF, List.length_cons, List.length_nil]
  exact ⟨trivial, .inr trivial, _, rfl, rfl, trivial⟩

theorem cloneL_nil (H : Heap) (lf m : Nat) : callS Try.prog S0 lf (m + 1) 73 [.slice none 0 0 0] H = some (.v (.slice none 0 0 0), H) := by
  obtain ⟨v, H', e, rfl, rfl⟩ : ret (callS Try.prog S0 lf (m + 1) 73 [.slice none 0 0 0] H) fun v H' => v = .slice none 0 0 0 ∧ H' = H := by
    refine ret_call rfl c73_eq ?_
    simp only [c73, eqSl, Aa, Ab, Ad, Ae, Af, Ag, Ah, Ai, Aj, Ak, Al, Ao, Ap, Aq, Ar, Au, sO_p, sO_r, sO_m, sO_a, sO_c, Av, Aw, Ax, Ay, Az, sE_p, sE_r, sE_m, sE_a, sE_c, A0, A2, A3, A4, A5, A6, A7, A8, A9, Ba, Bb, Bc, Bd, Be, Bf, Bg, Bh, Bi, Bj, Bl, Bm, Bo, Bp, Bq, Br, Bs, Bt, Bu, Bv, Tr.getP_e, Bw, Bx, ↓reduceIte, Nat.reduceEqDiff, Nat.reduceAdd, Nat.reduceSub, Nat.reduceMul, Nat.reduceDiv, Nat.reduceMod, Nat.zero_add, Nat.add_zero, beq_self_eq_true, Nat.zero_ne_one, Nat.one_ne_zero, Nat.reduceLeDiff, Int.reduceBEq, constF, unF, unary,  pickF, nilcF, faddrF, fldF, iaddrSF, arF, Bz, B3, B4, B5, B6, B7, convF, extF, lenF, eqcF, eqnF, eqN, eqPtr, isNone, loadF, storeF, allocF, callF, gets, Option.map_some, Option.bind_some, B8, B9, Ca, Cb, Cc, nbeq, nble, Cd, Ce, Cf, Cg, Ch, Ci, Cj, Ck, Cl, Cm, Cn, Co, Cp, Cq, Cr, Cs, Ct, Cu, Cv, Cw, Cx, V.w, width, unc, cmpCells, Cy, Cz, C6, C7, C8, Da, undef, List.append_nil, List.nil_append, List.cons_append, Db, Dc, resultsV, result, tup, Dd, Bool.and_true, Bool.true_and, Bool.and_self, decide_true, decide_false, Bool.not_true, Bool.not_false, Bool.true_beq, Bool.false_beq, beq_iff_eq, reduceCtorEq, Nat.succ_eq_add_one, ptr0, Int.ofNat_eq_natCast, Int.ofNat_le, Int.ofNat_lt, Int.natCast_add, De, Df, Dg, Dh, Di, List.map_cons, List.map_nil, Dj, Heap.next_add, Heap.next_set, boxF, buildF, fill, bsliceF, fillRows, List.replicate_one, Dk, Dl, Dm, Dn, Dp, Dq, Dr, Ds, Dt, Du, Dw, Dx, Dy, Dz, D2, D3, D4, D5, D6, D7, D8, D9, Ea, Eb, Ec, appF, List.length_cons, List.length_nil]
    exact ⟨trivial, .inr trivial, _, rfl, rfl, trivial⟩
  exact e

theorem cloneL_ok {H : Heap} {l : Bk} {L : List (Nat × Nat)} (hg : H.get l = some (.rows false 65 (looseRows L))) (ho : H.Old l) (hL : L ≠ []) (hmax : L.length < 1000000) (lf m : Nat) :
    ret (callS Try.prog S0 lf (m + 1) 73 [.slice (some ⟨l, 0⟩) L.length L.length 65] H) fun v H' => v = .slice (some ⟨.run (H.next + 1), 0⟩) L.length L.length 65 ∧ H' = (H.add (.rows false 65 [])).add (.rows false 65 (looseRows L)) := by
  have hlen : (looseRows L).length = L.length := by simp [looseRows]
  have hg1 : (H.add (.rows false 65 [])).get l = some (.rows false 65 (looseRows L)) := by
    rw [Heap.get_add, if_neg (fun e : l = .run H.next => Heap.not_old (Nat.le_refl _) (by rw [← e]; exact ho)), hg]
  have he := elems_rows (sz := 65) (by decide) hg1 (by
    intro r hr
    simp only [looseRows, List.mem_map] at hr
    obtain ⟨x, _, rfl⟩ := hr
    exact Dn _ _ _) L.length 0 (by omega)
  rw [Nat.zero_mul, List.drop_zero, ← hlen, List.take_length, hlen] at he
  have hpos : L.length ≠ 0 := by simpa using hL
  have ha : appendV 65 72 (H.add (.rows false 65 [])) (.slice (some ⟨.run H.next, 0⟩) 0 0 0) (.slice (some ⟨l, 0⟩) L.length L.length 65) = some (.slice (some ⟨.run (H.next + 1), 0⟩) L.length L.length 65, (H.add (.rows false 65 [])).add (.rows false 65 (looseRows L))) := by
    have e1 : L.length * 72 ≤ 1099511627776 := by omega
    have e2 : L.length ≤ 1099511627776 := by omega
    simp only [appendV, lenOf, nbeq, nble, firstE, he]
    simp [hpos, hL, B9, B8, e1, e2, elems]
  refine ret_call rfl c73_eq ?_
  simp only [c73, ha, eqSl, List.replicate_zero, Aa, Ab, Ad, Ae, Af, Ag, Ah, Ai, Aj, Ak, Al, Ao, Ap, Aq, Ar, Au, sO_p, sO_r, sO_m, sO_a, sO_c, Av, Aw, Ax, Ay, Az, sE_p, sE_r, sE_m, sE_a, sE_c, A0, A2, A3, A4, A5, A6, A7, A8, A9, Ba, Bb, Bc, Bd, Be, Bf, Bg, Bh, Bi, Bj, Bl, Bm, Bo, Bp, Bq, Br, Bs, Bt, Bu, Bv, Tr.getP_e, Bw, Bx, ↓reduceIte, Nat.reduceEqDiff, Nat.reduceAdd, Nat.reduceSub, Nat.reduceMul, Nat.reduceDiv, Nat.reduceMod, Nat.zero_add, Nat.add_zero, beq_self_eq_true, Nat.zero_ne_one, Nat.one_ne_zero, Nat.reduceLeDiff, Int.reduceBEq, constF, unF, unary,  pickF, nilcF, faddrF, fldF, iaddrSF, arF, Bz, B3, B4, B5, B6, B7, convF, extF, lenF, eqcF, eqnF, eqN, eqPtr, isNone, loadF, storeF, allocF, callF, gets, Option.map_some, Option.bind_some, B8, B9, Ca, Cb, Cc, nbeq, nble, Cd, Ce, Cf, Cg, Ch, Ci, Cj, Ck, Cl, Cm, Cn, Co, Cp, Cq, Cr, Cs, Ct, Cu, Cv, Cw, Cx, V.w, width, unc, cmpCells, Cy, Cz, C6, C7, C8, Da, undef, List.append_nil, List.nil_append, List.cons_append, Db, Dc, resultsV, result, tup, Dd, Bool.and_true, Bool.true_and, Bool.and_self, decide_true, decide_false, Bool.not_true, Bool.not_false, Bool.true_beq, Bool.false_beq, beq_iff_eq, reduceCtorEq, Nat.succ_eq_add_one, ptr0, Int.ofNat_eq_natCast, Int.ofNat_le, Int.ofNat_lt, Int.natCast_add, De, Df, Dg, Dh, Di, List.map_cons, List.map_nil, Dj, Heap.next_add, Heap.next_set, boxF, buildF, fill, bsliceF, fillRows, List.replicate_one, Dk, Dl, Dm, Dn, Dp, Dq, Dr, Ds, Dt, Du, Dw, Dx, Dy, Dz, D2, D3, D4, D5, D6, D7, D8, D9, Ea, Eb, Ec, appF, List.length_cons, List.length_nil]
  exact ⟨trivial, .inr trivial, _, rfl, rfl, trivial⟩

/-- the loose writes' copy -/
theorem cloneL {H : Heap} {b : Bk} {y : Lay} {D : Dev} (h : DevAt H b y D) (hmax : D.L.length < 1000000) (lf m : Nat) :
    ∃ p H', callS Try.prog S0 lf (m + 1) 73 [.slice y.p D.L.length D.L.length y.o] H = some (.v (.slice p D.L.length D.L.length y.o), H') ∧ Turns Z H H' ∧ (D.L = [] → p = none ∧ y.o = 0) ∧ (D.L ≠ [] → ∃ k, H.next ≤ k ∧ k < H'.next ∧ p = some ⟨.run k, 0⟩ ∧ y.o = 65 ∧ H'.get (.run k) = some (.rows false 65 (looseRows D.L))) := by
  by_cases hL : D.L = []
  · obtain ⟨hp, ho⟩ := h.nil hL
    refine ⟨none, H, ?_, Turns.refl _ _, fun _ => ⟨rfl, ho⟩, fun e => absurd hL e⟩
    rw [hp, ho, hL]
    exact cloneL_nil H lf m
  · obtain ⟨hp, ho, hg⟩ := h.loose hL
    obtain ⟨v, H', e, rfl, rfl⟩ := cloneL_ok hg (h.old.2.2 hL) hL hmax lf m
    refine ⟨_, _, by rw [hp, ho]; exact e, ((Turns.refl Z H).addm _).addm _, fun e => absurd e hL, fun _ => ⟨H.next + 1, by omega, by simp, rfl, ho, ?_⟩⟩
    rw [Heap.get_add, if_pos (by simp)]

theorem copy_ok {H : Heap} {b : Bk} {y : Lay} {D : Dev} (h : DevAt H b y D) (hS : D.S ≠ []) (hSm : D.S.length < 1000000) (hmax : D.L.length < 1000000) (lf m : Nat) :
    ret (callS Try.prog S0 lf (m + 2) 26 [.ptr (some ⟨b, 0⟩)] H) fun v H' => ∃ b' y', v = .ptr (some ⟨b', 0⟩) ∧ DevAt H' b' y' D ∧ Fresh H b' y' D ∧ Turns Z H H' := by
  refine ret_call rfl c26_eq ?_
  obtain ⟨v, H1, e, rfl, e1⟩ := none_ret h hS lf m
  subst e1
  obtain ⟨v2, H2, e2, rfl, rfl⟩ := cloneS_ok h.sure h.old.2.1 hS hSm y.so lf m
  have hT2 : Turns Z H1 ((H1.add (.rows false 64 [])).add (.rows false 64 (sureRows D.S))) := ((Turns.refl Z H1).addm _).addm _
  have h2 := h.turns hT2 id id (fun _ => id)
  obtain ⟨p, H3, e3, hT3, hpn, hpl⟩ := cloneL h2 hmax lf m
  have h3 := h2.turns hT3 id id (fun _ => id)
  have l0 := load0 h
  have l1 := load1 h
  have l1' := load1 h2
  have l2 := load2 h
  have l2' := load2 h2
  have l2'' := load2 h3
  have gS : ((H1.add (.rows false 64 [])).add (.rows false 64 (sureRows D.S))).get (.run (H1.next + 1)) = some (.rows false 64 (sureRows D.S)) := by rw [Heap.get_add, if_pos (by simp)]
  have oS : ((H1.add (.rows false 64 [])).add (.rows false 64 (sureRows D.S))).Old (.run (H1.next + 1)) := by show _ < _; simp
  have n2 : ((H1.add (.rows false 64 [])).add (.rows false 64 (sureRows D.S))).next = H1.next + 2 := rfl
  generalize hH2 : (H1.add (.rows false 64 [])).add (.rows false 64 (sureRows D.S)) = H2 at *
  simp only [c26, e, e2, e3, l0, l1, l1', l2'', Aa, Ab, Ad, Ae, Af, Ag, Ah, Ai, Aj, Ak, Al, Ao, Ap, Aq, Ar, Au, sO_p, sO_r, sO_m, sO_a, sO_c, Av, Aw, Ax, Ay, Az, sE_p, sE_r, sE_m, sE_a, sE_c, A0, A2, A3, A4, A5, A6, A7, A8, A9, Ba, Bb, Bc, Bd, Be, Bf, Bg, Bh, Bi, Bj, Bl, Bm, Bo, Bp, Bq, Br, Bs, Bt, Bu, Bv, Tr.getP_e, Bw, Bx, ↓reduceIte, Nat.reduceEqDiff, Nat.reduceAdd, Nat.reduceSub, Nat.reduceMul, Nat.reduceDiv, Nat.reduceMod, Nat.zero_add, Nat.add_zero, beq_self_eq_true, Nat.zero_ne_one, Nat.one_ne_zero, Nat.reduceLeDiff, Int.reduceBEq, constF, unF, unary,  pickF, nilcF, faddrF, fldF, iaddrSF, arF, Bz, B3, B4, B5, B6, B7, convF, extF, lenF, eqcF, eqnF, eqN, eqPtr, isNone, loadF, storeF, allocF, callF, gets, Option.map_some, Option.bind_some, B8, B9, Ca, Cb, Cc, nbeq, nble, Cd, Ce, Cf, Cg, Ch, Ci, Cj, Ck, Cl, Cm, Cn, Co, Cp, Cq, Cr, Cs, Ct, Cu, Cv, Cw, Cx, V.w, width, unc, cmpCells, Cy, Cz, C6, C7, C8, Da, undef, List.append_nil, List.nil_append, List.cons_append, Db, Dc, resultsV, result, tup, Dd, Bool.and_true, Bool.true_and, Bool.and_self, decide_true, decide_false, Bool.not_true, Bool.not_false, Bool.true_beq, Bool.false_beq, beq_iff_eq, reduceCtorEq, Nat.succ_eq_add_one, ptr0, Int.ofNat_eq_natCast, Int.ofNat_le, Int.ofNat_lt, Int.natCast_add, De, Df, Dg, Dh, Di, List.map_cons, List.map_nil, Dj, Heap.next_add, Heap.next_set, boxF, buildF, fill, bsliceF, fillRows, List.replicate_one, Dk, Dl, Dm, Dn, Dp, Dq, Dr, Ds, Dt, Du, Dw, Dx, Dy, Dz, D2, D3, D4, D5, D6, D7, D8, D9, Ea, Eb, Ec, appF, List.length_cons, List.length_nil]
  rw [endD_q (q := [(loadF (.t (Tr.path 12)) 1 .sc (Tr.setP (Tr.path 12) (.ptr (some ⟨b, 1⟩)) .e) H1, some (.slice y.p D.L.length D.L.length y.o)),
      (loadF (.t (Tr.path 12)) 1 .sc (Tr.setP (Tr.path 12) (.ptr (some ⟨b, 1⟩)) .e) H2, some (.slice y.p D.L.length D.L.length y.o)),
      (loadF (.t (Tr.path 17)) 1 .sc (Tr.setP (Tr.path 17) (.ptr (some ⟨b, 2⟩)) .e) H1, some (.bool D.dead)),
      (loadF (.t (Tr.path 17)) 1 .sc (Tr.setP (Tr.path 17) (.ptr (some ⟨b, 2⟩)) .e) H2, some (.bool D.dead)),
      (loadF (.t (Tr.path 17)) 1 .sc (Tr.setP (Tr.path 17) (.ptr (some ⟨b, 2⟩)) .e) H2, some (.bool D.dead)),
      (loadF (.t (Tr.path 17)) 1 .sc (Tr.setP (Tr.path 17) (.ptr (some ⟨b, 2⟩)) .e) H3, some (.bool D.dead))]) (by kernel_rfl) (by kernel_rfl)]
  simp only [Aa, Ab, Ad, Ae, Af, Ag, Ah, Ai, Aj, Ak, Al, Ao, Ap, Aq, Ar, Au, sO_p, sO_r, sO_m, sO_a, sO_c, Av, Aw, Ax, Ay, Az, sE_p, sE_r, sE_m, sE_a, sE_c, A0, A2, A3, A4, A5, A6, A7, A8, A9, Ba, Bb, Bc, Bd, Be, Bf, Bg, Bh, Bi, Bj, Bl, Bm, Bo, Bp, Bq, Br, Bs, Bt, Bu, Bv, Tr.getP_e, Bw, Bx, ↓reduceIte, Nat.reduceEqDiff, Nat.reduceAdd, Nat.reduceSub, Nat.reduceMul, Nat.reduceDiv, Nat.reduceMod, Nat.zero_add, Nat.add_zero, beq_self_eq_true, Nat.zero_ne_one, Nat.one_ne_zero, Nat.reduceLeDiff, Int.reduceBEq, constF, unF, unary,  pickF, nilcF, faddrF, fldF, iaddrSF, arF, Bz, B3, B4, B5, B6, B7, convF, extF, lenF, eqcF, eqnF, eqN, eqPtr, isNone, loadF, storeF, allocF, callF, gets, Option.map_some, Option.bind_some, B8, B9, Ca, Cb, Cc, nbeq, nble, Cd, Ce, Cf, Cg, Ch, Ci, Cj, Ck, Cl, Cm, Cn, Co, Cp, Cq, Cr, Cs, Ct, Cu, Cv, Cw, Cx, V.w, width, unc, cmpCells, Cy, Cz, C6, C7, C8, Da, undef, List.append_nil, List.nil_append, List.cons_append, Db, Dc, resultsV, result, tup, Dd, Bool.and_true, Bool.true_and, Bool.and_self, decide_true, decide_false, Bool.not_true, Bool.not_false, Bool.true_beq, Bool.false_beq, beq_iff_eq, reduceCtorEq, Nat.succ_eq_add_one, ptr0, Int.ofNat_eq_natCast, Int.ofNat_le, Int.ofNat_lt, Int.natCast_add, De, Df, Dg, Dh, Di, List.map_cons, List.map_nil, Dj, Heap.next_add, Heap.next_set, boxF, buildF, fill, bsliceF, fillRows, List.replicate_one, Dk, Dl, Dm, Dn, Dp, Dq, Dr, Ds, Dt, Du, Dw, Dx, Dy, Dz, D2, D3, D4, D5, D6, D7, D8, D9, Ea, Eb, Ec, appF, List.length_cons, List.length_nil]
  have hT4 : Turns Z H1 (H3.add (.rows false 3 [[.slice (some ⟨.run (H1.next + 1), 0⟩) D.S.length D.S.length 64, .slice p D.L.length D.L.length y.o, .bool D.dead]])) := (hT2.trans hT3).addm _
  have hn3 := hT3.next
  refine ⟨trivial, .inr trivial, _, rfl, .run H3.next, ⟨.run (H1.next + 1), 64, (match p with | some q => q.b | none => .run H1.next), p, y.o⟩, rfl, ?_, ?_, ?_⟩
  · refine ⟨?_, ?_, hpn, fun hL => ?_, ⟨?_, ?_, fun hL => ?_⟩, ?_, fun hL => ?_⟩
    · rw [Heap.get_owe, Heap.get_add, if_pos rfl]
    · rw [Heap.get_owe, Heap.get_add, if_neg (by simp; omega)]
      exact (hT3.same _ oS id).trans gS
    · obtain ⟨k, k1, k2, rfl, k4, k5⟩ := hpl hL
      refine ⟨rfl, k4, ?_⟩
      rw [Heap.get_owe, Heap.get_add, if_neg (by simp; omega)]
      exact k5
    · show _ < _
      simp
    · show _ < _
      simp; omega
    · obtain ⟨k, k1, k2, rfl, k4, k5⟩ := hpl hL
      show k < _
      simp; omega
    · simp; omega
    · obtain ⟨k, k1, k2, rfl, k4, k5⟩ := hpl hL
      exact ⟨by simp; omega, by simp; omega⟩
  · refine ⟨Heap.not_old (by omega), Heap.not_old (by omega), fun hL => ?_⟩
    obtain ⟨k, k1, k2, rfl, k4, k5⟩ := hpl hL
    exact Heap.not_old (by omega)
  · refine hT4.owe ?_
    intro p hp
    simp only [List.mem_cons, List.not_mem_nil, or_false] at hp
    rcases hp with rfl | rfl | rfl | rfl | rfl | rfl
    · simp only [l1, Aa, Ab, Ad, Ae, Af, Ag, Ah, Ai, Aj, Ak, Al, Ao, Ap, Aq, Ar, Au, sO_p, sO_r, sO_m, sO_a, sO_c, Av, Aw, Ax, Ay, Az, sE_p, sE_r, sE_m, sE_a, sE_c, A0, A2, A3, A4, A5, A6, A7, A8, A9, Ba, Bb, Bc, Bd, Be, Bf, Bg, Bh, Bi, Bj, Bl, Bm, Bo, Bp, Bq, Br, Bs, Bt, Bu, Bv, Tr.getP_e, Bw, Bx, ↓reduceIte, Nat.reduceEqDiff, Nat.reduceAdd, Nat.reduceSub, Nat.reduceMul, Nat.reduceDiv, Nat.reduceMod, Nat.zero_add, Nat.add_zero, beq_self_eq_true, Nat.zero_ne_one, Nat.one_ne_zero, Nat.reduceLeDiff, Int.reduceBEq, constF, unF, unary,  pickF, nilcF, faddrF, fldF, iaddrSF, arF, Bz, B3, B4, B5, B6, B7, convF, extF, lenF, eqcF, eqnF, eqN, eqPtr, isNone, loadF, storeF, allocF, callF, gets, Option.map_some, Option.bind_some, B8, B9, Ca, Cb, Cc, nbeq, nble, Cd, Ce, Cf, Cg, Ch, Ci, Cj, Ck, Cl, Cm, Cn, Co, Cp, Cq, Cr, Cs, Ct, Cu, Cv, Cw, Cx, V.w, width, unc, cmpCells, Cy, Cz, C6, C7, C8, Da, undef, List.append_nil, List.nil_append, List.cons_append, Db, Dc, resultsV, result, tup, Dd, Bool.and_true, Bool.true_and, Bool.and_self, decide_true, decide_false, Bool.not_true, Bool.not_false, Bool.true_beq, Bool.false_beq, beq_iff_eq, reduceCtorEq, Nat.succ_eq_add_one, ptr0, Int.ofNat_eq_natCast, Int.ofNat_le, Int.ofNat_lt, Int.natCast_add, De, Df, Dg, Dh, Di, List.map_cons, List.map_nil, Dj, Heap.next_add, Heap.next_set, boxF, buildF, fill, bsliceF, fillRows, List.replicate_one, Dk, Dl, Dm, Dn, Dp, Dq, Dr, Ds, Dt, Du, Dw, Dx, Dy, Dz, D2, D3, D4, D5, D6, D7, D8, D9, Ea, Eb, Ec, appF, List.length_cons, List.length_nil]
    · simp only [l1', Aa, Ab, Ad, Ae, Af, Ag, Ah, Ai, Aj, Ak, Al, Ao, Ap, Aq, Ar, Au, sO_p, sO_r, sO_m, sO_a, sO_c, Av, Aw, Ax, Ay, Az, sE_p, sE_r, sE_m, sE_a, sE_c, A0, A2, A3, A4, A5, A6, A7, A8, A9, Ba, Bb, Bc, Bd, Be, Bf, Bg, Bh, Bi, Bj, Bl, Bm, Bo, Bp, Bq, Br, Bs, Bt, Bu, Bv, Tr.getP_e, Bw, Bx, ↓reduceIte, Nat.reduceEqDiff, Nat.reduceAdd, Nat.reduceSub, Nat.reduceMul, Nat.reduceDiv, Nat.reduceMod, Nat.zero_add, Nat.add_zero, beq_self_eq_true, Nat.zero_ne_one, Nat.one_ne_zero, Nat.reduceLeDiff, Int.reduceBEq, constF, unF, unary,  pickF, nilcF, faddrF, fldF, iaddrSF, arF, Bz, B3, B4, B5, B6, B7, convF, extF, lenF, eqcF, eqnF, eqN, eqPtr, isNone, loadF, storeF, allocF, callF, gets, Option.map_some, Option.bind_some, B8, B9, Ca, Cb, Cc, nbeq, nble, Cd, Ce, Cf, Cg, Ch, Ci, Cj, Ck, Cl, Cm, Cn, Co, Cp, Cq, Cr, Cs, Ct, Cu, Cv, Cw, Cx, V.w, width, unc, cmpCells, Cy, Cz, C6, C7, C8, Da, undef, List.append_nil, List.nil_append, List.cons_append, Db, Dc, resultsV, result, tup, Dd, Bool.and_true, Bool.true_and, Bool.and_self, decide_true, decide_false, Bool.not_true, Bool.not_false, Bool.true_beq, Bool.false_beq, beq_iff_eq, reduceCtorEq, Nat.succ_eq_add_one, ptr0, Int.ofNat_eq_natCast, Int.ofNat_le, Int.ofNat_lt, Int.natCast_add, De, Df, Dg, Dh, Di, List.map_cons, List.map_nil, Dj, Heap.next_add, Heap.next_set, boxF, buildF, fill, bsliceF, fillRows, List.replicate_one, Dk, Dl, Dm, Dn, Dp, Dq, Dr, Ds, Dt, Du, Dw, Dx, Dy, Dz, D2, D3, D4, D5, D6, D7, D8, D9, Ea, Eb, Ec, appF, List.length_cons, List.length_nil]
    · simp only [l2, Aa, Ab, Ad, Ae, Af, Ag, Ah, Ai, Aj, Ak, Al, Ao, Ap, Aq, Ar, Au, sO_p, sO_r, sO_m, sO_a, sO_c, Av, Aw, Ax, Ay, Az, sE_p, sE_r, sE_m, sE_a, sE_c, A0, A2, A3, A4, A5, A6, A7, A8, A9, Ba, Bb, Bc, Bd, Be, Bf, Bg, Bh, Bi, Bj, Bl, Bm, Bo, Bp, Bq, Br, Bs, Bt, Bu, Bv, Tr.getP_e, Bw, Bx, ↓reduceIte, Nat.reduceEqDiff, Nat.reduceAdd, Nat.reduceSub, Nat.reduceMul, Nat.reduceDiv, Nat.reduceMod, Nat.zero_add, Nat.add_zero, beq_self_eq_true, Nat.zero_ne_one, Nat.one_ne_zero, Nat.reduceLeDiff, Int.reduceBEq, constF, unF, unary,  pickF, nilcF, faddrF, fldF, iaddrSF, arF, Bz, B3, B4, B5, B6, B7, convF, extF, lenF, eqcF, eqnF, eqN, eqPtr, isNone, loadF, storeF, allocF, callF, gets, Option.map_some, Option.bind_some, B8, B9, Ca, Cb, Cc, nbeq, nble, Cd, Ce, Cf, Cg, Ch, Ci, Cj, Ck, Cl, Cm, Cn, Co, Cp, Cq, Cr, Cs, Ct, Cu, Cv, Cw, Cx, V.w, width, unc, cmpCells, Cy, Cz, C6, C7, C8, Da, undef, List.append_nil, List.nil_append, List.cons_append, Db, Dc, resultsV, result, tup, Dd, Bool.and_true, Bool.true_and, Bool.and_self, decide_true, decide_false, Bool.not_true, Bool.not_false, Bool.true_beq, Bool.false_beq, beq_iff_eq, reduceCtorEq, Nat.succ_eq_add_one, ptr0, Int.ofNat_eq_natCast, Int.ofNat_le, Int.ofNat_lt, Int.natCast_add, De, Df, Dg, Dh, Di, List.map_cons, List.map_nil, Dj, Heap.next_add, Heap.next_set, boxF, buildF, fill, bsliceF, fillRows, List.replicate_one, Dk, Dl, Dm, Dn, Dp, Dq, Dr, Ds, Dt, Du, Dw, Dx, Dy, Dz, D2, D3, D4, D5, D6, D7, D8, D9, Ea, Eb, Ec, appF, List.length_cons, List.length_nil]
    · simp only [l2', Aa, Ab, Ad, Ae, Af, Ag, Ah, Ai, Aj, Ak, Al, Ao, Ap, Aq, Ar, Au, sO_p, sO_r, sO_m, sO_a, sO_c, Av, Aw, Ax, Ay, Az, sE_p, sE_r, sE_m, sE_a, sE_c, A0, A2, A3, A4, A5, A6, A7, A8, A9, Ba, Bb, Bc, Bd, Be, Bf, Bg, Bh, Bi, Bj, Bl, Bm, Bo, Bp, Bq, Br, Bs, Bt, Bu, Bv, Tr.getP_e, Bw, Bx, ↓reduceIte, Nat.reduceEqDiff, Nat.reduceAdd, Nat.reduceSub, Nat.reduceMul, Nat.reduceDiv, Nat.reduceMod, Nat.zero_add, Nat.add_zero, beq_self_eq_true, Nat.zero_ne_one, Nat.one_ne_zero, Nat.reduceLeDiff, Int.reduceBEq, constF, unF, unary,  pickF, nilcF, faddrF, fldF, iaddrSF, arF, Bz, B3, B4, B5, B6, B7, convF, extF, lenF, eqcF, eqnF, eqN, eqPtr, isNone, loadF, storeF, allocF, callF, gets, Option.map_some, Option.bind_some, B8, B9, Ca, Cb, Cc, nbeq, nble, Cd, Ce, Cf, Cg, Ch, Ci, Cj, Ck, Cl, Cm, Cn, Co, Cp, Cq, Cr, Cs, Ct, Cu, Cv, Cw, Cx, V.w, width, unc, cmpCells, Cy, Cz, C6, C7, C8, Da, undef, List.append_nil, List.nil_append, List.cons_append, Db, Dc, resultsV, result, tup, Dd, Bool.and_true, Bool.true_and, Bool.and_self, decide_true, decide_false, Bool.not_true, Bool.not_false, Bool.true_beq, Bool.false_beq, beq_iff_eq, reduceCtorEq, Nat.succ_eq_add_one, ptr0, Int.ofNat_eq_natCast, Int.ofNat_le, Int.ofNat_lt, Int.natCast_add, De, Df, Dg, Dh, Di, List.map_cons, List.map_nil, Dj, Heap.next_add, Heap.next_set, boxF, buildF, fill, bsliceF, fillRows, List.replicate_one, Dk, Dl, Dm, Dn, Dp, Dq, Dr, Ds, Dt, Du, Dw, Dx, Dy, Dz, D2, D3, D4, D5, D6, D7, D8, D9, Ea, Eb, Ec, appF, List.length_cons, List.length_nil]
    · simp only [l2', Aa, Ab, Ad, Ae, Af, Ag, Ah, Ai, Aj, Ak, Al, Ao, Ap, Aq, Ar, Au, sO_p, sO_r, sO_m, sO_a, sO_c, Av, Aw, Ax, Ay, Az, sE_p, sE_r, sE_m, sE_a, sE_c, A0, A2, A3, A4, A5, A6, A7, A8, A9, Ba, Bb, Bc, Bd, Be, Bf, Bg, Bh, Bi, Bj, Bl, Bm, Bo, Bp, Bq, Br, Bs, Bt, Bu, Bv, Tr.getP_e, Bw, Bx, ↓reduceIte, Nat.reduceEqDiff, Nat.reduceAdd, Nat.reduceSub, Nat.reduceMul, Nat.reduceDiv, Nat.reduceMod, Nat.zero_add, Nat.add_zero, beq_self_eq_true, Nat.zero_ne_one, Nat.one_ne_zero, Nat.reduceLeDiff, Int.reduceBEq, constF, unF, unary,  pickF, nilcF, faddrF, fldF, iaddrSF, arF, Bz, B3, B4, B5, B6, B7, convF, extF, lenF, eqcF, eqnF, eqN, eqPtr, isNone, loadF, storeF, allocF, callF, gets, Option.map_some, Option.bind_some, B8, B9, Ca, Cb, Cc, nbeq, nble, Cd, Ce, Cf, Cg, Ch, Ci, Cj, Ck, Cl, Cm, Cn, Co, Cp, Cq, Cr, Cs, Ct, Cu, Cv, Cw, Cx, V.w, width, unc, cmpCells, Cy, Cz, C6, C7, C8, Da, undef, List.append_nil, List.nil_append, List.cons_append, Db, Dc, resultsV, result, tup, Dd, Bool.and_true, Bool.true_and, Bool.and_self, decide_true, decide_false, Bool.not_true, Bool.not_false, Bool.true_beq, Bool.false_beq, beq_iff_eq, reduceCtorEq, Nat.succ_eq_add_one, ptr0, Int.ofNat_eq_natCast, Int.ofNat_le, Int.ofNat_lt, Int.natCast_add, De, Df, Dg, Dh, Di, List.map_cons, List.map_nil, Dj, Heap.next_add, Heap.next_set, boxF, buildF, fill, bsliceF, fillRows, List.replicate_one, Dk, Dl, Dm, Dn, Dp, Dq, Dr, Ds, Dt, Du, Dw, Dx, Dy, Dz, D2, D3, D4, D5, D6, D7, D8, D9, Ea, Eb, Ec, appF, List.length_cons, List.length_nil]
    · simp only [l2'', Aa, Ab, Ad, Ae, Af, Ag, Ah, Ai, Aj, Ak, Al, Ao, Ap, Aq, Ar, Au, sO_p, sO_r, sO_m, sO_a, sO_c, Av, Aw, Ax, Ay, Az, sE_p, sE_r, sE_m, sE_a, sE_c, A0, A2, A3, A4, A5, A6, A7, A8, A9, Ba, Bb, Bc, Bd, Be, Bf, Bg, Bh, Bi, Bj, Bl, Bm, Bo, Bp, Bq, Br, Bs, Bt, Bu, Bv, Tr.getP_e, Bw, Bx, ↓reduceIte, Nat.reduceEqDiff, Nat.reduceAdd, Nat.reduceSub, Nat.reduceMul, Nat.reduceDiv, Nat.reduceMod, Nat.zero_add, Nat.add_zero, beq_self_eq_true, Nat.zero_ne_one, Nat.one_ne_zero, Nat.reduceLeDiff, Int.reduceBEq, constF, unF, unary,  pickF, nilcF, faddrF, fldF, iaddrSF, arF, Bz, B3, B4, B5, B6, B7, convF, extF, lenF, eqcF, eqnF, eqN, eqPtr, isNone, loadF, storeF, allocF, callF, gets, Option.map_some, Option.bind_some, B8, B9, Ca, Cb, Cc, nbeq, nble, Cd, Ce, Cf, Cg, Ch, Ci, Cj, Ck, Cl, Cm, Cn, Co, Cp, Cq, Cr, Cs, Ct, Cu, Cv, Cw, Cx, V.w, width, unc, cmpCells, Cy, Cz, C6, C7, C8, Da, undef, List.append_nil, List.nil_append, List.cons_append, Db, Dc, resultsV, result, tup, Dd, Bool.and_true, Bool.true_and, Bool.and_self, decide_true, decide_false, Bool.not_true, Bool.not_false, Bool.true_beq, Bool.false_beq, beq_iff_eq, reduceCtorEq, Nat.succ_eq_add_one, ptr0, Int.ofNat_eq_natCast, Int.ofNat_le, Int.ofNat_lt, Int.natCast_add, De, Df, Dg, Dh, Di, List.map_cons, List.map_nil, Dj, Heap.next_add, Heap.next_set, boxF, buildF, fill, bsliceF, fillRows, List.replicate_one, Dk, Dl, Dm, Dn, Dp, Dq, Dr, Ds, Dt, Du, Dw, Dx, Dy, Dz, D2, D3, D4, D5, D6, D7, D8, D9, Ea, Eb, Ec, appF, List.length_cons, List.length_nil]

end Go.Proofs.Ytcelngepfdchiaa.disk

