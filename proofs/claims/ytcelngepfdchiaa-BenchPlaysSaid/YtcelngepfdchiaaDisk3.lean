/-
  A device in the machine's heap: how it is made, and filled.
-/
import Derived.Test.YtcelngepfdchiaaDisk2
set_option linter.unusedVariables false
set_option linter.unusedSimpArgs false
set_option maxRecDepth 10000
namespace Go.Proofs.Ytcelngepfdchiaa.disk
open Go.Am

theorem Turns.after {X : Bk → Prop} {H0 H H' : Heap} {Y : Bk → Prop} (h : Turns X H0 H) (k : Turns Y H H') (hy : ∀ c, H0.Old c → Y c → X c) : Turns X H0 H' :=
  ⟨Nat.le_trans h.next k.next, fun c hc hx => (k.same c (hc.mono h.next) (fun e => hx (hy c hc e))).trans (h.same c hc hx), fun q => k.q (h.q q)⟩

structure Fresh (H0 : Heap) (b : Bk) (y : Lay) (D : Dev) : Prop where
  b : ¬ H0.Old b
  s : ¬ H0.Old y.s
  l : D.L ≠ [] → ¬ H0.Old y.l

theorem Fresh.foot {H0 : Heap} {b : Bk} {y : Lay} {D : Dev} (h : Fresh H0 b y D) : ∀ c, Foot b y D c → ¬ H0.Old c := by
  rintro c (rfl | rfl | ⟨hl, rfl⟩)
  · exact h.b
  · exact h.s
  · exact h.l hl
theorem Fresh.next {H0 H H' : Heap} {b : Bk} {y y' : Lay} {D D' : Dev} (h : Fresh H0 b y D) (hn : H0.next ≤ H.next) (k : Next H b y D H' y' D') : Fresh H0 b y' D' :=
  ⟨h.b, by rw [k.s]; exact h.s, fun e => by
    rcases k.l e with ⟨h1, h2⟩ | h1
    · rw [h2]; exact h.l h1
    · exact fun o => h1 (o.mono hn)⟩
theorem Fresh.turns {H0 H H' : Heap} {b : Bk} {y y' : Lay} {D D' : Dev} (h : Fresh H0 b y D) (hT : Turns Z H0 H) (k : Next H b y D H' y' D') : Turns Z H0 H' :=
  Turns.after hT k.turns (fun c hc hx => (h.foot c hx hc).elim)

theorem new_ok (H : Heap) {n : Nat} (h1 : 1 ≤ n) (h2 : n ≤ 512) (lf m : Nat) : ret (callS Try.prog S0 lf (m + 1) 23 [.int .i64 (n : Int)] H) fun v H' => v = .tuple [.ptr (some ⟨.run (H.next + 1), 0⟩), .int .i64 0] ∧
    DevAt H' (.run (H.next + 1)) ⟨.run H.next, 0, .run H.next, none, 0⟩ ⟨List.replicate n 0, [], false⟩ ∧ Turns Z H H' := by
  have g1 : ¬ ((n : Int) < 1) := by omega
  have g2 : ¬ (512 < (n : Int)) := by omega
  have g3 : n ≤ n := Nat.le_refl _
  have g4 : n * 64 ≤ 1099511627776 := by omega
  have g4' : 64 * n ≤ 1099511627776 := by omega
  have g5 : n ≤ 1099511627776 := by omega
  refine ret_call rfl c23_eq ?_
  simp only [c23, g1, g2, g3, g4, g4', g5, mksliceF, Aa, Ab, Ad, Ae, Af, Ag, Ah, Ai, Aj, Ak, Al, Ao, Ap, Aq, Ar, Au, sO_p, sO_r, sO_m, sO_a, sO_c, Av, Aw, Ax, Ay, Az, sE_p, sE_r, sE_m, sE_a, sE_c, A0, A2, A3, A4, A5, A6, A7, A8, A9, Ba, Bb, Bc, Bd, Be, Bf, Bg, Bh, Bi, Bj, Bl, Bm, Bo, Bp, Bq, Br, Bs, Bt, Bu, Bv, Tr.getP_e, Bw, Bx, ↓reduceIte, Nat.reduceEqDiff, Nat.reduceAdd, Nat.reduceSub, Nat.reduceMul, Nat.reduceDiv, Nat.reduceMod, Nat.zero_add, Nat.add_zero, beq_self_eq_true, Nat.zero_ne_one, Nat.one_ne_zero, Nat.reduceLeDiff, Int.reduceBEq, constF, unF, unary,  pickF, nilcF, faddrF, fldF, iaddrSF, arF, Bz, B3, B4, B5, B6, B7, convF, extF, lenF, eqcF, eqnF, eqN, eqPtr, isNone, loadF, storeF, allocF, callF, gets, Option.map_some, Option.bind_some, B8, B9, Ca, Cb, Cc, nbeq, nble, Cd, Ce, Cf, Cg, Ch, Ci, Cj, Ck, Cl, Cm, Cn, Co, Cp, Cq, Cr, Cs, Ct, Cu, Cv, Cw, Cx, V.w, width, unc, cmpCells, Cy, Cz, C6, C7, C8, Da, undef, List.append_nil, List.nil_append, List.cons_append, Db, Dc, resultsV, result, tup, Dd, Bool.and_true, Bool.true_and, Bool.and_self, decide_true, decide_false, Bool.not_true, Bool.not_false, Bool.true_beq, Bool.false_beq, beq_iff_eq, reduceCtorEq, Nat.succ_eq_add_one, ptr0, Int.ofNat_eq_natCast, Int.ofNat_le, Int.ofNat_lt, Int.natCast_add, De, Df, Dg, Dh, Di, List.map_cons, List.map_nil, Dj, Heap.next_add, Heap.next_set, boxF, buildF, fill, bsliceF, fillRows, List.replicate_one, Dk, Dl, Dm, Dn, Dp, Dq, Dr, Ds, Dt, Du, Dw, Dx, Dy, Dz, D2, D3, D4, D5, D6, D7, D8, D9, Ea, Eb, Ec, appF, List.length_cons, List.length_nil]
  refine ⟨trivial, .inr trivial, _, rfl, rfl, ?_, ((Turns.refl Z H).addm _).addm _⟩
  refine ⟨?_, ?_, fun _ => ⟨rfl, rfl⟩, fun e => absurd rfl e, ⟨?_, ?_, fun e => absurd rfl e⟩, by simp, fun e => absurd rfl e⟩
  · rw [Heap.get_add, if_pos (by simp)]; simp
  · rw [Heap.get_add, if_neg (by simp), Heap.get_add, if_pos rfl]
    simp [sureRows]
  · show _ < _
    first | (simp; done) | (simp; omega)
  · show _ < _
    first | (simp; done) | (simp; omega)

structure WritesAt (H : Heap) (pp : Option Ptr) (W : List (Int × Nat)) : Prop where
  at' : W ≠ [] → ∃ x ro rows, pp = some ⟨x, 0⟩ ∧ H.Old x ∧ H.get x = some (.rows ro 65 rows) ∧ ∀ i, (hi : i < W.length) → rows[i]? = some [.int .i64 W[i].1, .blk W[i].2]
theorem WritesAt.turns {H H' : Heap} {pp : Option Ptr} {W : List (Int × Nat)} (h : WritesAt H pp W) (k : Turns Z H H') : WritesAt H' pp W := ⟨fun e => by
  obtain ⟨x, ro, rows, hp, ho, hg, hr⟩ := h.at' e
  exact ⟨x, ro, rows, hp, ho.mono k.next, (k.same x ho id).trans hg, hr⟩⟩
theorem WritesAt.load {H : Heap} {pp : Option Ptr} {W : List (Int × Nat)} (h : WritesAt H pp W) {i : Nat} (hi : i < W.length) : ∃ x, pp = some ⟨x, 0⟩ ∧ loadAt H ⟨x, i * 65⟩ 1 = some [.int .i64 W[i].1] ∧ loadAt H ⟨x, i * 65 + 1⟩ 64 = some [.blk W[i].2] := by
  obtain ⟨x, ro, rows, hp, _, hg, hr⟩ := h.at' (fun e => by rw [e] at hi; simp at hi)
  have e1 : (i * 65 + 1) / 65 = i := by omega
  have e2 : (i * 65 + 1) % 65 = 0 + 1 := by omega
  refine ⟨x, hp, ?_, ?_⟩
  · rw [loadAt_eq hg (r := [.int .i64 W[i].1, .blk W[i].2]) (nth_of (by rw [Nat.mul_div_cancel _ (by decide)]; exact hr i hi)), Nat.mul_mod_left]
    exact cut_hit _ _ rfl
  · rw [loadAt_eq hg (r := [.int .i64 W[i].1, .blk W[i].2]) (nth_of (by rw [e1]; exact hr i hi)), e2, cut_miss (n := 63) _ _ _ (by rfl)]
    exact Dm _ _

theorem lives_call (lf d : Nat) (H : Heap) : callS Try.prog S0 lf (d + 1) 36 [] H = some (.v (.bool true), H) := rfl

structure Kept (H : Heap) (c : Bk) (o : Am.Obj) (b : Bk) (y : Lay) (D : Dev) : Prop where
  old : H.Old c
  get : H.get c = some o
  nb : c ≠ b
  ns : c ≠ y.s
  nl : D.L ≠ [] → c ≠ y.l
theorem Kept.next {H H' : Heap} {c b : Bk} {o : Am.Obj} {y y' : Lay} {D D' : Dev} (h : Kept H c o b y D) (k : Next H b y D H' y' D') : Kept H' c o b y' D' := by
  refine ⟨h.old.mono k.turns.next, (k.turns.same c h.old ?_).trans h.get, h.nb, by rw [k.s]; exact h.ns, fun e => ?_⟩
  · rintro (rfl | rfl | ⟨hl, rfl⟩)
    · exact h.nb rfl
    · exact h.ns rfl
    · exact h.nl hl rfl
  · rcases k.l e with ⟨h1, h2⟩ | h1
    · rw [h2]; exact h.nl h1
    · rintro rfl; exact h1 h.old
theorem Kept.turns {H H' : Heap} {c b : Bk} {o : Am.Obj} {y : Lay} {D : Dev} (h : Kept H c o b y D) (k : Turns Z H H') : Kept H' c o b y D :=
  ⟨h.old.mono k.next, (k.same c h.old id).trans h.get, h.nb, h.ns, h.nl⟩
theorem load_of {H : Heap} {c : Bk} {x : Nat} (h : H.get c = some (.rows false 64 [[.blk x]])) : loadAt H ⟨c, 0⟩ 64 = some [.blk x] := by
  rw [loadAt_eq h (r := [.blk x]) rfl]; exact Dm _ _

end Go.Proofs.Ytcelngepfdchiaa.disk

