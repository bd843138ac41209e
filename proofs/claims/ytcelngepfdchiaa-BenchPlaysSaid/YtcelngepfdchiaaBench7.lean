/-
  A bench and a cut: the picks are taken device by device.
-/
import Derived.Test.YtcelngepfdchiaaBench6
set_option linter.unusedVariables false
set_option linter.unusedSectionVars false
set_option linter.unusedSimpArgs false
set_option maxRecDepth 10000
namespace Go.Proofs.Ytcelngepfdchiaa.disk
open Go.Am

noncomputable def c44_l0 : C := .seq (.reg [
     ⟨(some (Tr.path 17)), (some (.p (arF .lss (.t (Tr.path 16)) (.t (Tr.path 15))))), none, [Tr.path 16, Tr.path 15]⟩]) (
    .seq (.cond (.t (Tr.path 17)) (.skip) (.exit 0)) (
    .seq (.block 1 (.seq (.reg [
       ⟨(some (Tr.path 18)), (some (.p (iaddrSF (.t (Tr.path 14)) (.t (Tr.path 16)) 1))), none, [Tr.path 14, Tr.path 16]⟩,
       ⟨(some (Tr.path 19)), (some (.r (loadF (.t (Tr.path 18)) 1 .sc))), none, [Tr.path 18]⟩,
       ⟨(some (Tr.path 6)), (some (.p (S.get (.t (Tr.path 19))))), none, [Tr.path 19]⟩]) (
      .seq (.reg [
       ⟨(some (Tr.path 21)), (some (.p (S.get (.t (Tr.path 6))))), none, [Tr.path 6]⟩,
       ⟨(some (Tr.path 22)), (some (.p (S.get (.t (Tr.path 1))))), none, [Tr.path 1]⟩,
       ⟨(some (Tr.path 23)), (some (.c (callF (.c (.func (.func 19) [] [])) [(.t (Tr.path 21)), (.t (Tr.path 22))]))), none, [Tr.path 21, Tr.path 22]⟩,
       ⟨(some (Tr.path 20)), (some (.p (S.get (.t (Tr.path 23))))), none, [Tr.path 23]⟩,
       ⟨(some (Tr.path 24)), (some (.p (extF (.t (Tr.path 20)) 0))), none, [Tr.path 20]⟩,
       ⟨(some (Tr.path 25)), (some (.p (extF (.t (Tr.path 20)) 1))), none, [Tr.path 20]⟩,
       ⟨(some (Tr.path 7)), (some (.p (S.get (.t (Tr.path 24))))), none, [Tr.path 24]⟩,
       ⟨(some (Tr.path 8)), (some (.p (S.get (.t (Tr.path 25))))), none, [Tr.path 25]⟩]) (
      .reg [
      ⟨(some (Tr.path 26)), (some (.p (S.get (.t (Tr.path 1))))), none, [Tr.path 1]⟩,
      ⟨(some (Tr.path 27)), (some (.p (S.get (.t (Tr.path 7))))), none, [Tr.path 7]⟩,
      ⟨(some (Tr.path 28)), (some (.p (sliceF 1 (.t (Tr.path 26)) (some (.t (Tr.path 27))) none none))), none, [Tr.path 26, Tr.path 27]⟩,
      ⟨(some (Tr.path 1)), (some (.p (S.get (.t (Tr.path 28))))), none, [Tr.path 28]⟩])))) (
    .reg [
    ⟨(some (Tr.path 29)), (some (.p (arF .add (.t (Tr.path 16)) (.c (.int .i64 1))))), none, [Tr.path 16]⟩,
    ⟨(some (Tr.path 16)), (some (.p (S.get (.t (Tr.path 29))))), none, [Tr.path 29]⟩])))
/-- (*ashlar/bench.Bench).Crash -/
noncomputable def c44 : CFn := ⟨[.tmp (Tr.path 4)],
 .seq (.reg [
  ⟨(some (Tr.path 4)), (some (.p (S.get (.c (.int .i64 0))))), none, []⟩]) (
 .seq (.seq (.reg [
   ⟨(some (Tr.path 9)), (some (.p (S.get (.t (Tr.path 0))))), none, [Tr.path 0]⟩,
   ⟨(some (Tr.path 10)), (some (.c (callF (.c (.func (.func 83) [] [])) [(.t (Tr.path 9))]))), none, [Tr.path 9]⟩]) (
  .cond (.t (Tr.path 10)) (.seq (.reg [
     ⟨(some (Tr.path 4)), (some (.p (S.get (.c (.int .i64 1))))), none, []⟩]) (
    .ret)) (.skip))) (
 .seq (.seq (.reg [
   ⟨(some (Tr.path 11)), (some (.p (S.get (.t (Tr.path 0))))), none, [Tr.path 0]⟩,
   ⟨(some (Tr.path 12)), (some (.p (nilcF (.t (Tr.path 11))))), none, [Tr.path 11]⟩,
   ⟨(some (Tr.path 13)), (some (.p (faddrF (.t (Tr.path 12)) 0))), none, [Tr.path 12]⟩,
   ⟨(some (Tr.path 14)), (some (.r (loadF (.t (Tr.path 13)) 1 .sc))), none, [Tr.path 13]⟩,
   ⟨(some (Tr.path 15)), (some (.p (lenF (.t (Tr.path 14))))), none, [Tr.path 14]⟩,
   ⟨(some (Tr.path 16)), (some (.p (S.get (.c (.int .i64 0))))), none, []⟩]) (
  .block 0 (.loop c44_l0))) (
 .seq (.reg [
  ⟨(some (Tr.path 30)), (some (.p (S.get (.t (Tr.path 0))))), none, [Tr.path 0]⟩,
  ⟨(some (Tr.path 31)), (some (.p (S.get (.t (Tr.path 0))))), none, [Tr.path 0]⟩,
  ⟨(some (Tr.path 32)), (some (.p (nilcF (.t (Tr.path 30))))), none, [Tr.path 30]⟩,
  ⟨(some (Tr.path 33)), (some (.p (faddrF (.t (Tr.path 32)) 3))), none, [Tr.path 32]⟩,
  ⟨none, (some (.a (storeF (.t (Tr.path 33)) (.c (.bool false)) 1))), none, [Tr.path 33]⟩,
  ⟨(some (Tr.path 34)), (some (.p (nilcF (.t (Tr.path 31))))), none, [Tr.path 31]⟩,
  ⟨(some (Tr.path 35)), (some (.p (faddrF (.t (Tr.path 34)) 2))), none, [Tr.path 34]⟩,
  ⟨none, (some (.a (storeF (.t (Tr.path 35)) (.c (.int .i64 0)) 1))), none, [Tr.path 35]⟩]) (
 .seq (.reg [
  ⟨(some (Tr.path 4)), (some (.p (S.get (.c (.int .i64 0))))), none, []⟩]) (
 .ret)))))⟩
theorem c44_eq : fnOf Try.prog 44 = some c44 := by kernel_rfl


def dropP (pp : Option Ptr) (pc n : Nat) : Option Ptr := if pc = n then pp else pp.map fun p => ⟨p.b, p.o + n⟩

theorem sliceF_lo {x lo : S} {t : T} {p : Option Ptr} {len cap n : Nat} (hx : x.get t = some (.slice p len cap 0)) (hlo : lo.get t = some (.int .i64 (n : Int))) (hn : n ≤ len) (hc : len ≤ cap) : sliceF 1 x (some lo) none none t = some (.slice (dropP p cap n) (len - n) (cap - n) 0) := by
  have hb : bounds len cap (some (.int .i64 (n : Int))) none none = some (n, len, cap) := by
    simp only [bounds, boundD, bound, C7, nble]
    simp [hn, hc]
  unfold sliceF
  simp only [hx, hlo, oget, Option.map_some, nbeq, beq_self_eq_true, hb]
  unfold dropP
  by_cases e : cap = n
  · simp [e]
  · have : (cap == n) = false := by simp; exact e
    simp [this, e, B9, B8, Ca]

theorem PicksAt.drop {H : Heap} {pp : Option Ptr} {P : List Int} {X : Bk → Prop} (h : PicksAt H pp P X) {pc : Nat} (hc : P.length ≤ pc) (n : Nat) : PicksAt H (dropP pp pc n) (P.drop n) X := ⟨fun e => by
  have hn : n < P.length := by
    by_cases hn : n < P.length
    · exact hn
    · exact absurd (List.drop_eq_nil_of_le (by omega)) e
  obtain ⟨x, ox, ro, rows, rfl, ho, hx, hg, hr⟩ := h.has (fun e => by rw [e] at hn; simp at hn)
  refine ⟨x, ox + n, ro, rows, by unfold dropP; rw [if_neg (by omega)]; rfl, ho, hx, hg, fun i hi => ?_⟩
  have hi' : n + i < P.length := by simp at hi; omega
  rw [Nat.add_assoc, hr (n + i) hi']
  simp⟩
theorem PicksAt.mono {H : Heap} {pp : Option Ptr} {P : List Int} {X Y : Bk → Prop} (h : PicksAt H pp P X) (hY : ∀ c, Y c → X c) : PicksAt H pp P Y := ⟨fun e => by
  obtain ⟨x, ox, ro, rows, h1, ho, hx, hg, hr⟩ := h.has e
  exact ⟨x, ox, ro, rows, h1, ho, fun hc => hx (hY _ hc), hg, hr⟩⟩
theorem PicksAt.rnext {r : Bool} {H H' : Heap} {b ds : Bk} {so : Nat} {l l' : List Dv} {B' : Bn} {pp : Option Ptr} {P : List Int} (h : PicksAt H pp P (BFoot b ds l)) (k : RNext r H b ds so l H' l' B') : PicksAt H' pp P (BFoot b ds l') := ⟨fun e => by
  obtain ⟨x, ox, ro, rows, h1, ho, hx, hg, hr⟩ := h.has e
  refine ⟨x, ox, ro, rows, h1, ho.mono k.turns.next, fun hc => ?_, (k.turns.same _ ho hx).trans hg, hr⟩
  rcases k.foot _ hc with hc | hc
  · exact hx hc
  · exact hc ho⟩

theorem RNext.trans {r : Bool} {H H1 H2 : Heap} {b ds : Bk} {so : Nat} {l l1 l2 : List Dv} {B1 B2 : Bn} (h : RNext r H b ds so l H1 l1 B1) (k : RNext r H1 b ds so l1 H2 l2 B2) : RNext r H b ds so l H2 l2 B2 :=
  ⟨k.rep, Turns.after h.turns k.turns (fun c hc hx => (h.foot c hx).elim id (fun e => absurd hc e)), fun c hc => by
    rcases k.foot c hc with hc | hc
    · exact h.foot c hc
    · exact .inr (fun o => hc (o.mono h.turns.next))⟩

def noDev : Dev := ⟨[], [], false⟩
/-- the picks that are left for a device, and how many were taken ahead of it -/
def pos (l : List Dev) (P : List Int) : Nat → Nat
  | 0 => 0
  | i + 1 => pos l P i + min (l.getD i noDev).L.length (P.drop (pos l P i)).length
theorem pos_le (l : List Dev) (P : List Int) : ∀ i, pos l P i ≤ P.length
  | 0 => Nat.zero_le _
  | i + 1 => by
    have := pos_le l P i
    simp only [pos, List.length_drop]
    omega
def crashAt (l : List Dev) (P : List Int) (i : Nat) : Dev := (l.getD i noDev).crash (P.drop (pos l P i))
def crashTo (l : List Dev) (P : List Int) (i : Nat) : List Dev := (List.range l.length).map fun j => if j < i then crashAt l P j else l.getD j noDev
theorem crashTo_length (l : List Dev) (P : List Int) (i : Nat) : (crashTo l P i).length = l.length := by simp [crashTo]
theorem crashTo_zero (l : List Dev) (P : List Int) : crashTo l P 0 = l := by
  apply List.ext_getElem
  · simp [crashTo]
  · intro n h1 h2
    simp [crashTo, List.getD, h2]
theorem crashTo_get {l : List Dev} {P : List Int} {i j : Nat} (hj : j < l.length) : (crashTo l P i)[j]'(by rw [crashTo_length]; exact hj) = if j < i then crashAt l P j else l[j] := by
  simp [crashTo, List.getD, hj]
theorem crashTo_succ {l : List Dev} {P : List Int} {i : Nat} : crashTo l P (i + 1) = (crashTo l P i).set i (crashAt l P i) := by
  apply List.ext_getElem
  · simp [crashTo]
  · intro n h1 h2
    have hn : n < l.length := by simpa [crashTo] using h1
    rw [crashTo_get hn, List.getElem_set]
    by_cases e : i = n
    · subst e; simp
    · rw [if_neg e, crashTo_get hn]
      by_cases h : n < i
      · rw [if_pos (by omega), if_pos h]
      · rw [if_neg (by omega), if_neg h]
theorem crashTo_all (l : List Dev) (P : List Int) : crashTo l P l.length = (List.range l.length).map (crashAt l P) := by
  unfold crashTo
  apply List.map_congr_left
  intro j hj
  rw [if_pos (List.mem_range.1 hj)]

def Bn.crash (B : Bn) (P : List Int) : Bn := ⟨crashTo B.l P B.l.length, B.st, 0, false⟩

theorem Bok.crash {k : Nat} {B : Bn} (h : Bok k B) (P : List Int) : Bok (k + 1) (B.crash P) := by
  refine ⟨fun D hD => ?_, ⟨by show (0 : Int) ≤ 0; decide, by show (0 : Int) ≤ _; decide⟩, h.mono.st⟩
  have hD : D ∈ crashTo B.l P B.l.length := hD
  rw [crashTo_all] at hD
  obtain ⟨j, hj, rfl⟩ := List.mem_map.1 hD
  have hj := List.mem_range.1 hj
  obtain ⟨n, hn, w⟩ := h.wf _ (List.getElem_mem hj)
  refine ⟨n, hn, ?_⟩
  unfold crashAt
  rw [List.getD_eq_getElem?_getD, List.getElem?_eq_getElem hj]
  exact w.crash _
theorem crash_len (B : Bn) (P : List Int) : (B.crash P).l.length = B.l.length := by show (crashTo _ _ _).length = _; rw [crashTo_length]

theorem bcrash_all {H : Heap} {b ds : Bk} {so : Nat} {l : List Dv} {B : Bn} (h : BRep H b ds so l B) (hl : l ≠ []) (hg : ∀ D ∈ B.l, Good D) {pp : Option Ptr} {P : List Int} {pc : Nat} (hP : PicksAt H pp P (BFoot b ds l)) (hpc : P.length ≤ pc) {lf : Nat} (hlf : 1000 < lf) (hlen : l.length ≤ 17) (m : Nat) :
    ret (callS Try.prog S0 lf (m + 3) 44 [.ptr (some ⟨b, 0⟩), .slice pp P.length pc 0] H) fun v H' => v = .int .i64 0 ∧ ∃ l', BNext H b ds so l H' l' (B.crash P) := by
  have en := bnone h.at' hl lf (m + 1)
  change callS Try.prog S0 lf (m + 2) 83 _ _ = _ at en
  have l0 := bload0 h.at'
  have hLl := h.len
  generalize hN : l.length = N at *
  have hloop : ∀ t : T, t.getP (Tr.path 0) = some (.ptr (some ⟨b, 0⟩)) → t.getP (Tr.path 1) = some (.slice pp P.length pc 0) → t.getP (Tr.path 14) = some (.slice (some ⟨ds, 0⟩) N N so) → t.getP (Tr.path 15) = some (.int .i64 (N : Int)) → t.getP (Tr.path 16) = some (.int .i64 0) →
      wp (loopF (runC (callS Try.prog S0 lf (m + 2)) lf c44_l0) lf ⟨t, H, []⟩) fun x s =>
        x = .ex 0 ∧ s.d = [] ∧ s.t.getP (Tr.path 0) = some (.ptr (some ⟨b, 0⟩)) ∧ ∃ l', BNext H b ds so l s.H l' ⟨crashTo B.l P N, B.st, B.ar, B.dk⟩ := by
    intro t q0 q1 q14 q15 q16
    refine wp_loopF (fun r s => ∃ i l' p, i + r = N ∧ s.d = [] ∧ s.t.getP (Tr.path 0) = some (.ptr (some ⟨b, 0⟩)) ∧ s.t.getP (Tr.path 1) = some (.slice p (P.length - pos B.l P i) (pc - pos B.l P i) 0) ∧ PicksAt H p (P.drop (pos B.l P i)) (BFoot b ds l) ∧ s.t.getP (Tr.path 14) = some (.slice (some ⟨ds, 0⟩) N N so) ∧ s.t.getP (Tr.path 15) = some (.int .i64 (N : Int)) ∧ s.t.getP (Tr.path 16) = some (.int .i64 ((i : Nat) : Int)) ∧ BNext H b ds so l s.H l' ⟨crashTo B.l P i, B.st, B.ar, B.dk⟩) ?_ lf N _ ⟨0, l, pp, by omega, rfl, q0, q1, hP, q14, q15, q16, ?_⟩ (by omega)
    · rintro r ⟨t, HH, d⟩ ⟨i, l', p, hi, rfl, q0, q1, hPi, q14, q15, q16, hK⟩
      dsimp only at q0 q1 q14 q15 q16 hK
      cases r with
      | zero =>
        have hi : i = N := by omega
        subst hi
        have hg : ¬ (i < i) := Nat.lt_irrefl _
        simp only [c44_l0, q0, q1, q14, q15, q16, hg, Aa, Ab, Ad, Ae, Af, Ag, Ah, Ai, Aj, Ak, Al, Ao, Ap, Aq, Ar, Au, sO_p, sO_r, sO_m, sO_a, sO_c, Av, Aw, Ax, Ay, Az, sE_p, sE_r, sE_m, sE_a, sE_c, A0, A2, A3, A4, A5, A6, A7, A8, A9, Ba, Bb, Bc, Bd, Be, Bf, Bg, Bh, Bi, Bj, Bl, Bm, Bo, Bp, Bq, Br, Bs, Bt, Bu, Bv, Tr.getP_e, Bw, Bx, ↓reduceIte, Nat.reduceEqDiff, Nat.reduceAdd, Nat.reduceSub, Nat.reduceMul, Nat.reduceDiv, Nat.reduceMod, Nat.zero_add, Nat.add_zero, beq_self_eq_true, Nat.zero_ne_one, Nat.one_ne_zero, Nat.reduceLeDiff, Int.reduceBEq, constF, unF, unary,  pickF, nilcF, faddrF, fldF, iaddrSF, arF, Bz, B3, B4, B5, B6, B7, convF, extF, lenF, eqcF, eqnF, eqN, eqPtr, isNone, loadF, storeF, allocF, callF, gets, Option.map_some, Option.bind_some, B8, B9, Ca, Cb, Cc, nbeq, nble, Cd, Ce, Cf, Cg, Ch, Ci, Cj, Ck, Cl, Cm, Cn, Co, Cp, Cq, Cr, Cs, Ct, Cu, Cv, Cw, Cx, V.w, width, unc, cmpCells, Cy, Cz, C6, C7, C8, Da, undef, List.append_nil, List.nil_append, List.cons_append, Db, Dc, resultsV, result, tup, Dd, Bool.and_true, Bool.true_and, Bool.and_self, decide_true, decide_false, Bool.not_true, Bool.not_false, Bool.true_beq, Bool.false_beq, beq_iff_eq, reduceCtorEq, Nat.succ_eq_add_one, ptr0, Int.ofNat_eq_natCast, Int.ofNat_le, Int.ofNat_lt, Int.natCast_add, De, Df, Dg, Dh, Di, List.map_cons, List.map_nil, Dj, Heap.next_add, Heap.next_set, boxF, buildF, fill, bsliceF, fillRows, List.replicate_one, Dk, Dl, Dm, Dn, Dp, Dq, Dr, Ds, Dt, Du, Dw, Dx, Dy, Dz, D2, D3, D4, D5, D6, D7, D8, D9, Ea, Eb, Ec, appF, List.length_cons, List.length_nil]
        exact ⟨trivial, trivial, trivial, l', hK⟩
      | succ r =>
        have hiN : i < N := by omega
        have hi1 : i + 1 ≤ N := hiN
        have hlen' : l'.length = N := by rw [hK.rep.len]; show (crashTo _ _ _).length = N; rw [crashTo_length]; exact hLl.symm
        have hil : i < l'.length := by omega
        have hiB : i < B.l.length := by omega
        have lp := bloadP hK.rep.at' hil
        have eD : l'[i].D = B.l[i] := by
          have e1 : (l'.map Dv.D)[i]'(by simpa using hil) = (crashTo B.l P i)[i]'(by rw [crashTo_length]; exact hiB) := by
            congr 1
            exact hK.rep.map
          rw [crashTo_get hiB, if_neg (Nat.lt_irrefl _)] at e1
          simpa using e1
        have g : Good l'[i].D := by rw [eD]; exact hg _ (List.getElem_mem hiB)
        have hw : IntKind.i64.wrap ((i : Int) + 1) = (i : Int) + 1 := wrap_i64 (by omega)
        have hP' := (hPi.rnext hK).mono (Y := Foot l'[i].b l'[i].y l'[i].D) (fun c hc => .inr (.inr ⟨_, List.getElem_mem hil, hc⟩))
        have hpl := pos_le B.l P i
        obtain ⟨v, H2, e2, rfl, hN2⟩ := crash_ok (hK.rep.at'.dev i hil) g.ne g.ok (by have := g.le; omega) (pc := pc - pos B.l P i) (po := 0) hP' (lf := lf) (by have := g.le; omega) m
        rw [List.length_drop] at e2
        have hK2 := hK.trans (hK.rep.dev hil hN2)
        have hpos : pos B.l P (i + 1) = pos B.l P i + min l'[i].D.L.length (P.length - pos B.l P i) := by
          rw [eD]; simp only [pos, List.length_drop, List.getD, hiB, List.getElem?_eq_getElem, Option.getD_some]
        have hset : (⟨crashTo B.l P i, B.st, B.ar, B.dk⟩ : Bn).setd (i : Int) (l'[i].D.crash (P.drop (pos B.l P i))) = ⟨crashTo B.l P (i + 1), B.st, B.ar, B.dk⟩ := by
          unfold Bn.setd
          rw [crashTo_succ, Int.toNat_natCast, eD]
          simp [crashAt, List.getD, hiB]
        have hK3 : ∃ l3, BNext H b ds so l H2 l3 ⟨crashTo B.l P (i + 1), B.st, B.ar, B.dk⟩ := ⟨_, by rw [← hset]; exact hK2⟩
        obtain ⟨l3, hK3⟩ := hK3
        have hmle : min l'[i].D.L.length (P.length - pos B.l P i) ≤ P.length - pos B.l P i := Nat.min_le_right _ _
        generalize hmm : min l'[i].D.L.length (P.length - pos B.l P i) = mm at e2 hpos hmle
        simp only [c44_l0, q0, q1, q14, q15, q16, hiN, hi1, lp, e2, Nat.mul_one, Aa, Ab, Ad, Ae, Af, Ag, Ah, Ai, Aj, Ak, Al, Ao, Ap, Aq, Ar, Au, sO_p, sO_r, sO_m, sO_a, sO_c, Av, Aw, Ax, Ay, Az, sE_p, sE_r, sE_m, sE_a, sE_c, A0, A2, A3, A4, A5, A6, A7, A8, A9, Ba, Bb, Bc, Bd, Be, Bf, Bg, Bh, Bi, Bj, Bl, Bm, Bo, Bp, Bq, Br, Bs, Bt, Bu, Bv, Tr.getP_e, Bw, Bx, ↓reduceIte, Nat.reduceEqDiff, Nat.reduceAdd, Nat.reduceSub, Nat.reduceMul, Nat.reduceDiv, Nat.reduceMod, Nat.zero_add, Nat.add_zero, beq_self_eq_true, Nat.zero_ne_one, Nat.one_ne_zero, Nat.reduceLeDiff, Int.reduceBEq, constF, unF, unary,  pickF, nilcF, faddrF, fldF, iaddrSF, arF, Bz, B3, B4, B5, B6, B7, convF, extF, lenF, eqcF, eqnF, eqN, eqPtr, isNone, loadF, storeF, allocF, callF, gets, Option.map_some, Option.bind_some, B8, B9, Ca, Cb, Cc, nbeq, nble, Cd, Ce, Cf, Cg, Ch, Ci, Cj, Ck, Cl, Cm, Cn, Co, Cp, Cq, Cr, Cs, Ct, Cu, Cv, Cw, Cx, V.w, width, unc, cmpCells, Cy, Cz, C6, C7, C8, Da, undef, List.append_nil, List.nil_append, List.cons_append, Db, Dc, resultsV, result, tup, Dd, Bool.and_true, Bool.true_and, Bool.and_self, decide_true, decide_false, Bool.not_true, Bool.not_false, Bool.true_beq, Bool.false_beq, beq_iff_eq, reduceCtorEq, Nat.succ_eq_add_one, ptr0, Int.ofNat_eq_natCast, Int.ofNat_le, Int.ofNat_lt, Int.natCast_add, De, Df, Dg, Dh, Di, List.map_cons, List.map_nil, Dj, Heap.next_add, Heap.next_set, boxF, buildF, fill, bsliceF, fillRows, List.replicate_one, Dk, Dl, Dm, Dn, Dp, Dq, Dr, Ds, Dt, Du, Dw, Dx, Dy, Dz, D2, D3, D4, D5, D6, D7, D8, D9, Ea, Eb, Ec, appF, List.length_cons, List.length_nil]
        rw [sliceF_lo (n := mm) (p := p) (len := P.length - pos B.l P i) (cap := pc - pos B.l P i) (by simp only [Aa, Ab, Ad, Ae, Af, Ag, Ah, Ai, Aj, Ak, Al, Ao, Ap, Aq, Ar, Au, sO_p, sO_r, sO_m, sO_a, sO_c, Av, Aw, Ax, Ay, Az, sE_p, sE_r, sE_m, sE_a, sE_c, A0, A2, A3, A4, A5, A6, A7, A8, A9, Ba, Bb, Bc, Bd, Be, Bf, Bg, Bh, Bi, Bj, Bl, Bm, Bo, Bp, Bq, Br, Bs, Bt, Bu, Bv, Tr.getP_e, Bw, Bx, ↓reduceIte, Nat.reduceEqDiff, Nat.reduceAdd, Nat.reduceSub, Nat.reduceMul, Nat.reduceDiv, Nat.reduceMod, Nat.zero_add, Nat.add_zero, beq_self_eq_true, Nat.zero_ne_one, Nat.one_ne_zero, Nat.reduceLeDiff, Int.reduceBEq, constF, unF, unary,  pickF, nilcF, faddrF, fldF, iaddrSF, arF, Bz, B3, B4, B5, B6, B7, convF, extF, lenF, eqcF, eqnF, eqN, eqPtr, isNone, loadF, storeF, allocF, callF, gets, Option.map_some, Option.bind_some, B8, B9, Ca, Cb, Cc, nbeq, nble, Cd, Ce, Cf, Cg, Ch, Ci, Cj, Ck, Cl, Cm, Cn, Co, Cp, Cq, Cr, Cs, Ct, Cu, Cv, Cw, Cx, V.w, width, unc, cmpCells, Cy, Cz, C6, C7, C8, Da, undef, List.append_nil, List.nil_append, List.cons_append, Db, Dc, resultsV, result, tup, Dd, Bool.and_true, Bool.true_and, Bool.and_self, decide_true, decide_false, Bool.not_true, Bool.not_false, Bool.true_beq, Bool.false_beq, beq_iff_eq, reduceCtorEq, Nat.succ_eq_add_one, ptr0, Int.ofNat_eq_natCast, Int.ofNat_le, Int.ofNat_lt, Int.natCast_add, De, Df, Dg, Dh, Di, List.map_cons, List.map_nil, Dj, Heap.next_add, Heap.next_set, boxF, buildF, fill, bsliceF, fillRows, List.replicate_one, Dk, Dl, Dm, Dn, Dp, Dq, Dr, Ds, Dt, Du, Dw, Dx, Dy, Dz, D2, D3, D4, D5, D6, D7, D8, D9, Ea, Eb, Ec, appF, List.length_cons, List.length_nil]) (by simp only [Aa, Ab, Ad, Ae, Af, Ag, Ah, Ai, Aj, Ak, Al, Ao, Ap, Aq, Ar, Au, sO_p, sO_r, sO_m, sO_a, sO_c, Av, Aw, Ax, Ay, Az, sE_p, sE_r, sE_m, sE_a, sE_c, A0, A2, A3, A4, A5, A6, A7, A8, A9, Ba, Bb, Bc, Bd, Be, Bf, Bg, Bh, Bi, Bj, Bl, Bm, Bo, Bp, Bq, Br, Bs, Bt, Bu, Bv, Tr.getP_e, Bw, Bx, ↓reduceIte, Nat.reduceEqDiff, Nat.reduceAdd, Nat.reduceSub, Nat.reduceMul, Nat.reduceDiv, Nat.reduceMod, Nat.zero_add, Nat.add_zero, beq_self_eq_true, Nat.zero_ne_one, Nat.one_ne_zero, Nat.reduceLeDiff, Int.reduceBEq, constF, unF, unary,  pickF, nilcF, faddrF, fldF, iaddrSF, arF, Bz, B3, B4, B5, B6, B7, convF, extF, lenF, eqcF, eqnF, eqN, eqPtr, isNone, loadF, storeF, allocF, callF, gets, Option.map_some, Option.bind_some, B8, B9, Ca, Cb, Cc, nbeq, nble, Cd, Ce, Cf, Cg, Ch, Ci, Cj, Ck, Cl, Cm, Cn, Co, Cp, Cq, Cr, Cs, Ct, Cu, Cv, Cw, Cx, V.w, width, unc, cmpCells, Cy, Cz, C6, C7, C8, Da, undef, List.append_nil, List.nil_append, List.cons_append, Db, Dc, resultsV, result, tup, Dd, Bool.and_true, Bool.true_and, Bool.and_self, decide_true, decide_false, Bool.not_true, Bool.not_false, Bool.true_beq, Bool.false_beq, beq_iff_eq, reduceCtorEq, Nat.succ_eq_add_one, ptr0, Int.ofNat_eq_natCast, Int.ofNat_le, Int.ofNat_lt, Int.natCast_add, De, Df, Dg, Dh, Di, List.map_cons, List.map_nil, Dj, Heap.next_add, Heap.next_set, boxF, buildF, fill, bsliceF, fillRows, List.replicate_one, Dk, Dl, Dm, Dn, Dp, Dq, Dr, Ds, Dt, Du, Dw, Dx, Dy, Dz, D2, D3, D4, D5, D6, D7, D8, D9, Ea, Eb, Ec, appF, List.length_cons, List.length_nil]) hmle (by omega)]
        simp only [q0, q1, q14, q15, q16, hw, Aa, Ab, Ad, Ae, Af, Ag, Ah, Ai, Aj, Ak, Al, Ao, Ap, Aq, Ar, Au, sO_p, sO_r, sO_m, sO_a, sO_c, Av, Aw, Ax, Ay, Az, sE_p, sE_r, sE_m, sE_a, sE_c, A0, A2, A3, A4, A5, A6, A7, A8, A9, Ba, Bb, Bc, Bd, Be, Bf, Bg, Bh, Bi, Bj, Bl, Bm, Bo, Bp, Bq, Br, Bs, Bt, Bu, Bv, Tr.getP_e, Bw, Bx, ↓reduceIte, Nat.reduceEqDiff, Nat.reduceAdd, Nat.reduceSub, Nat.reduceMul, Nat.reduceDiv, Nat.reduceMod, Nat.zero_add, Nat.add_zero, beq_self_eq_true, Nat.zero_ne_one, Nat.one_ne_zero, Nat.reduceLeDiff, Int.reduceBEq, constF, unF, unary,  pickF, nilcF, faddrF, fldF, iaddrSF, arF, Bz, B3, B4, B5, B6, B7, convF, extF, lenF, eqcF, eqnF, eqN, eqPtr, isNone, loadF, storeF, allocF, callF, gets, Option.map_some, Option.bind_some, B8, B9, Ca, Cb, Cc, nbeq, nble, Cd, Ce, Cf, Cg, Ch, Ci, Cj, Ck, Cl, Cm, Cn, Co, Cp, Cq, Cr, Cs, Ct, Cu, Cv, Cw, Cx, V.w, width, unc, cmpCells, Cy, Cz, C6, C7, C8, Da, undef, List.append_nil, List.nil_append, List.cons_append, Db, Dc, resultsV, result, tup, Dd, Bool.and_true, Bool.true_and, Bool.and_self, decide_true, decide_false, Bool.not_true, Bool.not_false, Bool.true_beq, Bool.false_beq, beq_iff_eq, reduceCtorEq, Nat.succ_eq_add_one, ptr0, Int.ofNat_eq_natCast, Int.ofNat_le, Int.ofNat_lt, Int.natCast_add, De, Df, Dg, Dh, Di, List.map_cons, List.map_nil, Dj, Heap.next_add, Heap.next_set, boxF, buildF, fill, bsliceF, fillRows, List.replicate_one, Dk, Dl, Dm, Dn, Dp, Dq, Dr, Ds, Dt, Du, Dw, Dx, Dy, Dz, D2, D3, D4, D5, D6, D7, D8, D9, Ea, Eb, Ec, appF, List.length_cons, List.length_nil]
        have a1 : P.length - pos B.l P i - mm = P.length - (pos B.l P i + mm) := by omega
        have a2 : pc - pos B.l P i - mm = pc - (pos B.l P i + mm) := by omega
        refine ⟨r, Nat.lt_succ_self r, i + 1, l3, dropP p (pc - pos B.l P i) mm, by omega, trivial, trivial, by rw [hpos, a1, a2], ?_, trivial, trivial, rfl, hK3⟩
        rw [hpos, ← List.drop_drop]
        exact hPi.drop (by rw [List.length_drop]; omega) mm
    · rw [crashTo_zero]; exact h.idle (Turns.refl Z H)
  refine ret_call rfl c44_eq ?_
  simp only [c44, en, l0, Aa, Ab, Ad, Ae, Af, Ag, Ah, Ai, Aj, Ak, Al, Ao, Ap, Aq, Ar, Au, sO_p, sO_r, sO_m, sO_a, sO_c, Av, Aw, Ax, Ay, Az, sE_p, sE_r, sE_m, sE_a, sE_c, A0, A2, A3, A4, A5, A6, A7, A8, A9, Ba, Bb, Bc, Bd, Be, Bf, Bg, Bh, Bi, Bj, Bl, Bm, Bo, Bp, Bq, Br, Bs, Bt, Bu, Bv, Tr.getP_e, Bw, Bx, ↓reduceIte, Nat.reduceEqDiff, Nat.reduceAdd, Nat.reduceSub, Nat.reduceMul, Nat.reduceDiv, Nat.reduceMod, Nat.zero_add, Nat.add_zero, beq_self_eq_true, Nat.zero_ne_one, Nat.one_ne_zero, Nat.reduceLeDiff, Int.reduceBEq, constF, unF, unary,  pickF, nilcF, faddrF, fldF, iaddrSF, arF, Bz, B3, B4, B5, B6, B7, convF, extF, lenF, eqcF, eqnF, eqN, eqPtr, isNone, loadF, storeF, allocF, callF, gets, Option.map_some, Option.bind_some, B8, B9, Ca, Cb, Cc, nbeq, nble, Cd, Ce, Cf, Cg, Ch, Ci, Cj, Ck, Cl, Cm, Cn, Co, Cp, Cq, Cr, Cs, Ct, Cu, Cv, Cw, Cx, V.w, width, unc, cmpCells, Cy, Cz, C6, C7, C8, Da, undef, List.append_nil, List.nil_append, List.cons_append, Db, Dc, resultsV, result, tup, Dd, Bool.and_true, Bool.true_and, Bool.and_self, decide_true, decide_false, Bool.not_true, Bool.not_false, Bool.true_beq, Bool.false_beq, beq_iff_eq, reduceCtorEq, Nat.succ_eq_add_one, ptr0, Int.ofNat_eq_natCast, Int.ofNat_le, Int.ofNat_lt, Int.natCast_add, De, Df, Dg, Dh, Di, List.map_cons, List.map_nil, Dj, Heap.next_add, Heap.next_set, boxF, buildF, fill, bsliceF, fillRows, List.replicate_one, Dk, Dl, Dm, Dn, Dp, Dq, Dr, Ds, Dt, Du, Dw, Dx, Dy, Dz, D2, D3, D4, D5, D6, D7, D8, D9, Ea, Eb, Ec, appF, List.length_cons, List.length_nil]
  refine wp_ctx (F := fun r => seqC _ _ _ (blockC _ r)) (hloop _ ?_ ?_ ?_ ?_ ?_) ?_
  · simp only [Bv, Tr.getP_e, ↓reduceIte, Nat.reduceEqDiff, Nat.zero_ne_one, Nat.one_ne_zero, Bw, Bx, Nat.reduceAdd, Nat.zero_add, Int.ofNat_eq_natCast]
  · simp only [Bv, Tr.getP_e, ↓reduceIte, Nat.reduceEqDiff, Nat.zero_ne_one, Nat.one_ne_zero, Bw, Bx, Nat.reduceAdd, Nat.zero_add, Int.ofNat_eq_natCast]
  · simp only [Bv, Tr.getP_e, ↓reduceIte, Nat.reduceEqDiff, Nat.zero_ne_one, Nat.one_ne_zero, Bw, Bx, Nat.reduceAdd, Nat.zero_add, Int.ofNat_eq_natCast]
  · simp only [Bv, Tr.getP_e, ↓reduceIte, Nat.reduceEqDiff, Nat.zero_ne_one, Nat.one_ne_zero, Bw, Bx, Nat.reduceAdd, Nat.zero_add, Int.ofNat_eq_natCast]
  · simp only [Bv, Tr.getP_e, ↓reduceIte, Nat.reduceEqDiff, Nat.zero_ne_one, Nat.one_ne_zero, Bw, Bx, Nat.reduceAdd, Nat.zero_add, Int.ofNat_eq_natCast]
  rintro x ⟨t, HH, d⟩ ⟨rfl, rfl, q0, l', hK⟩
  dsimp only at q0 hK
  have s3 := bstore3 hK.rep.at' false
  have hm := BenchAt.put hK.rep.at' B.st B.ar false
  have s2 := bstore2 hm 0
  have hm2 := BenchAt.put hm B.st 0 false
  simp only [q0, s3, s2, Aa, Ab, Ad, Ae, Af, Ag, Ah, Ai, Aj, Ak, Al, Ao, Ap, Aq, Ar, Au, sO_p, sO_r, sO_m, sO_a, sO_c, Av, Aw, Ax, Ay, Az, sE_p, sE_r, sE_m, sE_a, sE_c, A0, A2, A3, A4, A5, A6, A7, A8, A9, Ba, Bb, Bc, Bd, Be, Bf, Bg, Bh, Bi, Bj, Bl, Bm, Bo, Bp, Bq, Br, Bs, Bt, Bu, Bv, Tr.getP_e, Bw, Bx, ↓reduceIte, Nat.reduceEqDiff, Nat.reduceAdd, Nat.reduceSub, Nat.reduceMul, Nat.reduceDiv, Nat.reduceMod, Nat.zero_add, Nat.add_zero, beq_self_eq_true, Nat.zero_ne_one, Nat.one_ne_zero, Nat.reduceLeDiff, Int.reduceBEq, constF, unF, unary,  pickF, nilcF, faddrF, fldF, iaddrSF, arF, Bz, B3, B4, B5, B6, B7, convF, extF, lenF, eqcF, eqnF, eqN, eqPtr, isNone, loadF, storeF, allocF, callF, gets, Option.map_some, Option.bind_some, B8, B9, Ca, Cb, Cc, nbeq, nble, Cd, Ce, Cf, Cg, Ch, Ci, Cj, Ck, Cl, Cm, Cn, Co, Cp, Cq, Cr, Cs, Ct, Cu, Cv, Cw, Cx, V.w, width, unc, cmpCells, Cy, Cz, C6, C7, C8, Da, undef, List.append_nil, List.nil_append, List.cons_append, Db, Dc, resultsV, result, tup, Dd, Bool.and_true, Bool.true_and, Bool.and_self, decide_true, decide_false, Bool.not_true, Bool.not_false, Bool.true_beq, Bool.false_beq, beq_iff_eq, reduceCtorEq, Nat.succ_eq_add_one, ptr0, Int.ofNat_eq_natCast, Int.ofNat_le, Int.ofNat_lt, Int.natCast_add, De, Df, Dg, Dh, Di, List.map_cons, List.map_nil, Dj, Heap.next_add, Heap.next_set, boxF, buildF, fill, bsliceF, fillRows, List.replicate_one, Dk, Dl, Dm, Dn, Dp, Dq, Dr, Ds, Dt, Du, Dw, Dx, Dy, Dz, D2, D3, D4, D5, D6, D7, D8, D9, Ea, Eb, Ec, appF, List.length_cons, List.length_nil]
  refine ⟨trivial, .inr trivial, _, rfl, rfl, l', ⟨⟨hm2, ?_⟩, (hK.turns.setm (.inl rfl) _).setm (.inl rfl) _, hK.foot⟩⟩
  rw [hK.rep.map]
  show crashTo B.l P N = crashTo B.l P B.l.length
  rw [hLl]

theorem DvsAt.turnsX {H H' : Heap} {b ds : Bk} {so : Nat} {l : List Dv} {r1 r2 r3 : V} (h : DvsAt H b ds so l r1 r2 r3) {X : Bk → Prop} (k : Turns X H H') (hX : ∀ c, BFoot b ds l c → ¬ X c) : DvsAt H' b ds so l r1 r2 r3 :=
  ⟨(k.same _ h.old.1 (hX _ (.inl rfl))).trans h.own, (k.same _ h.old.2 (hX _ (.inr (.inl rfl)))).trans h.ptrs, fun i hi => (h.dev i hi).turns k (hX _ (.inr (.inr ⟨_, List.getElem_mem hi, .inl rfl⟩))) (hX _ (.inr (.inr ⟨_, List.getElem_mem hi, .inr (.inl rfl)⟩))) (fun hl => hX _ (.inr (.inr ⟨_, List.getElem_mem hi, .inr (.inr ⟨hl, rfl⟩)⟩))), h.sep, ⟨h.old.1.mono k.next, h.old.2.mono k.next⟩, h.ne, h.out⟩
theorem Rep.foot_old {r : Bool} {H : Heap} {b ds : Bk} {so : Nat} {l : List Dv} {B : Bn} (h : Rep r H b ds so l B) : ∀ c, BFoot b ds l c → H.Old c := by
  rintro c (rfl | rfl | ⟨x, hx, hc⟩)
  · exact h.row.old.1
  · exact h.row.old.2
  · obtain ⟨i, hi, rfl⟩ := List.getElem_of_mem hx
    exact (h.row.dev i hi).foot_old _ hc
theorem Rep.turnsX {r : Bool} {H H' : Heap} {b ds : Bk} {so : Nat} {l : List Dv} {B : Bn} (h : Rep r H b ds so l B) {X : Bk → Prop} (k : Turns X H H') (hX : ∀ c, BFoot b ds l c → ¬ X c) : Rep r H' b ds so l B := ⟨h.row.turnsX k hX, h.map⟩
theorem Mine.turnsX {r : Bool} {H0 H H' : Heap} {b ds : Bk} {so : Nat} {l : List Dv} {B : Bn} (h : Mine r H0 H b ds so l B) {X : Bk → Prop} (k : Turns X H H') (hX : ∀ c, BFoot b ds l c → ¬ X c) (h0 : ∀ c, X c → ¬ H0.Old c) : Mine r H0 H' b ds so l B :=
  ⟨h.rep.turnsX k hX, Turns.after h.t k (fun c hc hx => absurd hc (h0 c hx)), h.new⟩

end Go.Proofs.Ytcelngepfdchiaa.disk

