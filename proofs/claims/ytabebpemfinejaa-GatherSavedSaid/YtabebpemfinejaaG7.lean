import Derived.Test.YtabebpemfinejaaG6
import Derived.Test.YtabebpemfinejaaG0
import Derived.Test.YtabebpemfinejaaAmSum
set_option linter.unusedVariables false
set_option linter.unusedSectionVars false
set_option linter.unusedSimpArgs false
set_option maxRecDepth 10000
namespace Go.Proofs.Ytabebpemfinejaa.draft
open Go.Am
open disk (bx Fit A1 R1 Low Bn Bok)
theorem shr_u16w {a m : Nat} (hm : m < 16) : arith .shr (.int .u16 (a : Int)) (.int .u64 (m : Int)) = some (.int .u16 ((a / 2 ^ m : Nat) : Int)) := by
  have : min m 16 = m := by omega
  show some (V.int .u16 (.ofNat (Nat.div a (Nat.pow 2 (min m 16))))) = _
  rw [this]; rfl
theorem zeros_fine {M : Nat} (hM : 3 ≤ M ∧ M ≤ 6) : fine (M : Int) 4 40 (List.replicate 16 0) 0 := by
  refine ⟨?_, fun j hj x hx => ?_, by decide, by decide, by decide, .inr rfl⟩
  · unfold may inn
    simp only [Bool.and_eq_true, decide_eq_true_eq]
    omega
  · rw [List.getElem?_replicate] at hx
    split at hx
    all_goals first | (cases hx; done) | (cases hx; exact ⟨by decide, fun _ => rfl⟩)
theorem zeros_ready {M k E : Nat} {B : Bn} (hC : Calm M k B) (hM : 3 ≤ M ∧ M ≤ 6) (hk : k ≤ 10) (hE : E < 4294967296) (h0 : ∀ j t : Nat, j < M → t < 2 → sect B j t = 0) : Ready M k E 9 4 40 (List.replicate 16 0) 0 B := by
  have := mu_le B (List.replicate 16 0) M
  exact ⟨hC, by omega, by omega, by decide, by decide, zeros_fine hM, fun j hj t ht => .inr (by rw [h0 j t hj ht, seal_zero]; omega)⟩
theorem bit_and (y : Nat) : (((y &&& 1 : Nat) : Int) == 1) = decide (y &&& 1 = 1) := by
  by_cases h : y &&& 1 = 1
  · rw [h]; rfl
  · rw [beq_eq_false_iff_ne.2 (fun e => h (by omega)), decide_eq_false h]
theorem cnt_app (A C : List Nat) (x : Nat) : cnt (A ++ C) x = cnt A x + cnt C x := by unfold cnt; rw [List.filter_append, List.length_append]
theorem cnt_all {L : List Nat} {x : Nat} (h : ∀ y ∈ L, y = x) : cnt L x = L.length := by
  unfold cnt
  rw [List.filter_eq_self.2 (fun y hy => by simpa using h y hy)]
theorem cnt_zero_iff {L : List Nat} {x : Nat} : cnt L x = 0 ↔ ∀ y ∈ L, y ≠ x := by
  unfold cnt
  rw [List.length_eq_zero_iff, List.filter_eq_nil_iff]
  exact ⟨fun h y hy e => h y hy (by simpa using e), fun h y hy e => h y hy (by simpa using e)⟩
theorem all_lost {W : List Nat} (hW : W.length = 16) {M : Nat} (hM : M ≤ 16) {p : Nat → Bool} (h : ∀ j, j < 16 → W.getD j 0 = if j < M ∧ p j = true then 1 else 0) : (16 - (cnt W 0 : Int) = (M : Int)) ↔ ∀ j, j < M → p j = true := by
  have get : ∀ j (hj : j < 16), W[j]'(by omega) = if j < M ∧ p j = true then 1 else 0 := fun j hj => by
    have := h j hj
    simpa [List.getD, show j < W.length by omega] using this
  have e : cnt W 0 = cnt (W.take M) 0 + (16 - M) := by
    rw [show cnt W 0 = cnt (W.take M ++ W.drop M) 0 by rw [List.take_append_drop], cnt_app]
    congr 1
    rw [cnt_all, List.length_drop, hW]
    intro y hy
    obtain ⟨i, hi, rfl⟩ := List.getElem_of_mem hy
    rw [List.length_drop] at hi
    rw [List.getElem_drop, get _ (by omega), if_neg (by omega)]
  have hz : cnt (W.take M) 0 = 0 ↔ ∀ j, j < M → p j = true := by
    rw [cnt_zero_iff]
    constructor
    · intro hh j hj
      have := hh (W[j]'(by omega)) (List.mem_take_iff_getElem.2 ⟨j, by omega, rfl⟩)
      rw [get j (by omega)] at this
      cases hp : p j with
      | true => rfl
      | false => exact absurd (by rw [if_neg (by rw [hp]; simp)]) this
    · intro hh y hy
      obtain ⟨j, hj, rfl⟩ := List.mem_take_iff_getElem.1 hy
      rw [get j (by omega), if_pos ⟨by omega, hh j (by omega)⟩]
      decide
  rw [← hz]
  omega
theorem put_rr {S S' : List Nat} (hS : S.length = 16) (hS' : S'.length = 16) (m s r c c' : Int) (g : Bool) : Go.Am.put (rcells m s r S c g) 0 (rcells m s r S' c' g) = some (rcells m s r S' c' g) := by
  match S, S', hS, hS' with
  | [_, _, _, _, _, _, _, _, _, _, _, _, _, _, _, _], [_, _, _, _, _, _, _, _, _, _, _, _, _, _, _, _], _, _ => rfl
def wantL (S : List Nat) (a : Nat) : Nat → List Nat
  | 0 => S
  | i + 1 => if aBit a i = true then (wantL S a i).set i 1 else wantL S a i
theorem loseC_zero (S : List Nat) (i : Nat) : loseC S 0 i = 0 := by unfold loseC; split <;> rfl
theorem want_ok {M : Nat} {S : List Nat} (hM : M ≤ 6) (hS : S.length = 16) (hf : fine (M : Int) 4 40 S 0) (a : Nat) : ∀ i, i ≤ M → (wantL S a i).length = 16 ∧ fine (M : Int) 4 40 (wantL S a i) 0 ∧ ∀ j, (wantL S a i).getD j 0 = if j < i ∧ aBit a j = true then 1 else S.getD j 0
  | 0, _ => ⟨hS, hf, fun j => by rw [if_neg (by omega)]; rfl⟩
  | i + 1, hi => by
    obtain ⟨h1, h2, h3⟩ := want_ok hM hS hf a i (by omega)
    unfold wantL
    by_cases hb : aBit a i = true
    · rw [if_pos hb]
      refine ⟨by simpa using h1, ?_, fun j => ?_⟩
      · have := lose_fine h1 h2 (show (i : Int) < (M : Int) by omega)
        rw [loseC_zero] at this
        exact this
      · rw [getD_set (by omega), h3 j]
        by_cases e : j = i
        · subst e; rw [if_pos rfl, if_pos ⟨by omega, hb⟩]
        · rw [if_neg e]
          by_cases h : j < i ∧ aBit a j = true
          · rw [if_pos h, if_pos ⟨by omega, h.2⟩]
          · rw [if_neg h, if_neg (fun h' => h ⟨by omega, h'.2⟩)]
    · rw [if_neg hb]
      refine ⟨h1, h2, fun j => ?_⟩
      rw [h3 j]
      by_cases e : j = i
      · subst e; rw [if_neg (by omega), if_neg (fun h => hb h.2)]
      · by_cases h : j < i ∧ aBit a j = true
        · rw [if_pos h, if_pos ⟨by omega, h.2⟩]
        · rw [if_neg h, if_neg (fun h' => h ⟨by omega, h'.2⟩)]
section
variable {lf K : Nat} (hlf : 1000 < lf)
include hlf
theorem uloop1 {G G0 : Heap} {h b : Bk} {M k E a : Nat} {S : List Nat} {c : Int} {B : Bn} (hh : HB G h b 9 (E : Int) (M : Int) 4 40 S c false B) (hC : Calm M k B) (hM : 3 ≤ M ∧ M ≤ 6) (hk : k ≤ 10) (ha : a < 65536) (t0 : QOk G0 → QOk G) {V3 : V} (n : Nat) : ∀ t : T, t.getP (Tr.path 2) = some (.int .u16 (a : Int)) → t.getP (Tr.path 3) = some V3 → t.getP (Tr.path 9) = some (.int .i64 (M : Int)) → t.getP (Tr.path 10) = some (.ptr (some ⟨b, 0⟩)) → t.getP (Tr.path 15) = some (.ptr (some ⟨h, 0⟩)) → t.getP (Tr.path 17) = some (.int .i64 0) →
    wp (loopF (runC (U lf K (n + 1)) lf c3_l1) lf ⟨t, G, []⟩) fun x s' => x = .ex 0 ∧ s'.d = [] ∧ s'.t.getP (Tr.path 3) = some V3 ∧ s'.t.getP (Tr.path 9) = some (.int .i64 (M : Int)) ∧ s'.t.getP (Tr.path 10) = some (.ptr (some ⟨b, 0⟩)) ∧ s'.t.getP (Tr.path 15) = some (.ptr (some ⟨h, 0⟩)) ∧ HB s'.H h b 9 (E : Int) (M : Int) 4 40 S c false (failL B a M) ∧ (QOk G0 → QOk s'.H) := by
  intro t q2 q3 q9 q10 q15 q17
  refine wp_loopF (fun u s' => ∃ i : Nat, u = M - i ∧ i ≤ M ∧ s'.d = [] ∧ s'.t.getP (Tr.path 2) = some (.int .u16 (a : Int)) ∧ s'.t.getP (Tr.path 3) = some V3 ∧ s'.t.getP (Tr.path 9) = some (.int .i64 (M : Int)) ∧ s'.t.getP (Tr.path 10) = some (.ptr (some ⟨b, 0⟩)) ∧ s'.t.getP (Tr.path 15) = some (.ptr (some ⟨h, 0⟩)) ∧ s'.t.getP (Tr.path 17) = some (.int .i64 (i : Int)) ∧ HB s'.H h b 9 (E : Int) (M : Int) 4 40 S c false (failL B a i) ∧ (QOk G0 → QOk s'.H))
    ?_ lf M _ ⟨0, rfl, Nat.zero_le _, rfl, q2, q3, q9, q10, q15, q17, hh, t0⟩ (by omega)
  rintro u ⟨t, G1, d⟩ ⟨i, rfl, hi, hd, q2, q3, q9, q10, q15, q17, hh, t0⟩
  dsimp only at hd q2 q3 q9 q10 q15 q17 hh t0
  subst hd
  by_cases hlt : i < M
  · have hlt' : (i : Int) < (M : Int) := by omega
    have w1 : IntKind.i64.wrap ((i : Int) + 1) = ((i + 1 : Nat) : Int) := by rw [wrap_i64 (by omega)]; omega
    have w2 : IntKind.u64.wrap (i : Int) = (i : Int) := wrap_u64 (by omega)
    have hF := failed hC a i (by omega)
    have sh := shr_u16w (a := a) (m := i) (by omega)
    have hx : a / 2 ^ i < 65536 := Nat.lt_of_le_of_lt (Nat.div_le_self _ _) ha
    have hbit : aBit a i = decide ((a / 2 ^ i) &&& 1 = 1) := rfl
    generalize a / 2 ^ i = y at sh hx hbit
    have an : arith .and (.int .u16 (y : Int)) (.int .u16 1) = some (.int .u16 ((y &&& 1 : Nat) : Int)) := and_u16 hx (by decide)
    have hb1 := bit_and y
    have eF := qFail hh.bench hh.fit (i : Int) (lf := lf) (K := K) (w := n)
    rw [(hF.calm.fail hlt).1] at eF
    cases hc : decide (y &&& 1 = 1) with
    | true =>
      rw [hc] at hb1 hbit
      have e1 : failL B a (i + 1) = (failL B a i).fail (i : Int) := if_pos hbit
      simp (maxDischargeDepth := 12) only [c3_l1, q2, q3, q9, q10, q15, q17, hlt', w1, w2, sh, an, hb1, eF, hv, ldO_one, stO_one, sy, tup, ↓reduceIte, Nat.reduceEqDiff, Nat.reduceAdd, Nat.reduceSub, Nat.reduceMul, Nat.reduceDiv, Nat.reduceMod, Nat.reduceLeDiff, Int.reduceBEq, reduceCtorEq]
      refine ⟨M - (i + 1), by omega, i + 1, rfl, by omega, trivial, trivial, trivial, trivial, trivial, trivial, by simp, ?_, t0⟩
      rw [e1]
      exact hh.failed ((hF.calm.fail hlt).2.1.fit (by omega)) _
    | false =>
      rw [hc] at hb1 hbit
      have e1 : failL B a (i + 1) = failL B a i := if_neg (by rw [hbit]; decide)
      simp (maxDischargeDepth := 12) only [c3_l1, q2, q3, q9, q10, q15, q17, hlt', w1, w2, sh, an, hb1, hv, ldO_one, stO_one, sy, tup, ↓reduceIte, Nat.reduceEqDiff, Nat.reduceAdd, Nat.reduceSub, Nat.reduceMul, Nat.reduceDiv, Nat.reduceMod, Nat.reduceLeDiff, Int.reduceBEq, reduceCtorEq]
      exact ⟨M - (i + 1), by omega, i + 1, rfl, by omega, trivial, trivial, trivial, trivial, trivial, trivial, by simp, by rw [e1]; exact hh, t0⟩
  · have : i = M := by omega
    subst this
    simp (maxDischargeDepth := 12) only [c3_l1, q2, q3, q9, q10, q15, q17, Int.lt_irrefl, hv, ldO_one, stO_one, sy, tup, ↓reduceIte, Nat.reduceEqDiff, Nat.reduceAdd, Nat.reduceSub, Nat.reduceMul, Nat.reduceDiv, Nat.reduceMod, Nat.reduceLeDiff, Int.reduceBEq, reduceCtorEq]
    exact ⟨trivial, trivial, trivial, trivial, trivial, trivial, hh, t0⟩
theorem uloop2 {G G0 : Heap} {h b : Bk} {M k E a w : Nat} {S S2 : List Nat} {c : Int} {B : Bn} (hh : HB G h b 9 (E : Int) (M : Int) 4 40 S c false B) (hC : Calm M k B) (hM : 3 ≤ M ∧ M ≤ 6) (hk : k ≤ 850) (ha : a < 65536) (t0 : QOk G0 → QOk G)
    (hS2 : S2.length = 16) (hf2 : fine (M : Int) 4 40 S2 0) (hw : G.get (.run w) = some (.rows false 21 [rcells (M : Int) 4 40 S2 0 false])) (wo : w < G.next) (n : Nat) : ∀ t : T, t.getP (Tr.path 3) = some (.int .u16 (a : Int)) → t.getP (Tr.path 9) = some (.int .i64 (M : Int)) → t.getP (Tr.path 10) = some (.ptr (some ⟨b, 0⟩)) → t.getP (Tr.path 15) = some (.ptr (some ⟨h, 0⟩)) → t.getP (Tr.path 18) = some (.ptr (some ⟨.run w, 0⟩)) → t.getP (Tr.path 19) = some (.int .i64 0) →
    wp (loopF (runC (U lf K (n + 1)) lf c3_l0) lf ⟨t, G, []⟩) fun x s' => x = .ex 2 ∧ s'.d = [] ∧ s'.t.getP (Tr.path 9) = some (.int .i64 (M : Int)) ∧ s'.t.getP (Tr.path 10) = some (.ptr (some ⟨b, 0⟩)) ∧ s'.t.getP (Tr.path 15) = some (.ptr (some ⟨h, 0⟩)) ∧ s'.t.getP (Tr.path 18) = some (.ptr (some ⟨.run w, 0⟩)) ∧ HB s'.H h b 9 (E : Int) (M : Int) 4 40 S c false (failL B a M) ∧ s'.H.get (.run w) = some (.rows false 21 [rcells (M : Int) 4 40 (wantL S2 a M) 0 false]) ∧ w < s'.H.next ∧ (QOk G0 → QOk s'.H) := by
  intro t q3 q9 q10 q15 q18 q19
  refine wp_loopF (fun u s' => ∃ i : Nat, u = M - i ∧ i ≤ M ∧ s'.d = [] ∧ s'.t.getP (Tr.path 3) = some (.int .u16 (a : Int)) ∧ s'.t.getP (Tr.path 9) = some (.int .i64 (M : Int)) ∧ s'.t.getP (Tr.path 10) = some (.ptr (some ⟨b, 0⟩)) ∧ s'.t.getP (Tr.path 15) = some (.ptr (some ⟨h, 0⟩)) ∧ s'.t.getP (Tr.path 18) = some (.ptr (some ⟨.run w, 0⟩)) ∧ s'.t.getP (Tr.path 19) = some (.int .i64 (i : Int)) ∧ HB s'.H h b 9 (E : Int) (M : Int) 4 40 S c false (failL B a i) ∧ s'.H.get (.run w) = some (.rows false 21 [rcells (M : Int) 4 40 (wantL S2 a i) 0 false]) ∧ w < s'.H.next ∧ (QOk G0 → QOk s'.H))
    ?_ lf M _ ⟨0, rfl, Nat.zero_le _, rfl, q3, q9, q10, q15, q18, q19, hh, hw, wo, t0⟩ (by omega)
  rintro u ⟨t, G1, d⟩ ⟨i, rfl, hi, hd, q3, q9, q10, q15, q18, q19, hh, hw, wo, t0⟩
  dsimp only at hd q3 q9 q10 q15 q18 q19 hh hw wo t0
  subst hd
  by_cases hlt : i < M
  · have hlt' : (i : Int) < (M : Int) := by omega
    have w1 : IntKind.i64.wrap ((i : Int) + 1) = ((i + 1 : Nat) : Int) := by rw [wrap_i64 (by omega)]; omega
    have w2 : IntKind.u64.wrap (i : Int) = (i : Int) := wrap_u64 (by omega)
    have hF := failed hC a i (by omega)
    obtain ⟨v1, v2, v3⟩ := want_ok (by omega) hS2 hf2 a i (by omega)
    have sh := shr_u16w (a := a) (m := i) (by omega)
    have hx : a / 2 ^ i < 65536 := Nat.lt_of_le_of_lt (Nat.div_le_self _ _) ha
    have hbit : aBit a i = decide ((a / 2 ^ i) &&& 1 = 1) := rfl
    generalize a / 2 ^ i = y at sh hx hbit
    have an : arith .and (.int .u16 (y : Int)) (.int .u16 1) = some (.int .u16 ((y &&& 1 : Nat) : Int)) := and_u16 hx (by decide)
    have hb1 := bit_and y
    have eF := qFail hh.bench hh.fit (i : Int) (lf := lf) (K := K) (w := n)
    rw [(hF.calm.fail hlt).1] at eF
    cases hc : decide (y &&& 1 = 1) with
    | true =>
      rw [hc] at hb1 hbit
      have e1 : failL B a (i + 1) = (failL B a i).fail (i : Int) := if_pos hbit
      have e2 : wantL S2 a (i + 1) = (wantL S2 a i).set i 1 := if_pos hbit
      have hcu : cut (rcells (M : Int) 4 40 (wantL S2 a i) 0 false) 0 21 = some (rcells (M : Int) 4 40 (wantL S2 a i) 0 false) := by
        rw [cut_thin (r_thin _ _ _ _ _ _) (by rw [r_len v1]; exact Nat.le_refl _)]
        rw [List.drop_zero, List.take_of_length_le (by rw [r_len v1]; exact Nat.le_refl _)]
      have hwd := r_width (S := (wantL S2 a i).set i 1) (by simpa using v1) (M : Int) 4 40 0 false
      have hpt := put_rr (S := wantL S2 a i) (S' := (wantL S2 a i).set i 1) v1 (by simpa using v1) (M : Int) 4 40 0 0 false
      have nwb := ne_of_get hw hh.bench (by intro e; cases e)
      have nwh := ne_of_get hh.hull.own hw (by simp)
      have hi16 : i < (wantL S2 a i).length := by omega
      have eL : ∀ H : Heap, U lf K (n + 1) 10 [ros (M : Int) 4 40 (wantL S2 a i) 0 false, .int .i64 (i : Int)] H = some (.v (.tuple [ros (M : Int) 4 40 ((wantL S2 a i).set i 1) 0 false, .bool (!((((wantL S2 a i)[i] : Nat) : Int) == 1))]), H.skip (K + 2)) := fun H => qp_ashlarref10_Lose (fun H => by
        obtain ⟨v, H', e, rfl, t⟩ := rlose_at H v1 v2 hlt' hi16 lf 55 (by omega) (g := false)
        rw [loseC_zero] at e
        exact ⟨_, H', e, rfl, t⟩)
      unfold ros at eL
      simp (maxDischargeDepth := 12) only [c3_l0, q3, q9, q10, q15, q18, q19, hlt', w1, w2, sh, an, hb1, eF, hw, nwb, hcu, eL, hwd, hpt, hv, ldO_one, stO_one, sy, tup, ↓reduceIte, Nat.reduceEqDiff, Nat.reduceAdd, Nat.reduceSub, Nat.reduceMul, Nat.reduceDiv, Nat.reduceMod, Nat.reduceLeDiff, Int.reduceBEq, reduceCtorEq]
      have hA := hh.failed (B' := (failL B a i).fail (i : Int)) ((hF.calm.fail hlt).2.1.fit (by omega)) (K + 2)
      refine ⟨M - (i + 1), by omega, i + 1, rfl, by omega, trivial, trivial, trivial, trivial, trivial, trivial, by simp, ?_, by rw [e2], ?_, t0⟩
      · rw [e1]
        have tA : Turns (fun x => x = .run w) ((G1.set b (bx false ((failL B a i).fail (i : Int)))).skip (K + 2)) ((((G1.set b (bx false ((failL B a i).fail (i : Int)))).skip (K + 2)).skip (K + 2)).set (.run w) (.rows false 21 [rcells (M : Int) 4 40 ((wantL S2 a i).set i 1) 0 false])) := by repeat (first | exact Turns.refl _ _ | apply Turns.skip | apply Turns.addm | apply Turns.setb | apply Turns.setl | apply Turns.setr | refine Turns.setn ?_ _ (by omega) _ | refine Turns.trans ?_ (tF _))
        exact ⟨⟨(tA.same h hA.hull.old (fun e => by rw [nwh] at e; exact e)).trans hA.hull.own, hA.hull.len, hA.hull.old.mono tA.next⟩, (tA.same b hA.old (fun e => by have e' := e.symm; rw [nwb] at e'; exact e')).trans hA.bench, hA.old.mono tA.next, hA.fit⟩
      · show w < G1.next + (K + 2) + (K + 2); omega
    | false =>
      rw [hc] at hb1 hbit
      have e1 : failL B a (i + 1) = failL B a i := if_neg (by rw [hbit]; decide)
      have e2 : wantL S2 a (i + 1) = wantL S2 a i := if_neg (by rw [hbit]; decide)
      simp (maxDischargeDepth := 12) only [c3_l0, q3, q9, q10, q15, q18, q19, hlt', w1, w2, sh, an, hb1, hv, ldO_one, stO_one, sy, tup, ↓reduceIte, Nat.reduceEqDiff, Nat.reduceAdd, Nat.reduceSub, Nat.reduceMul, Nat.reduceDiv, Nat.reduceMod, Nat.reduceLeDiff, Int.reduceBEq, reduceCtorEq]
      exact ⟨M - (i + 1), by omega, i + 1, rfl, by omega, trivial, trivial, trivial, trivial, trivial, trivial, by simp, by rw [e1]; exact hh, by rw [e2]; exact hw, wo, t0⟩
  · have : i = M := by omega
    subst this
    simp (maxDischargeDepth := 12) only [c3_l0, q3, q9, q10, q15, q18, q19, Int.lt_irrefl, hv, ldO_one, stO_one, sy, tup, ↓reduceIte, Nat.reduceEqDiff, Nat.reduceAdd, Nat.reduceSub, Nat.reduceMul, Nat.reduceDiv, Nat.reduceMod, Nat.reduceLeDiff, Int.reduceBEq, reduceCtorEq]
    exact ⟨trivial, trivial, trivial, trivial, trivial, trivial, hh, hw, wo, t0⟩
theorem ulives (H : Heap) (n : Nat) : U lf K (n + 1) 13 [] H = some (.v (.bool true), H) := callU_told rfl
theorem gathersaved_run (G : Heap) {u E a1 a2 : Nat} (hu : u < 256) (hE : E < 4294967296) (h1 : a1 < 65536) (h2 : a2 < 65536) (n : Nat) :
    ret (U lf K (n + 9) 3 [.int .u8 (u : Int), .int .u32 (E : Int), .int .u16 (a1 : Int), .int .u16 (a2 : Int)] G) fun v G' => v = .bool true ∧ (QOk G → QOk G') := by
  have r4 : arith .rem (.int .u8 (u : Int)) (.int .u8 4) = some (.int .u8 ((u % 4 : Nat) : Int)) := rem_u8 u 4 (by decide)
  have hu4 : u % 4 < 4 := Nat.mod_lt _ (by decide)
  generalize u % 4 = w at *
  obtain ⟨M, hM⟩ : ∃ M, M = 3 + w := ⟨_, rfl⟩
  have hM6 : 3 ≤ M ∧ M ≤ 6 := by omega
  have w1 : IntKind.i64.wrap (w : Int) = (w : Int) := wrap_i64 (by omega)
  have w2 : IntKind.i64.wrap (3 + (w : Int)) = (M : Int) := by rw [wrap_i64 (by omega)]; omega
  have w3 : IntKind.u64.wrap (E : Int) = (E : Int) := wrap_u64 (by omega)
  have hz := zeros_fine hM6
  obtain ⟨cC, cd, cL, clen⟩ := zero_calm hM6
  obtain ⟨v1, G1, e1, b, cc, rfl, hb1, bo1, t1⟩ := ubenches hlf (K := K) G (k := M) (by omega) (n + 6)
  obtain ⟨v2, G2, e2, rfl, t2⟩ := unew10 hlf (K := K) hz G1 (n + 6)
  have hwr := r_width (S := List.replicate 16 0) (by simp) (M : Int) 4 40 0 false
  have hpr : Go.Am.put zros 0 (rcells (M : Int) 4 40 (List.replicate 16 0) 0 false) = some (rcells (M : Int) 4 40 (List.replicate 16 0) 0 false) := put_r (by simp)
  have hcr : cut (rcells (M : Int) 4 40 (List.replicate 16 0) 0 false) 0 21 = some (rcells (M : Int) 4 40 (List.replicate 16 0) 0 false) := by
    rw [cut_thin (r_thin _ _ _ _ _ _) (by rw [r_len (by simp)]; exact Nat.le_refl _)]
    rw [List.drop_zero, List.take_of_length_le (by rw [r_len (by simp)]; exact Nat.le_refl _)]
  have t3 : Turns Z G2 ((G2.add (.rows false 21 [zros])).set (.run G2.next) (.rows false 21 [rcells (M : Int) 4 40 (List.replicate 16 0) 0 false])) := by repeat (first | exact Turns.refl _ _ | apply Turns.skip | apply Turns.addm | apply Turns.setb | apply Turns.setl | apply Turns.setr | refine Turns.setn ?_ _ (by omega) _ | refine Turns.trans ?_ (tF _))
  have hb3 := ((t2.trans t3).same b bo1 (fun h => h)).trans hb1
  have bo3 := bo1.mono (t2.trans t3).next
  have hsec : ∀ d : Int, 0 ≤ d ∧ d < (M : Int) → (4 : Int) + 2 ≤ (disk.newB (sizes M)).sectors d := fun d hd => by
    obtain ⟨d', rfl⟩ : ∃ d' : Nat, d = (d' : Int) := ⟨d.toNat, by omega⟩
    unfold Bn.sectors
    rw [cC.tc (i := d') (by omega), if_pos rfl, cd d' (by omega)]
    decide
  obtain ⟨v4, G4, e4, h, rfl, hh4, hnew4, t4⟩ := uhnew hlf (K := K) hb3 (cC.fit (by omega)) bo3 (id := 9) (ev := (E : Int)) (m := (M : Int)) (s := 4) (r := 40) (c := 0) (g := false) (by simp) (by decide) (by omega) hz (by rw [clen]; simp) hsec (n + 5)
  have q4 : QOk G → QOk G4 := fun q => t4.q (t3.q (t2.q (t1.q q)))
  unfold zros at hpr e4 t3
  unfold ros at e2 e4
  unfold geo at e2
  refine ret_callU rfl rfl c3_eq ?_
  simp (maxDischargeDepth := 12) only [c3, r4, w1, w2, w3, e1, e2, e4, hwr, hpr, hcr, hv, ldO_one, stO_one, sy, tup, ↓reduceIte, Nat.reduceEqDiff, Nat.reduceAdd, Nat.reduceSub, Nat.reduceMul, Nat.reduceDiv, Nat.reduceMod, Nat.reduceLeDiff, Int.reduceBEq, reduceCtorEq]
  refine wp_ctx (F := fun r => seqC _ _ _ (blockC _ r)) (uloop1 hlf (n := n + 7) (V3 := .int .u16 (a2 : Int)) hh4 cC hM6 (by omega) h1 q4 _ ?_ ?_ ?_ ?_ ?_ ?_) ?_
  · simp only [sy, tup, ↓reduceIte, Nat.reduceEqDiff, Nat.reduceAdd, Nat.reduceSub, Nat.reduceMul, Nat.reduceDiv, Nat.reduceMod, Nat.reduceLeDiff, Int.reduceBEq, reduceCtorEq]
  · simp only [sy, tup, ↓reduceIte, Nat.reduceEqDiff, Nat.reduceAdd, Nat.reduceSub, Nat.reduceMul, Nat.reduceDiv, Nat.reduceMod, Nat.reduceLeDiff, Int.reduceBEq, reduceCtorEq]
  · simp only [sy, tup, ↓reduceIte, Nat.reduceEqDiff, Nat.reduceAdd, Nat.reduceSub, Nat.reduceMul, Nat.reduceDiv, Nat.reduceMod, Nat.reduceLeDiff, Int.reduceBEq, reduceCtorEq]
  · simp only [sy, tup, ↓reduceIte, Nat.reduceEqDiff, Nat.reduceAdd, Nat.reduceSub, Nat.reduceMul, Nat.reduceDiv, Nat.reduceMod, Nat.reduceLeDiff, Int.reduceBEq, reduceCtorEq]
  · simp only [sy, tup, ↓reduceIte, Nat.reduceEqDiff, Nat.reduceAdd, Nat.reduceSub, Nat.reduceMul, Nat.reduceDiv, Nat.reduceMod, Nat.reduceLeDiff, Int.reduceBEq, reduceCtorEq]
  · simp only [sy, tup, ↓reduceIte, Nat.reduceEqDiff, Nat.reduceAdd, Nat.reduceSub, Nat.reduceMul, Nat.reduceDiv, Nat.reduceMod, Nat.reduceLeDiff, Int.reduceBEq, reduceCtorEq]
  rintro x ⟨t, G5, d⟩ ⟨rfl, hd, p3, p9, p10, p15, hh5, q5⟩
  dsimp only at hd p3 p9 p10 p15 hh5 q5
  subst hd
  have F1 := failed cC a1 M (Nat.le_refl _)
  have hs1 : ∀ j t : Nat, j < M → t < 2 → sect (failL (disk.newB (sizes M)) a1 M) j t = 0 := fun j t hj ht => by
    unfold sect
    rw [F1.S j (by omega), cd j hj]
    have : t = 0 ∨ t = 1 := by omega
    rcases this with rfl | rfl <;> rfl
  have hR := zeros_ready (E := E) F1.calm hM6 (by omega) hE hs1
  obtain ⟨v6, G6, e6, rfl, E', S', c', B', hsv, hh6, t6⟩ := usave hlf (K := K) hh5 hR (by omega) (by omega) (n + 1)
  have q6 : QOk G → QOk G6 := fun q => t6.q (q5 q)
  have hS16 := hsv.len
  have h01 : ∀ j, S'.getD j 0 = 0 ∨ (S'.getD j 0 = 1 ∧ j < M ∧ dead (failL (disk.newB (sizes M)) a1 M) j = true) := fun j => by
    rcases hsv.st j with h | h
    · refine .inl (h.trans ?_)
      rw [List.getD, List.getElem?_replicate]
      split <;> rfl
    · exact .inr h
  have hc0 : c' = 0 := by
    rcases hsv.fine.2.2.2.2.2 with h | h
    · exfalso
      have : cnt S' 2 = 0 := by
        unfold cnt
        rw [List.length_eq_zero_iff, List.filter_eq_nil_iff]
        intro x hx
        obtain ⟨i, hi, rfl⟩ := List.getElem_of_mem hx
        have := h01 i
        simp only [List.getD, List.getElem?_eq_getElem hi, Option.getD_some] at this
        simp; omega
      omega
    · exact h
  subst hc0
  obtain ⟨v7, G7, e7, rfl, t7⟩ := uhroster hlf hh6 (n + 6) (K := K)
  have hh7 := hh6.turns t7
  have hw7 := r_width hS16 (M : Int) 4 40 0 false
  have hp7 : Go.Am.put zros 0 (rcells (M : Int) 4 40 S' 0 false) = some (rcells (M : Int) 4 40 S' 0 false) := put_r hS16
  have t8 : Turns Z G7 ((G7.add (.rows false 21 [zros])).set (.run G7.next) (.rows false 21 [rcells (M : Int) 4 40 S' 0 false])) := by repeat (first | exact Turns.refl _ _ | apply Turns.skip | apply Turns.addm | apply Turns.setb | apply Turns.setl | apply Turns.setr | refine Turns.setn ?_ _ (by omega) _ | refine Turns.trans ?_ (tF _))
  have hh8 := hh7.turns t8
  have q8 : QOk G → QOk ((G7.add (.rows false 21 [zros])).set (.run G7.next) (.rows false 21 [rcells (M : Int) 4 40 S' 0 false])) := fun q => t8.q (t7.q (q6 q))
  obtain ⟨k6, hk6, hC6⟩ := hsv.calm
  unfold zros at hp7 hh8 q8
  unfold ros at e7
  simp (maxDischargeDepth := 12) only [p3, p9, p10, p15, e6, e7, hw7, hp7, hv, ldO_one, stO_one, sy, tup, ↓reduceIte, Nat.reduceEqDiff, Nat.reduceAdd, Nat.reduceSub, Nat.reduceMul, Nat.reduceDiv, Nat.reduceMod, Nat.reduceLeDiff, Int.reduceBEq, reduceCtorEq]
  refine wp_ctx (F := fun r => seqC _ _ _ (blockC _ r)) (uloop2 hlf (n := n + 7) hh8 hC6 hM6 hk6 h2 q8 hS16 hsv.fine (w := G7.next) (by rw [Heap.get_set, if_pos rfl]) (by show _ < _ + 1; omega) _ ?_ ?_ ?_ ?_ ?_ ?_) ?_
  · simp only [p3, sy, tup, ↓reduceIte, Nat.reduceEqDiff, Nat.reduceAdd, Nat.reduceSub, Nat.reduceMul, Nat.reduceDiv, Nat.reduceMod, Nat.reduceLeDiff, Int.reduceBEq, reduceCtorEq]
  · simp only [p9, sy, tup, ↓reduceIte, Nat.reduceEqDiff, Nat.reduceAdd, Nat.reduceSub, Nat.reduceMul, Nat.reduceDiv, Nat.reduceMod, Nat.reduceLeDiff, Int.reduceBEq, reduceCtorEq]
  · simp only [p10, sy, tup, ↓reduceIte, Nat.reduceEqDiff, Nat.reduceAdd, Nat.reduceSub, Nat.reduceMul, Nat.reduceDiv, Nat.reduceMod, Nat.reduceLeDiff, Int.reduceBEq, reduceCtorEq]
  · simp only [p15, sy, tup, ↓reduceIte, Nat.reduceEqDiff, Nat.reduceAdd, Nat.reduceSub, Nat.reduceMul, Nat.reduceDiv, Nat.reduceMod, Nat.reduceLeDiff, Int.reduceBEq, reduceCtorEq]
  · simp only [sy, tup, ↓reduceIte, Nat.reduceEqDiff, Nat.reduceAdd, Nat.reduceSub, Nat.reduceMul, Nat.reduceDiv, Nat.reduceMod, Nat.reduceLeDiff, Int.reduceBEq, reduceCtorEq]
  · simp only [sy, tup, ↓reduceIte, Nat.reduceEqDiff, Nat.reduceAdd, Nat.reduceSub, Nat.reduceMul, Nat.reduceDiv, Nat.reduceMod, Nat.reduceLeDiff, Int.reduceBEq, reduceCtorEq]
  rintro x ⟨t, G9, d⟩ ⟨rfl, hd, p9, p10, p15, p18, hh9, hw9, wo9, q9⟩
  dsimp only at hd p9 p10 p15 p18 hh9 hw9 wo9 q9
  subst hd
  obtain ⟨F2c, F2S, F2d⟩ := failed hC6 a2 M (Nat.le_refl _)
  obtain ⟨W1, W2, W3⟩ := want_ok (by omega) hS16 hsv.fine a2 M (Nat.le_refl _)
  generalize hBB : failL B' a2 M = BB at *
  generalize hWW : wantL S' a2 M = W at *
  have hd2 : ∀ j, j < M → dead BB j = (dead (failL (disk.newB (sizes M)) a1 M) j || aBit a2 j) := fun j hj => by
    rw [F2d j hj, hsv.dd j hj, decide_eq_true hj]; simp
  have g6 : ∀ j : Nat, j < M → (BB.dev (j : Int)).S.length = 6 := fun j hj => by
    rw [F2S j (by omega), hsv.sz j (by omega), F1.S j (by omega), cd j hj]; rfl
  have g50 : (BB.dev (M : Int)).S.length = 50 := by
    rw [F2S M (by omega), hsv.sz M (by omega), F1.S M (by omega), cL]; rfl
  have hmu := mu_le (failL (disk.newB (sizes M)) a1 M) (List.replicate 16 0) M
  have hEv := hsv.ev
  have gX : ∀ j : Nat, j < M → dead BB j = false → hasX BB j (E' - 1) (supBlk E' 9 j M 4 40 S' 0 false) := fun j hj hd => by
    rw [hd2 j hj, Bool.or_eq_false_iff] at hd
    have hn1 : S'.getD j 0 ≠ 1 := fun e => by
      rcases h01 j with h | h
      · omega
      · rw [h.2.2] at hd; cases hd.1
    obtain ⟨_, p, p1, p2, p3⟩ := hsv.has j hj hn1
    have se : ∀ q, sect BB j q = sect B' j q := fun q => by unfold sect; rw [F2S j (by omega)]
    exact ⟨p, p1, by rw [se]; exact p2, by rw [se]; exact p3⟩
  have hWj : ∀ j, j < 16 → W.getD j 0 = if j < M ∧ dead BB j = true then 1 else 0 := fun j hj => by
    rw [W3 j]
    by_cases hjM : j < M
    · rw [hd2 j hjM]
      by_cases hb : aBit a2 j = true
      · rw [if_pos ⟨hjM, hb⟩, if_pos ⟨hjM, by rw [hb]; simp⟩]
      · have hb' : aBit a2 j = false := by simpa using hb
        rw [if_neg (fun h => hb h.2), hb', Bool.or_false]
        rcases h01 j with h | h
        · rw [h]
          by_cases hdj : dead (failL (disk.newB (sizes M)) a1 M) j = true
          · have := (hsv.has j hjM (by omega)).1
            rw [this] at hdj; cases hdj
          · rw [if_neg (fun h => hdj h.2)]
        · rw [h.1, if_pos ⟨hjM, h.2.2⟩]
    · rw [if_neg (fun h => hjM h.1), if_neg (fun h => hjM h.1)]
      rcases h01 j with h | h
      · exact h
      · omega
  have gT : ∀ j, j < 16 → W.getD j 0 = if j < M ∧ dead BB j = true then 1 else S'.getD j 0 := fun j hj => by
    rw [hWj j hj]
    by_cases h : j < M ∧ dead BB j = true
    · rw [if_pos h, if_pos h]
    · rw [if_neg h, if_neg h]
      rcases h01 j with h' | h'
      · exact h'.symm
      · exact absurd ⟨h'.2.1, by rw [hd2 j h'.2.1, h'.2.2]; rfl⟩ h
  have no2 : ∀ j, S'.getD j 0 ≠ 2 := fun j => by rcases h01 j with h | h <;> omega
  have hdk : BB.dk = false := F2c.dk
  have hfit : Fit BB := F2c.fit (by omega)
  have eK := qLook (lf := lf) (K := K) (w := n + 7) hh9.bench hfit hdk
  have eM : ∀ H : Heap, U lf K (n + 8) 12 [ros (M : Int) 4 40 W 0 false] H = some (.v (.int .i64 (16 - (cnt W 0 : Int))), H.skip (K + 2)) := fun H => qp_ashlarref10_Missing (fun H => by
    obtain ⟨v, H', e, rfl, t⟩ := rmissing_ok W1 W2 H lf 56 (by omega) (g := false)
    exact ⟨_, H', e, rfl, t⟩)
  have eR : ∀ H : Heap, U lf K (n + 8) 15 [ros (M : Int) 4 40 W 0 false, ros (M : Int) 4 40 W 0 false] H = some (.v (.bool true), H.skip (K + 2)) := fun H => qp_ashlarref08_Rosters (fun H => by
    obtain ⟨v, H', e, rfl, t⟩ := rosters_ok H W1 lf 58 (by omega) (m := (M : Int)) (s := 4) (r := 40) (c := 0) (g := false)
    exact ⟨_, H', e, rfl, t⟩)
  have eV := fun H : Heap => ulives hlf (K := K) H (n + 7)
  have hcW : cut (rcells (M : Int) 4 40 W 0 false) 0 21 = some (rcells (M : Int) 4 40 W 0 false) := by
    rw [cut_thin (r_thin _ _ _ _ _ _) (by rw [r_len W1]; exact Nat.le_refl _)]
    rw [List.drop_zero, List.take_of_length_le (by rw [r_len W1]; exact Nat.le_refl _)]
  have hall := all_lost W1 (by omega) hWj
  have nw0 : (G7.next = G9.next + (K + 2)) = False := by simp; omega
  unfold ros at eM eR
  by_cases hdead : ∀ j, j < M → dead BB j = true
  · rw [look_none F2c g6 g50 hM6 (by omega) hsv.fine hS16 gX hdead] at eK
    have bz : ((16 - (cnt W 0 : Int)) == (M : Int)) = true := by rw [beq_iff_eq]; exact hall.2 hdead
    have hz1 : zf = [.int .u64 0, .int .u64 0, .int .i64 0, .int .i64 0, .int .i64 0, .int .u8 0, .int .u8 0, .int .u8 0, .int .u8 0, .int .u8 0, .int .u8 0, .int .u8 0, .int .u8 0, .int .u8 0, .int .u8 0, .int .u8 0, .int .u8 0, .int .u8 0, .int .u8 0, .int .u8 0, .int .u8 0, .int .i64 0, .bool false] := rfl
    have wz : width zf = 23 := rfl
    have pz : Go.Am.put zf 0 zf = some zf := put_ff (by simp) (by simp) _ _ _ _ _ _ _ _ _ _ _ _ _ _
    rw [hz1] at eK wz pz
    simp (maxDischargeDepth := 12) only [p9, p10, p15, p18, eK, wz, pz, hw9, nw0, hcW, eM, bz, eV, hv, ldO_one, stO_one, sy, tup, ↓reduceIte, Nat.reduceEqDiff, Nat.reduceAdd, Nat.reduceSub, Nat.reduceMul, Nat.reduceDiv, Nat.reduceMod, Nat.reduceLeDiff, Int.reduceBEq, reduceCtorEq]
    exact ⟨trivial, .inr trivial, _, rfl, rfl, q9⟩
  · have hex : ∃ j, j < M ∧ dead BB j = false := by
      apply Classical.byContradiction
      intro hn
      apply hdead
      intro j hj
      cases hc : dead BB j with
      | true => rfl
      | false => exact absurd ⟨j, hj, hc⟩ hn
    rw [look_found F2c g6 g50 hM6 (by omega) hsv.fine hS16 gX no2 hex W1 gT] at eK
    have bz : ((16 - (cnt W 0 : Int)) == (M : Int)) = false := by rw [beq_eq_false_iff_ne]; exact fun e => hdead (hall.1 e)
    have wz := f_width W1 (E' : Int) 9 (M : Int) 4 40 0 false
    have pz : Go.Am.put zf 0 (fcells (E' : Int) 9 (M : Int) 4 40 W 0 false) = some (fcells (E' : Int) 9 (M : Int) 4 40 W 0 false) := put_ff (by simp) W1 _ _ _ _ _ _ _ _ _ _ _ _ _ _
    have hz1 : zf = [.int .u64 0, .int .u64 0, .int .i64 0, .int .i64 0, .int .i64 0, .int .u8 0, .int .u8 0, .int .u8 0, .int .u8 0, .int .u8 0, .int .u8 0, .int .u8 0, .int .u8 0, .int .u8 0, .int .u8 0, .int .u8 0, .int .u8 0, .int .u8 0, .int .u8 0, .int .u8 0, .int .u8 0, .int .i64 0, .bool false] := rfl
    rw [hz1] at pz
    have c0 : cut (fcells (E' : Int) 9 (M : Int) 4 40 W 0 false) 0 1 = some [.int .u64 (E' : Int)] := rfl
    have c1 : cut (fcells (E' : Int) 9 (M : Int) 4 40 W 0 false) 1 1 = some [.int .u64 9] := rfl
    have c2 : cut (fcells (E' : Int) 9 (M : Int) 4 40 W 0 false) 2 21 = some (rcells (M : Int) 4 40 W 0 false) := by
      rw [cut_thin (f_thin _ _ _ _ _ _ _ _) (by rw [f_len W1]; exact Nat.le_refl _)]
      show some (List.take 21 (rcells (M : Int) 4 40 W 0 false)) = _
      rw [List.take_of_length_le (by rw [r_len W1]; exact Nat.le_refl _)]
    unfold fnd at eK
    have eE : ∀ H : Heap, HB H h b 9 (E' : Int) (M : Int) 4 40 S' 0 false BB → U lf K (n + 8) 14 [.ptr (some ⟨h, 0⟩)] H = some (.v (.int .u64 (E' : Int)), H) := fun H x => uhevent hlf x (n + 6)
    have t10 : Turns Z G9 ((((G9.skip (K + 2)).add (.rows false 23 [zf])).set (.run (G9.next + (K + 2))) (.rows false 23 [fcells (E' : Int) 9 (M : Int) 4 40 W 0 false])).skip (K + 2)) := by repeat (first | exact Turns.refl _ _ | apply Turns.skip | apply Turns.addm | apply Turns.setb | apply Turns.setl | apply Turns.setr | refine Turns.setn ?_ _ (by omega) _ | refine Turns.trans ?_ (tF _))
    have eE1 := eE _ (hh9.turns t10)
    rw [hz1] at eE1
    simp (maxDischargeDepth := 12) only [p9, p10, p15, p18, eK, wz, pz, hw9, nw0, hcW, eM, bz, eV, eE1, c0, c1, c2, eR, hv, ldO_one, stO_one, sy, tup, ↓reduceIte, Nat.reduceEqDiff, Nat.reduceAdd, Nat.reduceSub, Nat.reduceMul, Nat.reduceDiv, Nat.reduceMod, Nat.reduceLeDiff, Int.reduceBEq, reduceCtorEq]
    rw [← hz1]
    obtain ⟨HH, hHH⟩ : ∃ HH, (((G9.skip (K + 2)).add (.rows false 23 [zf])).set (.run (G9.next + (K + 2))) (.rows false 23 [fcells (E' : Int) 9 (M : Int) 4 40 W 0 false])).skip (K + 2) = HH := ⟨_, rfl⟩
    have hHg : HH.get (.run (G9.next + (K + 2))) = some (.rows false 23 [fcells (E' : Int) 9 (M : Int) 4 40 W 0 false]) := by
      rw [← hHH, get_skip, Heap.get_set, if_pos rfl]
    simp only [hHH]
    rw [hHH] at t10
    obtain ⟨Q, hQ⟩ : ∃ Q : List (Option V × Option V), Q = [(loadF (.t (Tr.path 112)) 1 .sc (Tr.setP (Tr.path 112) (.ptr (some ⟨.run (G9.next + (K + 2)), 0⟩)) .e) HH, some (.int .u64 (E' : Int))), (loadF (.t (Tr.path 112)) 1 .sc (Tr.setP (Tr.path 112) (.ptr (some ⟨.run (G9.next + (K + 2)), 0⟩)) .e) HH, some (.int .u64 (E' : Int)))] := ⟨_, rfl⟩
    rw [endD_q (q := Q) (by kernel_rfl) (by rw [hQ]; kernel_rfl)]
    have hQ' : ∀ x ∈ Q, x.1 = x.2 := by
      rw [hQ]
      intro x hx
      simp only [List.mem_cons, List.not_mem_nil, or_false] at hx
      rcases hx with rfl | rfl <;> simp (maxDischargeDepth := 12) only [hHg, c0, hv, ldO_one, stO_one, sy, tup, ↓reduceIte, Nat.reduceEqDiff, Nat.reduceAdd, Nat.reduceSub, Nat.reduceMul, Nat.reduceDiv, Nat.reduceMod, Nat.reduceLeDiff, Int.reduceBEq, reduceCtorEq]
    simp (maxDischargeDepth := 12) only [hv, ldO_one, stO_one, sy, tup, ↓reduceIte, Nat.reduceEqDiff, Nat.reduceAdd, Nat.reduceSub, Nat.reduceMul, Nat.reduceDiv, Nat.reduceMod, Nat.reduceLeDiff, Int.reduceBEq, reduceCtorEq]
    exact ⟨trivial, .inr trivial, _, rfl, rfl, fun q => (((t10.skip _).owe hQ').q (q9 q))⟩
end
end Go.Proofs.Ytabebpemfinejaa.draft

set_option linter.unusedVariables false
namespace Go.Proofs.Ytabebpemfinejaa.lives22
open Go.Am
def memo0 : Memo := ⟨66, [.blk 0], .tuple [.int .u64 0, .agg [.int .u64 0, .int .i64 0, .int .i64 0, .int .i64 0, .int .i64 0, .int .u8 0, .int .u8 0, .int .u8 0, .int .u8 0, .int .u8 0, .int .u8 0, .int .u8 0, .int .u8 0, .int .u8 0, .int .u8 0, .int .u8 0, .int .u8 0, .int .u8 0, .int .u8 0, .int .u8 0, .int .u8 0, .int .i64 0, .bool false], .int .i64 5]⟩
theorem memo0_run : okM memo0 (callS Try.prog crc.takeS 100000 60 memo0.f memo0.args (heapA Try.prog fun _ => none)) = true := by kernel_rfl
def memo1 : Memo := ⟨66, [.blk 1239138386279917519339792430634562312969550655995093206853770536149835543530190353933088587068923101192633599189726326044065782621536257], .tuple [.int .u64 1, .agg [.int .u64 9, .int .i64 1, .int .i64 3, .int .i64 4, .int .i64 40, .int .u8 0, .int .u8 0, .int .u8 0, .int .u8 0, .int .u8 0, .int .u8 0, .int .u8 0, .int .u8 0, .int .u8 0, .int .u8 0, .int .u8 0, .int .u8 0, .int .u8 0, .int .u8 0, .int .u8 0, .int .u8 0, .int .i64 0, .bool false], .int .i64 0]⟩
theorem memo1_run : okM memo1 (callS Try.prog crc.takeS 100000 60 memo1.f memo1.args (heapA Try.prog fun _ => none)) = true := by kernel_rfl
def memo2 : Memo := ⟨66, [.blk 1308262408627708773011593332307954792753293337954516135512619081594287827165932009530906503487575286452112481544338947321828435654868993], .tuple [.int .u64 1, .agg [.int .u64 9, .int .i64 0, .int .i64 3, .int .i64 4, .int .i64 40, .int .u8 0, .int .u8 0, .int .u8 0, .int .u8 0, .int .u8 0, .int .u8 0, .int .u8 0, .int .u8 0, .int .u8 0, .int .u8 0, .int .u8 0, .int .u8 0, .int .u8 0, .int .u8 0, .int .u8 0, .int .u8 0, .int .i64 0, .bool false], .int .i64 0]⟩
theorem memo2_run : okM memo2 (callS Try.prog crc.takeS 100000 60 memo2.f memo2.args (heapA Try.prog fun _ => none)) = true := by kernel_rfl
def memo3 : Memo := ⟨66, [.blk 901520035463236408691606416526808200634028965800205494182869424506979263085858796802753807186564016484422377670913287054434887289274369], .tuple [.int .u64 1, .agg [.int .u64 9, .int .i64 2, .int .i64 3, .int .i64 4, .int .i64 40, .int .u8 0, .int .u8 0, .int .u8 0, .int .u8 0, .int .u8 0, .int .u8 0, .int .u8 0, .int .u8 0, .int .u8 0, .int .u8 0, .int .u8 0, .int .u8 0, .int .u8 0, .int .u8 0, .int .u8 0, .int .u8 0, .int .i64 0, .bool false], .int .i64 0]⟩
theorem memo3_run : okM memo3 (callS Try.prog crc.takeS 100000 60 memo3.f memo3.args (heapA Try.prog fun _ => none)) = true := by kernel_rfl
def memo4 : Memo := ⟨45, [.int .u64 1, .agg [.int .u64 9, .int .i64 0, .int .i64 3, .int .i64 4, .int .i64 40, .int .u8 0, .int .u8 0, .int .u8 0, .int .u8 0, .int .u8 0, .int .u8 0, .int .u8 0, .int .u8 0, .int .u8 0, .int .u8 0, .int .u8 0, .int .u8 0, .int .u8 0, .int .u8 0, .int .u8 0, .int .u8 0, .int .i64 0, .bool false]], .tuple [.blk 1308262408627708773011593332307954792753293337954516135512619081594287827165932009530906503487575286452112481544338947321828435654868993, .int .i64 0]⟩
theorem memo4_run : okM memo4 (callS Try.prog crc.takeS 100000 60 memo4.f memo4.args (heapA Try.prog fun _ => none)) = true := by kernel_rfl
def memo5 : Memo := ⟨45, [.int .u64 1, .agg [.int .u64 9, .int .i64 1, .int .i64 3, .int .i64 4, .int .i64 40, .int .u8 0, .int .u8 0, .int .u8 0, .int .u8 0, .int .u8 0, .int .u8 0, .int .u8 0, .int .u8 0, .int .u8 0, .int .u8 0, .int .u8 0, .int .u8 0, .int .u8 0, .int .u8 0, .int .u8 0, .int .u8 0, .int .i64 0, .bool false]], .tuple [.blk 1239138386279917519339792430634562312969550655995093206853770536149835543530190353933088587068923101192633599189726326044065782621536257, .int .i64 0]⟩
theorem memo5_run : okM memo5 (callS Try.prog crc.takeS 100000 60 memo5.f memo5.args (heapA Try.prog fun _ => none)) = true := by kernel_rfl
def memo6 : Memo := ⟨45, [.int .u64 1, .agg [.int .u64 9, .int .i64 2, .int .i64 3, .int .i64 4, .int .i64 40, .int .u8 0, .int .u8 0, .int .u8 0, .int .u8 0, .int .u8 0, .int .u8 0, .int .u8 0, .int .u8 0, .int .u8 0, .int .u8 0, .int .u8 0, .int .u8 0, .int .u8 0, .int .u8 0, .int .u8 0, .int .u8 0, .int .i64 0, .bool false]], .tuple [.blk 901520035463236408691606416526808200634028965800205494182869424506979263085858796802753807186564016484422377670913287054434887289274369, .int .i64 0]⟩
theorem memo6_run : okM memo6 (callS Try.prog crc.takeS 100000 60 memo6.f memo6.args (heapA Try.prog fun _ => none)) = true := by kernel_rfl
def memos : List Memo := [memo0, memo1, memo2, memo3, memo4, memo5, memo6]
theorem memos_snd : CallSnd Try.prog (tabS memos) := tabS_snd (by
  intro e he
  simp only [memos, List.mem_cons, List.not_mem_nil, or_false] at he
  rcases he with rfl | rfl | rfl | rfl | rfl | rfl | rfl
  · exact memo_ok crc.takeS_snd memo0_run
  · exact memo_ok crc.takeS_snd memo1_run
  · exact memo_ok crc.takeS_snd memo2_run
  · exact memo_ok crc.takeS_snd memo3_run
  · exact memo_ok crc.takeS_snd memo4_run
  · exact memo_ok crc.takeS_snd memo5_run
  · exact memo_ok crc.takeS_snd memo6_run
  )
theorem livesRun : okT (callS Try.prog (orS (tabS memos) crc.takeS) 100000 60 13 [] (heapA Try.prog fun _ => none)) = true := by kernel_rfl
theorem sum : CallSnd Try.prog (sumT 13) := sumT_snd (orS_snd memos_snd crc.takeS_snd) (okT_some livesRun)
end Go.Proofs.Ytabebpemfinejaa.lives22
