/-
  The stripes of what was written; numbers compared; equal neighbours made one.
-/
import Derived.Test.YtpmdbbdidafehaaDraftAtR
set_option linter.unusedVariables false
set_option linter.unusedSimpArgs false
set_option maxRecDepth 10000
namespace Go.Proofs.Ytpmdbbdidafehaa.draft
open Go.Am

noncomputable def c50_l0 : C := .seq (.seq (.reg [
 mv 29 5,
 mv 30 4,
 qo 31 (.p (lenF (tt 30))) [pp 30],
 qo 32 (.p (arF .lss (tt 29) (tt 31))) [pp 29, pp 31]]) (
 .cond (tt 32) (.skip) (.exit 2))) (
 .seq (.block 3 (.seq (.regD [
 mv 35 4,
 mv 36 5,
 qo 37 (.p (iaddrSF (tt 35) (tt 36) 1)) [pp 35, pp 36],
 qo 38 (.r (loadF (tt 37) 1 .sc)) [pp 37],
 mv 39 4,
 mv 40 5,
 qo 41 (.p (arF .sub (tt 40) (ii 1))) [pp 40],
 qo 42 (.p (iaddrSF (tt 39) (tt 41) 1)) [pp 39, pp 41],
 qo 43 (.r (loadF (tt 42) 1 .sc)) [pp 42],
 qo 44 (.p (eqcF true false [.int .i64] (tt 38) (tt 43))) [pp 38, pp 43]] [0, 0, 3, 7, 0, 0, 32, 112, 240, 511]) (
 .cond (tt 44) (.seq (.reg [
 mv 45 0,
 mv 46 3,
 mv 47 4,
 mv 48 5,
 qo 49 (.p (iaddrSF (tt 47) (tt 48) 1)) [pp 47, pp 48],
 qo 50 (.r (loadF (tt 49) 1 .sc)) [pp 49],
 qo 51 (.p (iaddrSF (tt 45) (tt 46) 1)) [pp 45, pp 46],
 qn (.a (storeF (tt 51) (tt 50) 1)) [pp 51, pp 50]]) (
 .reg [
 mv 52 3,
 qo 53 (.p (arF .add (tt 52) (ii 1))) [pp 52],
 mv 3 53])) (.skip)))) (
 .reg [
 mv 33 5,
 qo 34 (.p (arF .add (tt 33) (ii 1))) [pp 33],
 mv 5 34]))
noncomputable def c50_l1 : C := .seq (.seq (.reg [
 mv 10 3,
 mv 11 0,
 qo 12 (.p (lenF (tt 11))) [pp 11],
 qo 13 (.p (arF .lss (tt 10) (tt 12))) [pp 10, pp 12]]) (
 .cond (tt 13) (.skip) (.exit 0))) (
 .seq (.block 1 (.seq (.regD [
 mv 16 0,
 mv 17 3,
 qo 18 (.p (iaddrSF (tt 16) (tt 17) 1)) [pp 16, pp 17],
 qo 19 (.r (loadF (tt 18) 1 .sc)) [pp 18],
 mv 20 0,
 mv 21 3,
 qo 22 (.p (arF .sub (tt 21) (ii 1))) [pp 21],
 qo 23 (.p (iaddrSF (tt 20) (tt 22) 1)) [pp 20, pp 22],
 qo 24 (.r (loadF (tt 23) 1 .sc)) [pp 23],
 qo 25 (.p (eqcF false false [.int .i64] (tt 19) (tt 24))) [pp 19, pp 24]] [0, 0, 3, 7, 0, 0, 32, 112, 240, 511]) (
 .cond (tt 25) (.seq (.reg [
 mv 26 0,
 mv 27 3,
 qo 28 (.p (sliceF 1 (tt 26) (some (tt 27)) none none)) [pp 26, pp 27],
 mv 4 28]) (
 .seq (.seq (.reg [
 qo 5 (.p (S.get (ii 1))) []]) (
 .block 2 (.loop c50_l0))) (
 .seq (.reg [
 mv 54 0,
 mv 55 3,
 qo 56 (.p (sliceF 1 (tt 54) (some (tt 55)) none none)) [pp 54, pp 55],
 qn (.a (clearF 1 [.int .i64 0] (tt 56))) [pp 56]]) (
 .seq (.reg [
 mv 57 0,
 mv 58 3,
 qo 59 (.p (sliceF 1 (tt 57) none (some (tt 58)) none)) [pp 57, pp 58],
 mv 2 59]) (
 .ret))))) (.skip)))) (
 .reg [
 mv 14 3,
 qo 15 (.p (arF .add (tt 14) (ii 1))) [pp 14],
 mv 3 15]))
/-- slices.Compact[[]int,int] -/
noncomputable def c50 : CFn := ⟨[.tmp (pp 2)],
 .seq (.reg [
 qo 2 (.p (S.get (.c (.slice none 0 0 0)))) []]) (
 .seq (.seq (.reg [
 mv 6 0,
 qo 7 (.p (lenF (tt 6))) [pp 6],
 qo 8 (.p (arF .lss (tt 7) (ii 2))) [pp 7]]) (
 .cond (tt 8) (.seq (.reg [
 mv 9 0,
 mv 2 9]) (
 .ret)) (.skip))) (
 .seq (.seq (.reg [
 qo 3 (.p (S.get (ii 1))) []]) (
 .block 0 (.loop c50_l1))) (
 .seq (.reg [
 mv 60 0,
 mv 2 60]) (
 .ret))))⟩
theorem c50_eq : fnOf Try.prog 50 = some c50 := by kernel_rfl

noncomputable def c19_l0 : C := .seq (.seq (.reg [
 mv 11 5,
 mv 12 0,
 qo 13 (.p (lenF (tt 12))) [pp 12],
 qo 14 (.p (arF .lss (tt 11) (tt 13))) [pp 11, pp 13]]) (
 .cond (tt 14) (.skip) (.exit 0))) (
 .seq (.block 1 (.seq (.regD [
 mv 17 0,
 mv 18 5,
 qo 19 (.p (iaddrSF (tt 17) (tt 18) 1)) [pp 17, pp 18],
 qo 20 (.r (loadF (tt 19) 1 .sc)) [pp 19],
 mv 21 1,
 mv 22 5,
 qo 23 (.p (iaddrSF (tt 21) (tt 22) 1)) [pp 21, pp 22],
 qo 24 (.r (loadF (tt 23) 1 .sc)) [pp 23],
 qo 25 (.p (eqcF true false [.int .i64] (tt 20) (tt 24))) [pp 20, pp 24]] [0, 0, 3, 7, 0, 0, 48, 112, 255]) (
 .cond (tt 25) (.seq (.reg [
 qo 4 (.p (S.get (.c (.bool false)))) []]) (
 .ret)) (.skip)))) (
 .reg [
 mv 15 5,
 qo 16 (.p (arF .add (tt 15) (ii 1))) [pp 15],
 mv 5 16]))
/-- ashlar/ashlarref00.Ints -/
noncomputable def c19 : CFn := ⟨[.tmp (pp 4)],
 .seq (.reg [
 qo 4 (.p (S.get (.c (.bool false)))) []]) (
 .seq (.seq (.reg [
 mv 6 0,
 qo 7 (.p (lenF (tt 6))) [pp 6],
 mv 8 1,
 qo 9 (.p (lenF (tt 8))) [pp 8],
 qo 10 (.p (eqcF true false [.int .i64] (tt 7) (tt 9))) [pp 7, pp 9]]) (
 .cond (tt 10) (.seq (.reg [
 qo 4 (.p (S.get (.c (.bool false)))) []]) (
 .ret)) (.skip))) (
 .seq (.seq (.reg [
 qo 5 (.p (S.get (ii 0))) []]) (
 .block 0 (.loop c19_l0))) (
 .seq (.reg [
 qo 4 (.p (S.get (.c (.bool true)))) []]) (
 .ret))))⟩
theorem c19_eq : fnOf Try.prog 19 = some c19 := by kernel_rfl


def dstep (acc : List Int) (x : Int) : List Int := if acc.getLast? = some x then acc else acc ++ [x]
def dedup (l : List Int) : List Int := l.foldl dstep []
theorem dedup_snoc (l : List Int) (x : Int) : dedup (l ++ [x]) = dstep (dedup l) x := by unfold dedup; rw [List.foldl_append]; rfl
theorem dstep_last (acc : List Int) (x : Int) : (dstep acc x).getLast? = some x := by
  unfold dstep
  split
  · assumption
  · simp
theorem dedup_last (l : List Int) : (dedup l).getLast? = l.getLast? := by
  rcases List.eq_nil_or_concat l with rfl | ⟨l', x, rfl⟩
  · rfl
  · rw [List.concat_eq_append, dedup_snoc, dstep_last]; simp
theorem dedup_take {ks : List Int} {e : Nat} (he : e < ks.length) : dedup (ks.take (e + 1)) = dstep (dedup (ks.take e)) ks[e] := by
  rw [List.take_add_one, List.getElem?_eq_getElem he]
  exact dedup_snoc _ _
theorem take_last {ks : List Int} {e : Nat} (h0 : 0 < e) (he : e ≤ ks.length) : (ks.take e).getLast? = some (ks[e - 1]'(by omega)) := by
  obtain ⟨e, rfl⟩ : ∃ d, e = d + 1 := ⟨e - 1, by omega⟩
  rw [List.take_add_one, List.getElem?_eq_getElem (show e < ks.length by omega)]
  exact List.getLast?_concat
theorem dstep_eq {ks : List Int} {e : Nat} (h0 : 0 < e) (he : e < ks.length) (h : ks[e] = ks[e - 1]'(by omega)) : dedup (ks.take (e + 1)) = dedup (ks.take e) := by
  rw [dedup_take he]
  unfold dstep
  rw [if_pos]
  rw [dedup_last, take_last h0 (by omega), h]
theorem dstep_ne {ks : List Int} {e : Nat} (h0 : 0 < e) (he : e < ks.length) (h : ¬ ks[e] = ks[e - 1]'(by omega)) : dedup (ks.take (e + 1)) = dedup (ks.take e) ++ [ks[e]] := by
  rw [dedup_take he]
  unfold dstep
  rw [if_neg]
  rw [dedup_last, take_last h0 (by omega)]
  intro k
  exact h (Option.some.inj k).symm

/-- a slice of these numbers -/
def IntsAt (H : Heap) (y : V) (L : List Int) : Prop := ∃ p c o, y = .slice p L.length c o ∧ ∀ i, (hi : i < L.length) → ∃ x, p = some ⟨x, 0⟩ ∧ H.Old x ∧ loadAt H ⟨x, i * 1⟩ 1 = some [.int .i64 L[i]]

theorem rowsI_len (ks : List Int) : (rowsI ks).length = ks.length := List.length_map ..
theorem rowsI_get {ks : List Int} {i : Nat} (h : i < ks.length) : (rowsI ks)[i]? = some [.int .i64 ks[i]] := by unfold rowsI; rw [List.getElem?_map, List.getElem?_eq_getElem h]; rfl
theorem load_rowsI {H : Heap} {b : Bk} {ks : List Int} (hg : H.get b = some (.rows false 1 (rowsI ks))) {i : Nat} (h : i < ks.length) : loadAt H ⟨b, i * 1⟩ 1 = some [.int .i64 ks[i]] := by
  rw [loadAt_eq hg (r := [.int .i64 ks[i]]) (nth_of (by rw [Nat.mul_one, Nat.div_one]; exact rowsI_get h)), Nat.mul_one, Nat.mod_one]
  rfl
theorem Lst_ints {H0 H : Heap} {ks : List Int} {v : V} (h : Lst H0 H 1 (rowsI ks) v) : IntsAt H v ks := by
  rcases h with ⟨e, rfl⟩ | ⟨n, h1, rfl, hg, h3, h4⟩
  · have : ks = [] := by cases ks with | nil => rfl | cons a l => simp [rowsI] at e
    subst this
    exact ⟨none, 0, 0, rfl, fun i hi => by simp at hi⟩
  · rw [rowsI_len]
    exact ⟨_, _, _, rfl, fun i hi => ⟨_, rfl, h4, load_rowsI hg hi⟩⟩
theorem IntsAt.turns {H H' : Heap} {y : V} {L : List Int} (h : IntsAt H y L) {X : Bk → Prop} (k : Turns X H H') (hx : ∀ c, Bof y c → ¬ X c) : IntsAt H' y L := by
  obtain ⟨p, c, o, rfl, hl⟩ := h
  refine ⟨p, c, o, rfl, fun i hi => ?_⟩
  obtain ⟨x, rfl, ho, l⟩ := hl i hi
  refine ⟨x, rfl, ho.mono k.next, ?_⟩
  have : H'.get x = H.get x := k.same x ho (hx x ⟨_, _, _, _, rfl, rfl⟩)
  unfold loadAt at l ⊢
  rw [this]
  exact l

theorem sameI_ok {H : Heap} {L : List Int} {v v' : V} (h : IntsAt H v L) (h' : IntsAt H v' L) (hL : L.length ≤ 16) (lf n : Nat) (hlf : 17 < lf) : callS Try.prog S0 lf (n + 1) 19 [v, v'] H = some (.v (.bool true), H) := by
  obtain ⟨p, c, o, ev, hl⟩ := h
  obtain ⟨p', c', o', ev', hl'⟩ := h'
  obtain ⟨v1, H', e, rfl, rfl⟩ : ret (callS Try.prog S0 lf (n + 1) 19 [v, v'] H) fun v1 H' => v1 = .bool true ∧ H' = H := by
    refine ret_call (by rw [ev, ev']; rfl) c19_eq ?_
    simp only [c19, ev, ev', sy, tup, ↓reduceIte, Nat.reduceEqDiff, Nat.reduceAdd, Nat.reduceSub, Nat.reduceMul, Nat.reduceDiv, Nat.reduceMod, Nat.reduceLeDiff, Int.reduceBEq, reduceCtorEq]
    have hloop : ∀ t : T, t.getP (Tr.path 0) = some v → t.getP (Tr.path 1) = some v' → t.getP (Tr.path 5) = some (.int .i64 0) →
        wp (loopF (runC (callS Try.prog S0 lf n) lf c19_l0) lf ⟨t, H, []⟩) fun x s => x = .ex 0 ∧ s.d = [] ∧ s.H = H := by
      intro t q0 q1 q5
      refine wp_loopF (fun k s => ∃ i : Nat, k = L.length - i ∧ i ≤ L.length ∧ s.d = [] ∧ s.H = H ∧ s.t.getP (Tr.path 0) = some v ∧ s.t.getP (Tr.path 1) = some v' ∧ s.t.getP (Tr.path 5) = some (.int .i64 (i : Int))) ?_ lf L.length _ ⟨0, rfl, by omega, rfl, rfl, q0, q1, q5⟩ (by omega)
      rintro k ⟨t, HH, d⟩ ⟨i, rfl, hi, hd, hH, q0, q1, q5⟩
      dsimp only at hd hH q0 q1 q5
      subst hd; subst hH
      by_cases hlt : i < L.length
      · have hlt' : (i : Int) < (L.length : Int) := by omega
        have hle' : i + 1 ≤ L.length := hlt
        obtain ⟨x, ex, _, lk⟩ := hl i hlt
        obtain ⟨x', ex', _, lk'⟩ := hl' i hlt
        rw [ev, ex] at q0
        rw [ev', ex'] at q1
        have w2 : IntKind.i64.wrap ((i : Int) + 1) = ((i + 1 : Nat) : Int) := by rw [wrap_i64 (by omega)]; omega
        simp only [c19_l0, q0, q1, q5, hlt', hle', w2, lk, lk', sy, tup, ↓reduceIte, Nat.reduceEqDiff, Nat.reduceAdd, Nat.reduceSub, Nat.reduceMul, Nat.reduceDiv, Nat.reduceMod, Nat.reduceLeDiff, Int.reduceBEq, reduceCtorEq]
        rw [endD_ok (by kernel_rfl) (by kernel_rfl)]
        simp only [q0, q1, q5, hlt', hle', w2, lk, lk', sy, tup, ↓reduceIte, Nat.reduceEqDiff, Nat.reduceAdd, Nat.reduceSub, Nat.reduceMul, Nat.reduceDiv, Nat.reduceMod, Nat.reduceLeDiff, Int.reduceBEq, reduceCtorEq]
        refine ⟨L.length - (i + 1), by omega, i + 1, rfl, by omega, trivial, trivial, ?_, ?_, ?_⟩
        all_goals simp [ev, ev', ex, ex', q0, q1]
      · have : i = L.length := by omega
        subst this
        have q0' := q0
        rw [ev] at q0'
        simp only [c19_l0, q0', q5, Int.lt_irrefl, sy, tup, ↓reduceIte, Nat.reduceEqDiff, Nat.reduceAdd, Nat.reduceSub, Nat.reduceMul, Nat.reduceDiv, Nat.reduceMod, Nat.reduceLeDiff, Int.reduceBEq, reduceCtorEq]
        exact ⟨trivial, trivial, trivial⟩
    rw [← ev, ← ev']
    refine wp_ctx (F := fun r => seqC _ _ _ (blockC _ r)) (hloop _ ?_ ?_ ?_) ?_
    · simp only [sy, tup, ↓reduceIte, Nat.reduceEqDiff, Nat.reduceAdd, Nat.reduceSub, Nat.reduceMul, Nat.reduceDiv, Nat.reduceMod, Nat.reduceLeDiff, Int.reduceBEq, reduceCtorEq]
    · simp only [sy, tup, ↓reduceIte, Nat.reduceEqDiff, Nat.reduceAdd, Nat.reduceSub, Nat.reduceMul, Nat.reduceDiv, Nat.reduceMod, Nat.reduceLeDiff, Int.reduceBEq, reduceCtorEq]
    · simp only [sy, tup, ↓reduceIte, Nat.reduceEqDiff, Nat.reduceAdd, Nat.reduceSub, Nat.reduceMul, Nat.reduceDiv, Nat.reduceMod, Nat.reduceLeDiff, Int.reduceBEq, reduceCtorEq]
    rintro x ⟨t, HH, d⟩ ⟨rfl, hd, hH⟩
    dsimp only at hd hH
    subst hd; subst hH
    simp only [sy, tup, ↓reduceIte, Nat.reduceEqDiff, Nat.reduceAdd, Nat.reduceSub, Nat.reduceMul, Nat.reduceDiv, Nat.reduceMod, Nat.reduceLeDiff, Int.reduceBEq, reduceCtorEq]
    simp
  exact e

theorem store_rowsI {H : Heap} {b : Bk} {A : List Int} (hg : H.get b = some (.rows false 1 (rowsI A))) {q : Nat} (hq : q < A.length) (x : Int) : storeAt H ⟨b, q * 1⟩ [.int .i64 x] = some (H.set b (.rows false 1 (rowsI (A.set q x)))) := by
  rw [storeAt_eq hg (r := [.int .i64 A[q]]) (r' := [.int .i64 x]) (nth_of (by rw [Nat.mul_one, Nat.div_one]; exact rowsI_get hq)) (by rw [Nat.mul_one, Nat.mod_one]; rfl), Nat.mul_one, Nat.div_one]
  unfold rowsI
  rw [List.map_set]

theorem clear_ok {b : Bk} : ∀ (c q : Nat) (A : List Int) (H : Heap), H.get b = some (.rows false 1 (rowsI A)) → q + c ≤ A.length → ∃ A' H', storeElems b 1 (List.replicate c [.int .i64 0]) (q * 1) H = some H' ∧ H'.get b = some (.rows false 1 (rowsI A')) ∧ A'.length = A.length ∧ (∀ e, e < q → A'[e]? = A[e]?) ∧ Turns (fun c => c = b) H H'
  | 0, q, A, H, hg, _ => ⟨A, H, rfl, hg, rfl, fun _ _ => rfl, Turns.refl _ _⟩
  | c + 1, q, A, H, hg, h => by
    have hs := store_rowsI hg (q := q) (by omega) 0
    obtain ⟨A', H', e, hg', hl, hk, t⟩ := clear_ok c (q + 1) (A.set q 0) (H.set b (.rows false 1 (rowsI (A.set q 0)))) (by rw [Heap.get_set, if_pos rfl]) (by simp; omega)
    refine ⟨A', H', ?_, hg', by simpa using hl, fun e he => ?_, (Turns.set (X := fun c => c = b) rfl H _).trans t⟩
    · rw [List.replicate_succ]
      unfold storeElems
      rw [hs]
      have : Nat.add (q * 1) 1 = (q + 1) * 1 := by show q * 1 + 1 = _; omega
      simp only [this]
      exact e
    · rw [hk e (by omega), List.getElem?_set_ne (by omega)]

theorem bounds_from1 {n a : Nat} (h : a ≤ n) : bounds n n (some (.int .i64 (a : Int))) none none = some (a, n, n) := bounds_from h

theorem compact_ok {H0 H : Heap} {ks : List Int} {v : V} (hv : Lst H0 H 1 (rowsI ks) v) (hL : ks.length ≤ 16) (lf n : Nat) (hlf : 17 < lf) : ret (callS Try.prog S0 lf (n + 1) 50 [v] H) fun y H' => IntsAt H' y (dedup ks) ∧ Turns (Bof v) H H' := by
  obtain ⟨p, c, o, ev⟩ := hv.val
  rw [rowsI_len] at ev
  refine ret_call (by rw [ev]; rfl) c50_eq ?_
  by_cases h2 : (ks.length : Int) < 2
  · simp only [c50, ev, h2, sy, tup, ↓reduceIte, Nat.reduceEqDiff, Nat.reduceAdd, Nat.reduceSub, Nat.reduceMul, Nat.reduceDiv, Nat.reduceMod, Nat.reduceLeDiff, Int.reduceBEq, reduceCtorEq]
    refine ⟨trivial, .inr trivial, _, rfl, ?_, Turns.refl _ _⟩
    have : dedup ks = ks := by
      match ks, h2 with
      | [], _ => rfl
      | [x], _ => rfl
      | x :: y :: l, h => simp at h; omega
    rw [this]
    rw [← ev]
    exact Lst_ints hv
  obtain ⟨n0, hn0, hbn, hg, ev⟩ : ∃ n0, n0 < H.next ∧ Bof v (.run n0) ∧ H.get (.run n0) = some (.rows false 1 (rowsI ks)) ∧ v = .slice (some ⟨.run n0, 0⟩) ks.length ks.length 1 := by
    rcases hv with ⟨e, rfl⟩ | ⟨n0, h1, rfl, hg, h3, h4⟩
    · have : ks = [] := by cases ks with | nil => rfl | cons a l => simp [rowsI] at e
      subst this
      simp at h2
    · exact ⟨n0, h4, ⟨_, _, _, _, rfl, rfl⟩, hg, by rw [rowsI_len]⟩
  have hbe : ∀ c, c = .run n0 → Bof v c := fun c e => by rw [e]; exact hbn
  simp only [c50, ev, h2, sy, tup, ↓reduceIte, Nat.reduceEqDiff, Nat.reduceAdd, Nat.reduceSub, Nat.reduceMul, Nat.reduceDiv, Nat.reduceMod, Nat.reduceLeDiff, Int.reduceBEq, reduceCtorEq]
  have hloop : ∀ t : T, t.getP (Tr.path 0) = some (.slice (some ⟨.run n0, 0⟩) ks.length ks.length 1) → t.getP (Tr.path 3) = some (.int .i64 1) →
      wp (loopF (runC (callS Try.prog S0 lf n) lf c50_l1) lf ⟨t, H, []⟩) fun x s' => s'.d = [] ∧ ((x = .ex 0 ∧ s'.H = H ∧ dedup ks = ks ∧ s'.t.getP (Tr.path 0) = some (.slice (some ⟨.run n0, 0⟩) ks.length ks.length 1)) ∨
        (x = .ret ∧ ∃ y, s'.t.getP (Tr.path 2) = some y ∧ IntsAt s'.H y (dedup ks) ∧ Turns (fun c => c = .run n0) H s'.H)) := by
    intro t q0 q3
    refine wp_loopF (fun j s' => ∃ i : Nat, j = ks.length - i ∧ 1 ≤ i ∧ i ≤ ks.length ∧ s'.d = [] ∧ s'.H = H ∧ dedup (ks.take i) = ks.take i ∧ s'.t.getP (Tr.path 0) = some (.slice (some ⟨.run n0, 0⟩) ks.length ks.length 1) ∧ s'.t.getP (Tr.path 3) = some (.int .i64 (i : Int))) ?_ lf (ks.length - 1) _ ⟨1, rfl, by omega, by omega, rfl, rfl, ?_, q0, q3⟩ (by omega)
    · rintro j ⟨t, HH, d⟩ ⟨i, rfl, hi1, hi, hd, hH, hded, q0, q3⟩
      dsimp only at hd hH q0 q3
      subst hd; subst hH
      by_cases hlt : i < ks.length
      · have hlt' : (i : Int) < (ks.length : Int) := by omega
        have hle' : i + 1 ≤ ks.length := hlt
        have w1 : IntKind.i64.wrap ((i : Int) - 1) = ((i - 1 : Nat) : Int) := by rw [wrap_i64 (by omega)]; omega
        have w2 : IntKind.i64.wrap ((i : Int) + 1) = ((i + 1 : Nat) : Int) := by rw [wrap_i64 (by omega)]; omega
        have lk := load_rowsI hg hlt
        have lk1 := load_rowsI hg (i := i - 1) (by omega)
        have hle1 : i - 1 + 1 ≤ ks.length := by omega
        by_cases e : ks[i] = ks[i - 1]'(by omega)
        · have hb : (ks[i] == ks[i - 1]'(by omega)) = true := by simp [e]
          have bF := bounds_from hi
          have hs1 : i + 1 ≤ ks.length := hlt
          simp only [c50_l1, q0, q3, hlt', hle', hle1, w1, lk, lk1, hb, sy, tup, ↓reduceIte, Nat.reduceEqDiff, Nat.reduceAdd, Nat.reduceSub, Nat.reduceMul, Nat.reduceDiv, Nat.reduceMod, Nat.reduceLeDiff, Int.reduceBEq, reduceCtorEq]
          rw [endD_ok (by kernel_rfl) (by kernel_rfl)]
          simp only [q0, q3, bF, hs1, sy, tup, ↓reduceIte, Nat.reduceEqDiff, Nat.reduceAdd, Nat.reduceSub, Nat.reduceMul, Nat.reduceDiv, Nat.reduceMod, Nat.reduceLeDiff, Int.reduceBEq, reduceCtorEq]
          have hin : ∀ t : T, t.getP (Tr.path 0) = some (.slice (some ⟨.run n0, 0⟩) ks.length ks.length 1) → t.getP (Tr.path 3) = some (.int .i64 (i : Int)) → t.getP (Tr.path 4) = some (.slice (some ⟨.run n0, i * 1⟩) (ks.length - i) (ks.length - i) 1) → t.getP (Tr.path 5) = some (.int .i64 1) →
              wp (loopF (runC (callS Try.prog S0 lf n) lf c50_l0) lf ⟨t, HH, []⟩) fun x s' => x = .ex 2 ∧ s'.d = [] ∧ s'.t.getP (Tr.path 0) = some (.slice (some ⟨.run n0, 0⟩) ks.length ks.length 1) ∧ ∃ (q : Nat) (A : List Int), s'.t.getP (Tr.path 3) = some (.int .i64 (q : Int)) ∧ s'.H.get (.run n0) = some (.rows false 1 (rowsI A)) ∧ A.length = ks.length ∧ q < ks.length ∧ A.take q = dedup ks ∧ Turns (fun c => c = .run n0) HH s'.H := by
            intro t q0 q3 q4 q5
            refine wp_loopF (fun m s' => ∃ j : Nat, m = ks.length - i - j ∧ 1 ≤ j ∧ i + j ≤ ks.length ∧ s'.d = [] ∧ s'.t.getP (Tr.path 0) = some (.slice (some ⟨.run n0, 0⟩) ks.length ks.length 1) ∧ s'.t.getP (Tr.path 4) = some (.slice (some ⟨.run n0, i * 1⟩) (ks.length - i) (ks.length - i) 1) ∧ s'.t.getP (Tr.path 5) = some (.int .i64 (j : Int)) ∧ ∃ (q : Nat) (A : List Int), s'.t.getP (Tr.path 3) = some (.int .i64 (q : Int)) ∧ s'.H.get (.run n0) = some (.rows false 1 (rowsI A)) ∧ A.length = ks.length ∧ q + 1 ≤ i + j ∧ A.take q = dedup (ks.take (i + j)) ∧ (∀ e, i + j ≤ e + 1 → A[e]? = ks[e]?) ∧ Turns (fun c => c = .run n0) HH s'.H) ?_ lf (ks.length - i - 1) _ ⟨1, rfl, by omega, by omega, rfl, q0, q4, q5, i, ks, q3, hg, rfl, by omega, ?_, fun _ _ => rfl, Turns.refl _ _⟩ (by omega)
            · rintro m ⟨t, HI, d⟩ ⟨j, rfl, hj1, hj, hd, q0, q4, q5, q, A, q3, hA, hAl, hq, hAq, hAe, ta⟩
              dsimp only at hd q0 q4 q5 q3 hA ta
              subst hd
              by_cases hjl : i + j < ks.length
              · have hjl' : (j : Int) < ((ks.length - i : Nat) : Int) := by omega
                have hjl2 : j + 1 ≤ ks.length - i := by omega
                have hjl3 : j - 1 + 1 ≤ ks.length - i := by omega
                have wj1 : IntKind.i64.wrap ((j : Int) - 1) = ((j - 1 : Nat) : Int) := by rw [wrap_i64 (by omega)]; omega
                have wj2 : IntKind.i64.wrap ((j : Int) + 1) = ((j + 1 : Nat) : Int) := by rw [wrap_i64 (by omega)]; omega
                have wq : IntKind.i64.wrap ((q : Int) + 1) = ((q + 1 : Nat) : Int) := by rw [wrap_i64 (by omega)]; omega
                have a1 : A[i + j]'(by omega) = ks[i + j] := by
                  have := hAe (i + j) (by omega)
                  rw [List.getElem?_eq_getElem (by omega), List.getElem?_eq_getElem hjl] at this
                  exact Option.some.inj this
                have a2 : A[i + (j - 1)]'(by omega) = ks[i + j - 1]'(by omega) := by
                  have := hAe (i + (j - 1)) (by omega)
                  rw [List.getElem?_eq_getElem (by omega), List.getElem?_eq_getElem (by omega)] at this
                  have h3 := Option.some.inj this
                  rw [h3]
                  congr 1
                  omega
                have lj := load_rowsI hA (i := i + j) (by omega)
                have lj1 := load_rowsI hA (i := i + (j - 1)) (by omega)
                rw [a1, Nat.add_mul] at lj
                rw [a2, Nat.add_mul] at lj1
                by_cases ee : ks[i + j] = ks[i + j - 1]'(by omega)
                · have hb : (ks[i + j] == ks[i + j - 1]'(by omega)) = true := by simp [ee]
                  simp only [c50_l0, q0, q3, q4, q5, hjl', hjl2, hjl3, wj1, wj2, lj, lj1, hb, sy, tup, ↓reduceIte, Nat.reduceEqDiff, Nat.reduceAdd, Nat.reduceSub, Nat.reduceMul, Nat.reduceDiv, Nat.reduceMod, Nat.reduceLeDiff, Int.reduceBEq, reduceCtorEq]
                  rw [endD_ok (by kernel_rfl) (by kernel_rfl)]
                  simp only [q0, q3, q4, q5, wj2, sy, tup, ↓reduceIte, Nat.reduceEqDiff, Nat.reduceAdd, Nat.reduceSub, Nat.reduceMul, Nat.reduceDiv, Nat.reduceMod, Nat.reduceLeDiff, Int.reduceBEq, reduceCtorEq]
                  refine ⟨ks.length - i - (j + 1), by omega, j + 1, rfl, by omega, by omega, trivial, by simp [q0], by simp [q4], by simp, q, A, by simp [q3], hA, hAl, by omega, ?_, fun e he => hAe e (by omega), ta⟩
                  rw [hAq]
                  exact (dstep_eq (ks := ks) (e := i + j) (by omega) hjl ee).symm
                · have hb : (ks[i + j] == ks[i + j - 1]'(by omega)) = false := by simp [ee]
                  have hqn : q + 1 ≤ ks.length := by omega
                  have hst := store_rowsI hA (q := q) (by omega) ks[i + j]
                  simp only [c50_l0, q0, q3, q4, q5, hjl', hjl2, hjl3, wj1, wj2, lj, lj1, hb, sy, tup, ↓reduceIte, Nat.reduceEqDiff, Nat.reduceAdd, Nat.reduceSub, Nat.reduceMul, Nat.reduceDiv, Nat.reduceMod, Nat.reduceLeDiff, Int.reduceBEq, reduceCtorEq]
                  rw [endD_ok (by kernel_rfl) (by kernel_rfl)]
                  simp only [q0, q3, q4, q5, hjl2, lj, hqn, hst, wj2, wq, sy, tup, ↓reduceIte, Nat.reduceEqDiff, Nat.reduceAdd, Nat.reduceSub, Nat.reduceMul, Nat.reduceDiv, Nat.reduceMod, Nat.reduceLeDiff, Int.reduceBEq, reduceCtorEq]
                  refine ⟨ks.length - i - (j + 1), by omega, j + 1, rfl, by omega, by omega, trivial, by simp [q0], by simp [q4], by simp, q + 1, A.set q ks[i + j], by simp, by rw [Heap.get_set, if_pos rfl], by simpa using hAl, by omega, ?_, fun e he => by rw [List.getElem?_set_ne (by omega)]; exact hAe e (by omega), ta.setm rfl _⟩
                  have : (A.set q ks[i + j]).take (q + 1) = A.take q ++ [ks[i + j]] := by
                    rw [List.take_add_one, List.take_set_of_le (Nat.le_refl _), List.getElem?_set_self (by omega)]
                    rfl
                  rw [this, hAq]
                  exact (dstep_ne (ks := ks) (e := i + j) (by omega) hjl ee).symm
              · have hje : i + j = ks.length := by omega
                have hnl : ¬ (j : Int) < ((ks.length - i : Nat) : Int) := by omega
                simp only [c50_l0, q0, q3, q4, q5, hnl, sy, tup, ↓reduceIte, Nat.reduceEqDiff, Nat.reduceAdd, Nat.reduceSub, Nat.reduceMul, Nat.reduceDiv, Nat.reduceMod, Nat.reduceLeDiff, Int.reduceBEq, reduceCtorEq]
                rw [hje, List.take_of_length_le (Nat.le_refl _)] at hAq
                exact ⟨trivial, trivial, by first | trivial | exact q0, q, A, by first | trivial | exact q3, hA, hAl, by omega, hAq, ta⟩
            · rw [dstep_eq (ks := ks) (e := i) (by omega) hlt e, hded]
          refine wp_ctx (F := fun r => seqC _ _ _ (blockC _ (seqC _ _ _ (blockC _ r)))) (hin _ ?_ ?_ ?_ ?_) ?_
          · simp only [q0, sy, tup, ↓reduceIte, Nat.reduceEqDiff, Nat.reduceAdd, Nat.reduceSub, Nat.reduceMul, Nat.reduceDiv, Nat.reduceMod, Nat.reduceLeDiff, Int.reduceBEq, reduceCtorEq]
          · simp only [q3, sy, tup, ↓reduceIte, Nat.reduceEqDiff, Nat.reduceAdd, Nat.reduceSub, Nat.reduceMul, Nat.reduceDiv, Nat.reduceMod, Nat.reduceLeDiff, Int.reduceBEq, reduceCtorEq]
          · simp only [sy, tup, ↓reduceIte, Nat.reduceEqDiff, Nat.reduceAdd, Nat.reduceSub, Nat.reduceMul, Nat.reduceDiv, Nat.reduceMod, Nat.reduceLeDiff, Int.reduceBEq, reduceCtorEq]
          · simp only [sy, tup, ↓reduceIte, Nat.reduceEqDiff, Nat.reduceAdd, Nat.reduceSub, Nat.reduceMul, Nat.reduceDiv, Nat.reduceMod, Nat.reduceLeDiff, Int.reduceBEq, reduceCtorEq]
          rintro x ⟨t, HJ, d⟩ ⟨rfl, hd, q0, q, A, q3, hA, hAl, hq, hAq, ta⟩
          dsimp only at hd q0 q3 hA ta
          subst hd
          have bF2 := bounds_from (Nat.le_of_lt hq)
          have bT2 := bounds_to (Nat.le_of_lt hq)
          have hq1 : q + 1 ≤ ks.length := hq
          have hl1 : 1 ≤ ks.length := by omega
          have hz : ¬ (ks.length - q = 0) := by omega
          obtain ⟨A', H', ec, hA', hAl', hAk, tc⟩ := clear_ok (b := .run n0) (ks.length - q) q A HJ hA (by omega)
          have ecl : clearV 1 [.int .i64 0] HJ (.slice (some ⟨.run n0, q * 1⟩) (ks.length - q) (ks.length - q) 1) = some (Am.undef, H') := by
            unfold clearV
            simp only [beq_false.2 hz, ec]
            rfl
          simp only [q0, q3, bF2, bT2, hq1, hl1, clearF, ecl, Nat.sub_zero, Nat.zero_mul, sy, tup, ↓reduceIte, Nat.reduceEqDiff, Nat.reduceAdd, Nat.reduceSub, Nat.reduceMul, Nat.reduceDiv, Nat.reduceMod, Nat.reduceLeDiff, Int.reduceBEq, reduceCtorEq]
          have hdl : (dedup ks).length = q := by rw [← hAq, List.length_take]; omega
          refine ⟨trivial, .inr ⟨trivial, _, by simp; rfl, ?_, ta.trans tc⟩⟩
          rw [← hdl]
          refine ⟨_, _, _, rfl, fun e he => ⟨_, rfl, ?_, ?_⟩⟩
          · exact Nat.lt_of_lt_of_le hn0 (ta.trans tc).next
          · have h1 : e < A'.length := by omega
            have hl := load_rowsI hA' (i := e) h1
            rw [hl]
            have h2 := hAk e (by omega)
            have h3 : (dedup ks)[e]? = A[e]? := by rw [← hAq, List.getElem?_take, if_pos (by omega)]
            rw [← h3, List.getElem?_eq_getElem h1, List.getElem?_eq_getElem he] at h2
            rw [Option.some.inj h2]
        · have hb : (ks[i] == ks[i - 1]'(by omega)) = false := by simp [e]
          simp only [c50_l1, q0, q3, hlt', hle', hle1, w1, lk, lk1, hb, sy, tup, ↓reduceIte, Nat.reduceEqDiff, Nat.reduceAdd, Nat.reduceSub, Nat.reduceMul, Nat.reduceDiv, Nat.reduceMod, Nat.reduceLeDiff, Int.reduceBEq, reduceCtorEq]
          rw [endD_ok (by kernel_rfl) (by kernel_rfl)]
          simp only [q0, q3, w2, sy, tup, ↓reduceIte, Nat.reduceEqDiff, Nat.reduceAdd, Nat.reduceSub, Nat.reduceMul, Nat.reduceDiv, Nat.reduceMod, Nat.reduceLeDiff, Int.reduceBEq, reduceCtorEq]
          refine ⟨ks.length - (i + 1), by omega, i + 1, rfl, by omega, by omega, trivial, trivial, ?_, by simp [q0], by simp⟩
          rw [dstep_ne (ks := ks) (e := i) (by omega) hlt e, hded, List.take_add_one, List.getElem?_eq_getElem hlt]
          rfl
      · have : i = ks.length := by omega
        subst this
        simp only [c50_l1, q0, q3, Int.lt_irrefl, sy, tup, ↓reduceIte, Nat.reduceEqDiff, Nat.reduceAdd, Nat.reduceSub, Nat.reduceMul, Nat.reduceDiv, Nat.reduceMod, Nat.reduceLeDiff, Int.reduceBEq, reduceCtorEq]
        rw [List.take_of_length_le (Nat.le_refl _)] at hded
        exact ⟨trivial, .inl ⟨trivial, trivial, hded, by first | trivial | exact q0⟩⟩
    · match ks, h2 with
      | [], _ => rfl
      | x :: l, _ => rfl
  refine wp_ctx (F := fun r => seqC _ _ _ (blockC _ r)) (hloop _ ?_ ?_) ?_
  · simp only [sy, tup, ↓reduceIte, Nat.reduceEqDiff, Nat.reduceAdd, Nat.reduceSub, Nat.reduceMul, Nat.reduceDiv, Nat.reduceMod, Nat.reduceLeDiff, Int.reduceBEq, reduceCtorEq]
  · simp only [sy, tup, ↓reduceIte, Nat.reduceEqDiff, Nat.reduceAdd, Nat.reduceSub, Nat.reduceMul, Nat.reduceDiv, Nat.reduceMod, Nat.reduceLeDiff, Int.reduceBEq, reduceCtorEq]
  rintro x ⟨t, HH, d⟩ ⟨hd, ⟨rfl, hH, hded, q0⟩ | ⟨rfl, y, q2, hy, ta⟩⟩
  · dsimp only at hd hH q0
    subst hd; subst hH
    simp only [q0, sy, tup, ↓reduceIte, Nat.reduceEqDiff, Nat.reduceAdd, Nat.reduceSub, Nat.reduceMul, Nat.reduceDiv, Nat.reduceMod, Nat.reduceLeDiff, Int.reduceBEq, reduceCtorEq]
    refine ⟨trivial, .inr trivial, _, rfl, ?_, Turns.refl _ _⟩
    rw [hded]
    have := Lst_ints hv
    rw [ev] at this
    exact this
  · dsimp only at hd q2 hy ta
    subst hd
    simp only [q2, sy, tup, ↓reduceIte, Nat.reduceEqDiff, Nat.reduceAdd, Nat.reduceSub, Nat.reduceMul, Nat.reduceDiv, Nat.reduceMod, Nat.reduceLeDiff, Int.reduceBEq, reduceCtorEq]
    exact ⟨trivial, .inr trivial, _, rfl, hy, ta.wide (fun c hc => by rw [← ev]; exact hbe c hc)⟩

end Go.Proofs.Ytpmdbbdidafehaa.draft

