/-
  The stripes of what was written, the program's and the document's.
-/
import Derived.Test.YtpmdbbdidafehaaDraftStr
set_option linter.unusedVariables false
set_option linter.unusedSimpArgs false
set_option maxRecDepth 10000
namespace Go.Proofs.Ytpmdbbdidafehaa.draft
open Go.Am

noncomputable def c20_l0 : C := .seq (.reg [
 qo 12 (.p (arF .lss (tt 11) (tt 10))) [pp 11, pp 10]]) (
 .seq (.cond (tt 12) (.skip) (.exit 0)) (
 .seq (.block 1 (.seq (.reg [
 qo 13 (.p (iaddrSF (tt 9) (tt 11) 65)) [pp 9, pp 11],
 qo 14 (.r (loadF (tt 13) 65 .ag)) [pp 13],
 qo 5 (.m (allocF 65 [.int .i64 0, .blk 0])) [],
 qn (.a (storeF (tt 5) (tt 14) 65)) [pp 5, pp 14]]) (
 .seq (.regD [
 mv 16 0,
 qo 17 (.p (nilcF (tt 16))) [pp 16],
 qo 18 (.p (faddrF (tt 17) 0)) [pp 17],
 qo 19 (.r (loadF (tt 18) 3 .ag)) [pp 18],
 qo 20 (.p (faddrF (tt 5) 0)) [pp 5],
 qo 21 (.r (loadF (tt 20) 1 .sc)) [pp 20],
 qo 22 (.c (callF (ff 49) [(tt 19), (tt 21)])) [pp 19, pp 21],
 mv 15 22,
 qo 23 (.p (extF (tt 15) 0)) [pp 15],
 qo 24 (.p (extF (tt 15) 1)) [pp 15],
 qo 6 (.m (allocF 2 [.int .i64 0, .int .i64 0])) [],
 qn (.a (storeF (tt 6) (tt 23) 2)) [pp 6, pp 23],
 mv 7 24] [0, 1, 3, 7, 0, 16, 63, 127, 255, 255, 0, 1535, 4095]) (
 .reg [
 mv 25 3,
 qo 26 (.p (faddrF (tt 6) 0)) [pp 6],
 qo 27 (.r (loadF (tt 26) 1 .sc)) [pp 26],
 qo 28 (.m (bsliceF 1 1 [.int .i64 0] [(0, 1, (tt 27))])) [pp 27],
 qo 29 (.a (appF 1 8 (tt 25) (tt 28))) [pp 25, pp 28],
 mv 3 29])))) (
 .reg [
 qo 30 (.p (arF .add (tt 11) (ii 1))) [pp 11],
 mv 11 30])))
/-- (*ashlar/draft.Draft).Stripes -/
noncomputable def c20 : CFn := ⟨[.tmp (pp 2)],
 .seq (.reg [
 qo 2 (.p (S.get (.c (.slice none 0 0 0)))) []]) (
 .seq (.reg [
 qo 3 (.p (S.get (.c (.slice none 0 0 0)))) []]) (
 .seq (.seq (.reg [
 mv 8 0,
 qo 9 (.c (callF (ff 18) [(tt 8)])) [pp 8],
 qo 10 (.p (lenF (tt 9))) [pp 9],
 qo 11 (.p (S.get (ii 0))) []]) (
 .block 0 (.loop c20_l0))) (
 .seq (.reg [
 mv 31 3,
 qo 32 (.c (callF (ff 50) [(tt 31)])) [pp 31],
 mv 2 32]) (
 .ret))))⟩
theorem c20_eq : fnOf Try.prog 20 = some c20 := by kernel_rfl

noncomputable def c21_l0 : C := .seq (.seq (.reg [
 mv 7 4,
 mv 8 0,
 qo 9 (.p (nilcF (tt 8))) [pp 8],
 qo 10 (.p (faddrF (tt 9) 3)) [pp 9],
 qo 11 (.r (loadF (tt 10) 1 .sc)) [pp 10],
 qo 12 (.p (lenF (tt 11))) [pp 11],
 qo 13 (.p (arF .lss (tt 7) (tt 12))) [pp 7, pp 12]]) (
 .cond (tt 13) (.skip) (.exit 0))) (
 .seq (.block 1 (.seq (.regD [
 mv 17 0,
 qo 18 (.p (nilcF (tt 17))) [pp 17],
 qo 19 (.p (faddrF (tt 18) 0)) [pp 18],
 qo 20 (.r (loadF (tt 19) 3 .ag)) [pp 19],
 mv 21 0,
 qo 22 (.p (nilcF (tt 21))) [pp 21],
 qo 23 (.p (faddrF (tt 22) 3)) [pp 22],
 qo 24 (.r (loadF (tt 23) 1 .sc)) [pp 23],
 mv 25 4,
 qo 26 (.p (iaddrSF (tt 24) (tt 25) 65)) [pp 24, pp 25],
 qo 27 (.p (faddrF (tt 26) 0)) [pp 26],
 qo 28 (.r (loadF (tt 27) 1 .sc)) [pp 27],
 qo 29 (.c (callF (ff 51) [(tt 20), (tt 28)])) [pp 20, pp 28],
 mv 16 29,
 qo 30 (.p (extF (tt 16) 0)) [pp 16],
 qo 31 (.p (extF (tt 16) 1)) [pp 16],
 qo 5 (.m (allocF 2 [.int .i64 0, .int .i64 0])) [],
 qn (.a (storeF (tt 5) (tt 30) 2)) [pp 5, pp 30],
 mv 6 31] [0, 1, 3, 7, 0, 16, 48, 112, 0, 496, 1008, 2032, 4095, 8191, 16383, 16383, 0, 98303, 262143]) (
 .seq (.regD [
 mv 32 3,
 qo 33 (.p (lenF (tt 32))) [pp 32],
 qo 34 (.p (eqcF false false [.int .i64] (tt 33) (ii 0))) [pp 33],
 mv 35 34,
 mg 36 3 35 false,
 mg 37 3 35 false,
 qg 38 (.p (lenF (tt 37))) 35 false [pp 37],
 qg 39 (.p (arF .sub (tt 38) (ii 1))) 35 false [pp 38],
 qg 40 (.p (iaddrSF (tt 36) (tt 39) 1)) 35 false [pp 36, pp 39],
 qg 41 (.r (loadF (tt 40) 1 .sc)) 35 false [pp 40],
 qg 42 (.p (faddrF (tt 5) 0)) 35 false [pp 5],
 qg 43 (.r (loadF (tt 42) 1 .sc)) 35 false [pp 42],
 qg 44 (.p (eqcF true false [.int .i64] (tt 41) (tt 43))) 35 false [pp 41, pp 43],
 qo 45 (.p (pickF (tt 35) (.c (.bool true)) (tt 44))) [pp 35, pp 44]] [0, 1, 3, 7, 15, 15, 47, 111, 255, 511, 15, 1039, 4095, 8191]) (
 .cond (tt 45) (.reg [
 mv 46 3,
 qo 47 (.p (faddrF (tt 5) 0)) [pp 5],
 qo 48 (.r (loadF (tt 47) 1 .sc)) [pp 47],
 qo 49 (.m (bsliceF 1 1 [.int .i64 0] [(0, 1, (tt 48))])) [pp 48],
 qo 50 (.a (appF 1 8 (tt 46) (tt 49))) [pp 46, pp 49],
 mv 3 50]) (.skip))))) (
 .reg [
 mv 14 4,
 qo 15 (.p (arF .add (tt 14) (ii 1))) [pp 14],
 mv 4 15]))
/-- (*ashlar/ashlarref25.Draft).Stripes -/
noncomputable def c21 : CFn := ⟨[.tmp (pp 2)],
 .seq (.reg [
 qo 2 (.p (S.get (.c (.slice none 0 0 0)))) []]) (
 .seq (.reg [
 qo 3 (.p (S.get (.c (.slice none 0 0 0)))) []]) (
 .seq (.seq (.reg [
 qo 4 (.p (S.get (ii 0))) []]) (
 .block 0 (.loop c21_l0))) (
 .seq (.reg [
 mv 51 3,
 mv 2 51]) (
 .ret))))⟩
theorem c21_eq : fnOf Try.prog 21 = some c21 := by kernel_rfl


/-- every block is one -/
def InR (m s r : Int) (L : Ws) : Prop := ∀ w ∈ L, 0 ≤ w.1 ∧ w.1 < blocks m s r
def strs (m : Int) (L : Ws) : List Int := L.map fun w => strp m w.1
theorem strs_take {m : Int} {L : Ws} {i : Nat} (h : i < L.length) : strs m (L.take (i + 1)) = strs m (L.take i) ++ [strp m L[i].1] := by
  unfold strs
  rw [List.take_add_one, List.getElem?_eq_getElem h, List.map_append]
  rfl
theorem strs_len (m : Int) (L : Ws) : (strs m L).length = L.length := List.length_map ..

theorem dedup_le : ∀ (l acc : List Int), (l.foldl dstep acc).length ≤ acc.length + l.length
  | [], acc => by simp
  | x :: l, acc => by
    have := dedup_le l (dstep acc x)
    have h : (dstep acc x).length ≤ acc.length + 1 := by unfold dstep; split <;> simp
    simp only [List.foldl_cons, List.length_cons]
    omega
theorem dedup_len {n : Nat} (l : List Int) (h : l.length ≤ n) : (dedup l).length ≤ n := by
  have := dedup_le l []
  unfold dedup
  simp at this
  omega

/-- a number appended -/
theorem appI {H1 HH : Heap} {ks : List Int} {y : V} (hy : Lst H1 HH 1 (rowsI ks) y) (tz : Turns Z H1 HH) (hl : ks.length ≤ 16) (u : Int) : ∃ H', appendV 1 8 (HH.add (.rows false 1 [[.int .i64 u]])) y (.slice (some ⟨.run HH.next, 0⟩) 1 1 0) = some (.slice (some ⟨.run (HH.next + 1), 0⟩) (ks.length + 1) (ks.length + 1) 1, H') ∧ Lst H1 H' 1 (rowsI (ks ++ [u])) (.slice (some ⟨.run (HH.next + 1), 0⟩) (ks.length + 1) (ks.length + 1) 1) ∧ Turns Z H1 H' := by
  have ta := Turns.add Z HH (.rows false 1 [[.int .i64 u]])
  have hxg : (HH.add (.rows false 1 [[.int .i64 u]])).get (.run HH.next) = some (.rows false 1 [[.int .i64 u]]) := by rw [Heap.get_add, if_pos rfl]
  have hya := hy.turns ta (fun _ _ => id)
  have hl' := rowsI_len ks
  obtain ⟨H', ea, hv', ta', _⟩ := hya.app1 (by' := 8) (Nat.le_trans tz.next ta.next) hxg rfl (by decide) (by rw [hl']; omega) (by rw [hl']; omega)
  rw [hl', Heap.next_add] at ea hv'
  have hR : rowsI ks ++ [[.int .i64 u]] = rowsI (ks ++ [u]) := by unfold rowsI; simp
  rw [hR] at hv'
  exact ⟨H', ea, hv', (tz.trans ta).later ta' (fun c hc hb => by
    obtain ⟨_, rfl, h1, _⟩ := hya.bof hb
    exact absurd hc (Heap.not_old h1))⟩

/-- a place in a cell -/
noncomputable def cell2 (H : Heap) (a b : Int) : Heap := (H.add (.rows false 2 [[.int .i64 0, .int .i64 0]])).set (.run H.next) (.rows false 2 [[.int .i64 a, .int .i64 b]])
theorem cell2_store (H : Heap) (a b : Int) : storeAt (H.add (.rows false 2 [[.int .i64 0, .int .i64 0]])) ⟨.run H.next, 0⟩ [.int .i64 a, .int .i64 b] = some (cell2 H a b) := by
  have hg : (H.add (.rows false 2 [[.int .i64 0, .int .i64 0]])).get (.run H.next) = some (.rows false 2 [[.int .i64 0, .int .i64 0]]) := by rw [Heap.get_add, if_pos rfl]
  exact storeAt_eq hg (r := [.int .i64 0, .int .i64 0]) rfl rfl
theorem cell2_get (H : Heap) (a b : Int) : (cell2 H a b).get (.run H.next) = some (.rows false 2 [[.int .i64 a, .int .i64 b]]) := by unfold cell2; rw [Heap.get_set, if_pos rfl]
theorem cell2_turns (H : Heap) (a b : Int) : Turns Z H (cell2 H a b) := (Turns.add Z H _).setnew (Nat.le_refl _) _
theorem cell2_next (H : Heap) (a b : Int) : (cell2 H a b).next = H.next + 1 := rfl
theorem cell2_load (H : Heap) (a b : Int) : loadAt (cell2 H a b) ⟨.run H.next, 0⟩ 1 = some [.int .i64 a] := by rw [loadAt_eq (cell2_get H a b) rfl]; rfl

theorem stripes_ok {H : Heap} {b mb : Bk} {m s r : Int} {W : Ws} (h : DraftAt H b mb m s r W) (g : Good W) (hm : may m s r = true) (hin : InR m s r (told W)) (lf n : Nat) (hlf : 17 < lf) : ret (callS Try.prog S0 lf (n + 5) 20 [.ptr (some ⟨b, 0⟩)] H) fun v H' => IntsAt H' v (dedup (strs m (told W))) ∧ Turns Z H H' := by
  obtain ⟨v9, H1, e9, hv9, t1⟩ := writes_ok h g lf (n + 2) hlf
  have hlw : (rowsW (told W)).length = W.length := by unfold rowsW; rw [List.length_map, told_len]
  obtain ⟨p9, c9, o9, ev9⟩ := hv9.val
  rw [hlw] at ev9
  have hWl := g.le
  have htl := told_len W
  refine ret_call rfl c20_eq ?_
  rw [ev9] at e9
  simp only [c20, e9, sy, tup, ↓reduceIte, Nat.reduceEqDiff, Nat.reduceAdd, Nat.reduceSub, Nat.reduceMul, Nat.reduceDiv, Nat.reduceMod, Nat.reduceLeDiff, Int.reduceBEq, reduceCtorEq]
  have hd1 := h.turns t1 id id
  have hloop : ∀ t : T, t.getP (Tr.path 0) = some (.ptr (some ⟨b, 0⟩)) → t.getP (Tr.path 3) = some (.slice none 0 0 0) → t.getP (Tr.path 9) = some v9 → t.getP (Tr.path 10) = some (.int .i64 (W.length : Int)) → t.getP (Tr.path 11) = some (.int .i64 0) →
      wp (loopF (runC (callS Try.prog S0 lf (n + 4)) lf c20_l0) lf ⟨t, H1, []⟩) fun x s' => x = .ex 0 ∧ s'.d = [] ∧ ∃ y, s'.t.getP (Tr.path 3) = some y ∧ Lst H1 s'.H 1 (rowsI (strs m (told W))) y ∧ Turns Z H1 s'.H := by
    intro t q0 q3 q9 q10 q11
    refine wp_loopF (fun j s' => ∃ i : Nat, j = W.length - i ∧ i ≤ W.length ∧ s'.d = [] ∧ s'.t.getP (Tr.path 0) = some (.ptr (some ⟨b, 0⟩)) ∧ s'.t.getP (Tr.path 9) = some v9 ∧ s'.t.getP (Tr.path 10) = some (.int .i64 (W.length : Int)) ∧ s'.t.getP (Tr.path 11) = some (.int .i64 (i : Int)) ∧ ∃ y, s'.t.getP (Tr.path 3) = some y ∧ Lst H1 s'.H 1 (rowsI (strs m ((told W).take i))) y ∧ Turns Z H1 s'.H) ?_ lf W.length _ ⟨0, rfl, by omega, rfl, q0, q9, q10, q11, _, q3, Lst.nil _ _ _, Turns.refl _ _⟩ (by omega)
    rintro j ⟨t, HH, d⟩ ⟨i, rfl, hi, hd, q0, q9, q10, q11, y, q3, hy, tz⟩
    dsimp only at hd q0 q9 q10 q11 q3 hy tz
    subst hd
    by_cases hlt : i < W.length
    · have hlt' : (i : Int) < (W.length : Int) := by omega
      have hle' : i + 1 ≤ W.length := hlt
      have hit : i < (told W).length := by omega
      have hrow : (rowsW (told W))[i]? = some [.int .i64 (told W)[i].1, .blk (told W)[i].2] := by unfold rowsW; rw [List.getElem?_map, List.getElem?_eq_getElem hit]; rfl
      obtain ⟨n0, en, lk⟩ := (hv9.turns tz (fun _ _ => id)).load (o := 0) (k := 65) hrow (by omega)
      rw [cut_kb] at lk
      have lk : loadAt HH ⟨.run n0, i * 65⟩ 65 = some [.int .i64 (told W)[i].1, .blk (told W)[i].2] := lk
      rw [hlw] at en
      rw [en] at q9
      have hk := hin _ (List.getElem_mem hit)
      have ta := (Turns.add Z HH (.rows false 65 [[.int .i64 0, .blk 0]])).setnew (Nat.le_refl _) (.rows false 65 [[.int .i64 (told W)[i].1, .blk (told W)[i].2]])
      have hga : ((HH.add (.rows false 65 [[.int .i64 0, .blk 0]])).set (.run HH.next) (.rows false 65 [[.int .i64 (told W)[i].1, .blk (told W)[i].2]])).get (.run HH.next) = some (.rows false 65 [[.int .i64 (told W)[i].1, .blk (told W)[i].2]]) := by rw [Heap.get_set, if_pos rfl]
      have hoa : ((HH.add (.rows false 65 [[.int .i64 0, .blk 0]])).set (.run HH.next) (.rows false 65 [[.int .i64 (told W)[i].1, .blk (told W)[i].2]])).Old (.run HH.next) := by show _ < _; simp
      have la : loadAt ((HH.add (.rows false 65 [[.int .i64 0, .blk 0]])).set (.run HH.next) (.rows false 65 [[.int .i64 (told W)[i].1, .blk (told W)[i].2]])) ⟨.run HH.next, 0⟩ 1 = some [.int .i64 (told W)[i].1] := by rw [loadAt_eq hga rfl]; rfl
      generalize hHA : (HH.add (.rows false 65 [[.int .i64 0, .blk 0]])).set (.run HH.next) (.rows false 65 [[.int .i64 (told W)[i].1, .blk (told W)[i].2]]) = HA at *
      have tzA := tz.trans ta
      have lg := ld_g (hd1.turns tzA id id)
      obtain ⟨v, HB, eB, z, rfl, tB⟩ := at_ok HA hm hk lf n
      unfold geo at eB
      have tzB := tzA.trans tB
      have tC := cell2_turns HB (strp m (told W)[i].1) z
      have lC := cell2_load HB (strp m (told W)[i].1) z
      have sC := cell2_store HB (strp m (told W)[i].1) z
      have nC := cell2_next HB (strp m (told W)[i].1) z
      generalize hHC : cell2 HB (strp m (told W)[i].1) z = HC at *
      have tzC := tzB.trans tC
      have hyC := ((hy.turns ta (fun _ _ => id)).turns tB (fun _ _ => id)).turns tC (fun _ _ => id)
      obtain ⟨H', ea, hv', tz'⟩ := appI hyC tzC (by rw [strs_len, List.length_take]; omega) (strp m (told W)[i].1)
      rw [← strs_take hit] at hv'
      have w2 : IntKind.i64.wrap ((i : Int) + 1) = ((i + 1 : Nat) : Int) := by rw [wrap_i64 (by omega)]; omega
      simp only [c20_l0, q0, q3, q9, q10, q11, hlt', hle', lk, hHA, lg, la, eB, sC, w2, sy, tup, ↓reduceIte, Nat.reduceEqDiff, Nat.reduceAdd, Nat.reduceSub, Nat.reduceMul, Nat.reduceDiv, Nat.reduceMod, Nat.reduceLeDiff, Int.reduceBEq, reduceCtorEq]
      rw [endD_ok (by kernel_rfl) (by kernel_rfl)]
      simp only [q0, q3, q9, q10, q11, lC, ea, w2, sy, tup, ↓reduceIte, Nat.reduceEqDiff, Nat.reduceAdd, Nat.reduceSub, Nat.reduceMul, Nat.reduceDiv, Nat.reduceMod, Nat.reduceLeDiff, Int.reduceBEq, reduceCtorEq]
      exact ⟨W.length - (i + 1), by omega, i + 1, rfl, by omega, trivial, by simp [q0], by simp [en], by simp [q10], by simp, _, by simp, hv', tz'⟩
    · have : i = W.length := by omega
      subst this
      simp only [c20_l0, q10, q11, Int.lt_irrefl, sy, tup, ↓reduceIte, Nat.reduceEqDiff, Nat.reduceAdd, Nat.reduceSub, Nat.reduceMul, Nat.reduceDiv, Nat.reduceMod, Nat.reduceLeDiff, Int.reduceBEq, reduceCtorEq]
      rw [List.take_of_length_le (by omega)] at hy
      exact ⟨trivial, trivial, y, q3, hy, tz⟩
  rw [← ev9]
  refine wp_ctx (F := fun r => seqC _ _ _ (blockC _ r)) (hloop _ ?_ ?_ ?_ ?_ ?_) ?_
  · simp only [sy, tup, ↓reduceIte, Nat.reduceEqDiff, Nat.reduceAdd, Nat.reduceSub, Nat.reduceMul, Nat.reduceDiv, Nat.reduceMod, Nat.reduceLeDiff, Int.reduceBEq, reduceCtorEq]
  · simp only [sy, tup, ↓reduceIte, Nat.reduceEqDiff, Nat.reduceAdd, Nat.reduceSub, Nat.reduceMul, Nat.reduceDiv, Nat.reduceMod, Nat.reduceLeDiff, Int.reduceBEq, reduceCtorEq]
  · simp only [sy, tup, ↓reduceIte, Nat.reduceEqDiff, Nat.reduceAdd, Nat.reduceSub, Nat.reduceMul, Nat.reduceDiv, Nat.reduceMod, Nat.reduceLeDiff, Int.reduceBEq, reduceCtorEq]
  · simp only [sy, tup, ↓reduceIte, Nat.reduceEqDiff, Nat.reduceAdd, Nat.reduceSub, Nat.reduceMul, Nat.reduceDiv, Nat.reduceMod, Nat.reduceLeDiff, Int.reduceBEq, reduceCtorEq]
  · simp only [sy, tup, ↓reduceIte, Nat.reduceEqDiff, Nat.reduceAdd, Nat.reduceSub, Nat.reduceMul, Nat.reduceDiv, Nat.reduceMod, Nat.reduceLeDiff, Int.reduceBEq, reduceCtorEq]
  rintro x ⟨t, HH, d⟩ ⟨rfl, hd, y, q3, hy, tz⟩
  dsimp only at hd q3 hy tz
  subst hd
  obtain ⟨v, H', e, hc, t'⟩ := compact_ok hy (by rw [strs_len]; omega) lf (n + 3) hlf
  simp only [q3, e, sy, tup, ↓reduceIte, Nat.reduceEqDiff, Nat.reduceAdd, Nat.reduceSub, Nat.reduceMul, Nat.reduceDiv, Nat.reduceMod, Nat.reduceLeDiff, Int.reduceBEq, reduceCtorEq]
  exact ⟨trivial, .inr trivial, _, rfl, hc, t1.trans (tz.later t' (fun c hc hb => by
    obtain ⟨_, rfl, h1, _⟩ := hy.bof hb
    exact absurd hc (Heap.not_old h1)))⟩

theorem rstripes_ok {H0 H : Heap} {rb : Bk} {m s r : Int} {L : Ws} {v : V} (h : RefAt H0 H rb m s r L v) (hL : L.length ≤ 16) (hm : may m s r = true) (hin : InR m s r L) (lf n : Nat) (hlf : 64 < lf) : ret (callS Try.prog S0 lf (n + 6) 21 [.ptr (some ⟨rb, 0⟩)] H) fun v H' => IntsAt H' v (dedup (strs m L)) ∧ Turns Z H H' := by
  obtain ⟨p, c, o, ev⟩ := rval h
  refine ret_call rfl c21_eq ?_
  simp only [c21, sy, tup, ↓reduceIte, Nat.reduceEqDiff, Nat.reduceAdd, Nat.reduceSub, Nat.reduceMul, Nat.reduceDiv, Nat.reduceMod, Nat.reduceLeDiff, Int.reduceBEq, reduceCtorEq]
  have hloop : ∀ t : T, t.getP (Tr.path 0) = some (.ptr (some ⟨rb, 0⟩)) → t.getP (Tr.path 3) = some (.slice none 0 0 0) → t.getP (Tr.path 4) = some (.int .i64 0) →
      wp (loopF (runC (callS Try.prog S0 lf (n + 5)) lf c21_l0) lf ⟨t, H, []⟩) fun x s' => x = .ex 0 ∧ s'.d = [] ∧ ∃ y, s'.t.getP (Tr.path 3) = some y ∧ Lst H s'.H 1 (rowsI (dedup (strs m L))) y ∧ Turns Z H s'.H := by
    intro t q0 q3 q4
    refine wp_loopF (fun j s' => ∃ i : Nat, j = L.length - i ∧ i ≤ L.length ∧ s'.d = [] ∧ s'.t.getP (Tr.path 0) = some (.ptr (some ⟨rb, 0⟩)) ∧ s'.t.getP (Tr.path 4) = some (.int .i64 (i : Int)) ∧ ∃ y ks, s'.t.getP (Tr.path 3) = some y ∧ ks = dedup (strs m (L.take i)) ∧ ks.length ≤ i ∧ Lst H s'.H 1 (rowsI ks) y ∧ Turns Z H s'.H) ?_ lf L.length _ ⟨0, rfl, by omega, rfl, q0, q4, _, [], q3, rfl, Nat.le_refl _, Lst.nil _ _ _, Turns.refl _ _⟩ (by omega)
    rintro j ⟨t, HH, d⟩ ⟨i, rfl, hi, hd, q0, q4, y, ks, q3, hks, hkl, hy, tz⟩
    dsimp only at hd q0 q4 q3 hy tz
    subst hd
    have hr := h.turns tz id (fun _ _ => id)
    have lv := rld_v hr
    have lg := rld_g hr
    rw [ev] at lv
    by_cases hlt : i < L.length
    · have hlt' : (i : Int) < (L.length : Int) := by omega
      have hle' : i + 1 ≤ L.length := hlt
      obtain ⟨n0, en, lk, _⟩ := rld_i hr hlt
      rw [ev] at en
      cases en
      obtain ⟨v1, HB, eB, z, rfl, tB⟩ := rat_ok HH hm (hin _ (List.getElem_mem hlt)) lf n hlf
      unfold geo at eB
      have tC := cell2_turns HB (strp m L[i].1) z
      have lC := cell2_load HB (strp m L[i].1) z
      have sC := cell2_store HB (strp m L[i].1) z
      generalize hHC : cell2 HB (strp m L[i].1) z = HC at *
      have tzC := (tz.trans tB).trans tC
      have hyC := (hy.turns tB (fun _ _ => id)).turns tC (fun _ _ => id)
      have w2 : IntKind.i64.wrap ((i : Int) + 1) = ((i + 1 : Nat) : Int) := by rw [wrap_i64 (by omega)]; omega
      have hstep : dedup (strs m (L.take (i + 1))) = dstep ks (strp m L[i].1) := by rw [strs_take hlt, dedup_snoc, ← hks]
      obtain ⟨H', ea, hv', tz'⟩ := appI hyC tzC (by omega) (strp m L[i].1)
      by_cases hk0 : ks = []
      · subst hk0
        have ey : y = .slice none 0 0 0 := by
          rcases hyC with ⟨_, e⟩ | ⟨_, hne, _⟩
          · exact e
          · exact absurd rfl hne
        subst ey
        have hst : dstep [] (strp m L[i].1) = [] ++ [strp m L[i].1] := rfl
        have hz0 : (((0 : Nat) : Int) == 0) = true := rfl
        simp only [c21_l0, q0, q3, q4, lv, lg, hlt', hle', lk, eB, sC, w2, sy, tup, ↓reduceIte, Nat.reduceEqDiff, Nat.reduceAdd, Nat.reduceSub, Nat.reduceMul, Nat.reduceDiv, Nat.reduceMod, Nat.reduceLeDiff, Int.reduceBEq, reduceCtorEq]
        rw [endD_ok (by kernel_rfl) (by kernel_rfl)]
        simp only [q0, q3, q4, lC, hz0, sy, tup, ↓reduceIte, Nat.reduceEqDiff, Nat.reduceAdd, Nat.reduceSub, Nat.reduceMul, Nat.reduceDiv, Nat.reduceMod, Nat.reduceLeDiff, Int.reduceBEq, reduceCtorEq]
        rw [endD_ok (by kernel_rfl) (by kernel_rfl)]
        simp only [List.length_nil] at ea
        simp only [q0, q3, q4, lC, ea, w2, sy, tup, ↓reduceIte, Nat.reduceEqDiff, Nat.reduceAdd, Nat.reduceSub, Nat.reduceMul, Nat.reduceDiv, Nat.reduceMod, Nat.reduceLeDiff, Int.reduceBEq, reduceCtorEq]
        exact ⟨L.length - (i + 1), by omega, i + 1, rfl, by omega, trivial, by simp [q0], by simp, _, _, by simp, hst.symm.trans hstep.symm, by simp, hv', tz'⟩
      · have hkp : 0 < ks.length := List.length_pos_iff.mpr hk0
        obtain ⟨n1, hgy, ey⟩ : ∃ n1, HC.get (.run n1) = some (.rows false 1 (rowsI ks)) ∧ y = .slice (some ⟨.run n1, 0⟩) ks.length ks.length 1 := by
          rcases hyC with ⟨e, _⟩ | ⟨n1, _, e, hg, _⟩
          · exact absurd (by cases ks with | nil => rfl | cons a l => simp [rowsI] at e) hk0
          · exact ⟨n1, hg, by rw [e, rowsI_len]⟩
        rw [ey] at q3 ea
        have wl : IntKind.i64.wrap ((ks.length : Int) - 1) = ((ks.length - 1 : Nat) : Int) := by rw [wrap_i64 (by omega)]; omega
        have hll : ks.length - 1 + 1 ≤ ks.length := by omega
        have ll := load_rowsI hgy (i := ks.length - 1) (by omega)
        have hz : ((ks.length : Int) == 0) = false := by simp [hk0]
        have hlast : ks.getLast? = some (ks[ks.length - 1]'(by omega)) := by rw [List.getLast?_eq_getElem?, List.getElem?_eq_getElem (by omega)]
        by_cases he : ks[ks.length - 1]'(by omega) = strp m L[i].1
        · have hb : (ks[ks.length - 1]'(by omega) == strp m L[i].1) = true := by simp [he]
          have hst : dstep ks (strp m L[i].1) = ks := by unfold dstep; rw [if_pos (by rw [hlast, he])]
          simp only [c21_l0, q0, q3, q4, lv, lg, hlt', hle', lk, eB, sC, w2, sy, tup, ↓reduceIte, Nat.reduceEqDiff, Nat.reduceAdd, Nat.reduceSub, Nat.reduceMul, Nat.reduceDiv, Nat.reduceMod, Nat.reduceLeDiff, Int.reduceBEq, reduceCtorEq]
          rw [endD_ok (by kernel_rfl) (by kernel_rfl)]
          simp only [q0, q3, q4, lC, hz, wl, hll, ll, hb, sy, tup, ↓reduceIte, Nat.reduceEqDiff, Nat.reduceAdd, Nat.reduceSub, Nat.reduceMul, Nat.reduceDiv, Nat.reduceMod, Nat.reduceLeDiff, Int.reduceBEq, reduceCtorEq]
          rw [endD_ok (by kernel_rfl) (by kernel_rfl)]
          simp only [q0, q3, q4, lC, ea, w2, sy, tup, ↓reduceIte, Nat.reduceEqDiff, Nat.reduceAdd, Nat.reduceSub, Nat.reduceMul, Nat.reduceDiv, Nat.reduceMod, Nat.reduceLeDiff, Int.reduceBEq, reduceCtorEq]
          exact ⟨L.length - (i + 1), by omega, i + 1, rfl, by omega, trivial, by simp [q0], by simp, y, ks, by simp [q3, ey], hst.symm.trans hstep.symm, by omega, hyC, tzC⟩
        · have hb : (ks[ks.length - 1]'(by omega) == strp m L[i].1) = false := by simp [he]
          have hst : dstep ks (strp m L[i].1) = ks ++ [strp m L[i].1] := by unfold dstep; rw [if_neg (by rw [hlast]; exact fun k => he (Option.some.inj k))]
          simp only [c21_l0, q0, q3, q4, lv, lg, hlt', hle', lk, eB, sC, w2, sy, tup, ↓reduceIte, Nat.reduceEqDiff, Nat.reduceAdd, Nat.reduceSub, Nat.reduceMul, Nat.reduceDiv, Nat.reduceMod, Nat.reduceLeDiff, Int.reduceBEq, reduceCtorEq]
          rw [endD_ok (by kernel_rfl) (by kernel_rfl)]
          simp only [q0, q3, q4, lC, hz, wl, hll, ll, hb, sy, tup, ↓reduceIte, Nat.reduceEqDiff, Nat.reduceAdd, Nat.reduceSub, Nat.reduceMul, Nat.reduceDiv, Nat.reduceMod, Nat.reduceLeDiff, Int.reduceBEq, reduceCtorEq]
          rw [endD_ok (by kernel_rfl) (by kernel_rfl)]
          simp only [q0, q3, q4, lC, ea, w2, sy, tup, ↓reduceIte, Nat.reduceEqDiff, Nat.reduceAdd, Nat.reduceSub, Nat.reduceMul, Nat.reduceDiv, Nat.reduceMod, Nat.reduceLeDiff, Int.reduceBEq, reduceCtorEq]
          exact ⟨L.length - (i + 1), by omega, i + 1, rfl, by omega, trivial, by simp [q0], by simp, _, _, by simp, hst.symm.trans hstep.symm, by simp; omega, hv', tz'⟩
    · have : i = L.length := by omega
      subst this
      simp only [c21_l0, q0, q3, q4, lv, Int.lt_irrefl, sy, tup, ↓reduceIte, Nat.reduceEqDiff, Nat.reduceAdd, Nat.reduceSub, Nat.reduceMul, Nat.reduceDiv, Nat.reduceMod, Nat.reduceLeDiff, Int.reduceBEq, reduceCtorEq]
      rw [List.take_of_length_le (Nat.le_refl _)] at hks
      rw [← hks]
      exact ⟨trivial, trivial, y, by first | trivial | exact q3, hy, tz⟩
  refine wp_ctx (F := fun r => seqC _ _ _ (blockC _ r)) (hloop _ ?_ ?_ ?_) ?_
  · simp only [sy, tup, ↓reduceIte, Nat.reduceEqDiff, Nat.reduceAdd, Nat.reduceSub, Nat.reduceMul, Nat.reduceDiv, Nat.reduceMod, Nat.reduceLeDiff, Int.reduceBEq, reduceCtorEq]
  · simp only [sy, tup, ↓reduceIte, Nat.reduceEqDiff, Nat.reduceAdd, Nat.reduceSub, Nat.reduceMul, Nat.reduceDiv, Nat.reduceMod, Nat.reduceLeDiff, Int.reduceBEq, reduceCtorEq]
  · simp only [sy, tup, ↓reduceIte, Nat.reduceEqDiff, Nat.reduceAdd, Nat.reduceSub, Nat.reduceMul, Nat.reduceDiv, Nat.reduceMod, Nat.reduceLeDiff, Int.reduceBEq, reduceCtorEq]
  rintro x ⟨t, HH, d⟩ ⟨rfl, hd, y, q3, hy, tz⟩
  dsimp only at hd q3 hy tz
  subst hd
  simp only [q3, sy, tup, ↓reduceIte, Nat.reduceEqDiff, Nat.reduceAdd, Nat.reduceSub, Nat.reduceMul, Nat.reduceDiv, Nat.reduceMod, Nat.reduceLeDiff, Int.reduceBEq, reduceCtorEq]
  exact ⟨trivial, .inr trivial, _, rfl, Lst_ints hy, tz⟩

end Go.Proofs.Ytpmdbbdidafehaa.draft

