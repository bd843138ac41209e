/-
  Where blocks stand, as the document goes through all places.
-/
import Derived.Test.YtpmdbbdidafehaaDraftAtM
set_option linter.unusedVariables false
set_option linter.unusedSimpArgs false
set_option maxRecDepth 10000
namespace Go.Proofs.Ytpmdbbdidafehaa.draft
open Go.Am

/-- ashlar/ashlarref04.Parity -/
noncomputable def c154 : CFn := ⟨[.tmp (pp 4), .tmp (pp 5)],
 .seq (.reg [
 qo 2 (.m (boxF 3 (tt 0))) [pp 0],
 qo 4 (.p (S.get (ii 0))) [],
 qo 5 (.p (S.get (ii 0))) []]) (
 .seq (.seq (.reg [
 qo 6 (.r (loadF (tt 2) 3 .ag)) [pp 2],
 qo 7 (.c (callF (ff 22) [(tt 6)])) [pp 6],
 qo 8 (.p (unF .not (tt 7))) [pp 7]]) (
 .cond (tt 8) (.seq (.reg [
 qo 4 (.p (S.get (ii 0))) [],
 qo 5 (.p (S.get (ii 2))) []]) (
 .ret)) (.skip))) (
 .seq (.seq (.reg [
 mv 9 1,
 qo 10 (.p (arF .lss (tt 9) (ii 0))) [pp 9],
 mv 11 10,
 mg 12 1 11 false,
 qg 13 (.p (faddrF (tt 2) 1)) 11 false [pp 2],
 qg 14 (.r (loadF (tt 13) 1 .sc)) 11 false [pp 13],
 qg 15 (.p (arF .geq (tt 12) (tt 14))) 11 false [pp 12, pp 14],
 qo 16 (.p (pickF (tt 11) (.c (.bool true)) (tt 15))) [pp 11, pp 15]]) (
 .cond (tt 16) (.seq (.reg [
 qo 4 (.p (S.get (ii 0))) [],
 qo 5 (.p (S.get (ii 12))) []]) (
 .ret)) (.skip))) (
 .seq (.regD [
 qo 17 (.p (faddrF (tt 2) 0)) [pp 2],
 qo 18 (.r (loadF (tt 17) 1 .sc)) [pp 17],
 qo 19 (.p (arF .sub (tt 18) (ii 1))) [pp 18],
 mv 20 1,
 qo 21 (.p (faddrF (tt 2) 0)) [pp 2],
 qo 22 (.r (loadF (tt 21) 1 .sc)) [pp 21],
 qo 23 (.p (arF .rem (tt 20) (tt 22))) [pp 20, pp 22],
 qo 24 (.p (arF .sub (tt 19) (tt 23))) [pp 19, pp 23],
 mv 4 24,
 qo 5 (.p (S.get (ii 0))) []] [0, 1, 3, 0, 0, 16, 56, 127, 255, 511]) (
 .ret))))⟩
theorem c154_eq : fnOf Try.prog 154 = some c154 := by kernel_rfl

noncomputable def c122_l0 : C := .seq (.seq (.reg [
 mv 21 10,
 qo 22 (.p (faddrF (tt 2) 0)) [pp 2],
 qo 23 (.r (loadF (tt 22) 1 .sc)) [pp 22],
 qo 24 (.p (arF .sub (tt 23) (ii 1))) [pp 23],
 qo 25 (.p (arF .lss (tt 21) (tt 24))) [pp 21, pp 24]]) (
 .cond (tt 25) (.skip) (.exit 0))) (
 .seq (.block 1 (.seq (.reg [
 mv 28 9,
 qo 29 (.p (arF .add (tt 28) (ii 1))) [pp 28],
 mv 9 29]) (
 .seq (.seq (.reg [
 mv 30 9,
 qo 31 (.p (faddrF (tt 2) 0)) [pp 2],
 qo 32 (.r (loadF (tt 31) 1 .sc)) [pp 31],
 qo 33 (.p (eqcF false false [.int .i64] (tt 30) (tt 32))) [pp 30, pp 32]]) (
 .cond (tt 33) (.reg [
 qo 9 (.p (S.get (ii 0))) []]) (.skip))) (
 .reg [
 mv 34 8,
 mv 35 9,
 qo 36 (.m (bsliceF 1 1 [.int .i64 0] [(0, 1, (tt 35))])) [pp 35],
 qo 37 (.a (appF 1 8 (tt 34) (tt 36))) [pp 34, pp 36],
 mv 8 37])))) (
 .reg [
 mv 26 10,
 qo 27 (.p (arF .add (tt 26) (ii 1))) [pp 26],
 mv 10 27]))
/-- ashlar/ashlarref04.Data -/
noncomputable def c122 : CFn := ⟨[.tmp (pp 4), .tmp (pp 5)],
 .seq (.reg [
 qo 2 (.m (boxF 3 (tt 0))) [pp 0],
 qo 4 (.p (S.get (.c (.slice none 0 0 0)))) [],
 qo 5 (.p (S.get (ii 0))) []]) (
 .seq (.reg [
 qo 12 (.r (loadF (tt 2) 3 .ag)) [pp 2],
 mv 13 1,
 qo 14 (.c (callF (ff 154) [(tt 12), (tt 13)])) [pp 12, pp 13],
 mv 11 14,
 qo 15 (.p (extF (tt 11) 0)) [pp 11],
 qo 16 (.p (extF (tt 11) 1)) [pp 11],
 mv 6 15,
 mv 7 16]) (
 .seq (.seq (.reg [
 mv 17 7,
 qo 18 (.p (eqcF true false [.int .i64] (tt 17) (ii 0))) [pp 17]]) (
 .cond (tt 18) (.seq (.reg [
 mv 19 7,
 qo 4 (.p (S.get (.c (.slice none 0 0 0)))) [],
 mv 5 19]) (
 .ret)) (.skip))) (
 .seq (.reg [
 qo 8 (.p (S.get (.c (.slice none 0 0 0)))) []]) (
 .seq (.reg [
 mv 20 6,
 mv 9 20]) (
 .seq (.seq (.reg [
 qo 10 (.p (S.get (ii 0))) []]) (
 .block 0 (.loop c122_l0))) (
 .seq (.reg [
 mv 38 8,
 mv 4 38,
 qo 5 (.p (S.get (ii 0))) []]) (
 .ret)))))))⟩
theorem c122_eq : fnOf Try.prog 122 = some c122 := by kernel_rfl

noncomputable def c86_l0 : C := .seq (.seq (.reg [
 mv 24 7,
 mv 25 5,
 qo 26 (.p (lenF (tt 25))) [pp 25],
 qo 27 (.p (arF .lss (tt 24) (tt 26))) [pp 24, pp 26]]) (
 .cond (tt 27) (.skip) (.exit 2))) (
 .seq (.block 3 (.reg [
 mv 30 3,
 mv 31 4,
 mv 32 5,
 mv 33 7,
 qo 34 (.p (iaddrSF (tt 32) (tt 33) 1)) [pp 32, pp 33],
 qo 35 (.r (loadF (tt 34) 1 .sc)) [pp 34],
 qo 36 (.p (buildF [.int .i64 0, .int .i64 0] .ag [(0, 1, (tt 31)), (1, 1, (tt 35))])) [pp 31, pp 35],
 qo 37 (.m (bsliceF 1 2 [.int .i64 0, .int .i64 0] [(0, 2, (tt 36))])) [pp 36],
 qo 38 (.a (appF 2 16 (tt 30) (tt 37))) [pp 30, pp 37],
 mv 3 38])) (
 .reg [
 mv 28 7,
 qo 29 (.p (arF .add (tt 28) (ii 1))) [pp 28],
 mv 7 29]))
noncomputable def c86_l1 : C := .seq (.seq (.reg [
 mv 8 4,
 qo 9 (.p (faddrF (tt 1) 1)) [pp 1],
 qo 10 (.r (loadF (tt 9) 1 .sc)) [pp 9],
 qo 11 (.p (arF .lss (tt 8) (tt 10))) [pp 8, pp 10],
 mv 12 11,
 qg 13 (.r (loadF (tt 1) 3 .ag)) 12 true [pp 1],
 qg 14 (.c (callF (ff 22) [(tt 13)])) 12 true [pp 13],
 qo 15 (.p (pickF (tt 12) (tt 14) (.c (.bool false)))) [pp 12, pp 14]]) (
 .cond (tt 15) (.skip) (.exit 0))) (
 .seq (.block 1 (.seq (.reg [
 qo 19 (.r (loadF (tt 1) 3 .ag)) [pp 1],
 mv 20 4,
 qo 21 (.c (callF (ff 122) [(tt 19), (tt 20)])) [pp 19, pp 20],
 mv 18 21,
 qo 22 (.p (extF (tt 18) 0)) [pp 18],
 qo 23 (.p (extF (tt 18) 1)) [pp 18],
 mv 5 22,
 mv 6 23]) (
 .seq (.reg [
 qo 7 (.p (S.get (ii 0))) []]) (
 .block 2 (.loop c86_l0))))) (
 .reg [
 mv 16 4,
 qo 17 (.p (arF .add (tt 16) (ii 1))) [pp 16],
 mv 4 17]))
/-- ashlar/ashlarref04.All -/
noncomputable def c86 : CFn := ⟨[.tmp (pp 2)],
 .seq (.reg [
 qo 1 (.m (boxF 3 (tt 0))) [pp 0],
 qo 2 (.p (S.get (.c (.slice none 0 0 0)))) []]) (
 .seq (.reg [
 qo 3 (.p (S.get (.c (.slice none 0 0 0)))) []]) (
 .seq (.seq (.reg [
 qo 4 (.p (S.get (ii 0))) []]) (
 .block 0 (.loop c86_l1))) (
 .seq (.reg [
 mv 39 3,
 mv 2 39]) (
 .ret))))⟩
theorem c86_eq : fnOf Try.prog 86 = some c86 := by kernel_rfl

/-- ashlar/ashlarref04.At -/
noncomputable def c51 : CFn := ⟨[.cell (pp 4) 2 .ag, .tmp (pp 5)],
 .seq (.reg [
 qo 2 (.m (boxF 3 (tt 0))) [pp 0],
 qo 4 (.m (allocF 2 [.int .i64 0, .int .i64 0])) [],
 qo 5 (.p (S.get (ii 0))) []]) (
 .seq (.seq (.reg [
 qo 7 (.r (loadF (tt 2) 3 .ag)) [pp 2],
 qo 8 (.c (callF (ff 22) [(tt 7)])) [pp 7],
 qo 9 (.p (unF .not (tt 8))) [pp 8]]) (
 .cond (tt 9) (.seq (.reg [
 qo 10 (.p (buildF [.int .i64 0, .int .i64 0] .ag [])) [],
 qn (.a (storeF (tt 4) (tt 10) 2)) [pp 4, pp 10],
 qo 5 (.p (S.get (ii 2))) []]) (
 .ret)) (.skip))) (
 .seq (.reg [
 qo 11 (.r (loadF (tt 2) 3 .ag)) [pp 2],
 qo 12 (.c (callF (ff 86) [(tt 11)])) [pp 11],
 mv 6 12]) (
 .seq (.seq (.reg [
 mv 13 1,
 qo 14 (.p (arF .lss (tt 13) (ii 0))) [pp 13],
 mv 15 14,
 mg 16 1 15 false,
 mg 17 6 15 false,
 qg 18 (.p (lenF (tt 17))) 15 false [pp 17],
 qg 19 (.p (arF .geq (tt 16) (tt 18))) 15 false [pp 16, pp 18],
 qo 20 (.p (pickF (tt 15) (.c (.bool true)) (tt 19))) [pp 15, pp 19]]) (
 .cond (tt 20) (.seq (.reg [
 qo 21 (.p (buildF [.int .i64 0, .int .i64 0] .ag [])) [],
 qn (.a (storeF (tt 4) (tt 21) 2)) [pp 4, pp 21],
 qo 5 (.p (S.get (ii 12))) []]) (
 .ret)) (.skip))) (
 .seq (.reg [
 mv 22 6,
 mv 23 1,
 qo 24 (.p (iaddrSF (tt 22) (tt 23) 2)) [pp 22, pp 23],
 qo 25 (.r (loadF (tt 24) 2 .ag)) [pp 24],
 qn (.a (storeF (tt 4) (tt 25) 2)) [pp 4, pp 25],
 qo 5 (.p (S.get (ii 0))) []]) (
 .ret)))))⟩
theorem c51_eq : fnOf Try.prog 51 = some c51 := by kernel_rfl


theorem rparity_ok (H : Heap) {m s r x : Int} (hm : may m s r = true) (hx : 0 ≤ x ∧ x < s) (lf n : Nat) : ret (callS Try.prog S0 lf (n + 2) 154 [geo m s r, .int .i64 x] H) fun v H' => ∃ z, v = .tuple [.int .i64 z, .int .i64 0] ∧ Turns Z H H' := by
  have t1 := Turns.add Z H (.rows false 3 [[.int .i64 m, .int .i64 s, .int .i64 r]])
  have hg : (H.add (.rows false 3 [[.int .i64 m, .int .i64 s, .int .i64 r]])).get (.run H.next) = some (.rows false 3 [[.int .i64 m, .int .i64 s, .int .i64 r]]) := by rw [Heap.get_add, if_pos rfl]
  have lw : loadAt (H.add (.rows false 3 [[.int .i64 m, .int .i64 s, .int .i64 r]])) ⟨.run H.next, 0⟩ 3 = some [.int .i64 m, .int .i64 s, .int .i64 r] := by rw [loadAt_eq hg rfl]; rfl
  obtain ⟨v, H1, e, rfl, t2⟩ := rmay_ok (H.add (.rows false 3 [[.int .i64 m, .int .i64 s, .int .i64 r]])) m s r lf n
  unfold geo at e
  rw [hm] at e
  have hg' : H1.get (.run H.next) = some (.rows false 3 [[.int .i64 m, .int .i64 s, .int .i64 r]]) := (t2.same _ (by show _ < _; simp) id).trans hg
  have l0 : loadAt H1 ⟨.run H.next, 0⟩ 1 = some [.int .i64 m] := by rw [loadAt_eq hg' rfl]; rfl
  have l1 : loadAt H1 ⟨.run H.next, 1⟩ 1 = some [.int .i64 s] := by rw [loadAt_eq hg' rfl]; rfl
  have hm0 : m ≠ 0 := by have := (may_t hm).1; omega
  have hr := arith_rem .i64 x m hm0
  have x0 : ¬ x < 0 := by omega
  have x1 : ¬ s ≤ x := by omega
  refine ret_call rfl c154_eq ?_
  simp only [c154, geo, lw, e, l0, l1, hr, x0, x1, sy, tup, ↓reduceIte, Nat.reduceEqDiff, Nat.reduceAdd, Nat.reduceSub, Nat.reduceMul, Nat.reduceDiv, Nat.reduceMod, Nat.reduceLeDiff, Int.reduceBEq, reduceCtorEq]
  rw [endD_ok (by kernel_rfl) (by kernel_rfl)]
  simp only [sy, tup, ↓reduceIte, Nat.reduceEqDiff, Nat.reduceAdd, Nat.reduceSub, Nat.reduceMul, Nat.reduceDiv, Nat.reduceMod, Nat.reduceLeDiff, Int.reduceBEq, reduceCtorEq]
  exact ⟨trivial, .inr trivial, _, rfl, _, rfl, t1.trans t2⟩

def rowsI (ds : List Int) : List (List V) := ds.map fun d => [.int .i64 d]

theorem rdata_ok (H : Heap) {m s r x : Int} (hm : may m s r = true) (hx : 0 ≤ x ∧ x < s) (lf n : Nat) (hlf : 17 < lf) : ret (callS Try.prog S0 lf (n + 3) 122 [geo m s r, .int .i64 x] H) fun v H' => ∃ y ds, v = .tuple [y, .int .i64 0] ∧ Lst H H' 1 (rowsI ds) y ∧ (ds.length : Int) = m - 1 ∧ Turns Z H H' := by
  have t1 := Turns.add Z H (.rows false 3 [[.int .i64 m, .int .i64 s, .int .i64 r]])
  have hg : (H.add (.rows false 3 [[.int .i64 m, .int .i64 s, .int .i64 r]])).get (.run H.next) = some (.rows false 3 [[.int .i64 m, .int .i64 s, .int .i64 r]]) := by rw [Heap.get_add, if_pos rfl]
  have og : (H.add (.rows false 3 [[.int .i64 m, .int .i64 s, .int .i64 r]])).Old (.run H.next) := by show _ < _; simp
  have l0 : ∀ {H' : Heap}, Turns Z (H.add (.rows false 3 [[.int .i64 m, .int .i64 s, .int .i64 r]])) H' → loadAt H' ⟨.run H.next, 0⟩ 1 = some [.int .i64 m] := fun t => by rw [loadAt_eq ((t.same _ og id).trans hg) rfl]; rfl
  have lw : loadAt (H.add (.rows false 3 [[.int .i64 m, .int .i64 s, .int .i64 r]])) ⟨.run H.next, 0⟩ 3 = some [.int .i64 m, .int .i64 s, .int .i64 r] := by rw [loadAt_eq hg rfl]; rfl
  generalize hH1 : H.add (.rows false 3 [[.int .i64 m, .int .i64 s, .int .i64 r]]) = H1 at *
  obtain ⟨v, H2, e, z, rfl, t2⟩ := rparity_ok H1 hm hx lf n
  unfold geo at e
  have hmm := may_t hm
  obtain ⟨M, hM⟩ : ∃ M : Nat, m - 1 = (M : Int) := ⟨(m - 1).toNat, by omega⟩
  have hM15 : M ≤ 15 := by omega
  have wm : IntKind.i64.wrap (m - 1) = (M : Int) := by rw [wrap_i64 (by omega)]; exact hM
  refine ret_call rfl c122_eq ?_
  simp only [c122, geo, hH1, lw, e, sy, tup, ↓reduceIte, Nat.reduceEqDiff, Nat.reduceAdd, Nat.reduceSub, Nat.reduceMul, Nat.reduceDiv, Nat.reduceMod, Nat.reduceLeDiff, Int.reduceBEq, reduceCtorEq]
  have hloop : ∀ t : T, t.getP (Tr.path 2) = some (.ptr (some ⟨.run H.next, 0⟩)) → t.getP (Tr.path 8) = some (.slice none 0 0 0) → t.getP (Tr.path 9) = some (.int .i64 z) → t.getP (Tr.path 10) = some (.int .i64 0) →
      wp (loopF (runC (callS Try.prog S0 lf (n + 2)) lf c122_l0) lf ⟨t, H2, []⟩) fun x s' => x = .ex 0 ∧ s'.d = [] ∧ ∃ y ds, s'.t.getP (Tr.path 8) = some y ∧ Lst H1 s'.H 1 (rowsI ds) y ∧ ds.length = M ∧ Turns Z H1 s'.H := by
    intro t q2 q8 q9 q10
    refine wp_loopF (fun j s' => ∃ i : Nat, j = M - i ∧ i ≤ M ∧ s'.d = [] ∧ s'.t.getP (Tr.path 2) = some (.ptr (some ⟨.run H.next, 0⟩)) ∧ (∃ z, s'.t.getP (Tr.path 9) = some (.int .i64 z)) ∧ s'.t.getP (Tr.path 10) = some (.int .i64 (i : Int)) ∧ ∃ y ds, s'.t.getP (Tr.path 8) = some y ∧ Lst H1 s'.H 1 (rowsI ds) y ∧ ds.length = i ∧ Turns Z H1 s'.H) ?_ lf M _ ⟨0, rfl, by omega, rfl, q2, ⟨_, q9⟩, q10, _, [], q8, Lst.nil _ _ _, rfl, t2⟩ (by omega)
    rintro j ⟨t, HH, d⟩ ⟨i, rfl, hi, hd, q2, ⟨z, q9⟩, q10, y, ds, q8, hy, hds, tz⟩
    dsimp only at hd q2 q9 q10 q8 hy tz
    subst hd
    have lm := l0 tz
    by_cases hlt : i < M
    · have hlt' : (i : Int) < (M : Int) := by omega
      have w2 : IntKind.i64.wrap ((i : Int) + 1) = ((i + 1 : Nat) : Int) := by rw [wrap_i64 (by omega)]; omega
      have step : ∀ u : Int, ∃ H', appendV 1 8 (HH.add (.rows false 1 [[.int .i64 u]])) y (.slice (some ⟨.run HH.next, 0⟩) 1 1 0) = some (.slice (some ⟨.run (HH.next + 1), 0⟩) (ds.length + 1) (ds.length + 1) 1, H') ∧ Lst H1 H' 1 (rowsI (ds ++ [u])) (.slice (some ⟨.run (HH.next + 1), 0⟩) (ds.length + 1) (ds.length + 1) 1) ∧ Turns Z H1 H' := by
        intro u
        have ta := Turns.add Z HH (.rows false 1 [[.int .i64 u]])
        have hxg : (HH.add (.rows false 1 [[.int .i64 u]])).get (.run HH.next) = some (.rows false 1 [[.int .i64 u]]) := by rw [Heap.get_add, if_pos rfl]
        have hya := hy.turns ta (fun _ _ => id)
        have hl : (rowsI ds).length = ds.length := List.length_map ..
        obtain ⟨H', ea, hv', ta', _⟩ := hya.app1 (by' := 8) (Nat.le_trans tz.next ta.next) hxg rfl (by decide) (by rw [hl]; omega) (by rw [hl]; omega)
        rw [hl, Heap.next_add] at ea hv'
        have hR : rowsI ds ++ [[.int .i64 u]] = rowsI (ds ++ [u]) := by unfold rowsI; simp
        rw [hR] at hv'
        exact ⟨H', ea, hv', (tz.trans ta).later ta' (fun c hc hb => by
          obtain ⟨_, rfl, h1, _⟩ := hya.bof hb
          exact absurd hc (Heap.not_old h1))⟩
      by_cases hz : IntKind.i64.wrap (z + 1) = m
      · obtain ⟨H', ea, hv', tz'⟩ := step 0
        have hb : (IntKind.i64.wrap (z + 1) == m) = true := by simp [hz]
        simp only [c122_l0, q2, q8, q9, q10, lm, wm, hlt', w2, hb, ea, sy, tup, ↓reduceIte, Nat.reduceEqDiff, Nat.reduceAdd, Nat.reduceSub, Nat.reduceMul, Nat.reduceDiv, Nat.reduceMod, Nat.reduceLeDiff, Int.reduceBEq, reduceCtorEq]
        exact ⟨M - (i + 1), by omega, i + 1, rfl, by omega, trivial, by simp [q2], ⟨0, by simp⟩, by simp, _, _, by simp, hv', by simp [hds], tz'⟩
      · obtain ⟨H', ea, hv', tz'⟩ := step (IntKind.i64.wrap (z + 1))
        have hb : (IntKind.i64.wrap (z + 1) == m) = false := by simp [hz]
        simp only [c122_l0, q2, q8, q9, q10, lm, wm, hlt', w2, hb, ea, sy, tup, ↓reduceIte, Nat.reduceEqDiff, Nat.reduceAdd, Nat.reduceSub, Nat.reduceMul, Nat.reduceDiv, Nat.reduceMod, Nat.reduceLeDiff, Int.reduceBEq, reduceCtorEq]
        exact ⟨M - (i + 1), by omega, i + 1, rfl, by omega, trivial, by simp [q2], ⟨_, by simp; try rfl⟩, by simp, _, _, by simp, hv', by simp [hds], tz'⟩
    · have hiM : i = M := by omega
      subst hiM
      simp only [c122_l0, q2, q8, q9, q10, lm, wm, Int.lt_irrefl, sy, tup, ↓reduceIte, Nat.reduceEqDiff, Nat.reduceAdd, Nat.reduceSub, Nat.reduceMul, Nat.reduceDiv, Nat.reduceMod, Nat.reduceLeDiff, Int.reduceBEq, reduceCtorEq]
      exact ⟨trivial, trivial, y, ds, by first | trivial | exact q8, hy, hds, tz⟩
  refine wp_ctx (F := fun r => seqC _ _ _ (blockC _ r)) (hloop _ ?_ ?_ ?_ ?_) ?_
  · simp only [sy, tup, ↓reduceIte, Nat.reduceEqDiff, Nat.reduceAdd, Nat.reduceSub, Nat.reduceMul, Nat.reduceDiv, Nat.reduceMod, Nat.reduceLeDiff, Int.reduceBEq, reduceCtorEq]
  · simp only [sy, tup, ↓reduceIte, Nat.reduceEqDiff, Nat.reduceAdd, Nat.reduceSub, Nat.reduceMul, Nat.reduceDiv, Nat.reduceMod, Nat.reduceLeDiff, Int.reduceBEq, reduceCtorEq]
  · simp only [sy, tup, ↓reduceIte, Nat.reduceEqDiff, Nat.reduceAdd, Nat.reduceSub, Nat.reduceMul, Nat.reduceDiv, Nat.reduceMod, Nat.reduceLeDiff, Int.reduceBEq, reduceCtorEq]
  · simp only [sy, tup, ↓reduceIte, Nat.reduceEqDiff, Nat.reduceAdd, Nat.reduceSub, Nat.reduceMul, Nat.reduceDiv, Nat.reduceMod, Nat.reduceLeDiff, Int.reduceBEq, reduceCtorEq]
  rintro x ⟨t, HH, d⟩ ⟨rfl, hd, y, ds, q8, hy, hds, tz⟩
  dsimp only at hd q8 hy tz
  subst hd
  simp only [q8, sy, tup, ↓reduceIte, Nat.reduceEqDiff, Nat.reduceAdd, Nat.reduceSub, Nat.reduceMul, Nat.reduceDiv, Nat.reduceMod, Nat.reduceLeDiff, Int.reduceBEq, reduceCtorEq]
  exact ⟨trivial, .inr trivial, _, rfl, y, ds, rfl, Lst.base hy t1.next, by rw [hds, hM], t1.trans tz⟩

/-- all places -/
def Places (M : Nat) (R : List (List V)) : Prop := ∀ i, i < R.length → ∃ z : Int, R[i]? = some [.int .i64 ((i / M : Nat) : Int), .int .i64 z]

theorem Places.snoc {M a j : Nat} {R : List (List V)} (h : Places M R) (hl : R.length = a * M + j) (hj : j < M) (z : Int) : Places M (R ++ [[.int .i64 (a : Int), .int .i64 z]]) := by
  intro i hi
  rw [List.length_append] at hi
  by_cases hlt : i < R.length
  · rw [List.getElem?_append_left hlt]; exact h i hlt
  · have : i = R.length := by simp at hi; omega
    subst this
    have e : R.length / M = a := by
      rw [hl, Nat.mul_comm, Nat.mul_add_div (by omega), Nat.div_eq_of_lt hj, Nat.add_zero]
    exact ⟨z, by rw [List.getElem?_append_right (Nat.le_refl _)]; simp [e]⟩

theorem rall_ok (H : Heap) {m s r : Int} (hm : may m s r = true) (lf n : Nat) (hlf : 64 < lf) : ret (callS Try.prog S0 lf (n + 4) 86 [geo m s r] H) fun v H' => ∃ (M : Nat) (R : List (List V)), m - 1 = (M : Int) ∧ Lst H H' 2 R v ∧ (R.length : Int) = blocks m s r ∧ Places M R ∧ Turns Z H H' := by
  have t1 := Turns.add Z H (.rows false 3 [[.int .i64 m, .int .i64 s, .int .i64 r]])
  have hg : (H.add (.rows false 3 [[.int .i64 m, .int .i64 s, .int .i64 r]])).get (.run H.next) = some (.rows false 3 [[.int .i64 m, .int .i64 s, .int .i64 r]]) := by rw [Heap.get_add, if_pos rfl]
  have og : (H.add (.rows false 3 [[.int .i64 m, .int .i64 s, .int .i64 r]])).Old (.run H.next) := by show _ < _; simp
  have l1 : ∀ {H' : Heap}, Turns Z (H.add (.rows false 3 [[.int .i64 m, .int .i64 s, .int .i64 r]])) H' → loadAt H' ⟨.run H.next, 1⟩ 1 = some [.int .i64 s] := fun t => by rw [loadAt_eq ((t.same _ og id).trans hg) rfl]; rfl
  have lw : ∀ {H' : Heap}, Turns Z (H.add (.rows false 3 [[.int .i64 m, .int .i64 s, .int .i64 r]])) H' → loadAt H' ⟨.run H.next, 0⟩ 3 = some [.int .i64 m, .int .i64 s, .int .i64 r] := fun t => by rw [loadAt_eq ((t.same _ og id).trans hg) rfl]; rfl
  generalize hH1 : H.add (.rows false 3 [[.int .i64 m, .int .i64 s, .int .i64 r]]) = H1 at *
  have hmm := may_t hm
  obtain ⟨M, hM⟩ : ∃ M : Nat, m - 1 = (M : Int) := ⟨(m - 1).toNat, by omega⟩
  obtain ⟨N, hN⟩ : ∃ N : Nat, s = (N : Int) := ⟨s.toNat, by omega⟩
  have hM15 : M ≤ 15 := by omega
  have hN64 : N ≤ 64 := by omega
  refine ret_call rfl c86_eq ?_
  simp only [c86, geo, hH1, sy, tup, ↓reduceIte, Nat.reduceEqDiff, Nat.reduceAdd, Nat.reduceSub, Nat.reduceMul, Nat.reduceDiv, Nat.reduceMod, Nat.reduceLeDiff, Int.reduceBEq, reduceCtorEq]
  have hloop : ∀ t : T, t.getP (Tr.path 1) = some (.ptr (some ⟨.run H.next, 0⟩)) → t.getP (Tr.path 3) = some (.slice none 0 0 0) → t.getP (Tr.path 4) = some (.int .i64 0) →
      wp (loopF (runC (callS Try.prog S0 lf (n + 3)) lf c86_l1) lf ⟨t, H1, []⟩) fun x s' => x = .ex 0 ∧ s'.d = [] ∧ ∃ y R, s'.t.getP (Tr.path 3) = some y ∧ Lst H1 s'.H 2 R y ∧ R.length = N * M ∧ Places M R ∧ Turns Z H1 s'.H := by
    intro t q1 q3 q4
    refine wp_loopF (fun j s' => ∃ a : Nat, j = N - a ∧ a ≤ N ∧ s'.d = [] ∧ s'.t.getP (Tr.path 1) = some (.ptr (some ⟨.run H.next, 0⟩)) ∧ s'.t.getP (Tr.path 4) = some (.int .i64 (a : Int)) ∧ ∃ y R, s'.t.getP (Tr.path 3) = some y ∧ Lst H1 s'.H 2 R y ∧ R.length = a * M ∧ Places M R ∧ Turns Z H1 s'.H) ?_ lf N _ ⟨0, rfl, by omega, rfl, q1, q4, _, [], q3, Lst.nil _ _ _, by simp, fun i hi => absurd hi (by simp), Turns.refl _ _⟩ (by omega)
    rintro j ⟨t, HH, d⟩ ⟨a, rfl, ha, hd, q1, q4, y, R, q3, hy, hR, hP, tz⟩
    dsimp only at hd q1 q4 q3 hy tz
    subst hd
    have ls := l1 tz
    by_cases hlt : a < N
    · have hlt' : (a : Int) < s := by omega
      have hlt2 : (a : Int) < (N : Int) := by omega
      have lw0 := lw tz
      obtain ⟨v, H2, e2, rfl, t2⟩ := rmay_ok HH m s r lf (n + 2)
      unfold geo at e2
      rw [hm] at e2
      have tz2 := tz.trans t2
      have lw2 := lw tz2
      obtain ⟨v, H3, e3, x, ds, rfl, hx, hds, t3⟩ := rdata_ok H2 hm (x := (a : Int)) ⟨by omega, hlt'⟩ lf n (by omega)
      unfold geo at e3
      have hdM : ds.length = M := by omega
      have tz3 := tz2.trans t3
      have hy3 := (hy.turns t2 (fun _ _ => id)).turns t3 (fun _ _ => id)
      have sep3 : ∀ c, Bof y c → ¬ Bof x c := fun c hb hb' => by
        obtain ⟨n1, rfl, _, h2, _⟩ := hy.bof hb
        obtain ⟨n2, e', h3, _, _⟩ := hx.bof hb'
        cases e'
        have := t2.next
        omega
      have wa : IntKind.i64.wrap ((a : Int) + 1) = ((a + 1 : Nat) : Int) := by rw [wrap_i64 (by omega)]; omega
      simp only [c86_l1, q1, q3, q4, ls, hlt', lw0, e2, lw2, e3, sy, tup, ↓reduceIte, Nat.reduceEqDiff, Nat.reduceAdd, Nat.reduceSub, Nat.reduceMul, Nat.reduceDiv, Nat.reduceMod, Nat.reduceLeDiff, Int.reduceBEq, reduceCtorEq]
      have hin : ∀ t : T, t.getP (Tr.path 1) = some (.ptr (some ⟨.run H.next, 0⟩)) → t.getP (Tr.path 3) = some y → t.getP (Tr.path 4) = some (.int .i64 (a : Int)) → t.getP (Tr.path 5) = some x → t.getP (Tr.path 7) = some (.int .i64 0) →
          wp (loopF (runC (callS Try.prog S0 lf (n + 3)) lf c86_l0) lf ⟨t, H3, []⟩) fun x s' => x = .ex 2 ∧ s'.d = [] ∧ s'.t.getP (Tr.path 1) = some (.ptr (some ⟨.run H.next, 0⟩)) ∧ s'.t.getP (Tr.path 4) = some (.int .i64 (a : Int)) ∧ ∃ y R, s'.t.getP (Tr.path 3) = some y ∧ Lst H1 s'.H 2 R y ∧ R.length = (a + 1) * M ∧ Places M R ∧ Turns Z H1 s'.H := by
        intro t q1 q3 q4 q5 q7
        refine wp_loopF (fun j s' => ∃ i : Nat, j = M - i ∧ i ≤ M ∧ s'.d = [] ∧ s'.t.getP (Tr.path 1) = some (.ptr (some ⟨.run H.next, 0⟩)) ∧ s'.t.getP (Tr.path 4) = some (.int .i64 (a : Int)) ∧ s'.t.getP (Tr.path 5) = some x ∧ s'.t.getP (Tr.path 7) = some (.int .i64 (i : Int)) ∧ Lst H2 s'.H 1 (rowsI ds) x ∧ ∃ y R, s'.t.getP (Tr.path 3) = some y ∧ Lst H1 s'.H 2 R y ∧ R.length = a * M + i ∧ Places M R ∧ Turns Z H1 s'.H ∧ ∀ c, Bof y c → ¬ Bof x c) ?_ lf M _ ⟨0, rfl, by omega, rfl, q1, q4, q5, q7, hx, y, R, q3, hy3, by omega, hP, tz3, sep3⟩ (by omega)
        rintro j ⟨t, HI, d⟩ ⟨i, rfl, hi, hd, q1, q4, q5, q7, hx, y, R, q3, hy, hR, hP, tz, sep⟩
        dsimp only at hd q1 q4 q5 q7 hx q3 hy tz
        subst hd
        have hlI : (rowsI ds).length = M := by unfold rowsI; rw [List.length_map]; exact hdM
        obtain ⟨px, cx, ox, ex⟩ := hx.val
        rw [hlI] at ex
        by_cases hil : i < M
        · have hil' : (i : Int) < (M : Int) := by omega
          have hil2 : i + 1 ≤ M := hil
          have hid : i < ds.length := by omega
          have hrow : (rowsI ds)[i]? = some [.int .i64 ds[i]] := by unfold rowsI; rw [List.getElem?_map, List.getElem?_eq_getElem hid]; rfl
          obtain ⟨n0, en, lk⟩ := hx.load (o := 0) (k := 1) hrow (by omega)
          rw [hlI] at en
          have lk : loadAt HI ⟨.run n0, i * 1⟩ 1 = some [.int .i64 ds[i]] := lk.trans rfl
          have q5' := q5
          rw [en] at q5'
          have wi : IntKind.i64.wrap ((i : Int) + 1) = ((i + 1 : Nat) : Int) := by rw [wrap_i64 (by omega)]; omega
          have ta := Turns.add Z HI (.rows false 2 [[.int .i64 (a : Int), .int .i64 ds[i]]])
          have hxg : (HI.add (.rows false 2 [[.int .i64 (a : Int), .int .i64 ds[i]]])).get (.run HI.next) = some (.rows false 2 [[.int .i64 (a : Int), .int .i64 ds[i]]]) := by rw [Heap.get_add, if_pos rfl]
          have hya := hy.turns ta (fun _ _ => id)
          have hRl : R.length ≤ 1024 := by
            have h1 : a * M ≤ 64 * 15 := Nat.mul_le_mul (by omega) hM15
            omega
          obtain ⟨H', ea, hv', ta', hnx⟩ := hya.app1 (by' := 16) (Nat.le_trans tz.next ta.next) hxg rfl (by decide) (by omega) (by omega)
          have tz' : Turns Z H1 H' := (tz.trans ta).later ta' (fun c hc hb => by
            obtain ⟨_, rfl, h1, _⟩ := hya.bof hb
            exact absurd hc (Heap.not_old h1))
          have hx' := (hx.turns ta (fun _ _ => id)).turns ta' (fun c hc hb => sep c hb hc)
          simp only [c86_l0, q1, q3, q4, q5', q7, hil', hil2, lk, wi, ea, sy, tup, ↓reduceIte, Nat.reduceEqDiff, Nat.reduceAdd, Nat.reduceSub, Nat.reduceMul, Nat.reduceDiv, Nat.reduceMod, Nat.reduceLeDiff, Int.reduceBEq, reduceCtorEq]
          refine ⟨M - (i + 1), by omega, i + 1, rfl, by omega, trivial, by simp [q1], by simp [q4], by simp [en], by simp, hx', _, _, by simp, hv', by simp; omega, hP.snoc hR hil _, tz', ?_⟩
          rintro c ⟨_, _, _, _, e1, rfl⟩ hb
          cases e1
          obtain ⟨n2, e', _, h4, _⟩ := hx.bof hb
          rw [Heap.next_add] at e'
          cases e'
          omega
        · have hiM : i = M := by omega
          subst hiM
          rw [ex] at q5
          simp only [c86_l0, q1, q3, q4, q5, q7, Int.lt_irrefl, sy, tup, ↓reduceIte, Nat.reduceEqDiff, Nat.reduceAdd, Nat.reduceSub, Nat.reduceMul, Nat.reduceDiv, Nat.reduceMod, Nat.reduceLeDiff, Int.reduceBEq, reduceCtorEq]
          exact ⟨trivial, trivial, by first | trivial | exact q1, by first | trivial | exact q4, y, R, by first | trivial | exact q3, hy, by rw [hR, Nat.add_mul, Nat.one_mul], hP, tz⟩
      refine wp_ctx (F := fun r => seqC _ _ _ (blockC _ (blockC _ r))) (hin _ ?_ ?_ ?_ ?_ ?_) ?_
      · simp only [q1, sy, tup, ↓reduceIte, Nat.reduceEqDiff, Nat.reduceAdd, Nat.reduceSub, Nat.reduceMul, Nat.reduceDiv, Nat.reduceMod, Nat.reduceLeDiff, Int.reduceBEq, reduceCtorEq]
      · simp only [q3, sy, tup, ↓reduceIte, Nat.reduceEqDiff, Nat.reduceAdd, Nat.reduceSub, Nat.reduceMul, Nat.reduceDiv, Nat.reduceMod, Nat.reduceLeDiff, Int.reduceBEq, reduceCtorEq]
      · simp only [q4, sy, tup, ↓reduceIte, Nat.reduceEqDiff, Nat.reduceAdd, Nat.reduceSub, Nat.reduceMul, Nat.reduceDiv, Nat.reduceMod, Nat.reduceLeDiff, Int.reduceBEq, reduceCtorEq]
      · simp only [sy, tup, ↓reduceIte, Nat.reduceEqDiff, Nat.reduceAdd, Nat.reduceSub, Nat.reduceMul, Nat.reduceDiv, Nat.reduceMod, Nat.reduceLeDiff, Int.reduceBEq, reduceCtorEq]
      · simp only [sy, tup, ↓reduceIte, Nat.reduceEqDiff, Nat.reduceAdd, Nat.reduceSub, Nat.reduceMul, Nat.reduceDiv, Nat.reduceMod, Nat.reduceLeDiff, Int.reduceBEq, reduceCtorEq]
      rintro x ⟨t, HJ, d⟩ ⟨rfl, hd, q1, q4, y, R, q3, hy, hR, hP, tz⟩
      dsimp only at hd q1 q4 q3 hy tz
      subst hd
      simp only [q1, q3, q4, wa, sy, tup, ↓reduceIte, Nat.reduceEqDiff, Nat.reduceAdd, Nat.reduceSub, Nat.reduceMul, Nat.reduceDiv, Nat.reduceMod, Nat.reduceLeDiff, Int.reduceBEq, reduceCtorEq]
      exact ⟨N - (a + 1), by omega, a + 1, rfl, by omega, trivial, by simp [q1], by simp, y, R, by simp [q3], hy, hR, hP, tz⟩
    · have haN : a = N := by omega
      subst haN
      have hnl : ¬ ((a : Int) < s) := by omega
      simp only [c86_l1, q1, q3, q4, ls, hnl, sy, tup, ↓reduceIte, Nat.reduceEqDiff, Nat.reduceAdd, Nat.reduceSub, Nat.reduceMul, Nat.reduceDiv, Nat.reduceMod, Nat.reduceLeDiff, Int.reduceBEq, reduceCtorEq]
      exact ⟨trivial, trivial, y, R, by first | trivial | exact q3, hy, hR, hP, tz⟩
  refine wp_ctx (F := fun r => seqC _ _ _ (blockC _ r)) (hloop _ ?_ ?_ ?_) ?_
  · simp only [sy, tup, ↓reduceIte, Nat.reduceEqDiff, Nat.reduceAdd, Nat.reduceSub, Nat.reduceMul, Nat.reduceDiv, Nat.reduceMod, Nat.reduceLeDiff, Int.reduceBEq, reduceCtorEq]
  · simp only [sy, tup, ↓reduceIte, Nat.reduceEqDiff, Nat.reduceAdd, Nat.reduceSub, Nat.reduceMul, Nat.reduceDiv, Nat.reduceMod, Nat.reduceLeDiff, Int.reduceBEq, reduceCtorEq]
  · simp only [sy, tup, ↓reduceIte, Nat.reduceEqDiff, Nat.reduceAdd, Nat.reduceSub, Nat.reduceMul, Nat.reduceDiv, Nat.reduceMod, Nat.reduceLeDiff, Int.reduceBEq, reduceCtorEq]
  rintro x ⟨t, HH, d⟩ ⟨rfl, hd, y, R, q3, hy, hR, hP, tz⟩
  dsimp only at hd q3 hy tz
  subst hd
  simp only [q3, sy, tup, ↓reduceIte, Nat.reduceEqDiff, Nat.reduceAdd, Nat.reduceSub, Nat.reduceMul, Nat.reduceDiv, Nat.reduceMod, Nat.reduceLeDiff, Int.reduceBEq, reduceCtorEq]
  refine ⟨trivial, .inr trivial, _, rfl, M, R, hM, Lst.base hy t1.next, ?_, hP, t1.trans tz⟩
  unfold blocks
  rw [if_pos hm, hM, hN, hR]
  simp

theorem strp_nat {m : Int} {M : Nat} (hM : m - 1 = (M : Int)) (i : Nat) : strp m (i : Int) = ((i / M : Nat) : Int) := by
  unfold strp
  rw [hM]
  rfl

theorem rat_ok (H : Heap) {m s r k : Int} (hm : may m s r = true) (hk : 0 ≤ k ∧ k < blocks m s r) (lf n : Nat) (hlf : 64 < lf) : ret (callS Try.prog S0 lf (n + 5) 51 [geo m s r, .int .i64 k] H) fun v H' => ∃ z, v = .tuple [.agg [.int .i64 (strp m k), .int .i64 z], .int .i64 0] ∧ Turns Z H H' := by
  have t1 := Turns.add Z H (.rows false 3 [[.int .i64 m, .int .i64 s, .int .i64 r]])
  have hg : (H.add (.rows false 3 [[.int .i64 m, .int .i64 s, .int .i64 r]])).get (.run H.next) = some (.rows false 3 [[.int .i64 m, .int .i64 s, .int .i64 r]]) := by rw [Heap.get_add, if_pos rfl]
  have t2 := t1.addm (.rows false 2 [[.int .i64 0, .int .i64 0]])
  have hg2 : ((H.add (.rows false 3 [[.int .i64 m, .int .i64 s, .int .i64 r]])).add (.rows false 2 [[.int .i64 0, .int .i64 0]])).get (.run H.next) = some (.rows false 3 [[.int .i64 m, .int .i64 s, .int .i64 r]]) := by rw [mem_add (by simp)]; exact hg
  have hc2 : ((H.add (.rows false 3 [[.int .i64 m, .int .i64 s, .int .i64 r]])).add (.rows false 2 [[.int .i64 0, .int .i64 0]])).get (.run (H.next + 1)) = some (.rows false 2 [[.int .i64 0, .int .i64 0]]) := by rw [Heap.get_add, if_pos (by simp)]
  generalize hH2 : (H.add (.rows false 3 [[.int .i64 m, .int .i64 s, .int .i64 r]])).add (.rows false 2 [[.int .i64 0, .int .i64 0]]) = H2 at *
  have og : H2.Old (.run H.next) := by subst hH2; show _ < _; simp; omega
  have oc : H2.Old (.run (H.next + 1)) := by subst hH2; show _ < _; simp
  have lg : ∀ {H' : Heap}, Turns Z H2 H' → loadAt H' ⟨.run H.next, 0⟩ 3 = some [.int .i64 m, .int .i64 s, .int .i64 r] := fun t => by
    rw [loadAt_eq ((t.same _ og id).trans hg2) rfl]; rfl
  have lg2 := lg (Turns.refl Z H2)
  obtain ⟨v, H3, e3, rfl, t3⟩ := rmay_ok H2 m s r lf (n + 3)
  unfold geo at e3
  rw [hm] at e3
  have lg3 := lg t3
  obtain ⟨y, H4, e4, M, R, hM, hy, hR, hP, t4⟩ := rall_ok H3 hm lf n hlf
  unfold geo at e4
  have tt4 := t3.trans t4
  have hc4 : H4.get (.run (H.next + 1)) = some (.rows false 2 [[.int .i64 0, .int .i64 0]]) := (tt4.same _ oc id).trans hc2
  obtain ⟨i, hi⟩ : ∃ i : Nat, k = (i : Int) := ⟨k.toNat, by omega⟩
  subst hi
  have hiR : i < R.length := by omega
  obtain ⟨z, hrow⟩ := hP i hiR
  rw [← strp_nat hM i] at hrow
  obtain ⟨n0, en, lk⟩ := hy.load (o := 0) (k := 2) hrow (by omega)
  have lk : loadAt H4 ⟨.run n0, i * 2⟩ 2 = some [.int .i64 (strp m (i : Int)), .int .i64 z] := lk.trans rfl
  rw [en] at e4
  have k0 : ¬ (i : Int) < 0 := by omega
  have k1 : ¬ (R.length : Int) ≤ (i : Int) := by omega
  have hle : i + 1 ≤ R.length := hiR
  have hst : ∀ a b : Int, storeAt H4 ⟨.run (H.next + 1), 0⟩ [.int .i64 a, .int .i64 b] = some (H4.set (.run (H.next + 1)) (.rows false 2 [[.int .i64 a, .int .i64 b]])) := fun a b => storeAt_eq hc4 (r := [.int .i64 0, .int .i64 0]) rfl rfl
  have hld : ∀ a b : Int, loadAt (H4.set (.run (H.next + 1)) (.rows false 2 [[.int .i64 a, .int .i64 b]])) ⟨.run (H.next + 1), 0⟩ 2 = some [.int .i64 a, .int .i64 b] := fun a b => by
    rw [loadAt_eq (by rw [Heap.get_set, if_pos rfl]) (r := [.int .i64 a, .int .i64 b]) rfl]; rfl
  refine ret_call rfl c51_eq ?_
  simp only [c51, geo, hH2, lg2, e3, lg3, e4, k0, k1, hle, lk, hst, hld, sy, tup, ↓reduceIte, Nat.reduceEqDiff, Nat.reduceAdd, Nat.reduceSub, Nat.reduceMul, Nat.reduceDiv, Nat.reduceMod, Nat.reduceLeDiff, Int.reduceBEq, reduceCtorEq]
  exact ⟨trivial, .inr trivial, _, rfl, _, rfl, (t2.trans tt4).setnew (Nat.le_succ _) _⟩

end Go.Proofs.Ytpmdbbdidafehaa.draft

