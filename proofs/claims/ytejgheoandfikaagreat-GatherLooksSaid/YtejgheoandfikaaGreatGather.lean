import Derived.Test.YtejgheoandfikaaGreatSeal
set_option linter.unusedVariables false
set_option linter.unusedSimpArgs false
set_option maxRecDepth 10000
namespace Go.Proofs.YtejgheoandfikaaGreat.draft
open Go.Am
noncomputable def c109_l0 : C := .seq (.reg [
 qo 25 (.p (arF .lss (tt 24) (tt 23))) [pp 24, pp 23]]) (
 .seq (.cond (tt 25) (.skip) (.exit 0)) (
 .seq (.block 1 (.seq (.reg [
 mv 26 24,
 mv 5 26]) (
 .seq (.regD [
 mv 27 0,
 mv 28 5,
 qo 29 (.c (callF (ff 119) [(tt 27), (tt 28)])) [pp 27, pp 28],
 qo 30 (.p (faddrF (tt 3) 1)) [pp 3],
 qo 31 (.r (loadF (tt 30) 1 .sc)) [pp 30],
 qo 32 (.p (arF .add (ii 2) (tt 31))) [pp 31],
 qo 33 (.p (arF .lss (tt 29) (tt 32))) [pp 29, pp 32]] [0, 0, 3, 0, 8, 24, 63]) (
 .cond (tt 33) (.seq (.reg [
 qo 4 (.p (S.get (.c (.bool false)))) []]) (
 .ret)) (.skip))))) (
 .reg [
 qo 34 (.p (arF .add (tt 24) (ii 1))) [pp 24],
 mv 24 34])))
noncomputable def c109 : CFn := ⟨[.tmp (pp 4)],
 .seq (.reg [
 qo 3 (.m (boxF 3 (tt 1))) [pp 1],
 qo 4 (.p (S.get (.c (.bool false)))) []]) (
 .seq (.seq (.regD [
 mv 6 0,
 qo 7 (.c (callF (ff 106) [(tt 6)])) [pp 6],
 qo 8 (.p (faddrF (tt 3) 0)) [pp 3],
 qo 9 (.r (loadF (tt 8) 1 .sc)) [pp 8],
 qo 10 (.p (arF .add (tt 9) (ii 1))) [pp 9],
 qo 11 (.p (eqcF true false [.int .i64] (tt 7) (tt 10))) [pp 7, pp 10],
 mv 12 11,
 mg 13 0 12 false,
 qg 14 (.p (faddrF (tt 3) 0)) 12 false [pp 3],
 qg 15 (.r (loadF (tt 14) 1 .sc)) 12 false [pp 14],
 qg 16 (.c (callF (ff 119) [(tt 13), (tt 15)])) 12 false [pp 13, pp 15],
 qg 17 (.p (faddrF (tt 3) 2)) 12 false [pp 3],
 qg 18 (.r (loadF (tt 17) 1 .sc)) 12 false [pp 17],
 qg 19 (.p (arF .add (ii 10) (tt 18))) 12 false [pp 18],
 qg 20 (.p (arF .lss (tt 16) (tt 19))) 12 false [pp 16, pp 19],
 qo 21 (.p (pickF (tt 12) (.c (.bool true)) (tt 20))) [pp 12, pp 20]] [0, 1, 0, 4, 12, 31, 63, 127, 127, 383, 1023, 127, 2175, 6271, 16383, 32767]) (
 .cond (tt 21) (.seq (.reg [
 qo 4 (.p (S.get (.c (.bool false)))) []]) (
 .ret)) (.skip))) (
 .seq (.seq (.reg [
 qo 22 (.p (faddrF (tt 3) 0)) [pp 3],
 qo 23 (.r (loadF (tt 22) 1 .sc)) [pp 22],
 qo 24 (.p (S.get (ii 0))) []]) (
 .block 0 (.loop c109_l0))) (
 .seq (.reg [
 qo 4 (.p (S.get (.c (.bool true)))) []]) (
 .ret))))⟩
theorem c109_eq : fnOf Tryz.prog 109 = some c109 := by kernel_rfl
structure GeoAt (H : Heap) (b : Bk) (m s r : Int) : Prop where
  own : H.get b = some (.rows false 3 [[.int .i64 m, .int .i64 s, .int .i64 r]])
theorem GeoAt.m {H : Heap} {b : Bk} {m s r : Int} (h : GeoAt H b m s r) : loadAt H ⟨b, 0⟩ 1 = some [.int .i64 m] := by rw [loadAt_eq h.own rfl]; rfl
theorem GeoAt.s {H : Heap} {b : Bk} {m s r : Int} (h : GeoAt H b m s r) : loadAt H ⟨b, 1⟩ 1 = some [.int .i64 s] := by rw [loadAt_eq h.own rfl]; rfl
theorem GeoAt.r {H : Heap} {b : Bk} {m s r : Int} (h : GeoAt H b m s r) : loadAt H ⟨b, 2⟩ 1 = some [.int .i64 r] := by rw [loadAt_eq h.own rfl]; rfl
def fits (N : Nat) (sec : Int → Int) (m s r : Int) : Prop := (N : Int) = m + 1 ∧ r + 10 ≤ sec m ∧ ∀ d, 0 ≤ d ∧ d < m → s + 2 ≤ sec d
theorem gfits_ok (H : Heap) {b : Bk} {m s r : Int} (hm : may m s r = true) {N : Nat} {sec : Int → Int} (lf k : Nat) (hlf : 20 < lf)
    (hd : ∀ H', Turns Z H H' → callS Tryz.prog S0 lf (k + 3) 106 [.ptr (some ⟨b, 0⟩)] H' = some (.v (.int .i64 (N : Int)), H'))
    (hs : ∀ H' d, Turns Z H H' → callS Tryz.prog S0 lf (k + 3) 119 [.ptr (some ⟨b, 0⟩), .int .i64 d] H' = some (.v (.int .i64 (sec d)), H')) :
    ret (callS Tryz.prog S0 lf (k + 4) 109 [.ptr (some ⟨b, 0⟩), geo m s r] H) fun v H' => Turns Z H H' ∧ ∃ z : Bool, v = .bool z ∧ (z = true ↔ fits N sec m s r) := by
  have t1 := Turns.add Z H (.rows false 3 [[.int .i64 m, .int .i64 s, .int .i64 r]])
  have hg : (H.add (.rows false 3 [[.int .i64 m, .int .i64 s, .int .i64 r]])).get (.run H.next) = some (.rows false 3 [[.int .i64 m, .int .i64 s, .int .i64 r]]) := by rw [Heap.get_add, if_pos rfl]
  have og : (H.add (.rows false 3 [[.int .i64 m, .int .i64 s, .int .i64 r]])).Old (.run H.next) := by show _ < _; simp
  have hr : ∀ {H' : Heap}, Turns Z (H.add (.rows false 3 [[.int .i64 m, .int .i64 s, .int .i64 r]])) H' → GeoAt H' (.run H.next) m s r := fun t => ⟨(t.same _ og id).trans hg⟩
  generalize hH1 : H.add (.rows false 3 [[.int .i64 m, .int .i64 s, .int .i64 r]]) = H1 at *
  obtain ⟨bm, bs, br⟩ := may_t hm
  have d1 := hd H1 t1
  have m1 := (hr (Turns.refl Z H1)).m
  have r1 := (hr (Turns.refl Z H1)).r
  have s1 := hs H1 m t1
  have wm : IntKind.i64.wrap (m + 1) = m + 1 := wrap_i64 (by omega)
  have wr : IntKind.i64.wrap (10 + r) = r + 10 := by rw [wrap_i64 (by omega)]; omega
  obtain ⟨q, hqd⟩ : ∃ q : List (Option V × Option V), q = [(loadF (.t (Tr.path 8)) 1 .sc (Tr.setP (Tr.path 8) (.ptr (some ⟨.run H.next, 0⟩)) .e) H1, some (.int .i64 m)), (loadF (.t (Tr.path 8)) 1 .sc (Tr.setP (Tr.path 8) (.ptr (some ⟨.run H.next, 0⟩)) .e) H1, some (.int .i64 m))] := ⟨_, rfl⟩
  have hq : ∀ p ∈ q, p.1 = p.2 := by
    rw [hqd]
    intro p hp
    simp only [List.mem_cons, List.not_mem_nil, or_false] at hp
    rcases hp with rfl | rfl
    · simp only [m1, sy, tup, ↓reduceIte, Nat.reduceEqDiff, Nat.reduceAdd, Nat.reduceSub, Nat.reduceMul, Nat.reduceLeDiff, Int.reduceBEq, reduceCtorEq]
    · simp only [m1, sy, tup, ↓reduceIte, Nat.reduceEqDiff, Nat.reduceAdd, Nat.reduceSub, Nat.reduceMul, Nat.reduceLeDiff, Int.reduceBEq, reduceCtorEq]
  obtain ⟨q2, hqd2⟩ : ∃ q : List (Option V × Option V), q = [(loadF (.t (Tr.path 8)) 1 .sc (Tr.setP (Tr.path 8) (.ptr (some ⟨.run H.next, 0⟩)) .e) H1, some (.int .i64 m)), (loadF (.t (Tr.path 8)) 1 .sc (Tr.setP (Tr.path 8) (.ptr (some ⟨.run H.next, 0⟩)) .e) H1, some (.int .i64 m)), (loadF (.t (Tr.path 17)) 1 .sc (Tr.setP (Tr.path 17) (.ptr (some ⟨.run H.next, 2⟩)) .e) H1, some (.int .i64 r)), (loadF (.t (Tr.path 17)) 1 .sc (Tr.setP (Tr.path 17) (.ptr (some ⟨.run H.next, 2⟩)) .e) H1, some (.int .i64 r))] := ⟨_, rfl⟩
  have hq2 : ∀ p ∈ q2, p.1 = p.2 := by
    rw [hqd2]
    intro p hp
    simp only [List.mem_cons, List.not_mem_nil, or_false] at hp
    rcases hp with rfl | rfl | rfl | rfl
    · simp only [m1, sy, tup, ↓reduceIte, Nat.reduceEqDiff, Nat.reduceAdd, Nat.reduceSub, Nat.reduceMul, Nat.reduceLeDiff, Int.reduceBEq, reduceCtorEq]
    · simp only [m1, sy, tup, ↓reduceIte, Nat.reduceEqDiff, Nat.reduceAdd, Nat.reduceSub, Nat.reduceMul, Nat.reduceLeDiff, Int.reduceBEq, reduceCtorEq]
    · simp only [r1, sy, tup, ↓reduceIte, Nat.reduceEqDiff, Nat.reduceAdd, Nat.reduceSub, Nat.reduceMul, Nat.reduceLeDiff, Int.reduceBEq, reduceCtorEq]
    · simp only [r1, sy, tup, ↓reduceIte, Nat.reduceEqDiff, Nat.reduceAdd, Nat.reduceSub, Nat.reduceMul, Nat.reduceLeDiff, Int.reduceBEq, reduceCtorEq]
  refine ret_call rfl c109_eq ?_
  by_cases hN : (N : Int) = m + 1
  · have bN : ((N : Int) == m + 1) = true := by simpa using hN
    by_cases hR : sec m < r + 10
    · simp only [c109, geo, hH1, d1, m1, r1, s1, wm, wr, bN, hR, sy, tup, ↓reduceIte, Nat.reduceEqDiff, Nat.reduceAdd, Nat.reduceSub, Nat.reduceMul, Nat.reduceLeDiff, Int.reduceBEq, reduceCtorEq]
      rw [endD_q (q := q2) (by kernel_rfl) (by rw [hqd2]; kernel_rfl)]
      simp only [sy, tup, ↓reduceIte, Nat.reduceEqDiff, Nat.reduceAdd, Nat.reduceSub, Nat.reduceMul, Nat.reduceLeDiff, Int.reduceBEq, reduceCtorEq]
      exact ⟨trivial, .inr trivial, _, rfl, t1.trans ((Turns.refl Z H1).owe hq2), false, rfl, by unfold fits; simp; omega⟩
    · have tq := (Turns.refl Z H1).owe hq2
      have m3 := (hr tq).m
      simp only [c109, geo, hH1, d1, m1, r1, s1, wm, wr, bN, hR, sy, tup, ↓reduceIte, Nat.reduceEqDiff, Nat.reduceAdd, Nat.reduceSub, Nat.reduceMul, Nat.reduceLeDiff, Int.reduceBEq, reduceCtorEq]
      rw [endD_q (q := q2) (by kernel_rfl) (by rw [hqd2]; kernel_rfl)]
      simp only [m3, sy, tup, ↓reduceIte, Nat.reduceEqDiff, Nat.reduceAdd, Nat.reduceSub, Nat.reduceMul, Nat.reduceLeDiff, Int.reduceBEq, reduceCtorEq]
      have hloop : ∀ t : T, t.getP (Tr.path 0) = some (.ptr (some ⟨b, 0⟩)) → t.getP (Tr.path 3) = some (.ptr (some ⟨.run H.next, 0⟩)) → t.getP (Tr.path 23) = some (.int .i64 m) → t.getP (Tr.path 24) = some (.int .i64 0) →
          wp (loopF (runC (callS Tryz.prog S0 lf (k + 3)) lf c109_l0) lf ⟨t, H1.owe q2, []⟩) fun x s' => s'.d = [] ∧ Turns Z H1 s'.H ∧ ((x = .ex 0 ∧ (∀ d, 0 ≤ d ∧ d < m → s + 2 ≤ sec d)) ∨ (x = .ret ∧ ¬ (∀ d, 0 ≤ d ∧ d < m → s + 2 ≤ sec d) ∧ s'.t.getP (Tr.path 4) = some (.bool false))) := by
        intro t q0 q3 q23 q24
        refine wp_loopF (fun j s' => ∃ i : Nat, (j : Int) = m - i ∧ (i : Int) ≤ m ∧ s'.d = [] ∧ Turns Z H1 s'.H ∧ (∀ d, 0 ≤ d ∧ d < (i : Int) → s + 2 ≤ sec d) ∧ s'.t.getP (Tr.path 0) = some (.ptr (some ⟨b, 0⟩)) ∧ s'.t.getP (Tr.path 3) = some (.ptr (some ⟨.run H.next, 0⟩)) ∧ s'.t.getP (Tr.path 23) = some (.int .i64 m) ∧ s'.t.getP (Tr.path 24) = some (.int .i64 (i : Int))) ?_ lf m.toNat _ ⟨0, by omega, by omega, rfl, tq, fun d hd => absurd hd (by omega), q0, q3, q23, q24⟩ (by omega)
        rintro j ⟨t, HH, dd⟩ ⟨i, hj, hi, hdd, tz, hall, q0, q3, q23, q24⟩
        dsimp only at hdd tz q0 q3 q23 q24
        subst hdd
        by_cases hlt : (i : Int) < m
        · have eS := hs HH (i : Int) (t1.trans tz)
          have ls := (hr tz).s
          have ws : IntKind.i64.wrap (2 + s) = s + 2 := by rw [wrap_i64 (by omega)]; omega
          have w1 : IntKind.i64.wrap ((i : Int) + 1) = ((i + 1 : Nat) : Int) := by rw [wrap_i64 (by omega)]; omega
          obtain ⟨q', hqd'⟩ : ∃ q' : List (Option V × Option V), q' = [(loadF (.t (Tr.path 30)) 1 .sc (Tr.setP (Tr.path 30) (.ptr (some ⟨.run H.next, 1⟩)) .e) HH, some (.int .i64 s)), (loadF (.t (Tr.path 30)) 1 .sc (Tr.setP (Tr.path 30) (.ptr (some ⟨.run H.next, 1⟩)) .e) HH, some (.int .i64 s))] := ⟨_, rfl⟩
          have hq' : ∀ p ∈ q', p.1 = p.2 := by
            rw [hqd']
            intro p hp
            simp only [List.mem_cons, List.not_mem_nil, or_false] at hp
            rcases hp with rfl | rfl
            · simp only [ls, sy, tup, ↓reduceIte, Nat.reduceEqDiff, Nat.reduceAdd, Nat.reduceSub, Nat.reduceMul, Nat.reduceLeDiff, Int.reduceBEq, reduceCtorEq]
            · simp only [ls, sy, tup, ↓reduceIte, Nat.reduceEqDiff, Nat.reduceAdd, Nat.reduceSub, Nat.reduceMul, Nat.reduceLeDiff, Int.reduceBEq, reduceCtorEq]
          have tz' : Turns Z H1 (HH.owe q') := tz.owe hq'
          by_cases hsec : sec (i : Int) < s + 2
          · simp only [c109_l0, q0, q3, q23, q24, hlt, eS, ls, ws, hsec, sy, tup, ↓reduceIte, Nat.reduceEqDiff, Nat.reduceAdd, Nat.reduceSub, Nat.reduceMul, Nat.reduceLeDiff, Int.reduceBEq, reduceCtorEq]
            rw [endD_q (q := q') (by kernel_rfl) (by rw [hqd']; kernel_rfl)]
            simp only [sy, tup, ↓reduceIte, Nat.reduceEqDiff, Nat.reduceAdd, Nat.reduceSub, Nat.reduceMul, Nat.reduceLeDiff, Int.reduceBEq, reduceCtorEq]
            exact ⟨trivial, tz', .inr ⟨trivial, fun h => by have := h (i : Int) (by omega); omega, trivial⟩⟩
          · simp only [c109_l0, q0, q3, q23, q24, hlt, eS, ls, ws, hsec, sy, tup, ↓reduceIte, Nat.reduceEqDiff, Nat.reduceAdd, Nat.reduceSub, Nat.reduceMul, Nat.reduceLeDiff, Int.reduceBEq, reduceCtorEq]
            rw [endD_q (q := q') (by kernel_rfl) (by rw [hqd']; kernel_rfl)]
            simp only [q0, q3, q23, q24, w1, sy, tup, ↓reduceIte, Nat.reduceEqDiff, Nat.reduceAdd, Nat.reduceSub, Nat.reduceMul, Nat.reduceLeDiff, Int.reduceBEq, reduceCtorEq]
            refine ⟨j - 1, by omega, i + 1, by omega, by omega, trivial, tz', fun d hd => ?_, by simp [q0], by simp [q3], by simp [q23], by simp⟩
            by_cases e : d = (i : Int)
            · subst e; omega
            · exact hall d (by omega)
        · have hnl : ¬ (i : Int) < m := hlt
          have : (i : Int) = m := by omega
          simp only [c109_l0, q0, q3, q23, q24, hnl, sy, tup, ↓reduceIte, Nat.reduceEqDiff, Nat.reduceAdd, Nat.reduceSub, Nat.reduceMul, Nat.reduceLeDiff, Int.reduceBEq, reduceCtorEq]
          exact ⟨trivial, tz, .inl ⟨trivial, fun d hd => hall d (by omega)⟩⟩
      refine wp_ctx (F := fun r => seqC _ _ _ (blockC _ r)) (hloop _ ?_ ?_ ?_ ?_) ?_
      · simp only [sy, tup, ↓reduceIte, Nat.reduceEqDiff, Nat.reduceAdd, Nat.reduceSub, Nat.reduceMul, Nat.reduceLeDiff, Int.reduceBEq, reduceCtorEq]
      · simp only [sy, tup, ↓reduceIte, Nat.reduceEqDiff, Nat.reduceAdd, Nat.reduceSub, Nat.reduceMul, Nat.reduceLeDiff, Int.reduceBEq, reduceCtorEq]
      · simp only [sy, tup, ↓reduceIte, Nat.reduceEqDiff, Nat.reduceAdd, Nat.reduceSub, Nat.reduceMul, Nat.reduceLeDiff, Int.reduceBEq, reduceCtorEq]
      · simp only [sy, tup, ↓reduceIte, Nat.reduceEqDiff, Nat.reduceAdd, Nat.reduceSub, Nat.reduceMul, Nat.reduceLeDiff, Int.reduceBEq, reduceCtorEq]
      rintro x ⟨t, HH, dd⟩ ⟨hdd, tz, ⟨rfl, hall⟩ | ⟨rfl, hno, q4⟩⟩
      · dsimp only at hdd tz
        subst hdd
        simp only [sy, tup, ↓reduceIte, Nat.reduceEqDiff, Nat.reduceAdd, Nat.reduceSub, Nat.reduceMul, Nat.reduceLeDiff, Int.reduceBEq, reduceCtorEq]
        exact ⟨trivial, .inr trivial, _, rfl, t1.trans tz, true, rfl, by unfold fits; simp; exact ⟨hN, by omega, fun d h1 h2 => hall d ⟨h1, h2⟩⟩⟩
      · dsimp only at hdd tz q4
        subst hdd
        simp only [q4, sy, tup, ↓reduceIte, Nat.reduceEqDiff, Nat.reduceAdd, Nat.reduceSub, Nat.reduceMul, Nat.reduceLeDiff, Int.reduceBEq, reduceCtorEq]
        exact ⟨trivial, .inr trivial, _, rfl, t1.trans tz, false, rfl, by unfold fits; simp; exact fun _ _ => by simpa using hno⟩
  · have bN : ((N : Int) == m + 1) = false := by simpa using hN
    simp only [c109, geo, hH1, d1, m1, wm, bN, sy, tup, ↓reduceIte, Nat.reduceEqDiff, Nat.reduceAdd, Nat.reduceSub, Nat.reduceMul, Nat.reduceLeDiff, Int.reduceBEq, reduceCtorEq]
    rw [endD_q (q := q) (by kernel_rfl) (by rw [hqd]; kernel_rfl)]
    simp only [sy, tup, ↓reduceIte, Nat.reduceEqDiff, Nat.reduceAdd, Nat.reduceSub, Nat.reduceMul, Nat.reduceLeDiff, Int.reduceBEq, reduceCtorEq]
    exact ⟨trivial, .inr trivial, _, rfl, t1.trans ((Turns.refl Z H1).owe hq), false, rfl, by unfold fits; simp [hN]⟩
end Go.Proofs.YtejgheoandfikaaGreat.draft
set_option linter.unusedVariables false
set_option linter.unusedSimpArgs false
set_option maxRecDepth 10000
namespace Go.Proofs.YtejgheoandfikaaGreat.disk
open Go.Am
theorem bdevs {H : Heap} {b ds : Bk} {so : Nat} {l : List Dv} {B : Bn} (h : BRep H b ds so l B) (hl : l ≠ []) (lf m : Nat) : callS Tryz.prog S0 lf (m + 2) 106 [.ptr (some ⟨b, 0⟩)] H = some (.v (.int .i64 (l.length : Int)), H) := by
  have e1 := bnone h.at' hl lf m
  have l0 := bload0 h.at'
  obtain ⟨v, H', e, rfl, rfl⟩ : ret (callS Tryz.prog S0 lf (m + 2) 106 [.ptr (some ⟨b, 0⟩)] H) fun v H' => v = .int .i64 (l.length : Int) ∧ H' = H := by
    refine ret_call rfl c106_eq ?_
    simp only [c106, e1, l0, sy, tup, ↓reduceIte, Nat.reduceEqDiff, Nat.reduceAdd, Nat.reduceSub, Nat.reduceMul, Nat.reduceLeDiff, Int.reduceBEq, reduceCtorEq]
    exact ⟨trivial, .inr trivial, _, rfl, rfl, trivial⟩
  exact e
end Go.Proofs.YtejgheoandfikaaGreat.disk
namespace Go.Proofs.YtejgheoandfikaaGreat.draft
open Go.Am
noncomputable def c37 : CFn := ⟨[.tmp (pp 4), .cell (pp 5) 23 .ag, .tmp (pp 6)],
 .seq (.reg [
 qo 4 (.p (S.get (.c (.int .u64 0)))) [],
 qo 5 (.m (allocF 23 [.int .u64 0, .int .i64 0, .int .i64 0, .int .i64 0, .int .i64 0, .int .u8 0, .int .u8 0, .int .u8 0, .int .u8 0, .int .u8 0, .int .u8 0, .int .u8 0, .int .u8 0, .int .u8 0, .int .u8 0, .int .u8 0, .int .u8 0, .int .u8 0, .int .u8 0, .int .u8 0, .int .u8 0, .int .i64 0, .bool false])) [],
 qo 6 (.p (S.get (ii 0))) []]) (
 .seq (.block 0 (.seq (.reg [
 mv 14 0,
 qo 15 (.c (callF (ff 106) [(tt 14)])) [pp 14],
 qo 16 (.p (eqcF false false [.int .i64] (tt 15) (ii 0))) [pp 15],
 mv 13 16]) (
 .cond (tt 13) (.seq (.reg [
 qo 17 (.p (buildF [.int .u64 0, .int .i64 0, .int .i64 0, .int .i64 0, .int .i64 0, .int .u8 0, .int .u8 0, .int .u8 0, .int .u8 0, .int .u8 0, .int .u8 0, .int .u8 0, .int .u8 0, .int .u8 0, .int .u8 0, .int .u8 0, .int .u8 0, .int .u8 0, .int .u8 0, .int .u8 0, .int .u8 0, .int .i64 0, .bool false] .ag [])) [],
 qo 4 (.p (S.get (.c (.int .u64 0)))) [],
 qn (.a (storeF (tt 5) (tt 17) 23)) [pp 5, pp 17],
 qo 6 (.p (S.get (ii 1))) []]) (
 .ret)) (.seq (.reg [
 mv 19 0,
 qo 20 (.c (callF (ff 107) [(tt 19)])) [pp 19],
 mv 18 20]) (
 .cond (tt 18) (.seq (.reg [
 qo 21 (.p (buildF [.int .u64 0, .int .i64 0, .int .i64 0, .int .i64 0, .int .i64 0, .int .u8 0, .int .u8 0, .int .u8 0, .int .u8 0, .int .u8 0, .int .u8 0, .int .u8 0, .int .u8 0, .int .u8 0, .int .u8 0, .int .u8 0, .int .u8 0, .int .u8 0, .int .u8 0, .int .u8 0, .int .u8 0, .int .i64 0, .bool false] .ag [])) [],
 qo 4 (.p (S.get (.c (.int .u64 0)))) [],
 qn (.a (storeF (tt 5) (tt 21) 23)) [pp 5, pp 21],
 qo 6 (.p (S.get (ii 8))) []]) (
 .ret)) (.seq (.reg [
 mv 23 1,
 qo 24 (.p (arF .lss (tt 23) (ii 0))) [pp 23],
 mv 25 24,
 mg 26 1 25 false,
 mg 27 0 25 false,
 qg 28 (.c (callF (ff 106) [(tt 27)])) 25 false [pp 27],
 qg 29 (.p (arF .sub (tt 28) (ii 1))) 25 false [pp 28],
 qg 30 (.p (arF .geq (tt 26) (tt 29))) 25 false [pp 26, pp 29],
 qo 31 (.p (pickF (tt 25) (.c (.bool true)) (tt 30))) [pp 25, pp 30],
 mv 22 31]) (
 .cond (tt 22) (.seq (.reg [
 qo 32 (.p (buildF [.int .u64 0, .int .i64 0, .int .i64 0, .int .i64 0, .int .i64 0, .int .u8 0, .int .u8 0, .int .u8 0, .int .u8 0, .int .u8 0, .int .u8 0, .int .u8 0, .int .u8 0, .int .u8 0, .int .u8 0, .int .u8 0, .int .u8 0, .int .u8 0, .int .u8 0, .int .u8 0, .int .u8 0, .int .i64 0, .bool false] .ag [])) [],
 qo 4 (.p (S.get (.c (.int .u64 0)))) [],
 qn (.a (storeF (tt 5) (tt 32) 23)) [pp 5, pp 32],
 qo 6 (.p (S.get (ii 7))) []]) (
 .ret)) (.skip)))))))) (
 .seq (.reg [
 mv 34 0,
 mv 35 1,
 qo 36 (.c (callF (ff 91) [(tt 34), (tt 35), (ii 0)])) [pp 34, pp 35],
 mv 33 36,
 qo 37 (.p (extF (tt 33) 0)) [pp 33],
 qo 38 (.p (extF (tt 33) 1)) [pp 33],
 qo 7 (.m (allocF 64 [.blk 0])) [],
 qn (.a (storeF (tt 7) (tt 37) 64)) [pp 7, pp 37],
 mv 8 38]) (
 .seq (.reg [
 mv 40 0,
 mv 41 1,
 qo 42 (.c (callF (ff 91) [(tt 40), (tt 41), (ii 1)])) [pp 40, pp 41],
 mv 39 42,
 qo 43 (.p (extF (tt 39) 0)) [pp 39],
 qo 44 (.p (extF (tt 39) 1)) [pp 39],
 qo 9 (.m (allocF 64 [.blk 0])) [],
 qn (.a (storeF (tt 9) (tt 43) 64)) [pp 9, pp 43],
 mv 10 44]) (
 .seq (.seq (.reg [
 mv 45 8,
 qo 46 (.p (eqcF true false [.int .i64] (tt 45) (ii 0))) [pp 45],
 mv 47 46,
 mg 48 10 47 false,
 qg 49 (.p (eqcF true false [.int .i64] (tt 48) (ii 0))) 47 false [pp 48],
 qo 50 (.p (pickF (tt 47) (.c (.bool true)) (tt 49))) [pp 47, pp 49]]) (
 .cond (tt 50) (.seq (.reg [
 qo 51 (.p (buildF [.int .u64 0, .int .i64 0, .int .i64 0, .int .i64 0, .int .i64 0, .int .u8 0, .int .u8 0, .int .u8 0, .int .u8 0, .int .u8 0, .int .u8 0, .int .u8 0, .int .u8 0, .int .u8 0, .int .u8 0, .int .u8 0, .int .u8 0, .int .u8 0, .int .u8 0, .int .u8 0, .int .u8 0, .int .i64 0, .bool false] .ag [])) [],
 qo 4 (.p (S.get (.c (.int .u64 0)))) [],
 qn (.a (storeF (tt 5) (tt 51) 23)) [pp 5, pp 51],
 qo 6 (.p (S.get (ii 7))) []]) (
 .ret)) (.skip))) (
 .seq (.reg [
 qo 53 (.r (loadF (tt 7) 64 .bk)) [pp 7],
 qo 54 (.r (loadF (tt 9) 64 .bk)) [pp 9],
 qo 55 (.c (callF (ff 108) [(tt 53), (tt 54)])) [pp 53, pp 54],
 mv 52 55,
 qo 56 (.p (extF (tt 52) 0)) [pp 52],
 qo 57 (.p (extF (tt 52) 1)) [pp 52],
 qo 58 (.p (extF (tt 52) 2)) [pp 52],
 qo 12 (.m (allocF 23 [.int .u64 0, .int .i64 0, .int .i64 0, .int .i64 0, .int .i64 0, .int .u8 0, .int .u8 0, .int .u8 0, .int .u8 0, .int .u8 0, .int .u8 0, .int .u8 0, .int .u8 0, .int .u8 0, .int .u8 0, .int .u8 0, .int .u8 0, .int .u8 0, .int .u8 0, .int .u8 0, .int .u8 0, .int .i64 0, .bool false])) [],
 mv 11 56,
 qn (.a (storeF (tt 12) (tt 57) 23)) [pp 12, pp 57],
 mv 8 58]) (
 .seq (.seq (.reg [
 mv 59 8,
 qo 60 (.p (eqcF true false [.int .i64] (tt 59) (ii 0))) [pp 59],
 mv 61 60,
 mg 62 11 61 false,
 qg 63 (.p (arF .gtr (tt 62) (.c (.int .u64 2305843009213693952)))) 61 false [pp 62],
 qo 64 (.p (pickF (tt 61) (.c (.bool true)) (tt 63))) [pp 61, pp 63],
 mv 65 64,
 mg 66 0 65 false,
 qg 67 (.p (faddrF (tt 12) 2)) 65 false [pp 12],
 qg 68 (.p (faddrF (tt 67) 0)) 65 false [pp 67],
 qg 69 (.r (loadF (tt 68) 3 .ag)) 65 false [pp 68],
 qg 70 (.c (callF (ff 109) [(tt 66), (tt 69)])) 65 false [pp 66, pp 69],
 qg 71 (.p (unF .not (tt 70))) 65 false [pp 70],
 qo 72 (.p (pickF (tt 65) (.c (.bool true)) (tt 71))) [pp 65, pp 71]]) (
 .cond (tt 72) (.seq (.reg [
 qo 73 (.p (buildF [.int .u64 0, .int .i64 0, .int .i64 0, .int .i64 0, .int .i64 0, .int .u8 0, .int .u8 0, .int .u8 0, .int .u8 0, .int .u8 0, .int .u8 0, .int .u8 0, .int .u8 0, .int .u8 0, .int .u8 0, .int .u8 0, .int .u8 0, .int .u8 0, .int .u8 0, .int .u8 0, .int .u8 0, .int .i64 0, .bool false] .ag [])) [],
 qo 4 (.p (S.get (.c (.int .u64 0)))) [],
 qn (.a (storeF (tt 5) (tt 73) 23)) [pp 5, pp 73],
 qo 6 (.p (S.get (ii 7))) []]) (
 .ret)) (.skip))) (
 .seq (.regD [
 mv 74 11,
 qo 75 (.r (loadF (tt 12) 23 .ag)) [pp 12],
 mv 4 74,
 qn (.a (storeF (tt 5) (tt 75) 23)) [pp 5, pp 75],
 qo 6 (.p (S.get (ii 0))) []] [0, 0, 1, 7, 15]) (
 .ret))))))))⟩
theorem c37_eq : fnOf Tryz.prog 37 = some c37 := by kernel_rfl
theorem bench_devs {H : Heap} {b ds : Bk} {so : Nat} {l : List disk.Dv} {B : disk.Bn} (h : disk.BRep H b ds so l B) (hl : l ≠ []) (lf m : Nat) : callS Tryz.prog S0 lf (m + 2) 106 [.ptr (some ⟨b, 0⟩)] H = some (.v (.int .i64 (l.length : Int)), H) := disk.bdevs h hl lf m
def fitsC (N : Nat) (sec : Int → Int) (C : Nat) : Prop := fits N sec (fld C 8 1) (fld C 9 2) (fld C 11 2)
open Classical in
noncomputable def gC (B : disk.Bn) (N : Nat) (d : Int) : Option Nat :=
  if d < 0 ∨ (N : Int) - 1 ≤ d then none else if B.rc d 0 ≠ 0 ∨ B.rc d 1 ≠ 0 then none else match newC (B.read d 0) (B.read d 1) with
    | none => none
    | some C => if sealN C ≤ 2305843009213693952 ∧ fitsC N B.sectors C then some C else none
theorem gC_ok {B : disk.Bn} {N : Nat} {d : Int} {C : Nat} (h : gC B N d = some C) : getE C = 0 ∧ sealN C ≤ 2305843009213693952 ∧ fitsC N B.sectors C ∧ 0 ≤ d ∧ d < (N : Int) - 1 := by
  unfold gC at h
  split at h
  · cases h
  · rename_i hd
    split at h
    · cases h
    · split at h
      · cases h
      · rename_i C' hC
        split at h
        · rename_i hf
          cases h
          exact ⟨(newC_ok hC).1, hf.1, hf.2, by omega, by omega⟩
        · cases h
theorem isSup_of {C : Nat} (h : getE C = 0) : sealE C = 0 ∧ isSup C := by
  unfold getE at h
  by_cases h1 : sealE C ≠ 0
  · rw [if_pos h1] at h; exact absurd h h1
  · rw [if_neg h1] at h
    refine ⟨by simpa using h1, ?_⟩
    apply Classical.byContradiction
    intro h2
    rw [if_neg h2] at h
    cases h
theorem gSup_row (C : Nat) : gSup C = .agg (scells (fld C 0 8) (fld C 13 1) (fld C 8 1) (fld C 9 2) (fld C 11 2) (gSt C) (fld C 18 2) (((fld C 20 1 : Nat) : Int) == 1)) := rfl
theorem gsuper_ok {H : Heap} {b ds : Bk} {so : Nat} {l : List disk.Dv} {B : disk.Bn} (h : disk.BRep H b ds so l B) (hl : l ≠ []) (hg : ∀ D ∈ B.l, disk.Good D) (hdk : B.dk = false) (hlen : l.length ≤ 17) (d : Int) {lf : Nat} (hlf : 1000 < lf) (n : Nat) :
    ret (callS Tryz.prog S0 lf (n + 8) 37 [.ptr (some ⟨b, 0⟩), .int .i64 d] H) fun v H' => Turns Z H H' ∧
      ((gC B l.length d = none ∧ v = .tuple [.int .u64 0, .agg zrow, .int .i64 7]) ∨ ∃ C, gC B l.length d = some C ∧ v = .tuple [.int .u64 ((sealN C : Nat) : Int), gSup C, .int .i64 0]) := by
  have hzr : zrow = [.int .u64 0, .int .i64 0, .int .i64 0, .int .i64 0, .int .i64 0, .int .u8 0, .int .u8 0, .int .u8 0, .int .u8 0, .int .u8 0, .int .u8 0, .int .u8 0, .int .u8 0, .int .u8 0, .int .u8 0, .int .u8 0, .int .u8 0, .int .u8 0, .int .u8 0, .int .u8 0, .int .u8 0, .int .i64 0, .bool false] := rfl
  have t1 := Turns.add Z H (.rows false 23 [zrow])
  have hg1 : (H.add (.rows false 23 [zrow])).get (.run H.next) = some (.rows false 23 [zrow]) := by rw [Heap.get_add, if_pos rfl]
  have hn1 : (H.add (.rows false 23 [zrow])).next = H.next + 1 := by simp
  obtain ⟨H1, hH1⟩ : ∃ K, H.add (.rows false 23 [zrow]) = K := ⟨_, rfl⟩
  rw [hH1] at t1 hg1 hn1
  have old : ∀ {H' : Heap}, Turns Z H1 H' → H'.get (.run H.next) = some (.rows false 23 [zrow]) := fun t => (t.same (.run H.next) (by show _ < _; omega) id).trans hg1
  have sto : ∀ {H' : Heap}, Turns Z H1 H' → ∀ {row : List V}, SRow row → ∃ H'', storeAt H' ⟨.run H.next, 0⟩ row = some H'' ∧ loadAt H'' ⟨.run H.next, 0⟩ 23 = some row ∧ Turns Z H H'' := fun {H'} t {row} R => by
    refine ⟨_, storeAt_eq (old t) (r := zrow) (r' := row) rfl R.put, ?_, (t1.trans t).setnew (Nat.le_refl _) _⟩
    rw [loadAt_eq (b := .run H.next) (r := row) (by rw [Heap.get_set, if_pos rfl]) rfl, cut_thin R.thin (by have := R.len; omega)]
    simp [← R.len]
  have hN : 1 ≤ l.length := by cases l with
    | nil => exact absurd rfl hl
    | cons x xs => simp
  have e1 : callS Tryz.prog S0 lf (n + 7) 106 [.ptr (some ⟨b, 0⟩)] H1 = _ := bench_devs (h.turns t1) hl lf (n + 5)
  have e2 : callS Tryz.prog S0 lf (n + 7) 107 [.ptr (some ⟨b, 0⟩)] H1 = some (.v (.bool false), H1) := by rw [← hdk]; exact disk.bdark (h.turns t1).at' hl lf (n + 5)
  have b0 : ((l.length : Int) == 0) = false := by simp; exact hl
  have w1 : IntKind.i64.wrap ((l.length : Int) - 1) = (l.length : Int) - 1 := wrap_i64 (by omega)
  obtain ⟨F1, sf1, lf1, tf1⟩ := sto (Turns.refl Z H1) SRow.z
  have wz := SRow.z.width
  have hzH := hH1
  rw [hzr] at hzH
  have sf1' := sf1
  have lf1' := lf1
  have wz' := wz
  rw [hzr] at sf1' lf1' wz'
  refine ret_call rfl c37_eq ?_
  by_cases hd0 : d < 0
  · simp only [c37, hzH, e1, e2, b0, hd0, sf1', lf1', wz', sy, tup, ↓reduceIte, Nat.reduceEqDiff, Nat.reduceAdd, Nat.reduceSub, Nat.reduceMul, Nat.reduceLeDiff, Int.reduceBEq, reduceCtorEq]
    exact ⟨trivial, .inr trivial, _, rfl, tf1, .inl ⟨by unfold gC; rw [if_pos (.inl hd0)], rfl⟩⟩
  by_cases hd1 : (l.length : Int) - 1 ≤ d
  · simp only [c37, hzH, e1, e2, b0, hd0, w1, hd1, sf1', lf1', wz', sy, tup, ↓reduceIte, Nat.reduceEqDiff, Nat.reduceAdd, Nat.reduceSub, Nat.reduceMul, Nat.reduceLeDiff, Int.reduceBEq, reduceCtorEq]
    exact ⟨trivial, .inr trivial, _, rfl, tf1, .inl ⟨by unfold gC; rw [if_pos (.inr hd1)], rfl⟩⟩
  obtain ⟨v2, H2, e3, rfl, t2⟩ := disk.bread_all (h.turns t1) hl hg d 0 hlf (n + 3)
  change callS Tryz.prog S0 lf (n + 7) 91 _ _ = _ at e3
  have u3 : Turns Z H2 ((H2.add (.rows false 64 [[.blk 0]])).set (.run H2.next) (.rows false 64 [[.blk (B.read d 0)]])) := (Turns.add Z H2 _).setnew (Nat.le_refl _) _
  have g3 : ((H2.add (.rows false 64 [[.blk 0]])).set (.run H2.next) (.rows false 64 [[.blk (B.read d 0)]])).get (.run H2.next) = some (.rows false 64 [[.blk (B.read d 0)]]) := by rw [Heap.get_set, if_pos rfl]
  have n3 : ((H2.add (.rows false 64 [[.blk 0]])).set (.run H2.next) (.rows false 64 [[.blk (B.read d 0)]])).next = H2.next + 1 := by simp
  obtain ⟨H3, hH3⟩ : ∃ K, (H2.add (.rows false 64 [[.blk 0]])).set (.run H2.next) (.rows false 64 [[.blk (B.read d 0)]]) = K := ⟨_, rfl⟩
  rw [hH3] at u3 g3 n3
  have t3 := t2.trans u3
  obtain ⟨v4, H4, e4, rfl, t4⟩ := disk.bread_all (h.turns (t1.trans t3)) hl hg d 1 hlf (n + 3)
  change callS Tryz.prog S0 lf (n + 7) 91 _ _ = _ at e4
  have u5 : Turns Z H4 ((H4.add (.rows false 64 [[.blk 0]])).set (.run H4.next) (.rows false 64 [[.blk (B.read d 1)]])) := (Turns.add Z H4 _).setnew (Nat.le_refl _) _
  have g5 : ((H4.add (.rows false 64 [[.blk 0]])).set (.run H4.next) (.rows false 64 [[.blk (B.read d 1)]])).get (.run H4.next) = some (.rows false 64 [[.blk (B.read d 1)]]) := by rw [Heap.get_set, if_pos rfl]
  obtain ⟨H5, hH5⟩ : ∃ K, (H4.add (.rows false 64 [[.blk 0]])).set (.run H4.next) (.rows false 64 [[.blk (B.read d 1)]]) = K := ⟨_, rfl⟩
  rw [hH5] at u5 g5
  have t5 := (t3.trans t4).trans u5
  have g35 := ((t4.trans u5).same (.run H2.next) (by show _ < _; omega) id).trans g3
  have la : loadAt H5 ⟨.run H2.next, 0⟩ 64 = some [.blk (B.read d 0)] := by rw [loadAt_eq g35 rfl]; exact Dy _ _
  have lb : loadAt H5 ⟨.run H4.next, 0⟩ 64 = some [.blk (B.read d 1)] := by rw [loadAt_eq g5 rfl]; exact Dy _ _
  obtain ⟨F2, sf2, lf2, tf2⟩ := sto t5 SRow.z
  rw [hzr] at sf2 lf2
  have hgd : gC B l.length d = if B.rc d 0 ≠ 0 ∨ B.rc d 1 ≠ 0 then none else match newC (B.read d 0) (B.read d 1) with
    | none => none
    | some C => (by classical exact if sealN C ≤ 2305843009213693952 ∧ fitsC l.length B.sectors C then some C else none) := by
    unfold gC; rw [if_neg (by omega)]
  by_cases hr0' : ¬ B.rc d 0 = 0
  · have hr0 : B.rc d 0 ≠ 0 := hr0'
    have z0 : (B.rc d 0 == 0) = false := by simpa using hr0
    simp only [c37, hzH, e1, e2, b0, hd0, w1, hd1, e3, hH3, e4, hH5, z0, sf2, lf2, wz', sy, tup, ↓reduceIte, Nat.reduceEqDiff, Nat.reduceAdd, Nat.reduceSub, Nat.reduceMul, Nat.reduceLeDiff, Int.reduceBEq, reduceCtorEq]
    exact ⟨trivial, .inr trivial, _, rfl, tf2, .inl ⟨by rw [hgd, if_pos (.inl hr0)], rfl⟩⟩
  have hr0 : B.rc d 0 = 0 := Classical.byContradiction hr0'
  have z0 : (B.rc d 0 == 0) = true := by simpa using hr0
  by_cases hr1' : ¬ B.rc d 1 = 0
  · have hr1 : B.rc d 1 ≠ 0 := hr1'
    have z1 : (B.rc d 1 == 0) = false := by simpa using hr1
    simp only [c37, hzH, e1, e2, b0, hd0, w1, hd1, e3, hH3, e4, hH5, z0, z1, sf2, lf2, wz', sy, tup, ↓reduceIte, Nat.reduceEqDiff, Nat.reduceAdd, Nat.reduceSub, Nat.reduceMul, Nat.reduceLeDiff, Int.reduceBEq, reduceCtorEq]
    exact ⟨trivial, .inr trivial, _, rfl, tf2, .inl ⟨by rw [hgd, if_pos (.inr hr1)], rfl⟩⟩
  have hr1 : B.rc d 1 = 0 := Classical.byContradiction hr1'
  have z1 : (B.rc d 1 == 0) = true := by simpa using hr1
  rw [if_neg (by simp [hr0, hr1])] at hgd
  obtain ⟨v6, H6, e6, t6, hv⟩ := newest2_ok H5 (B.read d 0) (B.read d 1) (lf := lf) (by omega) n
  rcases hv with ⟨hC, rfl⟩ | ⟨C, hC, rfl⟩
  · obtain ⟨K7, s7, _, t7, _⟩ := SRow.z.new H6
    obtain ⟨F3, sf3, lf3, tf3⟩ := sto ((t5.trans t6).trans t7) SRow.z
    rw [hzr] at sf3 lf3 s7
    rw [hzr] at e6 ⊢
    simp only [c37, hzH, e1, e2, b0, hd0, w1, hd1, e3, hH3, e4, hH5, z0, z1, la, lb, e6, s7, sf3, lf3, wz', sy, tup, ↓reduceIte, Nat.reduceEqDiff, Nat.reduceAdd, Nat.reduceSub, Nat.reduceMul, Nat.reduceLeDiff, Int.reduceBEq, reduceCtorEq]
    exact ⟨trivial, .inr trivial, _, rfl, tf3, .inl ⟨by rw [hgd, hC], rfl⟩⟩
  · have hE := (newC_ok hC).1
    obtain ⟨_, hS⟩ := isSup_of hE
    have hmay := hS.2.1.2.2.2.1
    obtain ⟨K7, s7, g7, t7, n7⟩ := (SRow.s (gSt_len C) (fld C 0 8) (fld C 13 1) (fld C 8 1) (fld C 9 2) (fld C 11 2) (fld C 18 2) (((fld C 20 1 : Nat) : Int) == 1)).new H6
    obtain ⟨H7, hH7⟩ : ∃ K, H6.add (.rows false 23 [zrow]) = K := ⟨_, rfl⟩
    rw [hH7] at s7
    rw [hzr] at hH7
    have S7 : SupAt K7 (.run H6.next) (fld C 0 8) (fld C 13 1) (fld C 8 1) (fld C 9 2) (fld C 11 2) (gSt C) (fld C 18 2) (((fld C 20 1 : Nat) : Int) == 1) := ⟨g7, gSt_len C⟩
    have lg : loadAt K7 ⟨.run H6.next, 2⟩ 3 = some [.int .i64 (fld C 8 1), .int .i64 (fld C 9 2), .int .i64 (fld C 11 2)] := by rw [sup_cut S7 (by omega) (by omega)]; rfl
    have wS := s_width (gSt_len C) (fld C 0 8) (fld C 13 1) (fld C 8 1) (fld C 9 2) (fld C 11 2) (fld C 18 2) (((fld C 20 1 : Nat) : Int) == 1)
    have hgd : gC B l.length d = (by classical exact if sealN C ≤ 2305843009213693952 ∧ fitsC l.length B.sectors C then some C else none) := by rw [hgd, hC]
    rw [gSup_row] at e6
    by_cases hbig : 2305843009213693952 < sealN C
    · have hbig' : (2305843009213693952 : Int) < ((sealN C : Nat) : Int) := by omega
      obtain ⟨F3, sf3, lf3, tf3⟩ := sto ((t5.trans t6).trans t7) SRow.z
      rw [hzr] at sf3 lf3
      simp only [c37, hzH, e1, e2, b0, hd0, w1, hd1, e3, hH3, e4, hH5, z0, z1, la, lb, e6, hH7, s7, wS, hbig', sf3, lf3, wz', sy, tup, ↓reduceIte, Nat.reduceEqDiff, Nat.reduceAdd, Nat.reduceSub, Nat.reduceMul, Nat.reduceLeDiff, Int.reduceBEq, reduceCtorEq]
      exact ⟨trivial, .inr trivial, _, rfl, tf3, .inl ⟨by rw [hgd, if_neg (by omega)], by rw [hzr]⟩⟩
    · have hbig' : ¬ (2305843009213693952 : Int) < ((sealN C : Nat) : Int) := by omega
      have T7 := t1.trans ((t5.trans t6).trans t7)
      obtain ⟨v8, H8, e8, t8, z, rfl, hz⟩ := gfits_ok K7 (b := b) hmay (N := l.length) (sec := B.sectors) lf (n + 3) (by omega)
        (fun H' t => bench_devs (h.turns (T7.trans t)) hl lf (n + 4)) (fun H' dd t => disk.bsectors_all (h.turns (T7.trans t)) hl hg dd lf (n + 3))
      change callS Tryz.prog S0 lf (n + 7) 109 _ _ = _ at e8
      unfold geo at e8
      cases z with
      | false =>
        obtain ⟨F3, sf3, lf3, tf3⟩ := sto (((t5.trans t6).trans t7).trans t8) SRow.z
        rw [hzr] at sf3 lf3
        simp only [c37, hzH, e1, e2, b0, hd0, w1, hd1, e3, hH3, e4, hH5, z0, z1, la, lb, e6, hH7, s7, wS, hbig', lg, e8, sf3, lf3, wz', sy, tup, ↓reduceIte, Nat.reduceEqDiff, Nat.reduceAdd, Nat.reduceSub, Nat.reduceMul, Nat.reduceLeDiff, Int.reduceBEq, reduceCtorEq]
        exact ⟨trivial, .inr trivial, _, rfl, tf3, .inl ⟨by rw [hgd, if_neg (fun hh => by have := hz.2 hh.2; cases this)], by rw [hzr]⟩⟩
      | true =>
        have S8 : SupAt H8 (.run H6.next) (fld C 0 8) (fld C 13 1) (fld C 8 1) (fld C 9 2) (fld C 11 2) (gSt C) (fld C 18 2) (((fld C 20 1 : Nat) : Int) == 1) := ⟨(t8.same (.run H6.next) (by show _ < _; omega) id).trans g7, gSt_len C⟩
        have ls := sup_all S8
        obtain ⟨F3, sf3, lf3, tf3⟩ := sto (((t5.trans t6).trans t7).trans t8) (SRow.s (gSt_len C) (fld C 0 8) (fld C 13 1) (fld C 8 1) (fld C 9 2) (fld C 11 2) (fld C 18 2) (((fld C 20 1 : Nat) : Int) == 1))
        simp only [c37, hzH, e1, e2, b0, hd0, w1, hd1, e3, hH3, e4, hH5, z0, z1, la, lb, e6, hH7, s7, wS, hbig', lg, e8, ls, sf3, lf3, sy, tup, ↓reduceIte, Nat.reduceEqDiff, Nat.reduceAdd, Nat.reduceSub, Nat.reduceMul, Nat.reduceLeDiff, Int.reduceBEq, reduceCtorEq]
        rw [endD_ok (by kernel_rfl) (by kernel_rfl)]
        simp only [ls, sf3, lf3, wS, sy, tup, ↓reduceIte, Nat.reduceEqDiff, Nat.reduceAdd, Nat.reduceSub, Nat.reduceMul, Nat.reduceLeDiff, Int.reduceBEq, reduceCtorEq]
        exact ⟨trivial, .inr trivial, _, rfl, tf3, .inr ⟨C, by rw [hgd, if_pos ⟨by omega, hz.1 rfl⟩], rfl⟩⟩
end Go.Proofs.YtejgheoandfikaaGreat.draft
set_option linter.unusedVariables false
set_option linter.unusedSimpArgs false
set_option maxRecDepth 10000
namespace Go.Proofs.YtejgheoandfikaaGreat.draft
open Go.Am
noncomputable def c113 : CFn := ⟨[.cell (pp 4) 21 .ag, .tmp (pp 5)],
 .seq (.reg [
 qo 2 (.m (boxF 21 (tt 0))) [pp 0],
 qo 4 (.m (allocF 21 [.int .i64 0, .int .i64 0, .int .i64 0, .int .u8 0, .int .u8 0, .int .u8 0, .int .u8 0, .int .u8 0, .int .u8 0, .int .u8 0, .int .u8 0, .int .u8 0, .int .u8 0, .int .u8 0, .int .u8 0, .int .u8 0, .int .u8 0, .int .u8 0, .int .u8 0, .int .i64 0, .bool false])) [],
 qo 5 (.p (S.get (.c (.bool false)))) []]) (
 .seq (.seq (.reg [
 qo 7 (.r (loadF (tt 2) 21 .ag)) [pp 2],
 mv 8 1,
 qo 9 (.c (callF (ff 167) [(tt 7), (tt 8)])) [pp 7, pp 8],
 qo 10 (.p (unF .not (tt 9))) [pp 9]]) (
 .cond (tt 10) (.seq (.reg [
 qo 11 (.r (loadF (tt 2) 21 .ag)) [pp 2],
 qn (.a (storeF (tt 4) (tt 11) 21)) [pp 4, pp 11],
 qo 5 (.p (S.get (.c (.bool false)))) []]) (
 .ret)) (.skip))) (
 .seq (.reg [
 mv 12 1,
 qo 13 (.p (faddrF (tt 2) 3)) [pp 2],
 qo 14 (.p (iaddrAF (tt 13) (tt 12) 16 1)) [pp 13, pp 12],
 qo 15 (.r (loadF (tt 14) 1 .sc)) [pp 14],
 mv 6 15]) (
 .seq (.seq (.reg [
 mv 16 6,
 qo 17 (.p (eqcF false false [.int .u8] (tt 16) (.c (.int .u8 2)))) [pp 16]]) (
 .cond (tt 17) (.reg [
 qo 18 (.p (faddrF (tt 2) 19)) [pp 2],
 qn (.a (storeF (tt 18) (ii 0) 1)) [pp 18]]) (.skip))) (
 .seq (.reg [
 mv 19 1,
 qo 20 (.p (faddrF (tt 2) 3)) [pp 2],
 qo 21 (.p (iaddrAF (tt 20) (tt 19) 16 1)) [pp 20, pp 19],
 qn (.a (storeF (tt 21) (.c (.int .u8 1)) 1)) [pp 21]]) (
 .seq (.reg [
 qo 22 (.r (loadF (tt 2) 21 .ag)) [pp 2],
 mv 23 6,
 qo 24 (.p (eqcF true false [.int .u8] (tt 23) (.c (.int .u8 1)))) [pp 23],
 qn (.a (storeF (tt 4) (tt 22) 21)) [pp 4, pp 22],
 mv 5 24]) (
 .ret))))))⟩
theorem c113_eq : fnOf Tryz.prog 113 = some c113 := by kernel_rfl
noncomputable def c167 : CFn := ⟨[.tmp (pp 4)],
 .seq (.reg [
 qo 2 (.m (boxF 21 (tt 0))) [pp 0],
 qo 4 (.p (S.get (.c (.bool false)))) []]) (
 .seq (.reg [
 qo 5 (.r (loadF (tt 2) 21 .ag)) [pp 2],
 qo 6 (.c (callF (ff 118) [(tt 5)])) [pp 5],
 mv 7 6,
 mg 8 1 7 true,
 qg 9 (.p (arF .geq (tt 8) (ii 0))) 7 true [pp 8],
 qo 10 (.p (pickF (tt 7) (tt 9) (.c (.bool false)))) [pp 7, pp 9],
 mv 11 10,
 mg 12 1 11 true,
 qg 13 (.p (faddrF (tt 2) 0)) 11 true [pp 2],
 qg 14 (.p (faddrF (tt 13) 0)) 11 true [pp 13],
 qg 15 (.r (loadF (tt 14) 1 .sc)) 11 true [pp 14],
 qg 16 (.p (arF .lss (tt 12) (tt 15))) 11 true [pp 12, pp 15],
 qo 17 (.p (pickF (tt 11) (tt 16) (.c (.bool false)))) [pp 11, pp 16],
 mv 4 17]) (
 .ret))⟩
theorem c167_eq : fnOf Tryz.prog 167 = some c167 := by kernel_rfl
def loseC (S : List Nat) (c : Int) (i : Nat) : Int := if S.getD i 0 = 2 then 0 else c
theorem cnt_set : ∀ (S : List Nat) (i : Nat), i < S.length → cnt (S.set i 1) 2 + (if S.getD i 0 = 2 then 1 else 0) = cnt S 2
  | y :: S, 0, _ => by
    show cnt (1 :: S) 2 + (if y = 2 then 1 else 0) = cnt (y :: S) 2
    rw [cnt_cons, cnt_cons, if_neg (by decide : ¬ (1 : Nat) = 2)]
    omega
  | y :: S, i + 1, h => by
    show cnt (y :: S.set i 1) 2 + (if S.getD i 0 = 2 then 1 else 0) = cnt (y :: S) 2
    have := cnt_set S i (by simpa using h)
    rw [cnt_cons, cnt_cons]
    omega
  | [], i, h => by simp at h
theorem lose_fine {m s r c : Int} {S : List Nat} {i : Nat} (hS : S.length = 16) (h : fine m s r S c) (hi : (i : Int) < m) : fine m s r (S.set i 1) (loseC S c i) := by
  obtain ⟨h1, h2, h3, h4, h5, h6⟩ := h
  obtain ⟨b1, b2, b3⟩ := may_t h1
  have hi16 : i < S.length := by omega
  have hc := cnt_set S i hi16
  refine ⟨h1, fun j hj x hx => ?_, ?_, ?_, ?_, ?_⟩
  · by_cases e : j = i
    · subst e
      rw [List.getElem?_set_self hi16] at hx
      cases hx
      exact ⟨by omega, fun hm => by omega⟩
    · rw [List.getElem?_set_ne (Ne.symm e)] at hx
      exact h2 j hj x hx
  · split at hc <;> omega
  · unfold loseC; split <;> omega
  · unfold loseC; split <;> omega
  · unfold loseC
    by_cases e : S.getD i 0 = 2
    · rw [if_pos e]; exact .inr rfl
    · rw [if_neg e] at hc ⊢
      rw [Nat.add_zero] at hc
      rw [hc]; exact h6
def zro : List V := [.int .i64 0, .int .i64 0, .int .i64 0, .int .u8 0, .int .u8 0, .int .u8 0, .int .u8 0, .int .u8 0, .int .u8 0, .int .u8 0, .int .u8 0, .int .u8 0, .int .u8 0, .int .u8 0, .int .u8 0, .int .u8 0, .int .u8 0, .int .u8 0, .int .u8 0, .int .i64 0, .bool false]
theorem put_zro {S : List Nat} (hS : S.length = 16) (m s r c : Int) (g : Bool) : Go.Am.put zro 0 (rcells m s r S c g) = some (rcells m s r S c g) := by
  match S, hS with
  | [_, _, _, _, _, _, _, _, _, _, _, _, _, _, _, _], _ => rfl
theorem rset_c {S : List Nat} (hS : S.length = 16) (m s r c c' : Int) (g : Bool) : (rcells m s r S c g).set 19 (.int .i64 c') = rcells m s r S c' g := by
  match S, hS with
  | [_, _, _, _, _, _, _, _, _, _, _, _, _, _, _, _], _ => rfl
theorem rset_s {S : List Nat} (hS : S.length = 16) (m s r c : Int) (g : Bool) {i : Nat} (hi : i < 16) (x : Nat) : (rcells m s r S c g).set (3 + i) (.int .u8 (x : Int)) = rcells m s r (S.set i x) c g := by
  unfold rcells sts
  rw [List.set_append, if_neg (by simp), show 3 + i - [V.int .i64 m, .int .i64 s, .int .i64 r].length = i from by simp, List.set_append, if_pos (by rw [List.length_map]; omega)]
  simp [List.map_set]
theorem member_ok (H : Heap) {m s r c : Int} {g : Bool} {S : List Nat} (hS : S.length = 16) (hf : fine m s r S c) {i : Nat} (hi : (i : Int) < m) (lf n : Nat) (hlf : 17 < lf) : ret (callS Tryz.prog S0 lf (n + 4) 167 [ros m s r S c g, .int .i64 (i : Int)] H) fun v H' => v = .bool true ∧ Turns Z H H' := by
  have t1 := Turns.add Z H (.rows false 21 [rcells m s r S c g])
  have hg : (H.add (.rows false 21 [rcells m s r S c g])).get (.run H.next) = some (.rows false 21 [rcells m s r S c g]) := by rw [Heap.get_add, if_pos rfl]
  have og : (H.add (.rows false 21 [rcells m s r S c g])).Old (.run H.next) := by show _ < _; simp
  have hr : ∀ {H' : Heap}, Turns Z (H.add (.rows false 21 [rcells m s r S c g])) H' → RosAt H' (.run H.next) m s r S c g := fun t => ⟨(t.same _ og id).trans hg, hS⟩
  have hw := r_width hS m s r c g
  have la := ros_all (hr (Turns.refl Z _))
  generalize hH1 : H.add (.rows false 21 [rcells m s r S c g]) = H1 at *
  obtain ⟨v, H2, e2, ⟨z, rfl, hz⟩, t2⟩ := pmay_ok H1 (m := m) (s := s) (r := r) (c := c) (g := g) hS lf n hlf
  have hz := hz.2 hf
  subst hz
  unfold ros at e2
  have lm := ros_m (hr t2)
  have h0 : (0 : Int) ≤ (i : Int) := by omega
  refine ret_call rfl c167_eq ?_
  simp only [c167, ros, hw, hH1, la, e2, lm, h0, hi, sy, tup, ↓reduceIte, Nat.reduceEqDiff, Nat.reduceAdd, Nat.reduceSub, Nat.reduceMul, Nat.reduceLeDiff, Int.reduceBEq, reduceCtorEq]
  exact ⟨trivial, .inr trivial, _, rfl, rfl, t1.trans t2⟩
theorem lose_ok (H : Heap) {m s r c : Int} {g : Bool} {S : List Nat} (hS : S.length = 16) (hf : fine m s r S c) {i : Nat} (hi : (i : Int) < m) (lf n : Nat) (hlf : 17 < lf) : ret (callS Tryz.prog S0 lf (n + 5) 113 [ros m s r S c g, .int .i64 (i : Int)] H) fun v H' => (∃ z : Bool, v = .tuple [ros m s r (S.set i 1) (loseC S c i) g, .bool z]) ∧ Turns Z H H' := by
  obtain ⟨bm, bs, br⟩ := may_t hf.1
  have hi16 : i < 16 := by omega
  have hiS : i < S.length := by omega
  have t1 := Turns.add Z H (.rows false 21 [rcells m s r S c g])
  have t2 := t1.addm (.rows false 21 [zro])
  have hg1 : (H.add (.rows false 21 [rcells m s r S c g])).get (.run H.next) = some (.rows false 21 [rcells m s r S c g]) := by rw [Heap.get_add, if_pos rfl]
  have hg2 : ((H.add (.rows false 21 [rcells m s r S c g])).add (.rows false 21 [zro])).get (.run H.next) = some (.rows false 21 [rcells m s r S c g]) := by
    rw [Heap.get_add, if_neg (run_ne (by simp)), hg1]
  have hg3 : ((H.add (.rows false 21 [rcells m s r S c g])).add (.rows false 21 [zro])).get (.run (H.next + 1)) = some (.rows false 21 [zro]) := by
    rw [Heap.get_add, if_pos (by simp)]
  have hn : ((H.add (.rows false 21 [rcells m s r S c g])).add (.rows false 21 [zro])).next = H.next + 2 := by simp
  have hw := r_width hS m s r c g
  generalize hH2 : (H.add (.rows false 21 [rcells m s r S c g])).add (.rows false 21 [zro]) = H2 at *
  have la := ros_all (H := H2) ⟨hg2, hS⟩
  obtain ⟨v3, H3, e3, rfl, t3⟩ := member_ok H2 (m := m) (s := s) (r := r) (c := c) (g := g) hS hf hi lf n hlf
  unfold ros at e3
  have R3 : RosAt H3 (.run H.next) m s r S c g := ⟨(t3.same (.run H.next) (by show _ < _; omega) id).trans hg2, hS⟩
  have hg33 : H3.get (.run (H.next + 1)) = some (.rows false 21 [zro]) := (t3.same (.run (H.next + 1)) (by show _ < _; omega) id).trans hg3
  have ls := ros_st R3 hi16
  have hget : S.getD i 0 = S[i] := by simp [List.getD, hiS]
  have hle : i + 1 ≤ 16 := hi16
  have hT3 : Turns Z H H3 := t2.trans t3
  have hzro : zro = [.int .i64 0, .int .i64 0, .int .i64 0, .int .u8 0, .int .u8 0, .int .u8 0, .int .u8 0, .int .u8 0, .int .u8 0, .int .u8 0, .int .u8 0, .int .u8 0, .int .u8 0, .int .u8 0, .int .u8 0, .int .u8 0, .int .u8 0, .int .u8 0, .int .u8 0, .int .i64 0, .bool false] := rfl
  rw [hzro] at hH2
  rw [Nat.mul_one] at ls
  have stS : ∀ {K : Heap} {c' : Int}, K.get (.run H.next) = some (.rows false 21 [rcells m s r S c' g]) → storeAt K ⟨.run H.next, 3 + i⟩ [.int .u8 1] = some (K.set (.run H.next) (.rows false 21 [rcells m s r (S.set i 1) c' g])) := fun {K c'} h => by
    have := storeAt_eq h (o := 3 + i) (vs := [.int .u8 1]) (r := rcells m s r S c' g) (r' := rcells m s r (S.set i 1) c' g) (by rw [Nat.div_eq_of_lt (by omega)]; rfl) (by rw [Nat.mod_eq_of_lt (by omega), put_one (r_thin m s r S c' g) (by rw [r_len hS]; omega) rfl]; exact congrArg some (rset_s hS m s r c' g hi16 1))
    rw [Nat.div_eq_of_lt (by omega)] at this
    exact this
  have fin : ∀ {K : Heap} {c' : Int}, K.get (.run H.next) = some (.rows false 21 [rcells m s r S c' g]) → K.get (.run (H.next + 1)) = some (.rows false 21 [zro]) → Turns Z H K → ∃ F, loadAt (K.set (.run H.next) (.rows false 21 [rcells m s r (S.set i 1) c' g])) ⟨.run H.next, 0⟩ 21 = some (rcells m s r (S.set i 1) c' g) ∧ storeAt (K.set (.run H.next) (.rows false 21 [rcells m s r (S.set i 1) c' g])) ⟨.run (H.next + 1), 0⟩ (rcells m s r (S.set i 1) c' g) = some F ∧ loadAt F ⟨.run (H.next + 1), 0⟩ 21 = some (rcells m s r (S.set i 1) c' g) ∧ Turns Z H F := fun {K c'} h1 h2 hT => by
    have hS' : (S.set i 1).length = 16 := by simp [hS]
    have ha : (K.set (.run H.next) (.rows false 21 [rcells m s r (S.set i 1) c' g])).get (.run (H.next + 1)) = some (.rows false 21 [zro]) := by rw [Heap.get_set, if_neg (run_ne (by omega))]; exact h2
    refine ⟨_, ros_all ⟨by rw [Heap.get_set, if_pos rfl], hS'⟩, storeAt_eq ha (r := zro) (r' := rcells m s r (S.set i 1) c' g) rfl (put_zro hS' _ _ _ _ _), ros_all ⟨by rw [Heap.get_set, if_pos rfl]; rfl, hS'⟩, (hT.setnew (Nat.le_refl _) _).setnew (by omega) _⟩
  refine ret_call rfl c113_eq ?_
  by_cases h2 : S[i] = 2
  · have b2 : (((S[i] : Nat) : Int) == 2) = true := by simp [h2]
    have hc' : loseC S c i = 0 := by unfold loseC; rw [hget, if_pos h2]
    rw [hc']
    have st0 : storeAt H3 ⟨.run H.next, 19⟩ [.int .i64 0] = some (H3.set (.run H.next) (.rows false 21 [rcells m s r S 0 g])) := by
      have := storeAt_eq R3.own (o := 19) (vs := [.int .i64 0]) (r := rcells m s r S c g) (r' := rcells m s r S 0 g) rfl (by rw [put_one (r_thin m s r S c g) (by rw [r_len hS]; omega) rfl, rset_c hS])
      exact this
    have gK : (H3.set (.run H.next) (.rows false 21 [rcells m s r S 0 g])).get (.run H.next) = some (.rows false 21 [rcells m s r S 0 g]) := by rw [Heap.get_set, if_pos rfl]
    have st1 := stS gK
    obtain ⟨F, l1, s2, l2, tF⟩ := fin gK (by rw [Heap.get_set, if_neg (run_ne (by omega))]; exact hg33) (hT3.setnew (Nat.le_refl _) _)
    have hw' := r_width (S := S.set i 1) (by simp [hS]) m s r 0 g
    simp only [c113, ros, hw, hH2, la, e3, iaddrAF, hle, ls, b2, st0, st1, l1, s2, l2, hw', Nat.mul_one, sy, tup, ↓reduceIte, Nat.reduceEqDiff, Nat.reduceAdd, Nat.reduceSub, Nat.reduceMul, Nat.reduceLeDiff, Int.reduceBEq, reduceCtorEq]
    exact ⟨trivial, .inr trivial, _, rfl, ⟨_, rfl⟩, tF⟩
  · have b2 : (((S[i] : Nat) : Int) == 2) = false := by simp; omega
    have hc' : loseC S c i = c := by unfold loseC; rw [hget, if_neg h2]
    rw [hc']
    have st1 := stS R3.own
    obtain ⟨F, l1, s2, l2, tF⟩ := fin R3.own hg33 hT3
    have hw' := r_width (S := S.set i 1) (by simp [hS]) m s r c g
    simp only [c113, ros, hw, hH2, la, e3, iaddrAF, hle, ls, b2, st1, l1, s2, l2, hw', Nat.mul_one, sy, tup, ↓reduceIte, Nat.reduceEqDiff, Nat.reduceAdd, Nat.reduceSub, Nat.reduceMul, Nat.reduceLeDiff, Int.reduceBEq, reduceCtorEq]
    exact ⟨trivial, .inr trivial, _, rfl, ⟨_, rfl⟩, tF⟩
end Go.Proofs.YtejgheoandfikaaGreat.draft
set_option linter.unusedVariables false
set_option linter.unusedSimpArgs false
set_option maxRecDepth 10000
namespace Go.Proofs.YtejgheoandfikaaGreat.draft
open Go.Am
noncomputable def c39_l0 : C := .seq (.reg [
 qo 59 (.p (arF .lss (tt 58) (tt 57))) [pp 58, pp 57]]) (
 .seq (.cond (tt 59) (.skip) (.exit 3)) (
 .seq (.block 4 (.seq (.reg [
 mv 60 58,
 mv 9 60]) (
 .seq (.reg [
 mv 62 0,
 mv 63 9,
 qo 64 (.c (callF (ff 37) [(tt 62), (tt 63)])) [pp 62, pp 63],
 mv 61 64,
 qo 65 (.p (extF (tt 61) 0)) [pp 61],
 qo 66 (.p (extF (tt 61) 1)) [pp 61],
 qo 67 (.p (extF (tt 61) 2)) [pp 61],
 qo 11 (.m (allocF 23 [.int .u64 0, .int .i64 0, .int .i64 0, .int .i64 0, .int .i64 0, .int .u8 0, .int .u8 0, .int .u8 0, .int .u8 0, .int .u8 0, .int .u8 0, .int .u8 0, .int .u8 0, .int .u8 0, .int .u8 0, .int .u8 0, .int .u8 0, .int .u8 0, .int .u8 0, .int .u8 0, .int .u8 0, .int .i64 0, .bool false])) [],
 mv 10 65,
 qn (.a (storeF (tt 11) (tt 66) 23)) [pp 11, pp 66],
 mv 12 67]) (
 .seq (.reg [
 mv 68 12,
 qo 69 (.p (eqcF true false [.int .i64] (tt 68) (ii 0))) [pp 68],
 mv 70 69,
 qg 71 (.p (faddrF (tt 11) 0)) 70 false [pp 11],
 qg 72 (.r (loadF (tt 71) 1 .sc)) 70 false [pp 71],
 qg 73 (.p (faddrF (tt 4) 1)) 70 false [pp 4],
 qg 74 (.r (loadF (tt 73) 1 .sc)) 70 false [pp 73],
 qg 75 (.p (eqcF true false [.int .u64] (tt 72) (tt 74))) 70 false [pp 72, pp 74],
 qo 76 (.p (pickF (tt 70) (.c (.bool true)) (tt 75))) [pp 70, pp 75],
 mv 77 76,
 qg 78 (.p (faddrF (tt 11) 2)) 77 false [pp 11],
 qg 79 (.p (faddrF (tt 78) 0)) 77 false [pp 78],
 qg 80 (.r (loadF (tt 79) 3 .ag)) 77 false [pp 79],
 qg 81 (.p (faddrF (tt 4) 2)) 77 false [pp 4],
 qg 82 (.p (faddrF (tt 81) 0)) 77 false [pp 81],
 qg 83 (.r (loadF (tt 82) 3 .ag)) 77 false [pp 82],
 qg 84 (.p (eqcF true true [.int .i64, .int .i64, .int .i64] (tt 80) (tt 83))) 77 false [pp 80, pp 83],
 qo 85 (.p (pickF (tt 77) (.c (.bool true)) (tt 84))) [pp 77, pp 84],
 mv 86 85,
 qg 87 (.p (faddrF (tt 11) 1)) 86 false [pp 11],
 qg 88 (.r (loadF (tt 87) 1 .sc)) 86 false [pp 87],
 mg 89 9 86 false,
 qg 90 (.p (eqcF true false [.int .i64] (tt 88) (tt 89))) 86 false [pp 88, pp 89],
 qo 91 (.p (pickF (tt 86) (.c (.bool true)) (tt 90))) [pp 86, pp 90]]) (
 .cond (tt 91) (.reg [
 qo 93 (.p (faddrF (tt 4) 2)) [pp 4],
 qo 94 (.r (loadF (tt 93) 21 .ag)) [pp 93],
 mv 95 9,
 qo 96 (.c (callF (ff 113) [(tt 94), (tt 95)])) [pp 94, pp 95],
 mv 92 96,
 qo 97 (.p (extF (tt 92) 0)) [pp 92],
 qo 98 (.p (extF (tt 92) 1)) [pp 92],
 qo 99 (.p (faddrF (tt 4) 2)) [pp 4],
 qn (.a (storeF (tt 99) (tt 97) 21)) [pp 99, pp 97]]) (.skip)))))) (
 .reg [
 qo 100 (.p (arF .add (tt 58) (ii 1))) [pp 58],
 mv 58 100])))
noncomputable def c39_l1 : C := .seq (.reg [
 qo 26 (.p (arF .lss (tt 25) (tt 24))) [pp 25, pp 24]]) (
 .seq (.cond (tt 26) (.skip) (.exit 1)) (
 .seq (.block 2 (.seq (.reg [
 mv 27 25,
 mv 5 27]) (
 .seq (.reg [
 mv 29 0,
 mv 30 5,
 qo 31 (.c (callF (ff 37) [(tt 29), (tt 30)])) [pp 29, pp 30],
 mv 28 31,
 qo 32 (.p (extF (tt 28) 0)) [pp 28],
 qo 33 (.p (extF (tt 28) 1)) [pp 28],
 qo 34 (.p (extF (tt 28) 2)) [pp 28],
 qo 7 (.m (allocF 23 [.int .u64 0, .int .i64 0, .int .i64 0, .int .i64 0, .int .i64 0, .int .u8 0, .int .u8 0, .int .u8 0, .int .u8 0, .int .u8 0, .int .u8 0, .int .u8 0, .int .u8 0, .int .u8 0, .int .u8 0, .int .u8 0, .int .u8 0, .int .u8 0, .int .u8 0, .int .u8 0, .int .u8 0, .int .i64 0, .bool false])) [],
 mv 6 32,
 qn (.a (storeF (tt 7) (tt 33) 23)) [pp 7, pp 33],
 mv 8 34]) (
 .seq (.seq (.reg [
 mv 35 8,
 qo 36 (.p (eqcF true false [.int .i64] (tt 35) (ii 0))) [pp 35],
 mv 37 36,
 mg 38 6 37 false,
 qg 39 (.p (faddrF (tt 4) 0)) 37 false [pp 4],
 qg 40 (.r (loadF (tt 39) 1 .sc)) 37 false [pp 39],
 qg 41 (.p (arF .leq (tt 38) (tt 40))) 37 false [pp 38, pp 40],
 qo 42 (.p (pickF (tt 37) (.c (.bool true)) (tt 41))) [pp 37, pp 41]]) (
 .cond (tt 42) (.exit 2) (.skip))) (
 .reg [
 mv 43 6,
 qo 44 (.p (faddrF (tt 7) 0)) [pp 7],
 qo 45 (.r (loadF (tt 44) 1 .sc)) [pp 44],
 qo 46 (.p (faddrF (tt 7) 2)) [pp 7],
 qo 47 (.r (loadF (tt 46) 21 .ag)) [pp 46],
 qo 48 (.p (buildF [.int .u64 0, .int .u64 0, .int .i64 0, .int .i64 0, .int .i64 0, .int .u8 0, .int .u8 0, .int .u8 0, .int .u8 0, .int .u8 0, .int .u8 0, .int .u8 0, .int .u8 0, .int .u8 0, .int .u8 0, .int .u8 0, .int .u8 0, .int .u8 0, .int .u8 0, .int .u8 0, .int .u8 0, .int .i64 0, .bool false] .ag [(0, 1, (tt 43)), (1, 1, (tt 45)), (2, 21, (tt 47))])) [pp 43, pp 45, pp 47],
 qn (.a (storeF (tt 4) (tt 48) 23)) [pp 4, pp 48]]))))) (
 .reg [
 qo 49 (.p (arF .add (tt 25) (ii 1))) [pp 25],
 mv 25 49])))
noncomputable def c39 : CFn := ⟨[.cell (pp 2) 23 .ag, .tmp (pp 3)],
 .seq (.reg [
 qo 2 (.m (allocF 23 [.int .u64 0, .int .u64 0, .int .i64 0, .int .i64 0, .int .i64 0, .int .u8 0, .int .u8 0, .int .u8 0, .int .u8 0, .int .u8 0, .int .u8 0, .int .u8 0, .int .u8 0, .int .u8 0, .int .u8 0, .int .u8 0, .int .u8 0, .int .u8 0, .int .u8 0, .int .u8 0, .int .u8 0, .int .i64 0, .bool false])) [],
 qo 3 (.p (S.get (ii 0))) []]) (
 .scope (.seq (.block 0 (.seq (.reg [
 mv 14 0,
 qo 15 (.c (callF (ff 106) [(tt 14)])) [pp 14],
 qo 16 (.p (eqcF false false [.int .i64] (tt 15) (ii 0))) [pp 15],
 mv 13 16]) (
 .cond (tt 13) (.seq (.reg [
 qo 17 (.p (buildF [.int .u64 0, .int .u64 0, .int .i64 0, .int .i64 0, .int .i64 0, .int .u8 0, .int .u8 0, .int .u8 0, .int .u8 0, .int .u8 0, .int .u8 0, .int .u8 0, .int .u8 0, .int .u8 0, .int .u8 0, .int .u8 0, .int .u8 0, .int .u8 0, .int .u8 0, .int .u8 0, .int .u8 0, .int .i64 0, .bool false] .ag [])) [],
 qn (.a (storeF (tt 2) (tt 17) 23)) [pp 2, pp 17],
 qo 3 (.p (S.get (ii 1))) []]) (
 .ret)) (.seq (.reg [
 mv 19 0,
 qo 20 (.c (callF (ff 107) [(tt 19)])) [pp 19],
 mv 18 20]) (
 .cond (tt 18) (.seq (.reg [
 qo 21 (.p (buildF [.int .u64 0, .int .u64 0, .int .i64 0, .int .i64 0, .int .i64 0, .int .u8 0, .int .u8 0, .int .u8 0, .int .u8 0, .int .u8 0, .int .u8 0, .int .u8 0, .int .u8 0, .int .u8 0, .int .u8 0, .int .u8 0, .int .u8 0, .int .u8 0, .int .u8 0, .int .u8 0, .int .u8 0, .int .i64 0, .bool false] .ag [])) [],
 qn (.a (storeF (tt 2) (tt 21) 23)) [pp 2, pp 21],
 qo 3 (.p (S.get (ii 8))) []]) (
 .ret)) (.skip)))))) (
 .seq (.reg [
 qo 4 (.m (allocF 23 [.int .u64 0, .int .u64 0, .int .i64 0, .int .i64 0, .int .i64 0, .int .u8 0, .int .u8 0, .int .u8 0, .int .u8 0, .int .u8 0, .int .u8 0, .int .u8 0, .int .u8 0, .int .u8 0, .int .u8 0, .int .u8 0, .int .u8 0, .int .u8 0, .int .u8 0, .int .u8 0, .int .u8 0, .int .i64 0, .bool false])) []]) (
 .seq (.skip) (
 .seq (.seq (.reg [
 mv 22 0,
 qo 23 (.c (callF (ff 106) [(tt 22)])) [pp 22],
 qo 24 (.p (arF .sub (tt 23) (ii 1))) [pp 23],
 qo 25 (.p (S.get (ii 0))) []]) (
 .block 1 (.loop c39_l1))) (
 .seq (.seq (.reg [
 qo 50 (.p (faddrF (tt 4) 0)) [pp 4],
 qo 51 (.r (loadF (tt 50) 1 .sc)) [pp 50],
 qo 52 (.p (eqcF false false [.int .u64] (tt 51) (.c (.int .u64 0)))) [pp 51]]) (
 .cond (tt 52) (.seq (.reg [
 qo 53 (.p (buildF [.int .u64 0, .int .u64 0, .int .i64 0, .int .i64 0, .int .i64 0, .int .u8 0, .int .u8 0, .int .u8 0, .int .u8 0, .int .u8 0, .int .u8 0, .int .u8 0, .int .u8 0, .int .u8 0, .int .u8 0, .int .u8 0, .int .u8 0, .int .u8 0, .int .u8 0, .int .u8 0, .int .u8 0, .int .i64 0, .bool false] .ag [])) [],
 qn (.a (storeF (tt 2) (tt 53) 23)) [pp 2, pp 53],
 qo 3 (.p (S.get (ii 7))) []]) (
 .ret)) (.skip))) (
 .seq (.seq (.reg [
 qo 54 (.p (faddrF (tt 4) 2)) [pp 4],
 qo 55 (.p (faddrF (tt 54) 0)) [pp 54],
 qo 56 (.p (faddrF (tt 55) 0)) [pp 55],
 qo 57 (.r (loadF (tt 56) 1 .sc)) [pp 56],
 qo 58 (.p (S.get (ii 0))) []]) (
 .block 3 (.loop c39_l0))) (
 .seq (.reg [
 qo 101 (.r (loadF (tt 4) 23 .ag)) [pp 4],
 qn (.a (storeF (tt 2) (tt 101) 23)) [pp 2, pp 101],
 qo 3 (.p (S.get (ii 0))) []]) (
 .ret)))))))))⟩
theorem c39_eq : fnOf Tryz.prog 39 = some c39 := by kernel_rfl
def fcells (ev id m s r : Int) (S : List Nat) (c : Int) (g : Bool) : List V := [.int .u64 ev, .int .u64 id] ++ rcells m s r S c g
def fnd (ev id m s r : Int) (S : List Nat) (c : Int) (g : Bool) : V := .agg (fcells ev id m s r S c g)
theorem f_thin (ev id m s r : Int) (S : List Nat) (c : Int) (g : Bool) : Thin (fcells ev id m s r S c g) := by
  intro v hv
  unfold fcells at hv
  rcases List.mem_append.1 hv with h | h
  · simp at h; rcases h with rfl | rfl <;> rfl
  · exact r_thin m s r S c g v h
theorem f_len {S : List Nat} (hS : S.length = 16) (ev id m s r c : Int) (g : Bool) : (fcells ev id m s r S c g).length = 23 := by
  unfold fcells
  rw [List.length_append, r_len hS]
  rfl
theorem f_width {S : List Nat} (hS : S.length = 16) (ev id m s r c : Int) (g : Bool) : width (fcells ev id m s r S c g) = 23 := by
  rw [width_thin (f_thin ev id m s r S c g), f_len hS]
structure FndAt (H : Heap) (b : Bk) (ev id m s r : Int) (S : List Nat) (c : Int) (g : Bool) : Prop where
  own : H.get b = some (.rows false 23 [fcells ev id m s r S c g])
  len : S.length = 16
section
variable {H : Heap} {b : Bk} {ev id m s r : Int} {S : List Nat} {c : Int} {g : Bool} (h : FndAt H b ev id m s r S c g)
include h
theorem fnd_cut {o n : Nat} (hn : o + n ≤ 23) (ho : o < 23) : loadAt H ⟨b, o⟩ n = some (((fcells ev id m s r S c g).drop o).take n) := by
  rw [loadAt_eq h.own (r := fcells ev id m s r S c g) (nth_of (by rw [Nat.div_eq_of_lt ho]; rfl)), Nat.mod_eq_of_lt ho]
  exact cut_thin (f_thin ev id m s r S c g) (by rw [f_len h.len]; exact hn)
theorem fnd_all : loadAt H ⟨b, 0⟩ 23 = some (fcells ev id m s r S c g) := by
  rw [fnd_cut h (by omega) (by omega), List.drop_zero, List.take_of_length_le (by rw [f_len h.len]; omega)]
theorem fnd_ev : loadAt H ⟨b, 0⟩ 1 = some [.int .u64 ev] := by rw [fnd_cut h (by omega) (by omega)]; rfl
theorem fnd_id : loadAt H ⟨b, 1⟩ 1 = some [.int .u64 id] := by rw [fnd_cut h (by omega) (by omega)]; rfl
theorem fnd_m : loadAt H ⟨b, 2⟩ 1 = some [.int .i64 m] := by rw [fnd_cut h (by omega) (by omega)]; rfl
theorem fnd_g : loadAt H ⟨b, 2⟩ 3 = some [.int .i64 m, .int .i64 s, .int .i64 r] := by rw [fnd_cut h (by omega) (by omega)]; rfl
theorem fnd_r : loadAt H ⟨b, 2⟩ 21 = some (rcells m s r S c g) := by
  rw [fnd_cut h (by omega) (by omega)]
  unfold fcells
  show some (List.take 21 (rcells m s r S c g)) = _
  rw [List.take_of_length_le (by rw [r_len h.len]; omega)]
theorem FndAt.turns {H' : Heap} (t : Turns Z H H') (ho : H.Old b) : FndAt H' b ev id m s r S c g := ⟨(t.same b ho (fun h => h)).trans h.own, h.len⟩
end
def zf : List V := fcells 0 0 0 0 0 (List.replicate 16 0) 0 false
theorem put_f {S S' : List Nat} (hS : S.length = 16) (hS' : S'.length = 16) (ev id m s r c c' : Int) (g : Bool) : Go.Am.put (fcells ev id m s r S c g) 2 (rcells m s r S' c' g) = some (fcells ev id m s r S' c' g) := by
  match S, S', hS, hS' with
  | [_, _, _, _, _, _, _, _, _, _, _, _, _, _, _, _], [_, _, _, _, _, _, _, _, _, _, _, _, _, _, _, _], _, _ => rfl
theorem put_ff {S S' : List Nat} (hS : S.length = 16) (hS' : S'.length = 16) (ev id m s r c ev' id' m' s' r' c' : Int) (g g' : Bool) : Go.Am.put (fcells ev id m s r S c g) 0 (fcells ev' id' m' s' r' S' c' g') = some (fcells ev' id' m' s' r' S' c' g') := by
  match S, S', hS, hS' with
  | [_, _, _, _, _, _, _, _, _, _, _, _, _, _, _, _], [_, _, _, _, _, _, _, _, _, _, _, _, _, _, _, _], _, _ => rfl
theorem put_fr {S : List Nat} (hS : S.length = 16) (ev id m s r c : Int) (g : Bool) : Go.Am.put [.int .u64 ev, .int .u64 id, .int .i64 0, .int .i64 0, .int .i64 0, .int .u8 0, .int .u8 0, .int .u8 0, .int .u8 0, .int .u8 0, .int .u8 0, .int .u8 0, .int .u8 0, .int .u8 0, .int .u8 0, .int .u8 0, .int .u8 0, .int .u8 0, .int .u8 0, .int .u8 0, .int .u8 0, .int .i64 0, .bool false] 2 (rcells m s r S c g) = some (fcells ev id m s r S c g) := by
  match S, hS with
  | [_, _, _, _, _, _, _, _, _, _, _, _, _, _, _, _], _ => rfl
noncomputable def evOf : Option Nat → Nat
  | none => 0
  | some C => sealN C
noncomputable def fOf : Option Nat → List V
  | none => zf
  | some C => fcells (sealN C) (fld C 0 8) (fld C 8 1) (fld C 9 2) (fld C 11 2) (gSt C) (fld C 18 2) (((fld C 20 1 : Nat) : Int) == 1)
noncomputable def bestC (B : disk.Bn) (N : Nat) : Nat → Option Nat
  | 0 => none
  | d + 1 => match gC B N d with
    | none => bestC B N d
    | some C => if sealN C ≤ evOf (bestC B N d) then bestC B N d else some C
theorem bestC_ok {B : disk.Bn} {N : Nat} : ∀ {d C : Nat}, bestC B N d = some C → ∃ i, i < d ∧ gC B N i = some C
  | 0, C, h => by cases h
  | d + 1, C, h => by
    unfold bestC at h
    split at h
    · obtain ⟨i, h1, h2⟩ := bestC_ok h
      exact ⟨i, by omega, h2⟩
    · rename_i C' hC
      split at h
      · obtain ⟨i, h1, h2⟩ := bestC_ok h
        exact ⟨i, by omega, h2⟩
      · cases h; exact ⟨d, by omega, hC⟩
def keepM (B : disk.Bn) (N C i : Nat) : Prop := ∃ C', gC B N i = some C' ∧ fld C' 0 8 = fld C 0 8 ∧ (fld C' 8 1 = fld C 8 1 ∧ fld C' 9 2 = fld C 9 2 ∧ fld C' 11 2 = fld C 11 2) ∧ fld C' 13 1 = i
open Classical in
noncomputable def lostS (B : disk.Bn) (N C : Nat) : Nat → List Nat × Nat
  | 0 => (gSt C, fld C 18 2)
  | i + 1 => if keepM B N C i then lostS B N C i else ((lostS B N C i).1.set i 1, if (lostS B N C i).1.getD i 0 = 2 then 0 else (lostS B N C i).2)
theorem lostS_len (B : disk.Bn) (N C : Nat) : ∀ i, (lostS B N C i).1.length = 16
  | 0 => gSt_len C
  | i + 1 => by
    unfold lostS
    split
    · exact lostS_len B N C i
    · simpa using lostS_len B N C i
theorem lostS_fine {B : disk.Bn} {N C : Nat} {m s r : Int} (h : fine m s r (gSt C) (fld C 18 2)) : ∀ i : Nat, (i : Int) ≤ m → fine m s r (lostS B N C i).1 ((lostS B N C i).2 : Int)
  | 0, _ => h
  | i + 1, hi => by
    have ih := lostS_fine (B := B) (N := N) h i (by omega)
    unfold lostS
    split
    · exact ih
    · have := lose_fine (lostS_len B N C i) ih (show (i : Int) < m by omega)
      unfold loseC at this
      show fine m s r _ (((if (lostS B N C i).1.getD i 0 = 2 then 0 else (lostS B N C i).2 : Nat)) : Int)
      split at this
      · rename_i e; rw [if_pos e]; exact this
      · rename_i e; rw [if_neg e]; exact this
end Go.Proofs.YtejgheoandfikaaGreat.draft
set_option linter.unusedVariables false
set_option linter.unusedSimpArgs false
set_option maxRecDepth 10000
namespace Go.Proofs.YtejgheoandfikaaGreat.draft
open Go.Am
theorem ev_pos {C : Nat} (h : getE C = 0) : 1 ≤ sealN C := by
  have := (isSup_of h).2.1
  unfold evt at this
  simp only [Bool.and_eq_true, decide_eq_true_eq] at this
  omega
theorem put_fo (x : Option Nat) (C : Nat) : Go.Am.put (fOf x) 0 (fOf (some C)) = some (fOf (some C)) := by
  cases x with
  | none => exact put_ff (by simp) (gSt_len C) _ _ _ _ _ _ _ _ _ _ _ _ _ _
  | some D => exact put_ff (gSt_len D) (gSt_len C) _ _ _ _ _ _ _ _ _ _ _ _ _ _
theorem ev_load {H : Heap} {b : Bk} {x : Option Nat} (h : H.get b = some (.rows false 23 [fOf x])) : loadAt H ⟨b, 0⟩ 1 = some [.int .u64 (evOf x : Int)] := by
  cases x with
  | none => exact fnd_ev (H := H) (b := b) (S := List.replicate 16 0) ⟨h, by simp⟩
  | some C => exact fnd_ev (H := H) (b := b) (S := gSt C) ⟨h, gSt_len C⟩
section
variable {H : Heap} {b ds : Bk} {so : Nat} {l : List disk.Dv} {B : disk.Bn}
theorem look1 (h : disk.BRep H b ds so l B) (hl : l ≠ []) (hg : ∀ D ∈ B.l, disk.Good D) (hdk : B.dk = false) (hlen : l.length ≤ 17) {lf : Nat} (hlf : 1000 < lf) (n : Nat) {b2 b4 : Nat} {HS : Heap} (hS : Turns Z H HS) (hb : H.next ≤ b4 ∧ b4 < HS.next) (g4 : HS.get (.run b4) = some (.rows false 23 [zf])) :
    ∀ t : T, t.getP (Tr.path 0) = some (.ptr (some ⟨b, 0⟩)) → t.getP (Tr.path 2) = some (.ptr (some ⟨.run b2, 0⟩)) → t.getP (Tr.path 4) = some (.ptr (some ⟨.run b4, 0⟩)) → t.getP (Tr.path 24) = some (.int .i64 ((l.length : Int) - 1)) → t.getP (Tr.path 25) = some (.int .i64 0) →
      wp (loopF (runC (callS Tryz.prog S0 lf (n + 8)) lf c39_l1) lf ⟨t, HS, []⟩) fun x s => x = .ex 1 ∧ s.d = [] ∧ s.t.getP (Tr.path 0) = some (.ptr (some ⟨b, 0⟩)) ∧ s.t.getP (Tr.path 2) = some (.ptr (some ⟨.run b2, 0⟩)) ∧ s.t.getP (Tr.path 4) = some (.ptr (some ⟨.run b4, 0⟩)) ∧ Turns (fun c => c = .run b4) HS s.H ∧ s.H.get (.run b4) = some (.rows false 23 [fOf (bestC B l.length (l.length - 1))]) := by
  intro t q0 q2 q4 q24 q25
  have hN : 1 ≤ l.length := by cases l with
    | nil => exact absurd rfl hl
    | cons x xs => simp
  have hzr : zrow = [.int .u64 0, .int .i64 0, .int .i64 0, .int .i64 0, .int .i64 0, .int .u8 0, .int .u8 0, .int .u8 0, .int .u8 0, .int .u8 0, .int .u8 0, .int .u8 0, .int .u8 0, .int .u8 0, .int .u8 0, .int .u8 0, .int .u8 0, .int .u8 0, .int .u8 0, .int .u8 0, .int .u8 0, .int .i64 0, .bool false] := rfl
  refine wp_loopF (fun k s => ∃ i : Nat, k = l.length - 1 - i ∧ i ≤ l.length - 1 ∧ s.d = [] ∧ s.t.getP (Tr.path 0) = some (.ptr (some ⟨b, 0⟩)) ∧ s.t.getP (Tr.path 2) = some (.ptr (some ⟨.run b2, 0⟩)) ∧ s.t.getP (Tr.path 4) = some (.ptr (some ⟨.run b4, 0⟩)) ∧ s.t.getP (Tr.path 24) = some (.int .i64 ((l.length : Int) - 1)) ∧ s.t.getP (Tr.path 25) = some (.int .i64 (i : Int)) ∧ Turns (fun c => c = .run b4) HS s.H ∧ s.H.get (.run b4) = some (.rows false 23 [fOf (bestC B l.length i)])) ?_ lf (l.length - 1) _ ⟨0, rfl, by omega, rfl, q0, q2, q4, q24, q25, Turns.refl _ _, g4⟩ (by omega)
  rintro k ⟨t, HH, d⟩ ⟨i, rfl, hi, hd', q0, q2, q4, q24, q25, tz, gb⟩
  dsimp only at hd' q0 q2 q4 q24 q25 tz gb
  subst hd'
  by_cases hlt : i < l.length - 1
  · have hlt' : (i : Int) < (l.length : Int) - 1 := by omega
    have w1 : IntKind.i64.wrap ((i : Int) + 1) = ((i + 1 : Nat) : Int) := by rw [wrap_i64 (by omega)]; omega
    have tH : Turns Z H HH := hS.later tz (fun c ho e => by subst e; exact absurd ho (Heap.not_old hb.1))
    obtain ⟨v1, H3, e1, t3, hv⟩ := gsuper_ok (h.turns tH) hl hg hdk hlen (i : Int) hlf n
    have o4 : b4 < HH.next := Nat.lt_of_lt_of_le hb.2 tz.next
    rcases hv with ⟨hC, rfl⟩ | ⟨C, hC, rfl⟩
    · have hb1 : bestC B l.length (i + 1) = bestC B l.length i := by
        show (match gC B l.length (i : Int) with | none => bestC B l.length i | some C => if sealN C ≤ evOf (bestC B l.length i) then bestC B l.length i else some C) = _
        rw [hC]
      obtain ⟨K4, s4, _, t4, _⟩ := SRow.z.new H3
      have wz := SRow.z.width
      have g4' := ((t3.trans t4).same (.run b4) o4 id).trans gb
      obtain ⟨H4, hH4⟩ : ∃ K, H3.add (.rows false 23 [zrow]) = K := ⟨_, rfl⟩
      rw [hH4] at s4
      rw [hzr] at hH4 s4 wz e1
      simp only [c39_l1, q0, q2, q4, q24, q25, hlt', e1, hH4, s4, wz, w1, sy, tup, ↓reduceIte, Nat.reduceEqDiff, Nat.reduceAdd, Nat.reduceSub, Nat.reduceMul, Nat.reduceLeDiff, Int.reduceBEq, reduceCtorEq]
      exact ⟨l.length - 1 - (i + 1), by omega, i + 1, rfl, by omega, trivial, by simp [q0], by simp [q2], by simp [q4], by simp [q24], by simp, tz.trans ((t3.trans t4).wide (fun c hc => hc.elim)), by rw [hb1]; exact g4'⟩
    · obtain ⟨K4, s4, g7, t4, _⟩ := (SRow.s (gSt_len C) (fld C 0 8) (fld C 13 1) (fld C 8 1) (fld C 9 2) (fld C 11 2) (fld C 18 2) (((fld C 20 1 : Nat) : Int) == 1)).new H3
      have wS := s_width (gSt_len C) (fld C 0 8) (fld C 13 1) (fld C 8 1) (fld C 9 2) (fld C 11 2) (fld C 18 2) (((fld C 20 1 : Nat) : Int) == 1)
      have g4' := ((t3.trans t4).same (.run b4) o4 id).trans gb
      have lev := ev_load g4'
      have S7 : SupAt K4 (.run H3.next) (fld C 0 8) (fld C 13 1) (fld C 8 1) (fld C 9 2) (fld C 11 2) (gSt C) (fld C 18 2) (((fld C 20 1 : Nat) : Int) == 1) := ⟨g7, gSt_len C⟩
      obtain ⟨H4, hH4⟩ : ∃ K, H3.add (.rows false 23 [zrow]) = K := ⟨_, rfl⟩
      rw [hH4] at s4
      rw [hzr] at hH4
      rw [gSup_row] at e1
      by_cases hle : sealN C ≤ evOf (bestC B l.length i)
      · have hb1 : bestC B l.length (i + 1) = bestC B l.length i := by
          show (match gC B l.length (i : Int) with | none => bestC B l.length i | some C => if sealN C ≤ evOf (bestC B l.length i) then bestC B l.length i else some C) = _
          rw [hC]; exact if_pos hle
        have hle' : ((sealN C : Nat) : Int) ≤ ((evOf (bestC B l.length i) : Nat) : Int) := by omega
        simp only [c39_l1, q0, q2, q4, q24, q25, hlt', e1, hH4, s4, wS, lev, hle', w1, sy, tup, ↓reduceIte, Nat.reduceEqDiff, Nat.reduceAdd, Nat.reduceSub, Nat.reduceMul, Nat.reduceLeDiff, Int.reduceBEq, reduceCtorEq]
        exact ⟨l.length - 1 - (i + 1), by omega, i + 1, rfl, by omega, trivial, by simp [q0], by simp [q2], by simp [q4], by simp [q24], by simp, tz.trans ((t3.trans t4).wide (fun c hc => hc.elim)), by rw [hb1]; exact g4'⟩
      · have hb1 : bestC B l.length (i + 1) = some C := by
          show (match gC B l.length (i : Int) with | none => bestC B l.length i | some C => if sealN C ≤ evOf (bestC B l.length i) then bestC B l.length i else some C) = _
          rw [hC]; exact if_neg hle
        have hle' : ¬ ((sealN C : Nat) : Int) ≤ ((evOf (bestC B l.length i) : Nat) : Int) := by omega
        have li := sup_id S7
        have lr := sup_r S7
        have wr := r_width (gSt_len C) (fld C 8 1) (fld C 9 2) (fld C 11 2) (fld C 18 2) (((fld C 20 1 : Nat) : Int) == 1)
        have wf := f_width (gSt_len C) (sealN C) (fld C 0 8) (fld C 8 1) (fld C 9 2) (fld C 11 2) (fld C 18 2) (((fld C 20 1 : Nat) : Int) == 1)
        have pf := put_fr (gSt_len C) (sealN C) (fld C 0 8) (fld C 8 1) (fld C 9 2) (fld C 11 2) (fld C 18 2) (((fld C 20 1 : Nat) : Int) == 1)
        have st : storeAt K4 ⟨.run b4, 0⟩ (fcells (sealN C) (fld C 0 8) (fld C 8 1) (fld C 9 2) (fld C 11 2) (gSt C) (fld C 18 2) (((fld C 20 1 : Nat) : Int) == 1)) = some (K4.set (.run b4) (.rows false 23 [fOf (some C)])) := storeAt_eq g4' (r := fOf (bestC B l.length i)) (r' := fOf (some C)) rfl (put_fo _ _)
        simp only [c39_l1, q0, q2, q4, q24, q25, hlt', e1, hH4, s4, wS, lev, hle', li, lr, wr, wf, pf, st, w1, sy, tup, ↓reduceIte, Nat.reduceEqDiff, Nat.reduceAdd, Nat.reduceSub, Nat.reduceMul, Nat.reduceLeDiff, Int.reduceBEq, reduceCtorEq]
        exact ⟨l.length - 1 - (i + 1), by omega, i + 1, rfl, by omega, trivial, by simp [q0], by simp [q2], by simp [q4], by simp [q24], by simp, (tz.trans ((t3.trans t4).wide (fun c hc => hc.elim))).setm rfl _, by rw [hb1, Heap.get_set, if_pos rfl]⟩
  · have hi' : i = l.length - 1 := by omega
    have hnl : ¬ (i : Int) < (l.length : Int) - 1 := by omega
    subst hi'
    simp only [c39_l1, q0, q2, q4, q24, q25, hnl, sy, tup, ↓reduceIte, Nat.reduceEqDiff, Nat.reduceAdd, Nat.reduceSub, Nat.reduceMul, Nat.reduceLeDiff, Int.reduceBEq, reduceCtorEq]
    exact ⟨trivial, trivial, by first | trivial | exact q0, by first | trivial | exact q2, by first | trivial | exact q4, tz, gb⟩
end
end Go.Proofs.YtejgheoandfikaaGreat.draft
set_option linter.unusedVariables false
set_option linter.unusedSimpArgs false
set_option maxRecDepth 10000
namespace Go.Proofs.YtejgheoandfikaaGreat.draft
open Go.Am
theorem lost_keep {B : disk.Bn} {N C i : Nat} (h : keepM B N C i) : lostS B N C (i + 1) = lostS B N C i := by
  rw [lostS, if_pos h]
theorem lost_lose {B : disk.Bn} {N C i : Nat} (h : ¬ keepM B N C i) : lostS B N C (i + 1) = ((lostS B N C i).1.set i 1, if (lostS B N C i).1.getD i 0 = 2 then 0 else (lostS B N C i).2) := by
  rw [lostS, if_neg h]
theorem lost_c (B : disk.Bn) (N C i : Nat) : loseC (lostS B N C i).1 ((lostS B N C i).2 : Int) i = ((if (lostS B N C i).1.getD i 0 = 2 then 0 else (lostS B N C i).2 : Nat) : Int) := by
  unfold loseC; split <;> rfl
section
variable {H : Heap} {b ds : Bk} {so : Nat} {l : List disk.Dv} {B : disk.Bn}
theorem look2 (h : disk.BRep H b ds so l B) (hl : l ≠ []) (hg : ∀ D ∈ B.l, disk.Good D) (hdk : B.dk = false) (hlen : l.length ≤ 17) {lf : Nat} (hlf : 1000 < lf) (n : Nat) {C b2 b4 : Nat} {HS : Heap} (hS : Turns Z H HS) (hb : H.next ≤ b4 ∧ b4 < HS.next)
    (hf : fine (fld C 8 1) (fld C 9 2) (fld C 11 2) (gSt C) (fld C 18 2)) (g4 : HS.get (.run b4) = some (.rows false 23 [fcells (sealN C) (fld C 0 8) (fld C 8 1) (fld C 9 2) (fld C 11 2) (gSt C) (fld C 18 2) (((fld C 20 1 : Nat) : Int) == 1)])) :
    ∀ t : T, t.getP (Tr.path 0) = some (.ptr (some ⟨b, 0⟩)) → t.getP (Tr.path 2) = some (.ptr (some ⟨.run b2, 0⟩)) → t.getP (Tr.path 4) = some (.ptr (some ⟨.run b4, 0⟩)) → t.getP (Tr.path 57) = some (.int .i64 ((fld C 8 1 : Nat) : Int)) → t.getP (Tr.path 58) = some (.int .i64 0) →
      wp (loopF (runC (callS Tryz.prog S0 lf (n + 8)) lf c39_l0) lf ⟨t, HS, []⟩) fun x s => x = .ex 3 ∧ s.d = [] ∧ s.t.getP (Tr.path 2) = some (.ptr (some ⟨.run b2, 0⟩)) ∧ s.t.getP (Tr.path 4) = some (.ptr (some ⟨.run b4, 0⟩)) ∧ Turns (fun c => c = .run b4) HS s.H ∧ s.H.get (.run b4) = some (.rows false 23 [fcells (sealN C) (fld C 0 8) (fld C 8 1) (fld C 9 2) (fld C 11 2) (lostS B l.length C (fld C 8 1)).1 ((lostS B l.length C (fld C 8 1)).2 : Int) (((fld C 20 1 : Nat) : Int) == 1)]) := by
  intro t q0 q2 q4 q57 q58
  have hzr : zrow = [.int .u64 0, .int .i64 0, .int .i64 0, .int .i64 0, .int .i64 0, .int .u8 0, .int .u8 0, .int .u8 0, .int .u8 0, .int .u8 0, .int .u8 0, .int .u8 0, .int .u8 0, .int .u8 0, .int .u8 0, .int .u8 0, .int .u8 0, .int .u8 0, .int .u8 0, .int .u8 0, .int .u8 0, .int .i64 0, .bool false] := rfl
  have hM := fld_1 C 8
  generalize hMM : fld C 8 1 = M at *
  refine wp_loopF (fun k s => ∃ i : Nat, k = M - i ∧ i ≤ M ∧ s.d = [] ∧ s.t.getP (Tr.path 0) = some (.ptr (some ⟨b, 0⟩)) ∧ s.t.getP (Tr.path 2) = some (.ptr (some ⟨.run b2, 0⟩)) ∧ s.t.getP (Tr.path 4) = some (.ptr (some ⟨.run b4, 0⟩)) ∧ s.t.getP (Tr.path 57) = some (.int .i64 (M : Int)) ∧ s.t.getP (Tr.path 58) = some (.int .i64 (i : Int)) ∧ Turns (fun c => c = .run b4) HS s.H ∧ s.H.get (.run b4) = some (.rows false 23 [fcells (sealN C) (fld C 0 8) M (fld C 9 2) (fld C 11 2) (lostS B l.length C i).1 ((lostS B l.length C i).2 : Int) (((fld C 20 1 : Nat) : Int) == 1)])) ?_ lf M _ ⟨0, rfl, by omega, rfl, q0, q2, q4, q57, q58, Turns.refl _ _, g4⟩ (by omega)
  rintro k ⟨t, HH, d⟩ ⟨i, rfl, hi, hd', q0, q2, q4, q57, q58, tz, gb⟩
  dsimp only at hd' q0 q2 q4 q57 q58 tz gb
  subst hd'
  by_cases hlt : i < M
  · have hlt' : (i : Int) < (M : Int) := by omega
    have w1 : IntKind.i64.wrap ((i : Int) + 1) = ((i + 1 : Nat) : Int) := by rw [wrap_i64 (by omega)]; omega
    have tH : Turns Z H HH := hS.later tz (fun c ho e => by subst e; exact absurd ho (Heap.not_old hb.1))
    obtain ⟨v1, H3, e1, t3, hv⟩ := gsuper_ok (h.turns tH) hl hg hdk hlen (i : Int) hlf n
    have o4 : b4 < HH.next := Nat.lt_of_lt_of_le hb.2 tz.next
    have hSl := lostS_len B l.length C i
    have hSl' : ((lostS B l.length C i).1.set i 1).length = 16 := by simpa using hSl
    have hfi : fine M (fld C 9 2) (fld C 11 2) (lostS B l.length C i).1 ((lostS B l.length C i).2 : Int) := lostS_fine hf i (by omega)
    have lose : ∀ {K : Heap}, Turns Z HH K → ¬ keepM B l.length C i → ∃ v F F', loadAt K ⟨.run b4, 2⟩ 21 = some (rcells M (fld C 9 2) (fld C 11 2) (lostS B l.length C i).1 ((lostS B l.length C i).2 : Int) (((fld C 20 1 : Nat) : Int) == 1)) ∧
        callS Tryz.prog S0 lf (n + 8) 113 [.agg (rcells M (fld C 9 2) (fld C 11 2) (lostS B l.length C i).1 ((lostS B l.length C i).2 : Int) (((fld C 20 1 : Nat) : Int) == 1)), .int .i64 (i : Int)] K = some (.v (.tuple [.agg (rcells M (fld C 9 2) (fld C 11 2) (lostS B l.length C (i + 1)).1 ((lostS B l.length C (i + 1)).2 : Int) (((fld C 20 1 : Nat) : Int) == 1)), .bool v]), F) ∧
        storeAt F ⟨.run b4, 2⟩ (rcells M (fld C 9 2) (fld C 11 2) (lostS B l.length C (i + 1)).1 ((lostS B l.length C (i + 1)).2 : Int) (((fld C 20 1 : Nat) : Int) == 1)) = some F' ∧
        Turns (fun c => c = .run b4) HS F' ∧ F'.get (.run b4) = some (.rows false 23 [fcells (sealN C) (fld C 0 8) M (fld C 9 2) (fld C 11 2) (lostS B l.length C (i + 1)).1 ((lostS B l.length C (i + 1)).2 : Int) (((fld C 20 1 : Nat) : Int) == 1)]) := fun {K} tK hk => by
      have gK := (tK.same (.run b4) o4 id).trans gb
      obtain ⟨v, F, eF, ⟨z, rfl⟩, tF⟩ := lose_ok K (g := (((fld C 20 1 : Nat) : Int) == 1)) hSl hfi hlt' lf (n + 3) (by omega)
      have oK : b4 < K.next := Nat.lt_of_lt_of_le o4 tK.next
      have gF := (tF.same (.run b4) oK id).trans gK
      rw [lost_lose hk]
      rw [lost_c] at eF
      refine ⟨z, F, _, fnd_r (S := (lostS B l.length C i).1) ⟨gK, hSl⟩, eF, storeAt_eq gF (r := fcells (sealN C) (fld C 0 8) M (fld C 9 2) (fld C 11 2) (lostS B l.length C i).1 ((lostS B l.length C i).2 : Int) (((fld C 20 1 : Nat) : Int) == 1)) rfl (put_f hSl hSl' _ _ _ _ _ _ _ _), ?_, by rw [Heap.get_set, if_pos rfl]; rfl⟩
      exact (tz.trans ((tK.trans tF).wide (fun c hc => hc.elim))).setm rfl _
    have wr' := r_width (lostS_len B l.length C (i + 1)) M (fld C 9 2) (fld C 11 2) ((lostS B l.length C (i + 1)).2 : Int) (((fld C 20 1 : Nat) : Int) == 1)
    rcases hv with ⟨hC, rfl⟩ | ⟨D, hC, rfl⟩
    · have hk : ¬ keepM B l.length C i := fun ⟨D, hD, _⟩ => by rw [hC] at hD; cases hD
      obtain ⟨K4, s4, _, t4, _⟩ := SRow.z.new H3
      have wz := SRow.z.width
      obtain ⟨z, F, F', ll, el, sl, tF, gF⟩ := lose (t3.trans t4) hk
      obtain ⟨H4, hH4⟩ : ∃ K, H3.add (.rows false 23 [zrow]) = K := ⟨_, rfl⟩
      rw [hH4] at s4
      rw [hzr] at hH4 s4 wz e1
      simp only [c39_l0, q0, q2, q4, q57, q58, hlt', e1, hH4, s4, wz, ll, el, sl, wr', w1, sy, tup, ↓reduceIte, Nat.reduceEqDiff, Nat.reduceAdd, Nat.reduceSub, Nat.reduceMul, Nat.reduceLeDiff, Int.reduceBEq, reduceCtorEq]
      exact ⟨M - (i + 1), by omega, i + 1, rfl, by omega, trivial, by simp [q0], by simp [q2], by simp [q4], by simp [q57], by simp, tF, gF⟩
    · obtain ⟨K4, s4, g7, t4, _⟩ := (SRow.s (gSt_len D) (fld D 0 8) (fld D 13 1) (fld D 8 1) (fld D 9 2) (fld D 11 2) (fld D 18 2) (((fld D 20 1 : Nat) : Int) == 1)).new H3
      have wS := s_width (gSt_len D) (fld D 0 8) (fld D 13 1) (fld D 8 1) (fld D 9 2) (fld D 11 2) (fld D 18 2) (((fld D 20 1 : Nat) : Int) == 1)
      have g4' := ((t3.trans t4).same (.run b4) o4 id).trans gb
      have S7 : SupAt K4 (.run H3.next) (fld D 0 8) (fld D 13 1) (fld D 8 1) (fld D 9 2) (fld D 11 2) (gSt D) (fld D 18 2) (((fld D 20 1 : Nat) : Int) == 1) := ⟨g7, gSt_len D⟩
      have F7 : FndAt K4 (.run b4) (sealN C) (fld C 0 8) M (fld C 9 2) (fld C 11 2) (lostS B l.length C i).1 ((lostS B l.length C i).2 : Int) (((fld C 20 1 : Nat) : Int) == 1) := ⟨g4', hSl⟩
      have l1 := sup_id S7
      have l2 := fnd_id F7
      have l3 : loadAt K4 ⟨.run H3.next, 2⟩ 3 = some [.int .i64 (fld D 8 1), .int .i64 (fld D 9 2), .int .i64 (fld D 11 2)] := by rw [sup_cut S7 (by omega) (by omega)]; rfl
      have l4 := fnd_g F7
      have l5 := sup_self S7
      obtain ⟨H4, hH4⟩ : ∃ K, H3.add (.rows false 23 [zrow]) = K := ⟨_, rfl⟩
      rw [hH4] at s4
      rw [hzr] at hH4
      rw [gSup_row] at e1
      have eqn : ∀ {x y : Nat}, x = y → ((x : Int) == (y : Int)) = true := fun e => by simp [e]
      have nen : ∀ {x y : Nat}, x ≠ y → ((x : Int) == (y : Int)) = false := fun e => by simpa using (fun e' => e (Int.ofNat.inj e'))
      by_cases h1' : ¬ fld D 0 8 = fld C 0 8
      · have h1 : fld D 0 8 ≠ fld C 0 8 := h1'
        have c1 := nen h1
        have hk : ¬ keepM B l.length C i := fun ⟨D', hD, k2, k3, k4⟩ => by
          rw [hC] at hD
          cases hD
          exact absurd k2 h1
        obtain ⟨z, F, F', ll, el, sl, tF, gF⟩ := lose (t3.trans t4) hk
        simp only [c39_l0, q0, q2, q4, q57, q58, hlt', e1, hH4, s4, wS, l1, l2, l3, l4, l5, c1, ll, el, sl, wr', w1, Bool.false_and, Bool.and_false, sy, tup, ↓reduceIte, Nat.reduceEqDiff, Nat.reduceAdd, Nat.reduceSub, Nat.reduceMul, Nat.reduceLeDiff, Int.reduceBEq, reduceCtorEq]
        exact ⟨M - (i + 1), by omega, i + 1, rfl, by omega, trivial, by simp [q0], by simp [q2], by simp [q4], by simp [q57], by simp, tF, gF⟩
      have h1 : fld D 0 8 = fld C 0 8 := Classical.byContradiction h1'
      have c1 := eqn h1
      by_cases h2' : ¬ fld D 8 1 = M
      · have h2 : fld D 8 1 ≠ M := h2'
        have c2 := nen h2
        have hk : ¬ keepM B l.length C i := fun ⟨D', hD, k2, k3, k4⟩ => by
          rw [hC] at hD
          cases hD
          exact absurd (k3.1.trans hMM) h2
        obtain ⟨z, F, F', ll, el, sl, tF, gF⟩ := lose (t3.trans t4) hk
        simp only [c39_l0, q0, q2, q4, q57, q58, hlt', e1, hH4, s4, wS, l1, l2, l3, l4, l5, c1, c2, ll, el, sl, wr', w1, Bool.false_and, Bool.and_false, sy, tup, ↓reduceIte, Nat.reduceEqDiff, Nat.reduceAdd, Nat.reduceSub, Nat.reduceMul, Nat.reduceLeDiff, Int.reduceBEq, reduceCtorEq]
        exact ⟨M - (i + 1), by omega, i + 1, rfl, by omega, trivial, by simp [q0], by simp [q2], by simp [q4], by simp [q57], by simp, tF, gF⟩
      have h2 : fld D 8 1 = M := Classical.byContradiction h2'
      have c2 := eqn h2
      by_cases h3' : ¬ fld D 9 2 = fld C 9 2
      · have h3 : fld D 9 2 ≠ fld C 9 2 := h3'
        have c3 := nen h3
        have hk : ¬ keepM B l.length C i := fun ⟨D', hD, k2, k3, k4⟩ => by
          rw [hC] at hD
          cases hD
          exact absurd k3.2.1 h3
        obtain ⟨z, F, F', ll, el, sl, tF, gF⟩ := lose (t3.trans t4) hk
        simp only [c39_l0, q0, q2, q4, q57, q58, hlt', e1, hH4, s4, wS, l1, l2, l3, l4, l5, c1, c2, c3, ll, el, sl, wr', w1, Bool.false_and, Bool.and_false, sy, tup, ↓reduceIte, Nat.reduceEqDiff, Nat.reduceAdd, Nat.reduceSub, Nat.reduceMul, Nat.reduceLeDiff, Int.reduceBEq, reduceCtorEq]
        exact ⟨M - (i + 1), by omega, i + 1, rfl, by omega, trivial, by simp [q0], by simp [q2], by simp [q4], by simp [q57], by simp, tF, gF⟩
      have h3 : fld D 9 2 = fld C 9 2 := Classical.byContradiction h3'
      have c3 := eqn h3
      by_cases h4' : ¬ fld D 11 2 = fld C 11 2
      · have h4 : fld D 11 2 ≠ fld C 11 2 := h4'
        have c4 := nen h4
        have hk : ¬ keepM B l.length C i := fun ⟨D', hD, k2, k3, k4⟩ => by
          rw [hC] at hD
          cases hD
          exact absurd k3.2.2 h4
        obtain ⟨z, F, F', ll, el, sl, tF, gF⟩ := lose (t3.trans t4) hk
        simp only [c39_l0, q0, q2, q4, q57, q58, hlt', e1, hH4, s4, wS, l1, l2, l3, l4, l5, c1, c2, c3, c4, ll, el, sl, wr', w1, Bool.false_and, Bool.and_false, sy, tup, ↓reduceIte, Nat.reduceEqDiff, Nat.reduceAdd, Nat.reduceSub, Nat.reduceMul, Nat.reduceLeDiff, Int.reduceBEq, reduceCtorEq]
        exact ⟨M - (i + 1), by omega, i + 1, rfl, by omega, trivial, by simp [q0], by simp [q2], by simp [q4], by simp [q57], by simp, tF, gF⟩
      have h4 : fld D 11 2 = fld C 11 2 := Classical.byContradiction h4'
      have c4 := eqn h4
      by_cases h5' : ¬ fld D 13 1 = i
      · have h5 : fld D 13 1 ≠ i := h5'
        have c5 := nen h5
        have hk : ¬ keepM B l.length C i := fun ⟨D', hD, k2, k3, k4⟩ => by
          rw [hC] at hD
          cases hD
          exact absurd k4 h5
        obtain ⟨z, F, F', ll, el, sl, tF, gF⟩ := lose (t3.trans t4) hk
        simp only [c39_l0, q0, q2, q4, q57, q58, hlt', e1, hH4, s4, wS, l1, l2, l3, l4, l5, c1, c2, c3, c4, c5, ll, el, sl, wr', w1, Bool.false_and, Bool.and_false, sy, tup, ↓reduceIte, Nat.reduceEqDiff, Nat.reduceAdd, Nat.reduceSub, Nat.reduceMul, Nat.reduceLeDiff, Int.reduceBEq, reduceCtorEq]
        exact ⟨M - (i + 1), by omega, i + 1, rfl, by omega, trivial, by simp [q0], by simp [q2], by simp [q4], by simp [q57], by simp, tF, gF⟩
      have h5 : fld D 13 1 = i := Classical.byContradiction h5'
      have c5 := eqn h5
      have hk : keepM B l.length C i := ⟨D, hC, h1, ⟨by rw [hMM]; exact h2, h3, h4⟩, h5⟩
      simp only [c39_l0, q0, q2, q4, q57, q58, hlt', e1, hH4, s4, wS, l1, l2, l3, l4, l5, c1, c2, c3, c4, c5, w1, sy, tup, ↓reduceIte, Nat.reduceEqDiff, Nat.reduceAdd, Nat.reduceSub, Nat.reduceMul, Nat.reduceLeDiff, Int.reduceBEq, reduceCtorEq]
      exact ⟨M - (i + 1), by omega, i + 1, rfl, by omega, trivial, by simp [q0], by simp [q2], by simp [q4], by simp [q57], by simp, tz.trans ((t3.trans t4).wide (fun c hc => hc.elim)), by rw [lost_keep hk]; exact g4'⟩
  · have hi' : i = M := by omega
    have hnl : ¬ (i : Int) < (M : Int) := by omega
    subst hi'
    simp only [c39_l0, q0, q2, q4, q57, q58, hnl, sy, tup, ↓reduceIte, Nat.reduceEqDiff, Nat.reduceAdd, Nat.reduceSub, Nat.reduceMul, Nat.reduceLeDiff, Int.reduceBEq, reduceCtorEq]
    exact ⟨trivial, trivial, by first | trivial | exact q2, by first | trivial | exact q4, tz, gb⟩
end
end Go.Proofs.YtejgheoandfikaaGreat.draft
set_option linter.unusedVariables false
set_option linter.unusedSimpArgs false
set_option maxRecDepth 10000
namespace Go.Proofs.YtejgheoandfikaaGreat.draft
open Go.Am
noncomputable def foundC (B : disk.Bn) (N C : Nat) : V := fnd (sealN C) (fld C 0 8) (fld C 8 1) (fld C 9 2) (fld C 11 2) (lostS B N C (fld C 8 1)).1 ((lostS B N C (fld C 8 1)).2 : Int) (((fld C 20 1 : Nat) : Int) == 1)
theorem look_ok {H : Heap} {b ds : Bk} {so : Nat} {l : List disk.Dv} {B : disk.Bn} (h : disk.BRep H b ds so l B) (hl : l ≠ []) (hg : ∀ D ∈ B.l, disk.Good D) (hdk : B.dk = false) (hlen : l.length ≤ 17) {lf : Nat} (hlf : 1000 < lf) (n : Nat) :
    ret (callS Tryz.prog S0 lf (n + 9) 39 [.ptr (some ⟨b, 0⟩)] H) fun v H' => Turns Z H H' ∧
      ((bestC B l.length (l.length - 1) = none ∧ v = .tuple [.agg zf, .int .i64 7]) ∨ ∃ C, bestC B l.length (l.length - 1) = some C ∧ v = .tuple [foundC B l.length C, .int .i64 0]) := by
  have hzf : zf = [.int .u64 0, .int .u64 0, .int .i64 0, .int .i64 0, .int .i64 0, .int .u8 0, .int .u8 0, .int .u8 0, .int .u8 0, .int .u8 0, .int .u8 0, .int .u8 0, .int .u8 0, .int .u8 0, .int .u8 0, .int .u8 0, .int .u8 0, .int .u8 0, .int .u8 0, .int .u8 0, .int .u8 0, .int .i64 0, .bool false] := rfl
  have hN : 1 ≤ l.length := by cases l with
    | nil => exact absurd rfl hl
    | cons x xs => simp
  have t1 := Turns.add Z H (.rows false 23 [zf])
  have hg1 : (H.add (.rows false 23 [zf])).get (.run H.next) = some (.rows false 23 [zf]) := by rw [Heap.get_add, if_pos rfl]
  have hn1 : (H.add (.rows false 23 [zf])).next = H.next + 1 := by simp
  obtain ⟨H1, hH1⟩ : ∃ K, H.add (.rows false 23 [zf]) = K := ⟨_, rfl⟩
  rw [hH1] at t1 hg1 hn1
  have e1 : callS Tryz.prog S0 lf (n + 8) 106 [.ptr (some ⟨b, 0⟩)] H1 = _ := bench_devs (h.turns t1) hl lf (n + 6)
  have e2 : callS Tryz.prog S0 lf (n + 8) 107 [.ptr (some ⟨b, 0⟩)] H1 = some (.v (.bool false), H1) := by rw [← hdk]; exact disk.bdark (h.turns t1).at' hl lf (n + 6)
  have b0 : ((l.length : Int) == 0) = false := by simp; exact hl
  have w1 : IntKind.i64.wrap ((l.length : Int) - 1) = (l.length : Int) - 1 := wrap_i64 (by omega)
  have t2 := Turns.add Z H1 (.rows false 23 [zf])
  have hg2 : (H1.add (.rows false 23 [zf])).get (.run (H.next + 1)) = some (.rows false 23 [zf]) := by rw [Heap.get_add, if_pos (by rw [hn1])]
  have hn2 : (H1.add (.rows false 23 [zf])).next = H.next + 2 := by simp [hn1]
  obtain ⟨H2, hH2⟩ : ∃ K, H1.add (.rows false 23 [zf]) = K := ⟨_, rfl⟩
  rw [hH2] at t2 hg2 hn2
  have g2 : H2.get (.run H.next) = some (.rows false 23 [zf]) := (t2.same (.run H.next) (by show _ < _; omega) id).trans hg1
  have e3 : callS Tryz.prog S0 lf (n + 8) 106 [.ptr (some ⟨b, 0⟩)] H2 = _ := bench_devs (h.turns (t1.trans t2)) hl lf (n + 6)
  have L1 := look1 h hl hg hdk hlen hlf n (b2 := H.next) (b4 := H.next + 1) (t1.trans t2) ⟨by omega, by omega⟩ hg2
  have zH1 := hH1
  have zH2 := hH2
  rw [hzf] at zH1 zH2
  refine ret_call rfl c39_eq ?_
  simp only [c39, zH1, e1, e2, b0, zH2, hn1, e3, w1, sy, tup, ↓reduceIte, Nat.reduceEqDiff, Nat.reduceAdd, Nat.reduceSub, Nat.reduceMul, Nat.reduceLeDiff, Int.reduceBEq, reduceCtorEq]
  refine wp_ctx (F := fun r => seqC _ _ _ (blockC _ r)) (L1 _ ?_ ?_ ?_ ?_ ?_) ?_
  · simp only [sy, tup, ↓reduceIte, Nat.reduceEqDiff, Nat.reduceAdd, Nat.reduceSub, Nat.reduceMul, Nat.reduceLeDiff, Int.reduceBEq, reduceCtorEq]
  · simp only [sy, tup, ↓reduceIte, Nat.reduceEqDiff, Nat.reduceAdd, Nat.reduceSub, Nat.reduceMul, Nat.reduceLeDiff, Int.reduceBEq, reduceCtorEq]
  · simp only [sy, tup, ↓reduceIte, Nat.reduceEqDiff, Nat.reduceAdd, Nat.reduceSub, Nat.reduceMul, Nat.reduceLeDiff, Int.reduceBEq, reduceCtorEq]
  · simp only [sy, tup, ↓reduceIte, Nat.reduceEqDiff, Nat.reduceAdd, Nat.reduceSub, Nat.reduceMul, Nat.reduceLeDiff, Int.reduceBEq, reduceCtorEq]
  · simp only [sy, tup, ↓reduceIte, Nat.reduceEqDiff, Nat.reduceAdd, Nat.reduceSub, Nat.reduceMul, Nat.reduceLeDiff, Int.reduceBEq, reduceCtorEq]
  rintro x ⟨t, HH, d⟩ ⟨rfl, hd', q0, q2, q4, tz, gb⟩
  dsimp only at hd' q0 q2 q4 tz gb
  subst hd'
  have tH : Turns Z H HH := (t1.trans t2).later tz (fun c ho e => by subst e; exact absurd ho (Heap.not_old (by omega)))
  have gA : HH.get (.run H.next) = some (.rows false 23 [zf]) := (tz.same (.run H.next) (by show _ < _; omega) (run_ne (by omega))).trans g2
  have nH : H.next + 2 ≤ HH.next := by have := tz.next; omega
  have ans : ∀ {K : Heap} {row : List V}, K.get (.run H.next) = some (.rows false 23 [zf]) → Turns Z H K → row.length = 23 → Thin row → Go.Am.put zf 0 row = some row → ∃ F, storeAt K ⟨.run H.next, 0⟩ row = some F ∧ loadAt F ⟨.run H.next, 0⟩ 23 = some row ∧ Turns Z H F := fun {K row} gK tK hr ht hp => by
    refine ⟨_, storeAt_eq gK (r := zf) (r' := row) rfl hp, ?_, tK.setnew (Nat.le_refl _) _⟩
    rw [loadAt_eq (b := .run H.next) (r := row) (by rw [Heap.get_set, if_pos rfl]) rfl, cut_thin ht (by omega)]
    simp [← hr]
  cases hC : bestC B l.length (l.length - 1) with
  | none =>
    rw [hC] at gb
    have lev : loadAt HH ⟨.run (H.next + 1), 0⟩ 1 = some [.int .u64 0] := ev_load gb
    obtain ⟨F, sf, lf', tF⟩ := ans (row := zf) gA tH rfl (f_thin 0 0 0 0 0 (List.replicate 16 0) 0 false) (put_ff (by simp) (by simp) _ _ _ _ _ _ _ _ _ _ _ _ _ _)
    have wz : width zf = 23 := f_width (by simp) _ _ _ _ _ _ _
    rw [hzf] at sf lf' wz
    simp only [q0, q2, q4, lev, sf, lf', wz, sy, tup, ↓reduceIte, Nat.reduceEqDiff, Nat.reduceAdd, Nat.reduceSub, Nat.reduceMul, Nat.reduceLeDiff, Int.reduceBEq, reduceCtorEq]
    exact ⟨trivial, .inr trivial, _, rfl, tF, .inl ⟨trivial, by rw [hzf]⟩⟩
  | some C =>
    rw [hC] at gb
    obtain ⟨i, hi, hgC⟩ := bestC_ok hC
    have hE := (gC_ok hgC).1
    have hpos := ev_pos hE
    have hf := (isSup_of hE).2.2.1.2.2.2
    have hF : FndAt HH (.run (H.next + 1)) (sealN C) (fld C 0 8) (fld C 8 1) (fld C 9 2) (fld C 11 2) (gSt C) (fld C 18 2) (((fld C 20 1 : Nat) : Int) == 1) := ⟨gb, gSt_len C⟩
    have lev := fnd_ev hF
    have lm := fnd_m hF
    have hz : (((sealN C : Nat) : Int) == 0) = false := by simp; omega
    have L2 := look2 h hl hg hdk hlen hlf n (b2 := H.next) (b4 := H.next + 1) tH ⟨by omega, by omega⟩ hf gb
    simp only [q0, q2, q4, lev, hz, lm, sy, tup, ↓reduceIte, Nat.reduceEqDiff, Nat.reduceAdd, Nat.reduceSub, Nat.reduceMul, Nat.reduceLeDiff, Int.reduceBEq, reduceCtorEq]
    refine wp_ctx (F := fun r => seqC _ _ _ (blockC _ r)) (L2 _ ?_ ?_ ?_ ?_ ?_) ?_
    · simp only [q0, sy, tup, ↓reduceIte, Nat.reduceEqDiff, Nat.reduceAdd, Nat.reduceSub, Nat.reduceMul, Nat.reduceLeDiff, Int.reduceBEq, reduceCtorEq]
    · simp only [q2, sy, tup, ↓reduceIte, Nat.reduceEqDiff, Nat.reduceAdd, Nat.reduceSub, Nat.reduceMul, Nat.reduceLeDiff, Int.reduceBEq, reduceCtorEq]
    · simp only [q4, sy, tup, ↓reduceIte, Nat.reduceEqDiff, Nat.reduceAdd, Nat.reduceSub, Nat.reduceMul, Nat.reduceLeDiff, Int.reduceBEq, reduceCtorEq]
    · simp only [sy, tup, ↓reduceIte, Nat.reduceEqDiff, Nat.reduceAdd, Nat.reduceSub, Nat.reduceMul, Nat.reduceLeDiff, Int.reduceBEq, reduceCtorEq]
    · simp only [sy, tup, ↓reduceIte, Nat.reduceEqDiff, Nat.reduceAdd, Nat.reduceSub, Nat.reduceMul, Nat.reduceLeDiff, Int.reduceBEq, reduceCtorEq]
    rintro x ⟨t', HK, d⟩ ⟨rfl, hd', q2, q4, tz2, gb2⟩
    dsimp only at hd' q2 q4 tz2 gb2
    subst hd'
    have tK : Turns Z H HK := tH.later tz2 (fun c ho e => by subst e; exact absurd ho (Heap.not_old (by omega)))
    have gA2 : HK.get (.run H.next) = some (.rows false 23 [zf]) := (tz2.same (.run H.next) (by show _ < _; omega) (run_ne (by omega))).trans gA
    have hSl := lostS_len B l.length C (fld C 8 1)
    have la := fnd_all (H := HK) (b := .run (H.next + 1)) (S := (lostS B l.length C (fld C 8 1)).1) ⟨gb2, hSl⟩
    have wf := f_width hSl (sealN C) (fld C 0 8) (fld C 8 1) (fld C 9 2) (fld C 11 2) ((lostS B l.length C (fld C 8 1)).2 : Int) (((fld C 20 1 : Nat) : Int) == 1)
    obtain ⟨F, sf, lf', tF⟩ := ans gA2 tK (f_len hSl (sealN C) (fld C 0 8) (fld C 8 1) (fld C 9 2) (fld C 11 2) ((lostS B l.length C (fld C 8 1)).2 : Int) (((fld C 20 1 : Nat) : Int) == 1)) (f_thin _ _ _ _ _ _ _ _) (put_ff (by simp) hSl _ _ _ _ _ _ _ _ _ _ _ _ _ _)
    simp only [q2, q4, la, wf, sf, lf', sy, tup, ↓reduceIte, Nat.reduceEqDiff, Nat.reduceAdd, Nat.reduceSub, Nat.reduceMul, Nat.reduceLeDiff, Int.reduceBEq, reduceCtorEq]
    exact ⟨trivial, .inr trivial, _, rfl, tF, .inr ⟨C, rfl, rfl⟩⟩
end Go.Proofs.YtejgheoandfikaaGreat.draft
