/-
  'ShelfNew': its run.
-/
import Derived.Test.YtejgheoandfikaaGeom
set_option linter.unusedVariables false
set_option linter.unusedSimpArgs false
set_option maxRecDepth 10000
namespace Go.Proofs.Ytejgheoandfikaa.draft
open Go.Am

/-- ashlar/lru.New -/
noncomputable def c26 : CFn := ⟨[.tmp (pp 2), .tmp (pp 3)],
 .seq (.reg [
 qo 2 (.p (S.get (.c (.ptr none)))) [],
 qo 3 (.p (S.get (ii 0))) []]) (
 .seq (.seq (.reg [
 mv 5 0,
 qo 6 (.p (arF .lss (tt 5) (ii 1))) [pp 5],
 mv 7 6,
 mg 8 0 7 false,
 qg 9 (.p (arF .gtr (tt 8) (ii 64))) 7 false [pp 8],
 qo 10 (.p (pickF (tt 7) (.c (.bool true)) (tt 9))) [pp 7, pp 9]]) (
 .cond (tt 10) (.seq (.reg [
 qo 2 (.p (S.get (.c (.ptr none)))) [],
 qo 3 (.p (S.get (ii 2))) []]) (
 .ret)) (.skip))) (
 .seq (.reg [
 qo 11 (.p (buildF [.int .i64 0, .bool false, .ptr none, .ptr none] .ag [])) [],
 qo 12 (.m (boxF 4 (tt 11))) [pp 11],
 mv 4 12]) (
 .seq (.reg [
 mv 13 4,
 mv 14 4,
 mv 15 4,
 mv 16 4,
 qo 17 (.p (nilcF (tt 13))) [pp 13],
 qo 18 (.p (faddrF (tt 17) 2)) [pp 17],
 qn (.a (storeF (tt 18) (tt 15) 1)) [pp 18, pp 15],
 qo 19 (.p (nilcF (tt 14))) [pp 14],
 qo 20 (.p (faddrF (tt 19) 3)) [pp 19],
 qn (.a (storeF (tt 20) (tt 16) 1)) [pp 20, pp 16]]) (
 .seq (.reg [
 mv 21 0,
 qo 22 (.m mkmapF) [],
 mv 23 4,
 qo 24 (.p (buildF [.int .i64 0, .map none, .ptr none] .ag [(0, 1, (tt 21)), (1, 1, (tt 22)), (2, 1, (tt 23))])) [pp 21, pp 22, pp 23],
 qo 25 (.m (boxF 3 (tt 24))) [pp 24],
 mv 2 25,
 qo 3 (.p (S.get (ii 0))) []]) (
 .ret)))))⟩
theorem c26_eq : fnOf Try.prog 26 = some c26 := by kernel_rfl

/-- ashlar/shelf.New -/
noncomputable def c6 : CFn := ⟨[.tmp (pp 4), .tmp (pp 5)],
 .seq (.reg [
 qo 2 (.m (boxF 3 (tt 0))) [pp 0],
 qo 4 (.p (S.get (.c (.ptr none)))) [],
 qo 5 (.p (S.get (ii 0))) []]) (
 .seq (.reg [
 mv 9 1,
 qo 10 (.c (callF (ff 26) [(tt 9)])) [pp 9],
 mv 8 10,
 qo 11 (.p (extF (tt 8) 0)) [pp 8],
 qo 12 (.p (extF (tt 8) 1)) [pp 8],
 mv 6 11,
 mv 7 12]) (
 .seq (.seq (.reg [
 mv 13 7,
 qo 14 (.p (eqcF true false [.int .i64] (tt 13) (ii 0))) [pp 13],
 mv 15 14,
 qg 16 (.r (loadF (tt 2) 3 .ag)) 15 false [pp 2],
 qg 17 (.c (callF (ff 27) [(tt 16)])) 15 false [pp 16],
 qg 18 (.p (unF .not (tt 17))) 15 false [pp 17],
 qo 19 (.p (pickF (tt 15) (.c (.bool true)) (tt 18))) [pp 15, pp 18]]) (
 .cond (tt 19) (.seq (.reg [
 qo 4 (.p (S.get (.c (.ptr none)))) [],
 qo 5 (.p (S.get (ii 2))) []]) (
 .ret)) (.skip))) (
 .seq (.reg [
 qo 20 (.r (loadF (tt 2) 3 .ag)) [pp 2],
 mv 21 6,
 qo 22 (.m mkmapF) [],
 qo 23 (.p (buildF [.int .i64 0, .int .i64 0, .int .i64 0, .ptr none, .map none] .ag [(0, 3, (tt 20)), (3, 1, (tt 21)), (4, 1, (tt 22))])) [pp 20, pp 21, pp 22],
 qo 24 (.m (boxF 5 (tt 23))) [pp 23],
 mv 4 24,
 qo 5 (.p (S.get (ii 0))) []]) (
 .ret))))⟩
theorem c6_eq : fnOf Try.prog 6 = some c6 := by kernel_rfl

/-- ashlar/ashlarref20.New -/
noncomputable def c7 : CFn := ⟨[.tmp (pp 4), .tmp (pp 5)],
 .seq (.reg [
 qo 2 (.m (boxF 3 (tt 0))) [pp 0],
 qo 4 (.p (S.get (.c (.ptr none)))) [],
 qo 5 (.p (S.get (ii 0))) []]) (
 .seq (.seq (.reg [
 qo 6 (.r (loadF (tt 2) 3 .ag)) [pp 2],
 qo 7 (.c (callF (ff 28) [(tt 6)])) [pp 6],
 qo 8 (.p (unF .not (tt 7))) [pp 7],
 mv 9 8,
 mg 10 1 9 false,
 qg 11 (.p (arF .lss (tt 10) (ii 1))) 9 false [pp 10],
 qo 12 (.p (pickF (tt 9) (.c (.bool true)) (tt 11))) [pp 9, pp 11],
 mv 13 12,
 mg 14 1 13 false,
 qg 15 (.p (arF .gtr (tt 14) (ii 64))) 13 false [pp 14],
 qo 16 (.p (pickF (tt 13) (.c (.bool true)) (tt 15))) [pp 13, pp 15]]) (
 .cond (tt 16) (.seq (.reg [
 qo 4 (.p (S.get (.c (.ptr none)))) [],
 qo 5 (.p (S.get (ii 2))) []]) (
 .ret)) (.skip))) (
 .seq (.regD [
 qo 17 (.r (loadF (tt 2) 3 .ag)) [pp 2],
 mv 18 1,
 qo 19 (.p (faddrF (tt 2) 1)) [pp 2],
 qo 20 (.r (loadF (tt 19) 1 .sc)) [pp 19],
 qo 21 (.m (mksliceF 1 8 [.ptr none] (tt 20) (tt 20))) [pp 20, pp 20],
 qo 22 (.p (buildF [.int .i64 0, .int .i64 0, .int .i64 0, .int .i64 0, .slice none 0 0 0, .slice none 0 0 0] .ag [(0, 3, (tt 17)), (3, 1, (tt 18)), (5, 1, (tt 21))])) [pp 17, pp 18, pp 21],
 qo 23 (.m (boxF 6 (tt 22))) [pp 22],
 mv 4 23,
 qo 5 (.p (S.get (ii 0))) []] [0, 0, 0, 4, 12, 31, 63, 127, 255]) (
 .ret)))⟩
theorem c7_eq : fnOf Try.prog 7 = some c7 := by kernel_rfl

/-- ashlar/ashlarlaw20.ShelfNew -/
noncomputable def c3 : CFn := ⟨[.tmp (pp 4)],
 .seq (.reg [
 qo 2 (.m (boxF 3 (tt 0))) [pp 0],
 qo 4 (.p (S.get (.c (.bool false)))) []]) (
 .seq (.reg [
 qo 10 (.r (loadF (tt 2) 3 .ag)) [pp 2],
 mv 11 1,
 qo 12 (.c (callF (ff 6) [(tt 10), (tt 11)])) [pp 10, pp 11],
 mv 9 12,
 qo 13 (.p (extF (tt 9) 0)) [pp 9],
 qo 14 (.p (extF (tt 9) 1)) [pp 9],
 mv 5 13,
 mv 6 14]) (
 .seq (.reg [
 qo 16 (.r (loadF (tt 2) 3 .ag)) [pp 2],
 mv 17 1,
 qo 18 (.c (callF (ff 7) [(tt 16), (tt 17)])) [pp 16, pp 17],
 mv 15 18,
 qo 19 (.p (extF (tt 15) 0)) [pp 15],
 qo 20 (.p (extF (tt 15) 1)) [pp 15],
 mv 7 19,
 mv 8 20]) (
 .seq (.reg [
 mv 21 6,
 mv 22 8,
 qo 23 (.p (eqcF false false [.int .i64] (tt 21) (tt 22))) [pp 21, pp 22],
 mv 24 23,
 mg 25 5 24 true,
 qg 26 (.r (eqnF true .ptr (tt 25) (.c (.ptr none)))) 24 true [pp 25],
 mg 27 8 24 true,
 qg 28 (.p (eqcF false false [.int .i64] (tt 27) (ii 0))) 24 true [pp 27],
 qg 29 (.p (eqcF false false [.bool] (tt 26) (tt 28))) 24 true [pp 26, pp 28],
 qo 30 (.p (pickF (tt 24) (tt 29) (.c (.bool false)))) [pp 24, pp 29],
 mv 31 30,
 qg 32 (.c (callF (ff 8) [])) 31 true [],
 qo 33 (.p (pickF (tt 31) (tt 32) (.c (.bool false)))) [pp 31, pp 32],
 mv 4 33]) (
 .ret))))⟩
theorem c3_eq : fnOf Try.prog 3 = some c3 := by kernel_rfl


theorem inn_f {n lo hi : Int} (h : inn n lo hi = false) : n < lo ∨ hi < n := by
  simp only [inn, Bool.and_eq_false_iff, decide_eq_false_iff_not] at h
  omega

theorem lru_ok (H : Heap) (room : Int) (lf n : Nat) : ret (callS Try.prog S0 lf (n + 1) 26 [.int .i64 room] H) fun v H' => Turns Z H H' ∧ ((inn room 1 64 = false ∧ v = .tuple [.ptr none, .int .i64 2]) ∨ (inn room 1 64 = true ∧ ∃ b, v = .tuple [.ptr (some ⟨.run b, 0⟩), .int .i64 0])) := by
  refine ret_call rfl c26_eq ?_
  cases hr : inn room 1 64 with
  | false =>
    by_cases h1 : room < 1
    · simp only [c26, h1, sy, tup, ↓reduceIte, Nat.reduceEqDiff, Nat.reduceAdd, Nat.reduceSub, Nat.reduceMul, Nat.reduceDiv, Nat.reduceMod, Nat.reduceLeDiff, Int.reduceBEq, reduceCtorEq]
      exact ⟨trivial, .inr trivial, _, rfl, Turns.refl _ _, .inl ⟨trivial, rfl⟩⟩
    · have h2 : 64 < room := by rcases inn_f hr with h | h <;> omega
      simp only [c26, h1, h2, sy, tup, ↓reduceIte, Nat.reduceEqDiff, Nat.reduceAdd, Nat.reduceSub, Nat.reduceMul, Nat.reduceDiv, Nat.reduceMod, Nat.reduceLeDiff, Int.reduceBEq, reduceCtorEq]
      exact ⟨trivial, .inr trivial, _, rfl, Turns.refl _ _, .inl ⟨trivial, rfl⟩⟩
  | true =>
    obtain ⟨h1, h2⟩ := inn_t hr
    have h1 : ¬ room < 1 := by omega
    have h2 : ¬ 64 < room := by omega
    have hg : (H.add (.rows false 4 [[.int .i64 0, .bool false, .ptr none, .ptr none]])).get (.run H.next) = some (.rows false 4 [[.int .i64 0, .bool false, .ptr none, .ptr none]]) := by rw [Heap.get_add, if_pos rfl]
    have s1 : storeAt (H.add (.rows false 4 [[.int .i64 0, .bool false, .ptr none, .ptr none]])) ⟨.run H.next, 2⟩ [.ptr (some ⟨.run H.next, 0⟩)] = some ((H.add (.rows false 4 [[.int .i64 0, .bool false, .ptr none, .ptr none]])).set (.run H.next) (.rows false 4 [[.int .i64 0, .bool false, .ptr (some ⟨.run H.next, 0⟩), .ptr none]])) := storeAt_eq hg (r := _) rfl rfl
    have hg2 : ((H.add (.rows false 4 [[.int .i64 0, .bool false, .ptr none, .ptr none]])).set (.run H.next) (.rows false 4 [[.int .i64 0, .bool false, .ptr (some ⟨.run H.next, 0⟩), .ptr none]])).get (.run H.next) = some (.rows false 4 [[.int .i64 0, .bool false, .ptr (some ⟨.run H.next, 0⟩), .ptr none]]) := by rw [Heap.get_set, if_pos rfl]
    have s2 : storeAt ((H.add (.rows false 4 [[.int .i64 0, .bool false, .ptr none, .ptr none]])).set (.run H.next) (.rows false 4 [[.int .i64 0, .bool false, .ptr (some ⟨.run H.next, 0⟩), .ptr none]])) ⟨.run H.next, 3⟩ [.ptr (some ⟨.run H.next, 0⟩)] = some (((H.add (.rows false 4 [[.int .i64 0, .bool false, .ptr none, .ptr none]])).set (.run H.next) (.rows false 4 [[.int .i64 0, .bool false, .ptr (some ⟨.run H.next, 0⟩), .ptr none]])).set (.run H.next) (.rows false 4 [[.int .i64 0, .bool false, .ptr (some ⟨.run H.next, 0⟩), .ptr (some ⟨.run H.next, 0⟩)]])) := storeAt_eq hg2 (r := _) rfl rfl
    simp only [c26, h1, h2, s1, s2, mkmapF, sy, tup, ↓reduceIte, Nat.reduceEqDiff, Nat.reduceAdd, Nat.reduceSub, Nat.reduceMul, Nat.reduceDiv, Nat.reduceMod, Nat.reduceLeDiff, Int.reduceBEq, reduceCtorEq]
    refine ⟨trivial, .inr trivial, _, rfl, ((((Turns.add Z H _).setnew (Nat.le_refl _) _).setnew (Nat.le_refl _) _).addm _).addm _, .inr ⟨trivial, _, rfl⟩⟩

theorem put_s (m s r : Int) : put [.int .i64 0, .int .i64 0, .int .i64 0, .ptr none, .map none] 0 [.int .i64 m, .int .i64 s, .int .i64 r] = some [.int .i64 m, .int .i64 s, .int .i64 r, .ptr none, .map none] := rfl
theorem put_rs (m s r : Int) : put [.int .i64 0, .int .i64 0, .int .i64 0, .int .i64 0, .slice none 0 0 0, .slice none 0 0 0] 0 [.int .i64 m, .int .i64 s, .int .i64 r] = some [.int .i64 m, .int .i64 s, .int .i64 r, .int .i64 0, .slice none 0 0 0, .slice none 0 0 0] := rfl

/-- what both answer -/
def sok (m s r room : Int) : Bool := inn room 1 64 && may m s r

theorem snew_ok (H : Heap) (m s r room : Int) (lf n : Nat) : ret (callS Try.prog S0 lf (n + 3) 6 [geo m s r, .int .i64 room] H) fun v H' => Turns Z H H' ∧ ((sok m s r room = false ∧ v = .tuple [.ptr none, .int .i64 2]) ∨ (sok m s r room = true ∧ ∃ b, v = .tuple [.ptr (some ⟨.run b, 0⟩), .int .i64 0])) := by
  have t1 := Turns.add Z H (.rows false 3 [[.int .i64 m, .int .i64 s, .int .i64 r]])
  have hg : (H.add (.rows false 3 [[.int .i64 m, .int .i64 s, .int .i64 r]])).get (.run H.next) = some (.rows false 3 [[.int .i64 m, .int .i64 s, .int .i64 r]]) := by rw [Heap.get_add, if_pos rfl]
  have ho : (H.add (.rows false 3 [[.int .i64 m, .int .i64 s, .int .i64 r]])).Old (.run H.next) := by show _ < _; simp
  generalize hH1 : H.add (.rows false 3 [[.int .i64 m, .int .i64 s, .int .i64 r]]) = H1 at *
  obtain ⟨v, H2, e1, t2, hv⟩ := lru_ok H1 room lf (n + 1)
  change callS Try.prog S0 lf (n + 2) 26 _ _ = _ at e1
  have hg2 := (t2.same _ ho id).trans hg
  have lw2 : loadAt H2 ⟨.run H.next, 0⟩ 3 = some [.int .i64 m, .int .i64 s, .int .i64 r] := by rw [loadAt_eq hg2 rfl]; rfl
  obtain ⟨_, H3, e2, rfl, t3⟩ := may_ok H2 m s r lf n
  unfold geo at e2
  have hg3 := (t3.same _ (Heap.Old.mono t2.next ho) id).trans hg2
  have lw3 : loadAt H3 ⟨.run H.next, 0⟩ 3 = some [.int .i64 m, .int .i64 s, .int .i64 r] := by rw [loadAt_eq hg3 rfl]; rfl
  have tt : Turns Z H H3 := (t1.trans t2).trans t3
  refine ret_call rfl c6_eq ?_
  rcases hv with ⟨hr, rfl⟩ | ⟨hr, b, rfl⟩
  · simp only [c6, geo, hH1, e1, sy, tup, ↓reduceIte, Nat.reduceEqDiff, Nat.reduceAdd, Nat.reduceSub, Nat.reduceMul, Nat.reduceDiv, Nat.reduceMod, Nat.reduceLeDiff, Int.reduceBEq, reduceCtorEq]
    exact ⟨trivial, .inr trivial, _, rfl, t1.trans t2, .inl ⟨by simp [sok, hr], rfl⟩⟩
  · cases hm : may m s r with
    | false =>
      rw [hm] at e2
      simp only [c6, geo, hH1, e1, e2, lw2, sy, tup, ↓reduceIte, Nat.reduceEqDiff, Nat.reduceAdd, Nat.reduceSub, Nat.reduceMul, Nat.reduceDiv, Nat.reduceMod, Nat.reduceLeDiff, Int.reduceBEq, reduceCtorEq]
      exact ⟨trivial, .inr trivial, _, rfl, tt, .inl ⟨by simp [sok, hm], rfl⟩⟩
    | true =>
      rw [hm] at e2
      simp only [c6, geo, hH1, e1, e2, lw2, lw3, mkmapF, put_s, sy, tup, ↓reduceIte, Nat.reduceEqDiff, Nat.reduceAdd, Nat.reduceSub, Nat.reduceMul, Nat.reduceDiv, Nat.reduceMod, Nat.reduceLeDiff, Int.reduceBEq, reduceCtorEq]
      refine ⟨trivial, .inr trivial, _, rfl, (tt.addm _).addm _, .inr ⟨by simp [sok, hr, hm], _, rfl⟩⟩

theorem rsnew_ok (H : Heap) (m s r room : Int) (lf n : Nat) : ret (callS Try.prog S0 lf (n + 2) 7 [geo m s r, .int .i64 room] H) fun v H' => Turns Z H H' ∧ ((sok m s r room = false ∧ v = .tuple [.ptr none, .int .i64 2]) ∨ (sok m s r room = true ∧ ∃ b, v = .tuple [.ptr (some ⟨.run b, 0⟩), .int .i64 0])) := by
  have t1 := Turns.add Z H (.rows false 3 [[.int .i64 m, .int .i64 s, .int .i64 r]])
  have hg : (H.add (.rows false 3 [[.int .i64 m, .int .i64 s, .int .i64 r]])).get (.run H.next) = some (.rows false 3 [[.int .i64 m, .int .i64 s, .int .i64 r]]) := by rw [Heap.get_add, if_pos rfl]
  have ho : (H.add (.rows false 3 [[.int .i64 m, .int .i64 s, .int .i64 r]])).Old (.run H.next) := by show _ < _; simp
  generalize hH1 : H.add (.rows false 3 [[.int .i64 m, .int .i64 s, .int .i64 r]]) = H1 at *
  have lw1 : loadAt H1 ⟨.run H.next, 0⟩ 3 = some [.int .i64 m, .int .i64 s, .int .i64 r] := by rw [loadAt_eq hg rfl]; rfl
  obtain ⟨_, H2, e2, rfl, t2⟩ := rmay_ok H1 m s r lf n
  unfold geo at e2
  have hg2 := (t2.same _ ho id).trans hg
  have lw2 : loadAt H2 ⟨.run H.next, 0⟩ 3 = some [.int .i64 m, .int .i64 s, .int .i64 r] := by rw [loadAt_eq hg2 rfl]; rfl
  have l2 : loadAt H2 ⟨.run H.next, 1⟩ 1 = some [.int .i64 s] := by rw [loadAt_eq hg2 rfl]; rfl
  have tt : Turns Z H H2 := t1.trans t2
  refine ret_call rfl c7_eq ?_
  cases hm : may m s r with
  | false =>
    rw [hm] at e2
    simp only [c7, geo, hH1, e2, lw1, sy, tup, ↓reduceIte, Nat.reduceEqDiff, Nat.reduceAdd, Nat.reduceSub, Nat.reduceMul, Nat.reduceDiv, Nat.reduceMod, Nat.reduceLeDiff, Int.reduceBEq, reduceCtorEq]
    exact ⟨trivial, .inr trivial, _, rfl, tt, .inl ⟨by simp [sok, hm], rfl⟩⟩
  | true =>
    rw [hm] at e2
    cases hr : inn room 1 64 with
    | false =>
      by_cases h1 : room < 1
      · simp only [c7, geo, hH1, e2, lw1, h1, sy, tup, ↓reduceIte, Nat.reduceEqDiff, Nat.reduceAdd, Nat.reduceSub, Nat.reduceMul, Nat.reduceDiv, Nat.reduceMod, Nat.reduceLeDiff, Int.reduceBEq, reduceCtorEq]
        exact ⟨trivial, .inr trivial, _, rfl, tt, .inl ⟨by simp [sok, hr], rfl⟩⟩
      · have h2 : 64 < room := by rcases inn_f hr with h | h <;> omega
        simp only [c7, geo, hH1, e2, lw1, h1, h2, sy, tup, ↓reduceIte, Nat.reduceEqDiff, Nat.reduceAdd, Nat.reduceSub, Nat.reduceMul, Nat.reduceDiv, Nat.reduceMod, Nat.reduceLeDiff, Int.reduceBEq, reduceCtorEq]
        exact ⟨trivial, .inr trivial, _, rfl, tt, .inl ⟨by simp [sok, hr], rfl⟩⟩
    | true =>
      obtain ⟨h1, h2⟩ := inn_t hr
      have h1 : ¬ room < 1 := by omega
      have h2 : ¬ 64 < room := by omega
      obtain ⟨_, hs, _⟩ := may_t hm
      obtain ⟨k, rfl⟩ : ∃ k : Nat, s = (k : Int) := ⟨s.toNat, by omega⟩
      have g3 : k ≤ k := Nat.le_refl _
      have g4 : 8 * k ≤ 1099511627776 := by omega
      have g5 : k ≤ 1099511627776 := by omega
      simp only [c7, geo, hH1, e2, lw1, lw2, l2, h1, h2, g3, g4, g5, mksliceF, put_rs, sy, tup, ↓reduceIte, Nat.reduceEqDiff, Nat.reduceAdd, Nat.reduceSub, Nat.reduceMul, Nat.reduceDiv, Nat.reduceMod, Nat.reduceLeDiff, Int.reduceBEq, reduceCtorEq]
      rw [endD_ok rfl rfl]
      simp only [sy, tup, ↓reduceIte, Nat.reduceEqDiff, Nat.reduceAdd, Nat.reduceSub, Nat.reduceMul, Nat.reduceDiv, Nat.reduceMod, Nat.reduceLeDiff, Int.reduceBEq, reduceCtorEq]
      refine ⟨trivial, .inr trivial, _, rfl, (tt.addm _).addm _, .inr ⟨by simp [sok, hr, hm], _, rfl⟩⟩

theorem slives_ok (lf n : Nat) (H : Heap) : callS Try.prog S0 lf (n + 1) 8 [] H = some (.v (.bool true), H) := rfl

theorem shelfnew_run (H : Heap) (m s r room : Int) (lf n : Nat) : ret (callS Try.prog S0 lf (n + 4) 3 [geo m s r, .int .i64 room] H) fun v H' => v = .bool true ∧ Turns Z H H' := by
  have t1 := Turns.add Z H (.rows false 3 [[.int .i64 m, .int .i64 s, .int .i64 r]])
  have hg : (H.add (.rows false 3 [[.int .i64 m, .int .i64 s, .int .i64 r]])).get (.run H.next) = some (.rows false 3 [[.int .i64 m, .int .i64 s, .int .i64 r]]) := by rw [Heap.get_add, if_pos rfl]
  have ho : (H.add (.rows false 3 [[.int .i64 m, .int .i64 s, .int .i64 r]])).Old (.run H.next) := by show _ < _; simp
  generalize hH1 : H.add (.rows false 3 [[.int .i64 m, .int .i64 s, .int .i64 r]]) = H1 at *
  have lw1 : loadAt H1 ⟨.run H.next, 0⟩ 3 = some [.int .i64 m, .int .i64 s, .int .i64 r] := by rw [loadAt_eq hg rfl]; rfl
  obtain ⟨v1, H2, e1, t2, hv1⟩ := snew_ok H1 m s r room lf n
  have hg2 := (t2.same _ ho id).trans hg
  have lw2 : loadAt H2 ⟨.run H.next, 0⟩ 3 = some [.int .i64 m, .int .i64 s, .int .i64 r] := by rw [loadAt_eq hg2 rfl]; rfl
  obtain ⟨v2, H3, e2, t3, hv2⟩ := rsnew_ok H2 m s r room lf (n + 1)
  change callS Try.prog S0 lf (n + 3) 7 _ _ = _ at e2
  unfold geo at e1 e2
  have hL : ∀ H, callS Try.prog S0 lf (n + 3) 8 [] H = some (.v (.bool true), H) := fun H => slives_ok lf (n + 2) H
  have tt : Turns Z H H3 := (t1.trans t2).trans t3
  refine ret_call rfl c3_eq ?_
  rcases hv1 with ⟨h1, rfl⟩ | ⟨h1, b1, rfl⟩
  · rcases hv2 with ⟨_, rfl⟩ | ⟨h2, _⟩
    · simp only [c3, geo, hH1, lw1, lw2, e1, e2, hL, sy, tup, ↓reduceIte, Nat.reduceEqDiff, Nat.reduceAdd, Nat.reduceSub, Nat.reduceMul, Nat.reduceDiv, Nat.reduceMod, Nat.reduceLeDiff, Int.reduceBEq, reduceCtorEq]
      simp
      exact tt
    · rw [h1] at h2; cases h2
  · rcases hv2 with ⟨h2, _⟩ | ⟨_, b2, rfl⟩
    · rw [h1] at h2; cases h2
    · simp only [c3, geo, hH1, lw1, lw2, e1, e2, hL, sy, tup, ↓reduceIte, Nat.reduceEqDiff, Nat.reduceAdd, Nat.reduceSub, Nat.reduceMul, Nat.reduceDiv, Nat.reduceMod, Nat.reduceLeDiff, Int.reduceBEq, reduceCtorEq]
      simp
      exact tt

end Go.Proofs.Ytejgheoandfikaa.draft

