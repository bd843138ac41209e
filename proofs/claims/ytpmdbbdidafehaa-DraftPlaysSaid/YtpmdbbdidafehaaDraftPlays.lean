/-
  'DraftPlays': the program's transaction beside the document's.
-/
import Derived.Test.YtpmdbbdidafehaaDraftStr2
import Derived.Test.YtpmdbbdidafehaaDraftLast
set_option linter.unusedVariables false
set_option linter.unusedSimpArgs false
set_option maxRecDepth 10000
namespace Go.Proofs.Ytpmdbbdidafehaa.draft
open Go.Am

noncomputable def c3_l0 : C := .seq (.seq (.reg [
 mv 41 9,
 mv 42 1,
 qo 43 (.p (lenF (tt 42))) [pp 42],
 qo 44 (.p (arF .lss (tt 41) (tt 43))) [pp 41, pp 43],
 mv 45 44,
 mg 46 9 45 true,
 qg 47 (.p (arF .lss (tt 46) (ii 60))) 45 true [pp 46],
 qo 48 (.p (pickF (tt 45) (tt 47) (.c (.bool false)))) [pp 45, pp 47]]) (
 .cond (tt 48) (.skip) (.exit 0))) (
 .seq (.block 1 (.seq (.seq (.regD [
 mv 51 5,
 mv 52 1,
 mv 53 9,
 qo 54 (.p (iaddrSF (tt 52) (tt 53) 65)) [pp 52, pp 53],
 qo 55 (.p (faddrF (tt 54) 0)) [pp 54],
 qo 56 (.r (loadF (tt 55) 1 .sc)) [pp 55],
 mv 57 1,
 mv 58 9,
 qo 59 (.p (iaddrSF (tt 57) (tt 58) 65)) [pp 57, pp 58],
 qo 60 (.p (faddrF (tt 59) 1)) [pp 59],
 qo 61 (.r (loadF (tt 60) 64 .bk)) [pp 60],
 qo 62 (.c (callF (ff 12) [(tt 51), (tt 56), (tt 61)])) [pp 51, pp 56, pp 61],
 mv 63 7,
 mv 64 1,
 mv 65 9,
 qo 66 (.p (iaddrSF (tt 64) (tt 65) 65)) [pp 64, pp 65],
 qo 67 (.p (faddrF (tt 66) 0)) [pp 66],
 qo 68 (.r (loadF (tt 67) 1 .sc)) [pp 67],
 mv 69 1,
 mv 70 9,
 qo 71 (.p (iaddrSF (tt 69) (tt 70) 65)) [pp 69, pp 70],
 qo 72 (.p (faddrF (tt 71) 1)) [pp 71],
 qo 73 (.r (loadF (tt 72) 64 .bk)) [pp 72],
 qo 74 (.c (callF (ff 13) [(tt 63), (tt 68), (tt 73)])) [pp 63, pp 68, pp 73],
 qo 75 (.p (eqcF true false [.int .i64] (tt 62) (tt 74))) [pp 62, pp 74]] [0, 0, 0, 6, 14, 30, 0, 0, 192, 448, 960, 2047, 0, 0, 0, 24576, 57344, 122880, 0, 0, 786432, 1835008, 3932160, 8388607, 16777215]) (
 .cond (tt 75) (.seq (.reg [
 qo 4 (.p (S.get (.c (.bool false)))) []]) (
 .ret)) (.skip))) (
 .seq (.reg [
 mv 77 5,
 mv 78 1,
 mv 79 9,
 qo 80 (.p (iaddrSF (tt 78) (tt 79) 65)) [pp 78, pp 79],
 qo 81 (.p (faddrF (tt 80) 0)) [pp 80],
 qo 82 (.r (loadF (tt 81) 1 .sc)) [pp 81],
 qo 83 (.c (callF (ff 14) [(tt 77), (tt 82)])) [pp 77, pp 82],
 mv 76 83,
 qo 84 (.p (extF (tt 76) 0)) [pp 76],
 qo 85 (.p (extF (tt 76) 1)) [pp 76],
 qo 10 (.m (allocF 64 [.blk 0])) [],
 qn (.a (storeF (tt 10) (tt 84) 64)) [pp 10, pp 84],
 mv 11 85]) (
 .seq (.reg [
 mv 87 7,
 mv 88 1,
 mv 89 9,
 qo 90 (.p (iaddrSF (tt 88) (tt 89) 65)) [pp 88, pp 89],
 qo 91 (.p (faddrF (tt 90) 0)) [pp 90],
 qo 92 (.r (loadF (tt 91) 1 .sc)) [pp 91],
 qo 93 (.c (callF (ff 15) [(tt 87), (tt 92)])) [pp 87, pp 92],
 mv 86 93,
 qo 94 (.p (extF (tt 86) 0)) [pp 86],
 qo 95 (.p (extF (tt 86) 1)) [pp 86],
 qo 12 (.m (allocF 64 [.blk 0])) [],
 qn (.a (storeF (tt 12) (tt 94) 64)) [pp 12, pp 94],
 mv 13 95]) (
 .seq (.regD [
 qo 96 (.r (loadF (tt 10) 64 .bk)) [pp 10],
 qo 97 (.r (loadF (tt 12) 64 .bk)) [pp 12],
 qo 98 (.p (eqcF true true [.blk] (tt 96) (tt 97))) [pp 96, pp 97],
 mv 99 98,
 mg 100 11 99 false,
 mg 101 13 99 false,
 qg 102 (.p (eqcF true false [.bool] (tt 100) (tt 101))) 99 false [pp 100, pp 101],
 qo 103 (.p (pickF (tt 99) (.c (.bool true)) (tt 102))) [pp 99, pp 102],
 mv 104 103,
 mg 105 5 104 false,
 qg 106 (.c (callF (ff 16) [(tt 105)])) 104 false [pp 105],
 mg 107 7 104 false,
 qg 108 (.p (nilcF (tt 107))) 104 false [pp 107],
 qg 109 (.p (faddrF (tt 108) 3)) 104 false [pp 108],
 qg 110 (.r (loadF (tt 109) 1 .sc)) 104 false [pp 109],
 qg 111 (.p (lenF (tt 110))) 104 false [pp 110],
 qg 112 (.p (eqcF true false [.int .i64] (tt 106) (tt 111))) 104 false [pp 106, pp 111],
 qo 113 (.p (pickF (tt 104) (.c (.bool true)) (tt 112))) [pp 104, pp 112]] [0, 0, 3, 7, 15, 15, 63, 127, 255, 511, 1023, 511, 2559, 6655, 14847, 31231, 65535, 131071]) (
 .cond (tt 113) (.seq (.reg [
 qo 4 (.p (S.get (.c (.bool false)))) []]) (
 .ret)) (.skip))))))) (
 .reg [
 mv 49 9,
 qo 50 (.p (arF .add (tt 49) (ii 1))) [pp 49],
 mv 9 50]))
/-- ashlar/ashlarlaw25.DraftPlays -/
noncomputable def c3 : CFn := ⟨[.tmp (pp 4)],
 .seq (.reg [
 qo 2 (.m (boxF 3 (tt 0))) [pp 0],
 qo 4 (.p (S.get (.c (.bool false)))) []]) (
 .seq (.reg [
 qo 15 (.r (loadF (tt 2) 3 .ag)) [pp 2],
 qo 16 (.c (callF (ff 9) [(tt 15)])) [pp 15],
 mv 14 16,
 qo 17 (.p (extF (tt 14) 0)) [pp 14],
 qo 18 (.p (extF (tt 14) 1)) [pp 14],
 mv 5 17,
 mv 6 18]) (
 .seq (.reg [
 qo 20 (.r (loadF (tt 2) 3 .ag)) [pp 2],
 qo 21 (.c (callF (ff 10) [(tt 20)])) [pp 20],
 mv 19 21,
 qo 22 (.p (extF (tt 19) 0)) [pp 19],
 qo 23 (.p (extF (tt 19) 1)) [pp 19],
 mv 7 22,
 mv 8 23]) (
 .seq (.seq (.reg [
 mv 24 6,
 mv 25 8,
 qo 26 (.p (eqcF true false [.int .i64] (tt 24) (tt 25))) [pp 24, pp 25],
 mv 27 26,
 mg 28 8 27 false,
 qg 29 (.p (eqcF true false [.int .i64] (tt 28) (ii 0))) 27 false [pp 28],
 qo 30 (.p (pickF (tt 27) (.c (.bool true)) (tt 29))) [pp 27, pp 29]]) (
 .cond (tt 30) (.seq (.reg [
 mv 31 6,
 mv 32 8,
 qo 33 (.p (eqcF false false [.int .i64] (tt 31) (tt 32))) [pp 31, pp 32],
 mv 34 33,
 mg 35 5 34 true,
 qg 36 (.r (eqnF false .ptr (tt 35) (.c (.ptr none)))) 34 true [pp 35],
 qo 37 (.p (pickF (tt 34) (tt 36) (.c (.bool false)))) [pp 34, pp 36],
 mv 38 37,
 qg 39 (.c (callF (ff 11) [])) 38 true [],
 qo 40 (.p (pickF (tt 38) (tt 39) (.c (.bool false)))) [pp 38, pp 39],
 mv 4 40]) (
 .ret)) (.skip))) (
 .seq (.seq (.reg [
 qo 9 (.p (S.get (ii 0))) []]) (
 .block 0 (.loop c3_l0))) (
 .seq (.regD [
 mv 114 5,
 qo 115 (.c (callF (ff 18) [(tt 114)])) [pp 114],
 mv 116 7,
 qo 117 (.p (nilcF (tt 116))) [pp 116],
 qo 118 (.p (faddrF (tt 117) 3)) [pp 117],
 qo 119 (.r (loadF (tt 118) 1 .sc)) [pp 118],
 qo 120 (.c (callF (ff 17) [(tt 115), (tt 119)])) [pp 115, pp 119],
 mv 121 120,
 mg 122 5 121 true,
 qg 123 (.c (callF (ff 20) [(tt 122)])) 121 true [pp 122],
 mg 124 7 121 true,
 qg 125 (.c (callF (ff 21) [(tt 124)])) 121 true [pp 124],
 qg 126 (.c (callF (ff 19) [(tt 123), (tt 125)])) 121 true [pp 123, pp 125],
 qo 127 (.p (pickF (tt 121) (tt 126) (.c (.bool false)))) [pp 121, pp 126],
 mv 128 127,
 qg 129 (.c (callF (ff 11) [])) 128 true [],
 qo 130 (.p (pickF (tt 128) (tt 129) (.c (.bool false)))) [pp 128, pp 129],
 mv 4 130] [0, 1, 0, 4, 12, 28, 63, 127, 255, 511, 255, 2047, 4095, 8191, 16383, 32767, 65535, 131071]) (
 .ret))))))⟩
theorem c3_eq : fnOf Try.prog 3 = some c3 := by kernel_rfl


theorem put_good2 {W : Ws} (g : Good W) {k : Int} {B : Nat} (hk : 0 ≤ k ∧ k < 960) (hl : idx W k = none → W.length < 16) : Good (W.put k B) := by
  cases hx : idx W k with
  | none => exact put_good g hk (hl hx)
  | some p =>
    have e : W.put k B = W.set p.1 (k, B) := by unfold Ws.put; rw [hx]
    rw [e]
    have hg := idx_lt hx
    obtain ⟨hlt, hge⟩ := List.getElem?_eq_some_iff.1 hg
    have hm : (W.set p.1 (k, B)).map (·.1) = W.map (·.1) := by
      rw [List.map_set]
      apply List.ext_getElem?
      intro j
      rw [List.getElem?_set]
      by_cases hj : p.1 = j
      · subst hj
        rw [if_pos rfl, if_pos (by simpa using hlt), List.getElem?_map, hg]
        rfl
      · rw [if_neg hj]
    refine ⟨by rw [hm]; exact g.nd, ?_, by simpa using g.le⟩
    intro w hw
    rcases List.mem_or_eq_of_mem_set hw with hw | hw
    · exact g.lt w hw
    · subst hw; exact hk
theorem wcode_zero {m s r : Int} {W : Ws} {k : Int} (h : wcode m s r W k = 0) : (0 ≤ k ∧ k < blocks m s r) ∧ (idx W k = none → W.length < 16) := by
  unfold wcode at h
  split at h
  · cases h
  · split at h
    · cases h
    · rename_i h1 h2
      exact ⟨by omega, fun e => by
        rcases Nat.lt_or_ge W.length 16 with h3 | h3
        · exact h3
        · exact absurd ⟨e, h3⟩ h2⟩
theorem write_good2 {m s r : Int} {W : Ws} (g : Good W) (k : Int) (B : Nat) : Good (W.write m s r k B) := by
  unfold Ws.write
  split
  · rename_i h
    obtain ⟨h1, h2⟩ := wcode_zero h
    have := blocks_le m s r
    exact put_good2 g (by omega) h2
  · exact g
theorem write_inr {m s r : Int} {W : Ws} (g : InR m s r W) (k : Int) (B : Nat) : InR m s r (W.write m s r k B) := by
  unfold Ws.write
  split
  · rename_i h
    obtain ⟨h1, h2⟩ := wcode_zero h
    unfold Ws.put
    split
    · intro w hw
      rcases List.mem_or_eq_of_mem_set hw with hw | hw
      · exact g w hw
      · subst hw; exact h1
    · intro w hw
      rcases List.mem_append.1 hw with hw | hw
      · exact g w hw
      · simp at hw; subst hw; exact h1
  · exact g
theorem rcode_eq (m s r : Int) (W : Ws) (k : Int) : rcode m s r (told W) k = wcode m s r W k := by
  unfold rcode wcode
  rw [gt_told, told_len]
  by_cases h0 : k < 0 ∨ blocks m s r ≤ k
  · rw [if_pos h0, if_pos h0]
  · rw [if_neg h0, if_neg h0]
    by_cases h : gt W k = none ∧ 16 ≤ W.length
    · rw [if_pos h, if_pos ⟨gt_none.2 h.1, h.2⟩]
    · rw [if_neg h, if_neg (fun e => h ⟨gt_none.1 e.1, e.2⟩)]
theorem rput_eq {m s r : Int} {W : Ws} (g : Good W) (k : Int) (B : Nat) : rput m s r (told W) k B = told (W.write m s r k B) := by
  have g' := write_good2 (m := m) (s := s) (r := r) g k B
  unfold rput
  rw [rcode_eq]
  unfold Ws.write at g' ⊢
  split
  · rename_i h
    rw [if_pos h] at g'
    exact (told_put g g').symm
  · rfl
theorem told_inr {m s r : Int} {W : Ws} (g : InR m s r W) : InR m s r (told W) := by
  intro w hw
  unfold told at hw
  obtain ⟨k, hk, rfl⟩ := List.mem_map.1 hw
  have := gt_mem.1 (srt_mem.1 hk)
  obtain ⟨w', hw', e⟩ := List.mem_map.1 this
  have := g w' hw'
  rw [e] at this
  exact this

theorem plays_run (H : Heap) {m s r : Int} {lp : Option Ptr} {lc : Nat} {W0 : Ws} (hW : WritesAt H lp W0) (lf n : Nat) (hlf : 100 < lf) : ret (callS Try.prog S0 lf (n + 7) 3 [geo m s r, .slice lp W0.length lc 0] H) fun v H' => v = .bool true ∧ Turns Z H H' := by
  have t1 := Turns.add Z H (.rows false 3 [[.int .i64 m, .int .i64 s, .int .i64 r]])
  have hg1 : (H.add (.rows false 3 [[.int .i64 m, .int .i64 s, .int .i64 r]])).get (.run H.next) = some (.rows false 3 [[.int .i64 m, .int .i64 s, .int .i64 r]]) := by rw [Heap.get_add, if_pos rfl]
  have o1 : (H.add (.rows false 3 [[.int .i64 m, .int .i64 s, .int .i64 r]])).Old (.run H.next) := by show _ < _; simp
  have lw : ∀ {H' : Heap}, Turns Z (H.add (.rows false 3 [[.int .i64 m, .int .i64 s, .int .i64 r]])) H' → loadAt H' ⟨.run H.next, 0⟩ 3 = some [.int .i64 m, .int .i64 s, .int .i64 r] := fun k => by
    rw [loadAt_eq ((k.same _ o1 id).trans hg1) rfl]; rfl
  have lw1 := lw (Turns.refl Z _)
  have hV : ∀ H, callS Try.prog S0 lf (n + 6) 11 [] H = some (.v (.bool true), H) := fun H => lives_ok lf (n + 5) H
  refine ret_call rfl c3_eq ?_
  cases hm : may m s r with
  | false =>
    obtain ⟨v, H2, e2, rfl, t2⟩ := new_err (H.add (.rows false 3 [[.int .i64 m, .int .i64 s, .int .i64 r]])) hm lf (n + 3)
    unfold geo at e2
    have lw2 := lw t2
    obtain ⟨v, H3, e3, rfl, t3⟩ := rnew_err H2 hm lf (n + 4)
    unfold geo at e3
    simp only [c3, geo, lw1, lw2, e2, e3, hV, sy, tup, ↓reduceIte, Nat.reduceEqDiff, Nat.reduceAdd, Nat.reduceSub, Nat.reduceMul, Nat.reduceDiv, Nat.reduceMod, Nat.reduceLeDiff, Int.reduceBEq, reduceCtorEq]
    simp
    exact (t1.trans t2).trans t3
  | true =>
    obtain ⟨v, H2, e2, b, mb, rfl, d1, t2, n1, n1'⟩ := new_ok (H.add (.rows false 3 [[.int .i64 m, .int .i64 s, .int .i64 r]])) hm lf (n + 3)
    unfold geo at e2
    have lw2 := lw t2
    obtain ⟨v, H3, e3, rb, rfl, r3, t3, n2⟩ := rnew_ok H2 hm lf (n + 4)
    unfold geo at e3
    have d3 := d1.turns t3 id id
    have x1 : ¬ b = rb := fun e => n2 (by rw [← e]; exact d1.old.1)
    have x2 : ¬ mb = rb := fun e => n2 (by rw [← e]; exact d1.old.2)
    have tz3 : Turns Z H H3 := (t1.trans t2).trans t3
    have noM : ¬ H.Old mb := fun h => n1' (h.mono t1.next)
    have noR : ¬ H.Old rb := fun h => n2 (h.mono (t1.trans t2).next)
    have ob := d3.old.1
    have om := d3.old.2
    simp only [c3, geo, lw1, lw2, e2, e3, sy, tup, ↓reduceIte, Nat.reduceEqDiff, Nat.reduceAdd, Nat.reduceSub, Nat.reduceMul, Nat.reduceDiv, Nat.reduceMod, Nat.reduceLeDiff, Int.reduceBEq, reduceCtorEq]
    have hloop : ∀ t : T, t.getP (Tr.path 1) = some (.slice lp W0.length lc 0) → t.getP (Tr.path 5) = some (.ptr (some ⟨b, 0⟩)) → t.getP (Tr.path 7) = some (.ptr (some ⟨rb, 0⟩)) → t.getP (Tr.path 9) = some (.int .i64 0) →
        wp (loopF (runC (callS Try.prog S0 lf (n + 6)) lf c3_l0) lf ⟨t, H3, []⟩) fun x s' => x = .ex 0 ∧ s'.d = [] ∧ ∃ (W : Ws) (v : V), DraftAt s'.H b mb m s r W ∧ Good W ∧ InR m s r W ∧ RefAt H3 s'.H rb m s r (told W) v ∧ Turns Z H s'.H ∧
          s'.t.getP (Tr.path 5) = some (.ptr (some ⟨b, 0⟩)) ∧ s'.t.getP (Tr.path 7) = some (.ptr (some ⟨rb, 0⟩)) := by
      intro t q1 q5 q7 q9
      refine wp_loopF (fun j s' => ∃ i : Nat, j = 60 - i ∧ i ≤ 60 ∧ i ≤ W0.length ∧ s'.d = [] ∧ s'.t.getP (Tr.path 9) = some (.int .i64 (i : Int)) ∧ ∃ (W : Ws) (v : V), DraftAt s'.H b mb m s r W ∧ Good W ∧ InR m s r W ∧ RefAt H3 s'.H rb m s r (told W) v ∧ Turns Z H s'.H ∧
          s'.t.getP (Tr.path 1) = some (.slice lp W0.length lc 0) ∧ s'.t.getP (Tr.path 5) = some (.ptr (some ⟨b, 0⟩)) ∧ s'.t.getP (Tr.path 7) = some (.ptr (some ⟨rb, 0⟩))) ?_ lf 60 _ ⟨0, rfl, by omega, by omega, rfl, q9, [], _, d3, good_nil, fun w hw => by simp at hw, r3, tz3, q1, q5, q7⟩ (by omega)
      rintro j ⟨t, HH, d⟩ ⟨i, rfl, hi, hiW, hd, q9, W, v, dA, gA, iA, rA, tz, q1, q5, q7⟩
      dsimp only at hd q9 dA rA tz q1 q5 q7
      subst hd
      by_cases hlt : i < W0.length
      · have hlt' : (i : Int) < (W0.length : Int) := by omega
        have hle' : i + 1 ≤ W0.length := hlt
        by_cases h60 : i < 60
        · have h60' : (i : Int) < 60 := by omega
          obtain ⟨x, ex, _, _⟩ := (hW.turns tz).load hlt
          have hld : ∀ {H' : Heap}, Turns Z H H' → loadAt H' ⟨x, i * 65⟩ 1 = some [.int .i64 W0[i].1] ∧ loadAt H' ⟨x, i * 65 + 1⟩ 64 = some [.blk W0[i].2] := fun t => by
            obtain ⟨x', ex', l1, l2⟩ := (hW.turns t).load hlt
            rw [ex] at ex'
            cases ex'
            exact ⟨l1, l2⟩
          generalize W0[i].1 = k at hld
          generalize W0[i].2 = B at hld
          have q1' := q1
          rw [ex] at q1'
          have w2 : IntKind.i64.wrap ((i : Int) + 1) = ((i + 1 : Nat) : Int) := by rw [wrap_i64 (by omega)]; omega
          obtain ⟨lk, lb⟩ := hld tz
          -- both write
          obtain ⟨v0, H5, e5, rfl, d5, t5⟩ := write_ok dA k B lf (n + 2)
          have tz5 : Turns Z H H5 := tz.later t5 (fun c hc e => by subst e; exact absurd hc noM)
          obtain ⟨lk5, lb5⟩ := hld tz5
          have r5 := rA.turns t5 (fun e => x2 e.symm) (fun c hb e => by subst e; exact rA.sep om hb)
          have hL16 : (told W).length ≤ 16 := by rw [told_len]; exact gA.le
          obtain ⟨v0, H6, e6, rfl, v', r6, t6⟩ := rwrite_ok r5 (told_rising gA) hL16 k B lf (n + 3) (by omega)
          rw [rcode_eq] at e6
          rw [rput_eq gA] at r6
          have sepO : ∀ {c : Bk}, H3.Old c → ¬ c = rb → ¬ (c = rb ∨ Bof v c) := fun ho hn h => by
            rcases h with h | h
            · exact hn h
            · exact rA.sep ho h
          have d6 := d5.turns t6 (sepO ob x1) (sepO om x2)
          have tz6 : Turns Z H H6 := tz5.later t6 (fun c hc e => by
            rcases e with rfl | e
            · exact absurd hc noR
            · exact absurd e (rA.sep (hc.mono tz3.next)))
          have gB := write_good2 (m := m) (s := s) (r := r) gA k B
          have iB := write_inr iA k B
          generalize W.write m s r k B = W' at d6 r6 gB iB
          obtain ⟨q, hqd⟩ : ∃ q : List (Option V × Option V), q = [(loadF (.t (Tr.path 67)) 1 .sc (Tr.setP (Tr.path 67) (.ptr (some ⟨x, i * 65⟩)) .e) HH, some (.int .i64 k)), (loadF (.t (Tr.path 67)) 1 .sc (Tr.setP (Tr.path 67) (.ptr (some ⟨x, i * 65⟩)) .e) H5, some (.int .i64 k)),
            (loadF (.t (Tr.path 72)) 64 .bk (Tr.setP (Tr.path 72) (.ptr (some ⟨x, i * 65 + 1⟩)) .e) HH, some (.blk B)), (loadF (.t (Tr.path 72)) 64 .bk (Tr.setP (Tr.path 72) (.ptr (some ⟨x, i * 65 + 1⟩)) .e) H5, some (.blk B))] := ⟨_, rfl⟩
          have hq : ∀ p ∈ q, p.1 = p.2 := by
            rw [hqd]
            intro p hp
            simp only [List.mem_cons, List.not_mem_nil, or_false] at hp
            rcases hp with rfl | rfl | rfl | rfl
            · simp only [lk, sy, tup, ↓reduceIte, Nat.reduceEqDiff, Nat.reduceAdd, Nat.reduceSub, Nat.reduceMul, Nat.reduceDiv, Nat.reduceMod, Nat.reduceLeDiff, Int.reduceBEq, reduceCtorEq]
            · simp only [lk5, sy, tup, ↓reduceIte, Nat.reduceEqDiff, Nat.reduceAdd, Nat.reduceSub, Nat.reduceMul, Nat.reduceDiv, Nat.reduceMod, Nat.reduceLeDiff, Int.reduceBEq, reduceCtorEq]
            · simp only [lb, sy, tup, ↓reduceIte, Nat.reduceEqDiff, Nat.reduceAdd, Nat.reduceSub, Nat.reduceMul, Nat.reduceDiv, Nat.reduceMod, Nat.reduceLeDiff, Int.reduceBEq, reduceCtorEq]
            · simp only [lb5, sy, tup, ↓reduceIte, Nat.reduceEqDiff, Nat.reduceAdd, Nat.reduceSub, Nat.reduceMul, Nat.reduceDiv, Nat.reduceMod, Nat.reduceLeDiff, Int.reduceBEq, reduceCtorEq]
          have tq : Turns Z H6 (H6.owe q) := (Turns.refl Z H6).owe hq
          have d6' := d6.turns tq id id
          have r6' := r6.turns tq id (fun _ _ => id)
          have tz6' := tz6.trans tq
          obtain ⟨lk6, _⟩ := hld tz6'
          -- both read
          obtain ⟨v0, H7, e7, rfl, t7⟩ := read_ok d6' k lf (n + 4)
          rw [getB_gt, gt_isSome] at e7
          have t7c := (Turns.add Z H7 (.rows false 64 [[.blk 0]])).setnew (Nat.le_refl _) (.rows false 64 [[.blk ((gt W' k).getD 0)]])
          have g7 : ((H7.add (.rows false 64 [[.blk 0]])).set (.run H7.next) (.rows false 64 [[.blk ((gt W' k).getD 0)]])).get (.run H7.next) = some (.rows false 64 [[.blk ((gt W' k).getD 0)]]) := by rw [Heap.get_set, if_pos rfl]
          have og7 : ((H7.add (.rows false 64 [[.blk 0]])).set (.run H7.next) (.rows false 64 [[.blk ((gt W' k).getD 0)]])).Old (.run H7.next) := by show _ < _; simp
          generalize hH7c : (H7.add (.rows false 64 [[.blk 0]])).set (.run H7.next) (.rows false 64 [[.blk ((gt W' k).getD 0)]]) = H7c at *
          have t77 := t7.trans t7c
          obtain ⟨lk7, _⟩ := hld (tz6'.trans t77)
          have r7 := r6'.turns t77 id (fun _ _ => id)
          have hL16' : (told W').length ≤ 16 := by rw [told_len]; exact gB.le
          obtain ⟨v0, H8, e8, rfl, t8⟩ := rread_ok r7 hL16' k lf (n + 5) (by omega)
          rw [gt_told] at e8
          have t8c := (Turns.add Z H8 (.rows false 64 [[.blk 0]])).setnew (Nat.le_refl _) (.rows false 64 [[.blk ((gt W' k).getD 0)]])
          have g8 : ((H8.add (.rows false 64 [[.blk 0]])).set (.run H8.next) (.rows false 64 [[.blk ((gt W' k).getD 0)]])).get (.run H8.next) = some (.rows false 64 [[.blk ((gt W' k).getD 0)]]) := by rw [Heap.get_set, if_pos rfl]
          generalize hH8c : (H8.add (.rows false 64 [[.blk 0]])).set (.run H8.next) (.rows false 64 [[.blk ((gt W' k).getD 0)]]) = H8c at *
          have t88 := t8.trans t8c
          have lc7 : loadAt H8c ⟨.run H7.next, 0⟩ 64 = some [.blk ((gt W' k).getD 0)] := by rw [loadAt_eq ((t88.same _ og7 id).trans g7) rfl]; exact cut_blk _ _
          have lc8 : loadAt H8c ⟨.run H8.next, 0⟩ 64 = some [.blk ((gt W' k).getD 0)] := by rw [loadAt_eq g8 rfl]; exact cut_blk _ _
          generalize (gt W' k).getD 0 = GB at *
          generalize (gt W' k).isSome = GS at *
          have d8 := (d6'.turns t77 id id).turns t88 id id
          have r8 := r7.turns t88 id (fun _ _ => id)
          have e9 := len_ok d8 lf (n + 4)
          obtain ⟨p8, c8, o8, ev8⟩ := rval r8
          rw [told_len] at ev8
          have lv8 := rld_v r8
          rw [ev8] at lv8
          obtain ⟨q2, hqd2⟩ : ∃ q2 : List (Option V × Option V), q2 = [(loadF (.t (Tr.path 109)) 1 .sc (Tr.setP (Tr.path 109) (.ptr (some ⟨rb, 3⟩)) .e) H8c, some (.slice p8 W'.length c8 o8)), (loadF (.t (Tr.path 109)) 1 .sc (Tr.setP (Tr.path 109) (.ptr (some ⟨rb, 3⟩)) .e) H8c, some (.slice p8 W'.length c8 o8))] := ⟨_, rfl⟩
          have hq2 : ∀ p ∈ q2, p.1 = p.2 := by
            rw [hqd2]
            intro p hp
            simp only [List.mem_cons, List.not_mem_nil, or_false] at hp
            rcases hp with rfl | rfl
            · simp only [lv8, sy, tup, ↓reduceIte, Nat.reduceEqDiff, Nat.reduceAdd, Nat.reduceSub, Nat.reduceMul, Nat.reduceDiv, Nat.reduceMod, Nat.reduceLeDiff, Int.reduceBEq, reduceCtorEq]
            · simp only [lv8, sy, tup, ↓reduceIte, Nat.reduceEqDiff, Nat.reduceAdd, Nat.reduceSub, Nat.reduceMul, Nat.reduceDiv, Nat.reduceMod, Nat.reduceLeDiff, Int.reduceBEq, reduceCtorEq]
          have tq2 : Turns Z H8c (H8c.owe q2) := (Turns.refl Z H8c).owe hq2
          simp only [c3_l0, q1', q5, q7, q9, hlt', h60', hle', lk, lb, lk5, lb5, e5, e6, sy, tup, ↓reduceIte, Nat.reduceEqDiff, Nat.reduceAdd, Nat.reduceSub, Nat.reduceMul, Nat.reduceDiv, Nat.reduceMod, Nat.reduceLeDiff, Int.reduceBEq, reduceCtorEq]
          rw [endD_q (q := q) (by kernel_rfl) (by rw [hqd]; kernel_rfl)]
          simp only [q1', q5, q7, q9, hle', lk6, e7, hH7c, lk7, e8, hH8c, lc7, lc8, e9, lv8, sy, tup, ↓reduceIte, Nat.reduceEqDiff, Nat.reduceAdd, Nat.reduceSub, Nat.reduceMul, Nat.reduceDiv, Nat.reduceMod, Nat.reduceLeDiff, Int.reduceBEq, reduceCtorEq]
          rw [endD_q (q := q2) (by kernel_rfl) (by rw [hqd2]; kernel_rfl)]
          simp only [q1', q5, q7, q9, w2, sy, tup, ↓reduceIte, Nat.reduceEqDiff, Nat.reduceAdd, Nat.reduceSub, Nat.reduceMul, Nat.reduceDiv, Nat.reduceMod, Nat.reduceLeDiff, Int.reduceBEq, reduceCtorEq]
          exact ⟨60 - (i + 1), by omega, i + 1, rfl, by omega, by omega, trivial, by simp, W', _, d8.turns tq2 id id, gB, iB, r8.turns tq2 id (fun _ _ => id), (((tz6'.trans t77).trans t88).trans tq2), by simp [ex], by simp [q5], by simp [q7]⟩
        · have h60' : ¬ (i : Int) < 60 := by omega
          simp only [c3_l0, q1, q5, q7, q9, hlt', h60', sy, tup, ↓reduceIte, Nat.reduceEqDiff, Nat.reduceAdd, Nat.reduceSub, Nat.reduceMul, Nat.reduceDiv, Nat.reduceMod, Nat.reduceLeDiff, Int.reduceBEq, reduceCtorEq]
          exact ⟨trivial, trivial, W, v, dA, gA, iA, rA, tz, by first | trivial | exact q5, by first | trivial | exact q7⟩
      · have hnl : ¬ (i : Int) < (W0.length : Int) := by omega
        simp only [c3_l0, q1, q5, q7, q9, hnl, sy, tup, ↓reduceIte, Nat.reduceEqDiff, Nat.reduceAdd, Nat.reduceSub, Nat.reduceMul, Nat.reduceDiv, Nat.reduceMod, Nat.reduceLeDiff, Int.reduceBEq, reduceCtorEq]
        exact ⟨trivial, trivial, W, v, dA, gA, iA, rA, tz, by first | trivial | exact q5, by first | trivial | exact q7⟩
    refine wp_ctx (F := fun r => seqC _ _ _ (blockC _ r)) (hloop _ ?_ ?_ ?_ ?_) ?_
    · simp only [sy, tup, ↓reduceIte, Nat.reduceEqDiff, Nat.reduceAdd, Nat.reduceSub, Nat.reduceMul, Nat.reduceDiv, Nat.reduceMod, Nat.reduceLeDiff, Int.reduceBEq, reduceCtorEq]
    · simp only [sy, tup, ↓reduceIte, Nat.reduceEqDiff, Nat.reduceAdd, Nat.reduceSub, Nat.reduceMul, Nat.reduceDiv, Nat.reduceMod, Nat.reduceLeDiff, Int.reduceBEq, reduceCtorEq]
    · simp only [sy, tup, ↓reduceIte, Nat.reduceEqDiff, Nat.reduceAdd, Nat.reduceSub, Nat.reduceMul, Nat.reduceDiv, Nat.reduceMod, Nat.reduceLeDiff, Int.reduceBEq, reduceCtorEq]
    · simp only [sy, tup, ↓reduceIte, Nat.reduceEqDiff, Nat.reduceAdd, Nat.reduceSub, Nat.reduceMul, Nat.reduceDiv, Nat.reduceMod, Nat.reduceLeDiff, Int.reduceBEq, reduceCtorEq]
    rintro x ⟨t, HG, d⟩ ⟨rfl, hd, W, v, dA, gA, iA, rA, tz, q5, q7⟩
    dsimp only at hd dA rA tz q5 q7
    subst hd
    obtain ⟨p, c, o, ev⟩ := rval rA
    have lv := rld_v rA
    obtain ⟨v1, HI, e1, hv1, tI⟩ := writes_ok dA gA lf (n + 4) (by omega)
    have rI := rA.turns tI id (fun _ _ => id)
    have lvI := rld_v rI
    have hL16 : (told W).length ≤ 16 := by rw [told_len]; exact gA.le
    have e4 := sameW_ok hv1 rI.lst hL16 lf (n + 5) (by omega)
    obtain ⟨v2, HJ, e5, i2, tJ⟩ := stripes_ok (dA.turns tI id id) gA hm (told_inr iA) lf (n + 1) (by omega)
    obtain ⟨v3, HK, e6, i3, tK⟩ := rstripes_ok (rI.turns tJ id (fun _ _ => id)) hL16 hm (told_inr iA) lf n (by omega)
    have hsl : (dedup (strs m (told W))).length ≤ 16 := by
      obtain ⟨_, _, _, _, h⟩ := i2
      exact dedup_len _ (by rw [strs_len]; exact hL16)
    have e7 := sameI_ok (i2.turns tK (fun _ _ => id)) i3 hsl lf (n + 5) (by omega)
    rw [ev] at lv lvI e4
    obtain ⟨q, hqd⟩ : ∃ q : List (Option V × Option V), q = [(loadF (.t (Tr.path 118)) 1 .sc (Tr.setP (Tr.path 118) (.ptr (some ⟨rb, 3⟩)) .e) HG, some (.slice p (told W).length c o)), (loadF (.t (Tr.path 118)) 1 .sc (Tr.setP (Tr.path 118) (.ptr (some ⟨rb, 3⟩)) .e) HI, some (.slice p (told W).length c o))] := ⟨_, rfl⟩
    have hq : ∀ p ∈ q, p.1 = p.2 := by
      rw [hqd]
      intro p hp
      simp only [List.mem_cons, List.not_mem_nil, or_false] at hp
      rcases hp with rfl | rfl
      · simp only [lv, sy, tup, ↓reduceIte, Nat.reduceEqDiff, Nat.reduceAdd, Nat.reduceSub, Nat.reduceMul, Nat.reduceDiv, Nat.reduceMod, Nat.reduceLeDiff, Int.reduceBEq, reduceCtorEq]
      · simp only [lvI, sy, tup, ↓reduceIte, Nat.reduceEqDiff, Nat.reduceAdd, Nat.reduceSub, Nat.reduceMul, Nat.reduceDiv, Nat.reduceMod, Nat.reduceLeDiff, Int.reduceBEq, reduceCtorEq]
    simp only [q5, q7, e1, lv, lvI, e4, e5, e6, e7, hV, sy, tup, ↓reduceIte, Nat.reduceEqDiff, Nat.reduceAdd, Nat.reduceSub, Nat.reduceMul, Nat.reduceDiv, Nat.reduceMod, Nat.reduceLeDiff, Int.reduceBEq, reduceCtorEq]
    rw [endD_q (q := q) (by kernel_rfl) (by rw [hqd]; kernel_rfl)]
    simp only [sy, tup, ↓reduceIte, Nat.reduceEqDiff, Nat.reduceAdd, Nat.reduceSub, Nat.reduceMul, Nat.reduceDiv, Nat.reduceMod, Nat.reduceLeDiff, Int.reduceBEq, reduceCtorEq]
    exact ⟨trivial, .inr trivial, _, rfl, rfl, (((tz.trans tI).trans tJ).trans tK).owe hq⟩

end Go.Proofs.Ytpmdbbdidafehaa.draft

