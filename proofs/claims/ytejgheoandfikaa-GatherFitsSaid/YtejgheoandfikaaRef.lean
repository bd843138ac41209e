import Derived.Test.YtejgheoandfikaaBench
import Derived.Test.YtejgheoandfikaaAmList
/-
  The document's device (ashlarref05) in the machine's heap: it lies as a device does, and does what a device does.
-/
set_option linter.unusedVariables false
set_option linter.unusedSimpArgs false
set_option maxRecDepth 10000
namespace Go.Proofs.Ytejgheoandfikaa.disk
open Go.Am

/-- ashlar/ashlarref05.New -/
noncomputable def c73 : CFn := ⟨[.tmp (pp 2), .tmp (pp 3)],
 .seq (.reg [
 qo 2 (.p (S.get (.c (.ptr none)))) [],
 qo 3 (.p (S.get (ii 0))) []]) (
 .seq (.seq (.reg [
 mv 4 0,
 qo 5 (.p (arF .lss (tt 4) (ii 1))) [pp 4],
 mv 6 5,
 mg 7 0 6 false,
 qg 8 (.p (arF .gtr (tt 7) (ii 512))) 6 false [pp 7],
 qo 9 (.p (pickF (tt 6) (.c (.bool true)) (tt 8))) [pp 6, pp 8]]) (
 .cond (tt 9) (.seq (.reg [
 qo 2 (.p (S.get (.c (.ptr none)))) [],
 qo 3 (.p (S.get (ii 2))) []]) (
 .ret)) (.skip))) (
 .seq (.reg [
 mv 10 0,
 qo 11 (.m (mksliceF 64 64 [.blk 0] (tt 10) (tt 10))) [pp 10, pp 10],
 qo 12 (.p (buildF [.slice none 0 0 0, .slice none 0 0 0, .bool false] .ag [(0, 1, (tt 11))])) [pp 11],
 qo 13 (.m (boxF 3 (tt 12))) [pp 12],
 mv 2 13,
 qo 3 (.p (S.get (ii 0))) []]) (
 .ret)))⟩
theorem c73_eq : fnOf Try.prog 73 = some c73 := by kernel_rfl


theorem rnew_ok (H : Heap) {n : Nat} (h1 : 1 ≤ n) (h2 : n ≤ 512) (lf m : Nat) : ret (callS Try.prog S0 lf (m + 1) 73 [.int .i64 (n : Int)] H) fun v H' => v = .tuple [.ptr (some ⟨.run (H.next + 1), 0⟩), .int .i64 0] ∧
    DevAt H' (.run (H.next + 1)) ⟨.run H.next, 0, .run H.next, none, 0⟩ ⟨List.replicate n 0, [], false⟩ ∧ Turns Z H H' := by
  have g1 : ¬ ((n : Int) < 1) := by omega
  have g2 : ¬ (512 < (n : Int)) := by omega
  have g3 : n ≤ n := Nat.le_refl _
  have g4 : n * 64 ≤ 1099511627776 := by omega
  have g4' : 64 * n ≤ 1099511627776 := by omega
  have g5 : n ≤ 1099511627776 := by omega
  refine ret_call rfl c73_eq ?_
  simp only [c73, g1, g2, g3, g4, g4', g5, mksliceF, sy, tup, ↓reduceIte, Nat.reduceEqDiff, Nat.reduceAdd, Nat.reduceSub, Nat.reduceMul, Nat.reduceDiv, Nat.reduceMod, Nat.reduceLeDiff, Int.reduceBEq, reduceCtorEq]
  refine ⟨trivial, .inr trivial, _, rfl, rfl, ?_, ((Turns.refl Z H).addm _).addm _⟩
  refine ⟨?_, ?_, fun _ => ⟨rfl, rfl⟩, fun e => absurd rfl e, ⟨?_, ?_, fun e => absurd rfl e⟩, by simp, fun e => absurd rfl e⟩
  · rw [Heap.get_add, if_pos (by simp)]; simp
  · rw [Heap.get_add, if_neg (by simp), Heap.get_add, if_pos rfl]
    simp [sureRows]
  · show _ < _
    first | (simp; done) | (simp; omega)
  · show _ < _
    first | (simp; done) | (simp; omega)

theorem new_err (H : Heap) {n : Int} (h : n < 1 ∨ 512 < n) (lf m : Nat) : callS Try.prog S0 lf (m + 1) 72 [.int .i64 n] H = some (.v (.tuple [.ptr none, .int .i64 2]), H) := by
  obtain ⟨v, H', e, rfl, rfl⟩ : ret (callS Try.prog S0 lf (m + 1) 72 [.int .i64 n] H) fun v H' => v = .tuple [.ptr none, .int .i64 2] ∧ H' = H := by
    refine ret_call rfl c72_eq ?_
    by_cases h1 : n < 1
    · simp only [c72, h1, sy, tup, ↓reduceIte, Nat.reduceEqDiff, Nat.reduceAdd, Nat.reduceSub, Nat.reduceMul, Nat.reduceDiv, Nat.reduceMod, Nat.reduceLeDiff, Int.reduceBEq, reduceCtorEq]
      exact ⟨trivial, .inr trivial, _, rfl, rfl, trivial⟩
    · have h2 : 512 < n := by omega
      simp only [c72, h1, h2, sy, tup, ↓reduceIte, Nat.reduceEqDiff, Nat.reduceAdd, Nat.reduceSub, Nat.reduceMul, Nat.reduceDiv, Nat.reduceMod, Nat.reduceLeDiff, Int.reduceBEq, reduceCtorEq]
      exact ⟨trivial, .inr trivial, _, rfl, rfl, trivial⟩
  exact e
theorem rnew_err (H : Heap) {n : Int} (h : n < 1 ∨ 512 < n) (lf m : Nat) : callS Try.prog S0 lf (m + 1) 73 [.int .i64 n] H = some (.v (.tuple [.ptr none, .int .i64 2]), H) := by
  obtain ⟨v, H', e, rfl, rfl⟩ : ret (callS Try.prog S0 lf (m + 1) 73 [.int .i64 n] H) fun v H' => v = .tuple [.ptr none, .int .i64 2] ∧ H' = H := by
    refine ret_call rfl c73_eq ?_
    by_cases h1 : n < 1
    · simp only [c73, h1, sy, tup, ↓reduceIte, Nat.reduceEqDiff, Nat.reduceAdd, Nat.reduceSub, Nat.reduceMul, Nat.reduceDiv, Nat.reduceMod, Nat.reduceLeDiff, Int.reduceBEq, reduceCtorEq]
      exact ⟨trivial, .inr trivial, _, rfl, rfl, trivial⟩
    · have h2 : 512 < n := by omega
      simp only [c73, h1, h2, sy, tup, ↓reduceIte, Nat.reduceEqDiff, Nat.reduceAdd, Nat.reduceSub, Nat.reduceMul, Nat.reduceDiv, Nat.reduceMod, Nat.reduceLeDiff, Int.reduceBEq, reduceCtorEq]
      exact ⟨trivial, .inr trivial, _, rfl, rfl, trivial⟩
  exact e

end Go.Proofs.Ytejgheoandfikaa.disk


/-
  The document's device: reading, flushing, a cut.
-/
set_option linter.unusedVariables false
set_option linter.unusedSimpArgs false
set_option maxRecDepth 10000
namespace Go.Proofs.Ytejgheoandfikaa.disk
open Go.Am

/-- what a forward reading has found behind i writes -/
def seen (S : List Nat) (L : List (Nat × Nat)) (n i : Nat) : Nat := match look (L.take i) n with
  | some x => x
  | none => S.getD n 0
theorem look_snoc : ∀ (l : List (Nat × Nat)) (w : Nat × Nat) (n : Nat), look (l ++ [w]) n = if w.1 = n then some w.2 else look l n
  | [], w, n => rfl
  | v :: l, w, n => by
    rw [List.cons_append, look_cons, look_snoc l w n, look_cons]
    by_cases h : w.1 = n
    · rw [if_pos h, if_pos h]
    · rw [if_neg h, if_neg h]
theorem seen_succ {S : List Nat} {L : List (Nat × Nat)} {n i : Nat} (hi : i < L.length) : seen S L n (i + 1) = if L[i].1 = n then L[i].2 else seen S L n i := by
  unfold seen
  rw [List.take_succ_eq_append_getElem hi, look_snoc]
  by_cases h : L[i].1 = n
  · rw [if_pos h, if_pos h]
  · rw [if_neg h, if_neg h]

theorem clamp_zero : clampN 0 = 0 := by decide
theorem torn_zero (old now : Nat) : tornN old now 0 = old := rfl
/-- the picks, and 0 where there is none -/
def pickAt (P : List Int) (i : Nat) : Int := P.getD i 0
def crashR (S : List Nat) (L : List (Nat × Nat)) (P : List Int) (i : Nat) : List Nat := (List.range i).foldl (fun S j => S.set (L.getD j (0, 0)).1 (tornN (S.getD (L.getD j (0, 0)).1 0) (L.getD j (0, 0)).2 (clampN (pickAt P j)))) S
theorem crashR_succ (S : List Nat) (L : List (Nat × Nat)) (P : List Int) (i : Nat) : crashR S L P (i + 1) = (crashR S L P i).set (L.getD i (0, 0)).1 (tornN ((crashR S L P i).getD (L.getD i (0, 0)).1 0) (L.getD i (0, 0)).2 (clampN (pickAt P i))) := by
  unfold crashR
  rw [List.range_succ, List.foldl_append]; rfl
theorem crashR_length (S : List Nat) (L : List (Nat × Nat)) (P : List Int) : ∀ i, (crashR S L P i).length = S.length
  | 0 => rfl
  | i + 1 => by rw [crashR_succ, List.length_set, crashR_length S L P i]
theorem set_getD (S : List Nat) (n : Nat) : S.set n (S.getD n 0) = S := by
  by_cases h : n < S.length
  · rw [getD_lt h]; exact List.set_getElem_self h
  · exact List.set_eq_of_length_le (by omega)
theorem crashR_take (S : List Nat) (L : List (Nat × Nat)) (P : List Int) : ∀ i, i ≤ L.length → crashR S L P i = crashS S ((L.zip P).take i)
  | 0, _ => rfl
  | i + 1, hi => by
    have hi' : i < L.length := by omega
    rw [crashR_succ, crashR_take S L P i (by omega)]
    have hL : L.getD i (0, 0) = L[i] := by simp [List.getD, hi']
    by_cases hP : i < P.length
    · have hz : i < (L.zip P).length := by rw [List.length_zip]; omega
      rw [crashS_take hz, List.getElem_zip, hL]
      have : pickAt P i = P[i] := by simp [pickAt, List.getD, hP]
      rw [this]
    · have : pickAt P i = 0 := by simp [pickAt, List.getD, hP]
      rw [this, clamp_zero, torn_zero, set_getD]
      rw [List.take_of_length_le (by rw [List.length_zip]; omega), List.take_of_length_le (by rw [List.length_zip]; omega)]

end Go.Proofs.Ytejgheoandfikaa.disk


/-
  The document's bench in the machine's heap: whatever is asked of whatever device.
-/
set_option linter.unusedVariables false
set_option linter.unusedSectionVars false
set_option linter.unusedSimpArgs false
set_option maxRecDepth 10000
namespace Go.Proofs.Ytejgheoandfikaa.disk
open Go.Am



theorem Rep.own' {H : Heap} {b ds : Bk} {so : Nat} {l : List Dv} {B : Bn} (h : Rep true H b ds so l B) : H.get b = some (.rows false 4 [[.slice (some ⟨ds, 0⟩) l.length l.length so, .int .i64 B.ar, .bool B.dk, .int .i64 B.st]]) := h.row.own

theorem Rep.loadPtr {r : Bool} {H : Heap} {b ds : Bk} {so : Nat} {l : List Dv} {B : Bn} (h : Rep r H b ds so l B) {i : Nat} (hi : i < l.length) : loadAt H ⟨ds, i⟩ 1 = some [.ptr (some ⟨l[i].b, 0⟩)] := by
  rw [loadAt_eq h.row.ptrs (r := [.ptr (some ⟨l[i].b, 0⟩)]) (nth_of (by rw [Nat.div_one]; simp [hi])), Nat.mod_one]
  exact cut_hit _ _ rfl

theorem Rep.put' {H : Heap} {b ds : Bk} {so : Nat} {l : List Dv} {B : Bn} (h : Rep true H b ds so l B) (st ar : Int) (dk : Bool) : RNext true H b ds so l (H.set b (.rows false 4 [[.slice (some ⟨ds, 0⟩) l.length l.length so, .int .i64 ar, .bool dk, .int .i64 st]])) l ⟨B.l, st, ar, dk⟩ :=
  ⟨⟨h.row.put _ _ _, h.map⟩, Turns.set (X := BFoot b ds l) (.inl rfl) _ _, fun c hc => .inl hc⟩

section
variable {H : Heap} {b ds : Bk} {so : Nat} {l : List Dv} {B : Bn} (h : Rep true H b ds so l B)
include h
theorem rload0 : loadAt H ⟨b, 0⟩ 1 = some [.slice (some ⟨ds, 0⟩) l.length l.length so] := by rw [loadAt_eq h.own' (by exact rfl)]; rfl
theorem rload1 : loadAt H ⟨b, 1⟩ 1 = some [.int .i64 B.ar] := by rw [loadAt_eq h.own' (by exact rfl)]; rfl
theorem rload2 : loadAt H ⟨b, 2⟩ 1 = some [.bool B.dk] := by rw [loadAt_eq h.own' (by exact rfl)]; rfl
theorem rload3 : loadAt H ⟨b, 3⟩ 1 = some [.int .i64 B.st] := by rw [loadAt_eq h.own' (by exact rfl)]; rfl
theorem rstore1 (x : Int) : storeAt H ⟨b, 1⟩ [.int .i64 x] = some (H.set b (.rows false 4 [[.slice (some ⟨ds, 0⟩) l.length l.length so, .int .i64 x, .bool B.dk, .int .i64 B.st]])) := storeAt_eq h.own' (r := [.slice (some ⟨ds, 0⟩) l.length l.length so, .int .i64 B.ar, .bool B.dk, .int .i64 B.st]) rfl rfl
theorem rstore2 (x : Bool) : storeAt H ⟨b, 2⟩ [.bool x] = some (H.set b (.rows false 4 [[.slice (some ⟨ds, 0⟩) l.length l.length so, .int .i64 B.ar, .bool x, .int .i64 B.st]])) := storeAt_eq h.own' (r := [.slice (some ⟨ds, 0⟩) l.length l.length so, .int .i64 B.ar, .bool B.dk, .int .i64 B.st]) rfl rfl
theorem rstore3 (x : Int) : storeAt H ⟨b, 3⟩ [.int .i64 x] = some (H.set b (.rows false 4 [[.slice (some ⟨ds, 0⟩) l.length l.length so, .int .i64 B.ar, .bool B.dk, .int .i64 x]])) := storeAt_eq h.own' (r := [.slice (some ⟨ds, 0⟩) l.length l.length so, .int .i64 B.ar, .bool B.dk, .int .i64 B.st]) rfl rfl

variable (hg : ∀ D ∈ B.l, Good D)
include hg

theorem rgood {i : Nat} (hi : i < l.length) : Good l[i].D := hg _ (by rw [← h.map]; exact List.mem_map_of_mem (List.getElem_mem hi))

end

end Go.Proofs.Ytejgheoandfikaa.disk


/-
  The document's bench in the machine's heap: how it is made, and cut.
-/
set_option linter.unusedVariables false
set_option linter.unusedSectionVars false
set_option linter.unusedSimpArgs false
set_option maxRecDepth 10000
namespace Go.Proofs.Ytejgheoandfikaa.disk
open Go.Am

noncomputable def c36_l0 : C := .seq (.seq (.reg [
 mv 18 5,
 mv 19 0,
 qo 20 (.p (lenF (tt 19))) [pp 19],
 qo 21 (.p (arF .lss (tt 18) (tt 20))) [pp 18, pp 20]]) (
 .cond (tt 21) (.skip) (.exit 0))) (
 .seq (.block 1 (.seq (.reg [
 mv 25 0,
 mv 26 5,
 qo 27 (.p (iaddrSF (tt 25) (tt 26) 1)) [pp 25, pp 26],
 qo 28 (.r (loadF (tt 27) 1 .sc)) [pp 27],
 qo 29 (.c (callF (ff 73) [(tt 28)])) [pp 28],
 mv 24 29,
 qo 30 (.p (extF (tt 24) 0)) [pp 24],
 qo 31 (.p (extF (tt 24) 1)) [pp 24],
 mv 6 30,
 mv 7 31]) (
 .seq (.seq (.reg [
 mv 32 7,
 qo 33 (.p (eqcF true false [.int .i64] (tt 32) (ii 0))) [pp 32]]) (
 .cond (tt 33) (.seq (.reg [
 qo 2 (.p (S.get (.c (.ptr none)))) [],
 qo 3 (.p (S.get (ii 2))) []]) (
 .ret)) (.skip))) (
 .reg [
 mv 34 4,
 mv 35 4,
 qo 36 (.p (nilcF (tt 35))) [pp 35],
 qo 37 (.p (faddrF (tt 36) 0)) [pp 36],
 qo 38 (.r (loadF (tt 37) 1 .sc)) [pp 37],
 mv 39 6,
 qo 40 (.m (bsliceF 1 1 [.ptr none] [(0, 1, (tt 39))])) [pp 39],
 qo 41 (.a (appF 1 8 (tt 38) (tt 40))) [pp 38, pp 40],
 qo 42 (.p (nilcF (tt 34))) [pp 34],
 qo 43 (.p (faddrF (tt 42) 0)) [pp 42],
 qn (.a (storeF (tt 43) (tt 41) 1)) [pp 43, pp 41]])))) (
 .reg [
 mv 22 5,
 qo 23 (.p (arF .add (tt 22) (ii 1))) [pp 22],
 mv 5 23]))
/-- ashlar/ashlarref06.New -/
noncomputable def c36 : CFn := ⟨[.tmp (pp 2), .tmp (pp 3)],
 .seq (.reg [
 qo 2 (.p (S.get (.c (.ptr none)))) [],
 qo 3 (.p (S.get (ii 0))) []]) (
 .seq (.seq (.reg [
 mv 8 0,
 qo 9 (.p (lenF (tt 8))) [pp 8],
 qo 10 (.p (arF .lss (tt 9) (ii 1))) [pp 9],
 mv 11 10,
 mg 12 0 11 false,
 qg 13 (.p (lenF (tt 12))) 11 false [pp 12],
 qg 14 (.p (arF .gtr (tt 13) (ii 17))) 11 false [pp 13],
 qo 15 (.p (pickF (tt 11) (.c (.bool true)) (tt 14))) [pp 11, pp 14]]) (
 .cond (tt 15) (.seq (.reg [
 qo 2 (.p (S.get (.c (.ptr none)))) [],
 qo 3 (.p (S.get (ii 2))) []]) (
 .ret)) (.skip))) (
 .seq (.reg [
 qo 16 (.p (buildF [.slice none 0 0 0, .int .i64 0, .bool false, .int .i64 0] .ag [])) [],
 qo 17 (.m (boxF 4 (tt 16))) [pp 16],
 mv 4 17]) (
 .seq (.seq (.reg [
 qo 5 (.p (S.get (ii 0))) []]) (
 .block 0 (.loop c36_l0))) (
 .seq (.reg [
 mv 44 4,
 mv 2 44,
 qo 3 (.p (S.get (ii 0))) []]) (
 .ret)))))⟩
theorem c36_eq : fnOf Try.prog 36 = some c36 := by kernel_rfl


theorem rbnew_all (H : Heap) {pp : Option Ptr} {P : List Int} {pc po : Nat} (hP : PicksAt H pp P Z) {lf : Nat} (hlf : 1000 < lf) (m : Nat) :
    ret (callS Try.prog S0 lf (m + 2) 36 [.slice pp P.length pc po] H) (Newed true P H) := by
  refine ret_call rfl c36_eq ?_
  by_cases hlen : 1 ≤ P.length ∧ P.length ≤ 17
  · obtain ⟨g1, g2⟩ := hlen
    have g1' : ¬ ((P.length : Int) < 1) := by omega
    have g2' : ¬ (17 < (P.length : Int)) := by omega
    have G0 := grow0 H (.int .i64 0) (.bool false) (.int .i64 0)
    have hloop : ∀ t : T, t.getP (Tr.path 0) = some (.slice pp P.length pc po) → t.getP (Tr.path 4) = some (.ptr (some ⟨.run H.next, 0⟩)) → t.getP (Tr.path 5) = some (.int .i64 0) →
        wp (loopF (runC (callS Try.prog S0 lf (m + 1)) lf c36_l0) lf ⟨t, H.add (.rows false 4 [[.slice none 0 0 0, .int .i64 0, .bool false, .int .i64 0]]), []⟩) fun x s =>
          s.d = [] ∧ ((x = .ret ∧ ¬ okSizes P ∧ s.t.getP (Tr.path 2) = some (.ptr none) ∧ s.t.getP (Tr.path 3) = some (.int .i64 2) ∧ Turns Z H s.H) ∨ (x = .ex 0 ∧ s.t.getP (Tr.path 4) = some (.ptr (some ⟨.run H.next, 0⟩)) ∧ okSizes P ∧ ∃ p o l, Grow H s.H (.run H.next) p o l (.int .i64 0) (.bool false) (.int .i64 0) ∧ l.map Dv.D = P.map (fun n => blank n.toNat))) := by
      intro t q0 q4 q5
      refine wp_loopF (fun k s => ∃ i p o l, i + k = P.length ∧ s.d = [] ∧ s.t.getP (Tr.path 0) = some (.slice pp P.length pc po) ∧ s.t.getP (Tr.path 4) = some (.ptr (some ⟨.run H.next, 0⟩)) ∧ s.t.getP (Tr.path 5) = some (.int .i64 ((i : Nat) : Int)) ∧ Grow H s.H (.run H.next) p o l (.int .i64 0) (.bool false) (.int .i64 0) ∧ l.map Dv.D = (P.take i).map (fun n => blank n.toNat) ∧ ∀ n ∈ P.take i, 1 ≤ n ∧ n ≤ 512) ?_ lf P.length _ ⟨0, none, 0, [], by omega, rfl, q0, q4, q5, G0, rfl, fun n hn => absurd hn (by simp)⟩ (by omega)
      rintro k ⟨t, HH, d⟩ ⟨i, p, o, l, hi, rfl, q0, q4, q5, hG, hm, hok⟩
      dsimp only at q0 q4 q5 hG
      by_cases hiP : i < P.length
      · obtain ⟨x, ox, hpx, l1⟩ := (hP.turns hG.t).load hiP
        rw [hpx] at q0
        have hi1 : i + 1 ≤ P.length := hiP
        have hw' : IntKind.i64.wrap ((i : Int) + 1) = (i : Int) + 1 := wrap_i64 (by omega)
        by_cases hn : 1 ≤ P[i] ∧ P[i] ≤ 512
        · obtain ⟨v, H1, e1, rfl, hD, t1⟩ := rnew_ok HH (n := P[i].toNat) (by omega) (by omega) lf m
          rw [show ((P[i].toNat : Nat) : Int) = P[i] from by omega] at e1
          have hF : Fresh HH (.run (HH.next + 1)) ⟨.run HH.next, 0, .run HH.next, none, 0⟩ (blank P[i].toNat) := ⟨Heap.not_old (by omega), Heap.not_old (Nat.le_refl _), fun e => absurd rfl e⟩
          have hll : l.length = i := by have := congrArg List.length hm; simpa [Nat.min_eq_left (Nat.le_of_lt hiP)] using this
          obtain ⟨H3, H4, ds, ha, hs, hG'⟩ := hG.step t1 hD hF (by omega)
          have l0 := hG.load t1
          have l0' := hG.load (t1.addm (.rows false 1 [[.ptr (some ⟨.run (HH.next + 1), 0⟩)]]))
          simp only [c36_l0, q0, q4, q5, hiP, hi1, l1, e1, l0, l0', ha, hs, hw', Nat.mul_one, sy, tup, ↓reduceIte, Nat.reduceEqDiff, Nat.reduceAdd, Nat.reduceSub, Nat.reduceMul, Nat.reduceDiv, Nat.reduceMod, Nat.reduceLeDiff, Int.reduceBEq, reduceCtorEq]
          refine ⟨k - 1, by omega, i + 1, _, _, _, by omega, trivial, by rw [hpx], trivial, rfl, hG', ?_, ?_⟩
          · rw [List.map_append, hm, List.take_succ_eq_append_getElem hiP, List.map_append]; rfl
          · rw [List.take_succ_eq_append_getElem hiP]
            intro z hz
            rcases List.mem_append.1 hz with hz | hz
            · exact hok z hz
            · rw [List.mem_singleton.1 hz]; exact hn
        · have e1 := rnew_err HH (n := P[i]) (by omega) lf m
          have hbad : ¬ okSizes P := fun h => hn (h.2.2 _ (List.getElem_mem hiP))
          simp only [c36_l0, q0, q4, q5, hiP, hi1, l1, e1, Nat.mul_one, sy, tup, ↓reduceIte, Nat.reduceEqDiff, Nat.reduceAdd, Nat.reduceSub, Nat.reduceMul, Nat.reduceDiv, Nat.reduceMod, Nat.reduceLeDiff, Int.reduceBEq, reduceCtorEq]
          exact ⟨trivial, .inl ⟨trivial, hbad, trivial, trivial, hG.t⟩⟩
      · have hg : ¬ (i < P.length) := hiP
        have hiL : P.take i = P := List.take_of_length_le (by omega)
        rw [hiL] at hm hok
        simp only [c36_l0, q0, q4, q5, hg, sy, tup, ↓reduceIte, Nat.reduceEqDiff, Nat.reduceAdd, Nat.reduceSub, Nat.reduceMul, Nat.reduceDiv, Nat.reduceMod, Nat.reduceLeDiff, Int.reduceBEq, reduceCtorEq]
        refine ⟨trivial, .inr ⟨trivial, trivial, ⟨g1, g2, hok⟩, p, o, l, hG, hm⟩⟩
    simp only [c36, g1', g2', sy, tup, ↓reduceIte, Nat.reduceEqDiff, Nat.reduceAdd, Nat.reduceSub, Nat.reduceMul, Nat.reduceDiv, Nat.reduceMod, Nat.reduceLeDiff, Int.reduceBEq, reduceCtorEq]
    refine wp_ctx (F := fun r => seqC _ _ _ (blockC _ r)) (hloop _ ?_ ?_ ?_) ?_
    · simp only [sy, tup, ↓reduceIte, Nat.reduceEqDiff, Nat.reduceAdd, Nat.reduceSub, Nat.reduceMul, Nat.reduceDiv, Nat.reduceMod, Nat.reduceLeDiff, Int.reduceBEq, reduceCtorEq]
    · simp only [sy, tup, ↓reduceIte, Nat.reduceEqDiff, Nat.reduceAdd, Nat.reduceSub, Nat.reduceMul, Nat.reduceDiv, Nat.reduceMod, Nat.reduceLeDiff, Int.reduceBEq, reduceCtorEq]
    · simp only [sy, tup, ↓reduceIte, Nat.reduceEqDiff, Nat.reduceAdd, Nat.reduceSub, Nat.reduceMul, Nat.reduceDiv, Nat.reduceMod, Nat.reduceLeDiff, Int.reduceBEq, reduceCtorEq]
    rintro x ⟨t, HH, d⟩ ⟨rfl, ⟨rfl, hbad, q2, q3, hT⟩ | ⟨rfl, q4, hok, p, o, l, hG, hm⟩⟩
    · dsimp only at q2 q3 hT
      simp only [q2, q3, sy, tup, ↓reduceIte, Nat.reduceEqDiff, Nat.reduceAdd, Nat.reduceSub, Nat.reduceMul, Nat.reduceDiv, Nat.reduceMod, Nat.reduceLeDiff, Int.reduceBEq, reduceCtorEq]
      exact ⟨trivial, .inr trivial, _, rfl, hT, .inl ⟨hbad, rfl⟩⟩
    · dsimp only at q4 hG
      have hl : l ≠ [] := fun e => by
        have := congrArg List.length hm
        rw [e] at this; simp at this; omega
      obtain ⟨ds, rfl, rfl, hR, hN⟩ := Grow.rep (r := true) (B := newB P) hG hl hm
      simp only [q4, sy, tup, ↓reduceIte, Nat.reduceEqDiff, Nat.reduceAdd, Nat.reduceSub, Nat.reduceMul, Nat.reduceDiv, Nat.reduceMod, Nat.reduceLeDiff, Int.reduceBEq, reduceCtorEq]
      exact ⟨trivial, .inr trivial, _, rfl, hG.t, .inr ⟨hok, _, ds, l, rfl, hR, hN⟩⟩
  · have hbad : ¬ okSizes P := fun h => hlen ⟨h.1, h.2.1⟩
    by_cases g1 : (P.length : Int) < 1
    · simp only [c36, g1, sy, tup, ↓reduceIte, Nat.reduceEqDiff, Nat.reduceAdd, Nat.reduceSub, Nat.reduceMul, Nat.reduceDiv, Nat.reduceMod, Nat.reduceLeDiff, Int.reduceBEq, reduceCtorEq]
      exact ⟨trivial, .inr trivial, _, rfl, Turns.refl Z H, .inl ⟨hbad, rfl⟩⟩
    · have g2 : 17 < (P.length : Int) := by omega
      simp only [c36, g1, g2, sy, tup, ↓reduceIte, Nat.reduceEqDiff, Nat.reduceAdd, Nat.reduceSub, Nat.reduceMul, Nat.reduceDiv, Nat.reduceMod, Nat.reduceLeDiff, Int.reduceBEq, reduceCtorEq]
      exact ⟨trivial, .inr trivial, _, rfl, Turns.refl Z H, .inl ⟨hbad, rfl⟩⟩

end Go.Proofs.Ytejgheoandfikaa.disk


/-
  Geometries: whether one may be, how many blocks it has; the program's and the document's.
-/
set_option linter.unusedVariables false
set_option linter.unusedSimpArgs false
set_option maxRecDepth 10000
namespace Go.Proofs.Ytejgheoandfikaa.draft
open Go.Am

/-- ashlar/geom.within -/
noncomputable def c58 : CFn := ⟨[.tmp (pp 6)],
 .seq (.reg [
 qo 6 (.p (S.get (.c (.bool false)))) []]) (
 .seq (.reg [
 mv 7 0,
 mv 8 1,
 qo 9 (.p (arF .geq (tt 7) (tt 8))) [pp 7, pp 8],
 mv 10 9,
 mg 11 0 10 true,
 mg 12 2 10 true,
 qg 13 (.p (arF .leq (tt 11) (tt 12))) 10 true [pp 11, pp 12],
 qo 14 (.p (pickF (tt 10) (tt 13) (.c (.bool false)))) [pp 10, pp 13],
 mv 6 14]) (
 .ret))⟩
theorem c58_eq : fnOf Try.prog 58 = some c58 := by kernel_rfl

/-- ashlar/geom.May -/
noncomputable def c27 : CFn := ⟨[.tmp (pp 2)],
 .seq (.reg [
 qo 1 (.m (boxF 3 (tt 0))) [pp 0],
 qo 2 (.p (S.get (.c (.bool false)))) []]) (
 .seq (.reg [
 qo 3 (.p (faddrF (tt 1) 0)) [pp 1],
 qo 4 (.r (loadF (tt 3) 1 .sc)) [pp 3],
 qo 5 (.c (callF (ff 58) [(tt 4), (ii 3), (ii 16)])) [pp 4],
 mv 6 5,
 qg 7 (.p (faddrF (tt 1) 1)) 6 true [pp 1],
 qg 8 (.r (loadF (tt 7) 1 .sc)) 6 true [pp 7],
 qg 9 (.c (callF (ff 58) [(tt 8), (ii 1), (ii 64)])) 6 true [pp 8],
 qo 10 (.p (pickF (tt 6) (tt 9) (.c (.bool false)))) [pp 6, pp 9],
 mv 11 10,
 qg 12 (.p (faddrF (tt 1) 2)) 11 true [pp 1],
 qg 13 (.r (loadF (tt 12) 1 .sc)) 11 true [pp 12],
 qg 14 (.c (callF (ff 58) [(tt 13), (ii 40), (ii 256)])) 11 true [pp 13],
 qo 15 (.p (pickF (tt 11) (tt 14) (.c (.bool false)))) [pp 11, pp 14],
 mv 2 15]) (
 .ret))⟩
theorem c27_eq : fnOf Try.prog 27 = some c27 := by kernel_rfl

/-- ashlar/ashlarref04.May -/
noncomputable def c28 : CFn := ⟨[.tmp (pp 2)],
 .seq (.reg [
 qo 1 (.m (boxF 3 (tt 0))) [pp 0],
 qo 2 (.p (S.get (.c (.bool false)))) []]) (
 .seq (.reg [
 qo 3 (.p (faddrF (tt 1) 0)) [pp 1],
 qo 4 (.r (loadF (tt 3) 1 .sc)) [pp 3],
 qo 5 (.p (arF .geq (tt 4) (ii 3))) [pp 4],
 mv 6 5,
 qg 7 (.p (faddrF (tt 1) 0)) 6 true [pp 1],
 qg 8 (.r (loadF (tt 7) 1 .sc)) 6 true [pp 7],
 qg 9 (.p (arF .leq (tt 8) (ii 16))) 6 true [pp 8],
 qo 10 (.p (pickF (tt 6) (tt 9) (.c (.bool false)))) [pp 6, pp 9],
 mv 11 10,
 qg 12 (.p (faddrF (tt 1) 1)) 11 true [pp 1],
 qg 13 (.r (loadF (tt 12) 1 .sc)) 11 true [pp 12],
 qg 14 (.p (arF .geq (tt 13) (ii 1))) 11 true [pp 13],
 qo 15 (.p (pickF (tt 11) (tt 14) (.c (.bool false)))) [pp 11, pp 14],
 mv 16 15,
 qg 17 (.p (faddrF (tt 1) 1)) 16 true [pp 1],
 qg 18 (.r (loadF (tt 17) 1 .sc)) 16 true [pp 17],
 qg 19 (.p (arF .leq (tt 18) (ii 64))) 16 true [pp 18],
 qo 20 (.p (pickF (tt 16) (tt 19) (.c (.bool false)))) [pp 16, pp 19],
 mv 21 20,
 qg 22 (.p (faddrF (tt 1) 2)) 21 true [pp 1],
 qg 23 (.r (loadF (tt 22) 1 .sc)) 21 true [pp 22],
 qg 24 (.p (arF .geq (tt 23) (ii 40))) 21 true [pp 23],
 qo 25 (.p (pickF (tt 21) (tt 24) (.c (.bool false)))) [pp 21, pp 24],
 mv 26 25,
 qg 27 (.p (faddrF (tt 1) 2)) 26 true [pp 1],
 qg 28 (.r (loadF (tt 27) 1 .sc)) 26 true [pp 27],
 qg 29 (.p (arF .leq (tt 28) (ii 256))) 26 true [pp 28],
 qo 30 (.p (pickF (tt 26) (tt 29) (.c (.bool false)))) [pp 26, pp 29],
 mv 2 30]) (
 .ret))⟩
theorem c28_eq : fnOf Try.prog 28 = some c28 := by kernel_rfl


def Z : Bk → Prop := fun _ => False
noncomputable abbrev S0 : CallT := disk.S0

def geo (m s r : Int) : V := .agg [.int .i64 m, .int .i64 s, .int .i64 r]
def inn (n lo hi : Int) : Bool := decide (lo ≤ n) && decide (n ≤ hi)
def may (m s r : Int) : Bool := inn m 3 16 && (inn s 1 64 && inn r 40 256)

theorem inn_t {n lo hi : Int} (h : inn n lo hi = true) : lo ≤ n ∧ n ≤ hi := by
  simpa [inn] using h
theorem may_t {m s r : Int} (h : may m s r = true) : (3 ≤ m ∧ m ≤ 16) ∧ (1 ≤ s ∧ s ≤ 64) ∧ (40 ≤ r ∧ r ≤ 256) := by
  simp only [may, Bool.and_eq_true] at h
  exact ⟨inn_t h.1, inn_t h.2.1, inn_t h.2.2⟩

theorem within_ok (H : Heap) (a lo hi : Int) (lf n : Nat) : callS Try.prog S0 lf (n + 1) 58 [.int .i64 a, .int .i64 lo, .int .i64 hi] H = some (.v (.bool (inn a lo hi)), H) := by
  obtain ⟨v, H', e, rfl, rfl⟩ : ret (callS Try.prog S0 lf (n + 1) 58 [.int .i64 a, .int .i64 lo, .int .i64 hi] H) fun v H' => v = .bool (inn a lo hi) ∧ H' = H := by
    refine ret_call rfl c58_eq ?_
    by_cases h : lo ≤ a
    · simp only [c58, h, sy, tup, ↓reduceIte, Nat.reduceEqDiff, Nat.reduceAdd, Nat.reduceSub, Nat.reduceMul, Nat.reduceDiv, Nat.reduceMod, Nat.reduceLeDiff, Int.reduceBEq, reduceCtorEq]
      simp [inn, h]
    · simp only [c58, h, sy, tup, ↓reduceIte, Nat.reduceEqDiff, Nat.reduceAdd, Nat.reduceSub, Nat.reduceMul, Nat.reduceDiv, Nat.reduceMod, Nat.reduceLeDiff, Int.reduceBEq, reduceCtorEq]
      simp [inn, h]
  exact e

theorem may_ok (H : Heap) (m s r : Int) (lf n : Nat) : ret (callS Try.prog S0 lf (n + 2) 27 [geo m s r] H) fun v H' => v = .bool (may m s r) ∧ Turns Z H H' := by
  have t1 := Turns.add Z H (.rows false 3 [[.int .i64 m, .int .i64 s, .int .i64 r]])
  have hg : (H.add (.rows false 3 [[.int .i64 m, .int .i64 s, .int .i64 r]])).get (.run H.next) = some (.rows false 3 [[.int .i64 m, .int .i64 s, .int .i64 r]]) := by rw [Heap.get_add, if_pos rfl]
  have l0 : loadAt (H.add (.rows false 3 [[.int .i64 m, .int .i64 s, .int .i64 r]])) ⟨.run H.next, 0⟩ 1 = some [.int .i64 m] := by rw [loadAt_eq hg rfl]; rfl
  have l1 : loadAt (H.add (.rows false 3 [[.int .i64 m, .int .i64 s, .int .i64 r]])) ⟨.run H.next, 1⟩ 1 = some [.int .i64 s] := by rw [loadAt_eq hg rfl]; rfl
  have l2 : loadAt (H.add (.rows false 3 [[.int .i64 m, .int .i64 s, .int .i64 r]])) ⟨.run H.next, 2⟩ 1 = some [.int .i64 r] := by rw [loadAt_eq hg rfl]; rfl
  have w1 := within_ok (H.add (.rows false 3 [[.int .i64 m, .int .i64 s, .int .i64 r]])) m 3 16 lf n
  have w2 := within_ok (H.add (.rows false 3 [[.int .i64 m, .int .i64 s, .int .i64 r]])) s 1 64 lf n
  have w3 := within_ok (H.add (.rows false 3 [[.int .i64 m, .int .i64 s, .int .i64 r]])) r 40 256 lf n
  refine ret_call rfl c27_eq ?_
  unfold may
  generalize inn m 3 16 = b1 at *
  generalize inn s 1 64 = b2 at *
  generalize inn r 40 256 = b3 at *
  cases b1 <;> cases b2 <;> (simp only [c27, geo, w1, w2, w3, l0, l1, l2, sy, tup, ↓reduceIte, Nat.reduceEqDiff, Nat.reduceAdd, Nat.reduceSub, Nat.reduceMul, Nat.reduceDiv, Nat.reduceMod, Nat.reduceLeDiff, Int.reduceBEq, reduceCtorEq]; simp; exact t1)

theorem rmay_ok (H : Heap) (m s r : Int) (lf n : Nat) : ret (callS Try.prog S0 lf (n + 1) 28 [geo m s r] H) fun v H' => v = .bool (may m s r) ∧ Turns Z H H' := by
  have t1 := Turns.add Z H (.rows false 3 [[.int .i64 m, .int .i64 s, .int .i64 r]])
  have hg : (H.add (.rows false 3 [[.int .i64 m, .int .i64 s, .int .i64 r]])).get (.run H.next) = some (.rows false 3 [[.int .i64 m, .int .i64 s, .int .i64 r]]) := by rw [Heap.get_add, if_pos rfl]
  have l0 : loadAt (H.add (.rows false 3 [[.int .i64 m, .int .i64 s, .int .i64 r]])) ⟨.run H.next, 0⟩ 1 = some [.int .i64 m] := by rw [loadAt_eq hg rfl]; rfl
  have l1 : loadAt (H.add (.rows false 3 [[.int .i64 m, .int .i64 s, .int .i64 r]])) ⟨.run H.next, 1⟩ 1 = some [.int .i64 s] := by rw [loadAt_eq hg rfl]; rfl
  have l2 : loadAt (H.add (.rows false 3 [[.int .i64 m, .int .i64 s, .int .i64 r]])) ⟨.run H.next, 2⟩ 1 = some [.int .i64 r] := by rw [loadAt_eq hg rfl]; rfl
  refine ret_call rfl c28_eq ?_
  unfold may inn
  by_cases h1 : 3 ≤ m
  · by_cases h2 : m ≤ 16
    · by_cases h3 : 1 ≤ s
      · by_cases h4 : s ≤ 64
        · by_cases h5 : 40 ≤ r
          · simp only [c28, geo, h1, h2, h3, h4, h5, l0, l1, l2, sy, tup, ↓reduceIte, Nat.reduceEqDiff, Nat.reduceAdd, Nat.reduceSub, Nat.reduceMul, Nat.reduceDiv, Nat.reduceMod, Nat.reduceLeDiff, Int.reduceBEq, reduceCtorEq]; simp; exact t1
          · simp only [c28, geo, h1, h2, h3, h4, h5, l0, l1, l2, sy, tup, ↓reduceIte, Nat.reduceEqDiff, Nat.reduceAdd, Nat.reduceSub, Nat.reduceMul, Nat.reduceDiv, Nat.reduceMod, Nat.reduceLeDiff, Int.reduceBEq, reduceCtorEq]; simp; exact t1
        · simp only [c28, geo, h1, h2, h3, h4, l0, l1, l2, sy, tup, ↓reduceIte, Nat.reduceEqDiff, Nat.reduceAdd, Nat.reduceSub, Nat.reduceMul, Nat.reduceDiv, Nat.reduceMod, Nat.reduceLeDiff, Int.reduceBEq, reduceCtorEq]; simp; exact t1
      · simp only [c28, geo, h1, h2, h3, l0, l1, l2, sy, tup, ↓reduceIte, Nat.reduceEqDiff, Nat.reduceAdd, Nat.reduceSub, Nat.reduceMul, Nat.reduceDiv, Nat.reduceMod, Nat.reduceLeDiff, Int.reduceBEq, reduceCtorEq]; simp; exact t1
    · simp only [c28, geo, h1, h2, l0, l1, l2, sy, tup, ↓reduceIte, Nat.reduceEqDiff, Nat.reduceAdd, Nat.reduceSub, Nat.reduceMul, Nat.reduceDiv, Nat.reduceMod, Nat.reduceLeDiff, Int.reduceBEq, reduceCtorEq]; simp; exact t1
  · simp only [c28, geo, h1, l0, l1, l2, sy, tup, ↓reduceIte, Nat.reduceEqDiff, Nat.reduceAdd, Nat.reduceSub, Nat.reduceMul, Nat.reduceDiv, Nat.reduceMod, Nat.reduceLeDiff, Int.reduceBEq, reduceCtorEq]; simp; exact t1

/-- how many blocks -/
def blocks (m s r : Int) : Int := if may m s r = true then s * (m - 1) else 0

theorem blocks_le (m s r : Int) : 0 ≤ blocks m s r ∧ blocks m s r ≤ 960 := by
  unfold blocks
  split
  · rename_i h
    obtain ⟨h1, h2, h3⟩ := may_t h
    have e1 : 0 ≤ s * (m - 1) := Int.mul_nonneg (by omega) (by omega)
    have e2 : s * (m - 1) ≤ 64 * 15 := Int.mul_le_mul (by omega) (by omega) (by omega) (by omega)
    omega
  · omega

theorem wrap_mul {m s r : Int} (h : may m s r = true) : IntKind.i64.wrap (s * (m - 1)) = s * (m - 1) ∧ IntKind.i64.wrap (m - 1) = m - 1 := by
  have := blocks_le m s r
  unfold blocks at this
  rw [if_pos h] at this
  obtain ⟨h1, h2, h3⟩ := may_t h
  exact ⟨wrap_i64 (by omega), wrap_i64 (by omega)⟩

end Go.Proofs.Ytejgheoandfikaa.draft


/-
  Rosters: whether one may be; the program's answer and the document's.
-/
set_option linter.unusedVariables false
set_option linter.unusedSimpArgs false
set_option maxRecDepth 10000
namespace Go.Proofs.Ytejgheoandfikaa.draft
open Go.Am

noncomputable def c85_l0 : C := .seq (.reg [
 qo 11 (.p (arF .lss (tt 10) (ii 16))) [pp 10]]) (
 .seq (.cond (tt 11) (.skip) (.exit 0)) (
 .seq (.block 1 (.seq (.reg [
 qo 12 (.p (idxAF (tt 9) (tt 10) 16 1 .sc)) [pp 9, pp 10],
 mv 7 12]) (
 .seq (.reg [
 mv 13 7,
 mv 14 1,
 qo 15 (.p (eqcF false false [.int .u8] (tt 13) (tt 14))) [pp 13, pp 14]]) (
 .cond (tt 15) (.reg [
 mv 16 5,
 qo 17 (.p (arF .add (tt 16) (ii 1))) [pp 16],
 mv 5 17]) (.skip))))) (
 .reg [
 qo 18 (.p (arF .add (tt 10) (ii 1))) [pp 10],
 mv 10 18])))
/-- ashlar/roster.count -/
noncomputable def c85 : CFn := ⟨[.tmp (pp 4)],
 .seq (.reg [
 qo 2 (.m (boxF 21 (tt 0))) [pp 0],
 qo 4 (.p (S.get (ii 0))) []]) (
 .seq (.reg [
 qo 5 (.p (S.get (ii 0))) []]) (
 .seq (.seq (.reg [
 qo 8 (.p (faddrF (tt 2) 3)) [pp 2],
 qo 9 (.r (loadF (tt 8) 16 .ag)) [pp 8],
 qo 10 (.p (S.get (ii 0))) []]) (
 .block 0 (.loop c85_l0))) (
 .seq (.reg [
 mv 19 5,
 mv 4 19]) (
 .ret))))⟩
theorem c85_eq : fnOf Try.prog 85 = some c85 := by kernel_rfl

noncomputable def c48_l0 : C := .seq (.reg [
 qo 30 (.p (arF .lss (tt 29) (tt 28))) [pp 29, pp 28]]) (
 .seq (.cond (tt 30) (.skip) (.exit 0)) (
 .seq (.block 1 (.seq (.reg [
 qo 31 (.p (iaddrSF (tt 27) (tt 29) 1)) [pp 27, pp 29],
 qo 32 (.r (loadF (tt 31) 1 .sc)) [pp 31],
 mv 4 32]) (
 .seq (.reg [
 mv 33 4,
 qo 34 (.p (eqcF true false [.int .u8] (tt 33) (.c (.int .u8 0)))) [pp 33]]) (
 .cond (tt 34) (.seq (.reg [
 qo 2 (.p (S.get (.c (.bool false)))) []]) (
 .ret)) (.skip))))) (
 .reg [
 qo 35 (.p (arF .add (tt 29) (ii 1))) [pp 29],
 mv 29 35])))
/-- ashlar/roster.May -/
noncomputable def c48 : CFn := ⟨[.tmp (pp 2)],
 .seq (.reg [
 qo 1 (.m (boxF 21 (tt 0))) [pp 0],
 qo 2 (.p (S.get (.c (.bool false)))) []]) (
 .seq (.seq (.reg [
 qo 6 (.p (faddrF (tt 1) 0)) [pp 1],
 qo 7 (.r (loadF (tt 6) 3 .ag)) [pp 6],
 qo 8 (.c (callF (ff 27) [(tt 7)])) [pp 7],
 qo 9 (.p (unF .not (tt 8))) [pp 8],
 mv 10 9,
 qg 11 (.p (faddrF (tt 1) 19)) 10 false [pp 1],
 qg 12 (.r (loadF (tt 11) 1 .sc)) 10 false [pp 11],
 qg 13 (.p (arF .lss (tt 12) (ii 0))) 10 false [pp 12],
 qo 14 (.p (pickF (tt 10) (.c (.bool true)) (tt 13))) [pp 10, pp 13],
 mv 15 14,
 qg 16 (.p (faddrF (tt 1) 19)) 15 false [pp 1],
 qg 17 (.r (loadF (tt 16) 1 .sc)) 15 false [pp 16],
 qg 18 (.p (faddrF (tt 1) 0)) 15 false [pp 1],
 qg 19 (.p (faddrF (tt 18) 1)) 15 false [pp 18],
 qg 20 (.r (loadF (tt 19) 1 .sc)) 15 false [pp 19],
 qg 21 (.p (arF .geq (tt 17) (tt 20))) 15 false [pp 17, pp 20],
 qo 22 (.p (pickF (tt 15) (.c (.bool true)) (tt 21))) [pp 15, pp 21]]) (
 .cond (tt 22) (.seq (.reg [
 qo 2 (.p (S.get (.c (.bool false)))) []]) (
 .ret)) (.skip))) (
 .seq (.seq (.reg [
 qo 23 (.p (faddrF (tt 1) 3)) [pp 1],
 qo 24 (.p (faddrF (tt 1) 0)) [pp 1],
 qo 25 (.p (faddrF (tt 24) 0)) [pp 24],
 qo 26 (.r (loadF (tt 25) 1 .sc)) [pp 25],
 qo 27 (.p (sliceAF 16 1 (tt 23) (some (tt 26)) none none)) [pp 23, pp 26],
 qo 28 (.p (lenF (tt 27))) [pp 27],
 qo 29 (.p (S.get (ii 0))) []]) (
 .block 0 (.loop c48_l0))) (
 .seq (.reg [
 qo 36 (.r (loadF (tt 1) 21 .ag)) [pp 1],
 qo 37 (.c (callF (ff 85) [(tt 36), (.c (.int .u8 2))])) [pp 36],
 mv 5 37]) (
 .seq (.regD [
 qo 38 (.r (loadF (tt 1) 21 .ag)) [pp 1],
 qo 39 (.c (callF (ff 85) [(tt 38), (.c (.int .u8 0))])) [pp 38],
 qo 40 (.r (loadF (tt 1) 21 .ag)) [pp 1],
 qo 41 (.c (callF (ff 85) [(tt 40), (.c (.int .u8 1))])) [pp 40],
 qo 42 (.p (arF .add (tt 39) (tt 41))) [pp 39, pp 41],
 mv 43 5,
 qo 44 (.p (arF .add (tt 42) (tt 43))) [pp 42, pp 43],
 qo 45 (.p (eqcF false false [.int .i64] (tt 44) (ii 16))) [pp 44],
 mv 46 45,
 mg 47 5 46 true,
 qg 48 (.p (eqcF false false [.int .i64] (tt 47) (ii 1))) 46 true [pp 47],
 mg 49 48 46 true,
 mg 50 5 49 false,
 qg 51 (.p (eqcF false false [.int .i64] (tt 50) (ii 0))) 49 false [pp 50],
 mg 52 51 49 false,
 qg 53 (.p (faddrF (tt 1) 19)) 52 true [pp 1],
 qg 54 (.r (loadF (tt 53) 1 .sc)) 52 true [pp 53],
 qg 55 (.p (eqcF false false [.int .i64] (tt 54) (ii 0))) 52 true [pp 54],
 qg 56 (.p (pickF (tt 52) (tt 55) (.c (.bool false)))) 49 false [pp 52, pp 55],
 qg 57 (.p (pickF (tt 49) (.c (.bool true)) (tt 56))) 46 true [pp 49, pp 56],
 qo 58 (.p (pickF (tt 46) (tt 57) (.c (.bool false)))) [pp 46, pp 57],
 mv 2 58] [0, 1, 0, 7, 15, 0, 63, 127, 255, 511, 1023, 2047, 4095, 8191, 16383, 32767, 65535, 131071, 262143, 524287, 1048575, 2097151]) (
 .ret)))))⟩
theorem c48_eq : fnOf Try.prog 48 = some c48 := by kernel_rfl

noncomputable def c46_l0 : C := .seq (.seq (.reg [
 mv 9 4,
 qo 10 (.p (arF .lss (tt 9) (ii 16))) [pp 9]]) (
 .cond (tt 10) (.skip) (.exit 0))) (
 .seq (.block 1 (.seq (.seq (.reg [
 mv 13 4,
 qo 14 (.p (faddrF (tt 1) 3)) [pp 1],
 qo 15 (.p (iaddrAF (tt 14) (tt 13) 16 1)) [pp 14, pp 13],
 qo 16 (.r (loadF (tt 15) 1 .sc)) [pp 15],
 qo 17 (.p (arF .gtr (tt 16) (.c (.int .u8 2)))) [pp 16],
 mv 18 17,
 mg 19 4 18 false,
 qg 20 (.p (faddrF (tt 1) 0)) 18 false [pp 1],
 qg 21 (.p (faddrF (tt 20) 0)) 18 false [pp 20],
 qg 22 (.r (loadF (tt 21) 1 .sc)) 18 false [pp 21],
 qg 23 (.p (arF .geq (tt 19) (tt 22))) 18 false [pp 19, pp 22],
 mg 24 23 18 false,
 mg 25 4 24 true,
 qg 26 (.p (faddrF (tt 1) 3)) 24 true [pp 1],
 qg 27 (.p (iaddrAF (tt 26) (tt 25) 16 1)) 24 true [pp 26, pp 25],
 qg 28 (.r (loadF (tt 27) 1 .sc)) 24 true [pp 27],
 qg 29 (.p (eqcF true false [.int .u8] (tt 28) (.c (.int .u8 0)))) 24 true [pp 28],
 qg 30 (.p (pickF (tt 24) (tt 29) (.c (.bool false)))) 18 false [pp 24, pp 29],
 qo 31 (.p (pickF (tt 18) (.c (.bool true)) (tt 30))) [pp 18, pp 30]]) (
 .cond (tt 31) (.seq (.reg [
 qo 2 (.p (S.get (.c (.bool false)))) []]) (
 .ret)) (.skip))) (
 .seq (.reg [
 mv 32 4,
 qo 33 (.p (faddrF (tt 1) 3)) [pp 1],
 qo 34 (.p (iaddrAF (tt 33) (tt 32) 16 1)) [pp 33, pp 32],
 qo 35 (.r (loadF (tt 34) 1 .sc)) [pp 34],
 qo 36 (.p (eqcF false false [.int .u8] (tt 35) (.c (.int .u8 2)))) [pp 35]]) (
 .cond (tt 36) (.reg [
 mv 37 3,
 qo 38 (.p (arF .add (tt 37) (ii 1))) [pp 37],
 mv 3 38]) (.skip))))) (
 .reg [
 mv 11 4,
 qo 12 (.p (arF .add (tt 11) (ii 1))) [pp 11],
 mv 4 12]))
/-- ashlar/ashlarref08.Fine -/
noncomputable def c46 : CFn := ⟨[.tmp (pp 2)],
 .seq (.reg [
 qo 1 (.m (boxF 21 (tt 0))) [pp 0],
 qo 2 (.p (S.get (.c (.bool false)))) []]) (
 .seq (.seq (.reg [
 qo 5 (.p (faddrF (tt 1) 0)) [pp 1],
 qo 6 (.r (loadF (tt 5) 3 .ag)) [pp 5],
 qo 7 (.c (callF (ff 28) [(tt 6)])) [pp 6],
 qo 8 (.p (unF .not (tt 7))) [pp 7]]) (
 .cond (tt 8) (.seq (.reg [
 qo 2 (.p (S.get (.c (.bool false)))) []]) (
 .ret)) (.skip))) (
 .seq (.reg [
 qo 3 (.p (S.get (ii 0))) []]) (
 .seq (.seq (.reg [
 qo 4 (.p (S.get (ii 0))) []]) (
 .block 0 (.loop c46_l0))) (
 .seq (.reg [
 mv 39 3,
 qo 40 (.p (arF .leq (tt 39) (ii 1))) [pp 39],
 mv 41 40,
 qg 42 (.p (faddrF (tt 1) 19)) 41 true [pp 1],
 qg 43 (.r (loadF (tt 42) 1 .sc)) 41 true [pp 42],
 qg 44 (.p (arF .geq (tt 43) (ii 0))) 41 true [pp 43],
 qo 45 (.p (pickF (tt 41) (tt 44) (.c (.bool false)))) [pp 41, pp 44],
 mv 46 45,
 qg 47 (.p (faddrF (tt 1) 19)) 46 true [pp 1],
 qg 48 (.r (loadF (tt 47) 1 .sc)) 46 true [pp 47],
 qg 49 (.p (faddrF (tt 1) 0)) 46 true [pp 1],
 qg 50 (.p (faddrF (tt 49) 1)) 46 true [pp 49],
 qg 51 (.r (loadF (tt 50) 1 .sc)) 46 true [pp 50],
 qg 52 (.p (arF .lss (tt 48) (tt 51))) 46 true [pp 48, pp 51],
 qo 53 (.p (pickF (tt 46) (tt 52) (.c (.bool false)))) [pp 46, pp 52],
 mv 54 53,
 mg 55 3 54 true,
 qg 56 (.p (eqcF false false [.int .i64] (tt 55) (ii 1))) 54 true [pp 55],
 mg 57 56 54 true,
 qg 58 (.p (faddrF (tt 1) 19)) 57 false [pp 1],
 qg 59 (.r (loadF (tt 58) 1 .sc)) 57 false [pp 58],
 qg 60 (.p (eqcF false false [.int .i64] (tt 59) (ii 0))) 57 false [pp 59],
 qg 61 (.p (pickF (tt 57) (.c (.bool true)) (tt 60))) 54 true [pp 57, pp 60],
 qo 62 (.p (pickF (tt 54) (tt 61) (.c (.bool false)))) [pp 54, pp 61],
 mv 2 62]) (
 .ret)))))⟩
theorem c46_eq : fnOf Try.prog 46 = some c46 := by kernel_rfl

/-- ashlar/ashlarref10.May -/
noncomputable def c15 : CFn := ⟨[.tmp (pp 2)],
 .seq (.reg [
 qo 1 (.m (boxF 21 (tt 0))) [pp 0],
 qo 2 (.p (S.get (.c (.bool false)))) []]) (
 .seq (.reg [
 qo 3 (.r (loadF (tt 1) 21 .ag)) [pp 1],
 qo 4 (.c (callF (ff 46) [(tt 3)])) [pp 3],
 mv 2 4]) (
 .ret))⟩
theorem c15_eq : fnOf Try.prog 15 = some c15 := by kernel_rfl


/-! ### cells of one each -/

def Thin (cs : List V) : Prop := ∀ v ∈ cs, v.asBlk = none
theorem width_thin : ∀ {cs : List V}, Thin cs → width cs = cs.length
  | [], _ => rfl
  | c :: cs, h => by
    have h1 : c.asBlk = none := h c (List.mem_cons_self ..)
    unfold width V.w
    rw [h1, width_thin (fun v hv => h v (List.mem_cons_of_mem _ hv))]
    show 1 + cs.length = _
    rw [List.length_cons, Nat.add_comm]
theorem cut_thin : ∀ {cs : List V} {o n : Nat}, Thin cs → o + n ≤ cs.length → cut cs o n = some ((cs.drop o).take n)
  | [], o, n, _, h => by
    have : n = 0 := by simp at h; omega
    subst this
    simp [cut]
  | c :: cs, o, n, h, hl => by
    have h1 : c.asBlk = none := h c (List.mem_cons_self ..)
    have h2 : Thin cs := fun v hv => h v (List.mem_cons_of_mem _ hv)
    rw [List.length_cons] at hl
    unfold cut
    cases n with
    | zero => simp
    | succ n =>
      have e0 : Nat.beq (n + 1) 0 = false := rfl
      simp only [e0, h1]
      cases o with
      | zero =>
        simp only [show Nat.beq 0 0 = true from rfl]
        have := cut_thin (o := 0) (n := n) h2 (by omega)
        rw [show Nat.sub (n + 1) 1 = n from rfl, this]
        simp
      | succ o =>
        simp only [show Nat.beq (o + 1) 0 = false from rfl]
        have := cut_thin (o := o) (n := n + 1) h2 (by omega)
        rw [show Nat.sub (o + 1) 1 = o from rfl, this]
        simp

def sts (S : List Nat) : List V := S.map fun x : Nat => V.int .u8 (x : Int)
def rcells (m s r : Int) (S : List Nat) (c : Int) (g : Bool) : List V := [.int .i64 m, .int .i64 s, .int .i64 r] ++ (sts S ++ [.int .i64 c, .bool g])
def ros (m s r : Int) (S : List Nat) (c : Int) (g : Bool) : V := .agg (rcells m s r S c g)

theorem sts_len (S : List Nat) : (sts S).length = S.length := List.length_map ..
theorem sts_thin (S : List Nat) : Thin (sts S) := fun v hv => by
  obtain ⟨x, _, rfl⟩ := List.mem_map.1 hv
  rfl
theorem r_thin (m s r : Int) (S : List Nat) (c : Int) (g : Bool) : Thin (rcells m s r S c g) := by
  intro v hv
  unfold rcells at hv
  rcases List.mem_append.1 hv with h | h
  · simp at h; rcases h with rfl | rfl | rfl <;> rfl
  · rcases List.mem_append.1 h with h | h
    · exact sts_thin S v h
    · simp at h; rcases h with rfl | rfl <;> rfl
theorem r_len {S : List Nat} (hS : S.length = 16) (m s r c : Int) (g : Bool) : (rcells m s r S c g).length = 21 := by
  unfold rcells
  simp [sts_len, hS]

/-- a roster in a box -/
structure RosAt (H : Heap) (b : Bk) (m s r : Int) (S : List Nat) (c : Int) (g : Bool) : Prop where
  own : H.get b = some (.rows false 21 [rcells m s r S c g])
  len : S.length = 16

section
variable {H : Heap} {b : Bk} {m s r : Int} {S : List Nat} {c : Int} {g : Bool} (h : RosAt H b m s r S c g)
include h
theorem ros_cut {o n : Nat} (hn : o + n ≤ 21) (ho : o < 21) : loadAt H ⟨b, o⟩ n = some (((rcells m s r S c g).drop o).take n) := by
  rw [loadAt_eq h.own (r := rcells m s r S c g) (nth_of (by rw [Nat.div_eq_of_lt ho]; rfl)), Nat.mod_eq_of_lt ho]
  exact cut_thin (r_thin m s r S c g) (by rw [r_len h.len]; exact hn)
theorem ros_all : loadAt H ⟨b, 0⟩ 21 = some (rcells m s r S c g) := by
  rw [ros_cut h (by omega) (by omega), List.drop_zero, List.take_of_length_le (by rw [r_len h.len]; omega)]
theorem ros_geo : loadAt H ⟨b, 0⟩ 3 = some [.int .i64 m, .int .i64 s, .int .i64 r] := by rw [ros_cut h (by omega) (by omega)]; rfl
theorem ros_m : loadAt H ⟨b, 0⟩ 1 = some [.int .i64 m] := by rw [ros_cut h (by omega) (by omega)]; rfl
theorem ros_s : loadAt H ⟨b, 1⟩ 1 = some [.int .i64 s] := by rw [ros_cut h (by omega) (by omega)]; rfl
theorem ros_sts : loadAt H ⟨b, 3⟩ 16 = some (sts S) := by
  rw [ros_cut h (by omega) (by omega)]
  unfold rcells
  show some (List.take 16 (sts S ++ _)) = _
  rw [List.take_append_of_le_length (by rw [sts_len, h.len]; omega), List.take_of_length_le (by rw [sts_len, h.len]; omega)]
theorem ros_st {i : Nat} (hi : i < 16) : loadAt H ⟨b, 3 + i * 1⟩ 1 = some [.int .u8 ((S[i]'(by rw [h.len]; exact hi) : Nat) : Int)] := by
  have hi' : i < S.length := by rw [h.len]; exact hi
  rw [ros_cut h (by omega) (by omega)]
  unfold rcells
  rw [show 3 + i * 1 = [V.int .i64 m, .int .i64 s, .int .i64 r].length + i from by simp, List.drop_length_add_append, List.drop_append_of_le_length (by rw [sts_len]; omega)]
  unfold sts
  rw [← List.map_drop, List.drop_eq_getElem_cons hi']
  rfl
theorem ros_c : loadAt H ⟨b, 19⟩ 1 = some [.int .i64 c] := by
  rw [ros_cut h (by omega) (by omega)]
  unfold rcells
  have e : 19 = [V.int .i64 m, .int .i64 s, .int .i64 r].length + ((sts S).length + 0) := by rw [sts_len, h.len]; rfl
  rw [e, List.drop_length_add_append, List.drop_length_add_append]
  rfl
end

end Go.Proofs.Ytejgheoandfikaa.draft


/-
  Rosters: how many members are so; whether one may be, as the document has it.
-/
set_option linter.unusedVariables false
set_option linter.unusedSimpArgs false
set_option maxRecDepth 10000
namespace Go.Proofs.Ytejgheoandfikaa.draft
open Go.Am

theorem r_width {S : List Nat} (hS : S.length = 16) (m s r c : Int) (g : Bool) : width (rcells m s r S c g) = 21 := by rw [width_thin (r_thin m s r S c g), r_len hS]
theorem sts_cut {S : List Nat} {i : Nat} (hi : i < S.length) : cut (sts S) (i * 1) 1 = some [.int .u8 ((S[i] : Nat) : Int)] := by
  rw [cut_thin (sts_thin S) (by rw [sts_len]; omega)]
  unfold sts
  rw [← List.map_drop, Nat.mul_one, List.drop_eq_getElem_cons hi]
  rfl

def cnt (S : List Nat) (x : Nat) : Nat := (S.filter fun y => decide (y = x)).length
theorem cnt_take {S : List Nat} {x i : Nat} (hi : i < S.length) : cnt (S.take (i + 1)) x = cnt (S.take i) x + if S[i] = x then 1 else 0 := by
  unfold cnt
  rw [List.take_add_one, List.getElem?_eq_getElem hi, List.filter_append, List.length_append]
  by_cases e : S[i] = x
  · simp [e]
  · simp [e]
theorem cnt_le (S : List Nat) (x : Nat) : cnt S x ≤ S.length := List.length_filter_le ..

theorem count_ok (H : Heap) {m s r c : Int} {g : Bool} {S : List Nat} (hS : S.length = 16) (x : Nat) (lf n : Nat) (hlf : 17 < lf) : ret (callS Try.prog S0 lf (n + 1) 85 [ros m s r S c g, .int .u8 (x : Int)] H) fun v H' => v = .int .i64 (cnt S x : Int) ∧ Turns Z H H' := by
  have t1 := Turns.add Z H (.rows false 21 [rcells m s r S c g])
  have hg : (H.add (.rows false 21 [rcells m s r S c g])).get (.run H.next) = some (.rows false 21 [rcells m s r S c g]) := by rw [Heap.get_add, if_pos rfl]
  have hr : RosAt (H.add (.rows false 21 [rcells m s r S c g])) (.run H.next) m s r S c g := ⟨hg, hS⟩
  have l1 := ros_sts hr
  have hw := r_width hS m s r c g
  refine ret_call rfl c85_eq ?_
  simp only [c85, ros, hw, l1, sy, tup, ↓reduceIte, Nat.reduceEqDiff, Nat.reduceAdd, Nat.reduceSub, Nat.reduceMul, Nat.reduceDiv, Nat.reduceMod, Nat.reduceLeDiff, Int.reduceBEq, reduceCtorEq]
  have hloop : ∀ t : T, t.getP (Tr.path 1) = some (.int .u8 (x : Int)) → t.getP (Tr.path 5) = some (.int .i64 0) → t.getP (Tr.path 9) = some (.agg (sts S)) → t.getP (Tr.path 10) = some (.int .i64 0) →
      wp (loopF (runC (callS Try.prog S0 lf n) lf c85_l0) lf ⟨t, H.add (.rows false 21 [rcells m s r S c g]), []⟩) fun x' s' => x' = .ex 0 ∧ s'.d = [] ∧ s'.H = H.add (.rows false 21 [rcells m s r S c g]) ∧ s'.t.getP (Tr.path 5) = some (.int .i64 (cnt S x : Int)) := by
    intro t q1 q5 q9 q10
    refine wp_loopF (fun j s' => ∃ i : Nat, j = 16 - i ∧ i ≤ 16 ∧ s'.d = [] ∧ s'.H = H.add (.rows false 21 [rcells m s r S c g]) ∧ s'.t.getP (Tr.path 1) = some (.int .u8 (x : Int)) ∧ s'.t.getP (Tr.path 5) = some (.int .i64 (cnt (S.take i) x : Int)) ∧ s'.t.getP (Tr.path 9) = some (.agg (sts S)) ∧ s'.t.getP (Tr.path 10) = some (.int .i64 (i : Int))) ?_ lf 16 _ ⟨0, rfl, by omega, rfl, rfl, q1, q5, q9, q10⟩ (by omega)
    rintro j ⟨t, HH, d⟩ ⟨i, rfl, hi, hd, hH, q1, q5, q9, q10⟩
    dsimp only at hd hH q1 q5 q9 q10
    subst hd; subst hH
    by_cases hlt : i < 16
    · have hlt' : (i : Int) < 16 := by omega
      have hle' : i + 1 ≤ 16 := hlt
      have hiS : i < S.length := by omega
      have hc := sts_cut hiS
      have hn := cnt_le (S.take i) x
      rw [List.length_take] at hn
      have w1 : IntKind.i64.wrap ((i : Int) + 1) = ((i + 1 : Nat) : Int) := by rw [wrap_i64 (by omega)]; omega
      have w2 : IntKind.i64.wrap ((cnt (S.take i) x : Int) + 1) = ((cnt (S.take i) x + 1 : Nat) : Int) := by rw [wrap_i64 (by omega)]; omega
      have hk := cnt_take (x := x) hiS
      by_cases e : S[i] = x
      · rw [if_pos e] at hk
        have hb : (((S[i] : Nat) : Int) == (x : Int)) = true := by simp [e]
        simp only [c85_l0, q1, q5, q9, q10, hlt', hle', hc, hb, w1, w2, sy, tup, ↓reduceIte, Nat.reduceEqDiff, Nat.reduceAdd, Nat.reduceSub, Nat.reduceMul, Nat.reduceDiv, Nat.reduceMod, Nat.reduceLeDiff, Int.reduceBEq, reduceCtorEq]
        exact ⟨16 - (i + 1), by omega, i + 1, rfl, by omega, trivial, trivial, by simp [q1], by simp [hk], by simp [q9], by simp⟩
      · rw [if_neg e, Nat.add_zero] at hk
        have hb : (((S[i] : Nat) : Int) == (x : Int)) = false := by simp; omega
        simp only [c85_l0, q1, q5, q9, q10, hlt', hle', hc, hb, w1, w2, sy, tup, ↓reduceIte, Nat.reduceEqDiff, Nat.reduceAdd, Nat.reduceSub, Nat.reduceMul, Nat.reduceDiv, Nat.reduceMod, Nat.reduceLeDiff, Int.reduceBEq, reduceCtorEq]
        exact ⟨16 - (i + 1), by omega, i + 1, rfl, by omega, trivial, trivial, by simp [q1], by simp [q5, hk], by simp [q9], by simp⟩
    · have : i = 16 := by omega
      subst this
      have hnl : decide (((16 : Nat) : Int) < 16) = false := rfl
      rw [List.take_of_length_le (by omega)] at q5
      simp only [c85_l0, q1, q5, q9, q10, hnl, sy, tup, ↓reduceIte, Nat.reduceEqDiff, Nat.reduceAdd, Nat.reduceSub, Nat.reduceMul, Nat.reduceDiv, Nat.reduceMod, Nat.reduceLeDiff, Int.reduceBEq, reduceCtorEq]
      exact ⟨trivial, trivial, trivial, by first | trivial | exact q5⟩
  refine wp_ctx (F := fun r => seqC _ _ _ (blockC _ r)) (hloop _ ?_ ?_ ?_ ?_) ?_
  · simp only [sy, tup, ↓reduceIte, Nat.reduceEqDiff, Nat.reduceAdd, Nat.reduceSub, Nat.reduceMul, Nat.reduceDiv, Nat.reduceMod, Nat.reduceLeDiff, Int.reduceBEq, reduceCtorEq]
  · simp only [sy, tup, ↓reduceIte, Nat.reduceEqDiff, Nat.reduceAdd, Nat.reduceSub, Nat.reduceMul, Nat.reduceDiv, Nat.reduceMod, Nat.reduceLeDiff, Int.reduceBEq, reduceCtorEq]
  · simp only [sy, tup, ↓reduceIte, Nat.reduceEqDiff, Nat.reduceAdd, Nat.reduceSub, Nat.reduceMul, Nat.reduceDiv, Nat.reduceMod, Nat.reduceLeDiff, Int.reduceBEq, reduceCtorEq]
  · simp only [sy, tup, ↓reduceIte, Nat.reduceEqDiff, Nat.reduceAdd, Nat.reduceSub, Nat.reduceMul, Nat.reduceDiv, Nat.reduceMod, Nat.reduceLeDiff, Int.reduceBEq, reduceCtorEq]
  rintro x' ⟨t, HH, d⟩ ⟨rfl, hd, hH, q5⟩
  dsimp only at hd hH q5
  subst hd; subst hH
  simp only [q5, sy, tup, ↓reduceIte, Nat.reduceEqDiff, Nat.reduceAdd, Nat.reduceSub, Nat.reduceMul, Nat.reduceDiv, Nat.reduceMod, Nat.reduceLeDiff, Int.reduceBEq, reduceCtorEq]
  exact ⟨trivial, .inr trivial, _, rfl, rfl, t1⟩

/-- the first so many states are some, and those of no member are 0 -/
def okTo (m : Int) (S : List Nat) (i : Nat) : Prop := ∀ j, (hj : j < i) → ∀ x, S[j]? = some x → x ≤ 2 ∧ (m ≤ (j : Int) → x = 0)

/-- whether a roster may be -/
def fine (m s r : Int) (S : List Nat) (c : Int) : Prop := may m s r = true ∧ okTo m S 16 ∧ cnt S 2 ≤ 1 ∧ 0 ≤ c ∧ c < s ∧ (cnt S 2 = 1 ∨ c = 0)

end Go.Proofs.Ytejgheoandfikaa.draft


/-
  Rosters: whether one may be, as the document has it.
-/
set_option linter.unusedVariables false
set_option linter.unusedSimpArgs false
set_option maxRecDepth 10000
namespace Go.Proofs.Ytejgheoandfikaa.draft
open Go.Am

theorem okTo_succ {m : Int} {S : List Nat} {i x : Nat} (h : okTo m S i) (hx : S[i]? = some x) (h2 : x ≤ 2 ∧ (m ≤ (i : Int) → x = 0)) : okTo m S (i + 1) := by
  intro j hj y hy
  by_cases e : j = i
  · subst e
    rw [hx] at hy
    cases hy
    exact h2
  · exact h j (by omega) y hy

theorem fine_ok (H : Heap) {m s r c : Int} {g : Bool} {S : List Nat} (hS : S.length = 16) (lf n : Nat) (hlf : 17 < lf) : ret (callS Try.prog S0 lf (n + 2) 46 [ros m s r S c g] H) fun v H' => (∃ z : Bool, v = .bool z ∧ (z = true ↔ fine m s r S c)) ∧ Turns Z H H' := by
  have t1 := Turns.add Z H (.rows false 21 [rcells m s r S c g])
  have hg : (H.add (.rows false 21 [rcells m s r S c g])).get (.run H.next) = some (.rows false 21 [rcells m s r S c g]) := by rw [Heap.get_add, if_pos rfl]
  have og : (H.add (.rows false 21 [rcells m s r S c g])).Old (.run H.next) := by show _ < _; simp
  have hr : ∀ {H' : Heap}, Turns Z (H.add (.rows false 21 [rcells m s r S c g])) H' → RosAt H' (.run H.next) m s r S c g := fun t => ⟨(t.same _ og id).trans hg, hS⟩
  have lg := ros_geo (hr (Turns.refl Z _))
  have hw := r_width hS m s r c g
  generalize hH1 : H.add (.rows false 21 [rcells m s r S c g]) = H1 at *
  obtain ⟨v, H2, e2, rfl, t2⟩ := rmay_ok H1 m s r lf n
  unfold geo at e2
  refine ret_call rfl c46_eq ?_
  cases hm : may m s r with
  | false =>
    rw [hm] at e2
    simp only [c46, ros, hw, hH1, lg, e2, sy, tup, ↓reduceIte, Nat.reduceEqDiff, Nat.reduceAdd, Nat.reduceSub, Nat.reduceMul, Nat.reduceDiv, Nat.reduceMod, Nat.reduceLeDiff, Int.reduceBEq, reduceCtorEq]
    exact ⟨trivial, .inr trivial, _, rfl, ⟨false, rfl, by unfold fine; rw [hm]; simp⟩, t1.trans t2⟩
  | true =>
    rw [hm] at e2
    simp only [c46, ros, hw, hH1, lg, e2, sy, tup, ↓reduceIte, Nat.reduceEqDiff, Nat.reduceAdd, Nat.reduceSub, Nat.reduceMul, Nat.reduceDiv, Nat.reduceMod, Nat.reduceLeDiff, Int.reduceBEq, reduceCtorEq]
    have hr2 := hr t2
    have l0 := ros_m hr2
    have hloop : ∀ t : T, t.getP (Tr.path 1) = some (.ptr (some ⟨.run H.next, 0⟩)) → t.getP (Tr.path 3) = some (.int .i64 0) → t.getP (Tr.path 4) = some (.int .i64 0) →
        wp (loopF (runC (callS Try.prog S0 lf (n + 1)) lf c46_l0) lf ⟨t, H2, []⟩) fun x' s' => s'.d = [] ∧ s'.H = H2 ∧ ((x' = .ex 0 ∧ okTo m S 16 ∧ s'.t.getP (Tr.path 1) = some (.ptr (some ⟨.run H.next, 0⟩)) ∧ s'.t.getP (Tr.path 3) = some (.int .i64 (cnt S 2 : Int))) ∨
          (x' = .ret ∧ ¬ okTo m S 16 ∧ s'.t.getP (Tr.path 2) = some (.bool false))) := by
      intro t q1 q3 q4
      refine wp_loopF (fun j s' => ∃ i : Nat, j = 16 - i ∧ i ≤ 16 ∧ s'.d = [] ∧ s'.H = H2 ∧ okTo m S i ∧ s'.t.getP (Tr.path 1) = some (.ptr (some ⟨.run H.next, 0⟩)) ∧ s'.t.getP (Tr.path 3) = some (.int .i64 (cnt (S.take i) 2 : Int)) ∧ s'.t.getP (Tr.path 4) = some (.int .i64 (i : Int))) ?_ lf 16 _ ⟨0, rfl, by omega, rfl, rfl, fun j hj => absurd hj (by omega), q1, q3, q4⟩ (by omega)
      rintro j ⟨t, HH, d⟩ ⟨i, rfl, hi, hd, hH, hok, q1, q3, q4⟩
      dsimp only at hd hH q1 q3 q4
      subst hd; subst hH
      by_cases hlt : i < 16
      · have hlt' : (i : Int) < 16 := by omega
        have hle' : i + 1 ≤ 16 := hlt
        have hiS : i < S.length := by omega
        have hget : S[i]? = some S[i] := List.getElem?_eq_getElem hiS
        have lx := ros_st hr2 hlt
        have hn := cnt_le (S.take i) 2
        rw [List.length_take] at hn
        have w1 : IntKind.i64.wrap ((i : Int) + 1) = ((i + 1 : Nat) : Int) := by rw [wrap_i64 (by omega)]; omega
        have w2 : IntKind.i64.wrap ((cnt (S.take i) 2 : Int) + 1) = ((cnt (S.take i) 2 + 1 : Nat) : Int) := by rw [wrap_i64 (by omega)]; omega
        have hk := cnt_take (x := 2) hiS
        by_cases h2 : 2 < S[i]
        · have h2' : (2 : Int) < ((S[i] : Nat) : Int) := by omega
          simp only [c46_l0, q1, q3, q4, hlt', hle', lx, h2', sy, tup, ↓reduceIte, Nat.reduceEqDiff, Nat.reduceAdd, Nat.reduceSub, Nat.reduceMul, Nat.reduceDiv, Nat.reduceMod, Nat.reduceLeDiff, Int.reduceBEq, reduceCtorEq]
          refine ⟨trivial, trivial, .inr ⟨trivial, fun h => ?_, trivial⟩⟩
          have := (h i hlt _ hget).1
          omega
        · have h2' : ¬ (2 : Int) < ((S[i] : Nat) : Int) := by omega
          by_cases hmi : m ≤ (i : Int)
          · by_cases h0 : S[i] = 0
            · have hb0 : (((S[i] : Nat) : Int) == 0) = true := by simp [h0]
              have hb2 : (((S[i] : Nat) : Int) == 2) = false := by simp [h0]
              rw [if_neg (by omega), Nat.add_zero] at hk
              simp only [c46_l0, q1, q3, q4, hlt', hle', lx, l0, h2', hmi, hb0, hb2, w1, sy, tup, ↓reduceIte, Nat.reduceEqDiff, Nat.reduceAdd, Nat.reduceSub, Nat.reduceMul, Nat.reduceDiv, Nat.reduceMod, Nat.reduceLeDiff, Int.reduceBEq, reduceCtorEq]
              exact ⟨16 - (i + 1), by omega, i + 1, rfl, by omega, trivial, trivial, okTo_succ hok hget ⟨by omega, fun _ => h0⟩, by simp [q1], by simp [q3, hk], by simp⟩
            · have hb0 : (((S[i] : Nat) : Int) == 0) = false := by simp; omega
              simp only [c46_l0, q1, q3, q4, hlt', hle', lx, l0, h2', hmi, hb0, sy, tup, ↓reduceIte, Nat.reduceEqDiff, Nat.reduceAdd, Nat.reduceSub, Nat.reduceMul, Nat.reduceDiv, Nat.reduceMod, Nat.reduceLeDiff, Int.reduceBEq, reduceCtorEq]
              refine ⟨trivial, trivial, .inr ⟨trivial, fun h => ?_, trivial⟩⟩
              exact h0 ((h i hlt _ hget).2 hmi)
          · by_cases e2 : S[i] = 2
            · have hb2 : (((S[i] : Nat) : Int) == 2) = true := by simp [e2]
              rw [if_pos e2] at hk
              simp only [c46_l0, q1, q3, q4, hlt', hle', lx, l0, h2', hmi, hb2, w1, w2, sy, tup, ↓reduceIte, Nat.reduceEqDiff, Nat.reduceAdd, Nat.reduceSub, Nat.reduceMul, Nat.reduceDiv, Nat.reduceMod, Nat.reduceLeDiff, Int.reduceBEq, reduceCtorEq]
              exact ⟨16 - (i + 1), by omega, i + 1, rfl, by omega, trivial, trivial, okTo_succ hok hget ⟨by omega, fun h => absurd h hmi⟩, by simp [q1], by simp [hk], by simp⟩
            · have hb2 : (((S[i] : Nat) : Int) == 2) = false := by simp; omega
              rw [if_neg e2, Nat.add_zero] at hk
              simp only [c46_l0, q1, q3, q4, hlt', hle', lx, l0, h2', hmi, hb2, w1, sy, tup, ↓reduceIte, Nat.reduceEqDiff, Nat.reduceAdd, Nat.reduceSub, Nat.reduceMul, Nat.reduceDiv, Nat.reduceMod, Nat.reduceLeDiff, Int.reduceBEq, reduceCtorEq]
              exact ⟨16 - (i + 1), by omega, i + 1, rfl, by omega, trivial, trivial, okTo_succ hok hget ⟨by omega, fun h => absurd h hmi⟩, by simp [q1], by simp [q3, hk], by simp⟩
      · have : i = 16 := by omega
        subst this
        have hnl : decide (((16 : Nat) : Int) < 16) = false := rfl
        rw [List.take_of_length_le (by omega)] at q3
        simp only [c46_l0, q1, q3, q4, hnl, sy, tup, ↓reduceIte, Nat.reduceEqDiff, Nat.reduceAdd, Nat.reduceSub, Nat.reduceMul, Nat.reduceDiv, Nat.reduceMod, Nat.reduceLeDiff, Int.reduceBEq, reduceCtorEq]
        exact ⟨trivial, trivial, .inl ⟨trivial, hok, by first | trivial | exact q1, by first | trivial | exact q3⟩⟩
    refine wp_ctx (F := fun r => seqC _ _ _ (blockC _ r)) (hloop _ ?_ ?_ ?_) ?_
    · simp only [sy, tup, ↓reduceIte, Nat.reduceEqDiff, Nat.reduceAdd, Nat.reduceSub, Nat.reduceMul, Nat.reduceDiv, Nat.reduceMod, Nat.reduceLeDiff, Int.reduceBEq, reduceCtorEq]
    · simp only [sy, tup, ↓reduceIte, Nat.reduceEqDiff, Nat.reduceAdd, Nat.reduceSub, Nat.reduceMul, Nat.reduceDiv, Nat.reduceMod, Nat.reduceLeDiff, Int.reduceBEq, reduceCtorEq]
    · simp only [sy, tup, ↓reduceIte, Nat.reduceEqDiff, Nat.reduceAdd, Nat.reduceSub, Nat.reduceMul, Nat.reduceDiv, Nat.reduceMod, Nat.reduceLeDiff, Int.reduceBEq, reduceCtorEq]
    rintro x' ⟨t, HH, d⟩ ⟨hd, hH, ⟨rfl, hok, q1, q3⟩ | ⟨rfl, hno, q2⟩⟩
    · dsimp only at hd hH q1 q3
      subst hd; subst hH
      have lc := ros_c hr2
      have ls := ros_s hr2
      have hN : (fine m s r S c) = (cnt S 2 ≤ 1 ∧ 0 ≤ c ∧ c < s ∧ (cnt S 2 = 1 ∨ c = 0)) := by unfold fine; rw [hm]; simp [hok]
      rw [hN]
      by_cases h1 : cnt S 2 ≤ 1
      · have h1' : (cnt S 2 : Int) ≤ 1 := by omega
        by_cases hc0 : 0 ≤ c
        · by_cases hcs : c < s
          · by_cases h11 : cnt S 2 = 1
            · have hb : ((cnt S 2 : Int) == 1) = true := by simp [h11]
              simp only [q1, q3, lc, ls, h1', hc0, hcs, hb, sy, tup, ↓reduceIte, Nat.reduceEqDiff, Nat.reduceAdd, Nat.reduceSub, Nat.reduceMul, Nat.reduceDiv, Nat.reduceMod, Nat.reduceLeDiff, Int.reduceBEq, reduceCtorEq]
              exact ⟨trivial, .inr trivial, _, rfl, ⟨_, rfl, by simp [h1, hc0, hcs, h11]⟩, t1.trans t2⟩
            · have hb : ((cnt S 2 : Int) == 1) = false := by simp; omega
              by_cases hcz : c = 0
              · have hbc : (c == 0) = true := by simp [hcz]
                simp only [q1, q3, lc, ls, h1', hc0, hcs, hb, hbc, sy, tup, ↓reduceIte, Nat.reduceEqDiff, Nat.reduceAdd, Nat.reduceSub, Nat.reduceMul, Nat.reduceDiv, Nat.reduceMod, Nat.reduceLeDiff, Int.reduceBEq, reduceCtorEq]
                exact ⟨trivial, .inr trivial, _, rfl, ⟨_, rfl, by simp [h1, hc0, hcs, hcz]⟩, t1.trans t2⟩
              · have hbc : (c == 0) = false := by simp [hcz]
                simp only [q1, q3, lc, ls, h1', hc0, hcs, hb, hbc, sy, tup, ↓reduceIte, Nat.reduceEqDiff, Nat.reduceAdd, Nat.reduceSub, Nat.reduceMul, Nat.reduceDiv, Nat.reduceMod, Nat.reduceLeDiff, Int.reduceBEq, reduceCtorEq]
                exact ⟨trivial, .inr trivial, _, rfl, ⟨_, rfl, by simp [h11, hcz]⟩, t1.trans t2⟩
          · simp only [q1, q3, lc, ls, h1', hc0, hcs, sy, tup, ↓reduceIte, Nat.reduceEqDiff, Nat.reduceAdd, Nat.reduceSub, Nat.reduceMul, Nat.reduceDiv, Nat.reduceMod, Nat.reduceLeDiff, Int.reduceBEq, reduceCtorEq]
            exact ⟨trivial, .inr trivial, _, rfl, ⟨_, rfl, by simp [hcs]⟩, t1.trans t2⟩
        · simp only [q1, q3, lc, ls, h1', hc0, sy, tup, ↓reduceIte, Nat.reduceEqDiff, Nat.reduceAdd, Nat.reduceSub, Nat.reduceMul, Nat.reduceDiv, Nat.reduceMod, Nat.reduceLeDiff, Int.reduceBEq, reduceCtorEq]
          exact ⟨trivial, .inr trivial, _, rfl, ⟨_, rfl, by simp [hc0]⟩, t1.trans t2⟩
      · have h1' : ¬ (cnt S 2 : Int) ≤ 1 := by omega
        simp only [q1, q3, lc, ls, h1', sy, tup, ↓reduceIte, Nat.reduceEqDiff, Nat.reduceAdd, Nat.reduceSub, Nat.reduceMul, Nat.reduceDiv, Nat.reduceMod, Nat.reduceLeDiff, Int.reduceBEq, reduceCtorEq]
        exact ⟨trivial, .inr trivial, _, rfl, ⟨_, rfl, by simp [h1]⟩, t1.trans t2⟩
    · dsimp only at hd hH q2
      subst hd; subst hH
      simp only [q2, sy, tup, ↓reduceIte, Nat.reduceEqDiff, Nat.reduceAdd, Nat.reduceSub, Nat.reduceMul, Nat.reduceDiv, Nat.reduceMod, Nat.reduceLeDiff, Int.reduceBEq, reduceCtorEq]
      exact ⟨trivial, .inr trivial, _, rfl, ⟨false, rfl, by unfold fine; simp [hno]⟩, t1.trans t2⟩

theorem rosmay_ok (H : Heap) {m s r c : Int} {g : Bool} {S : List Nat} (hS : S.length = 16) (lf n : Nat) (hlf : 17 < lf) : ret (callS Try.prog S0 lf (n + 3) 15 [ros m s r S c g] H) fun v H' => (∃ z : Bool, v = .bool z ∧ (z = true ↔ fine m s r S c)) ∧ Turns Z H H' := by
  have t1 := Turns.add Z H (.rows false 21 [rcells m s r S c g])
  have hg : (H.add (.rows false 21 [rcells m s r S c g])).get (.run H.next) = some (.rows false 21 [rcells m s r S c g]) := by rw [Heap.get_add, if_pos rfl]
  have hr : RosAt (H.add (.rows false 21 [rcells m s r S c g])) (.run H.next) m s r S c g := ⟨hg, hS⟩
  have l1 := ros_all hr
  have hw := r_width hS m s r c g
  obtain ⟨v, H2, e2, ⟨z, rfl, hz⟩, t2⟩ := fine_ok (H.add (.rows false 21 [rcells m s r S c g])) (m := m) (s := s) (r := r) (c := c) (g := g) hS lf n hlf
  unfold ros at e2
  refine ret_call rfl c15_eq ?_
  simp only [c15, ros, hw, l1, e2, sy, tup, ↓reduceIte, Nat.reduceEqDiff, Nat.reduceAdd, Nat.reduceSub, Nat.reduceMul, Nat.reduceDiv, Nat.reduceMod, Nat.reduceLeDiff, Int.reduceBEq, reduceCtorEq]
  exact ⟨trivial, .inr trivial, _, rfl, ⟨z, rfl, hz⟩, t1.trans t2⟩

end Go.Proofs.Ytejgheoandfikaa.draft


/-
  Rosters: whether one may be, as the program has it: it is the document's.
-/
set_option linter.unusedVariables false
set_option linter.unusedSimpArgs false
set_option maxRecDepth 10000
namespace Go.Proofs.Ytejgheoandfikaa.draft
open Go.Am

theorem cnt_cons (x k : Nat) (l : List Nat) : cnt (x :: l) k = (if x = k then 1 else 0) + cnt l k := by
  unfold cnt
  rw [List.filter_cons]
  by_cases e : x = k
  · simp [e]; omega
  · simp [e]
theorem cnt3 : ∀ S : List Nat, cnt S 0 + cnt S 1 + cnt S 2 = (S.filter fun y => decide (y ≤ 2)).length
  | [] => rfl
  | x :: l => by
    rw [cnt_cons, cnt_cons, cnt_cons, List.filter_cons]
    have := cnt3 l
    by_cases h : x ≤ 2
    · have : (if x = 0 then 1 else 0) + (if x = 1 then 1 else 0) + (if x = 2 then 1 else 0) = 1 := by
        rcases (by omega : x = 0 ∨ x = 1 ∨ x = 2) with e | e | e <;> simp [e]
      simp [h]
      omega
    · rw [if_neg (by omega), if_neg (by omega), if_neg (by omega)]
      simp [h]
      omega
theorem cnt3_iff {S : List Nat} (hS : S.length = 16) : cnt S 0 + cnt S 1 + cnt S 2 = 16 ↔ ∀ x ∈ S, x ≤ 2 := by
  rw [cnt3, ← hS, List.length_filter_eq_length_iff]
  simp

/-- members that are none are 0 -/
def tail0 (m : Int) (S : List Nat) : Prop := ∀ j : Nat, m ≤ (j : Int) → ∀ x, S[j]? = some x → x = 0

theorem fine_iff {m s r c : Int} {S : List Nat} (hS : S.length = 16) : fine m s r S c ↔ (may m s r = true ∧ (0 ≤ c ∧ c < s) ∧ tail0 m S ∧ cnt S 0 + cnt S 1 + cnt S 2 = 16 ∧ (cnt S 2 = 1 ∨ cnt S 2 = 0 ∧ c = 0)) := by
  rw [cnt3_iff hS]
  constructor
  · rintro ⟨h1, h2, h3, h4, h5, h6⟩
    refine ⟨h1, ⟨h4, h5⟩, fun j hj x hx => ?_, fun x hx => ?_, by omega⟩
    · obtain ⟨hlt, _⟩ := List.getElem?_eq_some_iff.1 hx
      exact (h2 j (by omega) x hx).2 hj
    · obtain ⟨j, hj, e⟩ := List.getElem_of_mem hx
      exact (h2 j (by omega) x (by rw [List.getElem?_eq_getElem hj, e])).1
  · rintro ⟨h1, ⟨h4, h5⟩, h2, h3, h6⟩
    refine ⟨h1, fun j hj x hx => ⟨h3 x (List.mem_of_getElem? hx), fun hm => h2 j hm x hx⟩, by omega, h4, h5, by omega⟩

theorem bFrom {n a : Nat} (h : a ≤ n) : bounds n n (some (.int .i64 (a : Int))) none none = some (a, n, n) := by
  show (match bound n (.int .i64 (a : Int)) with
    | some l => some (l, n, n)
    | none => none) = _
  have : bound n (.int .i64 (a : Int)) = some a := by
    unfold bound
    simp only [show asNat (.int .i64 (a : Int)) = some a from rfl, ble_iff.2 h]
  rw [this]

theorem pmay_ok (H : Heap) {m s r c : Int} {g : Bool} {S : List Nat} (hS : S.length = 16) (lf n : Nat) (hlf : 17 < lf) : ret (callS Try.prog S0 lf (n + 3) 48 [ros m s r S c g] H) fun v H' => (∃ z : Bool, v = .bool z ∧ (z = true ↔ fine m s r S c)) ∧ Turns Z H H' := by
  have t1 := Turns.add Z H (.rows false 21 [rcells m s r S c g])
  have hg : (H.add (.rows false 21 [rcells m s r S c g])).get (.run H.next) = some (.rows false 21 [rcells m s r S c g]) := by rw [Heap.get_add, if_pos rfl]
  have og : (H.add (.rows false 21 [rcells m s r S c g])).Old (.run H.next) := by show _ < _; simp
  have hr : ∀ {H' : Heap}, Turns Z (H.add (.rows false 21 [rcells m s r S c g])) H' → RosAt H' (.run H.next) m s r S c g := fun t => ⟨(t.same _ og id).trans hg, hS⟩
  have lg := ros_geo (hr (Turns.refl Z _))
  have hw := r_width hS m s r c g
  have hfi := fine_iff (m := m) (s := s) (r := r) (c := c) hS
  generalize hH1 : H.add (.rows false 21 [rcells m s r S c g]) = H1 at *
  obtain ⟨v, H2, e2, rfl, t2⟩ := may_ok H1 m s r lf n
  unfold geo at e2
  refine ret_call rfl c48_eq ?_
  cases hm : may m s r with
  | false =>
    rw [hm] at e2
    simp only [c48, ros, hw, hH1, lg, e2, sy, tup, ↓reduceIte, Nat.reduceEqDiff, Nat.reduceAdd, Nat.reduceSub, Nat.reduceMul, Nat.reduceDiv, Nat.reduceMod, Nat.reduceLeDiff, Int.reduceBEq, reduceCtorEq]
    exact ⟨trivial, .inr trivial, _, rfl, ⟨false, rfl, by rw [hfi, hm]; simp⟩, t1.trans t2⟩
  | true =>
    rw [hm] at e2 hfi
    have hr2 := hr t2
    have lc := ros_c hr2
    have ls := ros_s hr2
    have l0 := ros_m hr2
    by_cases hc0 : c < 0
    · simp only [c48, ros, hw, hH1, lg, e2, lc, hc0, sy, tup, ↓reduceIte, Nat.reduceEqDiff, Nat.reduceAdd, Nat.reduceSub, Nat.reduceMul, Nat.reduceDiv, Nat.reduceMod, Nat.reduceLeDiff, Int.reduceBEq, reduceCtorEq]
      exact ⟨trivial, .inr trivial, _, rfl, ⟨false, rfl, by rw [hfi]; simp; omega⟩, t1.trans t2⟩
    by_cases hcs : s ≤ c
    · simp only [c48, ros, hw, hH1, lg, e2, lc, ls, hc0, hcs, sy, tup, ↓reduceIte, Nat.reduceEqDiff, Nat.reduceAdd, Nat.reduceSub, Nat.reduceMul, Nat.reduceDiv, Nat.reduceMod, Nat.reduceLeDiff, Int.reduceBEq, reduceCtorEq]
      exact ⟨trivial, .inr trivial, _, rfl, ⟨false, rfl, by rw [hfi]; simp; omega⟩, t1.trans t2⟩
    have hmm := (may_t hm).1
    obtain ⟨M, hM⟩ : ∃ M : Nat, m = (M : Int) := ⟨m.toNat, by omega⟩
    have hM16 : M ≤ 16 := by omega
    have hM3 : 3 ≤ M := by omega
    have bF := bFrom hM16
    have l0' : loadAt H2 ⟨.run H.next, 0⟩ 1 = some [.int .i64 (M : Int)] := by rw [← hM]; exact l0
    have hloop : ∀ (o27 c27 : Nat) (t : T), (M < 16 → o27 = 3 + M * 1) → t.getP (Tr.path 1) = some (.ptr (some ⟨.run H.next, 0⟩)) → t.getP (Tr.path 27) = some (.slice (some ⟨.run H.next, o27⟩) (16 - M) c27 0) → t.getP (Tr.path 28) = some (.int .i64 ((16 - M : Nat) : Int)) → t.getP (Tr.path 29) = some (.int .i64 0) →
        wp (loopF (runC (callS Try.prog S0 lf (n + 2)) lf c48_l0) lf ⟨t, H2, []⟩) fun x' s' => s'.d = [] ∧ s'.H = H2 ∧ ((x' = .ex 0 ∧ tail0 m S ∧ s'.t.getP (Tr.path 1) = some (.ptr (some ⟨.run H.next, 0⟩))) ∨
          (x' = .ret ∧ ¬ tail0 m S ∧ s'.t.getP (Tr.path 2) = some (.bool false))) := by
      intro o27 c27 t ho q1 q27 q28 q29
      refine wp_loopF (fun k s' => ∃ j : Nat, k = 16 - M - j ∧ j ≤ 16 - M ∧ s'.d = [] ∧ s'.H = H2 ∧ (∀ i, M ≤ i → i < M + j → ∀ x, S[i]? = some x → x = 0) ∧ s'.t.getP (Tr.path 1) = some (.ptr (some ⟨.run H.next, 0⟩)) ∧ s'.t.getP (Tr.path 27) = some (.slice (some ⟨.run H.next, o27⟩) (16 - M) c27 0) ∧ s'.t.getP (Tr.path 28) = some (.int .i64 ((16 - M : Nat) : Int)) ∧ s'.t.getP (Tr.path 29) = some (.int .i64 (j : Int))) ?_ lf (16 - M) _ ⟨0, rfl, by omega, rfl, rfl, fun i h1 h2 => absurd h2 (by omega), q1, q27, q28, q29⟩ (by omega)
      rintro k ⟨t, HH, d⟩ ⟨j, rfl, hj, hd, hH, hz, q1, q27, q28, q29⟩
      dsimp only at hd hH q1 q27 q28 q29
      subst hd; subst hH
      by_cases hlt : j < 16 - M
      · have hlt' : (j : Int) < ((16 - M : Nat) : Int) := by omega
        have hle' : j + 1 ≤ 16 - M := hlt
        obtain rfl := ho (by omega)
        have hiS : M + j < S.length := by omega
        have lx := ros_st hr2 (i := M + j) (by omega)
        rw [Nat.add_mul, ← Nat.add_assoc] at lx
        have w1 : IntKind.i64.wrap ((j : Int) + 1) = ((j + 1 : Nat) : Int) := by rw [wrap_i64 (by omega)]; omega
        have hget : S[M + j]? = some S[M + j] := List.getElem?_eq_getElem hiS
        by_cases h0 : S[M + j] = 0
        · have hb : (((S[M + j] : Nat) : Int) == 0) = true := by simp [h0]
          simp only [c48_l0, q1, q27, q28, q29, hlt', hle', lx, hb, w1, sy, tup, ↓reduceIte, Nat.reduceEqDiff, Nat.reduceAdd, Nat.reduceSub, Nat.reduceMul, Nat.reduceDiv, Nat.reduceMod, Nat.reduceLeDiff, Int.reduceBEq, reduceCtorEq]
          refine ⟨16 - M - (j + 1), by omega, j + 1, rfl, by omega, trivial, trivial, fun i h1 h2 x hx => ?_, by simp [q1], by simp [q27], by simp [q28], by simp⟩
          by_cases e : i = M + j
          · subst e
            rw [hget] at hx
            cases hx
            exact h0
          · exact hz i h1 (by omega) x hx
        · have hb : (((S[M + j] : Nat) : Int) == 0) = false := by simp; omega
          simp only [c48_l0, q1, q27, q28, q29, hlt', hle', lx, hb, sy, tup, ↓reduceIte, Nat.reduceEqDiff, Nat.reduceAdd, Nat.reduceSub, Nat.reduceMul, Nat.reduceDiv, Nat.reduceMod, Nat.reduceLeDiff, Int.reduceBEq, reduceCtorEq]
          exact ⟨trivial, trivial, .inr ⟨trivial, fun h => h0 (h (M + j) (by omega) _ hget), trivial⟩⟩
      · have hje : j = 16 - M := by omega
        have hnl : ¬ (j : Int) < ((16 - M : Nat) : Int) := by omega
        simp only [c48_l0, q1, q27, q28, q29, hnl, sy, tup, ↓reduceIte, Nat.reduceEqDiff, Nat.reduceAdd, Nat.reduceSub, Nat.reduceMul, Nat.reduceDiv, Nat.reduceMod, Nat.reduceLeDiff, Int.reduceBEq, reduceCtorEq]
        refine ⟨trivial, trivial, .inl ⟨trivial, fun i hi x hx => ?_, by first | trivial | exact q1⟩⟩
        obtain ⟨hlt2, _⟩ := List.getElem?_eq_some_iff.1 hx
        exact hz i (by omega) (by omega) x hx
    obtain ⟨v, H3, e3, rfl, t3⟩ := count_ok H2 (m := m) (s := s) (r := r) (c := c) (g := g) hS 2 lf (n + 1) hlf
    obtain ⟨v, H4, e4, rfl, t4⟩ := count_ok H3 (m := m) (s := s) (r := r) (c := c) (g := g) hS 0 lf (n + 1) hlf
    obtain ⟨v, H5, e5, rfl, t5⟩ := count_ok H4 (m := m) (s := s) (r := r) (c := c) (g := g) hS 1 lf (n + 1) hlf
    have a2 := ros_all hr2
    have a3 := ros_all (hr (t2.trans t3))
    have a4 := ros_all (hr ((t2.trans t3).trans t4))
    have c5 := ros_c (hr (((t2.trans t3).trans t4).trans t5))
    have n0 := cnt_le S 0
    have n1 := cnt_le S 1
    have n2 := cnt_le S 2
    have w1 : IntKind.i64.wrap ((cnt S 0 : Int) + (cnt S 1 : Int)) = (cnt S 0 : Int) + (cnt S 1 : Int) := wrap_i64 (by omega)
    have w2 : IntKind.i64.wrap ((cnt S 0 : Int) + (cnt S 1 : Int) + (cnt S 2 : Int)) = (cnt S 0 : Int) + (cnt S 1 : Int) + (cnt S 2 : Int) := wrap_i64 (by omega)
    unfold ros at e3 e4 e5
    obtain ⟨q, hqd⟩ : ∃ q : List (Option V × Option V), q = [(loadF (.t (Tr.path 1)) 21 .ag (Tr.setP (Tr.path 1) (.ptr (some ⟨.run H.next, 0⟩)) .e) H3, some (.agg (rcells m s r S c g))), (loadF (.t (Tr.path 1)) 21 .ag (Tr.setP (Tr.path 1) (.ptr (some ⟨.run H.next, 0⟩)) .e) H4, some (.agg (rcells m s r S c g)))] := ⟨_, rfl⟩
    have hq : ∀ p ∈ q, p.1 = p.2 := by
      rw [hqd]
      intro p hp
      simp only [List.mem_cons, List.not_mem_nil, or_false] at hp
      rcases hp with rfl | rfl
      · simp only [a3, sy, tup, ↓reduceIte, Nat.reduceEqDiff, Nat.reduceAdd, Nat.reduceSub, Nat.reduceMul, Nat.reduceDiv, Nat.reduceMod, Nat.reduceLeDiff, Int.reduceBEq, reduceCtorEq]
      · simp only [a4, sy, tup, ↓reduceIte, Nat.reduceEqDiff, Nat.reduceAdd, Nat.reduceSub, Nat.reduceMul, Nat.reduceDiv, Nat.reduceMod, Nat.reduceLeDiff, Int.reduceBEq, reduceCtorEq]
    have tt : Turns Z H (H5.owe q) := (((((t1.trans t2).trans t3).trans t4).trans t5).owe hq)
    have e3' : ∀ y : Int, y = 2 → callS Try.prog S0 lf (n + 2) 85 [.agg (rcells m s r S c g), .int .u8 y] H2 = some (.v (.int .i64 (cnt S 2 : Int)), H3) := fun y hy => by rw [hy]; exact e3
    have e3 := e3' 2 rfl
    have e4' : ∀ y : Int, y = 0 → callS Try.prog S0 lf (n + 2) 85 [.agg (rcells m s r S c g), .int .u8 y] H3 = some (.v (.int .i64 (cnt S 0 : Int)), H4) := fun y hy => by rw [hy]; exact e4
    have e4 := e4' 0 rfl
    have e5' : ∀ y : Int, y = 1 → callS Try.prog S0 lf (n + 2) 85 [.agg (rcells m s r S c g), .int .u8 y] H4 = some (.v (.int .i64 (cnt S 1 : Int)), H5) := fun y hy => by rw [hy]; exact e5
    have e5 := e5' 1 rfl
    by_cases hMe : M = 16
    · subst hMe
      simp only [c48, ros, hw, hH1, lg, e2, lc, ls, l0', hc0, hcs, bF, Nat.sub_self, sy, tup, ↓reduceIte, Nat.reduceEqDiff, Nat.reduceAdd, Nat.reduceSub, Nat.reduceMul, Nat.reduceDiv, Nat.reduceMod, Nat.reduceLeDiff, Int.reduceBEq, reduceCtorEq]
      refine wp_ctx (F := fun r => seqC _ _ _ (blockC _ r)) (hloop 3 0 _ (fun h => absurd h (by omega)) ?_ ?_ ?_ ?_) ?_
      · simp only [sy, tup, ↓reduceIte, Nat.reduceEqDiff, Nat.reduceAdd, Nat.reduceSub, Nat.reduceMul, Nat.reduceDiv, Nat.reduceMod, Nat.reduceLeDiff, Int.reduceBEq, reduceCtorEq]
      · simp only [sy, tup, ↓reduceIte, Nat.reduceEqDiff, Nat.reduceAdd, Nat.reduceSub, Nat.reduceMul, Nat.reduceDiv, Nat.reduceMod, Nat.reduceLeDiff, Int.reduceBEq, reduceCtorEq]
      · simp only [sy, tup, ↓reduceIte, Nat.reduceEqDiff, Nat.reduceAdd, Nat.reduceSub, Nat.reduceMul, Nat.reduceDiv, Nat.reduceMod, Nat.reduceLeDiff, Int.reduceBEq, reduceCtorEq]
      · simp only [sy, tup, ↓reduceIte, Nat.reduceEqDiff, Nat.reduceAdd, Nat.reduceSub, Nat.reduceMul, Nat.reduceDiv, Nat.reduceMod, Nat.reduceLeDiff, Int.reduceBEq, reduceCtorEq]
      rintro x' ⟨t, HH, d⟩ ⟨hd, hH, ⟨rfl, hok, q1⟩ | ⟨rfl, hno, q2⟩⟩
      · dsimp only at hd hH q1
        subst hd; subst hH
        by_cases hsum : cnt S 0 + cnt S 1 + cnt S 2 = 16
        · have hb : ((cnt S 0 : Int) + (cnt S 1 : Int) + (cnt S 2 : Int) == 16) = true := by simp; omega
          by_cases h1 : cnt S 2 = 1
          · have hb1 : ((cnt S 2 : Int) == 1) = true := by simp [h1]
            simp only [q1, a2, e3, a3, e4, a4, e5, c5, w1, w2, hb, hb1, sy, tup, ↓reduceIte, Nat.reduceEqDiff, Nat.reduceAdd, Nat.reduceSub, Nat.reduceMul, Nat.reduceDiv, Nat.reduceMod, Nat.reduceLeDiff, Int.reduceBEq, reduceCtorEq]
            rw [endD_q (q := q) (by kernel_rfl) (by rw [hqd]; kernel_rfl)]
            simp only [sy, tup, ↓reduceIte, Nat.reduceEqDiff, Nat.reduceAdd, Nat.reduceSub, Nat.reduceMul, Nat.reduceDiv, Nat.reduceMod, Nat.reduceLeDiff, Int.reduceBEq, reduceCtorEq]
            exact ⟨trivial, .inr trivial, _, rfl, ⟨_, rfl, by rw [hfi]; simp [hok, hsum, h1]; try omega⟩, tt⟩
          · have hb1 : ((cnt S 2 : Int) == 1) = false := by simp; omega
            by_cases h0 : cnt S 2 = 0
            · have hb0 : ((cnt S 2 : Int) == 0) = true := by simp [h0]
              by_cases hz : c = 0
              · have hbz : (c == 0) = true := by simp [hz]
                simp only [q1, a2, e3, a3, e4, a4, e5, c5, w1, w2, hb, hb1, hb0, hbz, sy, tup, ↓reduceIte, Nat.reduceEqDiff, Nat.reduceAdd, Nat.reduceSub, Nat.reduceMul, Nat.reduceDiv, Nat.reduceMod, Nat.reduceLeDiff, Int.reduceBEq, reduceCtorEq]
                rw [endD_q (q := q) (by kernel_rfl) (by rw [hqd]; kernel_rfl)]
                simp only [sy, tup, ↓reduceIte, Nat.reduceEqDiff, Nat.reduceAdd, Nat.reduceSub, Nat.reduceMul, Nat.reduceDiv, Nat.reduceMod, Nat.reduceLeDiff, Int.reduceBEq, reduceCtorEq]
                exact ⟨trivial, .inr trivial, _, rfl, ⟨_, rfl, by rw [hfi]; simp [hok, hsum, h1, h0, hz]; try omega⟩, tt⟩
              · have hbz : (c == 0) = false := by simp [hz]
                simp only [q1, a2, e3, a3, e4, a4, e5, c5, w1, w2, hb, hb1, hb0, hbz, sy, tup, ↓reduceIte, Nat.reduceEqDiff, Nat.reduceAdd, Nat.reduceSub, Nat.reduceMul, Nat.reduceDiv, Nat.reduceMod, Nat.reduceLeDiff, Int.reduceBEq, reduceCtorEq]
                rw [endD_q (q := q) (by kernel_rfl) (by rw [hqd]; kernel_rfl)]
                simp only [sy, tup, ↓reduceIte, Nat.reduceEqDiff, Nat.reduceAdd, Nat.reduceSub, Nat.reduceMul, Nat.reduceDiv, Nat.reduceMod, Nat.reduceLeDiff, Int.reduceBEq, reduceCtorEq]
                exact ⟨trivial, .inr trivial, _, rfl, ⟨_, rfl, by rw [hfi]; simp [hok, hsum, h1, h0, hz]; try omega⟩, tt⟩
            · have hb0 : ((cnt S 2 : Int) == 0) = false := by simp; omega
              simp only [q1, a2, e3, a3, e4, a4, e5, c5, w1, w2, hb, hb1, hb0, sy, tup, ↓reduceIte, Nat.reduceEqDiff, Nat.reduceAdd, Nat.reduceSub, Nat.reduceMul, Nat.reduceDiv, Nat.reduceMod, Nat.reduceLeDiff, Int.reduceBEq, reduceCtorEq]
              rw [endD_q (q := q) (by kernel_rfl) (by rw [hqd]; kernel_rfl)]
              simp only [sy, tup, ↓reduceIte, Nat.reduceEqDiff, Nat.reduceAdd, Nat.reduceSub, Nat.reduceMul, Nat.reduceDiv, Nat.reduceMod, Nat.reduceLeDiff, Int.reduceBEq, reduceCtorEq]
              exact ⟨trivial, .inr trivial, _, rfl, ⟨_, rfl, by rw [hfi]; simp [hok, hsum, h1, h0]; try omega⟩, tt⟩
        · have hb : ((cnt S 0 : Int) + (cnt S 1 : Int) + (cnt S 2 : Int) == 16) = false := by simp; omega
          simp only [q1, a2, e3, a3, e4, a4, e5, c5, w1, w2, hb, sy, tup, ↓reduceIte, Nat.reduceEqDiff, Nat.reduceAdd, Nat.reduceSub, Nat.reduceMul, Nat.reduceDiv, Nat.reduceMod, Nat.reduceLeDiff, Int.reduceBEq, reduceCtorEq]
          rw [endD_q (q := q) (by kernel_rfl) (by rw [hqd]; kernel_rfl)]
          simp only [sy, tup, ↓reduceIte, Nat.reduceEqDiff, Nat.reduceAdd, Nat.reduceSub, Nat.reduceMul, Nat.reduceDiv, Nat.reduceMod, Nat.reduceLeDiff, Int.reduceBEq, reduceCtorEq]
          exact ⟨trivial, .inr trivial, _, rfl, ⟨_, rfl, by rw [hfi]; simp [hok, hsum]; try omega⟩, tt⟩
      · dsimp only at hd hH q2
        subst hd; subst hH
        simp only [q2, sy, tup, ↓reduceIte, Nat.reduceEqDiff, Nat.reduceAdd, Nat.reduceSub, Nat.reduceMul, Nat.reduceDiv, Nat.reduceMod, Nat.reduceLeDiff, Int.reduceBEq, reduceCtorEq]
        exact ⟨trivial, .inr trivial, _, rfl, ⟨false, rfl, by rw [hfi]; simp [hno]⟩, t1.trans t2⟩
    · have hMe' : ¬ 16 = M := fun e => hMe e.symm
      simp only [c48, ros, hw, hH1, lg, e2, lc, ls, l0', hc0, hcs, bF, hMe', sy, tup, ↓reduceIte, Nat.reduceEqDiff, Nat.reduceAdd, Nat.reduceSub, Nat.reduceMul, Nat.reduceDiv, Nat.reduceMod, Nat.reduceLeDiff, Int.reduceBEq, reduceCtorEq]
      refine wp_ctx (F := fun r => seqC _ _ _ (blockC _ r)) (hloop (3 + M * 1) (16 - M) _ (fun _ => rfl) ?_ ?_ ?_ ?_) ?_
      · simp only [sy, tup, ↓reduceIte, Nat.reduceEqDiff, Nat.reduceAdd, Nat.reduceSub, Nat.reduceMul, Nat.reduceDiv, Nat.reduceMod, Nat.reduceLeDiff, Int.reduceBEq, reduceCtorEq]
      · simp only [sy, tup, ↓reduceIte, Nat.reduceEqDiff, Nat.reduceAdd, Nat.reduceSub, Nat.reduceMul, Nat.reduceDiv, Nat.reduceMod, Nat.reduceLeDiff, Int.reduceBEq, reduceCtorEq]
      · simp only [sy, tup, ↓reduceIte, Nat.reduceEqDiff, Nat.reduceAdd, Nat.reduceSub, Nat.reduceMul, Nat.reduceDiv, Nat.reduceMod, Nat.reduceLeDiff, Int.reduceBEq, reduceCtorEq]
      · simp only [sy, tup, ↓reduceIte, Nat.reduceEqDiff, Nat.reduceAdd, Nat.reduceSub, Nat.reduceMul, Nat.reduceDiv, Nat.reduceMod, Nat.reduceLeDiff, Int.reduceBEq, reduceCtorEq]
      rintro x' ⟨t, HH, d⟩ ⟨hd, hH, ⟨rfl, hok, q1⟩ | ⟨rfl, hno, q2⟩⟩
      · dsimp only at hd hH q1
        subst hd; subst hH
        by_cases hsum : cnt S 0 + cnt S 1 + cnt S 2 = 16
        · have hb : ((cnt S 0 : Int) + (cnt S 1 : Int) + (cnt S 2 : Int) == 16) = true := by simp; omega
          by_cases h1 : cnt S 2 = 1
          · have hb1 : ((cnt S 2 : Int) == 1) = true := by simp [h1]
            simp only [q1, a2, e3, a3, e4, a4, e5, c5, w1, w2, hb, hb1, sy, tup, ↓reduceIte, Nat.reduceEqDiff, Nat.reduceAdd, Nat.reduceSub, Nat.reduceMul, Nat.reduceDiv, Nat.reduceMod, Nat.reduceLeDiff, Int.reduceBEq, reduceCtorEq]
            rw [endD_q (q := q) (by kernel_rfl) (by rw [hqd]; kernel_rfl)]
            simp only [sy, tup, ↓reduceIte, Nat.reduceEqDiff, Nat.reduceAdd, Nat.reduceSub, Nat.reduceMul, Nat.reduceDiv, Nat.reduceMod, Nat.reduceLeDiff, Int.reduceBEq, reduceCtorEq]
            exact ⟨trivial, .inr trivial, _, rfl, ⟨_, rfl, by rw [hfi]; simp [hok, hsum, h1]; try omega⟩, tt⟩
          · have hb1 : ((cnt S 2 : Int) == 1) = false := by simp; omega
            by_cases h0 : cnt S 2 = 0
            · have hb0 : ((cnt S 2 : Int) == 0) = true := by simp [h0]
              by_cases hz : c = 0
              · have hbz : (c == 0) = true := by simp [hz]
                simp only [q1, a2, e3, a3, e4, a4, e5, c5, w1, w2, hb, hb1, hb0, hbz, sy, tup, ↓reduceIte, Nat.reduceEqDiff, Nat.reduceAdd, Nat.reduceSub, Nat.reduceMul, Nat.reduceDiv, Nat.reduceMod, Nat.reduceLeDiff, Int.reduceBEq, reduceCtorEq]
                rw [endD_q (q := q) (by kernel_rfl) (by rw [hqd]; kernel_rfl)]
                simp only [sy, tup, ↓reduceIte, Nat.reduceEqDiff, Nat.reduceAdd, Nat.reduceSub, Nat.reduceMul, Nat.reduceDiv, Nat.reduceMod, Nat.reduceLeDiff, Int.reduceBEq, reduceCtorEq]
                exact ⟨trivial, .inr trivial, _, rfl, ⟨_, rfl, by rw [hfi]; simp [hok, hsum, h1, h0, hz]; try omega⟩, tt⟩
              · have hbz : (c == 0) = false := by simp [hz]
                simp only [q1, a2, e3, a3, e4, a4, e5, c5, w1, w2, hb, hb1, hb0, hbz, sy, tup, ↓reduceIte, Nat.reduceEqDiff, Nat.reduceAdd, Nat.reduceSub, Nat.reduceMul, Nat.reduceDiv, Nat.reduceMod, Nat.reduceLeDiff, Int.reduceBEq, reduceCtorEq]
                rw [endD_q (q := q) (by kernel_rfl) (by rw [hqd]; kernel_rfl)]
                simp only [sy, tup, ↓reduceIte, Nat.reduceEqDiff, Nat.reduceAdd, Nat.reduceSub, Nat.reduceMul, Nat.reduceDiv, Nat.reduceMod, Nat.reduceLeDiff, Int.reduceBEq, reduceCtorEq]
                exact ⟨trivial, .inr trivial, _, rfl, ⟨_, rfl, by rw [hfi]; simp [hok, hsum, h1, h0, hz]; try omega⟩, tt⟩
            · have hb0 : ((cnt S 2 : Int) == 0) = false := by simp; omega
              simp only [q1, a2, e3, a3, e4, a4, e5, c5, w1, w2, hb, hb1, hb0, sy, tup, ↓reduceIte, Nat.reduceEqDiff, Nat.reduceAdd, Nat.reduceSub, Nat.reduceMul, Nat.reduceDiv, Nat.reduceMod, Nat.reduceLeDiff, Int.reduceBEq, reduceCtorEq]
              rw [endD_q (q := q) (by kernel_rfl) (by rw [hqd]; kernel_rfl)]
              simp only [sy, tup, ↓reduceIte, Nat.reduceEqDiff, Nat.reduceAdd, Nat.reduceSub, Nat.reduceMul, Nat.reduceDiv, Nat.reduceMod, Nat.reduceLeDiff, Int.reduceBEq, reduceCtorEq]
              exact ⟨trivial, .inr trivial, _, rfl, ⟨_, rfl, by rw [hfi]; simp [hok, hsum, h1, h0]; try omega⟩, tt⟩
        · have hb : ((cnt S 0 : Int) + (cnt S 1 : Int) + (cnt S 2 : Int) == 16) = false := by simp; omega
          simp only [q1, a2, e3, a3, e4, a4, e5, c5, w1, w2, hb, sy, tup, ↓reduceIte, Nat.reduceEqDiff, Nat.reduceAdd, Nat.reduceSub, Nat.reduceMul, Nat.reduceDiv, Nat.reduceMod, Nat.reduceLeDiff, Int.reduceBEq, reduceCtorEq]
          rw [endD_q (q := q) (by kernel_rfl) (by rw [hqd]; kernel_rfl)]
          simp only [sy, tup, ↓reduceIte, Nat.reduceEqDiff, Nat.reduceAdd, Nat.reduceSub, Nat.reduceMul, Nat.reduceDiv, Nat.reduceMod, Nat.reduceLeDiff, Int.reduceBEq, reduceCtorEq]
          exact ⟨trivial, .inr trivial, _, rfl, ⟨_, rfl, by rw [hfi]; simp [hok, hsum]; try omega⟩, tt⟩
      · dsimp only at hd hH q2
        subst hd; subst hH
        simp only [q2, sy, tup, ↓reduceIte, Nat.reduceEqDiff, Nat.reduceAdd, Nat.reduceSub, Nat.reduceMul, Nat.reduceDiv, Nat.reduceMod, Nat.reduceLeDiff, Int.reduceBEq, reduceCtorEq]
        exact ⟨trivial, .inr trivial, _, rfl, ⟨false, rfl, by rw [hfi]; simp [hno]⟩, t1.trans t2⟩

end Go.Proofs.Ytejgheoandfikaa.draft


/-
  Arguments as they lie in the first heap: numbers, writes, picks.
-/
set_option linter.unusedVariables false
set_option linter.unusedSimpArgs false
namespace Go.Proofs.Ytejgheoandfikaa.disk
open Go.Am

theorem wf_u8 {n : Int} (h : (Lit.int .u8 n).wf = true) : ∃ s : Nat, s < 256 ∧ n = (s : Int) := by
  have h : (decide (IntKind.u8.min ≤ n) && decide (n ≤ IntKind.u8.max)) = true := h
  simp only [Bool.and_eq_true, decide_eq_true_eq] at h
  have h1 : (0 : Int) ≤ n := h.1
  have h2 : n ≤ 255 := h.2
  exact ⟨n.toNat, by omega, (Int.toNat_of_nonneg h1).symm⟩

theorem u8_of {a : Nat → Option Am.Obj} {u : V} (h : FitsV a (.int .u8) u) : ∃ s : Nat, s < 256 ∧ u = .int .u8 (s : Int) := by
  obtain ⟨C, ⟨n, hw, rfl⟩, hu⟩ := h
  cases hu
  obtain ⟨s, hs, rfl⟩ := wf_u8 hw
  exact ⟨s, hs, rfl⟩

def pairOf : List V → Int × Nat
  | [.int _ n, .blk B] => (n, B)
  | _ => (0, 0)
def intOf : List V → Int
  | [.int _ n] => n
  | _ => 0

theorem writes_of {P : Program} {a : Nat → Option Am.Obj} {u : V} (h : FitsV a (.slice 65 (.seq (.int .i64) (.seq .blk .nil))) u) : ∃ lp lc W, u = .slice lp (List.length W) lc 0 ∧ WritesAt (heapA P a) lp W := by
  obtain ⟨C, hf, hu⟩ := h
  rcases hf with rfl | ⟨b, len, rows, rfl, hb, hl, _, hr⟩
  · cases hu
    exact ⟨none, 0, [], rfl, ⟨fun e => absurd rfl e⟩⟩
  · cases hu
    refine ⟨some ⟨.arg b, 0⟩, rows.length, (rows.take len).map pairOf, by simp [Nat.min_eq_left hl], ⟨fun _ => ⟨.arg b, true, rows, rfl, trivial, hb, fun i hi => ?_⟩⟩⟩
    simp only [List.length_map, List.length_take] at hi
    have hi' : i < rows.length := by omega
    rw [List.getElem?_eq_getElem hi']
    obtain ⟨C1, C2, e1, ⟨n, _, rfl⟩, C3, C4, rfl, ⟨B, _, rfl⟩, h4⟩ := hr _ (List.getElem_mem hi')
    have h4 : C4 = [] := h4
    subst h4
    simp [e1, pairOf]

theorem writes_ofS {P : Program} {a : Nat → Option Am.Obj} {u : V} (h : FitsV a (.slice 65 (.seq (.int .i64) (.seq .blk .nil))) u) : ∃ lp lc W, u = .slice lp (List.length W) lc 0 ∧ WritesAt (heapA P a) lp W ∧ ∀ w ∈ W, w.2 < 256 ^ 64 := by
  obtain ⟨C, hf, hu⟩ := h
  rcases hf with rfl | ⟨b, len, rows, rfl, hb, hl, _, hr⟩
  · cases hu
    exact ⟨none, 0, [], rfl, ⟨fun e => absurd rfl e⟩, fun w hw => by simp at hw⟩
  · cases hu
    refine ⟨some ⟨.arg b, 0⟩, rows.length, (rows.take len).map pairOf, by simp [Nat.min_eq_left hl], ⟨fun _ => ⟨.arg b, true, rows, rfl, trivial, hb, fun i hi => ?_⟩⟩, fun w hw => ?_⟩
    · simp only [List.length_map, List.length_take] at hi
      have hi' : i < rows.length := by omega
      rw [List.getElem?_eq_getElem hi']
      obtain ⟨C1, C2, e1, ⟨n, _, rfl⟩, C3, C4, rfl, ⟨B, _, rfl⟩, h4⟩ := hr _ (List.getElem_mem hi')
      have h4 : C4 = [] := h4
      subst h4
      simp [e1, pairOf]
    · simp only [List.mem_map] at hw
      obtain ⟨r, hr', rfl⟩ := hw
      obtain ⟨C1, C2, e1, ⟨n, _, rfl⟩, C3, C4, rfl, ⟨B, hB, rfl⟩, h4⟩ := hr r (List.mem_of_mem_take hr')
      have h4 : C4 = [] := h4
      subst h4
      rw [e1]
      exact hB

theorem picks_ofL {P : Program} {a : Nat → Option Am.Obj} {u : V} (h : FitsV a (.slice 1 (.int .i64)) u) : ∃ lp lc W, u = .slice lp (List.length W) lc 0 ∧ W.length ≤ lc ∧ PicksAt (heapA P a) lp W Z := by
  obtain ⟨C, hf, hu⟩ := h
  rcases hf with rfl | ⟨b, len, rows, rfl, hb, hl, _, hr⟩
  · cases hu
    exact ⟨none, 0, [], rfl, Nat.le_refl _, ⟨fun e => absurd rfl e⟩⟩
  · cases hu
    refine ⟨some ⟨.arg b, 0⟩, rows.length, (rows.take len).map intOf, by simp [Nat.min_eq_left hl], by simp; omega, ⟨fun _ => ⟨.arg b, 0, true, rows, rfl, trivial, id, hb, fun i hi => ?_⟩⟩⟩
    simp only [List.length_map, List.length_take] at hi
    have hi' : i < rows.length := by omega
    rw [Nat.zero_add, List.getElem?_eq_getElem hi']
    obtain ⟨n, _, e1⟩ := hr _ (List.getElem_mem hi')
    simp [e1, intOf]
theorem picks_of {P : Program} {a : Nat → Option Am.Obj} {u : V} (h : FitsV a (.slice 1 (.int .i64)) u) : ∃ lp lc W, u = .slice lp (List.length W) lc 0 ∧ PicksAt (heapA P a) lp W Z := by
  obtain ⟨lp, lc, W, e, _, h⟩ := picks_ofL (P := P) h
  exact ⟨lp, lc, W, e, h⟩

theorem qok_of {P : Program} {a : Nat → Option Am.Obj} {H : Heap} (h : Turns Z (heapA P a) H) : QOk H := h.q (fun p hp => by cases hp)

end Go.Proofs.Ytejgheoandfikaa.disk

