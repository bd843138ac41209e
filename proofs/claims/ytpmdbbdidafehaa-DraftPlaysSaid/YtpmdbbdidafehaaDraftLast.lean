/-
  'DraftLast': the last writing of each block alone counts.
-/
import Derived.Test.YtpmdbbdidafehaaDraftWrites
set_option linter.unusedVariables false
set_option linter.unusedSimpArgs false
set_option maxRecDepth 10000
namespace Go.Proofs.Ytpmdbbdidafehaa.draft
open Go.Am

noncomputable def c4_l0 : C := .seq (.seq (.reg [
 mv 67 10,
 qo 68 (.p (arF .geq (tt 67) (ii 0))) [pp 67]]) (
 .cond (tt 68) (.skip) (.exit 2))) (
 .seq (.block 3 (.seq (.reg [
 mv 72 7,
 mv 73 1,
 mv 74 10,
 qo 75 (.p (iaddrSF (tt 73) (tt 74) 65)) [pp 73, pp 74],
 qo 76 (.p (faddrF (tt 75) 0)) [pp 75],
 qo 77 (.r (loadF (tt 76) 1 .sc)) [pp 76],
 qo 78 (.c (callF (ff 14) [(tt 72), (tt 77)])) [pp 72, pp 77],
 mv 71 78,
 qo 79 (.p (extF (tt 71) 0)) [pp 71],
 qo 80 (.p (extF (tt 71) 1)) [pp 71],
 qo 11 (.m (allocF 64 [.blk 0])) [],
 qn (.a (storeF (tt 11) (tt 79) 64)) [pp 11, pp 79],
 mv 12 80]) (
 .seq (.reg [
 mv 81 12,
 qo 82 (.p (unF .not (tt 81))) [pp 81]]) (
 .cond (tt 82) (.regD [
 mv 83 7,
 mv 84 1,
 mv 85 10,
 qo 86 (.p (iaddrSF (tt 84) (tt 85) 65)) [pp 84, pp 85],
 qo 87 (.p (faddrF (tt 86) 0)) [pp 86],
 qo 88 (.r (loadF (tt 87) 1 .sc)) [pp 87],
 mv 89 1,
 mv 90 10,
 qo 91 (.p (iaddrSF (tt 89) (tt 90) 65)) [pp 89, pp 90],
 qo 92 (.p (faddrF (tt 91) 1)) [pp 91],
 qo 93 (.r (loadF (tt 92) 64 .bk)) [pp 92],
 qo 94 (.c (callF (ff 12) [(tt 83), (tt 88), (tt 93)])) [pp 83, pp 88, pp 93]] [0, 0, 0, 6, 14, 30, 0, 0, 192, 448, 960, 2047]) (.skip))))) (
 .reg [
 mv 69 10,
 qo 70 (.p (arF .sub (tt 69) (ii 1))) [pp 69],
 mv 10 70]))
noncomputable def c4_l1 : C := .seq (.seq (.reg [
 mv 46 9,
 mv 47 1,
 qo 48 (.p (lenF (tt 47))) [pp 47],
 qo 49 (.p (arF .lss (tt 46) (tt 48))) [pp 46, pp 48]]) (
 .cond (tt 49) (.skip) (.exit 0))) (
 .seq (.block 1 (.regD [
 mv 52 5,
 mv 53 1,
 mv 54 9,
 qo 55 (.p (iaddrSF (tt 53) (tt 54) 65)) [pp 53, pp 54],
 qo 56 (.p (faddrF (tt 55) 0)) [pp 55],
 qo 57 (.r (loadF (tt 56) 1 .sc)) [pp 56],
 mv 58 1,
 mv 59 9,
 qo 60 (.p (iaddrSF (tt 58) (tt 59) 65)) [pp 58, pp 59],
 qo 61 (.p (faddrF (tt 60) 1)) [pp 60],
 qo 62 (.r (loadF (tt 61) 64 .bk)) [pp 61],
 qo 63 (.c (callF (ff 12) [(tt 52), (tt 57), (tt 62)])) [pp 52, pp 57, pp 62]] [0, 0, 0, 6, 14, 30, 0, 0, 192, 448, 960, 2047])) (
 .reg [
 mv 50 9,
 qo 51 (.p (arF .add (tt 50) (ii 1))) [pp 50],
 mv 9 51]))
/-- ashlar/ashlarlaw25.DraftLast -/
noncomputable def c4 : CFn := ⟨[.tmp (pp 4)],
 .seq (.reg [
 qo 2 (.m (boxF 3 (tt 0))) [pp 0],
 qo 4 (.p (S.get (.c (.bool false)))) []]) (
 .seq (.seq (.reg [
 mv 13 1,
 qo 14 (.p (lenF (tt 13))) [pp 13],
 qo 15 (.p (arF .gtr (tt 14) (ii 16))) [pp 14]]) (
 .cond (tt 15) (.reg [
 mv 16 1,
 qo 17 (.p (sliceF 65 (tt 16) none (some (ii 16)) none)) [pp 16],
 mv 1 17]) (.skip))) (
 .seq (.reg [
 qo 19 (.r (loadF (tt 2) 3 .ag)) [pp 2],
 qo 20 (.c (callF (ff 9) [(tt 19)])) [pp 19],
 mv 18 20,
 qo 21 (.p (extF (tt 18) 0)) [pp 18],
 qo 22 (.p (extF (tt 18) 1)) [pp 18],
 mv 5 21,
 mv 6 22]) (
 .seq (.reg [
 qo 24 (.r (loadF (tt 2) 3 .ag)) [pp 2],
 qo 25 (.c (callF (ff 9) [(tt 24)])) [pp 24],
 mv 23 25,
 qo 26 (.p (extF (tt 23) 0)) [pp 23],
 qo 27 (.p (extF (tt 23) 1)) [pp 23],
 mv 7 26,
 mv 8 27]) (
 .seq (.seq (.reg [
 qo 28 (.r (loadF (tt 2) 3 .ag)) [pp 2],
 qo 29 (.c (callF (ff 22) [(tt 28)])) [pp 28],
 qo 30 (.p (unF .not (tt 29))) [pp 29]]) (
 .cond (tt 30) (.seq (.reg [
 mv 31 6,
 qo 32 (.p (eqcF false false [.int .i64] (tt 31) (ii 2))) [pp 31],
 mv 33 32,
 mg 34 8 33 true,
 qg 35 (.p (eqcF false false [.int .i64] (tt 34) (ii 2))) 33 true [pp 34],
 qo 36 (.p (pickF (tt 33) (tt 35) (.c (.bool false)))) [pp 33, pp 35],
 mv 37 36,
 qg 38 (.c (callF (ff 11) [])) 37 true [],
 qo 39 (.p (pickF (tt 37) (tt 38) (.c (.bool false)))) [pp 37, pp 38],
 mv 4 39]) (
 .ret)) (.skip))) (
 .seq (.seq (.reg [
 mv 40 6,
 qo 41 (.p (eqcF true false [.int .i64] (tt 40) (ii 0))) [pp 40],
 mv 42 41,
 mg 43 8 42 false,
 qg 44 (.p (eqcF true false [.int .i64] (tt 43) (ii 0))) 42 false [pp 43],
 qo 45 (.p (pickF (tt 42) (.c (.bool true)) (tt 44))) [pp 42, pp 44]]) (
 .cond (tt 45) (.seq (.reg [
 qo 4 (.p (S.get (.c (.bool false)))) []]) (
 .ret)) (.skip))) (
 .seq (.seq (.reg [
 qo 9 (.p (S.get (ii 0))) []]) (
 .block 0 (.loop c4_l1))) (
 .seq (.seq (.reg [
 mv 64 1,
 qo 65 (.p (lenF (tt 64))) [pp 64],
 qo 66 (.p (arF .sub (tt 65) (ii 1))) [pp 65],
 mv 10 66]) (
 .block 2 (.loop c4_l0))) (
 .seq (.reg [
 mv 95 5,
 qo 96 (.c (callF (ff 18) [(tt 95)])) [pp 95],
 mv 97 7,
 qo 98 (.c (callF (ff 18) [(tt 97)])) [pp 97],
 qo 99 (.c (callF (ff 17) [(tt 96), (tt 98)])) [pp 96, pp 98],
 mv 100 99,
 mg 101 5 100 true,
 qg 102 (.c (callF (ff 16) [(tt 101)])) 100 true [pp 101],
 mg 103 5 100 true,
 qg 104 (.c (callF (ff 18) [(tt 103)])) 100 true [pp 103],
 qg 105 (.p (lenF (tt 104))) 100 true [pp 104],
 qg 106 (.p (eqcF false false [.int .i64] (tt 102) (tt 105))) 100 true [pp 102, pp 105],
 qo 107 (.p (pickF (tt 100) (tt 106) (.c (.bool false)))) [pp 100, pp 106],
 mv 108 107,
 mg 109 5 108 true,
 qg 110 (.c (callF (ff 16) [(tt 109)])) 108 true [pp 109],
 qg 111 (.p (arF .leq (tt 110) (ii 16))) 108 true [pp 110],
 qo 112 (.p (pickF (tt 108) (tt 111) (.c (.bool false)))) [pp 108, pp 111],
 mv 113 112,
 qg 114 (.c (callF (ff 11) [])) 113 true [],
 qo 115 (.p (pickF (tt 113) (tt 114) (.c (.bool false)))) [pp 113, pp 114],
 mv 4 115]) (
 .ret)))))))))⟩
theorem c4_eq : fnOf Try.prog 4 = some c4 := by kernel_rfl


/-! ### writes that are given -/

structure WritesAt (H : Heap) (pp : Option Ptr) (W : Ws) : Prop where
  at' : W ≠ [] → ∃ x ro rows, pp = some ⟨x, 0⟩ ∧ H.Old x ∧ H.get x = some (.rows ro 65 rows) ∧ ∀ i, (hi : i < W.length) → rows[i]? = some [.int .i64 W[i].1, .blk W[i].2]
theorem WritesAt.turns {H H' : Heap} {pp : Option Ptr} {W : Ws} (h : WritesAt H pp W) (k : Turns Z H H') : WritesAt H' pp W := ⟨fun e => by
  obtain ⟨x, ro, rows, hp, ho, hg, hr⟩ := h.at' e
  exact ⟨x, ro, rows, hp, ho.mono k.next, (k.same x ho id).trans hg, hr⟩⟩
theorem WritesAt.load {H : Heap} {pp : Option Ptr} {W : Ws} (h : WritesAt H pp W) {i : Nat} (hi : i < W.length) : ∃ x, pp = some ⟨x, 0⟩ ∧ loadAt H ⟨x, i * 65⟩ 1 = some [.int .i64 W[i].1] ∧ loadAt H ⟨x, i * 65 + 1⟩ 64 = some [.blk W[i].2] := by
  obtain ⟨x, ro, rows, hp, _, hg, hr⟩ := h.at' (fun e => by rw [e] at hi; simp at hi)
  have e1 : (i * 65 + 1) / 65 = i := by omega
  have e2 : (i * 65 + 1) % 65 = 0 + 1 := by omega
  refine ⟨x, hp, ?_, ?_⟩
  · rw [loadAt_eq hg (r := [.int .i64 W[i].1, .blk W[i].2]) (nth_of (by rw [Nat.mul_div_cancel _ (by decide)]; exact hr i hi)), Nat.mul_mod_left]
    exact cut_hit _ _ rfl
  · rw [loadAt_eq hg (r := [.int .i64 W[i].1, .blk W[i].2]) (nth_of (by rw [e1]; exact hr i hi)), e2, cut_miss (n := 63) _ _ _ (by rfl)]
    exact cut_blk _ _
theorem WritesAt.take {H : Heap} {pp : Option Ptr} {W : Ws} (h : WritesAt H pp W) (n : Nat) : WritesAt H pp (W.take n) := ⟨fun e => by
  obtain ⟨x, ro, rows, hp, ho, hg, hr⟩ := h.at' (fun k => e (by rw [k]; simp))
  exact ⟨x, ro, rows, hp, ho, hg, fun i hi => by
    have hi' : i < W.length := by simp at hi; omega
    rw [hr i hi', List.getElem_take]⟩⟩

def pairOf : List V → Int × Nat
  | [.int _ n, .blk B] => (n, B)
  | _ => (0, 0)
theorem writes_of {P : Program} {a : Nat → Option Am.Obj} {u : V} (h : FitsV a (.slice 65 (.seq (.int .i64) (.seq .blk .nil))) u) : ∃ lp lc W, u = .slice lp (List.length W) lc 0 ∧ W.length ≤ lc ∧ WritesAt (heapA P a) lp W := by
  obtain ⟨C, hf, hu⟩ := h
  rcases hf with rfl | ⟨b, len, rows, rfl, hb, hl, _, hr⟩
  · cases hu
    exact ⟨none, 0, [], rfl, Nat.le_refl _, ⟨fun e => absurd rfl e⟩⟩
  · cases hu
    refine ⟨some ⟨.arg b, 0⟩, rows.length, (rows.take len).map pairOf, by simp [Nat.min_eq_left hl], by simp; omega, ⟨fun _ => ⟨.arg b, true, rows, rfl, trivial, hb, fun i hi => ?_⟩⟩⟩
    simp only [List.length_map, List.length_take] at hi
    have hi' : i < rows.length := by omega
    rw [List.getElem?_eq_getElem hi']
    obtain ⟨C1, C2, e1, ⟨n, _, rfl⟩, C3, C4, rfl, ⟨B, _, rfl⟩, h4⟩ := hr _ (List.getElem_mem hi')
    have h4 : C4 = [] := h4
    subst h4
    simp [e1, pairOf]
theorem geo_of {a : Nat → Option Am.Obj} {u : V} (h : FitsV a (.seq (.int .i64) (.seq (.int .i64) (.seq (.int .i64) .nil))) u) : ∃ m s r, u = geo m s r := by
  obtain ⟨C, ⟨C1, C2, rfl, ⟨m, _, rfl⟩, C3, C4, rfl, ⟨s, _, rfl⟩, C5, C6, rfl, ⟨r, _, rfl⟩, h6⟩, hu⟩ := h
  have h6 : C6 = [] := h6
  subst h6
  cases hu
  exact ⟨m, s, r, rfl⟩

theorem bounds16 {n c : Nat} (h1 : 16 < n) (h2 : n ≤ c) : bounds n c none (some (.int .i64 16)) none = some (0, 16, c) := by
  have e1 : Nat.ble 16 c = true := ble_iff.2 (by omega)
  show (match boundD c n (some (.int .i64 16)) with
    | some h => match boundD h 0 none with
      | some l => some (l, h, c)
      | none => none
    | none => none) = _
  have : boundD c n (some (.int .i64 16)) = some 16 := by
    unfold boundD
    simp only [show asNat (.int .i64 16) = some 16 from rfl, bound, e1]
  rw [this]
  rfl

/-! ### the plain law -/

def inr (m s r k : Int) : Prop := 0 ≤ k ∧ k < blocks m s r
instance (m s r k : Int) : Decidable (inr m s r k) := by unfold inr; infer_instance

theorem wcode_in {m s r : Int} {W : Ws} {k : Int} (h : inr m s r k) (hl : W.length < 16) : wcode m s r W k = 0 := by
  unfold wcode
  have := h.1; have := h.2
  rw [if_neg (by omega), if_neg (by omega)]
theorem wcode_out {m s r : Int} {W : Ws} {k : Int} (h : ¬ inr m s r k) : wcode m s r W k = 12 := by
  unfold wcode
  rw [if_pos]
  unfold inr at h
  omega
theorem write_in {m s r : Int} {W : Ws} {k : Int} (B : Nat) (h : inr m s r k) (hl : W.length < 16) : W.write m s r k B = W.put k B := if_pos (wcode_in h hl)
theorem write_out {m s r : Int} {W : Ws} {k : Int} (B : Nat) (h : ¬ inr m s r k) : W.write m s r k B = W := if_neg (by rw [wcode_out h]; decide)

theorem gt_snoc (w : Int × Nat) (k : Int) : ∀ L : Ws, gt (L ++ [w]) k = (gt L k).or (if w.1 = k then some w.2 else none)
  | [] => by rw [List.nil_append, gt_cons]; simp [gt, idx]
  | v :: l => by
    rw [List.cons_append, gt_cons, gt_cons, gt_snoc w k l]
    split <;> simp

theorem fwd_step {m s r : Int} {W R : Ws} {k0 : Int} {B : Nat} (h : ∀ k, gt W k = if inr m s r k then gt R k else none) (hl : W.length < 16) (k : Int) : gt (W.write m s r k0 B) k = if inr m s r k then gt ((k0, B) :: R) k else none := by
  by_cases hi : inr m s r k0
  · rw [write_in B hi hl, gt_put, gt_cons, h]
    by_cases e : k = k0
    · subst e; simp [hi]
    · rw [if_neg e, if_neg (show ¬ (k0, B).1 = k from fun x => e x.symm)]
  · rw [write_out B hi, gt_cons, h]
    by_cases hk : inr m s r k
    · rw [if_pos hk, if_pos hk, if_neg (fun e => hi (by rw [show k0 = k from e]; exact hk))]
    · rw [if_neg hk, if_neg hk]
theorem bwd_step {m s r : Int} {W R : Ws} {k0 : Int} {B : Nat} (h : ∀ k, gt W k = if inr m s r k then gt R k else none) (hl : W.length < 16) (hn : gt W k0 = none) (k : Int) : gt (W.write m s r k0 B) k = if inr m s r k then gt (R ++ [(k0, B)]) k else none := by
  by_cases hi : inr m s r k0
  · rw [write_in B hi hl, gt_put, gt_snoc, h]
    by_cases e : k = k0
    · subst e
      rw [h, if_pos hi] at hn
      simp [hi, hn]
    · rw [if_neg e, if_neg (show ¬ (k0, B).1 = k from fun x => e x.symm)]; simp
  · rw [write_out B hi, gt_snoc, h]
    by_cases hk : inr m s r k
    · rw [if_pos hk, if_pos hk, if_neg (fun e => hi (by rw [show k0 = k from e]; exact hk))]; simp
    · rw [if_neg hk, if_neg hk]
theorem bwd_skip {m s r : Int} {W R : Ws} {k0 : Int} {B : Nat} (h : ∀ k, gt W k = if inr m s r k then gt R k else none) (hn : (gt W k0).isSome = true) (k : Int) : gt W k = if inr m s r k then gt (R ++ [(k0, B)]) k else none := by
  rw [gt_snoc, h]
  by_cases hk : inr m s r k
  · rw [if_pos hk, if_pos hk]
    by_cases e : k0 = k
    · subst e
      rw [h, if_pos hk] at hn
      obtain ⟨x, hx⟩ := Option.isSome_iff_exists.1 hn
      simp [hx]
    · simp [e]
  · rw [if_neg hk, if_neg hk]

theorem put_good {W : Ws} (g : Good W) {k : Int} {B : Nat} (hk : 0 ≤ k ∧ k < 960) (hl : W.length < 16) : Good (W.put k B) := by
  cases hx : idx W k with
  | none =>
    have e : W.put k B = W ++ [(k, B)] := by unfold Ws.put; rw [hx]
    rw [e]
    have hn : k ∉ W.map (·.1) := fun hm => by
      have := gt_mem.2 hm
      rw [gt_none.1 hx] at this
      cases this
    refine ⟨?_, ?_, by simp; omega⟩
    · rw [List.map_append, List.nodup_append]
      refine ⟨g.nd, by simp, fun a ha b hb => ?_⟩
      simp at hb
      subst hb
      intro e
      exact hn (e ▸ ha)
    · intro w hw
      rcases List.mem_append.1 hw with hw | hw
      · exact g.lt w hw
      · simp at hw; subst hw; exact hk
  | some p =>
    have e : W.put k B = W.set p.1 (k, B) := by unfold Ws.put; rw [hx]
    rw [e]
    have hg := idx_lt hx
    obtain ⟨hlt, hge⟩ := List.getElem?_eq_some_iff.1 hg
    have hm : (W.set p.1 (k, B)).map (·.1) = W.map (·.1) := by
      rw [List.map_set]
      apply List.ext_getElem?
      intro j
      rw [List.getElem?_set]
      by_cases hj : p.1 = j
      · subst hj
        rw [if_pos rfl, if_pos (by simpa using hlt), List.getElem?_map, hg]
        rfl
      · rw [if_neg hj]
    refine ⟨by rw [hm]; exact g.nd, ?_, by simpa using g.le⟩
    intro w hw
    rcases List.mem_or_eq_of_mem_set hw with hw | hw
    · exact g.lt w hw
    · subst hw; exact hk
theorem write_good {m s r : Int} {W : Ws} (g : Good W) (k : Int) (B : Nat) (hl : W.length < 16) : Good (W.write m s r k B) ∧ (W.write m s r k B).length ≤ W.length + 1 := by
  by_cases hi : inr m s r k
  · rw [write_in B hi hl]
    have := blocks_le m s r
    refine ⟨put_good g ⟨hi.1, ?_⟩ hl, ?_⟩
    · have := hi.2; omega
    · rw [put_len]; split <;> omega
  · rw [write_out B hi]; exact ⟨g, by omega⟩

theorem good_nil : Good [] := ⟨List.nodup_nil, fun w hw => by simp at hw, by simp⟩

/-! ### the run -/

theorem last_run (H : Heap) {m s r : Int} {lp : Option Ptr} {lc : Nat} {W : Ws} (hc : W.length ≤ lc) (hW : WritesAt H lp W) (lf n : Nat) (hlf : 17 < lf) : ret (callS Try.prog S0 lf (n + 5) 4 [geo m s r, .slice lp W.length lc 0] H) fun v H' => v = .bool true ∧ Turns Z H H' := by
  have t1 := Turns.add Z H (.rows false 3 [[.int .i64 m, .int .i64 s, .int .i64 r]])
  have hg1 : (H.add (.rows false 3 [[.int .i64 m, .int .i64 s, .int .i64 r]])).get (.run H.next) = some (.rows false 3 [[.int .i64 m, .int .i64 s, .int .i64 r]]) := by rw [Heap.get_add, if_pos rfl]
  have o1 : (H.add (.rows false 3 [[.int .i64 m, .int .i64 s, .int .i64 r]])).Old (.run H.next) := by show _ < _; simp
  have lw : ∀ {H' : Heap}, Turns Z (H.add (.rows false 3 [[.int .i64 m, .int .i64 s, .int .i64 r]])) H' → loadAt H' ⟨.run H.next, 0⟩ 3 = some [.int .i64 m, .int .i64 s, .int .i64 r] := fun k => by
    rw [loadAt_eq ((k.same _ o1 id).trans hg1) rfl]; rfl
  have lw1 := lw (Turns.refl Z _)
  have hV : ∀ H, callS Try.prog S0 lf (n + 4) 11 [] H = some (.v (.bool true), H) := fun H => lives_ok lf (n + 3) H
  refine ret_call rfl c4_eq ?_
  simp only [c4, geo, sy, tup, ↓reduceIte, Nat.reduceEqDiff, Nat.reduceAdd, Nat.reduceSub, Nat.reduceMul, Nat.reduceDiv, Nat.reduceMod, Nat.reduceLeDiff, Int.reduceBEq, reduceCtorEq]
  -- at most sixteen
  refine wp_ctx (F := fun r => seqC _ _ _ r) (R := fun x s' => x = .n ∧ s'.d = [] ∧ s'.H = H.add (.rows false 3 [[.int .i64 m, .int .i64 s, .int .i64 r]]) ∧ s'.t.getP (Tr.path 1) = some (.slice lp (W.take 16).length lc 0) ∧ s'.t.getP (Tr.path 2) = some (.ptr (some ⟨.run H.next, 0⟩))) ?_ ?_
  · by_cases h16 : 16 < W.length
    · obtain ⟨x, _, _, rfl, _⟩ := hW.at' (fun e => by rw [e] at h16; simp at h16)
      have h16' : (16 : Int) < (W.length : Int) := by omega
      have ebo := bounds16 h16 hc
      have hc0 : ¬ lc = 0 := by omega
      have hl16 : min 16 W.length = 16 := Nat.min_eq_left (by omega)
      simp only [h16', ebo, hc0, List.length_take, hl16, sy, tup, ↓reduceIte, Nat.reduceEqDiff, Nat.reduceAdd, Nat.reduceSub, Nat.reduceMul, Nat.reduceDiv, Nat.reduceMod, Nat.reduceLeDiff, Int.reduceBEq, reduceCtorEq]
      simp
    · have h16' : ¬ (16 : Int) < (W.length : Int) := by omega
      have hl16 : min 16 W.length = W.length := Nat.min_eq_right (by omega)
      simp only [h16', List.length_take, hl16, sy, tup, ↓reduceIte, Nat.reduceEqDiff, Nat.reduceAdd, Nat.reduceSub, Nat.reduceMul, Nat.reduceDiv, Nat.reduceMod, Nat.reduceLeDiff, Int.reduceBEq, reduceCtorEq]
      simp
  rintro x ⟨t, HH, d⟩ ⟨rfl, hd, hH, q1, q2⟩
  dsimp only at hd hH q1 q2
  subst hd; subst hH
  replace hW := hW.take 16
  have hL16 : (W.take 16).length ≤ 16 := by rw [List.length_take]; omega
  generalize W.take 16 = L at hW hL16 q1
  cases hm : may m s r with
  | false =>
    obtain ⟨v, H2, e2, rfl, t2⟩ := new_err (H.add (.rows false 3 [[.int .i64 m, .int .i64 s, .int .i64 r]])) hm lf (n + 1)
    unfold geo at e2
    have lw2 := lw t2
    obtain ⟨v, H3, e3, rfl, t3⟩ := new_err H2 hm lf (n + 1)
    unfold geo at e3
    have lw3 := lw (t2.trans t3)
    obtain ⟨v, H4, e4, rfl, t4⟩ := rmay_ok H3 m s r lf (n + 3)
    unfold geo at e4
    rw [hm] at e4
    simp only [q1, q2, lw1, lw2, lw3, e2, e3, e4, hV, sy, tup, ↓reduceIte, Nat.reduceEqDiff, Nat.reduceAdd, Nat.reduceSub, Nat.reduceMul, Nat.reduceDiv, Nat.reduceMod, Nat.reduceLeDiff, Int.reduceBEq, reduceCtorEq]
    simp
    exact ((t1.trans t2).trans t3).trans t4
  | true =>
    obtain ⟨v, H2, e2, b1, mb1, rfl, d1, t2, n1, n1'⟩ := new_ok (H.add (.rows false 3 [[.int .i64 m, .int .i64 s, .int .i64 r]])) hm lf (n + 1)
    unfold geo at e2
    have lw2 := lw t2
    obtain ⟨v, H3, e3, b2, mb2, rfl, d2, t3, n2, n2'⟩ := new_ok H2 hm lf (n + 1)
    unfold geo at e3
    have lw3 := lw (t2.trans t3)
    obtain ⟨v, H4, e4, rfl, t4⟩ := rmay_ok H3 m s r lf (n + 3)
    unfold geo at e4
    rw [hm] at e4
    have d1 := (d1.turns t3 id id).turns t4 id id
    have d2 := d2.turns t4 id id
    have x1 : ¬ b1 = mb2 := fun e => n2' (by rw [← e]; exact (by assumption : DraftAt H2 b1 mb1 m s r []).old.1)
    have x2 : ¬ mb1 = mb2 := fun e => n2' (by rw [← e]; exact (by assumption : DraftAt H2 b1 mb1 m s r []).old.2)
    have x3 : ¬ b2 = mb1 := fun e => n2 (by rw [e]; exact (by assumption : DraftAt H2 b1 mb1 m s r []).old.2)
    have tz4 : Turns Z H H4 := ((t1.trans t2).trans t3).trans t4
    have no1 : ¬ H.Old mb1 := fun h => n1' (h.mono t1.next)
    have no2 : ¬ H.Old mb2 := fun h => n2' (h.mono (t1.trans t2).next)
    simp only [q1, q2, lw1, lw2, lw3, e2, e3, e4, sy, tup, ↓reduceIte, Nat.reduceEqDiff, Nat.reduceAdd, Nat.reduceSub, Nat.reduceMul, Nat.reduceDiv, Nat.reduceMod, Nat.reduceLeDiff, Int.reduceBEq, reduceCtorEq]
    -- forward
    have hloop1 : ∀ t : T, t.getP (Tr.path 1) = some (.slice lp L.length lc 0) → t.getP (Tr.path 5) = some (.ptr (some ⟨b1, 0⟩)) → t.getP (Tr.path 7) = some (.ptr (some ⟨b2, 0⟩)) → t.getP (Tr.path 9) = some (.int .i64 0) →
        wp (loopF (runC (callS Try.prog S0 lf (n + 4)) lf c4_l1) lf ⟨t, H4, []⟩) fun x s' => x = .ex 0 ∧ s'.d = [] ∧ ∃ WA : Ws, DraftAt s'.H b1 mb1 m s r WA ∧ Good WA ∧ (∀ k, gt WA k = if inr m s r k then gt L.reverse k else none) ∧ Turns Z H s'.H ∧ Turns (fun c => c = mb1) H4 s'.H ∧
          s'.t.getP (Tr.path 1) = some (.slice lp L.length lc 0) ∧ s'.t.getP (Tr.path 5) = some (.ptr (some ⟨b1, 0⟩)) ∧ s'.t.getP (Tr.path 7) = some (.ptr (some ⟨b2, 0⟩)) := by
      intro t q1 q5 q7 q9
      refine wp_loopF (fun k s' => ∃ i : Nat, k = L.length - i ∧ i ≤ L.length ∧ s'.d = [] ∧ s'.t.getP (Tr.path 9) = some (.int .i64 (i : Int)) ∧ ∃ WA : Ws, DraftAt s'.H b1 mb1 m s r WA ∧ Good WA ∧ WA.length ≤ i ∧ (∀ k, gt WA k = if inr m s r k then gt (L.take i).reverse k else none) ∧ Turns Z H s'.H ∧ Turns (fun c => c = mb1) H4 s'.H ∧
          s'.t.getP (Tr.path 1) = some (.slice lp L.length lc 0) ∧ s'.t.getP (Tr.path 5) = some (.ptr (some ⟨b1, 0⟩)) ∧ s'.t.getP (Tr.path 7) = some (.ptr (some ⟨b2, 0⟩))) ?_ lf L.length _ ⟨0, rfl, by omega, rfl, q9, [], d1, good_nil, by simp, fun k => by split <;> rfl, tz4, Turns.refl _ _, q1, q5, q7⟩ (by omega)
      rintro k ⟨t, HH, d⟩ ⟨i, rfl, hi, hd, q9, WA, dA, gA, lA, hA, tz, ta, q1, q5, q7⟩
      dsimp only at hd q9 dA tz ta q1 q5 q7
      subst hd
      by_cases hlt : i < L.length
      · have hlt' : (i : Int) < (L.length : Int) := by omega
        have hle' : i + 1 ≤ L.length := hlt
        obtain ⟨x, ex, lk, lb⟩ := (hW.turns tz).load hlt
        rw [ex] at q1
        obtain ⟨v, H5, e5, rfl, d5, t5⟩ := write_ok dA L[i].1 L[i].2 lf n
        have hl16 : WA.length < 16 := by omega
        have w2 : IntKind.i64.wrap ((i : Int) + 1) = ((i + 1 : Nat) : Int) := by rw [wrap_i64 (by omega)]; omega
        obtain ⟨g5, l5⟩ := write_good (m := m) (s := s) (r := r) gA L[i].1 L[i].2 hl16
        have htk : (L.take (i + 1)).reverse = L[i] :: (L.take i).reverse := by rw [List.take_add_one, List.getElem?_eq_getElem hlt]; simp
        simp only [c4_l1, q1, q5, q7, q9, hlt', hle', w2, lk, lb, e5, sy, tup, ↓reduceIte, Nat.reduceEqDiff, Nat.reduceAdd, Nat.reduceSub, Nat.reduceMul, Nat.reduceDiv, Nat.reduceMod, Nat.reduceLeDiff, Int.reduceBEq, reduceCtorEq]
        rw [endD_ok (by kernel_rfl) (by kernel_rfl)]
        simp only [q1, q5, q7, q9, w2, sy, tup, ↓reduceIte, Nat.reduceEqDiff, Nat.reduceAdd, Nat.reduceSub, Nat.reduceMul, Nat.reduceDiv, Nat.reduceMod, Nat.reduceLeDiff, Int.reduceBEq, reduceCtorEq]
        refine ⟨L.length - (i + 1), by omega, i + 1, rfl, by omega, trivial, by simp, _, d5, g5, by omega, fun k => ?_, tz.later t5 (fun c hc e => by subst e; exact absurd hc no1), ta.trans t5, ?_, ?_, ?_⟩
        · rw [htk]; exact fwd_step hA hl16 k
        all_goals simp [ex]
      · have : i = L.length := by omega
        subst this
        simp only [c4_l1, q1, q5, q7, q9, Int.lt_irrefl, sy, tup, ↓reduceIte, Nat.reduceEqDiff, Nat.reduceAdd, Nat.reduceSub, Nat.reduceMul, Nat.reduceDiv, Nat.reduceMod, Nat.reduceLeDiff, Int.reduceBEq, reduceCtorEq]
        rw [List.take_of_length_le (Nat.le_refl _)] at hA
        exact ⟨trivial, trivial, WA, dA, gA, hA, tz, ta, by first | trivial | exact q1, by first | trivial | exact q5, by first | trivial | exact q7⟩
    refine wp_ctx (F := fun r => seqC _ _ _ (blockC _ r)) (hloop1 _ ?_ ?_ ?_ ?_) ?_
    · simp only [q1, sy, tup, ↓reduceIte, Nat.reduceEqDiff, Nat.reduceAdd, Nat.reduceSub, Nat.reduceMul, Nat.reduceDiv, Nat.reduceMod, Nat.reduceLeDiff, Int.reduceBEq, reduceCtorEq]
    · simp only [sy, tup, ↓reduceIte, Nat.reduceEqDiff, Nat.reduceAdd, Nat.reduceSub, Nat.reduceMul, Nat.reduceDiv, Nat.reduceMod, Nat.reduceLeDiff, Int.reduceBEq, reduceCtorEq]
    · simp only [sy, tup, ↓reduceIte, Nat.reduceEqDiff, Nat.reduceAdd, Nat.reduceSub, Nat.reduceMul, Nat.reduceDiv, Nat.reduceMod, Nat.reduceLeDiff, Int.reduceBEq, reduceCtorEq]
    · simp only [sy, tup, ↓reduceIte, Nat.reduceEqDiff, Nat.reduceAdd, Nat.reduceSub, Nat.reduceMul, Nat.reduceDiv, Nat.reduceMod, Nat.reduceLeDiff, Int.reduceBEq, reduceCtorEq]
    rintro x ⟨t, H5, d⟩ ⟨rfl, hd, WA, dA, gA, hA, tz5, ta5, q1, q5, q7⟩
    dsimp only at hd dA tz5 ta5 q1 q5 q7
    subst hd
    have d2 := d2.turns ta5 x3 (fun e => x2 e.symm)
    have w1 : IntKind.i64.wrap ((L.length : Int) - 1) = (L.length : Int) - 1 := wrap_i64 (by omega)
    simp only [q1, q5, q7, w1, sy, tup, ↓reduceIte, Nat.reduceEqDiff, Nat.reduceAdd, Nat.reduceSub, Nat.reduceMul, Nat.reduceDiv, Nat.reduceMod, Nat.reduceLeDiff, Int.reduceBEq, reduceCtorEq]
    -- backward
    have hloop2 : ∀ t : T, t.getP (Tr.path 1) = some (.slice lp L.length lc 0) → t.getP (Tr.path 5) = some (.ptr (some ⟨b1, 0⟩)) → t.getP (Tr.path 7) = some (.ptr (some ⟨b2, 0⟩)) → t.getP (Tr.path 10) = some (.int .i64 ((L.length : Int) - 1)) →
        wp (loopF (runC (callS Try.prog S0 lf (n + 4)) lf c4_l0) lf ⟨t, H5, []⟩) fun x s' => x = .ex 2 ∧ s'.d = [] ∧ ∃ WB : Ws, DraftAt s'.H b2 mb2 m s r WB ∧ Good WB ∧ (∀ k, gt WB k = if inr m s r k then gt L.reverse k else none) ∧ Turns Z H s'.H ∧ Turns (fun c => c = mb2) H5 s'.H ∧
          s'.t.getP (Tr.path 5) = some (.ptr (some ⟨b1, 0⟩)) ∧ s'.t.getP (Tr.path 7) = some (.ptr (some ⟨b2, 0⟩)) := by
      intro t q1 q5 q7 q10
      refine wp_loopF (fun i s' => i ≤ L.length ∧ s'.d = [] ∧ s'.t.getP (Tr.path 10) = some (.int .i64 ((i : Int) - 1)) ∧ ∃ WB : Ws, DraftAt s'.H b2 mb2 m s r WB ∧ Good WB ∧ WB.length ≤ L.length - i ∧ (∀ k, gt WB k = if inr m s r k then gt (L.drop i).reverse k else none) ∧ Turns Z H s'.H ∧ Turns (fun c => c = mb2) H5 s'.H ∧
          s'.t.getP (Tr.path 1) = some (.slice lp L.length lc 0) ∧ s'.t.getP (Tr.path 5) = some (.ptr (some ⟨b1, 0⟩)) ∧ s'.t.getP (Tr.path 7) = some (.ptr (some ⟨b2, 0⟩))) ?_ lf L.length _ ⟨Nat.le_refl _, rfl, q10, [], d2, good_nil, by simp, fun k => by rw [List.drop_of_length_le (Nat.le_refl _)]; split <;> rfl, tz5, Turns.refl _ _, q1, q5, q7⟩ (by omega)
      rintro i ⟨t, HH, d⟩ ⟨hi, hd, q10, WB, dB, gB, lB, hB, tz, ta, q1, q5, q7⟩
      dsimp only at hd q10 dB tz ta q1 q5 q7
      subst hd
      cases i with
      | zero =>
        have q10 : t.getP (Tr.path 10) = some (.int .i64 (-1)) := q10
        simp only [c4_l0, q1, q5, q7, q10, show decide ((0 : Int) ≤ -1) = false from rfl, sy, tup, ↓reduceIte, Nat.reduceEqDiff, Nat.reduceAdd, Nat.reduceSub, Nat.reduceMul, Nat.reduceDiv, Nat.reduceMod, Nat.reduceLeDiff, Int.reduceBEq, reduceCtorEq]
        exact ⟨trivial, trivial, WB, dB, gB, hB, tz, ta, by first | trivial | exact q5, by first | trivial | exact q7⟩
      | succ i =>
        have hlt : i < L.length := hi
        have hle' : i + 1 ≤ L.length := hi
        have q10 : t.getP (Tr.path 10) = some (.int .i64 (i : Int)) := by rw [q10]; congr 2; omega
        have h0 : (0 : Int) ≤ (i : Int) := by omega
        obtain ⟨x, ex, lk, lb⟩ := (hW.turns tz).load hlt
        have q1' := q1
        rw [ex] at q1'
        obtain ⟨v, H6, e6, rfl, t6⟩ := read_ok dB L[i].1 lf (n + 2)
        have w2 : IntKind.i64.wrap ((i : Int) - 1) = (i : Int) - 1 := wrap_i64 (by omega)
        have hdr : (L.drop i).reverse = (L.drop (i + 1)).reverse ++ [L[i]] := by rw [List.drop_eq_getElem_cons hlt]; simp
        have t7 := (Turns.add Z H6 (.rows false 64 [[.blk 0]])).setnew (Nat.le_refl _) (.rows false 64 [[.blk (getB WB L[i].1)]])
        have t67 := t6.trans t7
        have tz7 := tz.trans t67
        have d7 := dB.turns t67 id id
        have ta7 := ta.trans (t67.wide (fun c hc => hc.elim))
        rw [gt_isSome] at e6
        cases hg : gt WB L[i].1 with
        | some B0 =>
          rw [hg, Option.isSome_some] at e6
          simp only [c4_l0, q1', q5, q7, q10, h0, hle', w2, lk, lb, e6, sy, tup, ↓reduceIte, Nat.reduceEqDiff, Nat.reduceAdd, Nat.reduceSub, Nat.reduceMul, Nat.reduceDiv, Nat.reduceMod, Nat.reduceLeDiff, Int.reduceBEq, reduceCtorEq]
          refine ⟨i, by omega, by omega, trivial, by simp, WB, d7, gB, by omega, fun k => ?_, tz7, ta7, ?_, ?_, ?_⟩
          · rw [hdr]; exact bwd_skip (k0 := L[i].1) (B := L[i].2) hB (by rw [hg]; rfl) k
          all_goals simp [ex]
        | none =>
          rw [hg, Option.isSome_none] at e6
          obtain ⟨x', ex', lk7, lb7⟩ := (hW.turns tz7).load hlt
          obtain rfl : x = x' := by rw [ex] at ex'; cases ex'; rfl
          obtain ⟨v, H8, e8, rfl, d8, t8⟩ := write_ok d7 L[i].1 L[i].2 lf n
          have hl16 : WB.length < 16 := by omega
          obtain ⟨g8, l8⟩ := write_good (m := m) (s := s) (r := r) gB L[i].1 L[i].2 hl16
          simp only [c4_l0, q1', q5, q7, q10, h0, hle', w2, lk, lb, e6, lk7, lb7, e8, sy, tup, ↓reduceIte, Nat.reduceEqDiff, Nat.reduceAdd, Nat.reduceSub, Nat.reduceMul, Nat.reduceDiv, Nat.reduceMod, Nat.reduceLeDiff, Int.reduceBEq, reduceCtorEq]
          rw [endD_ok (by kernel_rfl) (by kernel_rfl)]
          simp only [q1', q5, q7, q10, w2, sy, tup, ↓reduceIte, Nat.reduceEqDiff, Nat.reduceAdd, Nat.reduceSub, Nat.reduceMul, Nat.reduceDiv, Nat.reduceMod, Nat.reduceLeDiff, Int.reduceBEq, reduceCtorEq]
          refine ⟨i, by omega, by omega, trivial, by simp, _, d8, g8, by omega, fun k => ?_, tz7.later t8 (fun c hc e => by subst e; exact absurd hc no2), ta7.trans t8, ?_, ?_, ?_⟩
          · rw [hdr]; exact bwd_step hB hl16 hg k
          all_goals simp [ex]
    refine wp_ctx (F := fun r => seqC _ _ _ (blockC _ r)) (hloop2 _ ?_ ?_ ?_ ?_) ?_
    · simp only [q1, sy, tup, ↓reduceIte, Nat.reduceEqDiff, Nat.reduceAdd, Nat.reduceSub, Nat.reduceMul, Nat.reduceDiv, Nat.reduceMod, Nat.reduceLeDiff, Int.reduceBEq, reduceCtorEq]
    · simp only [q5, sy, tup, ↓reduceIte, Nat.reduceEqDiff, Nat.reduceAdd, Nat.reduceSub, Nat.reduceMul, Nat.reduceDiv, Nat.reduceMod, Nat.reduceLeDiff, Int.reduceBEq, reduceCtorEq]
    · simp only [q7, sy, tup, ↓reduceIte, Nat.reduceEqDiff, Nat.reduceAdd, Nat.reduceSub, Nat.reduceMul, Nat.reduceDiv, Nat.reduceMod, Nat.reduceLeDiff, Int.reduceBEq, reduceCtorEq]
    · simp only [sy, tup, ↓reduceIte, Nat.reduceEqDiff, Nat.reduceAdd, Nat.reduceSub, Nat.reduceMul, Nat.reduceDiv, Nat.reduceMod, Nat.reduceLeDiff, Int.reduceBEq, reduceCtorEq]
    rintro x ⟨t, H6, d⟩ ⟨rfl, hd, WB, dB, gB, hB, tz6, ta6, q5, q7⟩
    dsimp only at hd dB tz6 ta6 q5 q7
    subst hd
    have dA := dA.turns ta6 x1 x2
    obtain ⟨v1, H7, e7, hv1, t7⟩ := writes_ok dA gA lf (n + 2) hlf
    obtain ⟨v2, H8, e8, hv2, t8⟩ := writes_ok (dB.turns t7 id id) gB lf (n + 2) hlf
    have htold : told WB = told WA := told_eq gB gA (fun k => by rw [hA, hB])
    rw [htold] at hv2
    have hlA : (told WA).length ≤ 16 := by rw [told_len]; exact gA.le
    have e9 := sameW_ok (hv1.turns t8 (fun _ _ => id)) hv2 hlA lf (n + 3) hlf
    have dA8 := (dA.turns t7 id id).turns t8 id id
    have e10 := len_ok dA8 lf (n + 2)
    obtain ⟨v3, H9, e11, hv3, t9⟩ := writes_ok dA8 gA lf (n + 2) hlf
    have e12 := len_ok (dA8.turns t9 id id) lf (n + 2)
    obtain ⟨p3, c3, o3, rfl⟩ := hv3.val
    have hl3 : (rowsW (told WA)).length = WA.length := by unfold rowsW; rw [List.length_map, told_len]
    rw [hl3] at e11
    have h16 : (WA.length : Int) ≤ 16 := by have := gA.le; omega
    simp only [q5, q7, e7, e8, e9, e10, e11, e12, h16, hV, sy, tup, ↓reduceIte, Nat.reduceEqDiff, Nat.reduceAdd, Nat.reduceSub, Nat.reduceMul, Nat.reduceDiv, Nat.reduceMod, Nat.reduceLeDiff, Int.reduceBEq, reduceCtorEq]
    simp
    exact ((tz6.trans t7).trans t8).trans t9

end Go.Proofs.Ytpmdbbdidafehaa.draft

