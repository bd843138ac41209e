/-
  The document's transaction: what a writing does.
-/
import Derived.Test.YtpmdbbdidafehaaDraftRef
set_option linter.unusedVariables false
set_option linter.unusedSimpArgs false
set_option maxRecDepth 10000
namespace Go.Proofs.Ytpmdbbdidafehaa.draft
open Go.Am

def rcode (m s r : Int) (L : Ws) (k : Int) : Int := if k < 0 ∨ blocks m s r ≤ k then 12 else if gt L k = none ∧ 16 ≤ L.length then 11 else 0
def rput (m s r : Int) (L : Ws) (k : Int) (B : Nat) : Ws := if rcode m s r L k = 0 then insW L k B else L

theorem firstE_to {H : Heap} {b : Bk} {L : Ws} (hg : H.get b = some (.rows false 65 (rowsW L))) {a : Nat} (ha : a ≤ L.length) (c o : Nat) : firstE H 65 (.slice (some ⟨b, 0⟩) a c o) = some (rowsW (L.take a)) := by
  have hl : (rowsW L).length = L.length := List.length_map ..
  have := elems_ok hg cut_rowsW a 0 (by omega)
  show elems H b 65 a 0 = _
  rw [Nat.zero_mul] at this
  rw [this]
  unfold rowsW
  rw [List.drop_zero, List.map_take]
theorem firstE_from {H : Heap} {b : Bk} {L : Ws} (hg : H.get b = some (.rows false 65 (rowsW L))) {a : Nat} (ha : a ≤ L.length) (c o : Nat) : firstE H 65 (.slice (some ⟨b, a * 65⟩) (L.length - a) c o) = some (rowsW (L.drop a)) := by
  have hl : (rowsW L).length = L.length := List.length_map ..
  have := elems_ok hg cut_rowsW (L.length - a) a (by omega)
  show elems H b 65 (L.length - a) (a * 65) = _
  rw [this, List.take_of_length_le (by rw [List.length_drop, hl]; omega)]
  unfold rowsW
  rw [List.map_drop]

theorem ins_ok {H0 H3 : Heap} {rb : Bk} {m s r : Int} {L : Ws} {v : V} (h : RefAt H0 H3 rb m s r L v) {k : Int} {B a : Nat} (ha : a ≤ L.length) (hL : L.length < 16) {cb : Bk} (hcell : H3.get cb = some (.rows false 65 [[.int .i64 k, .blk B]])) (ocell : H3.Old cb)
    {p1 : Option Ptr} {c1 o1 : Nat} (hf1 : a ≠ 0 → firstE H3 65 (.slice p1 a c1 o1) = some (rowsW (L.take a))) {p2 : Option Ptr} {n2 c2 o2 : Nat} (hn2 : n2 = L.length - a) (hf2 : ∀ H', Turns Z H3 H' → n2 ≠ 0 → firstE H' 65 (.slice p2 n2 c2 o2) = some (rowsW (L.drop a))) :
    ∃ v1 H4 v2 H6 p3 n3 c3 o3 H7, appendV 65 72 H3 (.slice none 0 0 0) (.slice p1 a c1 o1) = some (v1, H4) ∧ loadAt H4 ⟨cb, 0⟩ 65 = some [.int .i64 k, .blk B] ∧
      appendV 65 72 (H4.add (.rows false 65 [[.int .i64 k, .blk B]])) v1 (.slice (some ⟨.run H4.next, 0⟩) 1 1 0) = some (v2, H6) ∧ loadAt H6 ⟨rb, 3⟩ 1 = some [v] ∧
      appendV 65 72 H6 v2 (.slice p2 n2 c2 o2) = some (.slice p3 n3 c3 o3, H7) ∧ storeAt H7 ⟨rb, 3⟩ [.slice p3 n3 c3 o3] = some (H7.set rb (.rows false 4 [[.int .i64 m, .int .i64 s, .int .i64 r, .slice p3 n3 c3 o3]])) ∧
      RefAt H0 (H7.set rb (.rows false 4 [[.int .i64 m, .int .i64 s, .int .i64 r, .slice p3 n3 c3 o3]])) rb m s r (L.take a ++ (k, B) :: L.drop a) (.slice p3 n3 c3 o3) ∧ Turns (fun c => c = rb) H3 (H7.set rb (.rows false 4 [[.int .i64 m, .int .i64 s, .int .i64 r, .slice p3 n3 c3 o3]])) := by
  have hl1 : (rowsW (L.take a)).length = a := by unfold rowsW; rw [List.length_map, List.length_take]; omega
  obtain ⟨v1, H4, e1, hv1, ta1⟩ := appL (Lst.nil H3 H3 65) (Nat.le_refl _) hf1 hl1 (by simp; omega)
  rw [List.nil_append] at hv1
  have t4 : Turns Z H3 H4 := (Turns.refl Z H3).later ta1 (fun c _ hb => by obtain ⟨_, _, _, _, e, _⟩ := hb; cases e)
  have l4 : loadAt H4 ⟨cb, 0⟩ 65 = some [.int .i64 k, .blk B] := by rw [loadAt_eq ((t4.same _ ocell id).trans hcell) rfl]; exact cut_kb _ _
  have t5 := Turns.add Z H4 (.rows false 65 [[.int .i64 k, .blk B]])
  have hg5 : (H4.add (.rows false 65 [[.int .i64 k, .blk B]])).get (.run H4.next) = some (.rows false 65 [[.int .i64 k, .blk B]]) := by rw [Heap.get_add, if_pos rfl]
  have hf : firstE (H4.add (.rows false 65 [[.int .i64 k, .blk B]])) 65 (.slice (some ⟨.run H4.next, 0⟩) 1 1 0) = some [[.int .i64 k, .blk B]] := by
    show elems _ _ 65 1 0 = _
    unfold elems elems
    rw [loadAt_eq hg5 rfl, cut_kb]
    rfl
  have hv15 := hv1.turns t5 (fun _ _ => id)
  obtain ⟨v2, H6, e2, hv2, ta2⟩ := appL hv15 (Nat.le_trans t4.next t5.next) (fun _ => hf) rfl (by rw [hl1]; omega)
  have t6 : Turns Z H3 H6 := (t4.trans t5).later ta2 (fun c hc hb => by
    obtain ⟨_, rfl, h1, _⟩ := hv15.bof hb
    exact absurd hc (Heap.not_old h1))
  have h6 := h.turns t6 id (fun _ _ => id)
  have l6 := rld_v h6
  have hl2 : (rowsW (L.drop a)).length = n2 := by unfold rowsW; rw [List.length_map, List.length_drop, hn2]
  obtain ⟨v3, H7, e3, hv3, ta3⟩ := appL hv2 t6.next (hf2 H6 t6) hl2 (by rw [List.length_append, hl1, hn2]; simp; omega)
  have t7 : Turns Z H3 H7 := t6.later ta3 (fun c hc hb => by
    obtain ⟨_, rfl, h1, _⟩ := hv2.bof hb
    exact absurd hc (Heap.not_old h1))
  obtain ⟨p3, c3, o3, rfl⟩ := hv3.val
  have h7 := h.turns t7 id (fun _ _ => id)
  have hR : rowsW (L.take a) ++ [[.int .i64 k, .blk B]] ++ rowsW (L.drop a) = rowsW (L.take a ++ (k, B) :: L.drop a) := by unfold rowsW; simp
  refine ⟨v1, H4, v2, H6, p3, _, c3, o3, H7, e1, l4, e2, l6, e3, ?_, ⟨?_, ?_, h.base, ?_⟩, Turns.setm (X := fun c => c = rb) (t7.wide (fun c hc => hc.elim)) rfl _⟩
  · obtain ⟨p, c, o, ev⟩ := rval h
    subst ev
    exact storeAt_eq h7.own (r := [.int .i64 m, .int .i64 s, .int .i64 r, .slice p L.length c o]) rfl rfl
  · rw [Heap.get_set, if_pos rfl]
  · rw [← hR]
    refine Lst.base (hv3.turns (Turns.set (X := fun c => c = rb) rfl H7 _) (fun c hb e => ?_)) h.nx
    obtain ⟨n, e', h1, _⟩ := hv3.bof hb
    have := h.base
    rw [← e, e'] at this
    exact absurd this (Heap.not_old (Nat.le_trans h.nx h1))
  · show _ ≤ H7.next
    exact Nat.le_trans h.nx t7.next

theorem rwrite_ok {H0 H : Heap} {rb : Bk} {m s r : Int} {L : Ws} {v : V} (h : RefAt H0 H rb m s r L v) (hR : Rising L) (hL : L.length ≤ 16) (k : Int) (B : Nat) (lf n : Nat) (hlf : 17 < lf) : ret (callS Try.prog S0 lf (n + 3) 13 [.ptr (some ⟨rb, 0⟩), .int .i64 k, .blk B] H) fun x H' =>
    x = .int .i64 (rcode m s r L k) ∧ ∃ v', RefAt H0 H' rb m s r (rput m s r L k B) v' ∧ Turns (fun c => c = rb ∨ Bof v c) H H' := by
  have t1 := Turns.add Z H (.rows false 64 [[.blk B]])
  have h1 := h.turns t1 id (fun _ _ => id)
  have lg := rld_g h1
  have hg1 : (H.add (.rows false 64 [[.blk B]])).get (.run H.next) = some (.rows false 64 [[.blk B]]) := by rw [Heap.get_add, if_pos rfl]
  obtain ⟨x, H2, e2, rfl, t2⟩ := rblocks_ok (H.add (.rows false 64 [[.blk B]])) m s r lf n
  unfold geo at e2
  have h2 := h1.turns t2 id (fun _ _ => id)
  have hg2 : H2.get (.run H.next) = some (.rows false 64 [[.blk B]]) := (t2.same _ (by show _ < _; simp) id).trans hg1
  have lB : loadAt H2 ⟨.run H.next, 0⟩ 64 = some [.blk B] := by rw [loadAt_eq hg2 rfl]; exact cut_blk _ _
  have wd : ∀ {H' : Heap}, Turns Z H H' → Turns (fun c => c = rb ∨ Bof v c) H H' := fun t => t.wide (fun c hc => hc.elim)
  obtain ⟨p, c, o, ev⟩ := rval h
  refine ret_call rfl c13_eq ?_
  by_cases h0 : k < 0
  · have hc : rcode m s r L k = 12 := if_pos (.inl h0)
    have hp : rput m s r L k B = L := if_neg (by rw [hc]; decide)
    rw [hc, hp]
    simp only [c13, h0, lg, e2, sy, tup, ↓reduceIte, Nat.reduceEqDiff, Nat.reduceAdd, Nat.reduceSub, Nat.reduceMul, Nat.reduceDiv, Nat.reduceMod, Nat.reduceLeDiff, Int.reduceBEq, reduceCtorEq]
    exact ⟨trivial, .inr trivial, _, rfl, rfl, v, h1, wd t1⟩
  by_cases hb : blocks m s r ≤ k
  · have hc : rcode m s r L k = 12 := if_pos (.inr hb)
    have hp : rput m s r L k B = L := if_neg (by rw [hc]; decide)
    rw [hc, hp]
    simp only [c13, h0, lg, e2, hb, sy, tup, ↓reduceIte, Nat.reduceEqDiff, Nat.reduceAdd, Nat.reduceSub, Nat.reduceMul, Nat.reduceDiv, Nat.reduceMod, Nat.reduceLeDiff, Int.reduceBEq, reduceCtorEq]
    exact ⟨trivial, .inr trivial, _, rfl, rfl, v, h2, wd (t1.trans t2)⟩
  have hrange : ¬ (k < 0 ∨ blocks m s r ≤ k) := by omega
  have lv := rld_v h2
  rw [ev] at lv
  simp only [c13, h0, lg, e2, hb, sy, tup, ↓reduceIte, Nat.reduceEqDiff, Nat.reduceAdd, Nat.reduceSub, Nat.reduceMul, Nat.reduceDiv, Nat.reduceMod, Nat.reduceLeDiff, Int.reduceBEq, reduceCtorEq]
  have hple := pos_le k L
  have hloop : ∀ t : T, t.getP (Tr.path 0) = some (.ptr (some ⟨rb, 0⟩)) → t.getP (Tr.path 1) = some (.int .i64 k) → t.getP (Tr.path 5) = some (.ptr (some ⟨.run H.next, 0⟩)) → t.getP (Tr.path 7) = some (.int .i64 0) →
      wp (loopF (runC (callS Try.prog S0 lf (n + 2)) lf c13_l0) lf ⟨t, H2, []⟩) fun x s' => x = .ex 0 ∧ s'.d = [] ∧ s'.H = H2 ∧ s'.t.getP (Tr.path 0) = some (.ptr (some ⟨rb, 0⟩)) ∧ s'.t.getP (Tr.path 1) = some (.int .i64 k) ∧ s'.t.getP (Tr.path 5) = some (.ptr (some ⟨.run H.next, 0⟩)) ∧ s'.t.getP (Tr.path 7) = some (.int .i64 (pos L k : Int)) := by
    intro t q0 q1 q5 q7
    refine wp_loopF (fun j s' => ∃ i : Nat, j = L.length - i ∧ i ≤ pos L k ∧ s'.d = [] ∧ s'.H = H2 ∧ s'.t.getP (Tr.path 0) = some (.ptr (some ⟨rb, 0⟩)) ∧ s'.t.getP (Tr.path 1) = some (.int .i64 k) ∧ s'.t.getP (Tr.path 5) = some (.ptr (some ⟨.run H.next, 0⟩)) ∧ s'.t.getP (Tr.path 7) = some (.int .i64 (i : Int))) ?_ lf L.length _ ⟨0, rfl, by omega, rfl, rfl, q0, q1, q5, q7⟩ (by omega)
    rintro j ⟨t, HH, d⟩ ⟨i, rfl, hi, hd, hH, q0, q1, q5, q7⟩
    dsimp only at hd hH q0 q1 q5 q7
    subst hd; subst hH
    by_cases hlt : i < L.length
    · have hlt' : (i : Int) < (L.length : Int) := by omega
      have hle' : i + 1 ≤ L.length := hlt
      obtain ⟨n0, en, lk, _⟩ := rld_i h2 hlt
      rw [ev] at en
      cases en
      have hget : L[i]? = some L[i] := List.getElem?_eq_getElem hlt
      by_cases e : L[i].1 < k
      · have hne : i ≠ pos L k := fun e' => pos_ge (L := L) (k := k) (w := L[i]) (by rw [← e']; exact hget) e
        have w2 : IntKind.i64.wrap ((i : Int) + 1) = ((i + 1 : Nat) : Int) := by rw [wrap_i64 (by omega)]; omega
        simp only [c13_l0, q0, q1, q5, q7, lv, hlt', hle', lk, e, w2, sy, tup, ↓reduceIte, Nat.reduceEqDiff, Nat.reduceAdd, Nat.reduceSub, Nat.reduceMul, Nat.reduceDiv, Nat.reduceMod, Nat.reduceLeDiff, Int.reduceBEq, reduceCtorEq]
        exact ⟨L.length - (i + 1), by omega, i + 1, rfl, by omega, trivial, trivial, by simp [q0], by simp [q1], by simp [q5], by simp⟩
      · have hp : i = pos L k := by
          rcases Nat.lt_or_ge i (pos L k) with hlt2 | hge
          · exact absurd (pos_lt hlt2 hget) e
          · omega
        simp only [c13_l0, q0, q1, q5, q7, lv, hlt', hle', lk, e, sy, tup, ↓reduceIte, Nat.reduceEqDiff, Nat.reduceAdd, Nat.reduceSub, Nat.reduceMul, Nat.reduceDiv, Nat.reduceMod, Nat.reduceLeDiff, Int.reduceBEq, reduceCtorEq]
        rw [hp] at q7
        exact ⟨trivial, trivial, trivial, by first | trivial | exact q0, by first | trivial | exact q1, by first | trivial | exact q5, by simp [hp]⟩
    · have hp : i = pos L k := by omega
      have hnl : ¬ (i : Int) < (L.length : Int) := by omega
      simp only [c13_l0, q0, q1, q5, q7, lv, hnl, sy, tup, ↓reduceIte, Nat.reduceEqDiff, Nat.reduceAdd, Nat.reduceSub, Nat.reduceMul, Nat.reduceDiv, Nat.reduceMod, Nat.reduceLeDiff, Int.reduceBEq, reduceCtorEq]
      exact ⟨trivial, trivial, trivial, by first | trivial | exact q0, by first | trivial | exact q1, by first | trivial | exact q5, by simp [hp]⟩
  refine wp_ctx (F := fun r => seqC _ _ _ (blockC _ r)) (hloop _ ?_ ?_ ?_ ?_) ?_
  · simp only [sy, tup, ↓reduceIte, Nat.reduceEqDiff, Nat.reduceAdd, Nat.reduceSub, Nat.reduceMul, Nat.reduceDiv, Nat.reduceMod, Nat.reduceLeDiff, Int.reduceBEq, reduceCtorEq]
  · simp only [sy, tup, ↓reduceIte, Nat.reduceEqDiff, Nat.reduceAdd, Nat.reduceSub, Nat.reduceMul, Nat.reduceDiv, Nat.reduceMod, Nat.reduceLeDiff, Int.reduceBEq, reduceCtorEq]
  · simp only [sy, tup, ↓reduceIte, Nat.reduceEqDiff, Nat.reduceAdd, Nat.reduceSub, Nat.reduceMul, Nat.reduceDiv, Nat.reduceMod, Nat.reduceLeDiff, Int.reduceBEq, reduceCtorEq]
  · simp only [sy, tup, ↓reduceIte, Nat.reduceEqDiff, Nat.reduceAdd, Nat.reduceSub, Nat.reduceMul, Nat.reduceDiv, Nat.reduceMod, Nat.reduceLeDiff, Int.reduceBEq, reduceCtorEq]
  rintro x ⟨t, HH, d⟩ ⟨rfl, hd, hH, q0, q1, q5, q7⟩
  dsimp only at hd hH q0 q1 q5 q7
  subst hd; subst hH
  have t3 := (Turns.add Z HH (.rows false 65 [[.int .i64 0, .blk 0]])).setnew (Nat.le_refl _) (.rows false 65 [[.int .i64 k, .blk B]])
  have h3 := h2.turns t3 id (fun _ _ => id)
  have lv3 := rld_v h3
  rw [ev] at lv3
  have tz3 : Turns Z H _ := (t1.trans t2).trans t3
  have hcell : ((HH.add (.rows false 65 [[.int .i64 0, .blk 0]])).set (.run HH.next) (.rows false 65 [[.int .i64 k, .blk B]])).get (.run HH.next) = some (.rows false 65 [[.int .i64 k, .blk B]]) := by rw [Heap.get_set, if_pos rfl]
  have ocell : ((HH.add (.rows false 65 [[.int .i64 0, .blk 0]])).set (.run HH.next) (.rows false 65 [[.int .i64 k, .blk B]])).Old (.run HH.next) := by show _ < _; simp
  have lcell : loadAt ((HH.add (.rows false 65 [[.int .i64 0, .blk 0]])).set (.run HH.next) (.rows false 65 [[.int .i64 k, .blk B]])) ⟨.run HH.next, 0⟩ 65 = some [.int .i64 k, .blk B] := by rw [loadAt_eq hcell rfl]; exact cut_kb _ _
  generalize hH3 : (HH.add (.rows false 65 [[.int .i64 0, .blk 0]])).set (.run HH.next) (.rows false 65 [[.int .i64 k, .blk B]]) = H3 at *
  by_cases hpres : ∃ w, L[pos L k]? = some w ∧ w.1 = k
  · obtain ⟨w, hw, hwk⟩ := hpres
    have hgt : gt L k = some w.2 := by rw [gt_pos hR, hw]; simp [hwk]
    have hc : rcode m s r L k = 0 := by unfold rcode; rw [if_neg hrange, if_neg (by rw [hgt]; simp)]
    have hp : rput m s r L k B = insW L k B := if_pos hc
    rw [hc, hp, insW_set hw hwk]
    obtain ⟨hlt, hwe⟩ := List.getElem?_eq_some_iff.1 hw
    have hlt' : (pos L k : Int) < (L.length : Int) := by omega
    have hle' : pos L k + 1 ≤ L.length := hlt
    obtain ⟨n0, en, lk, _⟩ := rld_i h3 hlt
    rw [hwe, hwk] at lk
    rw [ev] at en
    cases en
    have hv3 : H3.get (.run n0) = some (.rows false 65 (rowsW L)) := by
      obtain ⟨n1, e1, _, _, hg⟩ := h3.lst.bof (c := .run n0) ⟨_, _, _, _, ev, rfl⟩
      exact hg
    have hst : storeAt H3 ⟨.run n0, pos L k * 65⟩ [.int .i64 k, .blk B] = some (H3.set (.run n0) (.rows false 65 (rowsW (L.set (pos L k) (k, B))))) := by
      have hrow : (rowsW L)[pos L k]? = some [.int .i64 w.1, .blk w.2] := by unfold rowsW; rw [List.getElem?_map, hw]; rfl
      rw [storeAt_eq hv3 (r := [.int .i64 w.1, .blk w.2]) (r' := [.int .i64 k, .blk B]) (nth_of (by rw [Nat.mul_div_cancel _ (by decide)]; exact hrow)) (by rw [Nat.mul_mod_left]; rfl), Nat.mul_div_cancel _ (by decide)]
      unfold rowsW
      rw [List.map_set]
    simp only [q0, q1, q5, q7, lB, hH3, lv3, hlt', hle', lk, lcell, hst, sy, tup, ↓reduceIte, Nat.reduceEqDiff, Nat.reduceAdd, Nat.reduceSub, Nat.reduceMul, Nat.reduceDiv, Nat.reduceMod, Nat.reduceLeDiff, Int.reduceBEq, reduceCtorEq]
    rw [endD_ok (by kernel_rfl) (by kernel_rfl)]
    simp only [sy, tup, ↓reduceIte, Nat.reduceEqDiff, Nat.reduceAdd, Nat.reduceSub, Nat.reduceMul, Nat.reduceDiv, Nat.reduceMod, Nat.reduceLeDiff, Int.reduceBEq, reduceCtorEq]
    have hbn : Bof v (.run n0) := ⟨_, _, _, _, ev, rfl⟩
    refine ⟨trivial, .inr trivial, _, rfl, rfl, v, ⟨?_, ?_, h3.base, ?_⟩, (wd tz3).setm (.inr hbn) _⟩
    · rw [Heap.get_set, if_neg (fun e => h3.sep h3.base (by rw [e]; exact hbn))]; exact h3.own
    · rcases h3.lst with ⟨_, e'⟩ | ⟨n1, hne, e', _, hb1, hb2⟩
      · rw [ev] at e'; cases e'
      · have hlr : (rowsW L).length = L.length := List.length_map ..
        rw [ev, hlr] at e'
        cases e'
        have hl : (rowsW (L.set (pos L k) (k, B))).length = (rowsW L).length := by unfold rowsW; simp
        refine .inr ⟨n0, fun e => hne (List.eq_nil_of_length_eq_zero (by rw [← hl, e]; rfl)), ?_, ?_, hb1, hb2⟩
        · rw [hl, ev]; unfold rowsW; simp
        · rw [Heap.get_set, if_pos rfl]
    · exact h3.nx
  · have habs : ∀ w, L[pos L k]? = some w → w.1 ≠ k := fun w hw e => hpres ⟨w, hw, e⟩
    have hgt : gt L k = none := by
      rw [gt_pos hR]
      cases hw : L[pos L k]? with
      | none => rfl
      | some w => simp [habs w hw]
    -- what stands at the place is another block
    have stand : ∀ {Q : X → St → Prop} , True := fun {_} => trivial
    by_cases h16 : 16 ≤ L.length
    · have hc : rcode m s r L k = 11 := by unfold rcode; rw [if_neg hrange, if_pos ⟨hgt, h16⟩]
      have hp : rput m s r L k B = L := if_neg (by rw [hc]; decide)
      rw [hc, hp]
      have h16' : (16 : Int) ≤ (L.length : Int) := by omega
      by_cases hlt : pos L k < L.length
      · have hlt' : (pos L k : Int) < (L.length : Int) := by omega
        have hle' : pos L k + 1 ≤ L.length := hlt
        obtain ⟨n0, en, lk, _⟩ := rld_i h3 hlt
        rw [ev] at en
        cases en
        have hne : (L[pos L k].1 == k) = false := by simp [habs _ (List.getElem?_eq_getElem hlt)]
        simp only [q0, q1, q5, q7, lB, hH3, lv3, hlt', hle', lk, hne, h16', sy, tup, ↓reduceIte, Nat.reduceEqDiff, Nat.reduceAdd, Nat.reduceSub, Nat.reduceMul, Nat.reduceDiv, Nat.reduceMod, Nat.reduceLeDiff, Int.reduceBEq, reduceCtorEq]
        exact ⟨trivial, .inr trivial, _, rfl, rfl, v, h3, wd tz3⟩
      · have hnl : ¬ (pos L k : Int) < (L.length : Int) := by omega
        simp only [q0, q1, q5, q7, lB, hH3, lv3, hnl, h16', sy, tup, ↓reduceIte, Nat.reduceEqDiff, Nat.reduceAdd, Nat.reduceSub, Nat.reduceMul, Nat.reduceDiv, Nat.reduceMod, Nat.reduceLeDiff, Int.reduceBEq, reduceCtorEq]
        exact ⟨trivial, .inr trivial, _, rfl, rfl, v, h3, wd tz3⟩
    · have hc : rcode m s r L k = 0 := by unfold rcode; rw [if_neg hrange, if_neg (fun e => h16 e.2)]
      have hp : rput m s r L k B = insW L k B := if_pos hc
      rw [hc, hp, insW_ins habs]
      have h16' : ¬ (16 : Int) ≤ (L.length : Int) := by omega
      have hLlt : L.length < 16 := by omega
      have bT := bounds_to hple
      have bF := bounds_from hple
      by_cases hlt : pos L k < L.length
      · have hlt' : (pos L k : Int) < (L.length : Int) := by omega
        have hle' : pos L k + 1 ≤ L.length := hlt
        have hle1 : 1 ≤ L.length := by omega
        obtain ⟨n0, en, lk, _⟩ := rld_i h3 hlt
        rw [ev] at en
        cases en
        have hv3 : ∀ H', Turns Z H3 H' → H'.get (.run n0) = some (.rows false 65 (rowsW L)) := fun H' t => by
          obtain ⟨n1, e1, _, _, hg⟩ := (h3.turns t id (fun _ _ => id)).lst.bof (c := .run n0) ⟨_, _, _, _, ev, rfl⟩
          exact hg
        have hne : (L[pos L k].1 == k) = false := by simp [habs _ (List.getElem?_eq_getElem hlt)]
        obtain ⟨v1, H4, v2, H6, p3, n3, c3, o3, H7, a1, a2, a3, a4, a5, a6, a7, a8⟩ := ins_ok h3 (k := k) (B := B) hple hLlt hcell ocell (fun _ => firstE_to (hv3 H3 (Turns.refl _ _)) hple L.length 65) (n2 := L.length - pos L k) rfl (fun H' t _ => firstE_from (hv3 H' t) hple (L.length - pos L k) 65)
        rw [ev] at a4
        simp only [q0, q1, q5, q7, lB, hH3, lv3, hlt', hle', hle1, lk, hne, h16', bT, bF, a1, a2, a3, a4, a5, a6, Nat.sub_zero, Nat.zero_mul, sy, tup, ↓reduceIte, Nat.reduceEqDiff, Nat.reduceAdd, Nat.reduceSub, Nat.reduceMul, Nat.reduceDiv, Nat.reduceMod, Nat.reduceLeDiff, Int.reduceBEq, reduceCtorEq]
        exact ⟨trivial, .inr trivial, _, rfl, rfl, _, a7, (wd tz3).trans (a8.wide (fun c hc => .inl hc))⟩
      · have hnl : ¬ (pos L k : Int) < (L.length : Int) := by omega
        have hpl : pos L k = L.length := by omega
        rcases h3.lst with ⟨hnil, e'⟩ | ⟨n0, hne, e', hv0, hb1, hb2⟩
        · have hLn : L = [] := by cases L with | nil => rfl | cons w l => simp [rowsW] at hnil
          subst hLn
          rw [ev] at e'
          cases e'
          obtain ⟨v1, H4, v2, H6, p3, n3, c3, o3, H7, a1, a2, a3, a4, a5, a6, a7, a8⟩ := ins_ok h3 (k := k) (B := B) hple hLlt hcell ocell (p1 := none) (c1 := 0) (o1 := 0) (fun e => absurd rfl e) (p2 := none) (n2 := 0) (c2 := 0) (o2 := 0) rfl (fun H' t e => absurd rfl e)
          rw [ev] at a4
          have e0 : pos [] k = 0 := rfl
          simp only [e0, List.length_nil] at q7 bT bF lv3 a1 a2 a3 a4 a5 a6
          have q7 : t.getP (Tr.path 7) = some (.int .i64 0) := q7
          have bT : bounds 0 0 none (some (.int .i64 0)) none = some (0, 0, 0) := bT
          have bF : bounds 0 0 (some (.int .i64 0)) none none = some (0, 0, 0) := bF
          have f1 : decide (((0 : Nat) : Int) < 0) = false := rfl
          have f2 : decide ((0 : Int) < 0) = false := rfl
          have f3 : decide ((0 : Int) < ((0 : Nat) : Int)) = false := rfl
          have f4 : decide ((16 : Int) ≤ ((0 : Nat) : Int)) = false := rfl
          have f5 : decide ((16 : Int) ≤ 0) = false := rfl
          simp only [q0, q1, q5, q7, lB, hH3, lv3, bT, bF, a1, a2, a3, a4, a5, a6, f1, f2, f3, f4, f5, Nat.sub_zero, Nat.zero_mul, sy, tup, ↓reduceIte, Nat.reduceEqDiff, Nat.reduceAdd, Nat.reduceSub, Nat.reduceMul, Nat.reduceDiv, Nat.reduceMod, Nat.reduceLeDiff, Int.reduceBEq, reduceCtorEq]
          exact ⟨trivial, .inr trivial, _, rfl, rfl, _, a7, (wd tz3).trans (a8.wide (fun c hc => .inl hc))⟩
        · have hLne : L ≠ [] := fun e => hne (by rw [e]; rfl)
          have hle1 : 1 ≤ L.length := by cases L with | nil => exact absurd rfl hLne | cons w l => simp
          have hlr : (rowsW L).length = L.length := List.length_map ..
          rw [ev, hlr] at e'
          cases e'
          have hs1 : ¬ (L.length + 1 ≤ L.length) := by omega
          obtain ⟨v1, H4, v2, H6, p3, n3, c3, o3, H7, a1, a2, a3, a4, a5, a6, a7, a8⟩ := ins_ok h3 (k := k) (B := B) hple hLlt hcell ocell (p1 := some ⟨.run n0, 0⟩) (c1 := L.length) (o1 := 65) (fun _ => firstE_to hv0 hple L.length 65) (p2 := none) (n2 := 0) (c2 := 0) (o2 := 1) (by omega) (fun H' t e => absurd rfl e)
          rw [ev] at a4
          simp only [hpl] at q7 bT bF a1 a2 a3 a4 a5 a6
          simp only [q0, q1, q5, q7, lB, hH3, lv3, hnl, hle1, hs1, h16', bT, bF, a1, a2, a3, a4, a5, a6, Int.lt_irrefl, Nat.sub_zero, Nat.zero_mul, sy, tup, ↓reduceIte, Nat.reduceEqDiff, Nat.reduceAdd, Nat.reduceSub, Nat.reduceMul, Nat.reduceDiv, Nat.reduceMod, Nat.reduceLeDiff, Int.reduceBEq, reduceCtorEq]
          exact ⟨trivial, .inr trivial, _, rfl, rfl, _, a7, (wd tz3).trans (a8.wide (fun c hc => .inl hc))⟩

end Go.Proofs.Ytpmdbbdidafehaa.draft

