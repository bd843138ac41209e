/-
  A bench in the machine's heap: how one is made.
-/
import Derived.Test.YtcelngepfdchiaaBench4
import Derived.Test.YtcelngepfdchiaaDisk6
set_option linter.unusedVariables false
set_option linter.unusedSectionVars false
set_option linter.unusedSimpArgs false
set_option maxRecDepth 10000
namespace Go.Proofs.Ytcelngepfdchiaa.disk
open Go.Am

noncomputable def c45_l0 : C := .seq (.reg [
     ⟨(some (Tr.path 22)), (some (.p (arF .lss (.t (Tr.path 21)) (.t (Tr.path 20))))), none, [Tr.path 21, Tr.path 20]⟩]) (
    .seq (.cond (.t (Tr.path 22)) (.skip) (.exit 0)) (
    .seq (.block 1 (.seq (.reg [
       ⟨(some (Tr.path 23)), (some (.p (iaddrSF (.t (Tr.path 19)) (.t (Tr.path 21)) 1))), none, [Tr.path 19, Tr.path 21]⟩,
       ⟨(some (Tr.path 24)), (some (.r (loadF (.t (Tr.path 23)) 1 .sc))), none, [Tr.path 23]⟩,
       ⟨(some (Tr.path 6)), (some (.p (S.get (.t (Tr.path 24))))), none, [Tr.path 24]⟩]) (
      .seq (.reg [
       ⟨(some (Tr.path 26)), (some (.p (S.get (.t (Tr.path 6))))), none, [Tr.path 6]⟩,
       ⟨(some (Tr.path 27)), (some (.c (callF (.c (.func (.func 23) [] [])) [(.t (Tr.path 26))]))), none, [Tr.path 26]⟩,
       ⟨(some (Tr.path 25)), (some (.p (S.get (.t (Tr.path 27))))), none, [Tr.path 27]⟩,
       ⟨(some (Tr.path 28)), (some (.p (extF (.t (Tr.path 25)) 0))), none, [Tr.path 25]⟩,
       ⟨(some (Tr.path 29)), (some (.p (extF (.t (Tr.path 25)) 1))), none, [Tr.path 25]⟩,
       ⟨(some (Tr.path 7)), (some (.p (S.get (.t (Tr.path 28))))), none, [Tr.path 28]⟩,
       ⟨(some (Tr.path 8)), (some (.p (S.get (.t (Tr.path 29))))), none, [Tr.path 29]⟩]) (
      .seq (.seq (.reg [
        ⟨(some (Tr.path 30)), (some (.p (S.get (.t (Tr.path 8))))), none, [Tr.path 8]⟩,
        ⟨(some (Tr.path 31)), (some (.p (eqcF true false [.int .i64] (.t (Tr.path 30)) (.c (.int .i64 0))))), none, [Tr.path 30]⟩]) (
       .cond (.t (Tr.path 31)) (.seq (.reg [
          ⟨(some (Tr.path 32)), (some (.p (S.get (.t (Tr.path 8))))), none, [Tr.path 8]⟩,
          ⟨(some (Tr.path 2)), (some (.p (S.get (.c (.ptr none))))), none, []⟩,
          ⟨(some (Tr.path 3)), (some (.p (S.get (.t (Tr.path 32))))), none, [Tr.path 32]⟩]) (
         .ret)) (.skip))) (
      .reg [
      ⟨(some (Tr.path 33)), (some (.p (S.get (.t (Tr.path 4))))), none, [Tr.path 4]⟩,
      ⟨(some (Tr.path 34)), (some (.p (S.get (.t (Tr.path 4))))), none, [Tr.path 4]⟩,
      ⟨(some (Tr.path 35)), (some (.p (nilcF (.t (Tr.path 34))))), none, [Tr.path 34]⟩,
      ⟨(some (Tr.path 36)), (some (.p (faddrF (.t (Tr.path 35)) 0))), none, [Tr.path 35]⟩,
      ⟨(some (Tr.path 37)), (some (.r (loadF (.t (Tr.path 36)) 1 .sc))), none, [Tr.path 36]⟩,
      ⟨(some (Tr.path 38)), (some (.p (S.get (.t (Tr.path 7))))), none, [Tr.path 7]⟩,
      ⟨(some (Tr.path 39)), (some (.m (bsliceF 1 1 [.ptr none] [(0, 1, (.t (Tr.path 38)))]))), none, [Tr.path 38]⟩,
      ⟨(some (Tr.path 40)), (some (.a (appF 1 8 (.t (Tr.path 37)) (.t (Tr.path 39))))), none, [Tr.path 37, Tr.path 39]⟩,
      ⟨(some (Tr.path 41)), (some (.p (nilcF (.t (Tr.path 33))))), none, [Tr.path 33]⟩,
      ⟨(some (Tr.path 42)), (some (.p (faddrF (.t (Tr.path 41)) 0))), none, [Tr.path 41]⟩,
      ⟨none, (some (.a (storeF (.t (Tr.path 42)) (.t (Tr.path 40)) 1))), none, [Tr.path 42, Tr.path 40]⟩]))))) (
    .reg [
    ⟨(some (Tr.path 43)), (some (.p (arF .add (.t (Tr.path 21)) (.c (.int .i64 1))))), none, [Tr.path 21]⟩,
    ⟨(some (Tr.path 21)), (some (.p (S.get (.t (Tr.path 43))))), none, [Tr.path 43]⟩])))
/-- ashlar/bench.New -/
noncomputable def c45 : CFn := ⟨[.tmp (Tr.path 2), .tmp (Tr.path 3)],
 .seq (.reg [
  ⟨(some (Tr.path 2)), (some (.p (S.get (.c (.ptr none))))), none, []⟩,
  ⟨(some (Tr.path 3)), (some (.p (S.get (.c (.int .i64 0))))), none, []⟩]) (
 .seq (.seq (.reg [
   ⟨(some (Tr.path 9)), (some (.p (S.get (.t (Tr.path 0))))), none, [Tr.path 0]⟩,
   ⟨(some (Tr.path 10)), (some (.p (lenF (.t (Tr.path 9))))), none, [Tr.path 9]⟩,
   ⟨(some (Tr.path 11)), (some (.p (arF .lss (.t (Tr.path 10)) (.c (.int .i64 1))))), none, [Tr.path 10]⟩,
   ⟨(some (Tr.path 12)), (some (.p (S.get (.t (Tr.path 11))))), none, [Tr.path 11]⟩,
   ⟨(some (Tr.path 13)), (some (.p (S.get (.t (Tr.path 0))))), (some (some (Tr.path 12), false)), [Tr.path 0]⟩,
   ⟨(some (Tr.path 14)), (some (.p (lenF (.t (Tr.path 13))))), (some (some (Tr.path 12), false)), [Tr.path 13]⟩,
   ⟨(some (Tr.path 15)), (some (.p (arF .gtr (.t (Tr.path 14)) (.c (.int .i64 17))))), (some (some (Tr.path 12), false)), [Tr.path 14]⟩,
   ⟨(some (Tr.path 16)), (some (.p (pickF (.t (Tr.path 12)) (.c (.bool true)) (.t (Tr.path 15))))), none, [Tr.path 12, Tr.path 15]⟩]) (
  .cond (.t (Tr.path 16)) (.seq (.reg [
     ⟨(some (Tr.path 2)), (some (.p (S.get (.c (.ptr none))))), none, []⟩,
     ⟨(some (Tr.path 3)), (some (.p (S.get (.c (.int .i64 2))))), none, []⟩]) (
    .ret)) (.skip))) (
 .seq (.reg [
  ⟨(some (Tr.path 17)), (some (.p (buildF [.slice none 0 0 0, .int .i64 0, .int .i64 0, .bool false] .ag []))), none, []⟩,
  ⟨(some (Tr.path 18)), (some (.m (boxF 4 (.t (Tr.path 17))))), none, [Tr.path 17]⟩,
  ⟨(some (Tr.path 4)), (some (.p (S.get (.t (Tr.path 18))))), none, [Tr.path 18]⟩]) (
 .seq (.seq (.reg [
   ⟨(some (Tr.path 19)), (some (.p (S.get (.t (Tr.path 0))))), none, [Tr.path 0]⟩,
   ⟨(some (Tr.path 20)), (some (.p (lenF (.t (Tr.path 19))))), none, [Tr.path 19]⟩,
   ⟨(some (Tr.path 21)), (some (.p (S.get (.c (.int .i64 0))))), none, []⟩]) (
  .block 0 (.loop c45_l0))) (
 .seq (.reg [
  ⟨(some (Tr.path 44)), (some (.p (S.get (.t (Tr.path 4))))), none, [Tr.path 4]⟩,
  ⟨(some (Tr.path 2)), (some (.p (S.get (.t (Tr.path 44))))), none, [Tr.path 44]⟩,
  ⟨(some (Tr.path 3)), (some (.p (S.get (.c (.int .i64 0))))), none, []⟩]) (
 .ret)))))⟩
theorem c45_eq : fnOf Try.prog 45 = some c45 := by kernel_rfl

def ptrRows (l : List Dv) : List (List V) := l.map fun x => [.ptr (some ⟨x.b, 0⟩)]

theorem app_ptr {H : Heap} {p : Option Ptr} {o : Nat} {l : List Dv} {x c : Bk} (h0 : l = [] → p = none ∧ o = 0) (h1 : l ≠ [] → ∃ ds, p = some ⟨ds, 0⟩ ∧ o = 1 ∧ H.get ds = some (.rows false 1 (ptrRows l))) (hx : H.get x = some (.rows false 1 [[.ptr (some ⟨c, 0⟩)]])) (hmax : l.length < 1000000) :
    appendV 1 8 H (.slice p l.length l.length o) (.slice (some ⟨x, 0⟩) 1 1 0) = some (.slice (some ⟨.run H.next, 0⟩) (l.length + 1) (l.length + 1) 1, (killP H p).add (.rows false 1 (ptrRows l ++ [[.ptr (some ⟨c, 0⟩)]]))) := by
  have he : elems H x 1 1 0 = some [[.ptr (some ⟨c, 0⟩)]] := by
    simp only [elems]
    rw [loadAt_eq hx (r := [.ptr (some ⟨c, 0⟩)]) rfl]
    rfl
  by_cases hP : l = []
  · obtain ⟨rfl, rfl⟩ := h0 hP
    subst hP
    simp only [appendV, lenOf, nbeq, nble, firstE, he]
    simp [elems, ptrRows, killP]
  · obtain ⟨d, rfl, rfl, hg⟩ := h1 hP
    have hlen : (ptrRows l).length = l.length := by simp [ptrRows]
    simp only [appendV, lenOf, nbeq, nble, firstE, he, hg]
    have e1 : (l.length + 1) * 8 ≤ 1099511627776 := by omega
    have e2 : l.length + 1 ≤ 1099511627776 := by omega
    simp [B9, B8, Cb, e1, e2, hlen, killP, Nat.mod_one]

/-- a list of devices that grows -/
structure Grow (H0 H : Heap) (b : Bk) (p : Option Ptr) (o : Nat) (l : List Dv) (r1 r2 r3 : V) : Prop where
  own : H.get b = some (.rows false 4 [[.slice p l.length l.length o, r1, r2, r3]])
  nil : l = [] → p = none ∧ o = 0
  ptrs : l ≠ [] → ∃ ds, p = some ⟨ds, 0⟩ ∧ o = 1 ∧ H.get ds = some (.rows false 1 (ptrRows l)) ∧ H.Old ds ∧ ds ≠ b ∧ ¬ H0.Old ds ∧ ∀ x ∈ l, ¬ x.foot ds
  dev : ∀ x ∈ l, DevAt H x.b x.y x.D
  sep : l.Pairwise fun x z => Sep x.b x.y x.D z.b z.y z.D
  out : ∀ x ∈ l, ¬ x.foot b
  old : H.Old b
  new : ¬ H0.Old b
  fresh : ∀ x ∈ l, Fresh H0 x.b x.y x.D
  t : Turns Z H0 H

theorem killP_turns (H : Heap) {p : Option Ptr} {X : Bk → Prop} (h : ∀ q, p = some q → X q.b) : Turns X H (killP H p) := by
  cases p with
  | none => exact Turns.refl X H
  | some q => exact Turns.set (h q rfl) _ _
theorem killP_next (H : Heap) (p : Option Ptr) : (killP H p).next = H.next := by cases p <;> rfl

theorem Grow.load {H0 H H1 : Heap} {b : Bk} {p : Option Ptr} {o : Nat} {l : List Dv} {r1 r2 r3 : V} (h : Grow H0 H b p o l r1 r2 r3) (t : Turns Z H H1) : loadAt H1 ⟨b, 0⟩ 1 = some [.slice p l.length l.length o] := by
  rw [loadAt_eq ((t.same _ h.old id).trans h.own) (r := [.slice p l.length l.length o, r1, r2, r3]) rfl]; rfl

/-- one more -/
theorem Grow.step {H0 H H1 : Heap} {b : Bk} {p : Option Ptr} {o : Nat} {l : List Dv} {r1 r2 r3 : V} (h : Grow H0 H b p o l r1 r2 r3) (t : Turns Z H H1) {c : Bk} {y : Lay} {D : Dev} (hD : DevAt H1 c y D) (hF : Fresh H c y D) (hmax : l.length < 1000000) :
    ∃ H3 H4 ds, appendV 1 8 (H1.add (.rows false 1 [[.ptr (some ⟨c, 0⟩)]])) (.slice p l.length l.length o) (.slice (some ⟨.run H1.next, 0⟩) 1 1 0) = some (.slice (some ⟨ds, 0⟩) (l.length + 1) (l.length + 1) 1, H3) ∧
      storeAt H3 ⟨b, 0⟩ [.slice (some ⟨ds, 0⟩) (l.length + 1) (l.length + 1) 1] = some H4 ∧ Grow H0 H4 b (some ⟨ds, 0⟩) 1 (l ++ [⟨c, y, D⟩]) r1 r2 r3 := by
  have t2 : Turns Z H (H1.add (.rows false 1 [[.ptr (some ⟨c, 0⟩)]])) := t.addm _
  have hx : (H1.add (.rows false 1 [[.ptr (some ⟨c, 0⟩)]])).get (.run H1.next) = some (.rows false 1 [[.ptr (some ⟨c, 0⟩)]]) := by rw [Heap.get_add, if_pos rfl]
  have hD2 := hD.turns (Turns.add Z H1 (.rows false 1 [[.ptr (some ⟨c, 0⟩)]])) id id (fun _ => id)
  have hn1 := t.next
  have hn2 : (H1.add (.rows false 1 [[.ptr (some ⟨c, 0⟩)]])).next = H1.next + 1 := rfl
  generalize H1.add (.rows false 1 [[.ptr (some ⟨c, 0⟩)]]) = H2 at t2 hx hD2 hn2
  have ha := app_ptr (H := H2) (x := .run H1.next) (c := c) h.nil (fun e => by
    obtain ⟨ds, h1, h2, h3, h4, _⟩ := h.ptrs e
    exact ⟨ds, h1, h2, (t2.same _ h4 id).trans h3⟩) hx hmax
  have hX : ∀ q, p = some q → H.Old q.b ∧ q.b ≠ b ∧ ¬ H0.Old q.b ∧ (∀ x ∈ l, ¬ x.foot q.b) := by
    intro q hq
    by_cases e : l = []
    · rw [(h.nil e).1] at hq; cases hq
    · obtain ⟨ds, h1, _, _, h4, h5, h6, h7⟩ := h.ptrs e
      rw [h1] at hq; cases hq
      exact ⟨h4, h5, h6, h7⟩
  have tk : Turns (fun c => ∃ q, p = some q ∧ c = q.b) H2 (killP H2 p) := killP_turns H2 (fun q hq => ⟨q, hq, rfl⟩)
  have hkn := killP_next H2 p
  have t3 := tk.addm (.rows false 1 (ptrRows l ++ [[.ptr (some ⟨c, 0⟩)]]))
  have hds : ((killP H2 p).add (.rows false 1 (ptrRows l ++ [[.ptr (some ⟨c, 0⟩)]]))).get (.run H2.next) = some (.rows false 1 (ptrRows l ++ [[.ptr (some ⟨c, 0⟩)]])) := by rw [Heap.get_add, if_pos (by rw [hkn])]
  have hdo : ((killP H2 p).add (.rows false 1 (ptrRows l ++ [[.ptr (some ⟨c, 0⟩)]]))).Old (.run H2.next) := by show _ < _; simp [hkn]
  generalize (killP H2 p).add (.rows false 1 (ptrRows l ++ [[.ptr (some ⟨c, 0⟩)]])) = H3 at ha t3 hds hdo
  have hb2 : H2.Old b := h.old.mono t2.next
  have hbk : ¬ ∃ q, p = some q ∧ b = q.b := fun ⟨q, hq, e⟩ => (hX q hq).2.1 e.symm
  have hown3 : H3.get b = some (.rows false 4 [[.slice p l.length l.length o, r1, r2, r3]]) := (t3.same _ hb2 hbk).trans ((t2.same _ h.old id).trans h.own)
  have hst : storeAt H3 ⟨b, 0⟩ [.slice (some ⟨.run H2.next, 0⟩) (l.length + 1) (l.length + 1) 1] = some (H3.set b (.rows false 4 [[.slice (some ⟨.run H2.next, 0⟩) (l.length + 1) (l.length + 1) 1, r1, r2, r3]])) := storeAt_eq hown3 (r := [.slice p l.length l.length o, r1, r2, r3]) rfl rfl
  have t4 : Turns (fun x => x = b) H3 (H3.set b (.rows false 4 [[.slice (some ⟨.run H2.next, 0⟩) (l.length + 1) (l.length + 1) 1, r1, r2, r3]])) := Turns.set (X := fun x => x = b) rfl _ _
  have hno : ¬ H2.Old (.run H2.next) := Heap.not_old (Nat.le_refl _)
  have hnb : (Bk.run H2.next) ≠ b := fun e => hno (by rw [e]; exact hb2)
  have cold := hD2.foot_old
  refine ⟨H3, _, .run H2.next, ha, hst, ⟨?_, fun e => absurd e (by simp), fun _ => ⟨.run H2.next, rfl, rfl, ?_, ?_, hnb, fun e => hno (e.mono (Nat.le_trans h.t.next t2.next)), ?_⟩, ?_, ?_, ?_, ?_, h.new, ?_, ?_⟩⟩
  · rw [Heap.get_set, if_pos rfl]; simp
  · rw [Heap.get_set, if_neg hnb, hds]; simp [ptrRows]
  · simp only [Heap.old_set]; exact hdo
  · intro x hx hf
    rcases List.mem_append.1 hx with hx | hx
    · exact hno ((h.dev x hx).foot_old _ hf |>.mono t2.next)
    · rw [List.mem_singleton.1 hx] at hf; exact hno (cold _ hf)
  · have key : ∀ (x : Dv), DevAt H2 x.b x.y x.D → (∀ q, p = some q → ¬ x.foot q.b) → ¬ x.foot b → DevAt (H3.set b (.rows false 4 [[.slice (some ⟨.run H2.next, 0⟩) (l.length + 1) (l.length + 1) 1, r1, r2, r3]])) x.b x.y x.D := by
      intro x hx hq hb
      have g := hx.turns t3 (fun ⟨q, hp, e⟩ => hq q hp (.inl e.symm)) (fun ⟨q, hp, e⟩ => hq q hp (.inr (.inl e.symm))) (fun hl ⟨q, hp, e⟩ => hq q hp (.inr (.inr ⟨hl, e.symm⟩)))
      exact g.turns t4 (fun e => hb (.inl e.symm)) (fun e => hb (.inr (.inl e.symm))) (fun hl e => hb (.inr (.inr ⟨hl, e.symm⟩)))
    intro x hx
    rcases List.mem_append.1 hx with hx | hx
    · exact key x ((h.dev x hx).turns t2 id id (fun _ => id)) (fun q hq => (hX q hq).2.2.2 x hx) (h.out x hx)
    · rw [List.mem_singleton.1 hx]
      exact key _ hD2 (fun q hq hf => hF.foot _ hf (hX q hq).1) (fun hf => hF.foot _ hf h.old)
  · rw [List.pairwise_append]
    refine ⟨h.sep, List.pairwise_singleton _ _, fun x hx z hz => ?_⟩
    rw [List.mem_singleton.1 hz]
    exact sep_fresh (h.dev x hx) hF
  · intro x hx
    rcases List.mem_append.1 hx with hx | hx
    · exact h.out x hx
    · rw [List.mem_singleton.1 hx]; exact fun hf => hF.foot _ hf h.old
  · simp only [Heap.old_set]; exact hb2.mono t3.next
  · intro x hx
    rcases List.mem_append.1 hx with hx | hx
    · exact h.fresh x hx
    · rw [List.mem_singleton.1 hx]
      exact ⟨fun e => hF.b (e.mono h.t.next), fun e => hF.s (e.mono h.t.next), fun hl e => hF.l hl (e.mono h.t.next)⟩
  · have ta := Turns.after (h.t.trans t2) t3 (fun x hx ⟨q, hq, e⟩ => (hX q hq).2.2.1 (by rw [← e]; exact hx))
    exact Turns.after ta t4 (fun x hx e => h.new (by rw [← e]; exact hx))

/-- a bench that is grown -/
theorem Grow.rep {H0 H : Heap} {b : Bk} {p : Option Ptr} {o : Nat} {l : List Dv} {r : Bool} {B : Bn} (h : Grow H0 H b p o l (n1 r B) (n2 r B) (n3 r B)) (hl : l ≠ []) (hm : l.map Dv.D = B.l) : ∃ ds, p = some ⟨ds, 0⟩ ∧ o = 1 ∧ Rep r H b ds 1 l B ∧ ∀ c, BFoot b ds l c → ¬ H0.Old c := by
  obtain ⟨ds, rfl, rfl, h3, h4, h5, h6, h7⟩ := h.ptrs hl
  refine ⟨ds, rfl, rfl, ⟨⟨h.own, h3, fun i hi => h.dev _ (List.getElem_mem hi), ?_, ⟨h.old, h4⟩, fun e => h5 e.symm, fun i hi => ⟨h.out _ (List.getElem_mem hi), h7 _ (List.getElem_mem hi)⟩⟩, hm⟩, ?_⟩
  · intro i j hi hj hij
    have hp := List.pairwise_iff_getElem.1 h.sep
    rcases Nat.lt_or_gt_of_ne hij with e | e
    · exact hp i j hi hj e
    · exact (hp j i hj hi e).symm
  · rintro c (rfl | rfl | ⟨x, hx, hc⟩)
    · exact h.new
    · exact h6
    · exact (h.fresh x hx).foot c hc

theorem dnew_err (H : Heap) {n : Int} (h : n < 1 ∨ 512 < n) (lf m : Nat) : callS Try.prog S0 lf (m + 1) 23 [.int .i64 n] H = some (.v (.tuple [.ptr none, .int .i64 2]), H) := by
  obtain ⟨v, H', e, rfl, rfl⟩ : ret (callS Try.prog S0 lf (m + 1) 23 [.int .i64 n] H) fun v H' => v = .tuple [.ptr none, .int .i64 2] ∧ H' = H := by
    refine ret_call rfl c23_eq ?_
    by_cases h1 : n < 1
    · simp only [c23, h1, Aa, Ab, Ad, Ae, Af, Ag, Ah, Ai, Aj, Ak, Al, Ao, Ap, Aq, Ar, Au, sO_p, sO_r, sO_m, sO_a, sO_c, Av, Aw, Ax, Ay, Az, sE_p, sE_r, sE_m, sE_a, sE_c, A0, A2, A3, A4, A5, A6, A7, A8, A9, Ba, Bb, Bc, Bd, Be, Bf, Bg, Bh, Bi, Bj, Bl, Bm, Bo, Bp, Bq, Br, Bs, Bt, Bu, Bv, Tr.getP_e, Bw, Bx, ↓reduceIte, Nat.reduceEqDiff, Nat.reduceAdd, Nat.reduceSub, Nat.reduceMul, Nat.reduceDiv, Nat.reduceMod, Nat.zero_add, Nat.add_zero, beq_self_eq_true, Nat.zero_ne_one, Nat.one_ne_zero, Nat.reduceLeDiff, Int.reduceBEq, constF, unF, unary,  pickF, nilcF, faddrF, fldF, iaddrSF, arF, Bz, B3, B4, B5, B6, B7, convF, extF, lenF, eqcF, eqnF, eqN, eqPtr, isNone, loadF, storeF, allocF, callF, gets, Option.map_some, Option.bind_some, B8, B9, Ca, Cb, Cc, nbeq, nble, Cd, Ce, Cf, Cg, Ch, Ci, Cj, Ck, Cl, Cm, Cn, Co, Cp, Cq, Cr, Cs, Ct, Cu, Cv, Cw, Cx, V.w, width, unc, cmpCells, Cy, Cz, C6, C7, C8, Da, undef, List.append_nil, List.nil_append, List.cons_append, Db, Dc, resultsV, result, tup, Dd, Bool.and_true, Bool.true_and, Bool.and_self, decide_true, decide_false, Bool.not_true, Bool.not_false, Bool.true_beq, Bool.false_beq, beq_iff_eq, reduceCtorEq, Nat.succ_eq_add_one, ptr0, Int.ofNat_eq_natCast, Int.ofNat_le, Int.ofNat_lt, Int.natCast_add, De, Df, Dg, Dh, Di, List.map_cons, List.map_nil, Dj, Heap.next_add, Heap.next_set, boxF, buildF, fill, bsliceF, fillRows, List.replicate_one, Dk, Dl, Dm, Dn, Dp, Dq, Dr, Ds, Dt, Du, Dw, Dx, Dy, Dz, D2, D3, D4, D5, D6, D7, D8, D9, Ea, Eb, Ec, appF, List.length_cons, List.length_nil]
      exact ⟨trivial, .inr trivial, _, rfl, rfl, trivial⟩
    · have h2 : 512 < n := by omega
      simp only [c23, h1, h2, Aa, Ab, Ad, Ae, Af, Ag, Ah, Ai, Aj, Ak, Al, Ao, Ap, Aq, Ar, Au, sO_p, sO_r, sO_m, sO_a, sO_c, Av, Aw, Ax, Ay, Az, sE_p, sE_r, sE_m, sE_a, sE_c, A0, A2, A3, A4, A5, A6, A7, A8, A9, Ba, Bb, Bc, Bd, Be, Bf, Bg, Bh, Bi, Bj, Bl, Bm, Bo, Bp, Bq, Br, Bs, Bt, Bu, Bv, Tr.getP_e, Bw, Bx, ↓reduceIte, Nat.reduceEqDiff, Nat.reduceAdd, Nat.reduceSub, Nat.reduceMul, Nat.reduceDiv, Nat.reduceMod, Nat.zero_add, Nat.add_zero, beq_self_eq_true, Nat.zero_ne_one, Nat.one_ne_zero, Nat.reduceLeDiff, Int.reduceBEq, constF, unF, unary,  pickF, nilcF, faddrF, fldF, iaddrSF, arF, Bz, B3, B4, B5, B6, B7, convF, extF, lenF, eqcF, eqnF, eqN, eqPtr, isNone, loadF, storeF, allocF, callF, gets, Option.map_some, Option.bind_some, B8, B9, Ca, Cb, Cc, nbeq, nble, Cd, Ce, Cf, Cg, Ch, Ci, Cj, Ck, Cl, Cm, Cn, Co, Cp, Cq, Cr, Cs, Ct, Cu, Cv, Cw, Cx, V.w, width, unc, cmpCells, Cy, Cz, C6, C7, C8, Da, undef, List.append_nil, List.nil_append, List.cons_append, Db, Dc, resultsV, result, tup, Dd, Bool.and_true, Bool.true_and, Bool.and_self, decide_true, decide_false, Bool.not_true, Bool.not_false, Bool.true_beq, Bool.false_beq, beq_iff_eq, reduceCtorEq, Nat.succ_eq_add_one, ptr0, Int.ofNat_eq_natCast, Int.ofNat_le, Int.ofNat_lt, Int.natCast_add, De, Df, Dg, Dh, Di, List.map_cons, List.map_nil, Dj, Heap.next_add, Heap.next_set, boxF, buildF, fill, bsliceF, fillRows, List.replicate_one, Dk, Dl, Dm, Dn, Dp, Dq, Dr, Ds, Dt, Du, Dw, Dx, Dy, Dz, D2, D3, D4, D5, D6, D7, D8, D9, Ea, Eb, Ec, appF, List.length_cons, List.length_nil]
      exact ⟨trivial, .inr trivial, _, rfl, rfl, trivial⟩
  exact e

def okSizes (P : List Int) : Prop := 1 ≤ P.length ∧ P.length ≤ 17 ∧ ∀ n ∈ P, 1 ≤ n ∧ n ≤ 512
def newB (P : List Int) : Bn := ⟨P.map fun n => blank n.toNat, 0, 0, false⟩

theorem grow0 (H : Heap) (r1 r2 r3 : V) : Grow H (H.add (.rows false 4 [[.slice none 0 0 0, r1, r2, r3]])) (.run H.next) none 0 [] r1 r2 r3 :=
  ⟨by rw [Heap.get_add, if_pos rfl]; rfl, fun _ => ⟨rfl, rfl⟩, fun e => absurd rfl e, fun x hx => absurd hx (by simp), List.Pairwise.nil, fun x hx => absurd hx (by simp), by show _ < _; simp, Heap.not_old (Nat.le_refl _), fun x hx => absurd hx (by simp), Turns.add Z H _⟩

/-- what New answers -/
def Newed (r : Bool) (P : List Int) (H : Heap) (v : V) (H' : Heap) : Prop :=
  Turns Z H H' ∧ ((¬ okSizes P ∧ v = .tuple [.ptr none, .int .i64 2]) ∨ (okSizes P ∧ ∃ b ds l, v = .tuple [.ptr (some ⟨b, 0⟩), .int .i64 0] ∧ Rep r H' b ds 1 l (newB P) ∧ ∀ c, BFoot b ds l c → ¬ H.Old c))

theorem bnew_all (H : Heap) {pp : Option Ptr} {P : List Int} {pc po : Nat} (hP : PicksAt H pp P Z) {lf : Nat} (hlf : 1000 < lf) (m : Nat) :
    ret (callS Try.prog S0 lf (m + 2) 45 [.slice pp P.length pc po] H) (Newed false P H) := by
  refine ret_call rfl c45_eq ?_
  by_cases hlen : 1 ≤ P.length ∧ P.length ≤ 17
  · obtain ⟨g1, g2⟩ := hlen
    have g1' : ¬ ((P.length : Int) < 1) := by omega
    have g2' : ¬ (17 < (P.length : Int)) := by omega
    have G0 := grow0 H (.int .i64 0) (.int .i64 0) (.bool false)
    have hloop : ∀ t : T, t.getP (Tr.path 4) = some (.ptr (some ⟨.run H.next, 0⟩)) → t.getP (Tr.path 19) = some (.slice pp P.length pc po) → t.getP (Tr.path 20) = some (.int .i64 (P.length : Int)) → t.getP (Tr.path 21) = some (.int .i64 0) →
        wp (loopF (runC (callS Try.prog S0 lf (m + 1)) lf c45_l0) lf ⟨t, H.add (.rows false 4 [[.slice none 0 0 0, .int .i64 0, .int .i64 0, .bool false]]), []⟩) fun x s =>
          s.d = [] ∧ ((x = .ret ∧ ¬ okSizes P ∧ s.t.getP (Tr.path 2) = some (.ptr none) ∧ s.t.getP (Tr.path 3) = some (.int .i64 2) ∧ Turns Z H s.H) ∨ (x = .ex 0 ∧ s.t.getP (Tr.path 4) = some (.ptr (some ⟨.run H.next, 0⟩)) ∧ okSizes P ∧ ∃ p o l, Grow H s.H (.run H.next) p o l (.int .i64 0) (.int .i64 0) (.bool false) ∧ l.map Dv.D = P.map (fun n => blank n.toNat))) := by
      intro t q4 q19 q20 q21
      refine wp_loopF (fun k s => ∃ i p o l, i + k = P.length ∧ s.d = [] ∧ s.t.getP (Tr.path 4) = some (.ptr (some ⟨.run H.next, 0⟩)) ∧ s.t.getP (Tr.path 19) = some (.slice pp P.length pc po) ∧ s.t.getP (Tr.path 20) = some (.int .i64 (P.length : Int)) ∧ s.t.getP (Tr.path 21) = some (.int .i64 ((i : Nat) : Int)) ∧ Grow H s.H (.run H.next) p o l (.int .i64 0) (.int .i64 0) (.bool false) ∧ l.map Dv.D = (P.take i).map (fun n => blank n.toNat) ∧ ∀ n ∈ P.take i, 1 ≤ n ∧ n ≤ 512) ?_ lf P.length _ ⟨0, none, 0, [], by omega, rfl, q4, q19, q20, q21, G0, rfl, fun n hn => absurd hn (by simp)⟩ (by omega)
      rintro k ⟨t, HH, d⟩ ⟨i, p, o, l, hi, rfl, q4, q19, q20, q21, hG, hm, hok⟩
      dsimp only at q4 q19 q20 q21 hG
      by_cases hiP : i < P.length
      · obtain ⟨x, ox, hpx, l1⟩ := (hP.turns hG.t).load hiP
        rw [hpx] at q19
        have hi1 : i + 1 ≤ P.length := hiP
        have hw : IntKind.i64.wrap ((i : Int) + 1) = ((i + 1 : Nat) : Int) := by rw [wrap_i64 (by omega)]; rfl
        have hw' : IntKind.i64.wrap ((i : Int) + 1) = (i : Int) + 1 := wrap_i64 (by omega)
        by_cases hn : 1 ≤ P[i] ∧ P[i] ≤ 512
        · obtain ⟨v, H1, e1, rfl, hD, t1⟩ := new_ok HH (n := P[i].toNat) (by omega) (by omega) lf m
          rw [show ((P[i].toNat : Nat) : Int) = P[i] from by omega] at e1
          have hF : Fresh HH (.run (HH.next + 1)) ⟨.run HH.next, 0, .run HH.next, none, 0⟩ (blank P[i].toNat) := ⟨Heap.not_old (by omega), Heap.not_old (Nat.le_refl _), fun e => absurd rfl e⟩
          have hll : l.length = i := by have := congrArg List.length hm; simpa [Nat.min_eq_left (Nat.le_of_lt hiP)] using this
          obtain ⟨H3, H4, ds, ha, hs, hG'⟩ := hG.step t1 hD hF (by omega)
          have l0 := hG.load t1
          have l0' := hG.load (t1.addm (.rows false 1 [[.ptr (some ⟨.run (HH.next + 1), 0⟩)]]))
          simp only [c45_l0, q4, q19, q20, q21, hiP, hi1, l1, e1, l0, l0', ha, hs, hw', Nat.mul_one, Aa, Ab, Ad, Ae, Af, Ag, Ah, Ai, Aj, Ak, Al, Ao, Ap, Aq, Ar, Au, sO_p, sO_r, sO_m, sO_a, sO_c, Av, Aw, Ax, Ay, Az, sE_p, sE_r, sE_m, sE_a, sE_c, A0, A2, A3, A4, A5, A6, A7, A8, A9, Ba, Bb, Bc, Bd, Be, Bf, Bg, Bh, Bi, Bj, Bl, Bm, Bo, Bp, Bq, Br, Bs, Bt, Bu, Bv, Tr.getP_e, Bw, Bx, ↓reduceIte, Nat.reduceEqDiff, Nat.reduceAdd, Nat.reduceSub, Nat.reduceMul, Nat.reduceDiv, Nat.reduceMod, Nat.zero_add, Nat.add_zero, beq_self_eq_true, Nat.zero_ne_one, Nat.one_ne_zero, Nat.reduceLeDiff, Int.reduceBEq, constF, unF, unary,  pickF, nilcF, faddrF, fldF, iaddrSF, arF, Bz, B3, B4, B5, B6, B7, convF, extF, lenF, eqcF, eqnF, eqN, eqPtr, isNone, loadF, storeF, allocF, callF, gets, Option.map_some, Option.bind_some, B8, B9, Ca, Cb, Cc, nbeq, nble, Cd, Ce, Cf, Cg, Ch, Ci, Cj, Ck, Cl, Cm, Cn, Co, Cp, Cq, Cr, Cs, Ct, Cu, Cv, Cw, Cx, V.w, width, unc, cmpCells, Cy, Cz, C6, C7, C8, Da, undef, List.append_nil, List.nil_append, List.cons_append, Db, Dc, resultsV, result, tup, Dd, Bool.and_true, Bool.true_and, Bool.and_self, decide_true, decide_false, Bool.not_true, Bool.not_false, Bool.true_beq, Bool.false_beq, beq_iff_eq, reduceCtorEq, Nat.succ_eq_add_one, ptr0, Int.ofNat_eq_natCast, Int.ofNat_le, Int.ofNat_lt, Int.natCast_add, De, Df, Dg, Dh, Di, List.map_cons, List.map_nil, Dj, Heap.next_add, Heap.next_set, boxF, buildF, fill, bsliceF, fillRows, List.replicate_one, Dk, Dl, Dm, Dn, Dp, Dq, Dr, Ds, Dt, Du, Dw, Dx, Dy, Dz, D2, D3, D4, D5, D6, D7, D8, D9, Ea, Eb, Ec, appF, List.length_cons, List.length_nil]
          refine ⟨k - 1, by omega, i + 1, _, _, _, by omega, trivial, trivial, by rw [hpx], trivial, rfl, hG', ?_, ?_⟩
          · rw [List.map_append, hm, List.take_succ_eq_append_getElem hiP, List.map_append]; rfl
          · rw [List.take_succ_eq_append_getElem hiP]
            intro z hz
            rcases List.mem_append.1 hz with hz | hz
            · exact hok z hz
            · rw [List.mem_singleton.1 hz]; exact hn
        · have e1 := dnew_err HH (n := P[i]) (by omega) lf m
          have hbad : ¬ okSizes P := fun h => hn (h.2.2 _ (List.getElem_mem hiP))
          simp only [c45_l0, q4, q19, q20, q21, hiP, hi1, l1, e1, Nat.mul_one, Aa, Ab, Ad, Ae, Af, Ag, Ah, Ai, Aj, Ak, Al, Ao, Ap, Aq, Ar, Au, sO_p, sO_r, sO_m, sO_a, sO_c, Av, Aw, Ax, Ay, Az, sE_p, sE_r, sE_m, sE_a, sE_c, A0, A2, A3, A4, A5, A6, A7, A8, A9, Ba, Bb, Bc, Bd, Be, Bf, Bg, Bh, Bi, Bj, Bl, Bm, Bo, Bp, Bq, Br, Bs, Bt, Bu, Bv, Tr.getP_e, Bw, Bx, ↓reduceIte, Nat.reduceEqDiff, Nat.reduceAdd, Nat.reduceSub, Nat.reduceMul, Nat.reduceDiv, Nat.reduceMod, Nat.zero_add, Nat.add_zero, beq_self_eq_true, Nat.zero_ne_one, Nat.one_ne_zero, Nat.reduceLeDiff, Int.reduceBEq, constF, unF, unary,  pickF, nilcF, faddrF, fldF, iaddrSF, arF, Bz, B3, B4, B5, B6, B7, convF, extF, lenF, eqcF, eqnF, eqN, eqPtr, isNone, loadF, storeF, allocF, callF, gets, Option.map_some, Option.bind_some, B8, B9, Ca, Cb, Cc, nbeq, nble, Cd, Ce, Cf, Cg, Ch, Ci, Cj, Ck, Cl, Cm, Cn, Co, Cp, Cq, Cr, Cs, Ct, Cu, Cv, Cw, Cx, V.w, width, unc, cmpCells, Cy, Cz, C6, C7, C8, Da, undef, List.append_nil, List.nil_append, List.cons_append, Db, Dc, resultsV, result, tup, Dd, Bool.and_true, Bool.true_and, Bool.and_self, decide_true, decide_false, Bool.not_true, Bool.not_false, Bool.true_beq, Bool.false_beq, beq_iff_eq, reduceCtorEq, Nat.succ_eq_add_one, ptr0, Int.ofNat_eq_natCast, Int.ofNat_le, Int.ofNat_lt, Int.natCast_add, De, Df, Dg, Dh, Di, List.map_cons, List.map_nil, Dj, Heap.next_add, Heap.next_set, boxF, buildF, fill, bsliceF, fillRows, List.replicate_one, Dk, Dl, Dm, Dn, Dp, Dq, Dr, Ds, Dt, Du, Dw, Dx, Dy, Dz, D2, D3, D4, D5, D6, D7, D8, D9, Ea, Eb, Ec, appF, List.length_cons, List.length_nil]
          exact ⟨trivial, .inl ⟨trivial, hbad, trivial, trivial, hG.t⟩⟩
      · have hg : ¬ (i < P.length) := hiP
        have hiL : P.take i = P := List.take_of_length_le (by omega)
        rw [hiL] at hm hok
        simp only [c45_l0, q4, q19, q20, q21, hg, Aa, Ab, Ad, Ae, Af, Ag, Ah, Ai, Aj, Ak, Al, Ao, Ap, Aq, Ar, Au, sO_p, sO_r, sO_m, sO_a, sO_c, Av, Aw, Ax, Ay, Az, sE_p, sE_r, sE_m, sE_a, sE_c, A0, A2, A3, A4, A5, A6, A7, A8, A9, Ba, Bb, Bc, Bd, Be, Bf, Bg, Bh, Bi, Bj, Bl, Bm, Bo, Bp, Bq, Br, Bs, Bt, Bu, Bv, Tr.getP_e, Bw, Bx, ↓reduceIte, Nat.reduceEqDiff, Nat.reduceAdd, Nat.reduceSub, Nat.reduceMul, Nat.reduceDiv, Nat.reduceMod, Nat.zero_add, Nat.add_zero, beq_self_eq_true, Nat.zero_ne_one, Nat.one_ne_zero, Nat.reduceLeDiff, Int.reduceBEq, constF, unF, unary,  pickF, nilcF, faddrF, fldF, iaddrSF, arF, Bz, B3, B4, B5, B6, B7, convF, extF, lenF, eqcF, eqnF, eqN, eqPtr, isNone, loadF, storeF, allocF, callF, gets, Option.map_some, Option.bind_some, B8, B9, Ca, Cb, Cc, nbeq, nble, Cd, Ce, Cf, Cg, Ch, Ci, Cj, Ck, Cl, Cm, Cn, Co, Cp, Cq, Cr, Cs, Ct, Cu, Cv, Cw, Cx, V.w, width, unc, cmpCells, Cy, Cz, C6, C7, C8, Da, undef, List.append_nil, List.nil_append, List.cons_append, Db, Dc, resultsV, result, tup, Dd, Bool.and_true, Bool.true_and, Bool.and_self, decide_true, decide_false, Bool.not_true, Bool.not_false, Bool.true_beq, Bool.false_beq, beq_iff_eq, reduceCtorEq, Nat.succ_eq_add_one, ptr0, Int.ofNat_eq_natCast, Int.ofNat_le, Int.ofNat_lt, Int.natCast_add, De, Df, Dg, Dh, Di, List.map_cons, List.map_nil, Dj, Heap.next_add, Heap.next_set, boxF, buildF, fill, bsliceF, fillRows, List.replicate_one, Dk, Dl, Dm, Dn, Dp, Dq, Dr, Ds, Dt, Du, Dw, Dx, Dy, Dz, D2, D3, D4, D5, D6, D7, D8, D9, Ea, Eb, Ec, appF, List.length_cons, List.length_nil]
        refine ⟨trivial, .inr ⟨trivial, trivial, ⟨g1, g2, hok⟩, p, o, l, hG, hm⟩⟩
    simp only [c45, g1', g2', Aa, Ab, Ad, Ae, Af, Ag, Ah, Ai, Aj, Ak, Al, Ao, Ap, Aq, Ar, Au, sO_p, sO_r, sO_m, sO_a, sO_c, Av, Aw, Ax, Ay, Az, sE_p, sE_r, sE_m, sE_a, sE_c, A0, A2, A3, A4, A5, A6, A7, A8, A9, Ba, Bb, Bc, Bd, Be, Bf, Bg, Bh, Bi, Bj, Bl, Bm, Bo, Bp, Bq, Br, Bs, Bt, Bu, Bv, Tr.getP_e, Bw, Bx, ↓reduceIte, Nat.reduceEqDiff, Nat.reduceAdd, Nat.reduceSub, Nat.reduceMul, Nat.reduceDiv, Nat.reduceMod, Nat.zero_add, Nat.add_zero, beq_self_eq_true, Nat.zero_ne_one, Nat.one_ne_zero, Nat.reduceLeDiff, Int.reduceBEq, constF, unF, unary,  pickF, nilcF, faddrF, fldF, iaddrSF, arF, Bz, B3, B4, B5, B6, B7, convF, extF, lenF, eqcF, eqnF, eqN, eqPtr, isNone, loadF, storeF, allocF, callF, gets, Option.map_some, Option.bind_some, B8, B9, Ca, Cb, Cc, nbeq, nble, Cd, Ce, Cf, Cg, Ch, Ci, Cj, Ck, Cl, Cm, Cn, Co, Cp, Cq, Cr, Cs, Ct, Cu, Cv, Cw, Cx, V.w, width, unc, cmpCells, Cy, Cz, C6, C7, C8, Da, undef, List.append_nil, List.nil_append, List.cons_append, Db, Dc, resultsV, result, tup, Dd, Bool.and_true, Bool.true_and, Bool.and_self, decide_true, decide_false, Bool.not_true, Bool.not_false, Bool.true_beq, Bool.false_beq, beq_iff_eq, reduceCtorEq, Nat.succ_eq_add_one, ptr0, Int.ofNat_eq_natCast, Int.ofNat_le, Int.ofNat_lt, Int.natCast_add, De, Df, Dg, Dh, Di, List.map_cons, List.map_nil, Dj, Heap.next_add, Heap.next_set, boxF, buildF, fill, bsliceF, fillRows, List.replicate_one, Dk, Dl, Dm, Dn, Dp, Dq, Dr, Ds, Dt, Du, Dw, Dx, Dy, Dz, D2, D3, D4, D5, D6, D7, D8, D9, Ea, Eb, Ec, appF, List.length_cons, List.length_nil]
    refine wp_ctx (F := fun r => seqC _ _ _ (blockC _ r)) (hloop _ ?_ ?_ ?_ ?_) ?_
    · simp only [Bv, Tr.getP_e, ↓reduceIte, Nat.reduceEqDiff, Nat.zero_ne_one, Nat.one_ne_zero, Bw, Bx, Nat.reduceAdd, Nat.zero_add, Int.ofNat_eq_natCast]
    · simp only [Bv, Tr.getP_e, ↓reduceIte, Nat.reduceEqDiff, Nat.zero_ne_one, Nat.one_ne_zero, Bw, Bx, Nat.reduceAdd, Nat.zero_add, Int.ofNat_eq_natCast]
    · simp only [Bv, Tr.getP_e, ↓reduceIte, Nat.reduceEqDiff, Nat.zero_ne_one, Nat.one_ne_zero, Bw, Bx, Nat.reduceAdd, Nat.zero_add, Int.ofNat_eq_natCast]
    · simp only [Bv, Tr.getP_e, ↓reduceIte, Nat.reduceEqDiff, Nat.zero_ne_one, Nat.one_ne_zero, Bw, Bx, Nat.reduceAdd, Nat.zero_add, Int.ofNat_eq_natCast]
    rintro x ⟨t, HH, d⟩ ⟨rfl, ⟨rfl, hbad, q2, q3, hT⟩ | ⟨rfl, q4, hok, p, o, l, hG, hm⟩⟩
    · dsimp only at q2 q3 hT
      simp only [q2, q3, Aa, Ab, Ad, Ae, Af, Ag, Ah, Ai, Aj, Ak, Al, Ao, Ap, Aq, Ar, Au, sO_p, sO_r, sO_m, sO_a, sO_c, Av, Aw, Ax, Ay, Az, sE_p, sE_r, sE_m, sE_a, sE_c, A0, A2, A3, A4, A5, A6, A7, A8, A9, Ba, Bb, Bc, Bd, Be, Bf, Bg, Bh, Bi, Bj, Bl, Bm, Bo, Bp, Bq, Br, Bs, Bt, Bu, Bv, Tr.getP_e, Bw, Bx, ↓reduceIte, Nat.reduceEqDiff, Nat.reduceAdd, Nat.reduceSub, Nat.reduceMul, Nat.reduceDiv, Nat.reduceMod, Nat.zero_add, Nat.add_zero, beq_self_eq_true, Nat.zero_ne_one, Nat.one_ne_zero, Nat.reduceLeDiff, Int.reduceBEq, constF, unF, unary,  pickF, nilcF, faddrF, fldF, iaddrSF, arF, Bz, B3, B4, B5, B6, B7, convF, extF, lenF, eqcF, eqnF, eqN, eqPtr, isNone, loadF, storeF, allocF, callF, gets, Option.map_some, Option.bind_some, B8, B9, Ca, Cb, Cc, nbeq, nble, Cd, Ce, Cf, Cg, Ch, Ci, Cj, Ck, Cl, Cm, Cn, Co, Cp, Cq, Cr, Cs, Ct, Cu, Cv, Cw, Cx, V.w, width, unc, cmpCells, Cy, Cz, C6, C7, C8, Da, undef, List.append_nil, List.nil_append, List.cons_append, Db, Dc, resultsV, result, tup, Dd, Bool.and_true, Bool.true_and, Bool.and_self, decide_true, decide_false, Bool.not_true, Bool.not_false, Bool.true_beq, Bool.false_beq, beq_iff_eq, reduceCtorEq, Nat.succ_eq_add_one, ptr0, Int.ofNat_eq_natCast, Int.ofNat_le, Int.ofNat_lt, Int.natCast_add, De, Df, Dg, Dh, Di, List.map_cons, List.map_nil, Dj, Heap.next_add, Heap.next_set, boxF, buildF, fill, bsliceF, fillRows, List.replicate_one, Dk, Dl, Dm, Dn, Dp, Dq, Dr, Ds, Dt, Du, Dw, Dx, Dy, Dz, D2, D3, D4, D5, D6, D7, D8, D9, Ea, Eb, Ec, appF, List.length_cons, List.length_nil]
      exact ⟨trivial, .inr trivial, _, rfl, hT, .inl ⟨hbad, rfl⟩⟩
    · dsimp only at q4 hG
      have hl : l ≠ [] := fun e => by
        have := congrArg List.length hm
        rw [e] at this; simp at this; omega
      obtain ⟨ds, rfl, rfl, hR, hN⟩ := Grow.rep (r := false) (B := newB P) hG hl hm
      simp only [q4, Aa, Ab, Ad, Ae, Af, Ag, Ah, Ai, Aj, Ak, Al, Ao, Ap, Aq, Ar, Au, sO_p, sO_r, sO_m, sO_a, sO_c, Av, Aw, Ax, Ay, Az, sE_p, sE_r, sE_m, sE_a, sE_c, A0, A2, A3, A4, A5, A6, A7, A8, A9, Ba, Bb, Bc, Bd, Be, Bf, Bg, Bh, Bi, Bj, Bl, Bm, Bo, Bp, Bq, Br, Bs, Bt, Bu, Bv, Tr.getP_e, Bw, Bx, ↓reduceIte, Nat.reduceEqDiff, Nat.reduceAdd, Nat.reduceSub, Nat.reduceMul, Nat.reduceDiv, Nat.reduceMod, Nat.zero_add, Nat.add_zero, beq_self_eq_true, Nat.zero_ne_one, Nat.one_ne_zero, Nat.reduceLeDiff, Int.reduceBEq, constF, unF, unary,  pickF, nilcF, faddrF, fldF, iaddrSF, arF, Bz, B3, B4, B5, B6, B7, convF, extF, lenF, eqcF, eqnF, eqN, eqPtr, isNone, loadF, storeF, allocF, callF, gets, Option.map_some, Option.bind_some, B8, B9, Ca, Cb, Cc, nbeq, nble, Cd, Ce, Cf, Cg, Ch, Ci, Cj, Ck, Cl, Cm, Cn, Co, Cp, Cq, Cr, Cs, Ct, Cu, Cv, Cw, Cx, V.w, width, unc, cmpCells, Cy, Cz, C6, C7, C8, Da, undef, List.append_nil, List.nil_append, List.cons_append, Db, Dc, resultsV, result, tup, Dd, Bool.and_true, Bool.true_and, Bool.and_self, decide_true, decide_false, Bool.not_true, Bool.not_false, Bool.true_beq, Bool.false_beq, beq_iff_eq, reduceCtorEq, Nat.succ_eq_add_one, ptr0, Int.ofNat_eq_natCast, Int.ofNat_le, Int.ofNat_lt, Int.natCast_add, De, Df, Dg, Dh, Di, List.map_cons, List.map_nil, Dj, Heap.next_add, Heap.next_set, boxF, buildF, fill, bsliceF, fillRows, List.replicate_one, Dk, Dl, Dm, Dn, Dp, Dq, Dr, Ds, Dt, Du, Dw, Dx, Dy, Dz, D2, D3, D4, D5, D6, D7, D8, D9, Ea, Eb, Ec, appF, List.length_cons, List.length_nil]
      exact ⟨trivial, .inr trivial, _, rfl, hG.t, .inr ⟨hok, _, ds, l, rfl, hR, hN⟩⟩
  · have hbad : ¬ okSizes P := fun h => hlen ⟨h.1, h.2.1⟩
    by_cases g1 : (P.length : Int) < 1
    · simp only [c45, g1, Aa, Ab, Ad, Ae, Af, Ag, Ah, Ai, Aj, Ak, Al, Ao, Ap, Aq, Ar, Au, sO_p, sO_r, sO_m, sO_a, sO_c, Av, Aw, Ax, Ay, Az, sE_p, sE_r, sE_m, sE_a, sE_c, A0, A2, A3, A4, A5, A6, A7, A8, A9, Ba, Bb, Bc, Bd, Be, Bf, Bg, Bh, Bi, Bj, Bl, Bm, Bo, Bp, Bq, Br, Bs, Bt, Bu, Bv, Tr.getP_e, Bw, Bx, ↓reduceIte, Nat.reduceEqDiff, Nat.reduceAdd, Nat.reduceSub, Nat.reduceMul, Nat.reduceDiv, Nat.reduceMod, Nat.zero_add, Nat.add_zero, beq_self_eq_true, Nat.zero_ne_one, Nat.one_ne_zero, Nat.reduceLeDiff, Int.reduceBEq, constF, unF, unary,  pickF, nilcF, faddrF, fldF, iaddrSF, arF, Bz, B3, B4, B5, B6, B7, convF, extF, lenF, eqcF, eqnF, eqN, eqPtr, isNone, loadF, storeF, allocF, callF, gets, Option.map_some, Option.bind_some, B8, B9, Ca, Cb, Cc, nbeq, nble, Cd, Ce, Cf, Cg, Ch, Ci, Cj, Ck, Cl, Cm, Cn, Co, Cp, Cq, Cr, Cs, Ct, Cu, Cv, Cw, Cx, V.w, width, unc, cmpCells, Cy, Cz, C6, C7, C8, Da, undef, List.append_nil, List.nil_append, List.cons_append, Db, Dc, resultsV, result, tup, Dd, Bool.and_true, Bool.true_and, Bool.and_self, decide_true, decide_false, Bool.not_true, Bool.not_false, Bool.true_beq, Bool.false_beq, beq_iff_eq, reduceCtorEq, Nat.succ_eq_add_one, ptr0, Int.ofNat_eq_natCast, Int.ofNat_le, Int.ofNat_lt, Int.natCast_add, De, Df, Dg, Dh, Di, List.map_cons, List.map_nil, Dj, Heap.next_add, Heap.next_set, boxF, buildF, fill, bsliceF, fillRows, List.replicate_one, Dk, Dl, Dm, Dn, Dp, Dq, Dr, Ds, Dt, Du, Dw, Dx, Dy, Dz, D2, D3, D4, D5, D6, D7, D8, D9, Ea, Eb, Ec, appF, List.length_cons, List.length_nil]
      exact ⟨trivial, .inr trivial, _, rfl, Turns.refl Z H, .inl ⟨hbad, rfl⟩⟩
    · have g2 : 17 < (P.length : Int) := by omega
      simp only [c45, g1, g2, Aa, Ab, Ad, Ae, Af, Ag, Ah, Ai, Aj, Ak, Al, Ao, Ap, Aq, Ar, Au, sO_p, sO_r, sO_m, sO_a, sO_c, Av, Aw, Ax, Ay, Az, sE_p, sE_r, sE_m, sE_a, sE_c, A0, A2, A3, A4, A5, A6, A7, A8, A9, Ba, Bb, Bc, Bd, Be, Bf, Bg, Bh, Bi, Bj, Bl, Bm, Bo, Bp, Bq, Br, Bs, Bt, Bu, Bv, Tr.getP_e, Bw, Bx, ↓reduceIte, Nat.reduceEqDiff, Nat.reduceAdd, Nat.reduceSub, Nat.reduceMul, Nat.reduceDiv, Nat.reduceMod, Nat.zero_add, Nat.add_zero, beq_self_eq_true, Nat.zero_ne_one, Nat.one_ne_zero, Nat.reduceLeDiff, Int.reduceBEq, constF, unF, unary,  pickF, nilcF, faddrF, fldF, iaddrSF, arF, Bz, B3, B4, B5, B6, B7, convF, extF, lenF, eqcF, eqnF, eqN, eqPtr, isNone, loadF, storeF, allocF, callF, gets, Option.map_some, Option.bind_some, B8, B9, Ca, Cb, Cc, nbeq, nble, Cd, Ce, Cf, Cg, Ch, Ci, Cj, Ck, Cl, Cm, Cn, Co, Cp, Cq, Cr, Cs, Ct, Cu, Cv, Cw, Cx, V.w, width, unc, cmpCells, Cy, Cz, C6, C7, C8, Da, undef, List.append_nil, List.nil_append, List.cons_append, Db, Dc, resultsV, result, tup, Dd, Bool.and_true, Bool.true_and, Bool.and_self, decide_true, decide_false, Bool.not_true, Bool.not_false, Bool.true_beq, Bool.false_beq, beq_iff_eq, reduceCtorEq, Nat.succ_eq_add_one, ptr0, Int.ofNat_eq_natCast, Int.ofNat_le, Int.ofNat_lt, Int.natCast_add, De, Df, Dg, Dh, Di, List.map_cons, List.map_nil, Dj, Heap.next_add, Heap.next_set, boxF, buildF, fill, bsliceF, fillRows, List.replicate_one, Dk, Dl, Dm, Dn, Dp, Dq, Dr, Ds, Dt, Du, Dw, Dx, Dy, Dz, D2, D3, D4, D5, D6, D7, D8, D9, Ea, Eb, Ec, appF, List.length_cons, List.length_nil]
      exact ⟨trivial, .inr trivial, _, rfl, Turns.refl Z H, .inl ⟨hbad, rfl⟩⟩

end Go.Proofs.Ytcelngepfdchiaa.disk

