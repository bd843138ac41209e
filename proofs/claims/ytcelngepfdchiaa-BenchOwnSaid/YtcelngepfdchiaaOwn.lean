/-
  A bench, and devices of one's own beside it.
-/
import Derived.Test.YtcelngepfdchiaaBActs
set_option linter.unusedVariables false
set_option linter.unusedSectionVars false
set_option linter.unusedSimpArgs false
set_option maxRecDepth 10000
namespace Go.Proofs.Ytcelngepfdchiaa.disk
open Go.Am

/-- devices whose addresses lie in one list -/
structure Own (H : Heap) (od : Bk) (lo : List Dv) : Prop where
  ptrs : H.get od = some (.rows false 1 (ptrRows lo))
  dev : ∀ i (h : i < lo.length), DevAt H lo[i].b lo[i].y lo[i].D
  sep : ∀ i j (hi : i < lo.length) (hj : j < lo.length), i ≠ j → Sep lo[i].b lo[i].y lo[i].D lo[j].b lo[j].y lo[j].D
  old : H.Old od
  out : ∀ i (h : i < lo.length), ¬ lo[i].foot od

def OFoot (od : Bk) (lo : List Dv) (c : Bk) : Prop := c = od ∨ ∃ x ∈ lo, x.foot c

theorem Own.foot_old {H : Heap} {od : Bk} {lo : List Dv} (h : Own H od lo) : ∀ c, OFoot od lo c → H.Old c := by
  rintro c (rfl | ⟨x, hx, hc⟩)
  · exact h.old
  · obtain ⟨i, hi, rfl⟩ := List.getElem_of_mem hx
    exact (h.dev i hi).foot_old _ hc
theorem Own.turns {H H' : Heap} {od : Bk} {lo : List Dv} {X : Bk → Prop} (h : Own H od lo) (k : Turns X H H') (hX : ∀ c, OFoot od lo c → ¬ X c) : Own H' od lo :=
  ⟨(k.same _ h.old (hX _ (.inl rfl))).trans h.ptrs, fun i hi => (h.dev i hi).turns k (hX _ (.inr ⟨_, List.getElem_mem hi, .inl rfl⟩)) (hX _ (.inr ⟨_, List.getElem_mem hi, .inr (.inl rfl)⟩)) (fun hl => hX _ (.inr ⟨_, List.getElem_mem hi, .inr (.inr ⟨hl, rfl⟩)⟩)), h.sep, h.old.mono k.next, h.out⟩
theorem Own.step {H H' : Heap} {od : Bk} {lo : List Dv} (h : Own H od lo) {i : Nat} (hi : i < lo.length) {y' : Lay} {D' : Dev} (k : Next H lo[i].b lo[i].y lo[i].D H' y' D') : Own H' od (lo.set i ⟨lo[i].b, y', D'⟩) := by
  have hd := h.out i hi
  have hnew : ∀ c, Foot lo[i].b y' D' c → lo[i].foot c ∨ ¬ H.Old c := by
    rintro c (rfl | rfl | ⟨hl, rfl⟩)
    · exact .inl (.inl rfl)
    · exact .inl (.inr (.inl k.s))
    · rcases k.l hl with ⟨h1, h2⟩ | h1
      · exact .inl (.inr (.inr ⟨h1, h2⟩))
      · exact .inr h1
  refine ⟨?_, fun j hj => ?_, fun p q hp hq hpq => ?_, h.old.mono k.turns.next, fun j hj => ?_⟩
  · have e : ptrRows (lo.set i ⟨lo[i].b, y', D'⟩) = ptrRows lo := by
      unfold ptrRows
      rw [List.map_set]
      apply List.ext_getElem
      · simp
      · intro n h1 h2
        rw [List.getElem_set]
        split
        · rename_i e; subst e; simp
        · rfl
    rw [e]; exact (k.turns.same _ h.old hd).trans h.ptrs
  · have hj' : j < lo.length := by simpa using hj
    by_cases e : i = j
    · subst e
      rw [List.getElem_set_self]
      exact k.dev
    · rw [List.getElem_set_ne e]
      exact (h.sep i j hi hj' e).dev (h.dev j hj') k.turns
  · have hp' : p < lo.length := by simpa using hp
    have hq' : q < lo.length := by simpa using hq
    by_cases e1 : i = p
    · subst e1
      rw [List.getElem_set_self, List.getElem_set_ne hpq]
      exact (h.sep i q hi hq' hpq).next (h.dev q hq') k
    · by_cases e2 : i = q
      · subst e2
        rw [List.getElem_set_self, List.getElem_set_ne e1]
        exact ((h.sep i p hi hp' e1).next (h.dev p hp') k).symm
      · rw [List.getElem_set_ne e1, List.getElem_set_ne e2]
        exact h.sep p q hp' hq' hpq
  · have hj' : j < lo.length := by simpa using hj
    by_cases e : i = j
    · subst e
      rw [List.getElem_set_self]
      intro hc
      rcases hnew _ hc with hc | hc
      · exact hd hc
      · exact hc h.old
    · rw [List.getElem_set_ne e]
      exact h.out j hj'
theorem ofoot_set {H H' : Heap} {od : Bk} {lo : List Dv} {i : Nat} (hi : i < lo.length) {y' : Lay} {D' : Dev} (k : Next H lo[i].b lo[i].y lo[i].D H' y' D') : ∀ c, OFoot od (lo.set i ⟨lo[i].b, y', D'⟩) c → OFoot od lo c ∨ ¬ H.Old c := by
  rintro c (h | ⟨z, hz, hc⟩)
  · exact .inl (.inl h)
  · rcases List.mem_or_eq_of_mem_set hz with hz | rfl
    · exact .inl (.inr ⟨z, hz, hc⟩)
    · rcases hc with rfl | rfl | ⟨hl, rfl⟩
      · exact .inl (.inr ⟨_, List.getElem_mem hi, .inl rfl⟩)
      · exact .inl (.inr ⟨_, List.getElem_mem hi, .inr (.inl k.s)⟩)
      · rcases k.l hl with ⟨h1, h2⟩ | h1
        · exact .inl (.inr ⟨_, List.getElem_mem hi, .inr (.inr ⟨h1, h2⟩)⟩)
        · exact .inr h1

theorem DvsAt.turnsX {H H' : Heap} {b ds : Bk} {so : Nat} {l : List Dv} {r1 r2 r3 : V} (h : DvsAt H b ds so l r1 r2 r3) {X : Bk → Prop} (k : Turns X H H') (hX : ∀ c, BFoot b ds l c → ¬ X c) : DvsAt H' b ds so l r1 r2 r3 :=
  ⟨(k.same _ h.old.1 (hX _ (.inl rfl))).trans h.own, (k.same _ h.old.2 (hX _ (.inr (.inl rfl)))).trans h.ptrs, fun i hi => (h.dev i hi).turns k (hX _ (.inr (.inr ⟨_, List.getElem_mem hi, .inl rfl⟩))) (hX _ (.inr (.inr ⟨_, List.getElem_mem hi, .inr (.inl rfl)⟩))) (fun hl => hX _ (.inr (.inr ⟨_, List.getElem_mem hi, .inr (.inr ⟨hl, rfl⟩)⟩))), h.sep, ⟨h.old.1.mono k.next, h.old.2.mono k.next⟩, h.ne, h.out⟩
theorem Rep.foot_old {r : Bool} {H : Heap} {b ds : Bk} {so : Nat} {l : List Dv} {B : Bn} (h : Rep r H b ds so l B) : ∀ c, BFoot b ds l c → H.Old c := by
  rintro c (rfl | rfl | ⟨x, hx, hc⟩)
  · exact h.row.old.1
  · exact h.row.old.2
  · obtain ⟨i, hi, rfl⟩ := List.getElem_of_mem hx
    exact (h.row.dev i hi).foot_old _ hc
theorem Rep.turnsX {r : Bool} {H H' : Heap} {b ds : Bk} {so : Nat} {l : List Dv} {B : Bn} (h : Rep r H b ds so l B) {X : Bk → Prop} (k : Turns X H H') (hX : ∀ c, BFoot b ds l c → ¬ X c) : Rep r H' b ds so l B := ⟨h.row.turnsX k hX, h.map⟩
theorem Mine.turnsX {r : Bool} {H0 H H' : Heap} {b ds : Bk} {so : Nat} {l : List Dv} {B : Bn} (h : Mine r H0 H b ds so l B) {X : Bk → Prop} (k : Turns X H H') (hX : ∀ c, BFoot b ds l c → ¬ X c) (h0 : ∀ c, X c → ¬ H0.Old c) : Mine r H0 H' b ds so l B :=
  ⟨h.rep.turnsX k hX, Turns.after h.t k (fun c hc hx => absurd hc (h0 c hx)), h.new⟩

/-- a bench and devices that are the same -/
structure Twin (H0 H : Heap) (b ds : Bk) (l : List Dv) (B : Bn) (od : Bk) (lo : List Dv) : Prop where
  m : Mine false H0 H b ds 1 l B
  o : Own H od lo
  new : ∀ c, OFoot od lo c → ¬ H0.Old c
  dis : ∀ c, BFoot b ds l c → ¬ OFoot od lo c

theorem Twin.turns {H0 H H' : Heap} {b ds : Bk} {l : List Dv} {B : Bn} {od : Bk} {lo : List Dv} (h : Twin H0 H b ds l B od lo) (k : Turns Z H H') : Twin H0 H' b ds l B od lo :=
  ⟨h.m.turns k, h.o.turns k (fun c _ => id), h.new, h.dis⟩
theorem Twin.bench {H0 H H' : Heap} {b ds : Bk} {l l' : List Dv} {B B' : Bn} {od : Bk} {lo : List Dv} (h : Twin H0 H b ds l B od lo) (k : BNext H b ds 1 l H' l' B') : Twin H0 H' b ds l' B' od lo :=
  ⟨h.m.next k, h.o.turns k.turns (fun c hc hx => h.dis c hx hc), h.new, fun c hc ho => by
    rcases k.foot c hc with hc | hc
    · exact h.dis c hc ho
    · exact hc (h.o.foot_old c ho)⟩
theorem Twin.dev {H0 H H' : Heap} {b ds : Bk} {l : List Dv} {B : Bn} {od : Bk} {lo : List Dv} (h : Twin H0 H b ds l B od lo) {i : Nat} (hi : i < lo.length) {y' : Lay} {D' : Dev} (k : Next H lo[i].b lo[i].y lo[i].D H' y' D') : Twin H0 H' b ds l B od (lo.set i ⟨lo[i].b, y', D'⟩) := by
  have hin : ∀ c, lo[i].foot c → OFoot od lo c := fun c hc => .inr ⟨_, List.getElem_mem hi, hc⟩
  refine ⟨h.m.turnsX k.turns (fun c hc hx => h.dis c hc (hin c hx)) (fun c hx => h.new c (hin c hx)), h.o.step hi k, fun c hc => ?_, fun c hb hc => ?_⟩
  · rcases ofoot_set hi k c hc with hc | hc
    · exact h.new c hc
    · exact fun o => hc (o.mono h.m.t.next)
  · rcases ofoot_set hi k c hc with hc | hc
    · exact h.dis c hb hc
    · exact hc (h.m.rep.foot_old c hb)

/-- a list of devices of one's own that grows -/
structure GrowL (H0 H : Heap) (p : Option Ptr) (o : Nat) (l : List Dv) : Prop where
  nil : l = [] → p = none ∧ o = 0
  ptrs : l ≠ [] → ∃ ds, p = some ⟨ds, 0⟩ ∧ o = 1 ∧ H.get ds = some (.rows false 1 (ptrRows l)) ∧ H.Old ds ∧ ¬ H0.Old ds ∧ ∀ x ∈ l, ¬ x.foot ds
  dev : ∀ x ∈ l, DevAt H x.b x.y x.D
  sep : l.Pairwise fun x z => Sep x.b x.y x.D z.b z.y z.D
  fresh : ∀ x ∈ l, Fresh H0 x.b x.y x.D
  t : Turns Z H0 H

theorem GrowL.step {H0 H H1 : Heap} {p : Option Ptr} {o : Nat} {l : List Dv} (h : GrowL H0 H p o l) (t : Turns Z H H1) {c : Bk} {y : Lay} {D : Dev} (hD : DevAt H1 c y D) (hF : Fresh H c y D) (hmax : l.length < 1000000) :
    ∃ H3 ds, appendV 1 8 (H1.add (.rows false 1 [[.ptr (some ⟨c, 0⟩)]])) (.slice p l.length l.length o) (.slice (some ⟨.run H1.next, 0⟩) 1 1 0) = some (.slice (some ⟨ds, 0⟩) (l.length + 1) (l.length + 1) 1, H3) ∧ GrowL H0 H3 (some ⟨ds, 0⟩) 1 (l ++ [⟨c, y, D⟩]) := by
  have t2 : Turns Z H (H1.add (.rows false 1 [[.ptr (some ⟨c, 0⟩)]])) := t.addm _
  have hx : (H1.add (.rows false 1 [[.ptr (some ⟨c, 0⟩)]])).get (.run H1.next) = some (.rows false 1 [[.ptr (some ⟨c, 0⟩)]]) := by rw [Heap.get_add, if_pos rfl]
  have hD2 := hD.turns (Turns.add Z H1 (.rows false 1 [[.ptr (some ⟨c, 0⟩)]])) id id (fun _ => id)
  generalize H1.add (.rows false 1 [[.ptr (some ⟨c, 0⟩)]]) = H2 at t2 hx hD2
  have ha := app_ptr (H := H2) (x := .run H1.next) (c := c) h.nil (fun e => by
    obtain ⟨ds, h1, h2, h3, h4, _⟩ := h.ptrs e
    exact ⟨ds, h1, h2, (t2.same _ h4 id).trans h3⟩) hx hmax
  have hX : ∀ q, p = some q → H.Old q.b ∧ ¬ H0.Old q.b ∧ (∀ x ∈ l, ¬ x.foot q.b) := by
    intro q hq
    by_cases e : l = []
    · rw [(h.nil e).1] at hq; cases hq
    · obtain ⟨ds, h1, _, _, h4, h6, h7⟩ := h.ptrs e
      rw [h1] at hq; cases hq
      exact ⟨h4, h6, h7⟩
  have tk : Turns (fun c => ∃ q, p = some q ∧ c = q.b) H2 (killP H2 p) := killP_turns H2 (fun q hq => ⟨q, hq, rfl⟩)
  have hkn := killP_next H2 p
  have t3 := tk.addm (.rows false 1 (ptrRows l ++ [[.ptr (some ⟨c, 0⟩)]]))
  have hds : ((killP H2 p).add (.rows false 1 (ptrRows l ++ [[.ptr (some ⟨c, 0⟩)]]))).get (.run H2.next) = some (.rows false 1 (ptrRows l ++ [[.ptr (some ⟨c, 0⟩)]])) := by rw [Heap.get_add, if_pos (by rw [hkn])]
  have hdo : ((killP H2 p).add (.rows false 1 (ptrRows l ++ [[.ptr (some ⟨c, 0⟩)]]))).Old (.run H2.next) := by show _ < _; simp [hkn]
  generalize (killP H2 p).add (.rows false 1 (ptrRows l ++ [[.ptr (some ⟨c, 0⟩)]])) = H3 at ha t3 hds hdo
  have hno : ¬ H2.Old (.run H2.next) := Heap.not_old (Nat.le_refl _)
  have cold := hD2.foot_old
  refine ⟨H3, .run H2.next, ha, ⟨fun e => absurd e (by simp), fun _ => ⟨.run H2.next, rfl, rfl, ?_, hdo, fun e => hno (e.mono (Nat.le_trans h.t.next t2.next)), ?_⟩, ?_, ?_, ?_, ?_⟩⟩
  · rw [hds]; simp [ptrRows]
  · intro x hx hf
    rcases List.mem_append.1 hx with hx | hx
    · exact hno ((h.dev x hx).foot_old _ hf |>.mono t2.next)
    · rw [List.mem_singleton.1 hx] at hf; exact hno (cold _ hf)
  · have key : ∀ (x : Dv), DevAt H2 x.b x.y x.D → (∀ q, p = some q → ¬ x.foot q.b) → DevAt H3 x.b x.y x.D := by
      intro x hx hq
      exact hx.turns t3 (fun ⟨q, hp, e⟩ => hq q hp (.inl e.symm)) (fun ⟨q, hp, e⟩ => hq q hp (.inr (.inl e.symm))) (fun hl ⟨q, hp, e⟩ => hq q hp (.inr (.inr ⟨hl, e.symm⟩)))
    intro x hx
    rcases List.mem_append.1 hx with hx | hx
    · exact key x ((h.dev x hx).turns t2 id id (fun _ => id)) (fun q hq => (hX q hq).2.2 x hx)
    · rw [List.mem_singleton.1 hx]
      exact key _ hD2 (fun q hq hf => hF.foot _ hf (hX q hq).1)
  · rw [List.pairwise_append]
    refine ⟨h.sep, List.pairwise_singleton _ _, fun x hx z hz => ?_⟩
    rw [List.mem_singleton.1 hz]
    exact sep_fresh (h.dev x hx) hF
  · intro x hx
    rcases List.mem_append.1 hx with hx | hx
    · exact h.fresh x hx
    · rw [List.mem_singleton.1 hx]
      exact ⟨fun e => hF.b (e.mono h.t.next), fun e => hF.s (e.mono h.t.next), fun hl e => hF.l hl (e.mono h.t.next)⟩
  · exact Turns.after (h.t.trans t2) t3 (fun x hx ⟨q, hq, e⟩ => (hX q hq).2.1 (by rw [← e]; exact hx))

theorem GrowL.twin {H0 H1 H : Heap} {b ds : Bk} {l : List Dv} {B : Bn} (hm : Mine false H0 H1 b ds 1 l B) {p : Option Ptr} {o : Nat} {lo : List Dv} (h : GrowL H1 H p o lo) (hl : lo ≠ []) : ∃ od, p = some ⟨od, 0⟩ ∧ o = 1 ∧ Twin H0 H b ds l B od lo := by
  obtain ⟨od, rfl, rfl, h3, h4, h5, h6⟩ := h.ptrs hl
  have hno : ∀ c, OFoot od lo c → ¬ H1.Old c := by
    rintro c (rfl | ⟨x, hx, hc⟩)
    · exact h5
    · exact (h.fresh x hx).foot c hc
  refine ⟨od, rfl, rfl, hm.turns h.t, ⟨h3, fun i hi => h.dev _ (List.getElem_mem hi), ?_, h4, fun i hi => h6 _ (List.getElem_mem hi)⟩, fun c hc o => hno c hc (o.mono hm.t.next), fun c hb hc => hno c hc (hm.rep.foot_old c hb)⟩
  intro i j hi hj hij
  have hp := List.pairwise_iff_getElem.1 h.sep
  rcases Nat.lt_or_gt_of_ne hij with e | e
  · exact hp i j hi hj e
  · exact (hp j i hj hi e).symm

/-- of a bench whose power is never cut -/
structure Lit (B : Bn) : Prop where
  ar : B.ar = 0
  dk : B.dk = false
theorem Lit.lc {B : Bn} (h : Lit B) {k : Nat} (hk : k < B.l.length) : B.lc (k : Int) = 0 ∧ B.tc (k : Int) = 0 := by
  have e : B.tc (k : Int) = 0 := by unfold Bn.tc tcode; rw [if_pos (by omega)]
  exact ⟨by unfold Bn.lc; rw [h.dk, if_neg (by decide), e], e⟩
theorem Lit.step {B : Bn} (h : Lit B) (k : Nat) (D : Dev) : (B.step (k : Int) D).l = B.l.set k D ∧ Lit (B.step (k : Int) D) := by
  unfold Bn.step
  rw [if_neg (by rw [h.ar]; decide)]
  exact ⟨rfl, by show arLess B.ar = 0; rw [h.ar]; rfl, h.dk⟩
theorem set_same {B : Bn} {k : Nat} (hk : k < B.l.length) : B.l.set k (B.dev (k : Int)) = B.l := by
  have : B.dev (k : Int) = B.l[k] := by simp [Bn.dev, List.getD, hk]
  rw [this]; exact List.set_getElem_self ..
theorem Lit.write {B : Bn} (h : Lit B) {k : Nat} (hk : k < B.l.length) (n : Int) (x : Nat) : B.wc (k : Int) n = code (B.dev (k : Int)) n ∧ (B.write (k : Int) n x).l = B.l.set k ((B.dev (k : Int)).write n x) ∧ Lit (B.write (k : Int) n x) := by
  have hr : B.rc (k : Int) n = code (B.dev (k : Int)) n := if_pos (h.lc hk).1
  have hs : B.sc = 0 := if_neg (by rw [h.ar]; decide)
  unfold Bn.wc Bn.write
  rw [hr, hs]
  by_cases hc : code (B.dev (k : Int)) n = 0
  · rw [if_pos hc, if_pos hc, hc]
    exact ⟨rfl, h.step _ _⟩
  · rw [if_neg hc, if_neg hc]
    have e : (B.dev (k : Int)).write n x = B.dev (k : Int) := if_neg hc
    rw [e, set_same hk]
    exact ⟨rfl, rfl, h⟩
theorem Lit.flush {B : Bn} (h : Lit B) {k : Nat} (hk : k < B.l.length) (hS : (B.dev (k : Int)).S ≠ []) : B.wc (k : Int) 0 = fcode (B.dev (k : Int)) ∧ (B.flush (k : Int)).l = B.l.set k (B.dev (k : Int)).flush ∧ Lit (B.flush (k : Int)) := by
  have hr : B.rc (k : Int) 0 = code (B.dev (k : Int)) 0 := if_pos (h.lc hk).1
  have hs : B.sc = 0 := if_neg (by rw [h.ar]; decide)
  have hpos : 0 < (B.dev (k : Int)).S.length := List.length_pos_iff.2 hS
  have hcf : code (B.dev (k : Int)) 0 = fcode (B.dev (k : Int)) := by unfold code fcode; rw [if_neg (by omega)]
  unfold Bn.wc Bn.flush
  rw [hr, hs, hcf]
  by_cases hc : (B.dev (k : Int)).dead = true
  · have hf : fcode (B.dev (k : Int)) = 9 := if_pos hc
    have e : (B.dev (k : Int)).flush = B.dev (k : Int) := if_pos hc
    rw [hf, if_neg (by decide), if_neg (by decide), e, set_same hk]
    exact ⟨rfl, rfl, h⟩
  · have hf : fcode (B.dev (k : Int)) = 0 := if_neg hc
    rw [hf, if_pos rfl, if_pos rfl]
    exact ⟨rfl, h.step _ _⟩
theorem Lit.fail {B : Bn} (h : Lit B) {k : Nat} (hk : k < B.l.length) : (B.fail (k : Int)).l = B.l.set k (B.dev (k : Int)).fail ∧ Lit (B.fail (k : Int)) := by
  unfold Bn.fail
  rw [if_pos (h.lc hk).2]
  exact ⟨rfl, h.ar, h.dk⟩
theorem Lit.rot {B : Bn} (h : Lit B) {k : Nat} (hk : k < B.l.length) (n j : Int) (x : Nat) : B.oc (k : Int) n j = rcode (B.dev (k : Int)) n j ∧ (B.rot (k : Int) n j x).l = B.l.set k ((B.dev (k : Int)).rot n j x) ∧ Lit (B.rot (k : Int) n j x) := by
  unfold Bn.oc Bn.rot
  rw [if_pos (h.lc hk).2, if_pos (h.lc hk).2]
  exact ⟨rfl, rfl, h.ar, h.dk⟩

end Go.Proofs.Ytcelngepfdchiaa.disk

