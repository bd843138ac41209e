/-
  A function that ranges over a map of whatever many entries: the machine is run in every order, and what the orders leave is compared.
-/
import Derived.Test.YtejgheoandfikaaGreatDoorAmSum
set_option linter.unusedVariables false
set_option linter.unusedSimpArgs false
namespace Go.Am
noncomputable section

/-! ### one step of a range, in each order -/

def picks (p : Ptr) (r : Bk) (since clock : Nat) (seen : List Nat) (H : Heap) : List (V × V × Nat) → List (V × Heap)
  | [] => []
  | (k, v, b) :: es => (.tuple [.bool true, k, v], H.set p.b (.iter (some r) since (seen ++ [b]) clock)) :: picks p r since clock seen H es

def nextsV (H : Heap) : V → Option (List (V × Heap))
  | .ptr (some p) => match p.o.beq 0, H.get p.b with
    | true, some (.iter none _ _ _) => some [(.tuple [.bool false], H)]
    | true, some (.iter (some r) since seen last) => match mapAt H r with
      | some (es, clock) => match allLt since es && Nat.ble since last with
        | true => match leftE seen es with
          | [] => some [(.tuple [.bool false], H)]
          | e :: es => some (picks p r since clock seen H (e :: es))
        | false => none
      | none => none
    | _, _ => none
  | _ => none

theorem picks_next {p : Ptr} {r : Bk} {since clock : Nat} {seen : List Nat} {H : Heap} : ∀ {es : List (V × V × Nat)} {v : V} {H' : Heap}, (v, H') ∈ picks p r since clock seen H es → H.Upto H'
  | [], v, H', h => by cases h
  | (k, v', b) :: es, v, H', h => by
    rcases List.mem_cons.1 h with h | h
    · cases h; exact Heap.Upto.set _ _ _
    · exact picks_next h

theorem nextsV_next {H : Heap} {x : V} {outs : List (V × Heap)} (h : nextsV H x = some outs) : outs ≠ [] ∧ ∀ {v : V} {H' : Heap}, (v, H') ∈ outs → H.Upto H' := by
  unfold nextsV at h
  split at h
  · split at h
    · cases h; exact ⟨by simp, fun h => by cases List.mem_singleton.1 h; exact .refl _⟩
    · split at h
      · split at h
        · split at h
          · cases h; exact ⟨by simp, fun h => by cases List.mem_singleton.1 h; exact .refl _⟩
          · cases h; exact ⟨by simp [picks], fun h => picks_next h⟩
        · cases h
      · cases h
    · cases h
  · cases h

theorem picks_mem {p : Ptr} {r : Bk} {since clock : Nat} {seen : List Nat} {H : Heap} {ρ : Emb} : ∀ {es : List (V × V × Nat)} {xs : List MapEntry}, ERel ρ es xs → ∀ e ∈ xs, ∃ k v, VRel ρ k e.key ∧ VRel ρ v e.val ∧ (V.tuple [.bool true, k, v], H.set p.b (.iter (some r) since (seen ++ [e.born]) clock)) ∈ picks p r since clock seen H es
  | [], xs, h, e, he => by have h : xs = [] := h; subst h; cases he
  | (k, v, b) :: es, xs, h, e, he => by
    obtain ⟨y, z, ys, rfl, h1, h2, h3⟩ := h
    rcases List.mem_cons.1 he with rfl | he
    · exact ⟨k, v, h1, h2, List.mem_cons_self ..⟩
    · obtain ⟨k', v', h5, h6, h7⟩ := picks_mem h3 e he
      exact ⟨k', v', h5, h6, List.mem_cons_of_mem _ h7⟩

section
variable {P : Program} {dst : Option Nat} {ty : TypeId} {pos : String} {after : Array Edge} {guard : Option (Nat × Bool)}

theorem snd_nexts {x : Operand} {sx : S} (hx : src P x = some sx) {n : Nat} {ρ : Emb} {t : T} {a : Act} {N : Nat} {H : Heap} {w : World} {outs : List (V × Heap)} {u : V} (hg : GRel P ρ) (ht : TRel n ρ t a) (hs : Sim N ρ H.get w) (hw : H.Wf)
    (hu' : sx.get t = some u) (h : nextsV H u = some outs) :
    ∃ v H', (v, H') ∈ outs ∧ ∃ v' w', (execOp a.eval ⟨dst, .next x false, ty, pos, after, guard⟩).run P w = .ok (.value v') w' ∧ Step N ρ H w ρ H' w' ∧ VRel ρ v v' := by
  have hr := src_rel hg ht hx hu'
  unfold nextsV at h
  split at h
  · rename_i p
    obtain ⟨l, hl, he⟩ := hr
    split at h
    · rename_i ho hi
      have ho := beq_iff.1 ho
      rw [ho] at he
      obtain ⟨⟨_, h2, h3⟩, m', hb, hm⟩ := hs.obj _ _ l hi hl
      have hm : m' = none := hm
      subst hm
      rw [at'_zero h2 h3] at he
      cases h
      refine ⟨_, _, List.mem_singleton.2 rfl, _, w, ?_, Step.refl hs hw, ⟨#[.bool false], rfl, _, [], rfl, rfl, rfl⟩⟩
      simp [execOp, he, Instr.next, getObj, Sem.run, hb]
    · rename_i r since seen last ho hi
      have ho := beq_iff.1 ho
      rw [ho] at he
      obtain ⟨⟨_, h2, h3⟩, m', hb, hm⟩ := hs.obj _ _ l hi hl
      obtain ⟨lr, hlr, rfl⟩ := hm
      rw [at'_zero h2 h3] at he
      split at h
      · rename_i es clock hmap
        have hg' := mapAt_some hmap
        obtain ⟨_, es', hbm, hre⟩ := hs.obj _ _ lr hg' hlr
        split at h
        · rename_i hok
          simp only [Bool.and_eq_true] at hok
          have hold := allLt_iff hre hok.1
          have hsc := ble_iff.1 hok.2
          have hleft := leftE_rel seen hre
          have hrun := run_next_at (P := P) w ty l.c lr.c since last seen.toArray es' clock hb hbm hold hsc
          have hsz : (leftOf es' seen.toArray).toList = es'.toList.filter fun e => !seen.toArray.contains e.born := by unfold leftOf; simp
          split at h
          · rename_i hnil
            cases h
            rw [hnil] at hleft
            have hleft : es'.toList.filter (fun e => !seen.toArray.contains e.born) = [] := hleft
            rcases hrun with ⟨_, hrun⟩ | ⟨e, he', _⟩
            · refine ⟨_, _, List.mem_singleton.2 rfl, _, w, ?_, Step.refl hs hw, ⟨#[.bool false], rfl, _, [], rfl, rfl, rfl⟩⟩
              simp [execOp, he, hrun]
            · rw [hsz, hleft] at he'; cases he'
          · rename_i e0 es0 hone
            cases h
            rw [hone] at hleft
            rcases hrun with ⟨h0, _⟩ | ⟨e, he', w1, hd, hrun⟩
            · rw [← Array.length_toList, hsz] at h0
              obtain ⟨k0, v0, b0⟩ := e0
              obtain ⟨y, z, ys, hl1, _⟩ := hleft
              rw [hl1] at h0; simp at h0
            · rw [hsz] at he'
              obtain ⟨k, v, hk, hv, hmem⟩ := picks_mem (p := p) (r := r) (since := since) (clock := clock) (seen := seen) (H := H) hleft e he'
              refine ⟨_, _, hmem, _, _, ?_, iter_step e.born hs hw hl hi ⟨lr, hlr, rfl⟩ hd, ⟨#[.bool true, _, _], rfl, _, _, rfl, rfl, _, _, rfl, hk, _, _, rfl, hv, rfl⟩⟩
              simp [execOp, he, hrun]
        · cases h
      · cases h
    · cases h
  · cases h
end

/-! ### code, in each order -/

abbrev Outs := List (X × St)

/-- each outcome is followed on -/
def bindN (f : St → Option Outs) : Outs → Option Outs
  | [] => some []
  | (.n, s) :: l => match f s, bindN f l with
    | some a, some b => some (a ++ b)
    | _, _ => none
  | (x, s) :: l => (bindN f l).map ((x, s) :: ·)

theorem bindN_n {f : St → Option Outs} : ∀ {l outs : Outs} {s : St}, bindN f l = some outs → (X.n, s) ∈ l → ∃ a, f s = some a ∧ ∀ o ∈ a, o ∈ outs
  | [], _, _, _, h => by cases h
  | (.n, s0) :: l, outs, s, h, hm => by
    simp only [bindN] at h
    split at h
    · rename_i a b ha hb
      cases h
      rcases List.mem_cons.1 hm with e | hm
      · cases e; exact ⟨a, ha, fun o ho => List.mem_append_left _ ho⟩
      · obtain ⟨a', h1, h2⟩ := bindN_n hb hm
        exact ⟨a', h1, fun o ho => List.mem_append_right _ (h2 o ho)⟩
    · cases h
  | (.ex i, s0) :: l, outs, s, h, hm => by
    simp only [bindN] at h
    obtain ⟨b, hb, rfl⟩ := map_some h
    rcases List.mem_cons.1 hm with e | hm
    · cases e
    · obtain ⟨a', h1, h2⟩ := bindN_n hb hm
      exact ⟨a', h1, fun o ho => List.mem_cons_of_mem _ (h2 o ho)⟩
  | (.ret, s0) :: l, outs, s, h, hm => by
    simp only [bindN] at h
    obtain ⟨b, hb, rfl⟩ := map_some h
    rcases List.mem_cons.1 hm with e | hm
    · cases e
    · obtain ⟨a', h1, h2⟩ := bindN_n hb hm
      exact ⟨a', h1, fun o ho => List.mem_cons_of_mem _ (h2 o ho)⟩
  | (.pan v, s0) :: l, outs, s, h, hm => by
    simp only [bindN] at h
    obtain ⟨b, hb, rfl⟩ := map_some h
    rcases List.mem_cons.1 hm with e | hm
    · cases e
    · obtain ⟨a', h1, h2⟩ := bindN_n hb hm
      exact ⟨a', h1, fun o ho => List.mem_cons_of_mem _ (h2 o ho)⟩

theorem bindN_x {f : St → Option Outs} : ∀ {l outs : Outs} {x : X} {s : St}, bindN f l = some outs → x ≠ .n → (x, s) ∈ l → (x, s) ∈ outs
  | [], _, _, _, _, _, h => by cases h
  | (.n, s0) :: l, outs, x, s, h, hx, hm => by
    simp only [bindN] at h
    split at h
    · rename_i a b ha hb
      cases h
      rcases List.mem_cons.1 hm with e | hm
      · cases e; exact absurd rfl hx
      · exact List.mem_append_right _ (bindN_x hb hx hm)
    · cases h
  | (.ex i, s0) :: l, outs, x, s, h, hx, hm => by
    simp only [bindN] at h
    obtain ⟨b, hb, rfl⟩ := map_some h
    rcases List.mem_cons.1 hm with e | hm
    · cases e; exact List.mem_cons_self ..
    · exact List.mem_cons_of_mem _ (bindN_x hb hx hm)
  | (.ret, s0) :: l, outs, x, s, h, hx, hm => by
    simp only [bindN] at h
    obtain ⟨b, hb, rfl⟩ := map_some h
    rcases List.mem_cons.1 hm with e | hm
    · cases e; exact List.mem_cons_self ..
    · exact List.mem_cons_of_mem _ (bindN_x hb hx hm)
  | (.pan v, s0) :: l, outs, x, s, h, hx, hm => by
    simp only [bindN] at h
    obtain ⟨b, hb, rfl⟩ := map_some h
    rcases List.mem_cons.1 hm with e | hm
    · cases e; exact List.mem_cons_self ..
    · exact List.mem_cons_of_mem _ (bindN_x hb hx hm)

/-- what comes of a bound run comes of one of its parts -/
theorem bindN_of {f : St → Option Outs} : ∀ {l outs : Outs} {o : X × St}, bindN f l = some outs → o ∈ outs → (o ∈ l ∧ o.1 ≠ .n) ∨ ∃ s a, (X.n, s) ∈ l ∧ f s = some a ∧ o ∈ a
  | [], _, _, h, hm => by cases h; cases hm
  | (.n, s0) :: l, outs, o, h, hm => by
    simp only [bindN] at h
    split at h
    · rename_i a b ha hb
      cases h
      rcases List.mem_append.1 hm with hm | hm
      · exact .inr ⟨s0, a, List.mem_cons_self .., ha, hm⟩
      · rcases bindN_of hb hm with ⟨h1, h2⟩ | ⟨s, a', h1, h2, h3⟩
        · exact .inl ⟨List.mem_cons_of_mem _ h1, h2⟩
        · exact .inr ⟨s, a', List.mem_cons_of_mem _ h1, h2, h3⟩
    · cases h
  | (.ex i, s0) :: l, outs, o, h, hm => by
    simp only [bindN] at h
    obtain ⟨b, hb, rfl⟩ := map_some h
    rcases List.mem_cons.1 hm with rfl | hm
    · exact .inl ⟨List.mem_cons_self .., by simp⟩
    · rcases bindN_of hb hm with ⟨h1, h2⟩ | ⟨s, a', h1, h2, h3⟩
      · exact .inl ⟨List.mem_cons_of_mem _ h1, h2⟩
      · exact .inr ⟨s, a', List.mem_cons_of_mem _ h1, h2, h3⟩
  | (.ret, s0) :: l, outs, o, h, hm => by
    simp only [bindN] at h
    obtain ⟨b, hb, rfl⟩ := map_some h
    rcases List.mem_cons.1 hm with rfl | hm
    · exact .inl ⟨List.mem_cons_self .., by simp⟩
    · rcases bindN_of hb hm with ⟨h1, h2⟩ | ⟨s, a', h1, h2, h3⟩
      · exact .inl ⟨List.mem_cons_of_mem _ h1, h2⟩
      · exact .inr ⟨s, a', List.mem_cons_of_mem _ h1, h2, h3⟩
  | (.pan v, s0) :: l, outs, o, h, hm => by
    simp only [bindN] at h
    obtain ⟨b, hb, rfl⟩ := map_some h
    rcases List.mem_cons.1 hm with rfl | hm
    · exact .inl ⟨List.mem_cons_self .., by simp⟩
    · rcases bindN_of hb hm with ⟨h1, h2⟩ | ⟨s, a', h1, h2, h3⟩
      · exact .inl ⟨List.mem_cons_of_mem _ h1, h2⟩
      · exact .inr ⟨s, a', List.mem_cons_of_mem _ h1, h2, h3⟩

def outV (dst : Option (List Bool)) (s : St) : List (V × Heap) → Outs
  | [] => []
  | (v, H) :: l => (.n, ⟨setT dst v s.t, H, s.d⟩) :: outV dst s l

theorem outV_mem {dst : Option (List Bool)} {s : St} {v : V} {H : Heap} : ∀ {l : List (V × Heap)}, (v, H) ∈ l → (X.n, St.mk (setT dst v s.t) H s.d) ∈ outV dst s l
  | (v', H') :: l, h => by
    rcases List.mem_cons.1 h with e | h
    · cases e; exact List.mem_cons_self ..
    · exact List.mem_cons_of_mem _ (outV_mem h)

theorem outV_ne {dst : Option (List Bool)} {s : St} : ∀ {l : List (V × Heap)}, l ≠ [] → outV dst s l ≠ []
  | [], h => absurd rfl h
  | (v, H) :: l, _ => by simp [outV]

theorem outV_of {dst : Option (List Bool)} {s : St} {o : X × St} : ∀ {l : List (V × Heap)}, o ∈ outV dst s l → ∃ v H, (v, H) ∈ l ∧ o = (X.n, St.mk (setT dst v s.t) H s.d)
  | [], h => by cases h
  | (v', H') :: l, h => by
    rcases List.mem_cons.1 h with e | h
    · exact ⟨v', H', List.mem_cons_self .., e⟩
    · obtain ⟨v, H, h1, h2⟩ := outV_of h
      exact ⟨v, H, List.mem_cons_of_mem _ h1, h2⟩


def oneN (call : CallT) (o : IOp) (s : St) : Option Outs :=
  match runIOp call (fun t H d => some (.n, ⟨t, H, d⟩)) o s.t s.H s.d with
  | some r => some [r]
  | none => none

/-- the operand of a step of a range that no guard stands before -/
def nextX (o : Oper) : Option Operand :=
  match o.op, o.guard with
  | .next x false, none => some x
  | _, _ => none

def opN (P : Program) (n : Nat) (call : CallT) (ops : Array Oper) (o : Oper) (s : St) : Option Outs :=
  match nextX o with
  | some x => match dstOk n o.dst, (src P x).bind fun sx => sx.get s.t with
    | true, some u => match nextsV s.H u with
      | some l => some (outV (o.dst.map Tr.path) s l)
      | none => none
    | _, _ => none
  | none => oneN call (prepOper P n ops o) s

def opsN (P : Program) (n : Nat) (call : CallT) (ops : Array Oper) : List Oper → St → Option Outs
  | [], s => some [(.n, s)]
  | o :: l, s => match opN P n call ops o s with
    | some a => bindN (opsN P n call ops l) a
    | none => none

def loopN (f : St → Option Outs) : Nat → St → Option Outs
  | 0, _ => none
  | n + 1, s => match f s with
    | some a => bindN (loopN f n) a
    | none => none

def leaveB (id : Nat) : Outs → Outs
  | [] => []
  | (.ex i, s) :: l => (match i.beq id with | true => .n | false => .ex i, s) :: leaveB id l
  | o :: l => o :: leaveB id l

def codeN (P : Program) (n : Nat) (call : CallT) (lf : Nat) : Code → St → Option Outs
  | .skip, s => some [(.n, s)]
  | .label _, s => some [(.n, s)]
  | .region id ops draw, s => match draw with
    | true => match runC call lf (prepC P n (.region id ops true)) s with
      | some r => some [r]
      | none => none
    | false => opsN P n call ops ops.toList s
  | .seq a b, s => match codeN P n call lf a s with
    | some l => bindN (codeN P n call lf b) l
    | none => none
  | .cond c a b, s => match (src P c).bind fun sc => sc.get s.t with
    | some (.bool true) => codeN P n call lf a s
    | some (.bool false) => codeN P n call lf b s
    | _ => none
  | .block id a, s => (codeN P n call lf a s).map (leaveB id)
  | .loop a, s => loopN (codeN P n call lf a) lf s
  | .exit id, s => some [(.ex id, s)]
  | .scope a, s => codeN P n call lf a s
  | .ret, s => some [(.ret, s)]
  | _, _ => none


/-! ### it is the model's -/

def DoesN (s : St) (outs : Outs) (wp : (Exit → Act → World → Prop) → Act → World → Prop) (P : Program) (n : Nat) : Prop :=
  outs ≠ [] ∧ (∀ o ∈ outs, s.H.Upto o.2.H) ∧ ∀ (N : Nat) (ρ : Emb) (a : Act) (w : World), Rel P n N ρ s.t s.H s.d a w → (∀ o ∈ outs, Free ρ s.H o.2.H) → ∀ (Q : Exit → Act → World → Prop),
    (∀ o ∈ outs, ∀ ρ' a' w' e, ExitRel ρ' o.1 e → Step N ρ s.H w ρ' o.2.H w' → Rel P n N ρ' o.2.t o.2.H o.2.d a' w' → Q e a' w') → wp Q a w

theorem oneN_some {call : CallT} {o : IOp} {s : St} {outs : Outs} (h : oneN call o s = some outs) : ∃ r, runIOp call (fun t H d => some (.n, ⟨t, H, d⟩)) o s.t s.H s.d = some r ∧ outs = [r] := by
  unfold oneN at h
  split at h
  · rename_i r hr; cases h; exact ⟨r, hr, rfl⟩
  · cases h

theorem bindN_upto {f : St → Option Outs} (hf : ∀ s outs, f s = some outs → ∀ o ∈ outs, s.H.Upto o.2.H) {H : Heap} {l outs : Outs} (hl : ∀ o ∈ l, H.Upto o.2.H) (h : bindN f l = some outs) : ∀ o ∈ outs, H.Upto o.2.H := fun o ho => by
  rcases bindN_of h ho with ⟨h1, _⟩ | ⟨s, a, h1, h2, h3⟩
  · exact hl o h1
  · exact (hl _ h1).trans (hf s a h2 o h3)

theorem bindN_ne {f : St → Option Outs} (hf : ∀ s outs, f s = some outs → outs ≠ []) : ∀ {l outs : Outs}, l ≠ [] → bindN f l = some outs → outs ≠ []
  | [], _, h, _ => absurd rfl h
  | (.n, s0) :: l, outs, _, h => by
    simp only [bindN] at h
    split at h
    · rename_i a b ha hb
      cases h
      have := hf s0 a ha
      intro e
      exact this (List.append_eq_nil_iff.1 e).1
    · cases h
  | (.ex i, s0) :: l, outs, _, h => by
    simp only [bindN] at h
    obtain ⟨b, hb, rfl⟩ := map_some h
    simp
  | (.ret, s0) :: l, outs, _, h => by
    simp only [bindN] at h
    obtain ⟨b, hb, rfl⟩ := map_some h
    simp
  | (.pan v, s0) :: l, outs, _, h => by
    simp only [bindN] at h
    obtain ⟨b, hb, rfl⟩ := map_some h
    simp

theorem opsN_sound {P : Program} {n : Nat} {call : CallT} (hcall : CallSnd P call) {ops : Array Oper} : ∀ (ls : List Oper) (k : Nat) (s : St) (outs : Outs),
    (∀ i o, ls[i]? = some o → ops[k + i]? = some o) → opsN P n call ops ls s = some outs → DoesN s outs (fun Q => wpOps P ops Q (List.range' k ls.length)) P n
  | [], k, s, outs, hsub, h => by
    cases h
    refine ⟨by simp, fun o ho => by cases List.mem_singleton.1 ho; exact .refl _, fun N ρ a w r hfree Q hQ => ?_⟩
    exact hQ _ (List.mem_singleton.2 rfl) ρ a w _ rfl r.refl r
  | o :: ls, k, s, outs, hsub, h => by
    have ho : ops[k]? = some o := hsub 0 o rfl
    have hsub' : ∀ i o', ls[i]? = some o' → ops[k + 1 + i]? = some o' := fun i o' hi => by
      have := hsub (i + 1) o' (by simpa using hi)
      rwa [show k + (i + 1) = k + 1 + i by omega] at this
    have ih : ∀ (s : St) (outs : Outs), opsN P n call ops ls s = some outs → DoesN s outs (fun Q => wpOps P ops Q (List.range' (k + 1) ls.length)) P n := fun s outs h => opsN_sound hcall ls (k + 1) s outs hsub' h
    simp only [opsN] at h
    split at h
    · rename_i a hop
      unfold opN at hop
      split at hop
      · rename_i x hnx
        split at hop
        · rename_i u hdst hu
          split at hop
          · rename_i l hl
            cases hop
            cases hsx : src P x with
            | none => rw [hsx] at hu; cases hu
            | some sx =>
              rw [hsx] at hu
              have hu : sx.get s.t = some u := hu
              have hup : ∀ o' ∈ outV (o.dst.map Tr.path) s l, s.H.Upto o'.2.H := fun o' ho' => by
                obtain ⟨v, H, h1, rfl⟩ := outV_of ho'
                exact (nextsV_next hl).2 h1
              refine ⟨bindN_ne (fun s outs h => (ih s outs h).1) (outV_ne (nextsV_next hl).1) h, bindN_upto (fun s outs h => (ih s outs h).2.1) hup h, fun N ρ a w r hfree Q hQ => ?_⟩
              obtain ⟨dst, op, ty, pos, after, guard⟩ := o
              have hnx' : op = .next x false ∧ guard = none := by
                unfold nextX at hnx
                split at hnx
                · rename_i h1 h2
                  cases hnx
                  exact ⟨h1, h2⟩
                · cases hnx
              obtain ⟨rfl, rfl⟩ := hnx'
              obtain ⟨v, H', hm, v', w', hrun, hst, hv⟩ := snd_nexts (dst := dst) (ty := ty) (pos := pos) (after := after) (guard := none) hsx r.g r.t r.s r.wf hu hl
              simp only [List.length_cons, List.range'_succ, wpOps, ho]
              rw [if_pos (by simp [Region.wanted])]
              refine .inl ?_
              unfold Oper.wp
              rw [hrun, Oper.upon_value]
              have r' := (r.step hst).put hv (.inl hdst)
              have hmem := outV_mem (dst := dst.map Tr.path) (s := s) hm
              obtain ⟨a2, h2, hsub2⟩ := bindN_n h hmem
              obtain ⟨hne, hn2, hrest⟩ := ih _ a2 h2
              exact hrest N ρ _ w' r' (fun o' ho' => (hfree o' (hsub2 o' ho')).right ((nextsV_next hl).2 hm) hst) Q (fun o' ho' ρ2 a3 w2 e he st2 r2 => hQ o' (hsub2 o' ho') ρ2 a3 w2 e he (hst.trans st2) r2)
          · cases hop
        · cases hop
      · obtain ⟨r, hrun, rfl⟩ := oneN_some hop
        unfold runIOp at hrun
        split at hrun
        · rename_i hwant
          split at hrun
          · rename_i sp hs
            obtain ⟨hdst, hprep⟩ : dstOk n o.dst = true ∧ prep P o.op = some sp := by
              unfold prepOper at hs
              dsimp only at hs
              split at hs
              · rename_i hd; exact ⟨hd, hs⟩
              · cases hs
            have hsnd : OpSnd P o sp := by
              obtain ⟨dst, op, ty, pos, after, guard⟩ := o
              exact prep_sound hprep
            obtain ⟨x, s1⟩ := r
            rcases runOp_does hcall hsnd hdst hrun with ⟨t1, H1, d1, hk, hn, hdoes⟩ | ⟨v, H1, rfl, rfl, hn, hpans⟩
            · cases hk
              have hup : ∀ o' ∈ [(X.n, St.mk t1 H1 d1)], s.H.Upto o'.2.H := fun o' ho' => by cases List.mem_singleton.1 ho'; exact hn
              refine ⟨bindN_ne (fun s outs h => (ih s outs h).1) (by simp) h, bindN_upto (fun s outs h => (ih s outs h).2.1) hup h, fun N ρ a w r hfree Q hQ => ?_⟩
              obtain ⟨a2, h2, hsub2⟩ := bindN_n h (List.mem_singleton.2 rfl)
              obtain ⟨hne, hn2, hrest⟩ := ih _ a2 h2
              simp only [List.length_cons, List.range'_succ, wpOps, ho]
              rw [if_pos (wanted_rel r.t hwant)]
              obtain ⟨o2, ho2⟩ := List.exists_mem_of_ne_nil _ hne
              refine .inl (hdoes N ρ a w r ((hfree o2 (hsub2 o2 ho2)).left (hn2 o2 ho2)) _ _ (fun ρ1 a1 w1 hstep hrel => ?_))
              exact hrest N ρ1 a1 w1 hrel (fun o' ho' => (hfree o' (hsub2 o' ho')).right hn hstep) Q (fun o' ho' ρ2 a3 w2 e he st2 r2 => hQ o' (hsub2 o' ho') ρ2 a3 w2 e he (hstep.trans st2) r2)
            · have hin : (X.pan v, St.mk s.t H1 s.d) ∈ outs := bindN_x h (by simp) (List.mem_singleton.2 rfl)
              have hup : ∀ o' ∈ [(X.pan v, St.mk s.t H1 s.d)], s.H.Upto o'.2.H := fun o' ho' => by cases List.mem_singleton.1 ho'; exact hn
              refine ⟨bindN_ne (fun s outs h => (ih s outs h).1) (by simp) h, bindN_upto (fun s outs h => (ih s outs h).2.1) hup h, fun N ρ a w r hfree Q hQ => ?_⟩
              simp only [List.length_cons, List.range'_succ, wpOps, ho]
              rw [if_pos (wanted_rel r.t hwant)]
              exact .inl (hpans N ρ a w r (hfree _ hin) _ _ (fun ρ1 w1 x hstep hv => hQ _ hin ρ1 a w1 _ ⟨x, rfl, hv⟩ hstep (r.step hstep)))
          · cases hrun
        · rename_i hwant
          cases hrun
          have hup : ∀ o' ∈ [(X.n, St.mk (setT (prepOper P n ops o).dst undef s.t) s.H s.d)], s.H.Upto o'.2.H := fun o' ho' => by cases List.mem_singleton.1 ho'; exact .refl _
          refine ⟨bindN_ne (fun s outs h => (ih s outs h).1) (by simp) h, bindN_upto (fun s outs h => (ih s outs h).2.1) hup h, fun N ρ a w r hfree Q hQ => ?_⟩
          obtain ⟨a2, h2, hsub2⟩ := bindN_n h (List.mem_singleton.2 rfl)
          simp only [List.length_cons, List.range'_succ, wpOps, ho]
          rw [if_neg (by rw [wanted_rel r.t hwant]; decide)]
          exact (ih _ a2 h2).2.2 N ρ _ w (r.put (VRel.undef _) (.inr ⟨rfl, rfl⟩)) (fun o' ho' => hfree o' (hsub2 o' ho')) Q (fun o' ho' => hQ o' (hsub2 o' ho'))
        · cases hrun
    · cases h

theorem loopN_ne {f : St → Option Outs} (hf : ∀ s outs, f s = some outs → outs ≠ []) : ∀ (m : Nat) (s : St) (outs : Outs), loopN f m s = some outs → outs ≠ []
  | 0, s, outs, h => by cases h
  | m + 1, s, outs, h => by
    simp only [loopN] at h
    split at h
    · rename_i a ha
      exact bindN_ne (fun s o => loopN_ne hf m s o) (hf _ _ ha) h
    · cases h

theorem loopN_upto {f : St → Option Outs} (hf : ∀ s outs, f s = some outs → ∀ o ∈ outs, s.H.Upto o.2.H) : ∀ (m : Nat) (s : St) (outs : Outs), loopN f m s = some outs → ∀ o ∈ outs, s.H.Upto o.2.H
  | 0, s, outs, h => by cases h
  | m + 1, s, outs, h => by
    simp only [loopN] at h
    split at h
    · rename_i a ha
      exact bindN_upto (fun s o => loopN_upto hf m s o) (hf _ _ ha) h
    · cases h

theorem leaveB_of {id : Nat} : ∀ {l : Outs} {o : X × St}, o ∈ leaveB id l → (∃ s, o = (.n, s) ∧ (X.ex id, s) ∈ l) ∨ (o ∈ l ∧ ∀ i, o.1 = .ex i → i ≠ id)
  | [], _, h => by cases h
  | (.ex i, s) :: l, o, h => by
    simp only [leaveB] at h
    rcases List.mem_cons.1 h with rfl | h
    · cases hi : i.beq id with
      | true => have := beq_iff.1 hi; subst this; exact .inl ⟨s, rfl, List.mem_cons_self ..⟩
      | false =>
        refine .inr ⟨List.mem_cons_self .., fun j hj => ?_⟩
        cases hj
        intro e
        subst e
        rw [beq_iff.2 rfl] at hi; cases hi
    · rcases leaveB_of h with ⟨s', h1, h2⟩ | ⟨h1, h2⟩
      · exact .inl ⟨s', h1, List.mem_cons_of_mem _ h2⟩
      · exact .inr ⟨List.mem_cons_of_mem _ h1, h2⟩
  | (.n, s) :: l, o, h => by
    simp only [leaveB] at h
    rcases List.mem_cons.1 h with rfl | h
    · exact .inr ⟨List.mem_cons_self .., fun i e => by cases e⟩
    · rcases leaveB_of h with ⟨s', h1, h2⟩ | ⟨h1, h2⟩
      · exact .inl ⟨s', h1, List.mem_cons_of_mem _ h2⟩
      · exact .inr ⟨List.mem_cons_of_mem _ h1, h2⟩
  | (.ret, s) :: l, o, h => by
    simp only [leaveB] at h
    rcases List.mem_cons.1 h with rfl | h
    · exact .inr ⟨List.mem_cons_self .., fun i e => by cases e⟩
    · rcases leaveB_of h with ⟨s', h1, h2⟩ | ⟨h1, h2⟩
      · exact .inl ⟨s', h1, List.mem_cons_of_mem _ h2⟩
      · exact .inr ⟨List.mem_cons_of_mem _ h1, h2⟩
  | (.pan v, s) :: l, o, h => by
    simp only [leaveB] at h
    rcases List.mem_cons.1 h with rfl | h
    · exact .inr ⟨List.mem_cons_self .., fun i e => by cases e⟩
    · rcases leaveB_of h with ⟨s', h1, h2⟩ | ⟨h1, h2⟩
      · exact .inl ⟨s', h1, List.mem_cons_of_mem _ h2⟩
      · exact .inr ⟨List.mem_cons_of_mem _ h1, h2⟩

theorem leaveB_in {id : Nat} : ∀ {l : Outs} {x : X} {s : St}, (x, s) ∈ l → (match x with | .ex i => (match i.beq id with | true => X.n | false => .ex i, s) | x => (x, s)) ∈ leaveB id l
  | (.ex i, s0) :: l, x, s, h => by
    rcases List.mem_cons.1 h with e | h
    · cases e; exact List.mem_cons_self ..
    · exact List.mem_cons_of_mem _ (leaveB_in h)
  | (.n, s0) :: l, x, s, h => by
    rcases List.mem_cons.1 h with e | h
    · cases e; exact List.mem_cons_self ..
    · exact List.mem_cons_of_mem _ (leaveB_in h)
  | (.ret, s0) :: l, x, s, h => by
    rcases List.mem_cons.1 h with e | h
    · cases e; exact List.mem_cons_self ..
    · exact List.mem_cons_of_mem _ (leaveB_in h)
  | (.pan v, s0) :: l, x, s, h => by
    rcases List.mem_cons.1 h with e | h
    · cases e; exact List.mem_cons_self ..
    · exact List.mem_cons_of_mem _ (leaveB_in h)

theorem leaveB_ne {id : Nat} : ∀ {l : Outs}, l ≠ [] → leaveB id l ≠ []
  | [], h => absurd rfl h
  | (.ex i, s) :: l, _ => by simp [leaveB]
  | (.n, s) :: l, _ => by simp [leaveB]
  | (.ret, s) :: l, _ => by simp [leaveB]
  | (.pan v, s) :: l, _ => by simp [leaveB]

theorem codeN_one {s s' : St} {x : X} {P : Program} {n : Nat} {c : Code} (h : CodeDoes P n c s x s') : DoesN s [(x, s')] (fun Q => c.wp P Q) P n :=
  ⟨by simp, fun o ho => by cases List.mem_singleton.1 ho; exact h.1, fun N ρ a w r hfree Q hQ => h.2 N ρ a w r (hfree _ (List.mem_singleton.2 rfl)) Q (fun ρ' a' w' e => hQ _ (List.mem_singleton.2 rfl) ρ' a' w' e)⟩

theorem codeN_sound {P : Program} {n : Nat} {call : CallT} (hcall : CallSnd P call) (lf : Nat) : ∀ (c : Code) (s : St) (outs : Outs), codeN P n call lf c s = some outs → DoesN s outs (fun Q => c.wp P Q) P n := by
  intro c
  induction c with
  | skip => intro s outs h; cases h; exact codeN_one ⟨.refl _, fun N ρ a w r _ Q hQ => wp_skip (hQ ρ a w _ rfl r.refl r)⟩
  | label l => intro s outs h; cases h; exact codeN_one ⟨.refl _, fun N ρ a w r _ Q hQ => wp_label (hQ ρ a w _ rfl r.refl r)⟩
  | region id ops draw =>
    intro s outs h
    cases draw with
    | true =>
      simp only [codeN] at h
      split at h
      · rename_i r hr
        cases h
        obtain ⟨x, s'⟩ := r
        exact codeN_one (code_sound hcall lf _ s x s' hr)
      · cases h
    | false =>
      have h : opsN P n call ops ops.toList s = some outs := h
      obtain ⟨hne, hn, hrest⟩ := opsN_sound hcall ops.toList 0 s outs (fun i o hi => by simpa using hi) h
      refine ⟨hne, hn, fun N ρ a w r hfree Q hQ => wp_region ?_⟩
      have := hrest N ρ a w r hfree Q hQ
      rwa [Array.length_toList, ← List.range_eq_range'] at this
  | seq a b iha ihb =>
    intro s outs h
    simp only [codeN] at h
    split at h
    · rename_i l hl
      obtain ⟨ne1, n1, d1⟩ := iha s l hl
      have up := bindN_upto (fun s outs h => (ihb s outs h).2.1) n1 h
      refine ⟨bindN_ne (fun s outs h => (ihb s outs h).1) ne1 h, up, fun N ρ ac w r hfree Q hQ => wp_seq ?_⟩
      refine d1 N ρ ac w r (fun o ho => ?_) _ (fun o ho ρ1 a1 w1 e1 he1 st1 r1 => ?_)
      · obtain ⟨x, s1⟩ := o
        by_cases hx : x = .n
        · subst hx
          obtain ⟨a2, h2, hsub⟩ := bindN_n h ho
          obtain ⟨ne2, n2, _⟩ := ihb s1 a2 h2
          obtain ⟨o2, ho2⟩ := List.exists_mem_of_ne_nil _ ne2
          exact (hfree o2 (hsub o2 ho2)).left (n2 o2 ho2)
        · exact hfree _ (bindN_x h hx ho)
      · obtain ⟨x, s1⟩ := o
        by_cases hx : x = .n
        · subst hx
          have he1 : e1 = _ := he1
          subst he1
          obtain ⟨a2, h2, hsub⟩ := bindN_n h ho
          obtain ⟨ne2, n2, d2⟩ := ihb s1 a2 h2
          exact d2 N ρ1 a1 w1 r1 (fun o2 ho2 => (hfree o2 (hsub o2 ho2)).right (n1 _ ho) st1) Q (fun o2 ho2 ρ2 a2 w2 e he st2 r2 => hQ o2 (hsub o2 ho2) ρ2 a2 w2 e he (st1.trans st2) r2)
        · exact exit_then he1 hx (hQ _ (bindN_x h hx ho) ρ1 a1 w1 e1 he1 st1 r1)
    · cases h
  | cond c a b iha ihb =>
    intro s outs h
    simp only [codeN] at h
    cases hc : src P c with
    | none => rw [hc] at h; simp at h
    | some sc =>
      rw [hc] at h
      simp only [Option.bind_some] at h
      split at h
      · rename_i hv
        obtain ⟨ne1, n1, d1⟩ := iha s outs h
        exact ⟨ne1, n1, fun N ρ ac w r hfree Q hQ => wp_cond_true (src_rel r.g r.t hc hv) (d1 N ρ ac w r hfree Q hQ)⟩
      · rename_i hv
        obtain ⟨ne1, n1, d1⟩ := ihb s outs h
        exact ⟨ne1, n1, fun N ρ ac w r hfree Q hQ => wp_cond_false (src_rel r.g r.t hc hv) (d1 N ρ ac w r hfree Q hQ)⟩
      · cases h
  | block id a iha =>
    intro s outs h
    simp only [codeN] at h
    obtain ⟨l, hl, rfl⟩ := map_some h
    obtain ⟨ne1, n1, d1⟩ := iha s l hl
    refine ⟨leaveB_ne ne1, fun o ho => ?_, fun N ρ ac w r hfree Q hQ => wp_block (d1 N ρ ac w r (fun o ho => ?_) _ (fun o ho ρ1 a1 w1 e he st1 r1 => ?_))⟩
    · rcases leaveB_of ho with ⟨s', rfl, h1⟩ | ⟨h1, _⟩
      · exact (n1 (.ex id, s') h1 : s.H.Upto s'.H)
      · exact n1 _ h1
    · obtain ⟨x, s1⟩ := o
      have := hfree _ (leaveB_in (id := id) ho)
      cases x <;> exact this
    · obtain ⟨x, s1⟩ := o
      have := hQ _ (leaveB_in (id := id) ho) ρ1 a1 w1
      cases x with
      | n => have he : e = _ := he; subst he; exact this _ rfl st1 r1
      | ret => have he : e = _ := he; subst he; exact this _ rfl st1 r1
      | pan v => obtain ⟨y, rfl, hy⟩ := he; exact this _ ⟨y, rfl, hy⟩ st1 r1
      | ex i =>
        have he : e = _ := he
        subst he
        cases hi : i.beq id with
        | true =>
          have hid := beq_iff.1 hi
          subst hid
          simp only [hi] at this
          simp only [Exit.inBlock, if_true]
          exact this _ rfl st1 r1
        | false =>
          have hid := beq_false.1 hi
          simp only [hi] at this
          simp only [Exit.inBlock, if_neg hid]
          exact this _ rfl st1 r1
  | loop c0 iha =>
    intro s outs h
    have h : loopN (codeN P n call lf c0) lf s = some outs := h
    have hne := loopN_ne (f := codeN P n call lf c0) (fun s o h => (iha s o h).1)
    have hup := loopN_upto (f := codeN P n call lf c0) (fun s o h => (iha s o h).2.1)
    refine ⟨hne lf s outs h, hup lf s outs h, fun N ρ a0 w0 r hfree Q hQ => ?_⟩
    refine wp_loop_nat (fun m a w => ∃ sc ρc l, loopN (codeN P n call lf c0) m sc = some l ∧ (∀ o ∈ l, o ∈ outs) ∧ Step N ρ s.H w0 ρc sc.H w ∧ Rel P n N ρc sc.t sc.H sc.d a w ∧ (∀ o ∈ l, Free ρc sc.H o.2.H)) (n := lf) ⟨s, ρ, outs, h, fun o ho => ho, r.refl, r, hfree⟩ ?_
    rintro m ac w ⟨sc, ρc, l, hl, hsub, st, rc, fc⟩
    cases m with
    | zero => cases hl
    | succ m =>
      simp only [loopN] at hl
      split at hl
      · rename_i a1 ha1
        obtain ⟨ne1, n1, d1⟩ := iha sc a1 ha1
        refine d1 N ρc ac w rc (fun o ho => ?_) _ (fun o ho ρ1 a1 w1 e he st1 r1 => ?_)
        · obtain ⟨x, s1⟩ := o
          by_cases hx : x = .n
          · subst hx
            obtain ⟨a2, h2, hs2⟩ := bindN_n hl ho
            obtain ⟨o2, ho2⟩ := List.exists_mem_of_ne_nil _ (hne m s1 a2 h2)
            exact (fc o2 (hs2 o2 ho2)).left (hup m s1 a2 h2 o2 ho2)
          · exact fc _ (bindN_x hl hx ho)
        · obtain ⟨x, s1⟩ := o
          by_cases hx : x = .n
          · subst hx
            have he : e = _ := he
            subst he
            obtain ⟨a2, h2, hs2⟩ := bindN_n hl ho
            exact ⟨m, Nat.lt_succ_self m, s1, ρ1, a2, h2, fun o2 ho2 => hsub o2 (hs2 o2 ho2), st.trans st1, r1, fun o2 ho2 => (fc o2 (hs2 o2 ho2)).right (n1 _ ho) st1⟩
          · exact exit_then he hx (hQ _ (hsub _ (bindN_x hl hx ho)) ρ1 a1 w1 e he (st.trans st1) r1)
      · cases hl
  | exit id => intro s outs h; cases h; exact codeN_one ⟨.refl _, fun N ρ a w r _ Q hQ => wp_exit (hQ ρ a w _ rfl r.refl r)⟩
  | scope a iha =>
    intro s outs h
    obtain ⟨ne1, n1, d1⟩ := iha s outs h
    refine ⟨ne1, n1, fun N ρ ac w r hfree Q hQ => wp_scope_straight (d1 N ρ ac w r hfree _ (fun o ho ρ1 a1 w1 e he st1 r1 => ?_))⟩
    have := hQ o ho ρ1 a1 w1 e he st1 r1
    obtain ⟨x, s1⟩ := o
    cases x with
    | n => have he : e = _ := he; subst he; exact this
    | ex id' => have he : e = _ := he; subst he; exact this
    | ret => have he : e = _ := he; subst he; exact this
    | pan v => obtain ⟨y, rfl, _⟩ := he; exact this
  | ret => intro s outs h; cases h; exact codeN_one ⟨.refl _, fun N ρ a w r _ Q hQ => wp_ret (hQ ρ a w _ rfl r.refl r)⟩
  | goto l => intro s outs h; cases h
  | rangeFunc => intro s outs h; cases h
  | refuse => intro s outs h; cases h

/-! ### what the orders leave is compared -/

def Heap.bare (H : Heap) : Heap := ⟨H.m, H.next, fun _ => none, H.q⟩

theorem bare_step {N : Nat} {ρ ρ' : Emb} {H H1 : Heap} {w w' : World} (hs : Sim N ρ H.get w) (hw : H.Wf) (st : Step N ρ H.bare w ρ' H1 w') : Step N ρ H w ρ' ⟨H1.m, H1.next, H.a, H1.q⟩ w' := by
  have hlow := hs.low
  have bg : ∀ b o, H.bare.get b = some o → H.get b = some o ∧ ∃ n, b = .run n := fun b o h => by
    cases b with
    | run n => exact ⟨h, n, rfl⟩
    | arg n => cases h
  have argρ : ∀ n l, ρ' (.arg n) = some l → ρ (.arg n) = some l := fun n l h => by
    rcases st.new _ l h with h' | ⟨⟨m, e, _⟩, _⟩
    · exact h'
    · cases e
  have argsame : ∀ n l o, ρ (.arg n) = some l → H.a n = some o → o.live → w'.heap[l.c]? = w.heap[l.c]? := fun n l o h ho hl =>
    st.frame l.c ((hs.obj (.arg n) o l ho h).live_lt hl) (fun b l0 o0 h1 h2 h3 h4 => by
      obtain ⟨h2', m, rfl⟩ := bg b o0 h2
      exact hs.inj (.run m) (.arg n) l0 l o0 o (by simp) h1 h h2' h3 ho hl h4)
  have mixed : ∀ n m l l' o o', ρ' (.arg n) = some l → ρ' (.run m) = some l' → H.a n = some o → o.live → H1.get (.run m) = some o' → o'.live → l.c ≠ l'.c := fun n m l l' o o' h h' ho hl ho' hl' e => by
    have hn := argρ n l h
    have hlt := (hs.obj (.arg n) o l ho hn).live_lt hl
    rcases st.image h' ho' hl' with h1 | ⟨b0, l0, o0, h1, h2, h3, h4⟩
    · omega
    · obtain ⟨h2', k, rfl⟩ := bg b0 o0 h2
      exact hs.inj (.run k) (.arg n) l0 l o0 o (by simp) h1 hn h2' h3 ho hl (h4.trans e.symm)
  refine ⟨st.os, st.tape, st.output, st.size, st.ext, fun b l h => ?_, ⟨fun b o l ho hr => ?_, fun b b' l l' o o' hbb h1 h2 h3 h4 h5 h6 => ?_, st.sim.low⟩, fun b o h => ?_, st.next, st.pre, fun c hc hno => ?_, fun b hb hn => ?_, fun b o hb ho hl => ?_⟩
  · rcases st.new b l h with h' | ⟨h1, h2⟩
    · exact .inl h'
    · refine .inr ⟨h1, h2.imp id ?_⟩
      rintro ⟨b0, l0, o0, k1, k2, k3, k4⟩
      exact ⟨b0, l0, o0, k1, (bg b0 o0 k2).1, k3, k4⟩
  · cases b with
    | run n => exact st.sim.obj (.run n) o l ho hr
    | arg n =>
      have hn := argρ n l hr
      have ho : H.a n = some o := ho
      refine ((hs.obj (.arg n) o l ho hn).mono st.ext).frame (fun c hc => st.frame c (by omega) (fun b0 l0 o0 h1 h2 h3 h4 => ?_)) (fun hl => argsame n l o hn ho hl)
      have := (hs.obj b0 o0 l0 (bg b0 o0 h2).1 h1).live_ge h3
      omega
  · cases b with
    | run n =>
      cases b' with
      | run m => exact st.sim.inj (.run n) (.run m) l l' o o' hbb h1 h2 h3 h4 h5 h6
      | arg m => exact fun e => mixed m n l' l o' o h2 h1 h5 h6 h3 h4 e.symm
    | arg n =>
      cases b' with
      | run m => exact mixed n m l l' o o' h1 h2 h3 h4 h5 h6
      | arg m => exact hs.inj (.arg n) (.arg m) l l' o o' hbb (argρ n l h1) (argρ m l' h2) h3 h4 h5 h6
  · cases b with
    | run n => exact st.wf (.run n) o h
    | arg n => trivial
  · exact st.frame c hc (fun b l o h1 h2 h3 => hno b l o h1 (bg b o h2).1 h3)
  · cases b with
    | run n => exact st.keep (.run n) hb hn
    | arg n => rfl
  · cases b with
    | run n =>
      obtain ⟨o', h1, h2⟩ := st.was (.run n) o hb ho hl
      exact ⟨o', h1, h2⟩
    | arg n => exact ⟨o, ho, hl⟩

def markM (m : Tr Obj) : List Nat → Tr Obj
  | [] => m
  | k :: ks => (markM m ks).setP (Tr.path k) .dead

theorem markM_get (m : Tr Obj) (b : Nat) : ∀ ks : List Nat, (markM m ks).getP (Tr.path b) = if b ∈ ks then some .dead else m.getP (Tr.path b)
  | [] => by simp [markM]
  | k :: ks => by
    simp only [markM, Tr.get_set, Tr.path_eq, markM_get m b ks]
    by_cases h : b = k
    · subst h; simp
    · simp [h]

theorem mark_step {N : Nat} {ρ ρ' : Emb} {H H1 : Heap} {w w' : World} (ks : List Nat) (hk : ∀ k ∈ ks, H.next ≤ k ∧ k < H1.next) (q : List (Option V × Option V)) (st : Step N ρ H w ρ' H1 w') : Step N ρ H w ρ' ⟨markM H1.m ks, H1.next, H1.a, q⟩ w' := by
  have g : ∀ b o, (Heap.mk (markM H1.m ks) H1.next H1.a q).get b = some o → (o = .dead ∧ ∃ k ∈ ks, b = .run k) ∨ H1.get b = some o := fun b o h => by
    cases b with
    | arg n => exact .inr h
    | run n =>
      have h : (markM H1.m ks).getP (Tr.path n) = some o := h
      rw [markM_get] at h
      split at h
      · rename_i hm; cases h; exact .inl ⟨rfl, n, hm, rfl⟩
      · exact .inr h
  have gl : ∀ b o, (Heap.mk (markM H1.m ks) H1.next H1.a q).get b = some o → o.live → H1.get b = some o := fun b o h hl => by
    rcases g b o h with ⟨rfl, _⟩ | h
    · exact hl.elim
    · exact h
  refine ⟨st.os, st.tape, st.output, st.size, st.ext, st.new, ⟨fun b o l ho hr => ?_, fun b b' l l' o o' hbb h1 h2 h3 h4 h5 h6 => st.sim.inj b b' l l' o o' hbb h1 h2 (gl _ _ h3 h4) h4 (gl _ _ h5 h6) h6, st.sim.low⟩, fun b o h => ?_, st.next, st.pre, st.frame, fun b hb hn => ?_, fun b o hb ho hl => st.was b o hb (gl _ _ ho hl) hl⟩
  · rcases g b o ho with ⟨rfl, _⟩ | h
    · trivial
    · exact st.sim.obj b o l h hr
  · rcases g b o h with ⟨_, k, hkm, rfl⟩ | h
    · exact (hk k hkm).2
    · exact st.wf b o h
  · rw [← st.keep b hb hn]
    cases b with
    | arg n => rfl
    | run n =>
      have hb : n < H.next := hb
      show (markM H1.m ks).getP (Tr.path n) = H1.m.getP (Tr.path n)
      rw [markM_get, if_neg (fun hm => by have := (hk n hm).1; omega)]

def eqEs : List (V × V × Nat) → List (V × V × Nat) → Bool
  | [], [] => true
  | (a, b, n) :: l, (a', b', n') :: l' => eqV 20 a a' && eqV 20 b b' && n.beq n' && eqEs l l'
  | _, _ => false
def eqRows : List (List V) → List (List V) → Bool
  | [], [] => true
  | r :: l, r' :: l' => eqVs (eqV 20) r r' && eqRows l l'
  | _, _ => false
def eqNs : List Nat → List Nat → Bool
  | [], [] => true
  | n :: l, m :: l' => n.beq m && eqNs l l'
  | _, _ => false
def eqOB : Option Bk → Option Bk → Bool
  | none, none => true
  | some a, some b => a.beq b
  | _, _ => false

def eqOb : Obj → Obj → Bool
  | .rows a n r, .rows a' n' r' => eqB a a' && n.beq n' && eqRows r r'
  | .map es c, .map es' c' => c.beq c' && eqEs es es'
  | .box v, .box v' => eqV 20 v v'
  | .iter m a s l, .iter m' a' s' l' => eqOB m m' && a.beq a' && eqNs s s' && l.beq l'
  | .dead, .dead => true
  | _, _ => false
def eqOO : Option Obj → Option Obj → Bool
  | none, none => true
  | some a, some b => eqOb a b
  | _, _ => false

def eqTr : Tr Obj → Tr Obj → Bool
  | .e, .e => true
  | .n l o r, .n l' o' r' => match eqOO o o' with
    | true => match eqTr l l' with
      | true => eqTr r r'
      | false => false
    | false => false
  | _, _ => false

theorem eqB_iff {a b : Bool} (h : eqB a b = true) : a = b := by cases a <;> cases b <;> first | rfl | cases h
theorem eqEs_iff : ∀ {l l' : List (V × V × Nat)}, eqEs l l' = true → l = l'
  | [], [], _ => rfl
  | (a, b, n) :: l, (a', b', n') :: l', h => by
    simp only [eqEs, Bool.and_eq_true] at h
    rw [eqV_iff _ _ _ h.1.1.1, eqV_iff _ _ _ h.1.1.2, beq_iff.1 h.1.2, eqEs_iff h.2]
  | [], _ :: _, h => by cases h
  | _ :: _, [], h => by cases h
theorem eqRows_iff : ∀ {l l' : List (List V)}, eqRows l l' = true → l = l'
  | [], [], _ => rfl
  | r :: l, r' :: l', h => by
    simp only [eqRows, Bool.and_eq_true] at h
    rw [eqVs_iff (eqV_iff 20) _ _ h.1, eqRows_iff h.2]
  | [], _ :: _, h => by cases h
  | _ :: _, [], h => by cases h
theorem eqNs_iff : ∀ {l l' : List Nat}, eqNs l l' = true → l = l'
  | [], [], _ => rfl
  | n :: l, m :: l', h => by
    simp only [eqNs, Bool.and_eq_true] at h
    rw [beq_iff.1 h.1, eqNs_iff h.2]
  | [], _ :: _, h => by cases h
  | _ :: _, [], h => by cases h
theorem eqOB_iff : ∀ {a b : Option Bk}, eqOB a b = true → a = b
  | none, none, _ => rfl
  | some a, some b, h => by rw [Bk.beq_iff.1 h]
  | none, some _, h => by cases h
  | some _, none, h => by cases h
theorem eqOb_iff {a b : Obj} (h : eqOb a b = true) : a = b := by
  unfold eqOb at h
  split at h
  · simp only [Bool.and_eq_true] at h
    rw [eqB_iff h.1.1, beq_iff.1 h.1.2, eqRows_iff h.2]
  · simp only [Bool.and_eq_true] at h
    rw [beq_iff.1 h.1, eqEs_iff h.2]
  · rw [eqV_iff _ _ _ h]
  · simp only [Bool.and_eq_true] at h
    rw [eqOB_iff h.1.1.1, beq_iff.1 h.1.1.2, eqNs_iff h.1.2, beq_iff.1 h.2]
  · rfl
  · cases h
theorem eqOO_iff : ∀ {a b : Option Obj}, eqOO a b = true → a = b
  | none, none, _ => rfl
  | some a, some b, h => by rw [eqOb_iff h]
  | none, some _, h => by cases h
  | some _, none, h => by cases h
theorem eqTr_iff : ∀ {a b : Tr Obj}, eqTr a b = true → a = b
  | .e, .e, _ => rfl
  | .n l o r, .n l' o' r', h => by
    unfold eqTr at h
    split at h
    · rename_i h1
      split at h
      · rename_i h2
        rw [eqOO_iff h1, eqTr_iff h2, eqTr_iff h]
      · cases h
    · cases h
  | .e, .n _ _ _, h => by cases h
  | .n _ _ _, .e, h => by cases h


/-- a run's answer and heap -/
def endN (P : Program) (r : List R) : X × St → Option (V × Heap)
  | (x, s) => match isEnd x, s.d with
    | true, [] => match resultsV s.t s.H r with
      | some vs => some (tup vs, s.H)
      | none => none
    | _, _ => none

def endsN (P : Program) (r : List R) : Outs → Option (List (V × Heap))
  | [] => some []
  | o :: l => match endN P r o, endsN P r l with
    | some a, some b => some (a :: b)
    | _, _ => none

/-- the new blocks that two heaps do not share -/
def differ (H H' : Heap) (n : Nat) : Nat → List Nat
  | 0 => []
  | j + 1 => match eqOO (H.get (.run (Nat.add n j))) (H'.get (.run (Nat.add n j))) with
    | true => differ H H' n j
    | false => Nat.add n j :: differ H H' n j

def differs (H : Heap) (n j : Nat) : List (V × Heap) → List Nat
  | [] => []
  | (_, H') :: l => differ H H' n j ++ differs H n j l

def sameAs (v : V) (m : Tr Obj) (next : Nat) (ks : List Nat) : List (V × Heap) → Bool
  | [] => true
  | (v', H') :: l => eqV 20 v v' && next.beq H'.next && eqTr m (markM H'.m ks) && sameAs v m next ks l

def owesN : List (V × Heap) → List (Option V × Option V)
  | [] => []
  | (_, H) :: l => H.q ++ owesN l

def inNew (a b : Nat) : List Nat → Bool
  | [] => true
  | k :: ks => Nat.ble a k && Nat.blt k b && inNew a b ks

def meetN (H : Heap) : List (V × Heap) → Option (V × Heap)
  | [] => none
  | (v, H1) :: l => match differs H1 H.next (Nat.sub H1.next H.next) l with
    | ks => match inNew H.next H1.next ks && sameAs v (markM H1.m ks) H1.next ks l with
      | true => some (v, ⟨markM H1.m ks, H1.next, H.a, H1.q ++ owesN l⟩)
      | false => none

def forkF (P : Program) (call : CallT) (lf : Nat) (id : FuncId) (args : List V) (H : Heap) : Option (V × Heap) :=
  match P.funcs[id]? with
  | some fn => match fn.name == "runtime.NumGoroutine" with
    | true => none
    | false => match fn.body, prepRes P fn.results.toList with
      | some b, some r => match codeN P fn.ntmps call lf b ⟨argsT args 0 .e, H.bare, []⟩ with
        | some outs => match endsN P r outs with
          | some l => meetN H l
          | none => none
        | none => none
      | _, _ => none
  | none => none

def isOneOf (id : FuncId) : List FuncId → Bool
  | [] => false
  | i :: l => match Nat.beq id i with
    | true => true
    | false => isOneOf id l

/-- the functions that are run in every order -/
def forkT (P : Program) (call : CallT) (lf : Nat) (ids : List FuncId) : CallT := fun id args H => match isOneOf id ids with
  | true => match forkF P call lf id args H with
    | some (v, H') => some (.v v, H')
    | none => none
  | false => none

theorem inNew_iff {a b : Nat} : ∀ {ks : List Nat}, inNew a b ks = true → ∀ k ∈ ks, a ≤ k ∧ k < b
  | [], _, k, h => by cases h
  | k :: ks, h, j, hj => by
    simp only [inNew, Bool.and_eq_true] at h
    rcases List.mem_cons.1 hj with rfl | hj
    · exact ⟨ble_iff.1 h.1.1, by have := h.1.2; unfold Nat.blt at this; have := ble_iff.1 this; omega⟩
    · exact inNew_iff h.2 j hj

theorem sameAs_mem {v : V} {m : Tr Obj} {next : Nat} {ks : List Nat} : ∀ {l : List (V × Heap)}, sameAs v m next ks l = true → ∀ p ∈ l, p.1 = v ∧ p.2.next = next ∧ markM p.2.m ks = m
  | [], _, p, h => by cases h
  | (v', H') :: l, h, p, hp => by
    simp only [sameAs, Bool.and_eq_true] at h
    rcases List.mem_cons.1 hp with rfl | hp
    · exact ⟨(eqV_iff _ _ _ h.1.1.1).symm, (beq_iff.1 h.1.1.2).symm, (eqTr_iff h.1.2).symm⟩
    · exact sameAs_mem h.2 p hp

theorem owesN_mem : ∀ {l : List (V × Heap)}, ∀ p ∈ l, ∀ x ∈ p.2.q, x ∈ owesN l
  | (v, H) :: l, p, hp, x, hx => by
    rcases List.mem_cons.1 hp with rfl | hp
    · exact List.mem_append_left _ hx
    · exact List.mem_append_right _ (owesN_mem p hp x hx)

/-- each run's answer is the one; what it leaves is the one heap's, but for blocks that are given up -/
theorem meetN_all {H : Heap} {l : List (V × Heap)} {v : V} {H' : Heap} (h : meetN H l = some (v, H')) : ∃ ks, (∀ p ∈ l, p.1 = v ∧ p.2.next = H'.next ∧ H'.m = markM p.2.m ks ∧ (QOk H' → QOk p.2)) ∧ (∀ k ∈ ks, H.next ≤ k ∧ k < H'.next) ∧ H'.a = H.a := by
  cases l with
  | nil => cases h
  | cons p l =>
    obtain ⟨v1, H1⟩ := p
    simp only [meetN] at h
    split at h
    · rename_i hok
      cases h
      simp only [Bool.and_eq_true] at hok
      refine ⟨_, fun p hp => ?_, inNew_iff hok.1, rfl⟩
      rcases List.mem_cons.1 hp with rfl | hp
      · exact ⟨rfl, rfl, rfl, fun hq x hx => hq x (List.mem_append_left _ hx)⟩
      · obtain ⟨h1, h2, h3⟩ := sameAs_mem hok.2 p hp
        exact ⟨h1, h2, h3.symm, fun hq x hx => hq x (List.mem_append_right _ (owesN_mem p hp x hx))⟩
    · cases h

theorem endsN_mem {P : Program} {r : List R} : ∀ {outs : Outs} {l : List (V × Heap)}, endsN P r outs = some l → ∀ o ∈ outs, ∃ p ∈ l, endN P r o = some p
  | [], _, _, o, h => by cases h
  | o' :: outs, l, h, o, ho => by
    simp only [endsN] at h
    split at h
    · rename_i a b ha hb
      cases h
      rcases List.mem_cons.1 ho with rfl | ho
      · exact ⟨a, List.mem_cons_self .., ha⟩
      · obtain ⟨p, h1, h2⟩ := endsN_mem hb o ho
        exact ⟨p, List.mem_cons_of_mem _ h1, h2⟩
    · cases h

theorem endN_some {P : Program} {r : List R} {x : X} {s : St} {p : V × Heap} (h : endN P r (x, s) = some p) : isEnd x = true ∧ s.d = [] ∧ ∃ vs, resultsV s.t s.H r = some vs ∧ p = (tup vs, s.H) := by
  simp only [endN] at h
  split at h
  · rename_i h1 h2
    split at h
    · rename_i vs hvs
      cases h
      exact ⟨h1, h2, vs, hvs, rfl⟩
    · cases h
  · cases h

theorem forkF_sound {P : Program} {call : CallT} (hcall : CallSnd P call) {lf : Nat} {id : FuncId} {args : List V} {H H' : Heap} {v : V} (h : forkF P call lf id args H = some (v, H')) :
    HasBody P id ∧ H.Upto H' ∧ ∀ (N : Nat) (ρ : Emb) (w : World) (args' : Array Value), GRel P ρ → VRels ρ args args'.toList → Sim N ρ H.get w → H.Wf → Free ρ H H' →
      Calls P id args' w fun e w' => ∃ x ρ', e = .returned x ∧ Step N ρ H w ρ' H' w' ∧ VRel ρ' v x := by
  unfold forkF at h
  split at h
  · rename_i fn hf
    cases hname : (fn.name == "runtime.NumGoroutine") with
    | true => rw [hname] at h; cases h
    | false =>
      rw [hname] at h
      dsimp only at h
      split at h
      · rename_i b r hb hr
        split at h
        · rename_i outs houts
          split at h
          · rename_i l hl
            obtain ⟨ne, up, d1⟩ := codeN_sound hcall lf b _ outs houts
            obtain ⟨ks, hall, hks, ha⟩ := meetN_all h
            have upto : H.Upto H' := by
              obtain ⟨o, ho⟩ := List.exists_mem_of_ne_nil _ ne
              obtain ⟨p, hp, he⟩ := endsN_mem hl o ho
              obtain ⟨x, s⟩ := o
              obtain ⟨_, _, vs, _, rfl⟩ := endN_some he
              obtain ⟨_, h2, _, h4⟩ := hall _ hp
              have := up _ ho
              exact ⟨by have := this.1; simp only [Heap.bare] at this; simp only at h2; omega, fun hq => this.2 (h4 hq)⟩
            refine ⟨⟨fn, b, hf, hname, hb⟩, upto, fun N ρ w args' hg ha' hs hw hfree => ?_⟩
            have bg : ∀ b o, H.bare.get b = some o → H.get b = some o ∧ ∃ n, b = .run n := fun b o h => by
              cases b with
              | run n => exact ⟨h, n, rfl⟩
              | arg n => cases h
            have bs : Sim N ρ H.bare.get w := ⟨fun b o l ho hr => hs.obj b o l (bg b o ho).1 hr, fun b b' l l' o o' hbb h1 h2 h3 h4 h5 h6 => hs.inj b b' l l' o o' hbb h1 h2 (bg _ _ h3).1 h4 (bg _ _ h5).1 h6, hs.low⟩
            have bw : H.bare.Wf := fun b o h => by
              obtain ⟨h1, n, rfl⟩ := bg b o h
              exact hw _ o h1
            refine calls_of_wp_defers hf hb (d1 N ρ _ w ⟨hg, args_rel fn.ntmps ha', rfl, bs, bw⟩ (fun o ho => ?_) _ (fun o ho ρ' a' w' e he st r' => ?_))
            · obtain ⟨p, hp, he⟩ := endsN_mem hl o ho
              obtain ⟨x, s⟩ := o
              obtain ⟨_, _, vs, _, rfl⟩ := endN_some he
              obtain ⟨_, h2, _, h4⟩ := hall _ hp
              refine ⟨h4 hfree.1, fun b k1 k2 => hfree.2 b k1 ?_⟩
              simp only at h2 k2
              omega
            · obtain ⟨p, hp, hend⟩ := endsN_mem hl o ho
              obtain ⟨x, s⟩ := o
              obtain ⟨hx, hd, vs, hvs, rfl⟩ := endN_some hend
              obtain ⟨h1, h2, h3, _⟩ := hall _ hp
              simp only at h1 h2 h3
              have hks' : ∀ k ∈ ks, H.next ≤ k ∧ k < s.H.next := fun k hk => by have := hks k hk; omega
              have st2 := mark_step (H1 := ⟨s.H.m, s.H.next, H.a, s.H.q⟩) ks hks' H'.q (bare_step hs hw st)
              have eH : (Heap.mk (markM s.H.m ks) s.H.next H.a H'.q) = H' := by
                obtain ⟨m', n', a', q'⟩ := H'
                simp only at h2 h3 ha
                subst h2 h3 ha
                rfl
              rw [eH] at st2
              obtain ⟨y, hy, hres⟩ := results_run r' hr hvs
              have hdf : a'.defers = [] := by have := r'.d; rw [hd] at this; exact this
              have fin : Leaves P fn a'.tmps (fun e w' => ∃ x ρ', e = .returned x ∧ Step N ρ H w ρ' H' w' ∧ VRel ρ' v x) a'.defers .returning w' := by
                rw [hdf]
                exact ⟨y, hres, y, ρ', rfl, st2, h1 ▸ hy⟩
              cases x with
              | n => have he : e = _ := he; subst he; exact fin
              | ret => have he : e = _ := he; subst he; exact fin
              | ex id => cases hx
              | pan v => cases hx
          · cases h
        · cases h
      · cases h
  · cases h

theorem forkT_snd {P : Program} {call : CallT} (hcall : CallSnd P call) (lf : Nat) (ids : List FuncId) : CallSnd P (forkT P call lf ids) := by
  refine CallSndV.calm (fun id args H v H' h => ?_) (fun id args H v H' h => ?_)
  · unfold forkT at h
    split at h
    · split at h
      · rename_i v1 H1 h1
        cases h
        exact forkF_sound hcall h1
      · cases h
    · cases h
  · unfold forkT at h
    split at h
    · split at h <;> cases h
    · cases h

end
end Go.Am
