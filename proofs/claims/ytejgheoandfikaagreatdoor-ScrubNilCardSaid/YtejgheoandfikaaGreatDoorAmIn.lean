/-
  The abstract machine's run is the model's, also within a round of a range over a function, and under a mark.
-/
import Derived.Test.YtejgheoandfikaaGreatDoorAmFork
import Derived.OrdersIn
import Derived.RangeFuncLeaves
set_option linter.unusedVariables false
set_option linter.unusedSimpArgs false
namespace Go.Am

/-- the widest fence, in a round or not -/
inductive Wd : Fence → Prop
  | wide : Wd Fence.wide
  | round (l : Nat) : Wd (Fence.wide.inRound l)

def sh (ds : List Deferred) (a : Act) : Act := { a with defers := a.defers ++ ds }
@[simp] theorem sh_eval (ds : List Deferred) (a : Act) : (sh ds a).eval = a.eval := rfl
@[simp] theorem sh_tmps (ds : List Deferred) (a : Act) : (sh ds a).tmps = a.tmps := rfl
theorem sh_put (ds : List Deferred) (a : Act) (d : Option Nat) (v : Value) : (sh ds a).put d v = sh ds (a.put d v) := by cases d <;> rfl

def noDefer (o : Oper) : Bool := match o.op with
  | .defer _ => false
  | _ => true
theorem noDefer_ne {o : Oper} (h : noDefer o = true) : ∀ c, o.op ≠ .defer c := fun c e => by unfold noDefer at h; rw [e] at h; cases h

theorem Wd.fn {F : Fence} (h : Wd F) (f : FuncId) : F.fn f := by cases h <;> trivial
theorem Wd.depth {F : Fence} {n : Nat} (h : Wd F) : F.depth.isSome = true → 1 ≤ n := by cases h <;> (intro h; cases h)
theorem Wd.calls {F : Fence} (h : Wd F) {n : Nat} {P : Program} {f : FuncId} {args : Array Value} {w : World} {R : Ending → World → Prop} (hc : Calls P f args w R) : CallsIn F n P f args w R := by
  have := callsIn_wide (n := n).2 hc
  cases h with
  | wide => exact this
  | round l => exact this
theorem Wd.rows {F : Fence} (h : Wd F) {n : Nat} {P : Program} {row : String} {args : Array Value} {w : World} {R : Value → World → Prop} (hc : Rows P row args w R) : RowsIn F n P row args w R := by
  intro c cs _
  obtain ⟨v, w', r, s⟩ := hc c cs
  refine ⟨v, w', r, ?_⟩
  have := stepsIn_wide.2 s
  cases h with
  | wide => exact this
  | round l => exact this

section
variable {F : Fence} {P : Program} {ops : Array Oper} {ds : List Deferred} {Q Q0 : Exit → Act → World → Prop}

theorem op_in (hF : Wd F) (hl : ¬ LetsOut Q0) (hQ : ∀ e a w, Q0 e a w → Q e (sh ds a) w) {o : Oper} (hno : noDefer o = true) {a : Act} {w : World} {K K' : Act → World → Prop} (hK : ∀ a w, K a w → K' (sh ds a) w) (h : o.wp P a w K Q0) : o.wpIn F 0 P (sh ds a) w K' Q := by
  refine ⟨fun f _ => hF.fn f, ?_⟩
  rw [Oper.semAt_eq _ _ _ (noDefer_ne hno), sh_eval]
  unfold Oper.wp at h
  generalize hr : (execOp a.eval o).run P w = r at h
  cases r with
  | ok nx w' =>
    cases nx with
    | value v => rw [Oper.uponIn_value, sh_put]; exact hK _ _ h
    | skip => rw [Oper.uponIn_skip, sh_put]; exact hK _ _ h
    | defer d =>
      rw [Oper.uponIn_defer]
      have := hK _ _ h
      rw [← sh_put] at this
      exact this
    | enter f args =>
      rw [Oper.uponIn_enter]
      refine ⟨hF.depth, hF.calls (Calls.mono h ?_)⟩
      intro e w'' he
      cases e with
      | returned v => show K' ((sh ds a).put o.dst v) w''; rw [sh_put]; exact hK _ _ he
      | panicked c => exact hQ _ _ _ he
      | outgrown => exact absurd he hl
    | row row args =>
      rw [Oper.uponIn_row]
      exact ⟨hF.depth, hF.rows (Rows.mono h (fun v w'' he => by rw [sh_put]; exact hK _ _ he))⟩
    | _ => exact h.elim
  | halt hh w' =>
    cases hh with
    | panic v => exact hQ _ _ _ h
    | _ => exact h.elim

theorem ops_in (hF : Wd F) (hl : ¬ LetsOut Q0) (hQ : ∀ e a w, Q0 e a w → Q e (sh ds a) w) (hno : ∀ (i : Nat) (o : Oper), ops[i]? = some o → noDefer o = true) : ∀ (l : List Nat) (a : Act) (w : World), wpOps P ops Q0 l a w → wpOpsIn F 0 P ops Q l (sh ds a) w
  | [], a, w, h => hQ _ _ _ h
  | i :: l, a, w, h => by
    simp only [wpOps] at h
    simp only [wpOpsIn]
    cases ho : ops[i]? with
    | none => rw [ho] at h; exact ops_in hF hl hQ hno l a w h
    | some o =>
      rw [ho] at h
      dsimp only at h ⊢
      split at h
      · rename_i hw
        rw [if_pos (show Region.wanted o (yielded ops (sh ds a).tmps) = true from hw)]
        rcases h with h | ⟨_, h⟩
        · exact op_in hF hl hQ (hno i o ho) (fun a w h => ops_in hF hl hQ hno l a w h) h
        · exact absurd h hl
      · rename_i hw
        rw [if_neg (show ¬ Region.wanted o (yielded ops (sh ds a).tmps) = true from hw), sh_put]
        exact ⟨fun f _ => hF.fn f, ops_in hF hl hQ hno l _ w h⟩

theorem opAt_in (hF : Wd F) (hl : ¬ LetsOut Q0) (hQ : ∀ e a w, Q0 e a w → Q e (sh ds a) w) (hno : ∀ (i : Nat) (o : Oper), ops[i]? = some o → noDefer o = true) {i : Nat} {a : Act} {w : World} {K K' : Act → World → Prop} (hK : ∀ a w, K a w → K' (sh ds a) w) (h : wpOp P ops Q0 i K a w) : wpOpIn F 0 P ops Q i K' (sh ds a) w := by
  unfold Go.wpOp at h
  unfold Go.wpOpIn
  cases ho : ops[i]? with
  | none => rw [ho] at h; exact hK _ _ h
  | some o =>
    rw [ho] at h
    dsimp only at h ⊢
    split at h
    · rename_i hw
      rw [if_pos (show Region.wanted o (yielded ops (sh ds a).tmps) = true from hw)]
      rcases h with h | ⟨_, h⟩
      · exact op_in hF hl hQ (hno i o ho) hK h
      · exact absurd h hl
    · rename_i hw
      rw [if_neg (show ¬ Region.wanted o (yielded ops (sh ds a).tmps) = true from hw), sh_put]
      exact ⟨fun f _ => hF.fn f, hK _ _ h⟩

theorem any_in (hF : Wd F) (hl : ¬ LetsOut Q0) (hQ : ∀ e a w, Q0 e a w → Q e (sh ds a) w) (hno : ∀ (i : Nat) (o : Oper), ops[i]? = some o → noDefer o = true) {md : Region.Mode} : ∀ (fuel : Nat) (listed : Array Bool) (a : Act) (w : World), wpAny P md ops Q0 fuel listed a w → wpAnyIn F 0 P md ops Q fuel listed (sh ds a) w
  | 0, listed, a, w, h => ⟨h.1, hQ _ _ _ h.2⟩
  | fuel + 1, listed, a, w, h => ⟨fun e => hQ _ _ _ (h.1 e), fun i hi => opAt_in hF hl hQ hno (fun a w h => any_in hF hl hQ hno fuel _ a w h) (h.2 i hi)⟩
end

/-! ### code -/

theorem drawn_any {P : Program} {n : Nat} {ops : Array Oper} {call : CallT} (hcall : CallSnd P call) {s : St} {t' : T} {H' : Heap} {es : List DEv} (hm : P.follows .mixedOrders = true) (hreg : regionOk ops (masks ops.toList []) ops.toList 0 = true)
    (hrun : runOpsD call (ops.toList.map (prepOper P n ops)) s.t s.H = some (t', H', es)) (hc : chainOk (masks ops.toList []) (acsOf es 0) = true) :
    s.H.Upto (H'.owe (owes (masks ops.toList []) (acsOf es 0) es 0)) ∧ ∀ (N : Nat) (ρ : Emb) (a : Act) (w : World), Rel P n N ρ s.t s.H s.d a w → Free ρ s.H (H'.owe (owes (masks ops.toList []) (acsOf es 0) es 0)) → ∀ (Q : Exit → Act → World → Prop),
      (∀ ρ' a' w', Step N ρ s.H w ρ' (H'.owe (owes (masks ops.toList []) (acsOf es 0) es 0)) w' → Rel P n N ρ' t' (H'.owe (owes (masks ops.toList []) (acsOf es 0) es 0)) s.d a' w' → Q .normal a' w') → wpAny P .any ops Q ops.size (Array.replicate ops.size false) a { w with drawn := w.drawn + 1 } := by
  obtain ⟨htr, ht', hH'⟩ := runOpsD_trace hcall ops.toList s.t s.H t' H' es 0 hrun
  have hup := htr.upto
  rw [← hH'] at hup
  refine ⟨hup.trans (.owe _ _), fun N ρ a w r hfree Q hQ => ?_⟩
  have F := facts htr hreg hc (fun p hp => hfree.1 p (List.mem_append_left _ hp))
  rw [F.len] at hH'
  have hfree' : Free ρ s.H (hs es s.H ops.size) := by
    rw [← hH']
    exact ⟨fun p hp => hfree.1 p (List.mem_append_right _ hp), hfree.2⟩
  obtain ⟨G, I⟩ := Inv.start F r.s r.wf r.t hfree'
  have hw' : ({ w with drawn := w.drawn + 1 } : World) = w.drew := rfl
  rw [hw']
  have I' : Inv P n ops s.t s.H es N ρ w a.defers (fun j => (Array.replicate ops.size false).getD j false) ρ G a w.drew := by
    have hfn : (fun j => (Array.replicate ops.size false).getD j false) = fun _ => false := by
      funext j
      simp only [Array.getD]
      split <;> simp
    rw [hfn]
    exact ⟨I.closed, I.small, I.t, I.d, I.os, I.tape, I.output, I.size, I.sim.drew, I.ext, I.new, I.img, I.frame, I.win, I.late, I.free, I.keep, I.was, I.wf⟩
  refine drawn_all F r.g r.wf hfree' (fun ρ' a' w' st ht hd => ?_) ops.size (Array.replicate ops.size false) ρ G a w.drew (by simp) (by unfold left; exact Nat.le_trans (List.length_filter_le _ _) (by simp)) I'
  rw [← hH'] at st
  rw [← ht'] at ht
  have st' := st.owe (owes (masks ops.toList []) (acsOf es 0) es 0)
  exact hQ ρ' a' w' st' ⟨r.g.mono st.ext, ht, by rw [hd]; exact r.d.mono st.ext, st'.sim, st'.wf⟩



def noDeferC : Code → Bool
  | .region _ ops _ => ops.toList.all noDefer
  | .seq a b => noDeferC a && noDeferC b
  | .cond _ a b => noDeferC a && noDeferC b
  | .block _ a => noDeferC a
  | .loop a => noDeferC a
  | .scope a => noDeferC a
  | .rangeFunc _ _ _ _ => false
  | _ => true

theorem stepR_scope {P : Program} {b : Frame} {a : Act} {k : List Item} {cs : List Frame} {w : World} {c : Code} : step P (lone (b.atR a (.code (.scope c) :: k)) cs w) = .next (lone (b.atR a (.code c :: .inScope c :: k)) cs w) :=
  step_lone_go (by simp [stepG, stepG.exec, Frame.atR])
theorem stepR_inScope {P : Program} {b : Frame} {a : Act} {k : List Item} {cs : List Frame} {w : World} {c : Code} : step P (lone (b.atR a (.inScope c :: k)) cs w) = .next (lone (b.atR a k) cs w) :=
  step_lone_go (by simp [stepG, stepG.exec, Frame.atR])

theorem wpIn_scope_straight {F : Fence} {n : Nat} {P : Program} {Q : Exit → Act → World → Prop} {a : Act} {w : World} {c : Code} (h : c.wpIn F n P (Exit.noGoto Q) a w) : (Code.scope c).wpIn F n P Q a w := by
  intro b k cs hro hb hr
  have h0 : (lone (b.atR a (.code (.scope c) :: k)) cs w).fenced P F := fenced_calm hb hr rfl
  obtain ⟨e, a₁, w₁, hq, harr⟩ := h b (.inScope c :: k) cs hro hb hr
  cases e with
  | normal => exact ⟨.normal, a₁, w₁, hq, .head h0 stepR_scope (StepsIn.trans harr (.one (fenced_calm hb hr rfl) stepR_inScope))⟩
  | exit id =>
    have hx : exitTo id (.inScope c :: k) = exitTo id k := by simp [exitTo]
    exact ⟨.exit id, a₁, w₁, hq, fun k' hk => .head h0 stepR_scope (harr.1 k' (by rw [hx]; exact hk)),
      fun hr' hk => let ⟨k₁, h1, h2⟩ := harr.2 hr' (by rw [hx]; exact hk); ⟨k₁, h1, .head h0 stepR_scope h2⟩⟩
  | goto l => exact hq.elim
  | ret => exact ⟨_, a₁, w₁, hq, .of_steps (.one h0 stepR_scope) harr⟩
  | panic ch => exact ⟨_, a₁, w₁, hq, .of_steps (.one h0 stepR_scope) harr⟩
  | outgrown => exact ⟨_, a₁, w₁, hq, .of_steps (.one h0 stepR_scope) harr⟩

def CodeIn (P : Program) (n : Nat) (c : Code) (s : St) (x : X) (s' : St) : Prop :=
  s.H.Upto s'.H ∧ ∀ (F : Fence), Wd F → ∀ (N : Nat) (ρ : Emb) (a : Act) (ds : List Deferred) (w : World), Rel P n N ρ s.t s.H s.d a w → Free ρ s.H s'.H → ∀ (Q : Exit → Act → World → Prop),
    (∀ ρ' a' w' e, ExitRel ρ' x e → Step N ρ s.H w ρ' s'.H w' → Rel P n N ρ' s'.t s'.H s'.d a' w' → Q e (sh ds a') w') → c.wpIn F 0 P Q (sh ds a) w

open Classical in
theorem wpIn_loop_nat {F : Fence} {P : Program} {c : Code} {Q : Exit → Act → World → Prop} (I : Nat → Act → World → Prop) {n : Nat} {a : Act} {w : World} (h0 : I n a w) (round : ∀ n a w, I n a w → c.wpIn F 0 P (Exit.then (fun a' w' => ∃ m, m < n ∧ I m a' w') Q) a w) : (Code.loop c).wpIn F 0 P Q a w := by
  let μ : Act → World → Nat := fun a w => if h : ∃ n, I n a w then Classical.choose (least h) else 0
  have hμ : ∀ a w, (∃ n, I n a w) → I (μ a w) a w ∧ ∀ m, I m a w → μ a w ≤ m := fun a w h => by
    have := Classical.choose_spec (least h)
    simp only [μ, dif_pos h]
    exact this
  refine wpIn_loop (fun a w => ∃ n, I n a w) μ ⟨n, h0⟩ (fun a w hI => ?_)
  obtain ⟨h1, h2⟩ := hμ a w hI
  refine wpIn_mono (round _ a w h1) (fun e a' w' hq => ?_)
  cases e with
  | normal =>
    obtain ⟨m, hlt, hm⟩ := hq
    obtain ⟨_, k2⟩ := hμ a' w' ⟨m, hm⟩
    exact ⟨⟨m, hm⟩, Nat.lt_of_le_of_lt (k2 m hm) hlt⟩
  | exit id => exact hq
  | goto l => exact hq
  | ret => exact hq
  | panic ch => exact hq
  | outgrown => exact hq

/-- a way out that is none of 'outgrown', and what is asked of it, at the activation without what lies below -/
def under (ds : List Deferred) (Q : Exit → Act → World → Prop) : Exit → Act → World → Prop
  | .outgrown, _, _ => False
  | e, a, w => Q e (sh ds a) w
theorem under_calm (ds : List Deferred) (Q : Exit → Act → World → Prop) : ¬ LetsOut (under ds Q) := fun ⟨_, _, h⟩ => h
theorem under_to {ds : List Deferred} {Q : Exit → Act → World → Prop} : ∀ e a w, under ds Q e a w → Q e (sh ds a) w := fun e a w h => by cases e <;> first | exact h.elim | exact h
theorem to_under {ds : List Deferred} {Q : Exit → Act → World → Prop} {ρ : Emb} {x : X} {e : Exit} {a : Act} {w : World} (he : ExitRel ρ x e) (h : Q e (sh ds a) w) : under ds Q e a w := by
  cases x with
  | n => have he : e = _ := he; subst he; exact h
  | ex id => have he : e = _ := he; subst he; exact h
  | ret => have he : e = _ := he; subst he; exact h
  | pan v => obtain ⟨y, rfl, _⟩ := he; exact h

theorem all_get {ops : Array Oper} (h : ops.toList.all noDefer = true) (i : Nat) (o : Oper) (ho : ops[i]? = some o) : noDefer o = true := by
  have := List.all_eq_true.1 h o (List.mem_of_getElem? (by simpa using ho))
  exact this

theorem codeIn_sound {P : Program} {n : Nat} {call : CallT} (hcall : CallSnd P call) (lf : Nat) : ∀ (c : Code), noDeferC c = true → ∀ (s : St) (x : X) (s' : St), runC call lf (prepC P n c) s = some (x, s') → CodeIn P n c s x s' := by
  intro c
  induction c with
  | skip =>
    intro _ s x s' h
    cases h
    exact ⟨.refl _, fun F hF N ρ a ds w r _ Q hQ => wpIn_skip (hQ ρ a w _ rfl r.refl r)⟩
  | label l =>
    intro _ s x s' h
    cases h
    exact ⟨.refl _, fun F hF N ρ a ds w r _ Q hQ => wpIn_label (hQ ρ a w _ rfl r.refl r)⟩
  | region id ops draw =>
    intro hno s x s' h
    have hno : ops.toList.all noDefer = true := hno
    cases draw with
    | true =>
      simp only [prepC] at h
      split at h
      · rename_i hok
        simp only [Bool.and_eq_true] at hok
        have h : (match runOpsD call (ops.toList.map (prepOper P n ops)) s.t s.H with
          | some (t, H, es) => match chainOk (masks ops.toList []) (acsOf es 0) with
            | true => some (X.n, St.mk t (H.owe (owes (masks ops.toList []) (acsOf es 0) es 0)) s.d)
            | false => none
          | none => none) = some (x, s') := h
        split at h
        · rename_i t1 H1 es hrun
          split at h
          · rename_i hchk
            cases h
            obtain ⟨h1, h2⟩ := drawn_any hcall hok.1 hok.2 hrun hchk
            exact ⟨h1, fun F hF N ρ a ds w r hf Q hQ => wpIn_region_any hok.1 (any_in hF (under_calm ds Q) under_to (all_get hno) _ _ _ _ (h2 N ρ a w r hf _ (fun ρ' a' w' st r' => hQ ρ' a' w' _ rfl st r')))⟩
          · cases h
        · cases h
      · cases h
    | false =>
      have h : runOps call (ops.toList.map (prepOper P n ops)) s.t s.H s.d = some (x, s') := h
      obtain ⟨hn, hrest⟩ := ops_sound hcall ops.toList 0 s.t s.H s.d x s' (fun i o hi => by simpa using hi) h
      refine ⟨hn, fun F hF N ρ a ds w r hfree Q hQ => wpIn_region ?_⟩
      have := hrest N ρ a w r hfree (under ds Q) (fun ρ' a' w' e he st r' => to_under he (hQ ρ' a' w' e he st r'))
      have := ops_in hF (under_calm ds Q) under_to (all_get hno) _ _ _ this
      rwa [Array.length_toList, ← List.range_eq_range'] at this
  | seq a b iha ihb =>
    intro hno s x s' h
    simp only [noDeferC, Bool.and_eq_true] at hno
    have h : (match runC call lf (prepC P n a) s with | some (.n, s1) => runC call lf (prepC P n b) s1 | r => r) = some (x, s') := h
    split at h
    · rename_i s1 h1
      obtain ⟨n1, d1⟩ := iha hno.1 s .n s1 h1
      obtain ⟨n2, d2⟩ := ihb hno.2 s1 x s' h
      refine ⟨n1.trans n2, fun F hF N ρ ac ds w r hfree Q hQ => wpIn_seq ?_⟩
      refine d1 F hF N ρ ac ds w r (hfree.left n2) _ (fun ρ1 a1 w1 e1 he1 st1 r1 => ?_)
      have he1 : e1 = _ := he1
      subst he1
      exact d2 F hF N ρ1 a1 ds w1 r1 (hfree.right n1 st1) Q (fun ρ2 a2 w2 e he st2 r2 => hQ ρ2 a2 w2 e he (st1.trans st2) r2)
    · rename_i hno'
      have hxn : x ≠ .n := fun e => by subst e; exact hno' _ h
      obtain ⟨n1, d1⟩ := iha hno.1 s x s' h
      refine ⟨n1, fun F hF N ρ ac ds w r hfree Q hQ => wpIn_seq ?_⟩
      exact d1 F hF N ρ ac ds w r hfree _ (fun ρ1 a1 w1 e he st1 r1 => exit_then he hxn (hQ ρ1 a1 w1 e he st1 r1))
  | cond c a b iha ihb =>
    intro hno s x s' h
    simp only [noDeferC, Bool.and_eq_true] at hno
    simp only [prepC] at h
    cases hc : src P c with
    | none => rw [hc] at h; cases h
    | some sc =>
      rw [hc] at h
      have h : (match sc.get s.t with | some (.bool true) => runC call lf (prepC P n a) s | some (.bool false) => runC call lf (prepC P n b) s | _ => none) = some (x, s') := h
      split at h
      · rename_i hv
        obtain ⟨n1, d1⟩ := iha hno.1 s x s' h
        exact ⟨n1, fun F hF N ρ ac ds w r hfree Q hQ => wpIn_cond_true (src_rel r.g r.t hc hv) (d1 F hF N ρ ac ds w r hfree Q hQ)⟩
      · rename_i hv
        obtain ⟨n1, d1⟩ := ihb hno.2 s x s' h
        exact ⟨n1, fun F hF N ρ ac ds w r hfree Q hQ => wpIn_cond_false (src_rel r.g r.t hc hv) (d1 F hF N ρ ac ds w r hfree Q hQ)⟩
      · cases h
  | block id a iha =>
    intro hno s x s' h
    have h : (match runC call lf (prepC P n a) s with | some (.ex id', s') => (match id'.beq id with | true => some (.n, s') | false => some (.ex id', s')) | r => r) = some (x, s') := h
    split at h
    · rename_i id' s1 h1
      obtain ⟨n1, d1⟩ := iha hno s (.ex id') s1 h1
      cases hid : id'.beq id with
      | true =>
        rw [hid] at h
        cases h
        have := beq_iff.1 hid
        subst this
        exact ⟨n1, fun F hF N ρ ac ds w r hfree Q hQ => wpIn_block (d1 F hF N ρ ac ds w r hfree _ (fun ρ1 a1 w1 e he st1 r1 => by
          have he : e = _ := he
          subst he
          simp only [Exit.inBlock, if_true]; exact hQ ρ1 a1 w1 _ rfl st1 r1))⟩
      | false =>
        rw [hid] at h
        cases h
        have := beq_false.1 hid
        exact ⟨n1, fun F hF N ρ ac ds w r hfree Q hQ => wpIn_block (d1 F hF N ρ ac ds w r hfree _ (fun ρ1 a1 w1 e he st1 r1 => by
          have he : e = _ := he
          subst he
          simp only [Exit.inBlock, if_neg this]; exact hQ ρ1 a1 w1 _ rfl st1 r1))⟩
    · rename_i hno'
      obtain ⟨n1, d1⟩ := iha hno s x s' h
      refine ⟨n1, fun F hF N ρ ac ds w r hfree Q hQ => wpIn_block (d1 F hF N ρ ac ds w r hfree _ (fun ρ1 a1 w1 e he st1 r1 => ?_))⟩
      have := hQ ρ1 a1 w1 e he st1 r1
      cases x with
      | n => have he : e = _ := he; subst he; exact this
      | ex id' => exact absurd h (hno' id' s')
      | ret => have he : e = _ := he; subst he; exact this
      | pan v => obtain ⟨y, rfl, _⟩ := he; exact this
  | loop c0 iha =>
    intro hno s x s' h
    have h : loopF (runC call lf (prepC P n c0)) lf s = some (x, s') := h
    have hnext := loop_next (f := runC call lf (prepC P n c0)) (fun s x s' h => (iha hno s x s' h).1)
    refine ⟨hnext lf s x s' h, fun F hF N ρ a0 ds w0 r hfree Q hQ => ?_⟩
    refine wpIn_loop_nat (fun m ac w => ∃ sc ρc a, ac = sh ds a ∧ loopF (runC call lf (prepC P n c0)) m sc = some (x, s') ∧ Step N ρ s.H w0 ρc sc.H w ∧ Rel P n N ρc sc.t sc.H sc.d a w ∧ Free ρc sc.H s'.H) (n := lf) ⟨s, ρ, a0, rfl, h, r.refl, r, hfree⟩ ?_
    rintro m ac w ⟨sc, ρc, a, rfl, hl, st, rc, fc⟩
    cases m with
    | zero => cases hl
    | succ m =>
      have hl : (match runC call lf (prepC P n c0) sc with | some (.n, s') => loopF (runC call lf (prepC P n c0)) m s' | r => r) = some (x, s') := hl
      split at hl
      · rename_i s1 h1
        obtain ⟨n1, d1⟩ := iha hno sc .n s1 h1
        have n2 := hnext m s1 x s' hl
        refine d1 F hF N ρc a ds w rc (fc.left n2) _ (fun ρ1 a1 w1 e he st1 r1 => ?_)
        have he : e = _ := he
        subst he
        exact ⟨m, Nat.lt_succ_self m, s1, ρ1, a1, rfl, hl, st.trans st1, r1, fc.right n1 st1⟩
      · rename_i hno'
        have hxn : x ≠ .n := fun e => by subst e; exact hno' _ hl
        obtain ⟨n1, d1⟩ := iha hno sc x s' hl
        exact d1 F hF N ρc a ds w rc fc _ (fun ρ1 a1 w1 e he st1 r1 => exit_then he hxn (hQ ρ1 a1 w1 e he (st.trans st1) r1))
  | exit id =>
    intro _ s x s' h
    cases h
    exact ⟨.refl _, fun F hF N ρ a ds w r _ Q hQ => wpIn_exit (hQ ρ a w _ rfl r.refl r)⟩
  | scope a iha =>
    intro hno s x s' h
    obtain ⟨n1, d1⟩ := iha hno s x s' h
    refine ⟨n1, fun F hF N ρ ac ds w r hfree Q hQ => wpIn_scope_straight (d1 F hF N ρ ac ds w r hfree _ (fun ρ1 a1 w1 e he st1 r1 => ?_))⟩
    have := hQ ρ1 a1 w1 e he st1 r1
    cases x with
    | n => have he : e = _ := he; subst he; exact this
    | ex id' => have he : e = _ := he; subst he; exact this
    | ret => have he : e = _ := he; subst he; exact this
    | pan v => obtain ⟨y, rfl, _⟩ := he; exact this
  | ret =>
    intro _ s x s' h
    cases h
    exact ⟨.refl _, fun F hF N ρ a ds w r _ Q hQ => wpIn_ret (hQ ρ a w _ rfl r.refl r)⟩
  | goto l => intro _ s x s' h; cases h
  | rangeFunc => intro hno; cases hno
  | refuse => intro _ s x s' h; cases h

end Go.Am
