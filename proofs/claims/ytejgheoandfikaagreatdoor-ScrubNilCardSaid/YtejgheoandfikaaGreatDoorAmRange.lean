/-
  A range over a function: the iterator is run, each of its calls of yield a round of the loop's body.
-/
import Derived.Test.YtejgheoandfikaaGreatDoorAmIn
import Derived.RangeFuncOwn
set_option linter.unusedVariables false
set_option linter.unusedSimpArgs false
namespace Go.Am
noncomputable section

theorem sh_nil (a : Act) : sh [] a = a := by
  unfold sh
  rw [List.append_nil]

/-! ### blocks that the machine knows nothing of -/

/-- no live object lies in a block -/
def Apart (ρ : Emb) (H : Heap) (k : Nat) : Prop := ∀ b l o, ρ b = some l → H.get b = some o → o.live → l.c ≠ k

theorem Apart.step {N : Nat} {ρ ρ' : Emb} {H H' : Heap} {w w' : World} {k : Nat} (h : Apart ρ H k) (hk : k < w.heap.size) (s : Step N ρ H w ρ' H' w') : Apart ρ' H' k := by
  intro b l o hb ho hl e
  rcases s.image hb ho hl with h1 | ⟨b0, l0, o0, h1, h2, h3, h4⟩
  · omega
  · exact h b0 l0 o0 h1 h2 h3 (h4.trans e)

theorem Apart.same {N : Nat} {ρ ρ' : Emb} {H H' : Heap} {w w' : World} {k : Nat} (h : Apart ρ H k) (hk : k < w.heap.size) (s : Step N ρ H w ρ' H' w') : w'.heap[k]? = w.heap[k]? :=
  s.frame k hk (fun b l o h1 h2 h3 => h b l o h1 h2 h3)

/-- a block of the machine's outside is turned, or laid -/
theorem Step.other {N : Nat} {ρ0 ρ : Emb} {H0 H : Heap} {w0 w w' : World} (s : Step N ρ0 H0 w0 ρ H w) (hlow : N ≤ w0.heap.size) (h1 : w'.os = w.os) (h2 : w'.tape = w.tape) (h3 : w'.output = w.output) (h4 : w.heap.size ≤ w'.heap.size)
    (hsame : ∀ c, c < w.heap.size → w'.heap[c]? ≠ w.heap[c]? → w0.heap.size ≤ c ∧ Apart ρ H c) : Step N ρ0 H0 w0 ρ H w' := by
  have lowsame : ∀ c, c < w0.heap.size → w'.heap[c]? = w.heap[c]? := fun c hc => Classical.byContradiction fun e => by
    have := (hsame c (by have := s.size; omega) e).1
    omega
  have hs := s.sim
  refine ⟨h1.trans s.os, h2.trans s.tape, h3.trans s.output, Nat.le_trans s.size h4, s.ext, s.new, ⟨fun b o l ho hr => ?_, hs.inj, Nat.le_trans hs.low h4⟩, s.wf, s.next, s.pre, fun c hc hno => (lowsame c hc).trans (s.frame c hc hno), s.keep, s.was⟩
  have ho' := hs.obj b o l ho hr
  exact ho'.frame (fun c hc => lowsame c (by omega)) (fun hl => Classical.byContradiction fun e => (hsame l.c (ho'.live_lt hl) e).2 b l o hr ho hl rfl)

/-! ### the statement's world -/

structure Ranged where
  N : Nat
  ρ0 : Emb
  H0 : Heap
  w0 : World
  fn : FuncId
  tmps : Array Value
  ps : Array Tmp
  assign : Code
  body : Code

def Ranged.D (B : Ranged) : Nat := B.w0.heap.size
def Ranged.L (B : Ranged) : Nat := B.w0.heap.size + 1
def Ranged.record (B : Ranged) (st : LoopState) (j : Option Code) : Loop := { state := st, pending := j, fn := B.fn, tmps := B.tmps, params := B.ps, assign := B.assign, body := B.body, defers := B.w0.heap.size }
/-- between two rounds -/
def Ranged.rest (B : Ranged) (j : Option Code) : Go.Obj := .loop (B.record (if j.isNone then .ready else .done) j)

structure YInv (B : Ranged) (o : Go.Obj) (ρ : Emb) (H : Heap) (w : World) : Prop where
  st : Step B.N B.ρ0 B.H0 B.w0 ρ H w
  low : B.N ≤ B.w0.heap.size
  up : B.H0.Upto H
  hl : w.heap[B.L]? = some o
  hd : w.heap[B.D]? = some (.deferred (some []))
  al : Apart ρ H B.L
  ad : Apart ρ H B.D

theorem YInv.step {B : Ranged} {o : Go.Obj} {ρ ρ' : Emb} {H H' : Heap} {w w' : World} (y : YInv B o ρ H w) (s : Step B.N ρ H w ρ' H' w') (up : H.Upto H') : YInv B o ρ' H' w' := by
  have h1 : B.L < w.heap.size := (Array.getElem?_eq_some_iff.1 y.hl).1
  have h2 : B.D < w.heap.size := (Array.getElem?_eq_some_iff.1 y.hd).1
  exact ⟨y.st.trans s, y.low, y.up.trans up, (y.al.same h1 s).trans y.hl, (y.ad.same h2 s).trans y.hd, y.al.step h1 s, y.ad.step h2 s⟩

theorem YInv.turn {B : Ranged} {o : Go.Obj} {ρ : Emb} {H : Heap} {w : World} (y : YInv B o ρ H w) (o' : Go.Obj) : YInv B o' ρ H (w.putObj B.L o') := by
  have h1 : B.L < w.heap.size := (Array.getElem?_eq_some_iff.1 y.hl).1
  have hDL : B.D ≠ B.L := by unfold Ranged.D Ranged.L; omega
  refine ⟨y.st.other y.low rfl rfl rfl (by simp) (fun c hc e => ?_), y.low, y.up, World.putObj_heap_same h1, (World.putObj_heap_other hDL).trans y.hd, y.al, y.ad⟩
  by_cases h : c = B.L
  · subst h; exact ⟨by unfold Ranged.L; omega, y.al⟩
  · exact absurd (World.putObj_heap_other h) e

theorem YInv.free {B : Ranged} {o : Go.Obj} {ρ : Emb} {H H1 H2 : Heap} {w : World} (y : YInv B o ρ H w) (hf : Free B.ρ0 B.H0 H2) (up : H1.Upto H2) : Free ρ H H1 := (hf.right y.up y.st).left up

/-! ### a round -/

/-- the loop's variables take what yield is given -/
def roundT (n : Nat) : T → List Nat → List V → Option T
  | t, [], [] => some t
  | t, p :: ps, v :: vs => match dstOk n (some p) with
    | true => roundT n (t.setP (Tr.path p) v) ps vs
    | false => none
  | _, _, _ => none

def jumpOf : X → Option (Option Code)
  | .n => some none
  | .ret => some (some .ret)
  | .ex id => some (some (.exit id))
  | .pan _ => none

def roundF (P : Program) (n : Nat) (call : CallT) (lf : Nat) (t0 : T) (ps : List Nat) (assign body : Code) (vs : List V) (H : Heap) : Option (Heap × Option Code) :=
  match noDeferC assign && noDeferC body, roundT n t0 ps vs with
  | true, some t => match runC call lf (prepC P n assign) ⟨t, H, []⟩ with
    | some (.n, s1) => match runC call lf (prepC P n body) s1 with
      | some (x, s2) => match jumpOf x with
        | some j => some (s2.H, j)
        | none => none
      | none => none
    | _ => none
  | _, _ => none

theorem roundT_rel {n : Nat} {ρ : Emb} : ∀ {ps : List Nat} {vs : List V} {t t' : T} {tmps : Array Value} {xs : List Value}, TRel n ρ t { tmps := tmps, defers := [] } → VRels ρ vs xs → roundT n t ps vs = some t' →
    ps.length = xs.length ∧ TRel n ρ t' { tmps := (ps.zip xs).foldl (fun t (p, v) => t.setIfInBounds p v) tmps, defers := [] }
  | [], [], t, t', tmps, xs, h, hv, e => by
    have hv : xs = [] := hv
    subst hv
    simp only [roundT] at e
    cases e
    exact ⟨rfl, h⟩
  | p :: ps, v :: vs, t, t', tmps, xs, h, hv, e => by
    obtain ⟨y, ys, rfl, h1, h2⟩ := hv
    simp only [roundT] at e
    split at e
    · rename_i hd
      have h' : TRel n ρ (t.setP (Tr.path p) v) { tmps := tmps.setIfInBounds p y, defers := [] } := h.put (dst := some p) h1 (.inl hd)
      obtain ⟨k1, k2⟩ := roundT_rel h' h2 e
      exact ⟨by simp [k1], by simpa using k2⟩
    · cases e
  | [], v :: vs, t, t', tmps, xs, h, hv, e => by simp [roundT] at e
  | p :: ps, [], t, t', tmps, xs, h, hv, e => by simp [roundT] at e

theorem roundF_upto {P : Program} {n : Nat} {call : CallT} (hcall : CallSnd P call) {lf : Nat} {t0 : T} {ps : List Nat} {assign body : Code} {vs : List V} {H H' : Heap} {j : Option Code} (h : roundF P n call lf t0 ps assign body vs H = some (H', j)) : H.Upto H' := by
  unfold roundF at h
  split at h
  · rename_i hno ht
    simp only [Bool.and_eq_true] at hno
    split at h
    · rename_i s1 h1
      split at h
      · rename_i x s2 h2
        split at h
        · cases h
          exact (codeIn_sound hcall lf assign hno.1 _ _ _ h1).1.trans (codeIn_sound hcall lf body hno.2 _ _ _ h2).1
        · cases h
      · cases h
    · cases h
  · cases h

theorem roundF_sound {P : Program} {n : Nat} {call : CallT} (hcall : CallSnd P call) {lf : Nat} {t0 : T} {B : Ranged} {vs : List V} {H H' Hend : Heap} {j : Option Code}
    (h : roundF P n call lf t0 B.ps.toList B.assign B.body vs H = some (H', j)) (hg0 : GRel P B.ρ0) (ht0 : TRel n B.ρ0 t0 { tmps := B.tmps, defers := [] }) {ρ : Emb} {w : World} {xs : Array Value}
    (y : YInv B (B.rest none) ρ H w) (hv : VRels ρ vs xs.toList) (hf : Free B.ρ0 B.H0 Hend) (hup : H'.Upto Hend) :
    (Instr.yield B.L xs).run P w = .ok (.round B.L B.fn ((B.ps.zip xs).foldl (fun t (p, v) => t.setIfInBounds p v) B.tmps) B.assign B.body) w ∧
    RoundIn Fence.wide 0 P B.L B.fn ((B.ps.zip xs).foldl (fun t (p, v) => t.setIfInBounds p v) B.tmps) B.assign B.body w (fun e w' => ∃ ρ', e = .returned (.bool j.isNone) ∧ Ext ρ ρ' ∧ YInv B (B.rest j) ρ' H' w') := by
  unfold roundF at h
  split at h
  · rename_i t hno ht
    simp only [Bool.and_eq_true] at hno
    obtain ⟨hlen, htr⟩ := roundT_rel (ht0.mono y.st.ext) hv ht
    have hfold : (B.ps.zip xs).foldl (fun t (p, v) => t.setIfInBounds p v) B.tmps = (B.ps.toList.zip xs.toList).foldl (fun t (p, v) => t.setIfInBounds p v) B.tmps := by
      rw [← Array.foldl_toList, Array.toList_zip]
    refine ⟨?_, ?_⟩
    · have := run_yield (P := P) (args := xs) y.hl (by simpa [Ranged.record] using hlen.symm)
      exact this
    · rw [hfold]
      split at h
      · rename_i s1 h1
        split at h
        · rename_i x s2 h2
          split at h
          · rename_i j' hj
            cases h
            obtain ⟨u1, d1⟩ := codeIn_sound hcall lf B.assign hno.1 _ _ _ h1
            obtain ⟨u2, d2⟩ := codeIn_sound hcall lf B.body hno.2 _ _ _ h2
            refine roundIn_of_wpIn trivial ?_
            have q1 := d1 (Fence.wide.inRound B.L) (.round _) B.N ρ { tmps := (B.ps.toList.zip xs.toList).foldl (fun t (p, v) => t.setIfInBounds p v) B.tmps, defers := [] } [] w ⟨hg0.mono y.st.ext, htr, rfl, y.st.sim, y.st.wf⟩ (y.free hf (u2.trans hup))
            rw [sh_nil] at q1
            refine q1 _ (fun ρ1 a1 w1 e1 he1 st1 r1 => ?_)
            have he1 : e1 = _ := he1
            subst he1
            have y1 := y.step st1 u1
            refine ⟨_, run_beginRound y1.hl rfl, ?_⟩
            have y2 := y1.turn (.loop { B.record .ready none with state := .busy })
            refine d2 (Fence.wide.inRound B.L) (.round _) B.N ρ1 a1 [] _ ⟨r1.g, r1.t, r1.d, y2.st.sim, y2.st.wf⟩ (y2.free hf hup) _ (fun ρ2 a2 w2 e2 he2 st2 r2 => ?_)
            have y3 := y2.step st2 u2
            have fin : ∀ jj : Option Code, ∃ v w', (Instr.endRound B.L jj).run P w2 = .ok v w' ∧ ∃ ρ', Ending.returned v = .returned (.bool jj.isNone) ∧ Ext ρ ρ' ∧ YInv B (B.rest jj) ρ' s2.H w' := fun jj =>
              ⟨_, _, run_endRound jj y3.hl, ρ2, rfl, st1.ext.trans st2.ext, y3.turn _⟩
            cases x with
            | n => have he2 : e2 = _ := he2; subst he2; cases hj; exact fin none
            | ret => have he2 : e2 = _ := he2; subst he2; cases hj; exact fin (some .ret)
            | ex id => have he2 : e2 = _ := he2; subst he2; cases hj; exact fin (some (.exit id))
            | pan v => cases hj
          · cases h
        · cases h
      · cases h
  · cases h

/-! ### the iterator -/

structure YS where
  s : St
  j : Option Code
  Y : List Nat

inductive YK where
  | mv (d : Nat)
  | call (args : List Operand)
  | plain

def isY (Y : List Nat) : Operand → Bool
  | .tmp y => hasN y Y
  | _ => false

def kindY (Y : List Nat) (o : Oper) : YK :=
  match o.dst, o.op with
  | some d, .move x => match isY Y x with
    | true => .mv d
    | false => .plain
  | _, .call c => match c.callee with
    | .value f => match isY Y f with
      | true => .call c.args.toList
      | false => .plain
    | _ => .plain
  | _, _ => .plain

/-- what is written is yield no more -/
def without (d : Option Nat) : List Nat → List Nat
  | [] => []
  | k :: l => match d with
    | none => k :: without d l
    | some e => match e.beq k with
      | true => without d l
      | false => k :: without d l

theorem without_mem {d : Option Nat} {k : Nat} : ∀ {l : List Nat}, k ∈ without d l → k ∈ l ∧ ∀ e, d = some e → e ≠ k
  | [], h => by cases h
  | j :: l, h => by
    unfold without at h
    cases d with
    | none =>
      rcases List.mem_cons.1 h with rfl | h
      · exact ⟨List.mem_cons_self .., fun e he => by cases he⟩
      · obtain ⟨h1, h2⟩ := without_mem h
        exact ⟨List.mem_cons_of_mem _ h1, h2⟩
    | some e =>
      dsimp only at h
      split at h
      · obtain ⟨h1, h2⟩ := without_mem h
        exact ⟨List.mem_cons_of_mem _ h1, h2⟩
      · rename_i hne
        rcases List.mem_cons.1 h with rfl | h
        · exact ⟨List.mem_cons_self .., fun e' he => by cases he; exact beq_false.1 hne⟩
        · obtain ⟨h1, h2⟩ := without_mem h
          exact ⟨List.mem_cons_of_mem _ h1, h2⟩

def notIn (Y : List Nat) : Option Nat → Bool
  | none => true
  | some d => match hasN d Y with
    | true => false
    | false => true

/-- a round, of what yield is given -/
abbrev RoundT := List V → Heap → Option (Heap × Option Code)

def stepY (P : Program) (n : Nat) (call : CallT) (rd : RoundT) (ops : Array Oper) (o : Oper) (y : YS) : Option YS :=
  match wanted y.s.t (prepOper P n ops o).guard with
  | some false => some ⟨⟨setT (o.dst.map Tr.path) undef y.s.t, y.s.H, y.s.d⟩, y.j, without o.dst y.Y⟩
  | none => none
  | some true => match kindY y.Y o with
    | .mv d => match y.s.t.getP (Tr.path d), dstOk n (some d) with
      | none, true => some ⟨y.s, y.j, d :: y.Y⟩
      | _, _ => none
    | .call args => match y.j, notIn y.Y o.dst && dstOk n o.dst, (srcs P args).bind fun l => gets y.s.t l with
      | none, true, some vs => match rd vs y.s.H with
        | some (H', j') => some ⟨⟨setT (o.dst.map Tr.path) (.bool j'.isNone) y.s.t, H', y.s.d⟩, j', y.Y⟩
        | none => none
      | _, _, _ => none
    | .plain => match notIn y.Y o.dst && noDefer o with
      | true => match runIOp call (fun t H d => some (.n, ⟨t, H, d⟩)) (prepOper P n ops o) y.s.t y.s.H y.s.d with
        | some (.n, s') => some ⟨s', y.j, y.Y⟩
        | _ => none
      | false => none

def opsY (P : Program) (n : Nat) (call : CallT) (rd : RoundT) (ops : Array Oper) : List Oper → YS → Option YS
  | [], y => some y
  | o :: l, y => match stepY P n call rd ops o y with
    | some y' => opsY P n call rd ops l y'
    | none => none

def loopY (f : YS → Option (X × YS)) : Nat → YS → Option (X × YS)
  | 0, _ => none
  | n + 1, y => match f y with
    | some (.n, y') => loopY f n y'
    | r => r

def codeY (P : Program) (n : Nat) (call : CallT) (rd : RoundT) (lf : Nat) : Code → YS → Option (X × YS)
  | .skip, y => some (.n, y)
  | .label _, y => some (.n, y)
  | .region _ ops draw, y => match draw with
    | true => none
    | false => match opsY P n call rd ops ops.toList y with
      | some y' => some (.n, y')
      | none => none
  | .seq a b, y => match codeY P n call rd lf a y with
    | some (.n, y') => codeY P n call rd lf b y'
    | r => r
  | .cond c a b, y => match (src P c).bind fun sc => sc.get y.s.t with
    | some (.bool true) => codeY P n call rd lf a y
    | some (.bool false) => codeY P n call rd lf b y
    | _ => none
  | .block id a, y => match codeY P n call rd lf a y with
    | some (.ex i, y') => some (match i.beq id with | true => .n | false => .ex i, y')
    | r => r
  | .loop a, y => loopY (codeY P n call rd lf a) lf y
  | .exit id, y => some (.ex id, y)
  | .scope a, y => codeY P n call rd lf a y
  | .ret, y => some (.ret, y)
  | _, _ => none

/-- what a round is worth -/
structure RdSnd (P : Program) (B : Ranged) (rd : RoundT) : Prop where
  up : ∀ vs H H' j, rd vs H = some (H', j) → H.Upto H'
  go : ∀ vs H H' j Hend, rd vs H = some (H', j) → Free B.ρ0 B.H0 Hend → H'.Upto Hend → ∀ ρ w (xs : Array Value), YInv B (B.rest none) ρ H w → VRels ρ vs xs.toList →
    ∃ tmps, (Instr.yield B.L xs).run P w = .ok (.round B.L B.fn tmps B.assign B.body) w ∧ RoundIn Fence.wide 0 P B.L B.fn tmps B.assign B.body w (fun e w' => ∃ ρ', e = .returned (.bool j.isNone) ∧ Ext ρ ρ' ∧ YInv B (B.rest j) ρ' H' w')

structure YRel (P : Program) (B : Ranged) (n : Nat) (y : YS) (ρ : Emb) (a : Act) (w : World) : Prop where
  inv : YInv B (B.rest y.j) ρ y.s.H w
  g : GRel P ρ
  t : TRel n ρ y.s.t a
  d : DRel ρ y.s.d a.defers
  y : ∀ k ∈ y.Y, a.tmps[k]? = some (.func (.yield B.L) #[] #[])

def YDoes (P : Program) (B : Ranged) (n : Nat) (y : YS) (x : X) (y' : YS) (wp : (Exit → Act → World → Prop) → Act → World → Prop) : Prop :=
  y.s.H.Upto y'.s.H ∧ ∀ (ρ : Emb) (a : Act) (w : World) (Hend : Heap), YRel P B n y ρ a w → Free B.ρ0 B.H0 Hend → y'.s.H.Upto Hend → ∀ (Q : Exit → Act → World → Prop),
    (∀ ρ' a' w' e, ExitRel ρ' x e → YRel P B n y' ρ' a' w' → Q e a' w') → wp Q a w

theorem notIn_put {Y : List Nat} {dst : Option Nat} (h : notIn Y dst = true) (a : Act) (v : Value) : ∀ k ∈ Y, (a.put dst v).tmps[k]? = a.tmps[k]? := fun k hk => by
  cases dst with
  | none => rfl
  | some d =>
    have hd : hasN d Y = false := by
      unfold notIn at h
      simp only at h
      split at h
      · cases h
      · rename_i h'; exact h'
    have hne : d ≠ k := fun e => by subst e; rw [hasN_iff.2 hk] at hd; cases hd
    simp only [Act.put]
    rw [Array.getElem?_setIfInBounds_ne hne]

theorem wp_keeps {P : Program} {o : Oper} {a : Act} {w : World} {K : Act → World → Prop} {Q : Exit → Act → World → Prop} {Y : List Nat} (hn : notIn Y o.dst = true) (h : o.wp P a w K Q) : o.wp P a w (fun a' w' => K a' w' ∧ ∀ k ∈ Y, a'.tmps[k]? = a.tmps[k]?) Q := by
  unfold Oper.wp at h ⊢
  generalize (execOp a.eval o).run P w = r at h ⊢
  cases r with
  | ok nx w' =>
    cases nx with
    | value v => exact ⟨h, notIn_put hn a v⟩
    | skip => exact ⟨h, notIn_put hn a _⟩
    | defer d => exact ⟨h, notIn_put hn { a with defers := d :: a.defers } _⟩
    | enter f args =>
      refine Calls.mono h ?_
      intro e w'' he
      cases e with
      | returned v => exact ⟨he, notIn_put hn a v⟩
      | panicked c => exact he
      | outgrown => exact he
    | row row args => exact Rows.mono h (fun v w'' he => ⟨he, notIn_put hn a v⟩)
    | _ => exact h.elim
  | halt hh w' =>
    cases hh with
    | panic v => exact h
    | _ => exact h.elim

theorem isY_tmp {Y : List Nat} {x : Operand} (h : isY Y x = true) : ∃ k, x = .tmp k ∧ k ∈ Y := by
  unfold isY at h
  split at h
  · exact ⟨_, rfl, hasN_iff.1 h⟩
  · cases h

theorem eval_yield {a : Act} {k : Nat} {v : Value} (h : a.tmps[k]? = some v) : a.eval (.tmp k) = v := by
  show a.tmps.getD k Go.undef = v
  simp [Array.getD_eq_getD_getElem?, h]

theorem stepY_sound {P : Program} {n : Nat} {call : CallT} (hcall : CallSnd P call) {B : Ranged} {rd : RoundT} (hrd : RdSnd P B rd) {ops : Array Oper} {o : Oper} {y y' : YS} (h : stepY P n call rd ops o y = some y') :
    y.s.H.Upto y'.s.H ∧ ∀ (ρ : Emb) (a : Act) (w : World) (Hend : Heap), YRel P B n y ρ a w → Free B.ρ0 B.H0 Hend → y'.s.H.Upto Hend → ∀ (K : Act → World → Prop) (Q : Exit → Act → World → Prop), (∀ ρ' a' w', YRel P B n y' ρ' a' w' → K a' w') →
      if Region.wanted o (yielded ops a.tmps) then o.wpIn Fence.wide 0 P a w K Q else (∀ f, o.about P w a.eval = some f → Fence.wide.fn f) ∧ K (a.put o.dst Go.undef) w := by
  unfold stepY at h
  cases hwant : wanted y.s.t (prepOper P n ops o).guard with
  | none => rw [hwant] at h; cases h
  | some b =>
  rw [hwant] at h
  cases b with
  | false =>
    cases h
    refine ⟨.refl _, fun ρ a w Hend r hf hup K Q hK => ?_⟩
    rw [if_neg (by rw [wanted_rel r.t hwant]; decide)]
    refine ⟨fun _ _ => trivial, hK ρ _ w ⟨r.inv, r.g, r.t.put (VRel.undef _) (.inr ⟨rfl, rfl⟩), by rw [Act.put_defers']; exact r.d, fun i hi => ?_⟩⟩
    obtain ⟨h1, h2⟩ := without_mem hi
    rw [← r.y i h1]
    cases hd : o.dst with
    | none => rfl
    | some d =>
      simp only [Act.put]
      rw [Array.getElem?_setIfInBounds_ne (h2 d hd)]
  | true =>
  dsimp only at h
  split at h
  · rename_i d hk
    split at h
    · rename_i hnone hdst
      cases h
      refine ⟨.refl _, fun ρ a w Hend r hf hup K Q hK => ?_⟩
      obtain ⟨dst, op, ty, pos, after, guard⟩ := o
      obtain ⟨rfl, x, rfl, hx⟩ : dst = some d ∧ ∃ x, op = .move x ∧ isY y.Y x = true := by
        unfold kindY at hk
        dsimp only at hk
        split at hk
        · split at hk
          · rename_i hx; cases hk; exact ⟨rfl, _, rfl, hx⟩
          · cases hk
        · split at hk
          · split at hk <;> cases hk
          · cases hk
        · cases hk
      obtain ⟨k, rfl, hkm⟩ := isY_tmp hx
      rw [if_pos (wanted_rel r.t hwant)]
      refine ⟨fun _ _ => trivial, ?_⟩
      have he : a.eval (.tmp k) = .func (.yield B.L) #[] #[] := eval_yield (r.y k hkm)
      have hrun : (Oper.semAt Fence.wide.round a.eval ⟨some d, .move (.tmp k), ty, pos, after, guard⟩).run P w = .ok (.value (.func (.yield B.L) #[] #[])) w := by
        rw [Oper.semAt_eq _ _ _ (fun c e => by cases e)]
        simp [execOp, he]
      rw [hrun, Oper.uponIn_value]
      have hdlt : d < a.tmps.size := by
        have := r.t.sz
        have hd : Nat.ble (Nat.succ d) n = true := hdst
        have := ble_iff.1 hd
        omega
      refine hK ρ _ w ⟨r.inv, r.g, ⟨by have := r.t.sz; simpa [Act.put] using this, fun i v hv => ?_⟩, by rw [Act.put_defers']; exact r.d, fun i hi => ?_⟩
      · by_cases hid : i = d
        · subst hid; rw [hnone] at hv; cases hv
        · have := r.t.val i v hv
          simp only [Act.put, Array.getD_eq_getD_getElem?] at this ⊢
          rwa [Array.getElem?_setIfInBounds_ne (Ne.symm hid)]
      · by_cases hid : i = d
        · subst hid
          simp [Act.put, Array.getElem?_setIfInBounds, hdlt]
        · rcases List.mem_cons.1 hi with e | hi
          · exact absurd e hid
          · simp only [Act.put]
            rw [Array.getElem?_setIfInBounds_ne (Ne.symm hid)]
            exact r.y i hi
    · cases h
  · rename_i args hk
    split at h
    · rename_i vs hj hnd hvs
      simp only [Bool.and_eq_true] at hnd
      split at h
      · rename_i H' j' hr
        cases h
        refine ⟨hrd.up _ _ _ _ hr, fun ρ a w Hend r hf hup K Q hK => ?_⟩
        obtain ⟨dst, op, ty, pos, after, guard⟩ := o
        obtain ⟨c, f, rfl, hc, hfy, rfl⟩ : ∃ c f, op = .call c ∧ c.callee = .value f ∧ isY y.Y f = true ∧ args = c.args.toList := by
          unfold kindY at hk
          dsimp only at hk
          split at hk
          · split at hk <;> cases hk
          · split at hk
            · rename_i f hc
              split at hk
              · rename_i hfy; cases hk; exact ⟨_, f, rfl, hc, hfy, rfl⟩
              · cases hk
            · cases hk
          · cases hk
        obtain ⟨callee, cargs, ats⟩ := c
        have hc : callee = .value f := hc
        subst hc
        obtain ⟨k, rfl, hkm⟩ := isY_tmp hfy
        rw [if_pos (wanted_rel r.t hwant)]
        refine ⟨fun _ _ => trivial, ?_⟩
        have he : a.eval (.tmp k) = .func (.yield B.L) #[] #[] := eval_yield (r.y k hkm)
        cases hs : srcs P cargs.toList with
        | none => rw [hs] at hvs; cases hvs
        | some l =>
          rw [hs] at hvs
          have hvs : gets y.s.t l = some vs := hvs
          have hargs := srcs_rel r.g r.t hs hvs
          have hinv := r.inv
          rw [hj] at hinv
          obtain ⟨tmps, hy, hround⟩ := hrd.go vs _ _ _ Hend hr hf hup ρ w (cargs.map a.eval) hinv (by simpa using hargs)
          have hrun : (Oper.semAt Fence.wide.round a.eval ⟨dst, .call ⟨.value (.tmp k), cargs, ats⟩, ty, pos, after, guard⟩).run P w = .ok (.round B.L B.fn tmps B.assign B.body) w := by
            rw [Oper.semAt_eq _ _ _ (fun c e => by cases e)]
            simp [execOp, resolve, he, Deferred.ofValue, invoke]
            exact hy
          rw [hrun, Oper.uponIn_round]
          refine ⟨(fun e => by cases e), hround.mono ?_⟩
          rintro e w' ⟨ρ', rfl, hext, hinv'⟩
          have hg' := r.g.mono hext
          have hval : VRel ρ' (.bool j'.isNone) (.bool j'.isNone) := rfl
          exact hK ρ' _ w' ⟨hinv', hg', (r.t.mono hext).put hval (.inl hnd.2), by rw [Act.put_defers']; exact r.d.mono hext, fun i hi => (notIn_put hnd.1 a _ i hi).trans (r.y i hi)⟩
      · cases h
    · cases h
  · split at h
    · rename_i hnd
      simp only [Bool.and_eq_true] at hnd
      split at h
      · rename_i s' hrun
        cases h
        unfold runIOp at hrun
        split at hrun
        · split at hrun
          · rename_i sp hs
            obtain ⟨hdst, hprep⟩ : dstOk n o.dst = true ∧ prep P o.op = some sp := by
              unfold prepOper at hs
              dsimp only at hs
              split at hs
              · rename_i hd; exact ⟨hd, hs⟩
              · cases hs
            have hsnd : OpSnd P o sp := by
              obtain ⟨dst, op, ty, pos, after, guard⟩ := o
              exact prep_sound hprep
            rcases runOp_does hcall hsnd hdst hrun with ⟨t1, H1, d1, hk, hn, hdoes⟩ | ⟨v, H1, h', _⟩
            · cases hk
              refine ⟨hn, fun ρ a w Hend r hf hup K Q hK => ?_⟩
              rw [if_pos (wanted_rel r.t hwant)]
              have q := hdoes B.N ρ a w ⟨r.g, r.t, r.d, r.inv.st.sim, r.inv.st.wf⟩ (r.inv.free hf hup) (fun a' w' => (∃ ρ', Step B.N ρ y.s.H w ρ' H1 w' ∧ Rel P n B.N ρ' t1 H1 d1 a' w')) (fun _ _ _ => False) (fun ρ' a' w' st rel => ⟨ρ', st, rel⟩)
              have q := wp_keeps hnd.1 q
              have := op_in (ds := []) (Q := Q) (K' := K) .wide (fun ⟨_, _, h⟩ => h) (fun e a w h => h.elim) hnd.2 (fun a' w' hh => by
                rw [sh_nil]
                obtain ⟨⟨ρ', st, rel⟩, hk⟩ := hh
                exact hK ρ' a' w' ⟨r.inv.step st hn, rel.g, rel.t, rel.d, fun i hi => (hk i hi).trans (r.y i hi)⟩) q
              rwa [sh_nil] at this
            · cases h'
          · cases hrun
        · rename_i hw2; rw [hwant] at hw2; cases hw2
        · cases hrun
      · cases h
    · cases h

theorem opsY_sound {P : Program} {n : Nat} {call : CallT} (hcall : CallSnd P call) {B : Ranged} {rd : RoundT} (hrd : RdSnd P B rd) {ops : Array Oper} : ∀ (ls : List Oper) (k : Nat) (y y' : YS),
    (∀ i o, ls[i]? = some o → ops[k + i]? = some o) → opsY P n call rd ops ls y = some y' → YDoes P B n y .n y' (fun Q => wpOpsIn Fence.wide 0 P ops Q (List.range' k ls.length))
  | [], k, y, y', hsub, h => by
    cases h
    exact ⟨.refl _, fun ρ a w Hend r hf hup Q hQ => hQ ρ a w _ rfl r⟩
  | o :: ls, k, y, y', hsub, h => by
    have ho : ops[k]? = some o := hsub 0 o rfl
    have hsub' : ∀ i o', ls[i]? = some o' → ops[k + 1 + i]? = some o' := fun i o' hi => by
      have := hsub (i + 1) o' (by simpa using hi)
      rwa [show k + (i + 1) = k + 1 + i by omega] at this
    simp only [opsY] at h
    split at h
    · rename_i y1 h1
      obtain ⟨u1, d1⟩ := stepY_sound hcall hrd h1
      obtain ⟨u2, d2⟩ := opsY_sound hcall hrd ls (k + 1) y1 y' hsub' h
      refine ⟨u1.trans u2, fun ρ a w Hend r hf hup Q hQ => ?_⟩
      simp only [List.length_cons, List.range'_succ, wpOpsIn, ho]
      exact d1 ρ a w Hend r hf (u2.trans hup) _ Q (fun ρ' a' w' r' => d2 ρ' a' w' Hend r' hf hup Q hQ)
    · cases h

theorem loopY_upto {f : YS → Option (X × YS)} (hf : ∀ y x y', f y = some (x, y') → y.s.H.Upto y'.s.H) : ∀ (m : Nat) (y : YS) (x : X) (y' : YS), loopY f m y = some (x, y') → y.s.H.Upto y'.s.H
  | 0, y, x, y', h => by cases h
  | m + 1, y, x, y', h => by
    have h : (match f y with | some (.n, y') => loopY f m y' | r => r) = some (x, y') := h
    split at h
    · rename_i y1 h1
      exact (hf y .n y1 h1).trans (loopY_upto hf m y1 x y' h)
    · exact hf y x y' h

theorem codeY_sound {P : Program} {n : Nat} {call : CallT} (hcall : CallSnd P call) {B : Ranged} {rd : RoundT} (hrd : RdSnd P B rd) (lf : Nat) : ∀ (c : Code) (y : YS) (x : X) (y' : YS), codeY P n call rd lf c y = some (x, y') → YDoes P B n y x y' (fun Q => c.wpIn Fence.wide 0 P Q) := by
  intro c
  induction c with
  | skip => intro y x y' h; cases h; exact ⟨.refl _, fun ρ a w Hend r hf hup Q hQ => wpIn_skip (hQ ρ a w _ rfl r)⟩
  | label l => intro y x y' h; cases h; exact ⟨.refl _, fun ρ a w Hend r hf hup Q hQ => wpIn_label (hQ ρ a w _ rfl r)⟩
  | region id ops draw =>
    intro y x y' h
    cases draw with
    | true => simp [codeY] at h
    | false =>
      simp only [codeY] at h
      split at h
      · rename_i y1 h1
        cases h
        obtain ⟨u, d⟩ := opsY_sound hcall hrd ops.toList 0 y _ (fun i o hi => by simpa using hi) h1
        refine ⟨u, fun ρ a w Hend r hf hup Q hQ => wpIn_region ?_⟩
        have := d ρ a w Hend r hf hup Q hQ
        rwa [Array.length_toList, ← List.range_eq_range'] at this
      · cases h
  | seq a b iha ihb =>
    intro y x y' h
    have h : (match codeY P n call rd lf a y with | some (.n, y') => codeY P n call rd lf b y' | r => r) = some (x, y') := h
    split at h
    · rename_i y1 h1
      obtain ⟨u1, d1⟩ := iha y .n y1 h1
      obtain ⟨u2, d2⟩ := ihb y1 x y' h
      refine ⟨u1.trans u2, fun ρ ac w Hend r hf hup Q hQ => wpIn_seq ?_⟩
      refine d1 ρ ac w Hend r hf (u2.trans hup) _ (fun ρ1 a1 w1 e1 he1 r1 => ?_)
      have he1 : e1 = _ := he1
      subst he1
      exact d2 ρ1 a1 w1 Hend r1 hf hup Q hQ
    · rename_i hno
      have hxn : x ≠ .n := fun e => by subst e; exact hno _ h
      obtain ⟨u1, d1⟩ := iha y x y' h
      exact ⟨u1, fun ρ ac w Hend r hf hup Q hQ => wpIn_seq (d1 ρ ac w Hend r hf hup _ (fun ρ1 a1 w1 e he r1 => exit_then he hxn (hQ ρ1 a1 w1 e he r1)))⟩
  | cond c a b iha ihb =>
    intro y x y' h
    simp only [codeY] at h
    cases hc : src P c with
    | none => rw [hc] at h; simp at h
    | some sc =>
      rw [hc] at h
      simp only [Option.bind_some] at h
      split at h
      · rename_i hv
        obtain ⟨u1, d1⟩ := iha y x y' h
        exact ⟨u1, fun ρ ac w Hend r hf hup Q hQ => wpIn_cond_true (src_rel r.g r.t hc hv) (d1 ρ ac w Hend r hf hup Q hQ)⟩
      · rename_i hv
        obtain ⟨u1, d1⟩ := ihb y x y' h
        exact ⟨u1, fun ρ ac w Hend r hf hup Q hQ => wpIn_cond_false (src_rel r.g r.t hc hv) (d1 ρ ac w Hend r hf hup Q hQ)⟩
      · cases h
  | block id a iha =>
    intro y x y' h
    have h : (match codeY P n call rd lf a y with | some (.ex i, y') => some (match i.beq id with | true => X.n | false => .ex i, y') | r => r) = some (x, y') := h
    split at h
    · rename_i i y1 h1
      cases h
      obtain ⟨u1, d1⟩ := iha y (.ex i) _ h1
      refine ⟨u1, fun ρ ac w Hend r hf hup Q hQ => wpIn_block (d1 ρ ac w Hend r hf hup _ (fun ρ1 a1 w1 e he r1 => ?_))⟩
      have he : e = _ := he
      subst he
      cases hid : i.beq id with
      | true =>
        have := beq_iff.1 hid
        subst this
        simp only [hid] at hQ
        simp only [Exit.inBlock, if_true]
        exact hQ ρ1 a1 w1 _ rfl r1
      | false =>
        have := beq_false.1 hid
        simp only [hid] at hQ
        simp only [Exit.inBlock, if_neg this]
        exact hQ ρ1 a1 w1 _ rfl r1
    · rename_i hno
      obtain ⟨u1, d1⟩ := iha y x y' h
      refine ⟨u1, fun ρ ac w Hend r hf hup Q hQ => wpIn_block (d1 ρ ac w Hend r hf hup _ (fun ρ1 a1 w1 e he r1 => ?_))⟩
      have := hQ ρ1 a1 w1 e he r1
      cases x with
      | n => have he : e = _ := he; subst he; exact this
      | ex id' => exact absurd h (hno id' y')
      | ret => have he : e = _ := he; subst he; exact this
      | pan v => obtain ⟨z, rfl, _⟩ := he; exact this
  | loop c0 iha =>
    intro y x y' h
    have h : loopY (codeY P n call rd lf c0) lf y = some (x, y') := h
    have hup0 := loopY_upto (f := codeY P n call rd lf c0) (fun y x y' h => (iha y x y' h).1)
    refine ⟨hup0 lf y x y' h, fun ρ a0 w0 Hend r hf hup Q hQ => ?_⟩
    refine wpIn_loop_nat (fun m a w => ∃ yc ρc, loopY (codeY P n call rd lf c0) m yc = some (x, y') ∧ YRel P B n yc ρc a w) (n := lf) ⟨y, ρ, h, r⟩ ?_
    rintro m a w ⟨yc, ρc, hl, rc⟩
    cases m with
    | zero => cases hl
    | succ m =>
      have hl : (match codeY P n call rd lf c0 yc with | some (.n, y') => loopY (codeY P n call rd lf c0) m y' | r => r) = some (x, y') := hl
      split at hl
      · rename_i y1 h1
        obtain ⟨u1, d1⟩ := iha yc .n y1 h1
        have u2 := hup0 m y1 x y' hl
        refine d1 ρc a w Hend rc hf (u2.trans hup) _ (fun ρ1 a1 w1 e he r1 => ?_)
        have he : e = _ := he
        subst he
        exact ⟨m, Nat.lt_succ_self m, y1, ρ1, hl, r1⟩
      · rename_i hno
        have hxn : x ≠ .n := fun e => by subst e; exact hno _ hl
        obtain ⟨u1, d1⟩ := iha yc x y' hl
        exact d1 ρc a w Hend rc hf hup _ (fun ρ1 a1 w1 e he r1 => exit_then he hxn (hQ ρ1 a1 w1 e he r1))
  | exit id => intro y x y' h; cases h; exact ⟨.refl _, fun ρ a w Hend r hf hup Q hQ => wpIn_exit (hQ ρ a w _ rfl r)⟩
  | scope a iha =>
    intro y x y' h
    obtain ⟨u1, d1⟩ := iha y x y' h
    refine ⟨u1, fun ρ ac w Hend r hf hup Q hQ => wpIn_scope_straight (d1 ρ ac w Hend r hf hup _ (fun ρ1 a1 w1 e he r1 => ?_))⟩
    have := hQ ρ1 a1 w1 e he r1
    cases x with
    | n => have he : e = _ := he; subst he; exact this
    | ex id' => have he : e = _ := he; subst he; exact this
    | ret => have he : e = _ := he; subst he; exact this
    | pan v => obtain ⟨z, rfl, _⟩ := he; exact this
  | ret => intro y x y' h; cases h; exact ⟨.refl _, fun ρ a w Hend r hf hup Q hQ => wpIn_ret (hQ ρ a w _ rfl r)⟩
  | goto l => intro y x y' h; cases h
  | rangeFunc => intro y x y' h; cases h
  | refuse => intro y x y' h; cases h

/-! ### the iterator's call, and the function that ranges -/

def itF (P : Program) (call : CallT) (rd : RoundT) (lf : Nat) (id : FuncId) (cap : List V) (H : Heap) : Option (Heap × Option Code) :=
  match P.funcs[id]? with
  | some fn => match fn.name == "runtime.NumGoroutine" with
    | true => none
    | false => match fn.body, fn.results.toList with
      | some b, [] => match codeY P fn.ntmps call rd lf b ⟨⟨argsT cap 1 .e, H, []⟩, none, [0]⟩ with
        | some (x, y) => match isEnd x, y.s.d with
          | true, [] => some (y.s.H, y.j)
          | _, _ => none
        | none => none
      | _, _ => none
  | none => none

def xOf : Option Code → Option X
  | none => some .n
  | some .ret => some .ret
  | some (.exit i) => some (.ex i)
  | _ => none

def codeG (P : Program) (n : Nat) (call : CallT) (lf : Nat) : Code → St → Bool → Option (X × St × Bool)
  | .rangeFunc g ps assign body, s, k => match k, s.d, (src P g).bind fun sg => sg.get s.t with
    | false, [], some (.func (.func id) [] cap) => match itF P call (roundF P n call lf s.t ps.toList assign body) lf id cap s.H with
      | some (H', j) => match xOf j with
        | some x => some (x, ⟨s.t, H', []⟩, true)
        | none => none
      | none => none
    | _, _, _ => none
  | .seq a b, s, k => match codeG P n call lf a s k with
    | some (.n, s', k') => codeG P n call lf b s' k'
    | r => r
  | .cond c a b, s, k => match (src P c).bind fun sc => sc.get s.t with
    | some (.bool true) => codeG P n call lf a s k
    | some (.bool false) => codeG P n call lf b s k
    | _ => none
  | .block id a, s, k => match codeG P n call lf a s k with
    | some (.ex i, r) => some (match i.beq id with | true => .n | false => .ex i, r)
    | r => r
  | .region id ops draw, s, k => match noDeferC (.region id ops draw), runC call lf (prepC P n (.region id ops draw)) s with
    | true, some (x, s') => some (x, s', k)
    | _, _ => none
  | .loop a, s, k => match noDeferC (.loop a), runC call lf (prepC P n (.loop a)) s with
    | true, some (x, s') => some (x, s', k)
    | _, _ => none
  | .ret, s, k => some (.ret, s, k)
  | .exit id, s, k => some (.ex id, s, k)
  | .skip, s, k => some (.n, s, k)
  | .label _, s, k => some (.n, s, k)
  | _, _, _ => none

theorem VRels.length {ρ : Emb} : ∀ {vs : List V} {xs : List Value}, VRels ρ vs xs → vs.length = xs.length
  | [], xs, h => by have h : xs = [] := h; subst h; rfl
  | v :: vs, xs, h => by
    obtain ⟨y, ys, rfl, _, h2⟩ := h
    simp [VRels.length h2]

theorem itF_upto {P : Program} {call : CallT} {B : Ranged} {rd : RoundT} (hcall : CallSnd P call) (hrd : RdSnd P B rd) {lf : Nat} {id : FuncId} {cap : List V} {H H' : Heap} {j : Option Code} (h : itF P call rd lf id cap H = some (H', j)) : HasBody P id ∧ H.Upto H' := by
  unfold itF at h
  split at h
  · rename_i fn hf
    cases hname : (fn.name == "runtime.NumGoroutine") with
    | true => rw [hname] at h; cases h
    | false =>
      rw [hname] at h
      dsimp only at h
      split at h
      · rename_i b hb hres
        split at h
        · rename_i x y hrun
          split at h
          · cases h
            exact ⟨⟨fn, b, hf, hname, hb⟩, (codeY_sound hcall hrd lf b _ _ _ hrun).1⟩
          · cases h
        · cases h
      · cases h
  · cases h

theorem itF_sound {P : Program} {call : CallT} {B : Ranged} {rd : RoundT} (hcall : CallSnd P call) (hrd : RdSnd P B rd) {lf : Nat} {id : FuncId} {cap : List V} {H H' Hend : Heap} {j : Option Code} (h : itF P call rd lf id cap H = some (H', j))
    {ρ : Emb} {w : World} {cap' : Array Value} (hg : GRel P ρ) (y0 : YInv B (B.rest none) ρ H w) (hc : VRels ρ cap cap'.toList) (hf : Free B.ρ0 B.H0 Hend) (hup : H'.Upto Hend) :
    CallsIn Fence.wide 0 P id (#[.func (.yield B.L) #[] #[]] ++ cap') w (fun e w' => ∃ v ρ', e = .returned v ∧ YInv B (B.rest j) ρ' H' w') := by
  unfold itF at h
  split at h
  · rename_i fn hfn
    cases hname : (fn.name == "runtime.NumGoroutine") with
    | true => rw [hname] at h; cases h
    | false =>
      rw [hname] at h
      dsimp only at h
      split at h
      · rename_i b hb hres
        split at h
        · rename_i x y hrun
          split at h
          · rename_i hx hd
            cases h
            obtain ⟨u, d⟩ := codeY_sound hcall hrd lf b _ _ _ hrun
            refine callsIn_of_wp hfn hb trivial ?_
            refine d ρ { tmps := #[Value.func (.yield B.L) #[] #[]] ++ cap' ++ Array.replicate (fn.ntmps - (#[Value.func (.yield B.L) #[] #[]] ++ cap').size) Go.undef, defers := [] } w Hend ⟨y0, hg, ⟨?_, fun i v hv => ?_⟩, (show DRel ρ [] [] from rfl), fun k hk => ?_⟩ hf hup _ (fun ρ' a' w' e he r => ?_)
            · simp; omega
            · rw [argsT_get] at hv
              split at hv
              · rename_i hi
                obtain ⟨z, hz, hr⟩ := hc.get hv
                have hlen := hc.length
                have hlt : i - 1 < cap'.size := by
                  have := (List.getElem?_eq_some_iff.1 hz).1
                  simpa using this
                have e : (#[Value.func (.yield B.L) #[] #[]] ++ cap' ++ Array.replicate (fn.ntmps - (#[Value.func (.yield B.L) #[] #[]] ++ cap').size) Go.undef).getD i Go.undef = z := by
                  rw [Array.getD_eq_getD_getElem?, Array.getElem?_append_left (by simp; omega), Array.getElem?_append_right (by simp; omega)]
                  have hz' : cap'[i - 1]? = some z := by simpa using hz
                  simp [hz']
                show VRel ρ v ((#[Value.func (.yield B.L) #[] #[]] ++ cap' ++ Array.replicate (fn.ntmps - (#[Value.func (.yield B.L) #[] #[]] ++ cap').size) Go.undef).getD i Go.undef)
                rw [e]; exact hr
              · rw [Tr.getP_e] at hv; cases hv
            · have hk : k = 0 := List.mem_singleton.1 hk
              subst hk
              have h1 : (#[Value.func (.yield B.L) #[] #[]] : Array Value).size = 1 := rfl
              show (#[Value.func (.yield B.L) #[] #[]] ++ cap' ++ Array.replicate (fn.ntmps - (#[Value.func (.yield B.L) #[] #[]] ++ cap').size) Go.undef)[0]? = _
              rw [Array.getElem?_append_left (by rw [Array.size_append]; omega), Array.getElem?_append_left (by omega)]
              rfl
            · have hdf : a'.defers = [] := by have := r.d; rw [hd] at this; exact this
              have hrs : fn.results = #[] := by
                have := congrArg List.toArray hres
                simpa using this
              have fin : a'.defers = [] ∧ ∃ v, (results fn a'.tmps).run P w' = .ok v w' ∧ ∃ v1 ρ', Ending.returned v = .returned v1 ∧ YInv B (B.rest y.j) ρ' y.s.H w' := by
                refine ⟨hdf, .tuple #[], ?_, _, ρ', rfl, r.inv⟩
                unfold results
                rw [hrs]
                simp
              cases x with
              | n => have he : e = _ := he; subst he; exact fin
              | ret => have he : e = _ := he; subst he; exact fin
              | ex id => cases hx
              | pan v => cases hx
          · cases h
        · cases h
      · cases h
  · cases h

theorem roundF_rd {P : Program} {n : Nat} {call : CallT} (hcall : CallSnd P call) {lf : Nat} {t0 : T} {B : Ranged} (hg0 : GRel P B.ρ0) (ht0 : TRel n B.ρ0 t0 { tmps := B.tmps, defers := [] }) : RdSnd P B (roundF P n call lf t0 B.ps.toList B.assign B.body) :=
  ⟨fun vs H H' j h => roundF_upto hcall h, fun vs H H' j Hend h hf hup ρ w xs y hv => ⟨_, roundF_sound hcall h hg0 ht0 y hv hf hup⟩⟩

/-- the marks among the deferred calls, and the world -/
structure GInv (N : Nat) (ρ0 : Emb) (H0 : Heap) (w0 : World) (H : Heap) (k : Bool) (ρ : Emb) (ds : List Deferred) (w : World) : Prop where
  st : Step N ρ0 H0 w0 ρ H w
  low : N ≤ w0.heap.size
  up : H0.Upto H
  mark : match k with
    | false => ds = []
    | true => ∃ D, ds = [{ target := .collected D, args := #[] }] ∧ w0.heap.size ≤ D ∧ w.heap[D]? = some (.deferred (some [])) ∧ Apart ρ H D

theorem GInv.step {N : Nat} {ρ0 ρ ρ' : Emb} {H0 H H' : Heap} {w0 w w' : World} {k : Bool} {ds : List Deferred} (g : GInv N ρ0 H0 w0 H k ρ ds w) (s : Step N ρ H w ρ' H' w') (up : H.Upto H') : GInv N ρ0 H0 w0 H' k ρ' ds w' := by
  refine ⟨g.st.trans s, g.low, g.up.trans up, ?_⟩
  have hm := g.mark
  cases k with
  | false => exact hm
  | true =>
    obtain ⟨D, h1, h2, h3, h4⟩ := hm
    have hlt : D < w.heap.size := (Array.getElem?_eq_some_iff.1 h3).1
    exact ⟨D, h1, h2, (h4.same hlt s).trans h3, h4.step hlt s⟩

def GDoes (P : Program) (n : Nat) (c : Code) (s : St) (k : Bool) (x : X) (s' : St) (k' : Bool) : Prop :=
  s.H.Upto s'.H ∧ ∀ (N : Nat) (ρ0 : Emb) (H0 : Heap) (w0 : World) (ρ : Emb) (a : Act) (ds : List Deferred) (w : World) (Hend : Heap), GInv N ρ0 H0 w0 s.H k ρ ds w → Rel P n N ρ s.t s.H s.d a w → Free ρ0 H0 Hend → s'.H.Upto Hend → ∀ (Q : Exit → Act → World → Prop),
    (∀ ρ' a' ds' w' e, ExitRel ρ' x e → GInv N ρ0 H0 w0 s'.H k' ρ' ds' w' → Rel P n N ρ' s'.t s'.H s'.d a' w' → Q e (sh ds' a') w') → c.wpIn Fence.wide 0 P Q (sh ds a) w

theorem CodeIn.toG {P : Program} {n : Nat} {c : Code} {s s' : St} {x : X} (k : Bool) (h : CodeIn P n c s x s') : GDoes P n c s k x s' k :=
  ⟨h.1, fun N ρ0 H0 w0 ρ a ds w Hend g r hf hup Q hQ => h.2 Fence.wide .wide N ρ a ds w r ((hf.right g.up g.st).left hup) Q (fun ρ' a' w' e he st r' => hQ ρ' a' ds w' e he (g.step st h.1) r')⟩

theorem exit_none {x : X} (hx : xOf none = some x) {ρ : Emb} {Q : Exit → Act → World → Prop} {a : Act} {w : World} (h : ∀ e, ExitRel ρ x e → Q e a w) : Q .normal a w := by
  cases hx; exact h _ rfl

theorem exit_some {P : Program} {c : Code} {x : X} (hx : xOf (some c) = some x) {ρ : Emb} {Q : Exit → Act → World → Prop} {a : Act} {w : World} (h : ∀ e, ExitRel ρ x e → Q e a w) : c.wpIn Fence.wide 0 P Q a w := by
  unfold xOf at hx
  split at hx
  · rename_i e; cases e
  · rename_i e; cases e; cases hx; exact wpIn_ret (h _ rfl)
  · rename_i e; cases e; cases hx; exact wpIn_exit (h _ rfl)
  · cases hx

theorem codeG_sound {P : Program} {n : Nat} {call : CallT} (hcall : CallSnd P call) (lf : Nat) : ∀ (c : Code) (s : St) (k : Bool) (x : X) (s' : St) (k' : Bool), codeG P n call lf c s k = some (x, s', k') → GDoes P n c s k x s' k' := by
  intro c
  induction c with
  | skip => intro s k x s' k' h; cases h; exact ⟨.refl _, fun N ρ0 H0 w0 ρ a ds w Hend g r hf hup Q hQ => wpIn_skip (hQ ρ a ds w _ rfl g r)⟩
  | label l => intro s k x s' k' h; cases h; exact ⟨.refl _, fun N ρ0 H0 w0 ρ a ds w Hend g r hf hup Q hQ => wpIn_label (hQ ρ a ds w _ rfl g r)⟩
  | ret => intro s k x s' k' h; cases h; exact ⟨.refl _, fun N ρ0 H0 w0 ρ a ds w Hend g r hf hup Q hQ => wpIn_ret (hQ ρ a ds w _ rfl g r)⟩
  | exit id => intro s k x s' k' h; cases h; exact ⟨.refl _, fun N ρ0 H0 w0 ρ a ds w Hend g r hf hup Q hQ => wpIn_exit (hQ ρ a ds w _ rfl g r)⟩
  | goto l => intro s k x s' k' h; cases h
  | refuse => intro s k x s' k' h; cases h
  | scope a _ => intro s k x s' k' h; cases h
  | region id ops draw =>
    intro s k x s' k' h
    simp only [codeG] at h
    split at h
    · rename_i hno hrun
      cases h
      exact (codeIn_sound hcall lf _ hno _ _ _ hrun).toG k
    · cases h
  | loop a _ =>
    intro s k x s' k' h
    simp only [codeG] at h
    split at h
    · rename_i hno hrun
      cases h
      exact (codeIn_sound hcall lf _ hno _ _ _ hrun).toG k
    · cases h
  | seq a b iha ihb =>
    intro s k x s' k' h
    have h : (match codeG P n call lf a s k with | some (.n, s', k') => codeG P n call lf b s' k' | r => r) = some (x, s', k') := h
    split at h
    · rename_i s1 k1 h1
      obtain ⟨u1, d1⟩ := iha s k .n s1 k1 h1
      obtain ⟨u2, d2⟩ := ihb s1 k1 x s' k' h
      refine ⟨u1.trans u2, fun N ρ0 H0 w0 ρ ac ds w Hend g r hf hup Q hQ => wpIn_seq ?_⟩
      refine d1 N ρ0 H0 w0 ρ ac ds w Hend g r hf (u2.trans hup) _ (fun ρ1 a1 ds1 w1 e1 he1 g1 r1 => ?_)
      have he1 : e1 = _ := he1
      subst he1
      exact d2 N ρ0 H0 w0 ρ1 a1 ds1 w1 Hend g1 r1 hf hup Q hQ
    · rename_i hno
      have hxn : x ≠ .n := fun e => by subst e; exact hno _ _ h
      obtain ⟨u1, d1⟩ := iha s k x s' k' h
      exact ⟨u1, fun N ρ0 H0 w0 ρ ac ds w Hend g r hf hup Q hQ => wpIn_seq (d1 N ρ0 H0 w0 ρ ac ds w Hend g r hf hup _ (fun ρ1 a1 ds1 w1 e he g1 r1 => exit_then he hxn (hQ ρ1 a1 ds1 w1 e he g1 r1)))⟩
  | cond c a b iha ihb =>
    intro s k x s' k' h
    simp only [codeG] at h
    cases hc : src P c with
    | none => rw [hc] at h; simp at h
    | some sc =>
      rw [hc] at h
      simp only [Option.bind_some] at h
      split at h
      · rename_i hv
        obtain ⟨u1, d1⟩ := iha s k x s' k' h
        exact ⟨u1, fun N ρ0 H0 w0 ρ ac ds w Hend g r hf hup Q hQ => wpIn_cond_true (src_rel r.g r.t hc hv) (d1 N ρ0 H0 w0 ρ ac ds w Hend g r hf hup Q hQ)⟩
      · rename_i hv
        obtain ⟨u1, d1⟩ := ihb s k x s' k' h
        exact ⟨u1, fun N ρ0 H0 w0 ρ ac ds w Hend g r hf hup Q hQ => wpIn_cond_false (src_rel r.g r.t hc hv) (d1 N ρ0 H0 w0 ρ ac ds w Hend g r hf hup Q hQ)⟩
      · cases h
  | block id a iha =>
    intro s k x s' k' h
    have h : (match codeG P n call lf a s k with | some (.ex i, r) => some (match i.beq id with | true => X.n | false => .ex i, r) | r => r) = some (x, s', k') := h
    split at h
    · rename_i i r1 h1
      obtain ⟨s1, k1⟩ := r1
      cases h
      obtain ⟨u1, d1⟩ := iha s k (.ex i) s' k' h1
      refine ⟨u1, fun N ρ0 H0 w0 ρ ac ds w Hend g r hf hup Q hQ => wpIn_block (d1 N ρ0 H0 w0 ρ ac ds w Hend g r hf hup _ (fun ρ1 a1 ds1 w1 e he g1 r1 => ?_))⟩
      have he : e = _ := he
      subst he
      cases hid : i.beq id with
      | true =>
        have := beq_iff.1 hid
        subst this
        simp only [hid] at hQ
        simp only [Exit.inBlock, if_true]
        exact hQ ρ1 a1 ds1 w1 _ rfl g1 r1
      | false =>
        have := beq_false.1 hid
        simp only [hid] at hQ
        simp only [Exit.inBlock, if_neg this]
        exact hQ ρ1 a1 ds1 w1 _ rfl g1 r1
    · rename_i hno
      obtain ⟨u1, d1⟩ := iha s k x s' k' h
      refine ⟨u1, fun N ρ0 H0 w0 ρ ac ds w Hend g r hf hup Q hQ => wpIn_block (d1 N ρ0 H0 w0 ρ ac ds w Hend g r hf hup _ (fun ρ1 a1 ds1 w1 e he g1 r1 => ?_))⟩
      have := hQ ρ1 a1 ds1 w1 e he g1 r1
      cases x with
      | n => have he : e = _ := he; subst he; exact this
      | ex id' => exact absurd h (hno id' (s', k'))
      | ret => have he : e = _ := he; subst he; exact this
      | pan v => obtain ⟨z, rfl, _⟩ := he; exact this
  | rangeFunc gop ps assign body _ _ =>
    intro s k x s' k' h
    simp only [codeG] at h
    split at h
    · rename_i id cap hsd hgv
      split at h
      · rename_i H' j hit
        split at h
        · rename_i x' hx
          cases h
          have hup0 : HasBody P id ∧ s.H.Upto H' := by
            exact itF_upto hcall (B := { N := 1, ρ0 := fun _ => none, H0 := s.H, w0 := { (default : World) with heap := #[] }, fn := 0, tmps := #[], ps := ps, assign := assign, body := body }) ⟨fun vs H H' j h => roundF_upto hcall h, fun vs H H' j Hend h hf hup ρ w xs y hv => absurd y.low (by simp)⟩ hit
          refine ⟨hup0.2, fun N ρ0 H0 w0 ρ a ds w Hend g r hf hup Q hQ => ?_⟩
          have hds : ds = [] := g.mark
          subst hds
          rw [sh_nil]
          have hd : a.defers = [] := by have := r.d; rw [hsd] at this; exact this
          cases hsrc : src P gop with
          | none => rw [hsrc] at hgv; cases hgv
          | some sg =>
            rw [hsrc] at hgv
            have hgv : sg.get s.t = some (.func (.func id) [] cap) := hgv
            obtain ⟨f', c', he, hr1, hr2⟩ := src_rel r.g r.t hsrc hgv
            have hf' : f' = #[] := by
              have hr1 : f'.toList = [] := hr1
              have := congrArg List.toArray hr1
              simpa using this
            subst hf'
            refine wpIn_rangeFunc (fun fn _ => ?_)
            obtain ⟨fn1, b1, hfn1, hnm1, hb1⟩ := hup0.1
            have hnm' : ¬ (fn1.name = "runtime.NumGoroutine") := by simpa using hnm1
            let B : Ranged := ⟨N, ρ, s.H, w, fn, a.tmps, ps, assign, body⟩
            obtain ⟨W1, hW1⟩ : ∃ W1, (w.alloc (.deferred (some []))).alloc (B.rest none) = W1 := ⟨_, rfl⟩
            have hsz : W1.heap.size = w.heap.size + 2 := by rw [← hW1]; simp
            have hL1 : W1.heap[B.L]? = some (B.rest none) := by
              rw [← hW1]; have := World.alloc_heap_new (w.alloc (.deferred (some []))) (B.rest none); rwa [World.size_alloc] at this
            have hK1 : W1.heap[B.D]? = some (.deferred (some [])) := by
              rw [← hW1]; exact (RowKit.Below.heap_alloc _ _ _ (by show w.heap.size < _; simp)).trans (World.alloc_heap_new w _)
            have hold : ∀ c, c < w.heap.size → W1.heap[c]? = w.heap[c]? := fun c hc => by
              rw [← hW1]
              exact (RowKit.Below.heap_alloc _ _ _ (by simp; omega)).trans (RowKit.Below.heap_alloc _ _ _ hc)
            have hos : W1.os = w.os ∧ W1.tape = w.tape ∧ W1.output = w.output := by rw [← hW1]; exact ⟨rfl, rfl, rfl⟩
            have hap : ∀ c, w.heap.size ≤ c → Apart ρ s.H c := fun c hc b l o hb ho hl e => by
              have := (r.s.obj b o l ho hb).live_lt hl
              omega
            have hlow : N ≤ w.heap.size := r.s.low
            have y0 : YInv B (B.rest none) ρ s.H W1 := ⟨r.refl.other hlow hos.1 hos.2.1 hos.2.2 (by omega) (fun c hc e => absurd (hold c hc) e), hlow, .refl _, hL1, hK1, hap _ (Nat.le_succ w.heap.size), hap _ (Nat.le_refl w.heap.size)⟩
            have hrd : RdSnd P B (roundF P n call lf s.t ps.toList assign body) := roundF_rd (B := B) hcall r.g ⟨r.t.sz, r.t.val⟩
            refine ⟨B.L, [{ target := .collected w.heap.size, args := #[] }], W1, { target := .fn (.func id) c', args := #[.func (.yield B.L) #[] #[]] }, W1, id, #[.func (.yield B.L) #[] #[]] ++ c', W1, ?_, ?_, fun _ _ => trivial, ?_, (fun e => by cases e), ?_⟩
            · rw [← hW1]; exact run_enterLoop_outer _ _ _ _ _
            · simp only [resolve, he]
              simp [go_sem]
            · simp [invoke, callFunc, hfn1, hnm', hb1]
            · refine (itF_sound hcall hrd hit r.g y0 hr2 (hf.right g.up g.st) hup).mono ?_
              rintro e w3 ⟨v, ρ3, rfl, y3⟩
              have hstate : (B.record (if j.isNone then LoopState.ready else .done) j).state ≠ .busy := by
                cases j <;> simp [Ranged.record]
              refine ⟨j, _, run_endLoop y3.hl hstate, ?_⟩
              have y4 := y3.turn (.loop { B.record (if j.isNone then LoopState.ready else .done) j with state := .exhausted })
              have fin : ∀ e, ExitRel ρ3 x e → Q e { a with defers := [{ target := .collected w.heap.size, args := #[] }] ++ a.defers } (w3.putObj B.L (.loop { B.record (if j.isNone then LoopState.ready else .done) j with state := .exhausted })) := fun e he => by
                have g4 : GInv N ρ0 H0 w0 H' true ρ3 [{ target := .collected w.heap.size, args := #[] }] _ := ⟨g.st.trans y4.st, g.low, g.up.trans hup0.2, w.heap.size, rfl, g.st.size, y4.hd, y4.ad⟩
                have r4 : Rel P n N ρ3 s.t H' [] a _ := ⟨r.g.mono y4.st.ext, r.t.mono y4.st.ext, hd, y4.st.sim, y4.st.wf⟩
                have := hQ ρ3 a _ _ e he g4 r4
                have es : sh [{ target := .collected w.heap.size, args := #[] }] a = { a with defers := [{ target := .collected w.heap.size, args := #[] }] ++ a.defers } := by
                  unfold sh; rw [hd]; rfl
                rwa [es] at this
              clear y4 hstate y3
              cases j with
              | none => exact exit_none hx fin
              | some c => exact exit_some hx fin
        · cases h
      · cases h
    · cases h


def rangeFn (P : Program) (call : CallT) (lf : Nat) (id : FuncId) (args : List V) (H : Heap) : Option (V × Heap) :=
  match P.funcs[id]? with
  | some fn => match fn.name == "runtime.NumGoroutine" with
    | true => none
    | false => match fn.body, prepRes P fn.results.toList with
      | some b, some r => match codeG P fn.ntmps call lf b ⟨argsT args 0 .e, H, []⟩ false with
        | some (x, s, k) => endN P r (x, s)
        | none => none
      | _, _ => none
  | none => none

/-- the functions that range over a function -/
def rangeT (P : Program) (call : CallT) (lf : Nat) (ids : List FuncId) : CallT := fun id args H => match isOneOf id ids with
  | true => match rangeFn P call lf id args H with
    | some (v, H') => some (.v v, H')
    | none => none
  | false => none

theorem rangeFn_sound {P : Program} {call : CallT} (hcall : CallSnd P call) {lf : Nat} {id : FuncId} {args : List V} {H H' : Heap} {v : V} (h : rangeFn P call lf id args H = some (v, H')) :
    HasBody P id ∧ H.Upto H' ∧ ∀ (N : Nat) (ρ : Emb) (w : World) (args' : Array Value), GRel P ρ → VRels ρ args args'.toList → Sim N ρ H.get w → H.Wf → Free ρ H H' →
      Calls P id args' w fun e w' => ∃ x ρ', e = .returned x ∧ Step N ρ H w ρ' H' w' ∧ VRel ρ' v x := by
  unfold rangeFn at h
  split at h
  · rename_i fn hf
    cases hname : (fn.name == "runtime.NumGoroutine") with
    | true => rw [hname] at h; cases h
    | false =>
      rw [hname] at h
      dsimp only at h
      split at h
      · rename_i b r hb hr
        split at h
        · rename_i x s k hrun
          obtain ⟨hx, hd, vs, hvs, e⟩ := endN_some h
          cases e
          obtain ⟨up, d⟩ := codeG_sound hcall lf b _ _ _ _ _ hrun
          refine ⟨⟨fn, b, hf, hname, hb⟩, up, fun N ρ w args' hg ha hs hw hfree => ?_⟩
          refine (callsIn_wide (n := 0)).1 (callsIn_of_wp_marks hf hb trivial ?_)
          have hlow := hs.low
          have q := d N ρ H w ρ { tmps := args' ++ Array.replicate (fn.ntmps - args'.size) Go.undef, defers := [] } [] w s.H ⟨Step.refl hs hw, hlow, .refl _, rfl⟩ ⟨hg, args_rel fn.ntmps ha, rfl, hs, hw⟩ hfree (.refl _)
          rw [sh_nil] at q
          refine q _ (fun ρ' a' ds' w' e he g rel => ?_)
          have hdf : a'.defers = [] := by have := rel.d; rw [hd] at this; exact this
          have hsd : (sh ds' a').defers = ds' := by show a'.defers ++ ds' = ds'; rw [hdf]; rfl
          have fin : LeavesInM Fence.wide 0 P fn a'.tmps (fun e w' => ∃ x ρ', e = .returned x ∧ Step N ρ H w ρ' s.H w' ∧ VRel ρ' (tup vs) x) (sh ds' a').defers .returning w' := by
            rw [hsd]
            have hm := g.mark
            cases k with
            | false =>
              have hm : ds' = [] := hm
              subst hm
              obtain ⟨y, hy, hres⟩ := results_run rel hr hvs
              exact ⟨y, hres, y, ρ', rfl, g.st, hy⟩
            | true =>
              obtain ⟨D, rfl, hD, hDh, hDa⟩ := hm
              have hlt : D < w'.heap.size := (Array.getElem?_eq_some_iff.1 hDh).1
              have st2 : Step N ρ H w ρ' s.H (w'.putObj D (.deferred none)) := g.st.other hlow rfl rfl rfl (by simp) (fun c hc e => by
                by_cases h : c = D
                · subst h; exact ⟨hD, hDa⟩
                · exact absurd (World.putObj_heap_other h) e)
              refine ⟨by simp, .inl ⟨D, _, rfl, run_takeDeferred hDh, ?_⟩⟩
              obtain ⟨y, hy, hres⟩ := results_run (P := P) (n := fn.ntmps) (N := N) (ρ := ρ') (t := s.t) (H := s.H) (d := s.d) (a := a') (w := w'.putObj D (.deferred none)) ⟨rel.g, rel.t, rel.d, st2.sim, st2.wf⟩ hr hvs
              exact ⟨y, hres, y, ρ', rfl, st2, hy⟩
          cases x with
          | n => have he : e = _ := he; subst he; exact fin
          | ret => have he : e = _ := he; subst he; exact fin
          | ex id => cases hx
          | pan v => cases hx
        · cases h
      · cases h
  · cases h

theorem rangeT_snd {P : Program} {call : CallT} (hcall : CallSnd P call) (lf : Nat) (ids : List FuncId) : CallSnd P (rangeT P call lf ids) := by
  refine CallSndV.calm (fun id args H v H' h => ?_) (fun id args H v H' h => ?_)
  · unfold rangeT at h
    split at h
    · split at h
      · rename_i v1 H1 h1
        cases h
        exact rangeFn_sound hcall h1
      · cases h
    · cases h
  · unfold rangeT at h
    split at h
    · split at h <;> cases h
    · cases h

end
end Go.Am
