/-
  Regions that draw their order: what the checks on a trace say.
-/
import Derived.Test.YtgjhiddaacpcaaaAmDraw1
set_option linter.unusedVariables false
set_option linter.unusedSimpArgs false
namespace Go.Am

theorem acsOf_mem : ∀ {es : List DEv} {j0 i : Nat} {e : DEv}, es[i]? = some e → e.k = .a → ⟨j0 + i, e.b, e.a⟩ ∈ acsOf es j0
  | [], j0, i, e, h, hk => by simp at h
  | e0 :: es, j0, 0, e, h, hk => by
    simp at h
    subst h
    simp only [acsOf, hk]
    exact List.mem_cons_self ..
  | e0 :: es, j0, i + 1, e, h, hk => by
    have := acsOf_mem (es := es) (j0 := j0 + 1) (i := i) (by simpa using h) hk
    rw [show j0 + 1 + i = j0 + (i + 1) by omega] at this
    simp only [acsOf]
    split
    · exact List.mem_cons_of_mem _ this
    · exact this

mutual
theorem V.beq_eq : ∀ (u v : V), V.beq u v = true → u = v
  | .bool a, v, h => by
    cases v <;> simp [V.beq] at h
    rw [eqB_eq] at h
    simpa using h
  | .int k a, v, h => by
    cases v <;> simp [V.beq] at h
    rw [eqI_eq] at h
    simp at h
    rw [h.1, h.2]
  | .blk a, v, h => by
    cases v <;> simp [V.beq] at h
    rw [h]
  | .str a, v, h => by
    cases v with
    | str b =>
      simp only [V.beq] at h
      have h := eq_of_beq h
      obtain ⟨a⟩ := a
      obtain ⟨b⟩ := b
      have : a = b := Array.ext' h
      rw [this]
    | _ => simp [V.beq] at h
  | .ptr none, v, h => by
    cases v with
    | ptr q => cases q <;> simp [V.beq] at h; rfl
    | _ => simp [V.beq] at h
  | .ptr (some p), v, h => by
    cases v with
    | ptr q =>
      cases q with
      | none => simp [V.beq] at h
      | some q =>
        simp only [V.beq, Bool.and_eq_true] at h
        obtain ⟨b, o⟩ := p
        obtain ⟨b', o'⟩ := q
        have h1 := Bk.beq_iff.1 h.1
        have h2 := beq_iff.1 h.2
        simp only at h1 h2
        rw [h1, h2]
    | _ => simp [V.beq] at h
  | .slice none l c x, v, h => by
    cases v with
    | slice q l' c' x' =>
      cases q with
      | some q => simp [V.beq] at h
      | none =>
        simp only [V.beq, Bool.and_eq_true] at h
        rw [beq_iff.1 h.1.1, beq_iff.1 h.1.2, beq_iff.1 h.2]
    | _ => simp [V.beq] at h
  | .slice (some p) l c x, v, h => by
    cases v with
    | slice q l' c' x' =>
      cases q with
      | none => simp [V.beq] at h
      | some q =>
        simp only [V.beq, Bool.and_eq_true] at h
        obtain ⟨b, o⟩ := p
        obtain ⟨b', o'⟩ := q
        have h1 := Bk.beq_iff.1 h.1.1.1.1
        have h2 := beq_iff.1 h.1.1.1.2
        simp only at h1 h2
        rw [h1, h2, beq_iff.1 h.1.1.2, beq_iff.1 h.1.2, beq_iff.1 h.2]
    | _ => simp [V.beq] at h
  | .map none, v, h => by
    cases v with
    | map q => cases q <;> simp [V.beq] at h; rfl
    | _ => simp [V.beq] at h
  | .map (some p), v, h => by
    cases v with
    | map q =>
      cases q with
      | none => simp [V.beq] at h
      | some q =>
        simp only [V.beq] at h
        rw [Bk.beq_iff.1 h]
    | _ => simp [V.beq] at h
  | .func f a b, v, h => by
    cases v <;> simp [V.beq] at h
    rw [h.1.1, V.beqs_eq a _ h.1.2, V.beqs_eq b _ h.2]
  | .nilFunc, v, h => by cases v <;> simp [V.beq] at h; rfl
  | .iface t u, v, h => by
    cases v <;> simp [V.beq] at h
    rw [h.1, V.beq_eq u _ h.2]
  | .nilIface, v, h => by cases v <;> simp [V.beq] at h; rfl
  | .agg a, v, h => by
    cases v <;> simp [V.beq] at h
    rw [V.beqs_eq a _ h]
  | .tuple a, v, h => by
    cases v <;> simp [V.beq] at h
    rw [V.beqs_eq a _ h]
theorem V.beqs_eq : ∀ (u v : List V), V.beqs u v = true → u = v
  | [], v, h => by cases v <;> simp [V.beqs] at h; rfl
  | a :: as, v, h => by
    cases v with
    | nil => simp [V.beqs] at h
    | cons b bs =>
      simp only [V.beqs, Bool.and_eq_true] at h
      rw [V.beq_eq a b h.1, V.beqs_eq as bs h.2]
end

theorem same_eq {g : Heap → Option V} {v : V} {H : Heap} (h : same g v H = true) : g H = some v := by
  unfold same at h
  split at h
  · rename_i u hu; rw [hu, V.beq_eq _ _ h]
  · cases h

theorem readsOk_get {b : List Nat} {acs : List Ac} : ∀ {es : List DEv} {i0 i : Nat} {e : DEv} {g : Heap → Option V}, readsOk b acs es i0 = true → es[i]? = some e → e.k = .r g → ∀ c ∈ acs, ordered b (i0 + i) c.j = true ∨ (g c.b = some e.v ∧ g c.a = some e.v)
  | [], i0, i, e, g, h, he, hk => by simp at he
  | e0 :: es, i0, 0, e, g, h, he, hk => by
    simp at he
    subst he
    simp only [readsOk, Bool.and_eq_true, hk] at h
    intro c hc
    have := List.all_eq_true.1 h.1 c hc
    simp only [Bool.or_eq_true, Bool.and_eq_true] at this
    exact this.imp id (fun h => ⟨same_eq h.1, same_eq h.2⟩)
  | e0 :: es, i0, i + 1, e, g, h, he, hk => by
    simp only [readsOk, Bool.and_eq_true] at h
    have := readsOk_get h.2 (i := i) (e := e) (by simpa using he) hk
    intro c hc
    have := this c hc
    rwa [show Nat.succ i0 + i = i0 + (i + 1) by omega] at this

/-- what is known of a region's trace -/
structure Facts (P : Program) (n : Nat) (ops : Array Oper) (t0 : T) (H0 : Heap) (es : List DEv) : Prop where
  len : es.length = ops.size
  ev : ∀ (i : Nat) (o : Oper), ops[i]? = some o → ∃ e, es[i]? = some e ∧ e.b = hs es H0 i ∧ e.a = hs es H0 (i + 1) ∧ EvOk P n ops o (tD (fun j => decide (j < i)) ops.toList es 0 t0) e
  lt : ∀ (j : Nat) (o : Oper) (e : Edge), ops[j]? = some o → e ∈ o.after → Region.binds .any e = true → e.on < j
  apart : ∀ (i j : Nat) (x y : Oper), i < j → ops[i]? = some x → ops[j]? = some y → Bef ops i j ∨ x.apart ops y = true
  chain : ∀ (i j : Nat) (e e' : DEv), i < j → es[i]? = some e → e.k = .a → es[j]? = some e' → e'.k = .a → Bef ops i j
  readA : ∀ (i c : Nat) (e ec : DEv) (g : Heap → Option V), i < c → es[i]? = some e → e.k = .r g → es[c]? = some ec → ec.k = .a → Bef ops i c ∨ g (hs es H0 (c + 1)) = some e.v
  readB : ∀ (i c : Nat) (e ec : DEv) (g : Heap → Option V), c < i → es[i]? = some e → e.k = .r g → es[c]? = some ec → ec.k = .a → Bef ops c i ∨ g (hs es H0 c) = some e.v

theorem facts {P : Program} {n : Nat} {ops : Array Oper} {t0 : T} {H0 : Heap} {es : List DEv} (ht : Trace P n ops ops.toList t0 H0 es) (hr : regionOk ops (masks ops.toList []) ops.toList 0 = true) (hc : chainOk (masks ops.toList []) (acsOf es 0) = true) (hq : readsOk (masks ops.toList []) (acsOf es 0) es 0 = true) : Facts P n ops t0 H0 es := by
  have ev : ∀ (i : Nat) (o : Oper), ops[i]? = some o → ∃ e, es[i]? = some e ∧ e.b = hs es H0 i ∧ e.a = hs es H0 (i + 1) ∧ EvOk P n ops o (tD (fun j => decide (j < i)) ops.toList es 0 t0) e := fun i o ho => by
    have := ht.get 0 i (o := o) (by simpa using ho)
    simpa using this
  have hl : es.length = ops.size := by simpa using ht.len
  have ab : ∀ (c : Nat) (ec : DEv), es[c]? = some ec → ec.b = hs es H0 c ∧ ec.a = hs es H0 (c + 1) := fun c ec h => by
    have hlt : c < ops.size := by rw [← hl]; exact (List.getElem?_eq_some_iff.1 h).1
    obtain ⟨e, h1, h2, h3, _⟩ := ev c _ (Array.getElem?_eq_getElem hlt)
    rw [h] at h1
    cases h1
    exact ⟨h2, h3⟩
  refine ⟨hl, ev, ?_, ?_, ?_, ?_, ?_⟩
  · intro j o e ho he hb
    have := (regionOk_get hr (k := j) (x := o) (by simpa using ho)).1 e he hb
    omega
  · intro i j x y hij hx hy
    rcases (regionOk_get hr (k := i) (x := x) (by simpa using hx)).2 j y hij (by simpa using hy) with h | h
    · rw [Nat.zero_add, Nat.zero_add] at h
      exact .inl (ordered_bef hij h)
    · exact .inr h
  · intro i j e e' hij he hk he' hk'
    have m1 := acsOf_mem (j0 := 0) he hk
    have m2 := acsOf_mem (j0 := 0) he' hk'
    have := List.all_eq_true.1 (List.all_eq_true.1 hc _ m1) _ m2
    simp only [Nat.zero_add, Bool.or_eq_true] at this
    rcases this with h | h
    · have := beq_iff.1 h; omega
    · exact ordered_bef hij h
  · intro i c e ec g hic he hk hec hkc
    have m1 := acsOf_mem (j0 := 0) hec hkc
    rcases readsOk_get hq he hk _ m1 with h | h
    · simp only [Nat.zero_add] at h
      exact .inl (ordered_bef hic h)
    · have := h.2
      simp only at this
      rw [(ab c ec hec).2] at this
      exact .inr this
  · intro i c e ec g hci he hk hec hkc
    have m1 := acsOf_mem (j0 := 0) hec hkc
    rcases readsOk_get hq he hk _ m1 with h | h
    · simp only [Nat.zero_add] at h
      rw [ordered_symm] at h
      exact .inl (ordered_bef hci h)
    · have := h.1
      simp only at this
      rw [(ab c ec hec).1] at this
      exact .inr this

end Go.Am
