/-
  Devices: what torn blocks, cuts and readings come to, as plain numbers and lists.
-/
import Derived.Test.YtcelngepfdchiaaDisk5
set_option linter.unusedVariables false
set_option linter.unusedSimpArgs false
set_option maxRecDepth 10000
namespace Go.Proofs.Ytcelngepfdchiaa.disk
open Go.Am

noncomputable def cellH (K : Heap) (x : Nat) : Heap := (K.add (.rows false 64 [[.blk 0]])).set (.run K.next) (.rows false 64 [[.blk x]])
theorem cell_fold (K : Heap) (x : Nat) : (K.add (.rows false 64 [[.blk 0]])).set (.run K.next) (.rows false 64 [[.blk x]]) = cellH K x := rfl
theorem cell_turns (K : Heap) (x : Nat) : Turns Z K (cellH K x) := (Turns.add Z K _).setnew (Nat.le_refl _) _
theorem cell_get (K : Heap) (x : Nat) : (cellH K x).get (.run K.next) = some (.rows false 64 [[.blk x]]) := by unfold cellH; rw [Heap.get_set, if_pos rfl]
theorem cell_old (K : Heap) (x : Nat) : (cellH K x).Old (.run K.next) := by show _ < _; simp [cellH]

theorem byte_tornN (old now : Nat) : ∀ (n j : Nat), byte (tornN old now n) j = if j < n then byte now j else byte old j
  | 0, j => rfl
  | n + 1, j => by
    rw [tornN_succ, byte_setByte _ _ _ _ (byte_lt _ _), byte_tornN old now n j]
    by_cases h : j = n
    · subst h; simp
    · rw [if_neg h]
      by_cases h2 : j < n
      · rw [if_pos h2, if_pos (by omega)]
      · rw [if_neg h2, if_neg (by omega)]
theorem tornN_lt {old now : Nat} (h : old < 256 ^ 64) : ∀ n, n ≤ 64 → tornN old now n < 256 ^ 64
  | 0, _ => h
  | n + 1, hn => by
    rw [tornN_succ]
    exact setByte_lt _ _ _ (byte_lt _ _) (by omega) (tornN_lt h n (by omega))
theorem eq_of_bytes {a b : Nat} (ha : a < 256 ^ 64) (hb : b < 256 ^ 64) (h : ∀ j, j < 64 → byte a j = byte b j) : a = b := by
  have key : ∀ n, n ≤ 64 → a % 256 ^ n = b % 256 ^ n := by
    intro n
    induction n with
    | zero => intro _; simp [Nat.mod_one]
    | succ n ih =>
      intro hn
      have e := h n (by omega)
      rw [byte_eq, byte_eq] at e
      rw [Nat.mod_pow_succ, Nat.mod_pow_succ, ih (by omega), e]
  have := key 64 (Nat.le_refl _)
  rwa [Nat.mod_eq_of_lt ha, Nat.mod_eq_of_lt hb] at this
theorem tornN_all {old now : Nat} (h : old < 256 ^ 64) (k : now < 256 ^ 64) : tornN old now 64 = now :=
  eq_of_bytes (tornN_lt h 64 (Nat.le_refl _)) k (fun j hj => by rw [byte_tornN, if_pos hj])

def Small (S : List Nat) : Prop := ∀ x ∈ S, x < 256 ^ 64
def SmallL (L : List (Nat × Nat)) : Prop := ∀ w ∈ L, w.2 < 256 ^ 64
theorem Small.getD {S : List Nat} (h : Small S) (n : Nat) : S.getD n 0 < 256 ^ 64 := by
  by_cases hn : n < S.length
  · rw [getD_lt hn]; exact h _ (List.getElem_mem hn)
  · simp [List.getD, hn]
theorem Small.set {S : List Nat} (h : Small S) (n : Nat) {x : Nat} (hx : x < 256 ^ 64) : Small (S.set n x) := fun z hz => by
  rcases List.mem_or_eq_of_mem_set hz with hz | rfl
  · exact h z hz
  · exact hx
theorem Small.flush : ∀ {L : List (Nat × Nat)} {S : List Nat}, Small S → SmallL L → Small (flushS S L)
  | [], S, h, _ => h
  | w :: L, S, h, hl => Small.flush (L := L) (h.set w.1 (hl w (List.mem_cons_self ..))) (fun v hv => hl v (List.mem_cons_of_mem _ hv))

theorem crash_all : ∀ {L : List (Nat × Nat)} {S : List Nat} {P : List Int}, Small S → SmallL L → L.length ≤ P.length → (∀ p ∈ P, clampN p = 64) → crashS S (L.zip P) = flushS S L
  | [], S, P, _, _, _, _ => rfl
  | w :: L, S, [], _, _, h, _ => by simp at h
  | w :: L, S, p :: P, hS, hL, h, hp => by
    have hw := hL w (List.mem_cons_self ..)
    show crashS (S.set w.1 (tornN (S.getD w.1 0) w.2 (clampN p))) (L.zip P) = flushS (S.set w.1 w.2) L
    rw [hp p (List.mem_cons_self ..), tornN_all (hS.getD _) hw]
    exact crash_all (hS.set _ hw) (fun v hv => hL v (List.mem_cons_of_mem _ hv)) (by simpa using h) (fun q hq => hp q (List.mem_cons_of_mem _ hq))

theorem look_cons (w : Nat × Nat) (l : List (Nat × Nat)) (n : Nat) : look (w :: l) n = match look l n with
    | some x => some x
    | none => if w.1 = n then some w.2 else none := rfl
theorem look_flush : ∀ {L : List (Nat × Nat)} {S : List Nat} {n : Nat}, (∀ w ∈ L, w.1 < S.length) → (flushS S L).getD n 0 = match look L n with
    | some x => x
    | none => S.getD n 0
  | [], S, n, _ => rfl
  | w :: L, S, n, h => by
    show (flushS (S.set w.1 w.2) L).getD n 0 = _
    rw [look_flush (S := S.set w.1 w.2) (by intro v hv; simpa using h v (List.mem_cons_of_mem _ hv))]
    rw [look_cons]
    have hw := h w (List.mem_cons_self ..)
    cases look L n with
    | some x => rfl
    | none =>
      dsimp only
      by_cases e : w.1 = n
      · subst e
        simp [List.getD, hw]
      · rw [if_neg e]
        simp [List.getD, List.getElem?_set_ne e]
theorem read_flush {D : Dev} (h : ∀ w ∈ D.L, w.1 < D.S.length) (n : Nat) : readN D n = (flushS D.S D.L).getD n 0 := (look_flush h).symm

theorem clamp64 (j : Nat) : clampN (64 + (j : Int)) = 64 := by unfold clampN; omega

/-- numbers that are appended one by one -/
def rowsI (P : List Int) : List (List V) := P.map fun p => [.int .i64 p]
noncomputable def killP (H : Heap) : Option Ptr → Heap
  | none => H
  | some q => H.set q.b .dead
theorem app_int {H : Heap} {p : Option Ptr} {o : Nat} {P : List Int} {x : Bk} {n : Int} (h0 : P = [] → p = none ∧ o = 0) (h1 : P ≠ [] → ∃ c, p = some ⟨c, 0⟩ ∧ o = 1 ∧ H.get c = some (.rows false 1 (rowsI P))) (hx : H.get x = some (.rows false 1 [[.int .i64 n]])) (hmax : P.length < 1000000) :
    appendV 1 8 H (.slice p P.length P.length o) (.slice (some ⟨x, 0⟩) 1 1 0) = some (.slice (some ⟨.run H.next, 0⟩) (P.length + 1) (P.length + 1) 1, (killP H p).add (.rows false 1 (rowsI (P ++ [n])))) := by
  have he : elems H x 1 1 0 = some [[.int .i64 n]] := by
    simp only [elems]
    rw [loadAt_eq hx (r := [.int .i64 n]) rfl]
    rfl
  by_cases hP : P = []
  · obtain ⟨rfl, rfl⟩ := h0 hP
    subst hP
    simp only [appendV, lenOf, nbeq, nble, firstE, he]
    simp [elems, rowsI, killP]
  · obtain ⟨c, rfl, rfl, hg⟩ := h1 hP
    have hlen : (rowsI P).length = P.length := by simp [rowsI]
    simp only [appendV, lenOf, nbeq, nble, firstE, he, hg]
    have e1 : (P.length + 1) * 8 ≤ 1099511627776 := by omega
    have e2 : P.length + 1 ≤ 1099511627776 := by omega
    simp [mul_eq, add_eq, div_eq, e1, e2, hlen, rowsI, killP, Nat.mod_one]

end Go.Proofs.Ytcelngepfdchiaa.disk

