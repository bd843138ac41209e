/-
  Devices: what torn blocks, cuts and readings come to, as plain numbers and lists.
-/
import Derived.Test.YtcelngepfdchiaaDisk5
set_option linter.unusedVariables false
set_option linter.unusedSimpArgs false
set_option maxRecDepth 10000
namespace Go.Proofs.Ytcelngepfdchiaa.disk
open Go.Am

noncomputable def cellH (K : Heap) (x : Nat) : Heap := (K.add (.rows false 64 [[.blk 0]])).set (.run K.next) (.rows false 64 [[.blk x]])
theorem cell_fold (K : Heap) (x : Nat) : (K.add (.rows false 64 [[.blk 0]])).set (.run K.next) (.rows false 64 [[.blk x]]) = cellH K x := rfl
theorem cell_turns (K : Heap) (x : Nat) : Turns Z K (cellH K x) := (Turns.add Z K _).setnew (Nat.le_refl _) _
theorem cell_get (K : Heap) (x : Nat) : (cellH K x).get (.run K.next) = some (.rows false 64 [[.blk x]]) := by unfold cellH; rw [Heap.get_set, if_pos rfl]
theorem cell_old (K : Heap) (x : Nat) : (cellH K x).Old (.run K.next) := by show _ < _; simp [cellH]

def Small (S : List Nat) : Prop := ∀ x ∈ S, x < 256 ^ 64
def SmallL (L : List (Nat × Nat)) : Prop := ∀ w ∈ L, w.2 < 256 ^ 64
theorem Small.getD {S : List Nat} (h : Small S) (n : Nat) : S.getD n 0 < 256 ^ 64 := by
  by_cases hn : n < S.length
  · rw [getD_lt hn]; exact h _ (List.getElem_mem hn)
  · simp [List.getD, hn]
theorem Small.set {S : List Nat} (h : Small S) (n : Nat) {x : Nat} (hx : x < 256 ^ 64) : Small (S.set n x) := fun z hz => by
  rcases List.mem_or_eq_of_mem_set hz with hz | rfl
  · exact h z hz
  · exact hx
theorem Small.flush : ∀ {L : List (Nat × Nat)} {S : List Nat}, Small S → SmallL L → Small (flushS S L)
  | [], S, h, _ => h
  | w :: L, S, h, hl => Small.flush (L := L) (h.set w.1 (hl w (List.mem_cons_self ..))) (fun v hv => hl v (List.mem_cons_of_mem _ hv))

theorem look_cons (w : Nat × Nat) (l : List (Nat × Nat)) (n : Nat) : look (w :: l) n = match look l n with
    | some x => some x
    | none => if w.1 = n then some w.2 else none := rfl
noncomputable def killP (H : Heap) : Option Ptr → Heap
  | none => H
  | some q => H.set q.b .dead
end Go.Proofs.Ytcelngepfdchiaa.disk

