import Derived.Test.YtpmdbbdidafehaaGreatDisks
/-
  Arguments as they lie in the first heap: numbers, writes, picks.
-/
set_option linter.unusedVariables false
set_option linter.unusedSimpArgs false
namespace Go.Proofs.YtpmdbbdidafehaaGreat.disk
open Go.Am

theorem wf_u8 {n : Int} (h : (Lit.int .u8 n).wf = true) : ∃ s : Nat, s < 256 ∧ n = (s : Int) := by
  have h : (decide (IntKind.u8.min ≤ n) && decide (n ≤ IntKind.u8.max)) = true := h
  simp only [Bool.and_eq_true, decide_eq_true_eq] at h
  have h1 : (0 : Int) ≤ n := h.1
  have h2 : n ≤ 255 := h.2
  exact ⟨n.toNat, by omega, (Int.toNat_of_nonneg h1).symm⟩

theorem u8_of {a : Nat → Option Am.Obj} {u : V} (h : FitsV a (.int .u8) u) : ∃ s : Nat, s < 256 ∧ u = .int .u8 (s : Int) := by
  obtain ⟨C, ⟨n, hw, rfl⟩, hu⟩ := h
  cases hu
  obtain ⟨s, hs, rfl⟩ := wf_u8 hw
  exact ⟨s, hs, rfl⟩

def pairOf : List V → Int × Nat
  | [.int _ n, .blk B] => (n, B)
  | _ => (0, 0)
def intOf : List V → Int
  | [.int _ n] => n
  | _ => 0

theorem writes_of {P : Program} {a : Nat → Option Am.Obj} {u : V} (h : FitsV a (.slice 65 (.seq (.int .i64) (.seq .blk .nil))) u) : ∃ lp lc W, u = .slice lp (List.length W) lc 0 ∧ WritesAt (heapA P a) lp W := by
  obtain ⟨C, hf, hu⟩ := h
  rcases hf with rfl | ⟨b, len, rows, rfl, hb, hl, _, hr⟩
  · cases hu
    exact ⟨none, 0, [], rfl, ⟨fun e => absurd rfl e⟩⟩
  · cases hu
    refine ⟨some ⟨.arg b, 0⟩, rows.length, (rows.take len).map pairOf, by simp [Nat.min_eq_left hl], ⟨fun _ => ⟨.arg b, true, rows, rfl, trivial, hb, fun i hi => ?_⟩⟩⟩
    simp only [List.length_map, List.length_take] at hi
    have hi' : i < rows.length := by omega
    rw [List.getElem?_eq_getElem hi']
    obtain ⟨C1, C2, e1, ⟨n, _, rfl⟩, C3, C4, rfl, ⟨B, _, rfl⟩, h4⟩ := hr _ (List.getElem_mem hi')
    have h4 : C4 = [] := h4
    subst h4
    simp [e1, pairOf]

theorem writes_ofS {P : Program} {a : Nat → Option Am.Obj} {u : V} (h : FitsV a (.slice 65 (.seq (.int .i64) (.seq .blk .nil))) u) : ∃ lp lc W, u = .slice lp (List.length W) lc 0 ∧ WritesAt (heapA P a) lp W ∧ ∀ w ∈ W, w.2 < 256 ^ 64 := by
  obtain ⟨C, hf, hu⟩ := h
  rcases hf with rfl | ⟨b, len, rows, rfl, hb, hl, _, hr⟩
  · cases hu
    exact ⟨none, 0, [], rfl, ⟨fun e => absurd rfl e⟩, fun w hw => by simp at hw⟩
  · cases hu
    refine ⟨some ⟨.arg b, 0⟩, rows.length, (rows.take len).map pairOf, by simp [Nat.min_eq_left hl], ⟨fun _ => ⟨.arg b, true, rows, rfl, trivial, hb, fun i hi => ?_⟩⟩, fun w hw => ?_⟩
    · simp only [List.length_map, List.length_take] at hi
      have hi' : i < rows.length := by omega
      rw [List.getElem?_eq_getElem hi']
      obtain ⟨C1, C2, e1, ⟨n, _, rfl⟩, C3, C4, rfl, ⟨B, _, rfl⟩, h4⟩ := hr _ (List.getElem_mem hi')
      have h4 : C4 = [] := h4
      subst h4
      simp [e1, pairOf]
    · simp only [List.mem_map] at hw
      obtain ⟨r, hr', rfl⟩ := hw
      obtain ⟨C1, C2, e1, ⟨n, _, rfl⟩, C3, C4, rfl, ⟨B, hB, rfl⟩, h4⟩ := hr r (List.mem_of_mem_take hr')
      have h4 : C4 = [] := h4
      subst h4
      rw [e1]
      exact hB

theorem picks_ofL {P : Program} {a : Nat → Option Am.Obj} {u : V} (h : FitsV a (.slice 1 (.int .i64)) u) : ∃ lp lc W, u = .slice lp (List.length W) lc 0 ∧ W.length ≤ lc ∧ PicksAt (heapA P a) lp W Z := by
  obtain ⟨C, hf, hu⟩ := h
  rcases hf with rfl | ⟨b, len, rows, rfl, hb, hl, _, hr⟩
  · cases hu
    exact ⟨none, 0, [], rfl, Nat.le_refl _, ⟨fun e => absurd rfl e⟩⟩
  · cases hu
    refine ⟨some ⟨.arg b, 0⟩, rows.length, (rows.take len).map intOf, by simp [Nat.min_eq_left hl], by simp; omega, ⟨fun _ => ⟨.arg b, 0, true, rows, rfl, trivial, id, hb, fun i hi => ?_⟩⟩⟩
    simp only [List.length_map, List.length_take] at hi
    have hi' : i < rows.length := by omega
    rw [Nat.zero_add, List.getElem?_eq_getElem hi']
    obtain ⟨n, _, e1⟩ := hr _ (List.getElem_mem hi')
    simp [e1, intOf]
theorem picks_of {P : Program} {a : Nat → Option Am.Obj} {u : V} (h : FitsV a (.slice 1 (.int .i64)) u) : ∃ lp lc W, u = .slice lp (List.length W) lc 0 ∧ PicksAt (heapA P a) lp W Z := by
  obtain ⟨lp, lc, W, e, _, h⟩ := picks_ofL (P := P) h
  exact ⟨lp, lc, W, e, h⟩

theorem qok_of {P : Program} {a : Nat → Option Am.Obj} {H : Heap} (h : Turns Z (heapA P a) H) : QOk H := h.q (fun p hp => by cases hp)

end Go.Proofs.YtpmdbbdidafehaaGreat.disk

