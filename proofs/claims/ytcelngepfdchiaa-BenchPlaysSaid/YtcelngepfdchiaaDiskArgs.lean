/-
  Arguments as they lie in the first heap: numbers, writes, picks.
-/
import Derived.Test.YtcelngepfdchiaaDisk3
set_option linter.unusedVariables false
set_option linter.unusedSimpArgs false
namespace Go.Proofs.Ytcelngepfdchiaa.disk
open Go.Am

theorem wf_u8 {n : Int} (h : (Lit.int .u8 n).wf = true) : ∃ s : Nat, s < 256 ∧ n = (s : Int) := by
  have h : (decide (IntKind.u8.min ≤ n) && decide (n ≤ IntKind.u8.max)) = true := h
  simp only [Bool.and_eq_true, decide_eq_true_eq] at h
  have h1 : (0 : Int) ≤ n := h.1
  have h2 : n ≤ 255 := h.2
  exact ⟨n.toNat, by omega, (Int.toNat_of_nonneg h1).symm⟩

def intOf : List V → Int
  | [.int _ n] => n
  | _ => 0

theorem picks_ofL {P : Program} {a : Nat → Option Am.Obj} {u : V} (h : FitsV a (.slice 1 (.int .i64)) u) : ∃ lp lc W, u = .slice lp (List.length W) lc 0 ∧ W.length ≤ lc ∧ PicksAt (heapA P a) lp W Z := by
  obtain ⟨C, hf, hu⟩ := h
  rcases hf with rfl | ⟨b, len, rows, rfl, hb, hl, _, hr⟩
  · cases hu
    exact ⟨none, 0, [], rfl, Nat.le_refl _, ⟨fun e => absurd rfl e⟩⟩
  · cases hu
    refine ⟨some ⟨.arg b, 0⟩, rows.length, (rows.take len).map intOf, by simp [Nat.min_eq_left hl], by simp; omega, ⟨fun _ => ⟨.arg b, 0, true, rows, rfl, trivial, id, hb, fun i hi => ?_⟩⟩⟩
    simp only [List.length_map, List.length_take] at hi
    have hi' : i < rows.length := by omega
    rw [Nat.zero_add, List.getElem?_eq_getElem hi']
    obtain ⟨n, _, e1⟩ := hr _ (List.getElem_mem hi')
    simp [e1, intOf]
theorem livesRun : okT (callS Try.prog noSum 100000 60 36 [] (heapA Try.prog fun _ => none)) = true := by kernel_rfl
theorem sums : CallSnd Try.prog S0 := sumT_snd (noSum_snd _) (okT_some livesRun)

theorem qok_of {P : Program} {a : Nat → Option Am.Obj} {H : Heap} (h : Turns Z (heapA P a) H) : QOk H := h.q (fun p hp => by cases hp)

end Go.Proofs.Ytcelngepfdchiaa.disk

