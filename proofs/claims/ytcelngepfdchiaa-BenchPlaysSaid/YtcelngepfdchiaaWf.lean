/-
  What a device keeps, whatever is done.
-/
import Derived.Test.YtcelngepfdchiaaDisk7
set_option linter.unusedVariables false
set_option linter.unusedSimpArgs false
namespace Go.Proofs.Ytcelngepfdchiaa.disk
open Go.Am

structure Wf (D : Dev) (n k : Nat) : Prop where
  len : D.S.length = n
  pos : 0 < n
  ok : ∀ w ∈ D.L, w.1 < D.S.length
  le : D.L.length ≤ k
theorem Wf.ne {D : Dev} {n k : Nat} (h : Wf D n k) : D.S ≠ [] := fun e => by
  have h1 := h.len
  have h2 := h.pos
  rw [e] at h1
  simp at h1
  omega
theorem Wf.write {D : Dev} {n k : Nat} (h : Wf D n k) (i : Int) (B : Nat) : Wf (D.write i B) n (k + 1) := by
  rcases code_cases D i with ⟨j, rfl, hj, hd, hc⟩ | hc | hc
  · have e : D.write (j : Int) B = { D with L := D.L ++ [(j, B)] } := if_pos hc
    rw [e]
    refine ⟨h.len, h.pos, fun w hw => ?_, by have := h.le; simp; omega⟩
    rcases List.mem_append.1 hw with hw | hw
    · exact h.ok w hw
    · rw [List.mem_singleton.1 hw]; exact hj
  · have e : D.write i B = D := if_neg (by rw [hc]; decide)
    rw [e]; exact ⟨h.len, h.pos, h.ok, by have := h.le; omega⟩
  · have e : D.write i B = D := if_neg (by rw [hc]; decide)
    rw [e]; exact ⟨h.len, h.pos, h.ok, by have := h.le; omega⟩
theorem Wf.flush {D : Dev} {n k : Nat} (h : Wf D n k) : Wf D.flush n (k + 1) := by
  unfold Dev.flush
  split
  · exact ⟨h.len, h.pos, h.ok, by have := h.le; omega⟩
  · exact ⟨by rw [← h.len]; exact flushS_length _ _, h.pos, fun w hw => absurd hw (by simp), Nat.zero_le _⟩
theorem Wf.rot {D : Dev} {n k : Nat} (h : Wf D n k) (i j : Int) (x : Nat) : Wf (D.rot i j x) n (k + 1) := by
  unfold Dev.rot
  split
  · exact ⟨by rw [← h.len]; simp, h.pos, fun w hw => by simpa using h.ok w hw, by have := h.le; show D.L.length ≤ k + 1; omega⟩
  · exact ⟨h.len, h.pos, h.ok, by have := h.le; omega⟩
theorem Wf.crash {D : Dev} {n k : Nat} (h : Wf D n k) (P : List Int) : Wf (D.crash P) n (k + 1) :=
  ⟨by rw [← h.len]; exact crashS_length _ _, h.pos, fun w hw => absurd hw (by simp [Dev.crash]), Nat.zero_le _⟩
theorem Wf.fail {D : Dev} {n k : Nat} (h : Wf D n k) : Wf D.fail n (k + 1) := ⟨h.len, h.pos, fun w hw => absurd hw (by simp [Dev.fail]), Nat.zero_le _⟩
theorem Wf.mono {D : Dev} {n k : Nat} (h : Wf D n k) : Wf D n (k + 1) := ⟨h.len, h.pos, h.ok, by have := h.le; omega⟩


end Go.Proofs.Ytcelngepfdchiaa.disk

