/-
  A bench and what it keeps behind each step.
-/
import Derived.Test.YtcelngepfdchiaaBench5
set_option linter.unusedVariables false
set_option linter.unusedSectionVars false
set_option linter.unusedSimpArgs false
set_option maxRecDepth 10000
namespace Go.Proofs.Ytcelngepfdchiaa.disk
open Go.Am

structure Bok (k : Nat) (B : Bn) : Prop where
  wf : ∀ D ∈ B.l, ∃ n, n ≤ 512 ∧ Wf D n k
  ar : 0 ≤ B.ar ∧ B.ar ≤ 9223372036854775807
  st : 0 ≤ B.st ∧ B.st ≤ (k : Int)

theorem Bok.good {k : Nat} {B : Bn} (h : Bok k B) (hk : k ≤ 900) : ∀ D ∈ B.l, Good D := fun D hD => by
  obtain ⟨n, hn, w⟩ := h.wf D hD
  exact ⟨w.ne, w.ok, by rw [w.len]; exact hn, by have := w.le; omega⟩
theorem Bok.mono {k : Nat} {B : Bn} (h : Bok k B) : Bok (k + 1) B := ⟨fun D hD => by
  obtain ⟨n, hn, w⟩ := h.wf D hD
  exact ⟨n, hn, w.mono⟩, h.ar, by have := h.st; omega⟩

theorem tc_dev {B : Bn} {d : Int} (h : B.tc d = 0) : B.dev d ∈ B.l := by
  unfold Bn.tc at h
  rcases tcode_cases B.l.length d with ⟨i, hi, rfl, _⟩ | e
  · unfold Bn.dev
    simp only [Int.toNat_natCast, List.getD]
    rw [List.getElem?_eq_getElem hi]
    exact List.getElem_mem hi
  · rw [e] at h; cases h
theorem lc_tc {B : Bn} {d : Int} (h : B.lc d = 0) : B.tc d = 0 := by
  unfold Bn.lc at h
  split at h
  · cases h
  · exact h
theorem rc_lc {B : Bn} {d n : Int} (h : B.rc d n = 0) : B.lc d = 0 := by
  by_cases e : B.lc d = 0
  · exact e
  · rw [show B.rc d n = B.lc d from if_neg e] at h; exact absurd h e

theorem Bok.setd {k : Nat} {B : Bn} (h : Bok k B) {d : Int} {D : Dev} (hD : ∃ n, n ≤ 512 ∧ Wf D n (k + 1)) : Bok (k + 1) (B.setd d D) :=
  ⟨fun E hE => by
    rcases List.mem_or_eq_of_mem_set hE with hE | rfl
    · exact h.mono.wf E hE
    · exact hD, h.ar, h.mono.st⟩
theorem Bok.step {k : Nat} {B : Bn} (h : Bok k B) {d : Int} {D : Dev} (hD : ∃ n, n ≤ 512 ∧ Wf D n (k + 1)) : Bok (k + 1) (B.step d D) := by
  unfold Bn.step
  have h1 := h.st
  have h2 := h.ar
  split
  · exact ⟨h.mono.wf, h.ar, h.mono.st⟩
  · refine ⟨fun E hE => ?_, ?_, ?_⟩
    · rcases List.mem_or_eq_of_mem_set hE with hE | rfl
      · exact h.mono.wf E hE
      · exact hD
    · show 0 ≤ arLess B.ar ∧ arLess B.ar ≤ _
      unfold arLess; split <;> omega
    · show 0 ≤ B.st + 1 ∧ B.st + 1 ≤ _
      omega
theorem Bok.write {k : Nat} {B : Bn} (h : Bok k B) (d n : Int) (x : Nat) : Bok (k + 1) (B.write d n x) := by
  unfold Bn.write
  split
  · rename_i hc
    obtain ⟨n', hn, w⟩ := h.wf _ (tc_dev (lc_tc (rc_lc hc)))
    exact h.step ⟨n', hn, w.write n x⟩
  · exact h.mono
theorem Bok.flush {k : Nat} {B : Bn} (h : Bok k B) (d : Int) : Bok (k + 1) (B.flush d) := by
  unfold Bn.flush
  split
  · rename_i hc
    obtain ⟨n', hn, w⟩ := h.wf _ (tc_dev (lc_tc (rc_lc hc)))
    exact h.step ⟨n', hn, w.flush⟩
  · exact h.mono
theorem Bok.fail {k : Nat} {B : Bn} (h : Bok k B) (d : Int) : Bok (k + 1) (B.fail d) := by
  unfold Bn.fail
  split
  · rename_i hc
    obtain ⟨n', hn, w⟩ := h.wf _ (tc_dev hc)
    exact h.setd ⟨n', hn, w.fail⟩
  · exact h.mono
theorem blank_wf {n k : Nat} (h : 0 < n) : Wf (blank n) n k := ⟨by simp [blank], h, fun w hw => absurd hw (by simp [blank]), Nat.zero_le _⟩
theorem Bok.insert {k : Nat} {B : Bn} (h : Bok k B) (d : Int) : Bok (k + 1) (B.insert d) := by
  unfold Bn.insert
  split
  · rename_i hc
    have hl : B.lc d = 0 := by
      by_cases e : B.lc d = 0
      · exact e
      · rw [show B.ic d = B.lc d from if_neg e] at hc; exact absurd hc e
    obtain ⟨n', hn, w⟩ := h.wf _ (tc_dev (lc_tc hl))
    have hp : 0 < (B.dev d).S.length := by rw [w.len]; exact w.pos
    exact h.setd ⟨_, by rw [w.len]; exact hn, blank_wf hp⟩
  · exact h.mono
theorem Bok.arm {k : Nat} {B : Bn} (h : Bok k B) {n : Int} (hn : n ≤ 9223372036854775807) : Bok (k + 1) (B.arm n) := by
  unfold Bn.arm
  split
  · rename_i hc
    have h0 : ¬ n < 0 := by
      intro e
      unfold Bn.ac at hc
      split at hc
      · cases hc
      · simp_all
    exact ⟨h.mono.wf, ⟨by show 0 ≤ n; omega, hn⟩, h.mono.st⟩
  · exact h.mono
theorem Bok.rot {k : Nat} {B : Bn} (h : Bok k B) (d n j : Int) (x : Nat) : Bok (k + 1) (B.rot d n j x) := by
  unfold Bn.rot
  split
  · rename_i hc
    obtain ⟨n', hn, w⟩ := h.wf _ (tc_dev hc)
    exact h.setd ⟨n', hn, w.rot n j x⟩
  · exact h.mono
theorem okNew {P : List Int} (h : okSizes P) : Bok 0 (newB P) :=
  ⟨fun D hD => by
    obtain ⟨n, hn, rfl⟩ := List.mem_map.1 hD
    have := h.2.2 n hn
    exact ⟨n.toNat, by omega, blank_wf (by omega)⟩, ⟨by show (0 : Int) ≤ 0; decide, by show (0 : Int) ≤ _; decide⟩, ⟨by show (0 : Int) ≤ 0; decide, by show (0 : Int) ≤ _; decide⟩⟩

theorem step_len (B : Bn) (d : Int) (D : Dev) : (B.step d D).l.length = B.l.length := by unfold Bn.step; split <;> simp
theorem setd_len (B : Bn) (d : Int) (D : Dev) : (B.setd d D).l.length = B.l.length := by simp [Bn.setd]
theorem write_len (B : Bn) (d n : Int) (x : Nat) : (B.write d n x).l.length = B.l.length := by unfold Bn.write; split <;> simp [step_len]
theorem flush_len (B : Bn) (d : Int) : (B.flush d).l.length = B.l.length := by unfold Bn.flush; split <;> simp [step_len]
theorem fail_len (B : Bn) (d : Int) : (B.fail d).l.length = B.l.length := by unfold Bn.fail; split <;> simp [setd_len]
theorem insert_len (B : Bn) (d : Int) : (B.insert d).l.length = B.l.length := by unfold Bn.insert; split <;> simp [setd_len]
theorem rot_len (B : Bn) (d n j : Int) (x : Nat) : (B.rot d n j x).l.length = B.l.length := by unfold Bn.rot; split <;> simp [setd_len]
theorem arm_len (B : Bn) (n : Int) : (B.arm n).l.length = B.l.length := by unfold Bn.arm; split <;> rfl

/-- a bench of one's own: nothing of it lay in the first heap -/
structure Mine (r : Bool) (H0 H : Heap) (b ds : Bk) (so : Nat) (l : List Dv) (B : Bn) : Prop where
  rep : Rep r H b ds so l B
  t : Turns Z H0 H
  new : ∀ c, BFoot b ds l c → ¬ H0.Old c

theorem Mine.turns {r : Bool} {H0 H H' : Heap} {b ds : Bk} {so : Nat} {l : List Dv} {B : Bn} (h : Mine r H0 H b ds so l B) (k : Turns Z H H') : Mine r H0 H' b ds so l B := ⟨h.rep.turns k, h.t.trans k, h.new⟩
theorem Mine.next {r : Bool} {H0 H H' : Heap} {b ds : Bk} {so : Nat} {l l' : List Dv} {B B' : Bn} (h : Mine r H0 H b ds so l B) (k : RNext r H b ds so l H' l' B') : Mine r H0 H' b ds so l' B' :=
  ⟨k.rep, Turns.after h.t k.turns (fun c hc hx => (h.new c hx hc).elim), fun c hc => by
    rcases k.foot c hc with hc | hc
    · exact h.new c hc
    · exact fun o => hc (o.mono h.t.next)⟩
theorem Mine.ne {r : Bool} {H0 H : Heap} {b ds : Bk} {so : Nat} {l : List Dv} {B : Bn} (h : Mine r H0 H b ds so l B) (hB : 0 < B.l.length) : l ≠ [] := fun e => by
  have := h.rep.len
  rw [e] at this; simp at this; omega

end Go.Proofs.Ytcelngepfdchiaa.disk

