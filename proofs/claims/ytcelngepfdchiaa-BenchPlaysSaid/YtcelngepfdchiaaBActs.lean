/-
  A bench's acts as they lie with the arguments.
-/
import Derived.Test.YtcelngepfdchiaaBench7
import Derived.Test.YtcelngepfdchiaaDiskArgs
set_option linter.unusedVariables false
set_option linter.unusedSimpArgs false
namespace Go.Proofs.Ytcelngepfdchiaa.disk
open Go.Am

structure BAct where
  o : Int
  d : Int
  n : Int
  j : Int
  x : Nat
  B : Nat
  pp : Option Ptr
  P : List Int
  pc : Nat
def BAct.row (a : BAct) : List V := [.int .i64 a.o, .int .i64 a.d, .int .i64 a.n, .int .i64 a.j, .int .u8 (a.x : Int), .blk a.B, .slice a.pp a.P.length a.pc 0]
structure BAct.ok (H : Heap) (a : BAct) : Prop where
  x : a.x < 256
  pk : PicksAt H a.pp a.P Z
  pc : a.P.length ≤ a.pc
  n : a.n ≤ 9223372036854775807
structure BActsAt (H : Heap) (pp : Option Ptr) (A : List BAct) : Prop where
  has : A ≠ [] → ∃ x ro rows, pp = some ⟨x, 0⟩ ∧ H.Old x ∧ H.get x = some (.rows ro 70 rows) ∧ ∀ i, (hi : i < A.length) → rows[i]? = some A[i].row
  ok : ∀ a ∈ A, a.ok H
theorem BActsAt.load {H H' : Heap} {pp : Option Ptr} {A : List BAct} (h : BActsAt H pp A) (k : Turns Z H H') {i : Nat} (hi : i < A.length) : ∃ x, pp = some ⟨x, 0⟩ ∧ loadAt H' ⟨x, i * 70⟩ 70 = some A[i].row := by
  obtain ⟨x, ro, rows, hp, ho, hg, hr⟩ := h.has (fun e => by rw [e] at hi; simp at hi)
  refine ⟨x, hp, ?_⟩
  rw [loadAt_eq ((k.same x ho id).trans hg) (r := A[i].row) (nth_of (by rw [Nat.mul_div_cancel _ (by decide)]; exact hr i hi)), Nat.mul_mod_left]
  rfl

theorem bact_loads {K : Heap} {c : Bk} {a : BAct} (h : K.get c = some (.rows false 70 [a.row])) :
    loadAt K ⟨c, 0⟩ 1 = some [.int .i64 a.o] ∧ loadAt K ⟨c, 1⟩ 1 = some [.int .i64 a.d] ∧ loadAt K ⟨c, 2⟩ 1 = some [.int .i64 a.n] ∧ loadAt K ⟨c, 3⟩ 1 = some [.int .i64 a.j] ∧ loadAt K ⟨c, 4⟩ 1 = some [.int .u8 (a.x : Int)] ∧ loadAt K ⟨c, 5⟩ 64 = some [.blk a.B] ∧ loadAt K ⟨c, 69⟩ 1 = some [.slice a.pp a.P.length a.pc 0] := by
  unfold BAct.row at h
  refine ⟨?_, ?_, ?_, ?_, ?_, ?_, ?_⟩
  all_goals (rw [loadAt_eq h (by exact rfl)]; rfl)

def actSh : Sh := .seq (.int .i64) (.seq (.int .i64) (.seq (.int .i64) (.seq (.int .i64) (.seq (.int .u8) (.seq .blk (.seq (.slice 1 (.int .i64)) .nil))))))

theorem wf_i64 {n : Int} (h : (Lit.int .i64 n).wf = true) : n ≤ 9223372036854775807 := by
  have h : (decide (IntKind.i64.min ≤ n) && decide (n ≤ IntKind.i64.max)) = true := h
  simp only [Bool.and_eq_true, decide_eq_true_eq] at h
  exact h.2

theorem act_of {P : Program} {a : Nat → Option Am.Obj} {r : List V} (h : Fits a actSh r) : ∃ x : BAct, x.row = r ∧ x.ok (heapA P a) := by
  obtain ⟨C0, R0, rfl, ⟨o, _, rfl⟩, C9, R9, rfl, ⟨d, _, rfl⟩, C1, R1, rfl, ⟨n, hn, rfl⟩, C2, R2, rfl, ⟨j, _, rfl⟩, C3, R3, rfl, ⟨x, hx, rfl⟩, C4, R4, rfl, ⟨B, _, rfl⟩, C5, R5, rfl, h5, h6⟩ := h
  have h6 : R5 = [] := h6
  subst h6
  obtain ⟨x, hx8, rfl⟩ := wf_u8 hx
  have h5' : ∃ u, FitsV a (.slice 1 (.int .i64)) u ∧ C5 = [u] := by
    rcases h5 with rfl | ⟨b, len, rows, rfl, h1, h2, h3, h4⟩
    · exact ⟨_, ⟨_, .inl rfl, rfl⟩, rfl⟩
    · exact ⟨_, ⟨_, .inr ⟨b, len, rows, rfl, h1, h2, h3, h4⟩, rfl⟩, rfl⟩
  obtain ⟨u, hu, rfl⟩ := h5'
  obtain ⟨pp, pc, Q, rfl, hl, hQ⟩ := picks_ofL (P := P) hu
  exact ⟨⟨o, d, n, j, x, B, pp, Q, pc⟩, rfl, hx8, hQ, hl, wf_i64 hn⟩

theorem list_of {P : Program} {a : Nat → Option Am.Obj} : ∀ (l : List (List V)), (∀ r ∈ l, Fits a actSh r) → ∃ A : List BAct, A.map BAct.row = l ∧ ∀ x ∈ A, x.ok (heapA P a)
  | [], _ => ⟨[], rfl, fun x hx => absurd hx (by simp)⟩
  | r :: l, h => by
    obtain ⟨x, h1, h2⟩ := act_of (P := P) (h r (List.mem_cons_self ..))
    obtain ⟨A, h3, h4⟩ := list_of (P := P) l (fun r hr => h r (List.mem_cons_of_mem _ hr))
    refine ⟨x :: A, by rw [List.map_cons, h1, h3], fun z hz => ?_⟩
    rcases List.mem_cons.1 hz with rfl | hz
    · exact h2
    · exact h4 z hz

theorem acts_of {P : Program} {a : Nat → Option Am.Obj} {u : V} (h : FitsV a (.slice 70 actSh) u) : ∃ lp lc A, u = .slice lp (List.length A) lc 0 ∧ BActsAt (heapA P a) lp A := by
  obtain ⟨C, hf, hu⟩ := h
  rcases hf with rfl | ⟨b, len, rows, rfl, hb, hl, _, hr⟩
  · cases hu
    exact ⟨none, 0, [], rfl, fun e => absurd rfl e, fun x hx => absurd hx (by simp)⟩
  · cases hu
    obtain ⟨A, h1, h2⟩ := list_of (P := P) (rows.take len) (fun r hr' => hr r (List.mem_of_mem_take hr'))
    have hlen : A.length = len := by
      have := congrArg List.length h1
      simpa [Nat.min_eq_left hl] using this
    refine ⟨some ⟨.arg b, 0⟩, rows.length, A, by rw [hlen], fun _ => ⟨.arg b, true, rows, rfl, trivial, hb, fun i hi => ?_⟩, h2⟩
    have e : (A.map BAct.row)[i]? = (rows.take len)[i]? := by rw [h1]
    rw [List.getElem?_map, List.getElem?_eq_getElem hi, List.getElem?_take, if_pos (by omega)] at e
    exact e.symm

end Go.Proofs.Ytcelngepfdchiaa.disk

