/-
  'DiskPlays' holds: whatever the arguments, the law answers true, and its arguments read as they did. No condition.
-/
import Derived.Test.YtcelngepfdchiaaRows
import Derived.Test.YtcelngepfdchiaaDiskArgs
import Derived.Test.YtcelngepfdchiaaPlays2
set_option linter.unusedVariables false
namespace Go.Proofs.Ytcelngepfdchiaa.diskPlays
open Go.ChangeShapes Go.WideShapes Go.ChangeAt Go.RowKit Go.Am

theorem own : ownKnob Try.prog.godebug = none := by kernel_rfl
theorem laid : laidOutB Try.prog = true := by kernel_rfl

def actSh : Sh := .seq (.int .i64) (.seq (.int .i64) (.seq (.int .i64) (.seq (.int .u8) (.seq .blk (.seq (.slice 1 (.int .i64)) .nil)))))

theorem shape : shAll Try.prog 8 Try.f6.params.toList = some [.int .i64, .slice 69 actSh] := by kernel_rfl

theorem act_of {P : Program} {a : Nat → Option Am.Obj} {r : List V} (h : Fits a actSh r) : ∃ x : disk.AAct, x.row = r ∧ x.x < 256 ∧ disk.PicksAt (heapA P a) x.pp x.P disk.Z := by
  obtain ⟨C0, R0, rfl, ⟨o, _, rfl⟩, C1, R1, rfl, ⟨n, _, rfl⟩, C2, R2, rfl, ⟨j, _, rfl⟩, C3, R3, rfl, ⟨x, hx, rfl⟩, C4, R4, rfl, ⟨B, _, rfl⟩, C5, R5, rfl, h5, h6⟩ := h
  have h6 : R5 = [] := h6
  subst h6
  obtain ⟨x, hx8, rfl⟩ := disk.wf_u8 hx
  have h5' : ∃ u, FitsV a (.slice 1 (.int .i64)) u ∧ C5 = [u] := by
    rcases h5 with rfl | ⟨b, len, rows, rfl, h1, h2, h3, h4⟩
    · exact ⟨_, ⟨_, .inl rfl, rfl⟩, rfl⟩
    · exact ⟨_, ⟨_, .inr ⟨b, len, rows, rfl, h1, h2, h3, h4⟩, rfl⟩, rfl⟩
  obtain ⟨u, hu, rfl⟩ := h5'
  obtain ⟨pp, pc, Q, rfl, hQ⟩ := disk.picks_of (P := P) hu
  exact ⟨⟨o, n, j, x, B, pp, Q, pc⟩, rfl, hx8, hQ⟩

theorem list_of {P : Program} {a : Nat → Option Am.Obj} : ∀ (l : List (List V)), (∀ r ∈ l, Fits a actSh r) → ∃ A : List disk.AAct, A.map disk.AAct.row = l ∧ ∀ x ∈ A, x.x < 256 ∧ disk.PicksAt (heapA P a) x.pp x.P disk.Z
  | [], _ => ⟨[], rfl, fun x hx => absurd hx (by simp)⟩
  | r :: l, h => by
    obtain ⟨x, h1, h2⟩ := act_of (P := P) (h r (List.mem_cons_self ..))
    obtain ⟨A, h3, h4⟩ := list_of (P := P) l (fun r hr => h r (List.mem_cons_of_mem _ hr))
    refine ⟨x :: A, by rw [List.map_cons, h1, h3], fun z hz => ?_⟩
    rcases List.mem_cons.1 hz with rfl | hz
    · exact h2
    · exact h4 z hz

theorem acts_of {P : Program} {a : Nat → Option Am.Obj} {u : V} (h : FitsV a (.slice 69 actSh) u) : ∃ lp lc A, u = .slice lp (List.length A) lc 0 ∧ disk.ActsAt (heapA P a) lp A := by
  obtain ⟨C, hf, hu⟩ := h
  rcases hf with rfl | ⟨b, len, rows, rfl, hb, hl, _, hr⟩
  · cases hu
    exact ⟨none, 0, [], rfl, fun e => absurd rfl e, fun x hx => absurd hx (by simp)⟩
  · cases hu
    obtain ⟨A, h1, h2⟩ := list_of (P := P) (rows.take len) (fun r hr' => hr r (List.mem_of_mem_take hr'))
    have hlen : A.length = len := by
      have := congrArg List.length h1
      simpa [Nat.min_eq_left hl] using this
    refine ⟨some ⟨.arg b, 0⟩, rows.length, A, by rw [hlen], fun _ => ⟨.arg b, true, rows, rfl, trivial, hb, fun i hi => ?_⟩, h2⟩
    have e : (A.map disk.AAct.row)[i]? = (rows.take len)[i]? := by rw [h1]
    rw [List.getElem?_map, List.getElem?_eq_getElem hi, List.getElem?_take, if_pos (by omega)] at e
    exact e.symm

theorem runs (a : Nat → Option Am.Obj) (us : List V) (h : FitsAll a [.int .i64, .slice 69 actSh] us) :
    ∃ lf n H1, callS Try.prog disk.S0 lf n 6 us (heapA Try.prog a) = some (.v (.bool true), H1) ∧ QOk H1 := by
  obtain ⟨u0, us0, rfl, h0, u1, us1, rfl, h1, rfl⟩ := h
  obtain ⟨C0, ⟨n, _, rfl⟩, c0⟩ := h0
  cases c0
  obtain ⟨lp, lc, A, rfl, hA⟩ := acts_of (P := Try.prog) h1
  obtain ⟨v, H1, e, rfl, hT⟩ := disk.plays_run (heapA Try.prog a) n hA (lc := lc) (lf := 100000) (by decide) 0
  exact ⟨100000, 5, H1, e, disk.qok_of hT⟩

set_option maxRecDepth 100000 in
theorem lifted (os : Os) (started : os.Started) (H : Type) (enc : TypeId × Value → H) :
    ReturnsInHanded {} Try.checked os 6 .any (Rows.diskPlaysSpec.pre6 enc Try.prog Try.f6 Rows.diskPlaysRow.domain false) (Rows.diskPlaysSpec.post enc Try.prog Try.f6 false true false false) := by
  refine returnsInHanded_of_change (C := Try.checked) own started (by kernel_rfl) Try.func6
    (ChangeSpec.witness6 (enc := enc) (C := Try.checked) false ⟨#[], #[.int .i64 0, .slice none 0 0], []⟩ 8 (by kernel_rfl) (by kernel_rfl) (by kernel_rfl) (by kernel_rfl)) ?_
  intro W base args ds gs before hval hW _ _
  refine laws_runS (P := Try.prog) (S := disk.S0) disk.sums (f := Try.f6) (d := 8) (tb := 4) (s := Rows.diskPlaysSpec) laid shape (by kernel_rfl) rfl (by kernel_rfl) (by kernel_rfl) ?_ runs hval hW
  intro ds hl
  have hl : ds.length = 2 := hl.trans (by kernel_rfl)
  match ds, hl with
  | [_, _], _ => rfl

theorem over : Rows.diskPlaysRow.holds Try.pinned (OpenSpec.ofChange Rows.diskPlaysSpec) :=
  OpenClaim.holds_of_wide 6 Try.f6 rfl rfl rfl rfl rfl rfl rfl ⟨rfl, rfl, rfl, rfl, rfl⟩ rfl rfl rfl rfl rfl (by kernel_rfl) Try.func6 (by kernel_rfl)
    (of_decide_eq_true (by kernel_rfl)) (by unfold Func.isWrapper; first | (rw [if_pos (by decide +kernel)]; kernel_rfl) | (rw [if_neg (by decide +kernel)]; exact ⟨rfl, rfl⟩))
    (fun os started H enc _ => lifted os started H enc)

theorem proved : Rows.DiskPlaysSaid := over
#print axioms proved
end Go.Proofs.Ytcelngepfdchiaa.diskPlays

