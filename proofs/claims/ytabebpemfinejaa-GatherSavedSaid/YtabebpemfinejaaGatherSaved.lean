/-
  'GatherSaved' holds: whatever the arguments, the law answers true, and its arguments read as they did. No condition.
-/
import Derived.Test.YtabebpemfinejaaRows
import Derived.Test.YtabebpemfinejaaG7
import Derived.Test.YtabebpemfinejaaG2
set_option linter.unusedVariables false
namespace Go.Proofs.Ytabebpemfinejaa.draft
open Go.ChangeShapes Go.WideShapes Go.ChangeAt Go.RowKit Go.Am
theorem sums : CallSnd Try.prog S0 := orS_snd lives22.sum crc.takeS_snd
theorem u16_of {a : Nat → Option Am.Obj} {u : V} (h : FitsV a (.int .u16) u) : ∃ s : Nat, s < 65536 ∧ u = .int .u16 (s : Int) := by
  obtain ⟨C, ⟨n, h, rfl⟩, hu⟩ := h
  cases hu
  have h : (decide (0 ≤ n) && decide (n ≤ 65535)) = true := h
  simp only [Bool.and_eq_true, decide_eq_true_eq] at h
  exact ⟨n.toNat, by omega, by rw [Int.toNat_of_nonneg h.1]⟩
theorem u32_of {a : Nat → Option Am.Obj} {u : V} (h : FitsV a (.int .u32) u) : ∃ s : Nat, s < 4294967296 ∧ u = .int .u32 (s : Int) := by
  obtain ⟨C, ⟨n, h, rfl⟩, hu⟩ := h
  cases hu
  have h : (decide (0 ≤ n) && decide (n ≤ 4294967295)) = true := h
  simp only [Bool.and_eq_true, decide_eq_true_eq] at h
  exact ⟨n.toNat, by omega, by rw [Int.toNat_of_nonneg h.1]⟩
theorem own : ownKnob Try.prog.godebug = none := by kernel_rfl
theorem laidOut : laidOutB Try.prog = true := by kernel_rfl
theorem shape : shAll Try.prog 8 Try.f3.params.toList = some [(.int .u8), (.int .u32), (.int .u16), (.int .u16)] := by kernel_rfl
theorem ups (K : Nat) (a : Nat → Option Am.Obj) (us : List V) (h : FitsAll a [(.int .u8), (.int .u32), (.int .u16), (.int .u16)] us) : ∃ G1, U 100000 K 9 3 us (heapA Try.prog a) = some (.v (.bool true), G1) ∧ QOk G1 := by
  obtain ⟨u0, us0, rfl, h0, u1, us1, rfl, h1, u2, us2, rfl, h2, u3, us3, rfl, h3, rfl⟩ := h
  obtain ⟨u, hu, rfl⟩ := disk.u8_of h0
  obtain ⟨E, hE, rfl⟩ := u32_of h1
  obtain ⟨a1, h1, rfl⟩ := u16_of h2
  obtain ⟨a2, h2, rfl⟩ := u16_of h3
  obtain ⟨v, G1, e, rfl, hq⟩ := gathersaved_run (lf := 100000) (K := K) (by decide) (heapA Try.prog a) hu hE h1 h2 0
  exact ⟨G1, e, hq (by intro p hp; cases hp)⟩
theorem runs : ∃ S, CallSnd Try.prog S ∧ ∀ (a : Nat → Option Am.Obj) (us : List V), FitsAll a [(.int .u8), (.int .u32), (.int .u16), (.int .u16)] us → ∃ lf n H1, callS Try.prog S lf n 3 us (heapA Try.prog a) = some (.v (.bool true), H1) ∧ QOk H1 := by
  obtain ⟨K, S, hS, hu⟩ := up_low (lf := 100000) (by decide) sums 9
  refine ⟨S, hS, fun a us h => ?_⟩
  obtain ⟨H1, e, hq⟩ := veiled_run hu (fun a us h => ups K a us h) a us h
  exact ⟨100000, 9, H1, e, hq⟩
set_option maxRecDepth 100000 in
theorem lifted (os : Os) (started : os.Started) (H : Type) (enc : TypeId × Value → H) :
    ReturnsInHanded {} Try.checked os 3 .any (Rows.gatherSavedSpec.pre6 enc Try.prog Try.f3 Rows.gatherSavedRow.domain false) (Rows.gatherSavedSpec.post enc Try.prog Try.f3 false true false false) := by
  refine returnsInHanded_of_change (C := Try.checked) own started (by kernel_rfl) Try.func3
    (ChangeSpec.witness6 (enc := enc) (C := Try.checked) false ⟨#[], #[.int .u8 0, .int .u32 0, .int .u16 0, .int .u16 0], []⟩ 8 (by kernel_rfl) (by kernel_rfl) (by kernel_rfl) (by kernel_rfl)) ?_
  intro W base args ds gs before hval hW _ _
  obtain ⟨S, hS, hr⟩ := runs
  refine laws_runS (P := Try.prog) (S := S) hS (f := Try.f3) (d := 8) (tb := 4) (s := Rows.gatherSavedSpec) laidOut shape (by kernel_rfl) rfl (by kernel_rfl) (by kernel_rfl) ?_ hr hval hW
  intro ds hl
  have hl : ds.length = 4 := hl.trans (by kernel_rfl)
  match ds, hl with
  | [_, _, _, _], _ => rfl
theorem over : Rows.gatherSavedRow.holds Try.pinned (OpenSpec.ofChange Rows.gatherSavedSpec) :=
  OpenClaim.holds_of_wide 3 Try.f3 rfl rfl rfl rfl rfl rfl rfl ⟨rfl, rfl, rfl, rfl, rfl⟩ rfl rfl rfl rfl rfl (by kernel_rfl) Try.func3 (by kernel_rfl)
    (of_decide_eq_true (by kernel_rfl)) (by unfold Func.isWrapper; first | (rw [if_pos (by decide +kernel)]; kernel_rfl) | (rw [if_neg (by decide +kernel)]; exact ⟨rfl, rfl⟩))
    (fun os started H enc _ => lifted os started H enc)
theorem proved : Rows.GatherSavedSaid := over
#print axioms proved
end Go.Proofs.Ytabebpemfinejaa.draft
