/-
  'LogNil' holds: whatever the arguments, the law answers true, and its arguments read as they did. No condition but the card: mark.sizes holds what the program lays in it.
-/
import Derived.Test.YtjebjbodfdljmaaDoorCards
import Derived.Test.YtjebjbodfdljmaaDoorTie
import Derived.Test.YtjebjbodfdljmaaDoorAmLaid
import Derived.SevenTiedAt
import Derived.LaidMore
import Derived.Stop.Joined
import Derived.Test.YtjebjbodfdljmaaDoorLogNilRun
import Derived.Test.YtjebjbodfdljmaaDoorLogNilFacts
set_option linter.unusedVariables false
namespace Go.Proofs.YtjebjbodfdljmaaDoor.logNil
open Go.ChangeShapes Go.WideShapes Go.ChangeAt Go.RowKit Go.Am

theorem own : ownKnob Tryd.prog.godebug = none := by kernel_rfl
theorem laid : laidOutB Tryd.prog = true := k2

def zeros : List Value := List.replicate 64 (.int .u8 0)

abbrev lst : List (String × DataW Unit) := [("ashlar/mark.sizes", Rows.laid_ashlar_mark_sizes)]

theorem door_met (os : Os) (args : Array Value) : laidMetH Tryd.prog lst ((World.doorLaid Tryd.prog 14 os).forCall (fun _ _ => 0) ⟨#[], args, []⟩).memory :=
  laidMetH_of_parts3 (fuel := 8) (laidMet_of_run' 8 (by kernel_rfl) (by kernel_rfl)) (by kernel_rfl) (by kernel_rfl)

theorem holdsG {w : World} (h : laidMetH Tryd.prog lst w) : Holds Tryd.prog 0 [8, 2, 8, 8] w := by
  rw [MakeChecks.laidMetH_plain _ _ _ (by kernel_rfl)] at h
  exact holds_of_laid (P := Tryd.prog) (name := "ashlar/mark.sizes") (l := [8, 2, 8, 8]) (t := 141) (e := 3) (by kernel_rfl) (by decide +kernel) (by kernel_rfl) (by kernel_rfl) (by kernel_rfl) (by kernel_rfl) (by decide) h

set_option maxRecDepth 100000 in
theorem lifted (os : Os) (started : os.Started) (H : Type) (enc : TypeId × Value → H) :
    ReturnsInHanded {} Tryd.checked os 3 .any (fun w args => (Rows.logNilSpec.pre enc Tryd.prog Tryd.f3 [] false w args ∧ laidMetH Tryd.prog lst w) ∧ sizedMet enc Tryd.prog Tryd.f3 (OpenSpec.ofChange Rows.logNilSpec) false w args)
      (Rows.logNilSpec.post enc Tryd.prog Tryd.f3 false true false false) := by
  refine returnsInHanded_of_change_and (C := Tryd.checked) (X := fun w _ => laidMetH Tryd.prog lst w) (fun _ _ _ hh h => h.of_heap hh) own started (by kernel_rfl) Tryd.func3
    (ChangeSpec.witness_shaped (enc := enc) (C := Tryd.checked) (os := os) (X := fun w _ => laidMetH Tryd.prog lst w) false (World.doorLaid Tryd.prog 14 os) #[.agg (([.int .i64 0, .int .i64 0, .slice none 0 0, .int .u64 0, .bool false, .int .i64 0, .int .i64 0, .int .u8 0, .slice none 0 0] : List Value)).toArray, .bool false] 8 rfl (World.shaped_of_RefB (by kernel_rfl) (by kernel_rfl)) (by kernel_rfl) (by kernel_rfl) (by kernel_rfl) (door_met os _)) ?_
  intro W base args ds gs before hval hW _ _ hL _
  refine laws_runG (P := Tryd.prog) (S := (orS lay.layS (sumG 0 [8, 2, 8, 8] 15))) sums (f := Tryd.f3) (d := 8) (tb := 4) (s := Rows.logNilSpec) laid shape (by kernel_rfl) rfl (by kernel_rfl) (by kernel_rfl) ?_ runs (holdsG hL) hval hW
  intro ds hl
  have hl : ds.length = 2 := hl.trans (by kernel_rfl)
  match ds, hl with
  | [_, _], _ => rfl

theorem over : Rows.logNilRow.holds Tryd.pinned (OpenSpec.ofChange Rows.logNilSpec) :=
  OpenClaim.holds_of_wide 3 Tryd.f3 rfl rfl rfl rfl rfl rfl rfl ⟨rfl, rfl, rfl, rfl, rfl⟩ rfl rfl rfl rfl rfl named Tryd.func3 closed
    (of_decide_eq_true (by kernel_rfl)) (by unfold Func.isWrapper; first | (rw [if_pos (by decide +kernel)]; kernel_rfl) | (rw [if_neg (by decide +kernel)]; exact ⟨rfl, rfl⟩))
    (fun os started H enc _ => lifted os started H enc)

theorem proved : Rows.LogNilCardSaid :=
  Claim7.holds_tied_plain_at .later [] [.data] true (true, "30f2ddf751720c15944dea8f9f52218c2dea41d6d62778518081108fb97cb507") false
    over (fun _ h => by cases h) cw (fun _ h => by cases h) logNil_row_tie rfl ⟨rfl, rfl⟩ cm rfl
    (fun f fn hf hfn => by
      obtain rfl : f = 3 := Option.some.inj (named.symm.trans hf) |>.symm
      obtain rfl : fn = Tryd.f3 := (Option.some.inj (Tryd.func3.symm.trans hfn)).symm
      exact ⟨cl, fun j t ht => by
        have hm : t ∈ Tryd.f3.params.toList := by simpa using Array.mem_of_getElem? ht
        have hall : (Tryd.f3.params.toList.all fun u => !Tryd.prog.wantsStandIn u) = true := by kernel_rfl
        exact (show Tryd.prog.wantsStandIn t = false by simpa using List.all_eq_true.1 hall t hm)⟩)
    cg
#print axioms proved
end Go.Proofs.YtjebjbodfdljmaaDoor.logNil