/-
  'ScrubNil' holds: whatever the arguments, the law answers true, and its arguments read as they did. No condition but the card: mark.sizes holds what the program lays in it.
-/
import Derived.Test.YtejgheoandfikaaGreatDoorCards
import Derived.Test.YtejgheoandfikaaGreatDoorTie
import Derived.Test.YtejgheoandfikaaGreatDoorAmLaid
import Derived.SevenTiedAt
import Derived.LaidMore
import Derived.Stop.Joined
import Derived.Test.YtejgheoandfikaaGreatDoorScrubNilRun
import Derived.Test.YtejgheoandfikaaGreatDoorScrubNilFacts
set_option linter.unusedVariables false
namespace Go.Proofs.YtejgheoandfikaaGreatDoor.scrubNil
open Go.ChangeShapes Go.WideShapes Go.ChangeAt Go.RowKit Go.Am

theorem own : ownKnob Tryz.prog.godebug = none := by kernel_rfl
theorem laid : laidOutB Tryz.prog = true := k2

def zeros : List Value := List.replicate 64 (.int .u8 0)

abbrev lst : List (String × DataW Unit) := [("ashlar/mark.sizes", Rows.laid_ashlar_mark_sizes)]

theorem door_met (os : Os) (args : Array Value) : laidMetH Tryz.prog lst ((World.doorLaid Tryz.prog 14 os).forCall (fun _ _ => 0) ⟨#[], args, []⟩).memory :=
  laidMetH_of_parts3 (fuel := 8) (laidMet_of_run' 8 (by kernel_rfl) (by kernel_rfl)) (by kernel_rfl) (by kernel_rfl)

theorem holdsG {w : World} (h : laidMetH Tryz.prog lst w) : Holds Tryz.prog 0 [8, 2, 8, 8] w := by
  rw [MakeChecks.laidMetH_plain _ _ _ (by kernel_rfl)] at h
  exact holds_of_laid (P := Tryz.prog) (name := "ashlar/mark.sizes") (l := [8, 2, 8, 8]) (t := 267) (e := 3) (by kernel_rfl) (by decide +kernel) (by kernel_rfl) (by kernel_rfl) (by kernel_rfl) (by kernel_rfl) (by decide) h

set_option maxRecDepth 100000 in
theorem lifted (os : Os) (started : os.Started) (H : Type) (enc : TypeId × Value → H) :
    ReturnsInHanded {} Tryz.checked os 4 .any (fun w args => (Rows.scrubNilSpec.pre enc Tryz.prog Tryz.f4 [] false w args ∧ laidMetH Tryz.prog lst w) ∧ sizedMet enc Tryz.prog Tryz.f4 (OpenSpec.ofChange Rows.scrubNilSpec) false w args)
      (Rows.scrubNilSpec.post enc Tryz.prog Tryz.f4 false true false false) := by
  refine returnsInHanded_of_change_and (C := Tryz.checked) (X := fun w _ => laidMetH Tryz.prog lst w) (fun _ _ _ hh h => h.of_heap hh) own started (by kernel_rfl) Tryz.func4
    (ChangeSpec.witness_shaped (enc := enc) (C := Tryz.checked) (os := os) (X := fun w _ => laidMetH Tryz.prog lst w) false (World.doorLaid Tryz.prog 14 os) #[.int .i64 0, .bool false] 8 rfl (World.shaped_of_RefB (by kernel_rfl) (by kernel_rfl)) (by kernel_rfl) (by kernel_rfl) (by kernel_rfl) (door_met os _)) ?_
  intro W base args ds gs before hval hW _ _ hL _
  refine laws_runG (P := Tryz.prog) (S := (orS (sumG 0 [8, 2, 8, 8] 13) crc.takeS)) sums (f := Tryz.f4) (d := 8) (tb := 4) (s := Rows.scrubNilSpec) laid shape (by kernel_rfl) rfl (by kernel_rfl) (by kernel_rfl) ?_ runs (holdsG hL) hval hW
  intro ds hl
  have hl : ds.length = 2 := hl.trans (by kernel_rfl)
  match ds, hl with
  | [_, _], _ => rfl

theorem over : Rows.scrubNilRow.holds Tryz.pinned (OpenSpec.ofChange Rows.scrubNilSpec) :=
  OpenClaim.holds_of_wide 4 Tryz.f4 rfl rfl rfl rfl rfl rfl rfl ⟨rfl, rfl, rfl, rfl, rfl⟩ rfl rfl rfl rfl rfl named Tryz.func4 closed
    (of_decide_eq_true (by kernel_rfl)) (by unfold Func.isWrapper; first | (rw [if_pos (by decide +kernel)]; kernel_rfl) | (rw [if_neg (by decide +kernel)]; exact ⟨rfl, rfl⟩))
    (fun os started H enc _ => lifted os started H enc)

theorem proved : Rows.ScrubNilCardSaid :=
  Claim7.holds_tied_plain_at .later [] [.data] true (true, "b9b58e0accd12f187ce698fe5891c4a5d8cda214797236f76469d82d2371080d") true
    over (fun _ h => by cases h) cw (fun _ h => by cases h) scrubNil_row_tie rfl ⟨rfl, rfl⟩ cm rfl
    (fun f fn hf hfn => by
      obtain rfl : f = 4 := Option.some.inj (named.symm.trans hf) |>.symm
      obtain rfl : fn = Tryz.f4 := (Option.some.inj (Tryz.func4.symm.trans hfn)).symm
      exact ⟨cl, fun j t ht => by
        have hm : t ∈ Tryz.f4.params.toList := by simpa using Array.mem_of_getElem? ht
        have hall : (Tryz.f4.params.toList.all fun u => !Tryz.prog.wantsStandIn u) = true := by kernel_rfl
        exact (show Tryz.prog.wantsStandIn t = false by simpa using List.all_eq_true.1 hall t hm)⟩)
    cg
#print axioms proved
end Go.Proofs.YtejgheoandfikaaGreatDoor.scrubNil