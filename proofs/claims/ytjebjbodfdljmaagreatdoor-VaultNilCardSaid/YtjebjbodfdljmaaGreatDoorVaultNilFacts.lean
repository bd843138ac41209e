/-
  'VaultNil': the row's closed facts, one by one.
-/
import Derived.Test.YtjebjbodfdljmaaGreatDoorCards
import Derived.JoinedOf
import Derived.KernelRfl
set_option linter.unusedVariables false
namespace Go.Proofs.YtjebjbodfdljmaaGreatDoor.vaultNil
theorem k1 : (Rows.vaultNilRow.wf (OpenSpec.ofChange Rows.vaultNilSpec)) = true := by kernel_rfl
theorem k2 : (laidOutB Tryz.prog) = true := by kernel_rfl
theorem k3 : (mapsRowed Tryz.prog) = true := by kernel_rfl
theorem k4 : (Tryz.f6.params.all (Tryz.prog.readableRec ·)) = true := by kernel_rfl
theorem k5 : (namedTie Tryz.prog Rows.vaultNilRow.named Rows.vaultNilSpec.vars) = true := by kernel_rfl
theorem k6 : ((Rows.vaultNilRow.stops == [])) = true := by kernel_rfl
theorem k7 : ((Tryz.prog.stops == [])) = true := by kernel_rfl
theorem k8 : ((Rows.vaultNilRow.knobs == [])) = true := by kernel_rfl
theorem k9 : ((Tryz.prog.stopKnobs == [])) = true := by kernel_rfl
theorem k10 : ((Rows.vaultNilRow.inPlace == Tryz.prog.inPlace 6)) = true := by kernel_rfl
theorem k11 : ((Rows.vaultNilRow.unfollowed == Tryz.prog.unfollowed 6)) = true := by kernel_rfl
theorem k12 : ((Rows.vaultNilRow.recurses == Tryz.prog.recurses 6)) = true := by kernel_rfl
theorem k13 : ((Rows.vaultNilRow.named == Tryz.prog.varsNamed 6)) = true := by kernel_rfl
theorem k14 : ((Rows.vaultNilRow.maps == (Tryz.f6.params.toList ++ Rows.vaultNilSpec.plain.varTypes Tryz.prog).any (Tryz.prog.mapsRec ·))) = true := by kernel_rfl
theorem k15 : ((Rows.vaultNilRow.ifaces == (Tryz.f6.params.toList ++ Rows.vaultNilSpec.plain.varTypes Tryz.prog).any (Tryz.prog.ifacesRec ·))) = true := by kernel_rfl
theorem k16 : ((Rows.vaultNilRow.mapsOut == Tryz.prog.mapsAmong Tryz.f6.resultTypes.toList)) = true := by kernel_rfl
theorem k17 : ((Rows.vaultNilRow.loops == (Tryz.f6.params.toList ++ Rows.vaultNilSpec.plain.varTypes Tryz.prog).any (Tryz.prog.loopsFrom ·))) = true := by kernel_rfl
theorem k18 : ((Rows.vaultNilRow.wideKeys == (Tryz.f6.params.toList ++ Rows.vaultNilSpec.plain.varTypes Tryz.prog ++ Tryz.f6.resultTypes.toList).any (Tryz.prog.wideKeysFrom ·))) = true := by kernel_rfl
theorem k19 : (Rows.vaultNilSpec.vars.all (Tryz.prog.varReadable ·)) = true := by kernel_rfl
theorem k20 : (Tryz.f6.resultTypes.all (fun t => Tryz.prog.readableRec t && decide (t < Tryz.prog.types.size))) = true := by kernel_rfl
theorem k21 : ((Rows.vaultNilRow.ifacesOut == Tryz.f6.resultTypes.toList.any (Tryz.prog.ifacesRec ·))) = true := by kernel_rfl
theorem k22 : ((Rows.vaultNilRow.loopsOut == Tryz.f6.resultTypes.toList.any (Tryz.prog.loopsFrom ·))) = true := by kernel_rfl
theorem k23 : ((Rows.vaultNilRow.plainKeys == Tryz.prog.plainKeys)) = true := by kernel_rfl
theorem k24 : (Rows.vaultNilRow.shortTexts.isNone) = true := by kernel_rfl
theorem k25 : (Tryz.prog.stopsHeard) = true := by kernel_rfl
theorem k26 : (Tryz.prog.mayEnter) = true := by kernel_rfl
theorem k27 : ((Rows.vaultNilRow.lifted == Tryz.prog.liftsFinal)) = true := by kernel_rfl
theorem k28 : ((Tryz.prog.make == some Rows.vaultNilRow.make)) = true := by kernel_rfl
theorem k29 : ((Rows.vaultNilRow.kinds == (if Rows.vaultNilRow.domain.isEmpty then [] else Tryz.f6.params.toList.map fun t => match Tryz.prog.underlying t with | some (.int k) => some k | _ => none))) = true := by kernel_rfl
theorem k30 : ((Rows.vaultNilRow.pinned == Rows.vaultNilRow.pinnedBy)) = true := by kernel_rfl
theorem k31 : ((Rows.vaultNilRow.veiled == (Tryz.f6.params.toList ++ Rows.vaultNilSpec.plain.varTypes Tryz.prog ++ Tryz.f6.resultTypes.toList).any (Tryz.prog.veiledRec ·))) = true := by kernel_rfl
theorem k32 : (Rows.vaultNilRow.veiledFits Tryz.prog Tryz.f6.params.toList (Tryz.f6.params.toList ++ Rows.vaultNilSpec.plain.varTypes Tryz.prog ++ Tryz.f6.resultTypes.toList)) = true := by kernel_rfl
set_option maxRecDepth 100000 in
theorem closed : joinedFacts Tryz.prog 6 Tryz.f6 Rows.vaultNilSpec Rows.vaultNilRow = true := by
  unfold joinedFacts
  simp only [Bool.and_eq_true]
  exact ⟨⟨⟨⟨⟨⟨⟨⟨⟨⟨⟨⟨⟨⟨⟨⟨⟨⟨⟨⟨⟨⟨⟨⟨⟨⟨⟨⟨⟨⟨⟨k1, k2⟩, k3⟩, k4⟩, k5⟩, k6⟩, k7⟩, k8⟩, k9⟩, k10⟩, k11⟩, k12⟩, k13⟩, k14⟩, k15⟩, k16⟩, k17⟩, k18⟩, k19⟩, k20⟩, k21⟩, k22⟩, k23⟩, k24⟩, k25⟩, k26⟩, k27⟩, k28⟩, k29⟩, k30⟩, k31⟩, k32⟩
theorem named : Tryz.prog.funcNamed Rows.vaultNilRow.func = some 6 := by kernel_rfl
theorem cw : Rows.vaultNilRow.wfByText (OpenSpec.ofChange Rows.vaultNilSpec) = true := by kernel_rfl
theorem cm : Tryz.prog.mainIs = some ((true, "d0f7a6283e25dd18ab491aa7d7cf1b6fbc87d12bb63f72fc332c8bfbba19509c").1, (true, "d0f7a6283e25dd18ab491aa7d7cf1b6fbc87d12bb63f72fc332c8bfbba19509c").2.toList) := by kernel_rfl
theorem cl : true = Tryz.prog.looks [] := by kernel_rfl
theorem cg : false = Rows.vaultNilRow.goesBy Tryz.prog := by kernel_rfl
end Go.Proofs.YtjebjbodfdljmaaGreatDoor.vaultNil