/-
  'LogNil': the row's closed facts, one by one.
-/
import Derived.Test.YtjebjbodfdljmaaDoorCards
import Derived.JoinedOf
import Derived.KernelRfl
set_option linter.unusedVariables false
namespace Go.Proofs.YtjebjbodfdljmaaDoor.logNil
theorem k1 : (Rows.logNilRow.wf (OpenSpec.ofChange Rows.logNilSpec)) = true := by kernel_rfl
theorem k2 : (laidOutB Tryd.prog) = true := by kernel_rfl
theorem k3 : (mapsRowed Tryd.prog) = true := by kernel_rfl
theorem k4 : (Tryd.f3.params.all (Tryd.prog.readableRec ·)) = true := by kernel_rfl
theorem k5 : (namedTie Tryd.prog Rows.logNilRow.named Rows.logNilSpec.vars) = true := by kernel_rfl
theorem k6 : ((Rows.logNilRow.stops == [])) = true := by kernel_rfl
theorem k7 : ((Tryd.prog.stops == [])) = true := by kernel_rfl
theorem k8 : ((Rows.logNilRow.knobs == [])) = true := by kernel_rfl
theorem k9 : ((Tryd.prog.stopKnobs == [])) = true := by kernel_rfl
theorem k10 : ((Rows.logNilRow.inPlace == Tryd.prog.inPlace 3)) = true := by kernel_rfl
theorem k11 : ((Rows.logNilRow.unfollowed == Tryd.prog.unfollowed 3)) = true := by kernel_rfl
theorem k12 : ((Rows.logNilRow.recurses == Tryd.prog.recurses 3)) = true := by kernel_rfl
theorem k13 : ((Rows.logNilRow.named == Tryd.prog.varsNamed 3)) = true := by kernel_rfl
theorem k14 : ((Rows.logNilRow.maps == (Tryd.f3.params.toList ++ Rows.logNilSpec.plain.varTypes Tryd.prog).any (Tryd.prog.mapsRec ·))) = true := by kernel_rfl
theorem k15 : ((Rows.logNilRow.ifaces == (Tryd.f3.params.toList ++ Rows.logNilSpec.plain.varTypes Tryd.prog).any (Tryd.prog.ifacesRec ·))) = true := by kernel_rfl
theorem k16 : ((Rows.logNilRow.mapsOut == Tryd.prog.mapsAmong Tryd.f3.resultTypes.toList)) = true := by kernel_rfl
theorem k17 : ((Rows.logNilRow.loops == (Tryd.f3.params.toList ++ Rows.logNilSpec.plain.varTypes Tryd.prog).any (Tryd.prog.loopsFrom ·))) = true := by kernel_rfl
theorem k18 : ((Rows.logNilRow.wideKeys == (Tryd.f3.params.toList ++ Rows.logNilSpec.plain.varTypes Tryd.prog ++ Tryd.f3.resultTypes.toList).any (Tryd.prog.wideKeysFrom ·))) = true := by kernel_rfl
theorem k19 : (Rows.logNilSpec.vars.all (Tryd.prog.varReadable ·)) = true := by kernel_rfl
theorem k20 : (Tryd.f3.resultTypes.all (fun t => Tryd.prog.readableRec t && decide (t < Tryd.prog.types.size))) = true := by kernel_rfl
theorem k21 : ((Rows.logNilRow.ifacesOut == Tryd.f3.resultTypes.toList.any (Tryd.prog.ifacesRec ·))) = true := by kernel_rfl
theorem k22 : ((Rows.logNilRow.loopsOut == Tryd.f3.resultTypes.toList.any (Tryd.prog.loopsFrom ·))) = true := by kernel_rfl
theorem k23 : ((Rows.logNilRow.plainKeys == Tryd.prog.plainKeys)) = true := by kernel_rfl
theorem k24 : (Rows.logNilRow.shortTexts.isNone) = true := by kernel_rfl
theorem k25 : (Tryd.prog.stopsHeard) = true := by kernel_rfl
theorem k26 : (Tryd.prog.mayEnter) = true := by kernel_rfl
theorem k27 : ((Rows.logNilRow.lifted == Tryd.prog.liftsFinal)) = true := by kernel_rfl
theorem k28 : ((Tryd.prog.make == some Rows.logNilRow.make)) = true := by kernel_rfl
theorem k29 : ((Rows.logNilRow.kinds == (if Rows.logNilRow.domain.isEmpty then [] else Tryd.f3.params.toList.map fun t => match Tryd.prog.underlying t with | some (.int k) => some k | _ => none))) = true := by kernel_rfl
theorem k30 : ((Rows.logNilRow.pinned == Rows.logNilRow.pinnedBy)) = true := by kernel_rfl
theorem k31 : ((Rows.logNilRow.veiled == (Tryd.f3.params.toList ++ Rows.logNilSpec.plain.varTypes Tryd.prog ++ Tryd.f3.resultTypes.toList).any (Tryd.prog.veiledRec ·))) = true := by kernel_rfl
theorem k32 : (Rows.logNilRow.veiledFits Tryd.prog Tryd.f3.params.toList (Tryd.f3.params.toList ++ Rows.logNilSpec.plain.varTypes Tryd.prog ++ Tryd.f3.resultTypes.toList)) = true := by kernel_rfl
set_option maxRecDepth 100000 in
theorem closed : joinedFacts Tryd.prog 3 Tryd.f3 Rows.logNilSpec Rows.logNilRow = true := by
  unfold joinedFacts
  simp only [Bool.and_eq_true]
  exact ⟨⟨⟨⟨⟨⟨⟨⟨⟨⟨⟨⟨⟨⟨⟨⟨⟨⟨⟨⟨⟨⟨⟨⟨⟨⟨⟨⟨⟨⟨⟨k1, k2⟩, k3⟩, k4⟩, k5⟩, k6⟩, k7⟩, k8⟩, k9⟩, k10⟩, k11⟩, k12⟩, k13⟩, k14⟩, k15⟩, k16⟩, k17⟩, k18⟩, k19⟩, k20⟩, k21⟩, k22⟩, k23⟩, k24⟩, k25⟩, k26⟩, k27⟩, k28⟩, k29⟩, k30⟩, k31⟩, k32⟩
theorem named : Tryd.prog.funcNamed Rows.logNilRow.func = some 3 := by kernel_rfl
theorem cw : Rows.logNilRow.wfByText (OpenSpec.ofChange Rows.logNilSpec) = true := by kernel_rfl
theorem cm : Tryd.prog.mainIs = some ((true, "30f2ddf751720c15944dea8f9f52218c2dea41d6d62778518081108fb97cb507").1, (true, "30f2ddf751720c15944dea8f9f52218c2dea41d6d62778518081108fb97cb507").2.toList) := by kernel_rfl
theorem cl : false = Tryd.prog.looks [] := by kernel_rfl
theorem cg : false = Rows.logNilRow.goesBy Tryd.prog := by kernel_rfl
end Go.Proofs.YtjebjbodfdljmaaDoor.logNil