import Derived.Test.YtabebpemfinejaaDoorCards
import Derived.JoinedOf
import Derived.KernelRfl
set_option linter.unusedVariables false
namespace Go.Proofs.YtabebpemfinejaaDoor.draft
theorem k1:(Rows.logCutsRow.wf (OpenSpec.ofChange Rows.logCutsSpec))=true:=by kernel_rfl
theorem k2:(laidOutB Tryd.prog)=true:=by kernel_rfl
theorem k3:(mapsRowed Tryd.prog)=true:=by kernel_rfl
theorem k4:(Tryd.f5.params.all (Tryd.prog.readableRec ·))=true:=by kernel_rfl
theorem k5:(namedTie Tryd.prog Rows.logCutsRow.named Rows.logCutsSpec.vars)=true:=by kernel_rfl
theorem k6:((Rows.logCutsRow.stops==[]))=true:=by kernel_rfl
theorem k7:((Tryd.prog.stops==[]))=true:=by kernel_rfl
theorem k8:((Rows.logCutsRow.knobs==[]))=true:=by kernel_rfl
theorem k9:((Tryd.prog.stopKnobs==[]))=true:=by kernel_rfl
theorem k10:((Rows.logCutsRow.inPlace==Tryd.prog.inPlace 5))=true:=by kernel_rfl
theorem k11:((Rows.logCutsRow.unfollowed==Tryd.prog.unfollowed 5))=true:=by kernel_rfl
theorem k12:((Rows.logCutsRow.recurses==Tryd.prog.recurses 5))=true:=by kernel_rfl
theorem k13:((Rows.logCutsRow.named==Tryd.prog.varsNamed 5))=true:=by kernel_rfl
theorem k14:((Rows.logCutsRow.maps==(Tryd.f5.params.toList++Rows.logCutsSpec.plain.varTypes Tryd.prog).any (Tryd.prog.mapsRec ·)))=true:=by kernel_rfl
theorem k15:((Rows.logCutsRow.ifaces==(Tryd.f5.params.toList++Rows.logCutsSpec.plain.varTypes Tryd.prog).any (Tryd.prog.ifacesRec ·)))=true:=by kernel_rfl
theorem k16:((Rows.logCutsRow.mapsOut==Tryd.prog.mapsAmong Tryd.f5.resultTypes.toList))=true:=by kernel_rfl
theorem k17:((Rows.logCutsRow.loops==(Tryd.f5.params.toList++Rows.logCutsSpec.plain.varTypes Tryd.prog).any (Tryd.prog.loopsFrom ·)))=true:=by kernel_rfl
theorem k18:((Rows.logCutsRow.wideKeys==(Tryd.f5.params.toList++Rows.logCutsSpec.plain.varTypes Tryd.prog++Tryd.f5.resultTypes.toList).any (Tryd.prog.wideKeysFrom ·)))=true:=by kernel_rfl
theorem k19:(Rows.logCutsSpec.vars.all (Tryd.prog.varReadable ·))=true:=by kernel_rfl
theorem k20:(Tryd.f5.resultTypes.all (fun t=>Tryd.prog.readableRec t&&decide (t < Tryd.prog.types.size)))=true:=by kernel_rfl
theorem k21:((Rows.logCutsRow.ifacesOut==Tryd.f5.resultTypes.toList.any (Tryd.prog.ifacesRec ·)))=true:=by kernel_rfl
theorem k22:((Rows.logCutsRow.loopsOut==Tryd.f5.resultTypes.toList.any (Tryd.prog.loopsFrom ·)))=true:=by kernel_rfl
theorem k23:((Rows.logCutsRow.plainKeys==Tryd.prog.plainKeys))=true:=by kernel_rfl
theorem k24:(Rows.logCutsRow.shortTexts.isNone)=true:=by kernel_rfl
theorem k25:(Tryd.prog.stopsHeard)=true:=by kernel_rfl
theorem k26:(Tryd.prog.mayEnter)=true:=by kernel_rfl
theorem k27:((Rows.logCutsRow.lifted==Tryd.prog.liftsFinal))=true:=by kernel_rfl
theorem k28:((Tryd.prog.make==some Rows.logCutsRow.make))=true:=by kernel_rfl
theorem k29:((Rows.logCutsRow.kinds==(if Rows.logCutsRow.domain.isEmpty then [] else Tryd.f5.params.toList.map fun t=>match Tryd.prog.underlying t with | some (.int k)=>some k | _=>none)))=true:=by kernel_rfl
theorem k30:((Rows.logCutsRow.pinned==Rows.logCutsRow.pinnedBy))=true:=by kernel_rfl
theorem k31:((Rows.logCutsRow.veiled==(Tryd.f5.params.toList++Rows.logCutsSpec.plain.varTypes Tryd.prog++Tryd.f5.resultTypes.toList).any (Tryd.prog.veiledRec ·)))=true:=by kernel_rfl
theorem k32:(Rows.logCutsRow.veiledFits Tryd.prog Tryd.f5.params.toList (Tryd.f5.params.toList++Rows.logCutsSpec.plain.varTypes Tryd.prog++Tryd.f5.resultTypes.toList))=true:=by kernel_rfl
set_option maxRecDepth 100000 in
theorem closed:joinedFacts Tryd.prog 5 Tryd.f5 Rows.logCutsSpec Rows.logCutsRow=true:=by
 unfold joinedFacts
 simp only[Bool.and_eq_true]
 exact⟨⟨⟨⟨⟨⟨⟨⟨⟨⟨⟨⟨⟨⟨⟨⟨⟨⟨⟨⟨⟨⟨⟨⟨⟨⟨⟨⟨⟨⟨⟨k1,k2⟩,k3⟩,k4⟩,k5⟩,k6⟩,k7⟩,k8⟩,k9⟩,k10⟩,k11⟩,k12⟩,k13⟩,k14⟩,k15⟩,k16⟩,k17⟩,k18⟩,k19⟩,k20⟩,k21⟩,k22⟩,k23⟩,k24⟩,k25⟩,k26⟩,k27⟩,k28⟩,k29⟩,k30⟩,k31⟩,k32⟩
theorem named:Tryd.prog.funcNamed Rows.logCutsRow.func=some 5:=by kernel_rfl
theorem cw:Rows.logCutsRow.wfByText (OpenSpec.ofChange Rows.logCutsSpec)=true:=by kernel_rfl
theorem cm : Tryd.prog.mainIs = some ((true, "66f16b3014a155823b94ff72247b964734243cc4e4568c357d48bd6f49b717fc").1, (true, "66f16b3014a155823b94ff72247b964734243cc4e4568c357d48bd6f49b717fc").2.toList) := by kernel_rfl
theorem cl:false=Tryd.prog.looks []:=by kernel_rfl
theorem cg:false=Rows.logCutsRow.goesBy Tryd.prog:=by kernel_rfl
end Go.Proofs.YtabebpemfinejaaDoor.draft