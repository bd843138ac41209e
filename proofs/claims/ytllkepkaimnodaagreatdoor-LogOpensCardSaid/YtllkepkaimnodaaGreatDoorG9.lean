import Derived.Test.YtllkepkaimnodaaGreatDoorCards
import Derived.JoinedOf
import Derived.KernelRfl
set_option linter.unusedVariables false
namespace Go.Proofs.YtllkepkaimnodaaGreatDoor.draft
theorem k1:(Rows.logOpensRow.wf (OpenSpec.ofChange Rows.logOpensSpec))=true:=by kernel_rfl
theorem k2:(laidOutB Tryz.prog)=true:=by kernel_rfl
theorem k3:(mapsRowed Tryz.prog)=true:=by kernel_rfl
theorem k4:(Tryz.f3.params.all (Tryz.prog.readableRec ·))=true:=by kernel_rfl
theorem k5:(namedTie Tryz.prog Rows.logOpensRow.named Rows.logOpensSpec.vars)=true:=by kernel_rfl
theorem k6:((Rows.logOpensRow.stops==[]))=true:=by kernel_rfl
theorem k7:((Tryz.prog.stops==[]))=true:=by kernel_rfl
theorem k8:((Rows.logOpensRow.knobs==[]))=true:=by kernel_rfl
theorem k9:((Tryz.prog.stopKnobs==[]))=true:=by kernel_rfl
theorem k10:((Rows.logOpensRow.inPlace==Tryz.prog.inPlace 3))=true:=by kernel_rfl
theorem k11:((Rows.logOpensRow.unfollowed==Tryz.prog.unfollowed 3))=true:=by kernel_rfl
theorem k12:((Rows.logOpensRow.recurses==Tryz.prog.recurses 3))=true:=by kernel_rfl
theorem k13:((Rows.logOpensRow.named==Tryz.prog.varsNamed 3))=true:=by kernel_rfl
theorem k14:((Rows.logOpensRow.maps==(Tryz.f3.params.toList++Rows.logOpensSpec.plain.varTypes Tryz.prog).any (Tryz.prog.mapsRec ·)))=true:=by kernel_rfl
theorem k15:((Rows.logOpensRow.ifaces==(Tryz.f3.params.toList++Rows.logOpensSpec.plain.varTypes Tryz.prog).any (Tryz.prog.ifacesRec ·)))=true:=by kernel_rfl
theorem k16:((Rows.logOpensRow.mapsOut==Tryz.prog.mapsAmong Tryz.f3.resultTypes.toList))=true:=by kernel_rfl
theorem k17:((Rows.logOpensRow.loops==(Tryz.f3.params.toList++Rows.logOpensSpec.plain.varTypes Tryz.prog).any (Tryz.prog.loopsFrom ·)))=true:=by kernel_rfl
theorem k18:((Rows.logOpensRow.wideKeys==(Tryz.f3.params.toList++Rows.logOpensSpec.plain.varTypes Tryz.prog++Tryz.f3.resultTypes.toList).any (Tryz.prog.wideKeysFrom ·)))=true:=by kernel_rfl
theorem k19:(Rows.logOpensSpec.vars.all (Tryz.prog.varReadable ·))=true:=by kernel_rfl
theorem k20:(Tryz.f3.resultTypes.all (fun t=>Tryz.prog.readableRec t&&decide (t < Tryz.prog.types.size)))=true:=by kernel_rfl
theorem k21:((Rows.logOpensRow.ifacesOut==Tryz.f3.resultTypes.toList.any (Tryz.prog.ifacesRec ·)))=true:=by kernel_rfl
theorem k22:((Rows.logOpensRow.loopsOut==Tryz.f3.resultTypes.toList.any (Tryz.prog.loopsFrom ·)))=true:=by kernel_rfl
theorem k23:((Rows.logOpensRow.plainKeys==Tryz.prog.plainKeys))=true:=by kernel_rfl
theorem k24:(Rows.logOpensRow.shortTexts.isNone)=true:=by kernel_rfl
theorem k25:(Tryz.prog.stopsHeard)=true:=by kernel_rfl
theorem k26:(Tryz.prog.mayEnter)=true:=by kernel_rfl
theorem k27:((Rows.logOpensRow.lifted==Tryz.prog.liftsFinal))=true:=by kernel_rfl
theorem k28:((Tryz.prog.make==some Rows.logOpensRow.make))=true:=by kernel_rfl
theorem k29:((Rows.logOpensRow.kinds==(if Rows.logOpensRow.domain.isEmpty then [] else Tryz.f3.params.toList.map fun t=>match Tryz.prog.underlying t with | some (.int k)=>some k | _=>none)))=true:=by kernel_rfl
theorem k30:((Rows.logOpensRow.pinned==Rows.logOpensRow.pinnedBy))=true:=by kernel_rfl
theorem k31:((Rows.logOpensRow.veiled==(Tryz.f3.params.toList++Rows.logOpensSpec.plain.varTypes Tryz.prog++Tryz.f3.resultTypes.toList).any (Tryz.prog.veiledRec ·)))=true:=by kernel_rfl
theorem k32:(Rows.logOpensRow.veiledFits Tryz.prog Tryz.f3.params.toList (Tryz.f3.params.toList++Rows.logOpensSpec.plain.varTypes Tryz.prog++Tryz.f3.resultTypes.toList))=true:=by kernel_rfl
set_option maxRecDepth 100000 in
theorem closed:joinedFacts Tryz.prog 3 Tryz.f3 Rows.logOpensSpec Rows.logOpensRow=true:=by
 unfold joinedFacts
 simp only[Bool.and_eq_true]
 exact⟨⟨⟨⟨⟨⟨⟨⟨⟨⟨⟨⟨⟨⟨⟨⟨⟨⟨⟨⟨⟨⟨⟨⟨⟨⟨⟨⟨⟨⟨⟨k1,k2⟩,k3⟩,k4⟩,k5⟩,k6⟩,k7⟩,k8⟩,k9⟩,k10⟩,k11⟩,k12⟩,k13⟩,k14⟩,k15⟩,k16⟩,k17⟩,k18⟩,k19⟩,k20⟩,k21⟩,k22⟩,k23⟩,k24⟩,k25⟩,k26⟩,k27⟩,k28⟩,k29⟩,k30⟩,k31⟩,k32⟩
theorem named:Tryz.prog.funcNamed Rows.logOpensRow.func=some 3:=by kernel_rfl
theorem cw:Rows.logOpensRow.wfByText (OpenSpec.ofChange Rows.logOpensSpec)=true:=by kernel_rfl
theorem cm : Tryz.prog.mainIs = some ((true, "d04c5b8543e815cd05dbfc82ec21e25c50a5acff94ec369ee503afe5844c0562").1, (true, "d04c5b8543e815cd05dbfc82ec21e25c50a5acff94ec369ee503afe5844c0562").2.toList) := by kernel_rfl
theorem cl:false=Tryz.prog.looks []:=by kernel_rfl
theorem cg:false=Rows.logOpensRow.goesBy Tryz.prog:=by kernel_rfl
end Go.Proofs.YtllkepkaimnodaaGreatDoor.draft