/-
  'LogCuts' holds: whatever the arguments, the law answers true, and its arguments read as they did. No condition but the card: mark.sizes holds what the program lays in it.
-/
import Derived.Test.YtabebpemfinejaaDoorCards
import Derived.Test.YtabebpemfinejaaDoorTie
import Derived.SevenTiedAt
import Derived.LaidMore
import Derived.Stop.Joined
import Derived.Test.YtabebpemfinejaaDoorG6
import Derived.Test.YtabebpemfinejaaDoorG8
import Derived.Test.YtabebpemfinejaaDoorG9
set_option linter.unusedVariables false
namespace Go.Proofs.YtabebpemfinejaaDoor.draft
open Go.ChangeShapes Go.WideShapes Go.ChangeAt Go.RowKit Go.Am
theorem livesRun:okT (callS Tryd.prog crc.takeS 100000 60 13 [] (heapB Tryd.prog (m1 0 [8,2,8,8]) fun _=>none))=true:=by kernel_rfl
theorem sums:CallSnd Tryd.prog S0:=orS_snd (sumG_snd crc.takeS_snd (by decide +kernel) (by decide) (okT_some livesRun)) crc.takeS_snd
theorem own:ownKnob Tryd.prog.godebug=none:=by kernel_rfl
theorem shape:shAll Tryd.prog 8 Tryd.f5.params.toList=some [(.int .u8),(.slice 3 stepSh),(.int .u16),(.slice 1 (.int .i64))]:=by kernel_rfl
theorem ups (K:Nat) (a:Nat→Option Am.Obj) (us:List V) (h:FitsAll a [(.int .u8),(.slice 3 stepSh),(.int .u16),(.slice 1 (.int .i64))] us):∃ G1,U 9223372036854777000 K 11 5 us (heapB Tryd.prog (m1 0 [8,2,8,8]) a)=some (.v (.bool true),G1)∧QOk G1:=by
 have hH:∀ n,(heapB Tryd.prog (m1 0 [8,2,8,8]) a).get (.arg n)=a n:=fun n=>rfl
 have hgl:(heapB Tryd.prog (m1 0 [8,2,8,8]) a).get (.run 0)=some (.rows true 4 (intsR [8,2,8,8])):=by kernel_rfl
 have h00:0 < (heapB Tryd.prog (m1 0 [8,2,8,8]) a).next:=by
  show 0 < Tryd.prog.globals.size
  decide +kernel
 obtain⟨u0,us0,rfl,h0,u1,us1,rfl,h1,u2,us2,rfl,h2,u3,us3,rfl,h3,rfl⟩:=h
 obtain⟨m,hm,rfl⟩:=disk.u8_of h0
 obtain⟨p,lc,L,rfl,hL,hsm,hln⟩:=stepsS_of hH h1
 obtain⟨at',hat,rfl⟩:=u16_of h2
 obtain⟨pk,pkc,P,rfl,hpk,hP⟩:=picksB_of hH h3
 obtain⟨v,G1,e,rfl,ht⟩:=logcuts_run (lf:=9223372036854777000) (K:=K) (by decide) (heapB Tryd.prog (m1 0 [8,2,8,8]) a) hgl h00 hm hL hsm hln (fun s hs=>Nat.lt_of_le_of_lt (Nat.add_le_add_right (hln s hs) 1) (by decide)) hat hP hpk (pc:=lc) (po:=0) 0
 exact⟨G1,e,ht.q (by intro p hp;cases hp)⟩
theorem runs:∃ S,CallSnd Tryd.prog S∧∀(a:Nat→Option Am.Obj) (us:List V),FitsAll a [(.int .u8),(.slice 3 stepSh),(.int .u16),(.slice 1 (.int .i64))] us→∃ lf n H1,callS Tryd.prog S lf n 5 us (heapB Tryd.prog (m1 0 [8,2,8,8]) a)=some (.v (.bool true),H1)∧QOk H1:=by
 obtain⟨K,S,hS,hu⟩:=up_low (lf:=9223372036854777000) (by decide) sums crc.takeS_snd 11
 refine⟨S,hS,fun a us h=>?_⟩
 obtain⟨H1,e,hq⟩:=veiled_runG (by decide +kernel) hu (fun a us h=>ups K a us h) a us h
 exact⟨9223372036854777000,11,H1,e,hq⟩
abbrev lst : List (String × DataW Unit) := [("ashlar/mark.sizes", Rows.laid_ashlar_mark_sizes)]
theorem door_met (os:Os) (args:Array Value):laidMetH Tryd.prog lst ((World.doorLaid Tryd.prog 14 os).forCall (fun _ _=>0) ⟨#[],args,[]⟩).memory:=
 laidMetH_of_parts3 (fuel:=8) (laidMet_of_run' 8 (by kernel_rfl) (by kernel_rfl)) (by kernel_rfl) (by kernel_rfl)
theorem holdsG {w:World} (h:laidMetH Tryd.prog lst w):Holds Tryd.prog 0 [8,2,8,8] w:=by
 rw[MakeChecks.laidMetH_plain _ _ _ (by kernel_rfl)] at h
 exact holds_of_laid (P := Tryd.prog) (name := "ashlar/mark.sizes") (l := [8, 2, 8, 8]) (t := 140) (e := 3) (by kernel_rfl) (by decide +kernel) (by kernel_rfl) (by kernel_rfl) (by kernel_rfl) (by kernel_rfl) (by decide) h
set_option maxRecDepth 100000 in
theorem lifted (os:Os) (started:os.Started) (H:Type) (enc:TypeId × Value→H) :
  ReturnsInHanded {} Tryd.checked os 5 .any (fun w args=>(Rows.logCutsSpec.pre enc Tryd.prog Tryd.f5 [] false w args∧laidMetH Tryd.prog lst w)∧sizedMet enc Tryd.prog Tryd.f5 (OpenSpec.ofChange Rows.logCutsSpec) false w args)
   (Rows.logCutsSpec.post enc Tryd.prog Tryd.f5 false true false false):=by
 refine returnsInHanded_of_change_and (C:=Tryd.checked) (X:=fun w _=>laidMetH Tryd.prog lst w) (fun _ _ _ hh h=>h.of_heap hh) own started (by kernel_rfl) Tryd.func5
  (ChangeSpec.witness_shaped (enc:=enc) (C:=Tryd.checked) (os:=os) (X:=fun w _=>laidMetH Tryd.prog lst w) false (World.doorLaid Tryd.prog 14 os) #[.int .u8 0,.slice none 0 0,.int .u16 0,.slice none 0 0] 8 rfl (World.shaped_of_RefB (by kernel_rfl) (by kernel_rfl)) (by kernel_rfl) (by kernel_rfl) (by kernel_rfl) (door_met os _)) ?_
 intro W base args ds gs before hval hW _ _ hL _
 obtain⟨S,hS,hr⟩:=runs
 refine laws_runG (P:=Tryd.prog) (S:=S) hS (f:=Tryd.f5) (d:=8) (tb:=4) (s:=Rows.logCutsSpec) k2 shape (by kernel_rfl) rfl (by kernel_rfl) (by kernel_rfl) ?_ hr (holdsG hL) hval hW
 intro ds hl
 have hl:ds.length=4:=hl.trans (by kernel_rfl)
 match ds,hl with
 | [_,_,_,_],_=>rfl
theorem over:Rows.logCutsRow.holds Tryd.pinned (OpenSpec.ofChange Rows.logCutsSpec):=
 OpenClaim.holds_of_wide 5 Tryd.f5 rfl rfl rfl rfl rfl rfl rfl ⟨rfl,rfl,rfl,rfl,rfl⟩ rfl rfl rfl rfl rfl named Tryd.func5 closed
  (of_decide_eq_true (by kernel_rfl)) (by unfold Func.isWrapper;first | (rw[if_pos (by decide +kernel)];kernel_rfl) | (rw[if_neg (by decide +kernel)];exact⟨rfl,rfl⟩))
  (fun os started H enc _=>lifted os started H enc)
theorem proved:Rows.LogCutsCardSaid:=
 Claim7.holds_tied_plain_at .later [] [.data] true (true, "66f16b3014a155823b94ff72247b964734243cc4e4568c357d48bd6f49b717fc") false
  over (fun _ h=>by cases h) cw (fun _ h=>by cases h) logCuts_row_tie rfl ⟨rfl,rfl⟩ cm rfl
  (fun f fn hf hfn=>by
   obtain rfl:f=5:=Option.some.inj (named.symm.trans hf) |>.symm
   obtain rfl:fn=Tryd.f5:=(Option.some.inj (Tryd.func5.symm.trans hfn)).symm
   exact⟨cl,fun j t ht=>by
    have hm:t ∈ Tryd.f5.params.toList:=by simpa using Array.mem_of_getElem? ht
    have hall:(Tryd.f5.params.toList.all fun u=>!Tryd.prog.wantsStandIn u)=true:=by kernel_rfl
    exact(show Tryd.prog.wantsStandIn t=false by simpa using List.all_eq_true.1 hall t hm)⟩)
  cg
#print axioms proved
end Go.Proofs.YtabebpemfinejaaDoor.draft
