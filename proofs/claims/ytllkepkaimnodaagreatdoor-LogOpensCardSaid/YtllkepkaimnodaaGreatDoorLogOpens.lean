/-
  'LogOpens' holds: whatever the arguments, the law answers true, and its arguments read as they did. No condition but the card: mark.sizes holds what the program lays in it.
-/
import Derived.Test.YtllkepkaimnodaaGreatDoorCards
import Derived.Test.YtllkepkaimnodaaGreatDoorTie
import Derived.SevenTiedAt
import Derived.LaidMore
import Derived.Stop.Joined
import Derived.Test.YtllkepkaimnodaaGreatDoorG8
import Derived.Test.YtllkepkaimnodaaGreatDoorG9
set_option linter.unusedVariables false
namespace Go.Proofs.YtllkepkaimnodaaGreatDoor.draft
open Go.ChangeShapes Go.WideShapes Go.ChangeAt Go.RowKit Go.Am
theorem livesRun:okT (callS Tryz.prog crc.takeS 100000 60 14 [] (heapB Tryz.prog (m1 0 [8,2,8,8]) fun _=>none))=true:=by kernel_rfl
theorem sums:CallSnd Tryz.prog S0:=orS_snd (sumG_snd crc.takeS_snd (by decide +kernel) (by decide) (okT_some livesRun)) crc.takeS_snd
theorem own:ownKnob Tryz.prog.godebug=none:=by kernel_rfl
theorem shape:shAll Tryz.prog 8 Tryz.f3.params.toList=some [(.int .u16),(.slice 75 spotSh)]:=by kernel_rfl
theorem ups (K:Nat) (a:Nat→Option Am.Obj) (us:List V) (h:FitsAll a [(.int .u16),(.slice 75 spotSh)] us):∃ G1,U 100000 K 9 3 us (heapB Tryz.prog (m1 0 [8,2,8,8]) a)=some (.v (.bool true),G1)∧QOk G1:=by
 have hH:∀ n,(heapB Tryz.prog (m1 0 [8,2,8,8]) a).get (.arg n)=a n:=fun n=>rfl
 have hgl:(heapB Tryz.prog (m1 0 [8,2,8,8]) a).get (.run 0)=some (.rows true 4 (intsR [8,2,8,8])):=by kernel_rfl
 have h00:0 < (heapB Tryz.prog (m1 0 [8,2,8,8]) a).next:=by
  show 0 < Tryz.prog.globals.size
  decide +kernel
 obtain⟨u0,us0,rfl,h0,u1,us1,rfl,h1,rfl⟩:=h
 obtain⟨m,hm,rfl⟩:=u16_of h0
 obtain⟨p,lc,L,rfl,hL⟩:=spots_of hH h1
 obtain⟨v,G1,e,rfl,ht⟩:=logopens_run (lf:=100000) (K:=K) (by decide) (heapB Tryz.prog (m1 0 [8,2,8,8]) a) hgl h00 hm hL (pc:=lc) (po:=0) 0
 exact⟨G1,e,ht.q (by intro p hp;cases hp)⟩
theorem runs:∃ S,CallSnd Tryz.prog S∧∀(a:Nat→Option Am.Obj) (us:List V),FitsAll a [(.int .u16),(.slice 75 spotSh)] us→∃ lf n H1,callS Tryz.prog S lf n 3 us (heapB Tryz.prog (m1 0 [8,2,8,8]) a)=some (.v (.bool true),H1)∧QOk H1:=by
 obtain⟨K,S,hS,hu⟩:=up_low (lf:=100000) (by decide) sums crc.takeS_snd 9
 refine⟨S,hS,fun a us h=>?_⟩
 obtain⟨H1,e,hq⟩:=veiled_runG (by decide +kernel) hu (fun a us h=>ups K a us h) a us h
 exact⟨100000,9,H1,e,hq⟩
abbrev lst : List (String × DataW Unit) := [("ashlar/mark.sizes", Rows.laid_ashlar_mark_sizes)]
theorem door_met (os:Os) (args:Array Value):laidMetH Tryz.prog lst ((World.doorLaid Tryz.prog 14 os).forCall (fun _ _=>0) ⟨#[],args,[]⟩).memory:=
 laidMetH_of_parts3 (fuel:=8) (laidMet_of_run' 8 (by kernel_rfl) (by kernel_rfl)) (by kernel_rfl) (by kernel_rfl)
theorem holdsG {w:World} (h:laidMetH Tryz.prog lst w):Holds Tryz.prog 0 [8,2,8,8] w:=by
 rw[MakeChecks.laidMetH_plain _ _ _ (by kernel_rfl)] at h
 exact holds_of_laid (P := Tryz.prog) (name := "ashlar/mark.sizes") (l := [8, 2, 8, 8]) (t := 200) (e := 3) (by kernel_rfl) (by decide +kernel) (by kernel_rfl) (by kernel_rfl) (by kernel_rfl) (by kernel_rfl) (by decide) h
set_option maxRecDepth 100000 in
theorem lifted (os:Os) (started:os.Started) (H:Type) (enc:TypeId × Value→H) :
  ReturnsInHanded {} Tryz.checked os 3 .any (fun w args=>(Rows.logOpensSpec.pre enc Tryz.prog Tryz.f3 [] false w args∧laidMetH Tryz.prog lst w)∧sizedMet enc Tryz.prog Tryz.f3 (OpenSpec.ofChange Rows.logOpensSpec) false w args)
   (Rows.logOpensSpec.post enc Tryz.prog Tryz.f3 false true false false):=by
 refine returnsInHanded_of_change_and (C:=Tryz.checked) (X:=fun w _=>laidMetH Tryz.prog lst w) (fun _ _ _ hh h=>h.of_heap hh) own started (by kernel_rfl) Tryz.func3
  (ChangeSpec.witness_shaped (enc:=enc) (C:=Tryz.checked) (os:=os) (X:=fun w _=>laidMetH Tryz.prog lst w) false (World.doorLaid Tryz.prog 14 os) #[.int .u16 0,.slice none 0 0] 8 rfl (World.shaped_of_RefB (by kernel_rfl) (by kernel_rfl)) (by kernel_rfl) (by kernel_rfl) (by kernel_rfl) (door_met os _)) ?_
 intro W base args ds gs before hval hW _ _ hL _
 obtain⟨S,hS,hr⟩:=runs
 refine laws_runG (P:=Tryz.prog) (S:=S) hS (f:=Tryz.f3) (d:=8) (tb:=4) (s:=Rows.logOpensSpec) k2 shape (by kernel_rfl) rfl (by kernel_rfl) (by kernel_rfl) ?_ hr (holdsG hL) hval hW
 intro ds hl
 have hl:ds.length=2:=hl.trans (by kernel_rfl)
 match ds,hl with
 | [_,_],_=>rfl
theorem over:Rows.logOpensRow.holds Tryz.pinned (OpenSpec.ofChange Rows.logOpensSpec):=
 OpenClaim.holds_of_wide 3 Tryz.f3 rfl rfl rfl rfl rfl rfl rfl ⟨rfl,rfl,rfl,rfl,rfl⟩ rfl rfl rfl rfl rfl named Tryz.func3 closed
  (of_decide_eq_true (by kernel_rfl)) (by unfold Func.isWrapper;first | (rw[if_pos (by decide +kernel)];kernel_rfl) | (rw[if_neg (by decide +kernel)];exact⟨rfl,rfl⟩))
  (fun os started H enc _=>lifted os started H enc)
theorem proved:Rows.LogOpensCardSaid:=
 Claim7.holds_tied_plain_at .later [] [.data] true (true, "d04c5b8543e815cd05dbfc82ec21e25c50a5acff94ec369ee503afe5844c0562") false
  over (fun _ h=>by cases h) cw (fun _ h=>by cases h) logOpens_row_tie rfl ⟨rfl,rfl⟩ cm rfl
  (fun f fn hf hfn=>by
   obtain rfl:f=3:=Option.some.inj (named.symm.trans hf) |>.symm
   obtain rfl:fn=Tryz.f3:=(Option.some.inj (Tryz.func3.symm.trans hfn)).symm
   exact⟨cl,fun j t ht=>by
    have hm:t ∈ Tryz.f3.params.toList:=by simpa using Array.mem_of_getElem? ht
    have hall:(Tryz.f3.params.toList.all fun u=>!Tryz.prog.wantsStandIn u)=true:=by kernel_rfl
    exact(show Tryz.prog.wantsStandIn t=false by simpa using List.all_eq_true.1 hall t hm)⟩)
  cg
#print axioms proved
end Go.Proofs.YtllkepkaimnodaaGreatDoor.draft
