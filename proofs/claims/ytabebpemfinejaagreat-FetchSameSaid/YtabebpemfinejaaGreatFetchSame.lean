/-
  'FetchSame' holds: whatever the arguments, the law answers true, and its arguments read as they did. No condition.
-/
import Derived.Test.YtabebpemfinejaaGreatRows
import Derived.Test.YtabebpemfinejaaGreatG7
set_option linter.unusedVariables false
namespace Go.Proofs.YtabebpemfinejaaGreat.draft
open Go.ChangeShapes Go.WideShapes Go.ChangeAt Go.RowKit Go.Am
theorem livesRun:okT (callS Tryz.prog crc.takeS 100000 60 27 [] (heapA Tryz.prog fun _=>none))=true:=by kernel_rfl
theorem sums:CallSnd Tryz.prog S0:=orS_snd (sumT_snd crc.takeS_snd (okT_some livesRun)) crc.takeS_snd
def blk1:List V→Nat
 | [.blk B]=>B
 | _=>0
theorem blks_of {P:Program} {a:Nat→Option Am.Obj} {u:V} (h:FitsV a (.slice 64 .blk) u):∃ lp lc L,u=.slice lp (List.length L) lc 0∧BlksIn (heapA P a) lp L∧∀ x ∈ L,x < 256 ^ 64:=by
 obtain⟨C,hf,hu⟩:=h
 rcases hf with rfl | ⟨b,len,rows,rfl,hb,hl,_,hr⟩
 ·cases hu
  exact⟨none,0,[],rfl,fun e=>absurd rfl e,fun x hx=>by cases hx⟩
 ·cases hu
  refine⟨some ⟨.arg b,0⟩,rows.length,(rows.take len).map blk1,by simp[Nat.min_eq_left hl],fun _=>⟨b,rows,rfl,hb,fun i hi=>?_⟩,fun x hx=>?_⟩
  ·simp only[List.length_map,List.length_take] at hi
   have hi':i < rows.length:=by omega
   rw[List.getElem?_eq_getElem hi']
   obtain⟨B,_,e1⟩:=hr _ (List.getElem_mem hi')
   simp[e1,blk1]
  ·simp only[List.mem_map] at hx
   obtain⟨r,hr',rfl⟩:=hx
   obtain⟨B,hB,e1⟩:=hr r (List.mem_of_mem_take hr')
   rw[e1]
   exact hB
theorem own:ownKnob Tryz.prog.godebug=none:=by kernel_rfl
theorem laidOut:laidOutB Tryz.prog=true:=by kernel_rfl
theorem shape:shAll Tryz.prog 8 Tryz.f4.params.toList=some [(.int .u8),(.slice 64 .blk),(.int .u8),(.int .u8)]:=by kernel_rfl
theorem ups (K:Nat) (a:Nat→Option Am.Obj) (us:List V) (h:FitsAll a [(.int .u8),(.slice 64 .blk),(.int .u8),(.int .u8)] us):∃ G1,U 100000 K 14 4 us (heapA Tryz.prog a)=some (.v (.bool true),G1)∧QOk G1:=by
 obtain⟨u0,us0,rfl,h0,u1,us1,rfl,h1,u2,us2,rfl,h2,u3,us3,rfl,h3,rfl⟩:=h
 obtain⟨u,hu,rfl⟩:=disk.u8_of h0
 obtain⟨lp,lc,L,rfl,hL,hs⟩:=blks_of (P:=Tryz.prog) h1
 obtain⟨st,hst,rfl⟩:=disk.u8_of h2
 obtain⟨dd,hdd,rfl⟩:=disk.u8_of h3
 obtain⟨v,G1,e,rfl,hq⟩:=fetchsame_run (lf:=100000) (K:=K) (by decide) (heapA Tryz.prog a) hu hst hdd hL hs 0
 exact⟨G1,e,hq (by intro p hp;cases hp)⟩
theorem runs:∃ S,CallSnd Tryz.prog S∧∀(a:Nat→Option Am.Obj) (us:List V),FitsAll a [(.int .u8),(.slice 64 .blk),(.int .u8),(.int .u8)] us→∃ lf n H1,callS Tryz.prog S lf n 4 us (heapA Tryz.prog a)=some (.v (.bool true),H1)∧QOk H1:=by
 obtain⟨K,S,hS,hu⟩:=up_low (lf:=100000) (by decide) sums 14
 refine⟨S,hS,fun a us h=>?_⟩
 obtain⟨H1,e,hq⟩:=veiled_run hu (fun a us h=>ups K a us h) a us h
 exact⟨100000,14,H1,e,hq⟩
set_option maxRecDepth 100000 in
theorem lifted (os:Os) (started:os.Started) (H:Type) (enc:TypeId × Value→H) :
  ReturnsInHanded {} Tryz.checked os 4 .any (Rows.fetchSameSpec.pre6 enc Tryz.prog Tryz.f4 Rows.fetchSameRow.domain false) (Rows.fetchSameSpec.post enc Tryz.prog Tryz.f4 false true false false):=by
 refine returnsInHanded_of_change (C:=Tryz.checked) own started (by kernel_rfl) Tryz.func4
  (ChangeSpec.witness6 (enc:=enc) (C:=Tryz.checked) false ⟨#[],#[.int .u8 0,.slice none 0 0,.int .u8 0,.int .u8 0],[]⟩ 8 (by kernel_rfl) (by kernel_rfl) (by kernel_rfl) (by kernel_rfl)) ?_
 intro W base args ds gs before hval hW _ _
 obtain⟨S,hS,hr⟩:=runs
 refine laws_runS (P:=Tryz.prog) (S:=S) hS (f:=Tryz.f4) (d:=8) (tb:=4) (s:=Rows.fetchSameSpec) laidOut shape (by kernel_rfl) rfl (by kernel_rfl) (by kernel_rfl) ?_ hr hval hW
 intro ds hl
 have hl:ds.length=4:=hl.trans (by kernel_rfl)
 match ds,hl with
 | [_,_,_,_],_=>rfl
theorem over:Rows.fetchSameRow.holds Tryz.pinned (OpenSpec.ofChange Rows.fetchSameSpec):=
 OpenClaim.holds_of_wide 4 Tryz.f4 rfl rfl rfl rfl rfl rfl rfl ⟨rfl,rfl,rfl,rfl,rfl⟩ rfl rfl rfl rfl rfl (by kernel_rfl) Tryz.func4 (by kernel_rfl)
  (of_decide_eq_true (by kernel_rfl)) (by unfold Func.isWrapper;first | (rw[if_pos (by decide +kernel)];kernel_rfl) | (rw[if_neg (by decide +kernel)];exact⟨rfl,rfl⟩))
  (fun os started H enc _=>lifted os started H enc)
theorem proved:Rows.FetchSameSaid:=over
#print axioms proved
end Go.Proofs.YtabebpemfinejaaGreat.draft
