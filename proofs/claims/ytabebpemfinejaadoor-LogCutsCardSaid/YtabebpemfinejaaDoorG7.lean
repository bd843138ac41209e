import Derived.Test.YtabebpemfinejaaDoorG5
import Derived.Test.YtabebpemfinejaaDoorG6
import Derived.Test.YtabebpemfinejaaDoorG4
set_option linter.unusedVariables false
set_option linter.unusedSectionVars false
set_option linter.unusedSimpArgs false
set_option maxRecDepth 10000
open Nat renaming reduceEqDiff → zA, reduceLeDiff → zB, reduceSub → zC, reduceMul → zD, reduceMod → zE, reduceDiv → zF, reduceAdd → zG
open Int renaming reduceBEq → zH
namespace Go.Proofs.YtabebpemfinejaaDoor.draft
open Go.Am
open disk (bx Fit A1 R1 Low Bn)
def devA (S:List Nat) (L:List (Nat × Nat)) (st a:Nat):Bn:=⟨[⟨S,L,false⟩],(st:Int),(a:Int),false⟩
def devD (S:List Nat) (L:List (Nat × Nat)) (st:Nat):Bn:=⟨[⟨S,L,false⟩],(st:Int),1,true⟩
theorem devA_rc (S:List Nat) (L:List (Nat × Nat)) (st a:Nat) {n:Nat} (hn:n < S.length):(devA S L st a).rc 0 (n:Int)=0:=by
 unfold disk.Bn.rc
 have hl:(devA S L st a).lc 0=0:=rfl
 rw[if_pos hl]
 exact disk.code_ok (D:=⟨S,L,false⟩) (by show ¬ ((n:Int) < 0∨(S.length:Int)≤(n:Int));omega) rfl
theorem devA_step {S:List Nat} {L:List (Nat × Nat)} {st a:Nat} (hS:S≠[]) {s:Stp} (hI:∀ m x,s=.wr m x→m < S.length) :
  (a=1→stepC (devA S L st a) s=8∧stepB (devA S L st a) s=devD S L st) ∧
  (2≤a→stepC (devA S L st a) s=0∧stepB (devA S L st a) s=devA (stD (S,L) s).1 (stD (S,L) s).2 (st+1) (a - 1)):=by
 have hp:0 < S.length:=List.length_pos_iff.2 hS
 have less:2≤a→disk.arLess (a:Int)=((a - 1:Nat):Int):=fun h=>by
  unfold disk.arLess
  rw[if_neg (by omega)];omega
 have hd:(devA S L st a).dev 0=⟨S,L,false⟩:=rfl
 have har:(devA S L st a).ar=(a:Int):=rfl
 have stp:∀ D:disk.Dev,(a=1→(devA S L st a).step 0 D=devD S L st)∧(2≤a→(devA S L st a).step 0 D=⟨[D],((st+1:Nat):Int),((a - 1:Nat):Int),false⟩):=fun D=>by
  unfold disk.Bn.step
  rw[har]
  constructor
  ·intro h;subst h;rfl
  ·intro h
   rw[if_neg (by omega),less h];rfl
 have sc:(a=1→(devA S L st a).sc=8)∧(2≤a→(devA S L st a).sc=0):=by
  unfold disk.Bn.sc
  rw[har]
  exact⟨fun h=>if_pos (by omega),fun h=>if_neg (by omega)⟩
 cases s with
 | wr n x=>
  have hn:=hI n x rfl
  have h:=devA_rc S L st a hn
  have hc:disk.code ⟨S,L,false⟩ (n:Int)=0:=disk.code_ok (D:=⟨S,L,false⟩) (by show ¬ ((n:Int) < 0∨(S.length:Int)≤(n:Int));omega) rfl
  have e1:stepC (devA S L st a) (.wr n x)=(devA S L st a).sc:=by
   show disk.Bn.wc _ _ _=_
   unfold disk.Bn.wc
   rw[if_pos h]
  have hw:disk.Dev.write ⟨S,L,false⟩ (n:Int) x=⟨S,L++[(n,x)],false⟩:=by
   unfold disk.Dev.write
   rw[if_pos hc];rfl
  have e2:stepB (devA S L st a) (.wr n x)=(devA S L st a).step 0 ⟨S,L++[(n,x)],false⟩:=by
   show disk.Bn.write _ _ _ _=_
   unfold disk.Bn.write
   rw[if_pos h,hd,hw]
  rw[e1,e2]
  exact⟨fun h=>⟨sc.1 h,(stp _).1 h⟩,fun h=>⟨sc.2 h,(stp _).2 h⟩⟩
 | fl=>
  have h:(devA S L st a).rc 0 0=0:=devA_rc S L st a (n:=0) hp
  have e1:stepC (devA S L st a) .fl=(devA S L st a).sc:=by
   show disk.Bn.wc _ _ _=_
   unfold disk.Bn.wc
   rw[if_pos h]
  have e2:stepB (devA S L st a) .fl=(devA S L st a).step 0 ⟨disk.flushS S L,[],false⟩:=by
   show disk.Bn.flush _ _=_
   unfold disk.Bn.flush
   rw[if_pos h,hd];rfl
  rw[e1,e2]
  exact⟨fun h=>⟨sc.1 h,(stp _).1 h⟩,fun h=>⟨sc.2 h,(stp _).2 h⟩⟩
theorem stD_len (S:List Nat) (L:List (Nat × Nat)) (s:Stp):(stD (S,L) s).1.length=S.length:=by
 cases s with
 | wr n v=>rfl
 | fl=>exact disk.flushS_length _ _
theorem arm_run:∀(l:List Stp) {S:List Nat} {L:List (Nat × Nat)} {st a:Nat},S≠[]→Inside S.length l→1≤a →
  (l.length < a→doneC (devA S L st a) l=0∧doneB (devA S L st a) l=devA (stepsD (S,L) l).1 (stepsD (S,L) l).2 (st+l.length) (a - l.length)) ∧
  (a≤l.length→doneC (devA S L st a) l=8∧doneB (devA S L st a) l=devD (stepsD (S,L) (l.take (a - 1))).1 (stepsD (S,L) (l.take (a - 1))).2 (st+(a - 1)))
 | [],S,L,st,a,hS,hI,ha=>⟨fun _=>⟨rfl,rfl⟩,fun h=>absurd h (by simp;omega)⟩
 | s::l,S,L,st,a,hS,hI,ha=>by
  obtain⟨h1,h2⟩:=devA_step (st:=st) (a:=a) (L:=L) hS (s:=s) (fun m x e=>hI s (List.mem_cons_self ..) m x e)
  by_cases e:a=1
  ·obtain⟨c1,c2⟩:=h1 e
   have c8:¬ (stepC (devA S L st a) s=0):=by rw[c1];decide
   refine⟨fun h=>absurd h (by rw[e,List.length_cons];omega),fun _=>?_⟩
   unfold doneC doneB
   rw[if_neg c8,if_neg c8,c1,c2,e]
   exact⟨rfl,rfl⟩
  ·obtain⟨c1,c2⟩:=h2 (by omega)
   have hl:=stD_len S L s
   have hS':(stD (S,L) s).1≠[]:=fun e=>hS (List.length_eq_zero_iff.1 (by rw[← hl,e];rfl))
   obtain⟨i1,i2⟩:=arm_run l (S:=(stD (S,L) s).1) (L:=(stD (S,L) s).2) (st:=st+1) (a:=a - 1) hS' (fun s' hs=>by rw[hl];exact hI s' (List.mem_cons_of_mem _ hs)) (by omega)
   have eD:∀ k,stepsD (S,L) (s::k)=stepsD ((stD (S,L) s).1,(stD (S,L) s).2) k:=fun k=>rfl
   unfold doneC doneB
   rw[if_pos c1,if_pos c1,c2,eD]
   refine⟨fun h=>?_,fun h=>?_⟩
   ·rw[List.length_cons] at h
    obtain⟨j1,j2⟩:=i1 (by omega)
    rw[j1,j2,List.length_cons,show st+1+l.length=st+(l.length+1) by omega,show a - 1 - l.length=a - (l.length+1) by omega]
    exact⟨rfl,rfl⟩
   ·rw[List.length_cons] at h
    obtain⟨j1,j2⟩:=i2 (by omega)
    rw[j1,j2]
    have et:(s::l).take (a - 1)=s::l.take (a - 1 - 1):=by
     obtain⟨k,hk⟩:∃ k,a - 1=k+1:=⟨a - 2,by omega⟩
     rw[hk,List.take_succ_cons,Nat.add_sub_cancel]
    rw[et,eD,show st+1+(a - 1 - 1)=st+(a - 1) by omega]
    exact⟨rfl,rfl⟩
theorem devA_rm {S:List Nat} {st k a:Nat} (hS:S≠[]) (hl:S.length≤512) (hk:k≤900) (hst:st+k≤100000) (ha:a≤100000):Rm k (devA S [] st a):=by
 refine⟨(by intro e;cases e),Nat.le_of_ble_eq_true rfl,fun D hD=>?_,⟨by show (0:Int)≤(a:Int);omega,by show (a:Int)≤_;omega⟩,⟨by show (0:Int)≤(st:Int);omega,by show (st:Int)+_≤_;omega⟩⟩
 rw[show (devA S [] st a).l=[⟨S,[],false⟩] from rfl,List.mem_singleton] at hD
 subst hD
 exact⟨hS,fun w hw=>absurd hw (by simp),hl,by simpa using hk⟩
theorem crash_dev (S:List Nat) (L:List (Nat × Nat)) (st:Nat) (P:List Int):(devD S L st).crash P=devB (disk.crashS S (L.zip P)) [] st∧∀ a,(devA S L st a).crash P=devB (disk.crashS S (L.zip P)) [] st:=⟨rfl,fun a=>rfl⟩
theorem arm_dev (S:List Nat) (st a:Nat):(devB S [] st).ac (a:Int)=0∧(devB S [] st).arm (a:Int)=devA S [] st a:=by
 have h:(devB S [] st).ac (a:Int)=0:=by
  unfold disk.Bn.ac
  rw[if_neg (by show ¬ (false=true);decide),if_neg (by omega)]
 refine⟨h,?_⟩
 unfold disk.Bn.arm
 rw[if_pos h];rfl
end Go.Proofs.YtabebpemfinejaaDoor.draft
namespace Go.Proofs.YtabebpemfinejaaDoor.draft
open Go.Am
noncomputable def c48:CFn:=⟨[.tmp (pp 4),.cell (pp 5) 4 .ag,.tmp (pp 6)],
 .seq (.reg [
 qo 2 (.m (boxF 64 (tt 0))) [pp 0],
 qo 3 (.m (boxF 64 (tt 1))) [pp 1],
 qo 4 (.p (S.get (.c (.int .u64 0)))) [],
 qo 5 (.m (allocF 4 [.int .u64 0,.int .i64 0,.int .u64 0,.int .u64 0])) [],
 qo 6 (.p (S.get (ii 0))) []]) (
 .seq (.reg [
 qo 14 (.r (loadF (tt 2) 64 .bk)) [pp 2],
 qo 15 (.c (callF (ff 75) [(tt 14)])) [pp 14],
 mv 13 15,
 qo 16 (.p (extF (tt 13) 0)) [pp 13],
 qo 17 (.p (extF (tt 13) 1)) [pp 13],
 qo 18 (.p (extF (tt 13) 2)) [pp 13],
 qo 8 (.m (allocF 4 [.int .u64 0,.int .i64 0,.int .u64 0,.int .u64 0])) [],
 mv 7 16,
 qn (.a (storeF (tt 8) (tt 17) 4)) [pp 8,pp 17],
 mv 9 18]) (
 .seq (.reg [
 qo 20 (.r (loadF (tt 3) 64 .bk)) [pp 3],
 qo 21 (.c (callF (ff 75) [(tt 20)])) [pp 20],
 mv 19 21,
 qo 22 (.p (extF (tt 19) 0)) [pp 19],
 qo 23 (.p (extF (tt 19) 1)) [pp 19],
 qo 24 (.p (extF (tt 19) 2)) [pp 19],
 qo 11 (.m (allocF 4 [.int .u64 0,.int .i64 0,.int .u64 0,.int .u64 0])) [],
 mv 10 22,
 qn (.a (storeF (tt 11) (tt 23) 4)) [pp 11,pp 23],
 mv 12 24]) (
 .seq (.block 0 (.seq (.reg [
 mv 26 9,
 qo 27 (.p (eqcF true false [.int .i64] (tt 26) (ii 0))) [pp 26],
 mv 28 27,
 mg 29 12 28 true,
 qg 30 (.p (eqcF true false [.int .i64] (tt 29) (ii 0))) 28 true [pp 29],
 qo 31 (.p (pickF (tt 28) (tt 30) (.c (.bool false)))) [pp 28,pp 30],
 mv 25 31]) (
 .cond (tt 25) (.seq (.reg [
 qo 32 (.p (buildF [.int .u64 0,.int .i64 0,.int .u64 0,.int .u64 0] .ag [])) [],
 qo 4 (.p (S.get (.c (.int .u64 0)))) [],
 qn (.a (storeF (tt 5) (tt 32) 4)) [pp 5,pp 32],
 qo 6 (.p (S.get (ii 7))) []]) (
 .ret)) (.seq (.seq (.reg [
 mv 34 9,
 qo 35 (.p (eqcF true false [.int .i64] (tt 34) (ii 0))) [pp 34],
 mv 33 35]) (
 .cond (tt 33) (.skip) (.reg [
 mv 36 12,
 qo 37 (.p (eqcF false false [.int .i64] (tt 36) (ii 0))) [pp 36],
 mv 38 37,
 mg 39 10 38 true,
 mg 40 7 38 true,
 qg 41 (.p (arF .gtr (tt 39) (tt 40))) 38 true [pp 39,pp 40],
 qo 42 (.p (pickF (tt 38) (tt 41) (.c (.bool false)))) [pp 38,pp 41],
 mv 33 42]))) (
 .cond (tt 33) (.seq (.regD [
 mv 43 10,
 qo 44 (.r (loadF (tt 11) 4 .ag)) [pp 11],
 mv 4 43,
 qn (.a (storeF (tt 5) (tt 44) 4)) [pp 5,pp 44],
 qo 6 (.p (S.get (ii 0))) []] [0,0,1,7,15]) (
 .ret)) (.skip)))))) (
 .seq (.regD [
 mv 45 7,
 qo 46 (.r (loadF (tt 8) 4 .ag)) [pp 8],
 mv 4 45,
 qn (.a (storeF (tt 5) (tt 46) 4)) [pp 5,pp 46],
 qo 6 (.p (S.get (ii 0))) []] [0,0,1,7,15]) (
 .ret)))))⟩
theorem c48_eq:fnOf Tryd.prog 48=some c48:=by kernel_rfl
noncomputable def newM (A B:Nat):Option Nat:=match markOk A,markOk B with
 | false,false=>none
 | false,true=>some B
 | true,false=>some A
 | true,true=>if sealN A < sealN B then some B else some A
section
variable {lf K:Nat} (hlf:1000 < lf)
include hlf
theorem umgetE {G:Heap} (hgl:G.get (.run 0)=some (.rows true 4 (intsR [8,2,8,8]))) (h00:0 < G.next) (B:Nat) (n:Nat):∃(G':Heap) (s:Nat) (M:Mk) (e:Int),U lf K (n+6) 75 [.blk B] G=some (.v (.tuple [.int .u64 (s:Int),.agg M.V,.int .i64 e]),G')∧Turns Z G G'∧((markOk B=true∧s=sealN B∧M=mkG B∧e=0)∨(markOk B=false∧e≠0)):=by
 obtain⟨v,G',e,t,⟨h1,rfl⟩ | ⟨h1,E,h2,rfl⟩⟩:=umget hlf hgl h00 B (K:=K) n
 ·exact⟨G',_,_,_,e,t,.inl ⟨h1,rfl,rfl,rfl⟩⟩
 ·exact⟨G',0,⟨0,0,0,0⟩,E,e,t,.inr ⟨h1,h2⟩⟩
theorem umnewest {G:Heap} (hgl:G.get (.run 0)=some (.rows true 4 (intsR [8,2,8,8]))) (h00:0 < G.next) (A B:Nat) (n:Nat):ret (U lf K (n+7) 48 [.blk A,.blk B] G) fun v G'=>Turns Z G G'∧((newM A B=none∧v=.tuple [.int .u64 0,.agg (mkV 0 0 0 0),.int .i64 7])∨∃ X,newM A B=some X∧v=.tuple [.int .u64 (sealN X:Int),.agg (mkG X).V,.int .i64 0]):=by
 obtain⟨Z4,hZ4⟩:∃ x:List V,x=[.int .u64 0,.int .i64 0,.int .u64 0,.int .u64 0]:=⟨_,rfl⟩
 have wZ:width Z4=4:=by rw[hZ4];rfl
 have cZ:cut Z4 0 4=some Z4:=by rw[hZ4];rfl
 have pZ:put Z4 0 Z4=some Z4:=by rw[hZ4];rfl
 have wM:∀ M:Mk,width M.V=4:=fun M=>rfl
 have cM:∀ M:Mk,cut M.V 0 4=some M.V:=fun M=>rfl
 have pM:∀ M:Mk,put Z4 0 M.V=some M.V:=fun M=>by rw[hZ4];rfl
 have hM0:mkV 0 0 0 0=Z4:=hZ4.symm
 rw[hM0]
 have t1:Turns Z G (((G.add (.rows false 64 [[.blk A]])).add (.rows false 64 [[.blk B]])).add (.rows false 4 [Z4])):=by repeat (first | exact Turns.refl _ _ | apply Turns.skip | apply Turns.addm | apply Turns.setb | apply Turns.setl | apply Turns.setr | refine Turns.setn ?_ _ (by omega) _ | refine Turns.trans ?_ (tF _))
 have ha1:(((G.add (.rows false 64 [[.blk A]])).add (.rows false 64 [[.blk B]])).add (.rows false 4 [Z4])).get (.run G.next)=some (.rows false 64 [[.blk A]]):=by rw[Heap.get_add,if_neg (run_ne (by show G.next≠G.next+1+1;omega)),Heap.get_add,if_neg (run_ne (by simp)),Heap.get_add,if_pos rfl]
 have hb1:(((G.add (.rows false 64 [[.blk A]])).add (.rows false 64 [[.blk B]])).add (.rows false 4 [Z4])).get (.run (G.next+1))=some (.rows false 64 [[.blk B]]):=by rw[Heap.get_add,if_neg (run_ne (by simp)),Heap.get_add,if_pos (by simp)]
 have hr1:(((G.add (.rows false 64 [[.blk A]])).add (.rows false 64 [[.blk B]])).add (.rows false 4 [Z4])).get (.run (G.next+1+1))=some (.rows false 4 [Z4]):=by rw[Heap.get_add,if_pos (by simp)]
 obtain⟨G1,hG1⟩:∃ G1,((G.add (.rows false 64 [[.blk A]])).add (.rows false 64 [[.blk B]])).add (.rows false 4 [Z4])=G1:=⟨_,rfl⟩
 have n1:G1.next=G.next+1+1+1:=by rw[← hG1];rfl
 rw[hG1] at t1 ha1 hb1 hr1
 have hg1:=(t1.same (.run 0) h00 (fun h=>h)).trans hgl
 obtain⟨G2,s1,M1,e1,c1,t2,h1⟩:=umgetE hlf hg1 (by omega) A (K:=K) n
 have nn2:=t2.next
 have t3:Turns Z G2 ((G2.add (.rows false 4 [Z4])).set (.run G2.next) (.rows false 4 [M1.V])):=by repeat (first | exact Turns.refl _ _ | apply Turns.skip | apply Turns.addm | apply Turns.setb | apply Turns.setl | apply Turns.setr | refine Turns.setn ?_ _ (by omega) _ | refine Turns.trans ?_ (tF _))
 have h3:((G2.add (.rows false 4 [Z4])).set (.run G2.next) (.rows false 4 [M1.V])).get (.run G2.next)=some (.rows false 4 [M1.V]):=by rw[Heap.get_set,if_pos rfl]
 obtain⟨G3,hG3⟩:∃ G3,(G2.add (.rows false 4 [Z4])).set (.run G2.next) (.rows false 4 [M1.V])=G3:=⟨_,rfl⟩
 have nn3:G3.next=G2.next+1:=by rw[← hG3];rfl
 rw[hG3] at t3 h3
 have hg3:=((t2.trans t3).same (.run 0) (by show _ < _;omega) (fun h=>h)).trans hg1
 have hb3:=((t2.trans t3).same (.run (G.next+1)) (by show _ < _;omega) (fun h=>h)).trans hb1
 have hr3:=((t2.trans t3).same (.run (G.next+1+1)) (by show _ < _;omega) (fun h=>h)).trans hr1
 obtain⟨G4,s2,M2,e2,c2,t4,h2⟩:=umgetE hlf hg3 (by omega) B (K:=K) n
 have nn4:=t4.next
 have t5:Turns Z G4 ((G4.add (.rows false 4 [Z4])).set (.run G4.next) (.rows false 4 [M2.V])):=by repeat (first | exact Turns.refl _ _ | apply Turns.skip | apply Turns.addm | apply Turns.setb | apply Turns.setl | apply Turns.setr | refine Turns.setn ?_ _ (by omega) _ | refine Turns.trans ?_ (tF _))
 have h5:((G4.add (.rows false 4 [Z4])).set (.run G4.next) (.rows false 4 [M2.V])).get (.run G4.next)=some (.rows false 4 [M2.V]):=by rw[Heap.get_set,if_pos rfl]
 obtain⟨G5,hG5⟩:∃ G5,(G4.add (.rows false 4 [Z4])).set (.run G4.next) (.rows false 4 [M2.V])=G5:=⟨_,rfl⟩
 have nn5:G5.next=G4.next+1:=by rw[← hG5];rfl
 rw[hG5] at t5 h5
 have hr5:=((t4.trans t5).same (.run (G.next+1+1)) (by show _ < _;omega) (fun h=>h)).trans hr3
 have h35:=((t4.trans t5).same (.run G2.next) (by show _ < _;omega) (fun h=>h)).trans h3
 have tF:=(((t1.trans t2).trans t3).trans t4).trans t5
 have b00:((0:Int)==0)=true:=rfl
 refine ret_callU rfl rfl c48_eq ?_
 obtain⟨z1,hz1,k1⟩:∃ z,(e1==0)=z∧(z=markOk A∧(z=true→s1=sealN A∧M1=mkG A)):=⟨_,rfl,by
  rcases h1 with ⟨a,b,c,d⟩ | ⟨a,b⟩
  ·rw[d,a];exact⟨rfl,fun _=>⟨b,c⟩⟩
  ·rw[a,beq_eq_false_iff_ne.2 b];exact⟨rfl,fun h=>by cases h⟩⟩
 obtain⟨z2,hz2,k2⟩:∃ z,(e2==0)=z∧(z=markOk B∧(z=true→s2=sealN B∧M2=mkG B)):=⟨_,rfl,by
  rcases h2 with ⟨a,b,c,d⟩ | ⟨a,b⟩
  ·rw[d,a];exact⟨rfl,fun _=>⟨b,c⟩⟩
  ·rw[a,beq_eq_false_iff_ne.2 b];exact⟨rfl,fun h=>by cases h⟩⟩
 cases z1<;>cases z2
 ·simp (maxDischargeDepth:=12) only[c48,hG1,ha1,Dj,c1,wM,pM,hG3,hb3,c2,hG5,hz1,hz2,← hZ4,wZ,cZ,pZ,hr5,hv,ldO_one,stO_one,sy,tup,↓reduceIte,zA,zG,zC,zD,zF,zE,zB,zH,reduceCtorEq]
  refine⟨trivial,.inr trivial,_,rfl,tF.setn _ (by omega) _,.inl ⟨?_,rfl⟩⟩
  unfold newM
  rw[← k1.1,← k2.1]
 ·simp (maxDischargeDepth:=12) only[c48,hG1,ha1,Dj,c1,wM,pM,hG3,hb3,c2,hG5,hz1,hz2,hr5,h5,h35,cM,← hZ4,hv,ldO_one,stO_one,sy,tup,↓reduceIte,zA,zG,zC,zD,zF,zE,zB,zH,reduceCtorEq]
  rw[endD_ok (by kernel_rfl) (by kernel_rfl)]
  simp (maxDischargeDepth:=12) only[cM,hv,ldO_one,stO_one,sy,tup,↓reduceIte,zA,zG,zC,zD,zF,zE,zB,zH,reduceCtorEq]
  refine⟨trivial,.inr trivial,_,rfl,tF.setn _ (by omega) _,.inr ⟨B,?_,by rw[(k2.2 rfl).1,(k2.2 rfl).2]⟩⟩
  unfold newM
  rw[← k1.1,← k2.1]
 ·simp (maxDischargeDepth:=12) only[c48,hG1,ha1,Dj,c1,wM,pM,hG3,hb3,c2,hG5,hz1,hz2,hr5,h5,h35,cM,← hZ4,hv,ldO_one,stO_one,sy,tup,↓reduceIte,zA,zG,zC,zD,zF,zE,zB,zH,reduceCtorEq]
  rw[endD_ok (by kernel_rfl) (by kernel_rfl)]
  simp (maxDischargeDepth:=12) only[cM,hv,ldO_one,stO_one,sy,tup,↓reduceIte,zA,zG,zC,zD,zF,zE,zB,zH,reduceCtorEq]
  refine⟨trivial,.inr trivial,_,rfl,tF.setn _ (by omega) _,.inr ⟨A,?_,by rw[(k1.2 rfl).1,(k1.2 rfl).2]⟩⟩
  unfold newM
  rw[← k1.1,← k2.1]
 ·by_cases hlt:(s1:Int) < (s2:Int)
  ·simp (maxDischargeDepth:=12) only[c48,hG1,ha1,Dj,c1,wM,pM,hG3,hb3,c2,hG5,hz1,hz2,hlt,hr5,h5,h35,cM,← hZ4,hv,ldO_one,stO_one,sy,tup,↓reduceIte,zA,zG,zC,zD,zF,zE,zB,zH,reduceCtorEq]
   rw[endD_ok (by kernel_rfl) (by kernel_rfl)]
   simp (maxDischargeDepth:=12) only[cM,hv,ldO_one,stO_one,sy,tup,↓reduceIte,zA,zG,zC,zD,zF,zE,zB,zH,reduceCtorEq]
   refine⟨trivial,.inr trivial,_,rfl,tF.setn _ (by omega) _,.inr ⟨B,?_,by rw[(k2.2 rfl).1,(k2.2 rfl).2]⟩⟩
   unfold newM
   rw[← k1.1,← k2.1]
   exact if_pos (by rw[← (k1.2 rfl).1,← (k2.2 rfl).1];omega)
  ·simp (maxDischargeDepth:=12) only[c48,hG1,ha1,Dj,c1,wM,pM,hG3,hb3,c2,hG5,hz1,hz2,hlt,hr5,h5,h35,cM,← hZ4,hv,ldO_one,stO_one,sy,tup,↓reduceIte,zA,zG,zC,zD,zF,zE,zB,zH,reduceCtorEq]
   rw[endD_ok (by kernel_rfl) (by kernel_rfl)]
   simp (maxDischargeDepth:=12) only[cM,hv,ldO_one,stO_one,sy,tup,↓reduceIte,zA,zG,zC,zD,zF,zE,zB,zH,reduceCtorEq]
   refine⟨trivial,.inr trivial,_,rfl,tF.setn _ (by omega) _,.inr ⟨A,?_,by rw[(k1.2 rfl).1,(k1.2 rfl).2]⟩⟩
   unfold newM
   rw[← k1.1,← k2.1]
   exact if_neg (by rw[← (k1.2 rfl).1,← (k2.2 rfl).1];omega)
end
end Go.Proofs.YtabebpemfinejaaDoor.draft
namespace Go.Proofs.YtabebpemfinejaaDoor.draft
open Go.Am
open disk (bx Fit A1 R1 Low Bn)
noncomputable def c22_l0:C:=.seq (.reg [
 qo 85 (.p (arF .lss (tt 84) (ii 8))) [pp 84]]) (
 .seq (.cond (tt 85) (.skip) (.exit 2)) (
 .seq (.block 3 (.seq (.reg [
 mv 87 0,
 mv 88 1,
 mv 89 13,
 qo 90 (.c (callF (ff 27) [(tt 89)])) [pp 89],
 qo 91 (.c (callF (ff 36) [(tt 90)])) [pp 90],
 qo 92 (.p (arF .add (ii 2) (tt 91))) [pp 91],
 qo 93 (.c (callF (ff 43) [(tt 87),(tt 88),(tt 92)])) [pp 87,pp 88,pp 92],
 mv 86 93,
 qo 94 (.p (extF (tt 86) 0)) [pp 86],
 qo 95 (.p (extF (tt 86) 1)) [pp 86],
 qo 14 (.m (allocF 64 [.blk 0])) [],
 qn (.a (storeF (tt 14) (tt 94) 64)) [pp 14,pp 94],
 mv 15 95]) (
 .seq (.seq (.reg [
 mv 96 15,
 qo 97 (.p (eqcF true false [.int .i64] (tt 96) (ii 0))) [pp 96]]) (
 .cond (tt 97) (.seq (.reg [
 mv 98 15,
 qo 4 (.p (S.get (.c (.ptr none)))) [],
 mv 5 98]) (
 .ret)) (.skip))) (
 .seq (.reg [
 qo 100 (.r (loadF (tt 14) 64 .bk)) [pp 14],
 qo 101 (.c (callF (ff 50) [(tt 100)])) [pp 100],
 mv 99 101,
 qo 102 (.p (extF (tt 99) 0)) [pp 99],
 qo 103 (.p (extF (tt 99) 1)) [pp 99],
 qo 16 (.m (allocF 4 [.int .u64 0,.int .u64 0,.int .i64 0,.int .u32 0])) [],
 qn (.a (storeF (tt 16) (tt 102) 4)) [pp 16,pp 102],
 mv 15 103]) (
 .seq (.seq (.regD [
 mv 104 15,
 qo 105 (.p (eqcF true false [.int .i64] (tt 104) (ii 0))) [pp 104],
 mv 106 105,
 qg 107 (.p (faddrF (tt 16) 0)) 106 false [pp 16],
 qg 108 (.r (loadF (tt 107) 1 .sc)) 106 false [pp 107],
 mg 109 13 106 false,
 qg 110 (.c (callF (ff 27) [(tt 109)])) 106 false [pp 109],
 qg 111 (.p (eqcF true false [.int .u64] (tt 108) (tt 110))) 106 false [pp 108,pp 110],
 qo 112 (.p (pickF (tt 106) (.c (.bool true)) (tt 111))) [pp 106,pp 111],
 mv 113 112,
 qg 114 (.p (faddrF (tt 16) 1)) 113 false [pp 16],
 qg 115 (.r (loadF (tt 114) 1 .sc)) 113 false [pp 114],
 mg 116 13 113 false,
 qg 117 (.p (nilcF (tt 116))) 113 false [pp 116],
 qg 118 (.p (faddrF (tt 117) 7)) 113 false [pp 117],
 qg 119 (.r (loadF (tt 118) 1 .sc)) 113 false [pp 118],
 qg 120 (.p (eqcF true false [.int .u64] (tt 115) (tt 119))) 113 false [pp 115,pp 119],
 qo 121 (.p (pickF (tt 113) (.c (.bool true)) (tt 120))) [pp 113,pp 120]] [0,1,3,7,15,7,39,127,255,511,1023,2047,1023,5119,13311,29695,65535,131071]) (
 .cond (tt 121) (.exit 2) (.skip))) (
 .seq (.regD [
 mv 123 13,
 qo 124 (.p (nilcF (tt 123))) [pp 123],
 qo 125 (.p (faddrF (tt 124) 3)) [pp 124],
 qo 126 (.r (loadF (tt 125) 1 .sc)) [pp 125],
 mv 127 13,
 qo 128 (.p (nilcF (tt 127))) [pp 127],
 qo 129 (.p (faddrF (tt 128) 6)) [pp 128],
 qo 130 (.r (loadF (tt 129) 1 .sc)) [pp 129],
 mv 131 13,
 qo 132 (.p (nilcF (tt 131))) [pp 131],
 qo 133 (.p (faddrF (tt 132) 7)) [pp 132],
 qo 134 (.r (loadF (tt 133) 1 .sc)) [pp 133],
 qo 135 (.p (faddrF (tt 16) 2)) [pp 16],
 qo 136 (.r (loadF (tt 135) 1 .sc)) [pp 135],
 qo 137 (.c (callF (ff 42) [(tt 136)])) [pp 136],
 qo 138 (.c (callF (ff 30) [(tt 126),(tt 130),(tt 134),(tt 137)])) [pp 126,pp 130,pp 134,pp 137],
 mv 122 138,
 qo 139 (.p (extF (tt 122) 0)) [pp 122],
 qo 140 (.p (extF (tt 122) 1)) [pp 122],
 mv 17 139,
 mv 15 140] [0,1,3,7,0,16,48,112,0,256,768,1792,0,4096,12288,32767,65535,131071,131071,262143,1048575]) (
 .seq (.seq (.reg [
 mv 141 15,
 qo 142 (.p (eqcF true false [.int .i64] (tt 141) (ii 0))) [pp 141]]) (
 .cond (tt 142) (.exit 2) (.skip))) (
 .regD [
 mv 143 13,
 mv 144 13,
 mv 145 13,
 qo 146 (.p (nilcF (tt 145))) [pp 145],
 qo 147 (.p (faddrF (tt 146) 8)) [pp 146],
 qo 148 (.r (loadF (tt 147) 1 .sc)) [pp 147],
 qo 149 (.r (loadF (tt 16) 4 .ag)) [pp 16],
 qo 150 (.m (bsliceF 1 4 [.int .u64 0,.int .u64 0,.int .i64 0,.int .u32 0] [(0,4,(tt 149))])) [pp 149],
 qo 151 (.a (appF 4 32 (tt 148) (tt 150))) [pp 148,pp 150],
 mv 152 17,
 qo 153 (.p (nilcF (tt 143))) [pp 143],
 qo 154 (.p (faddrF (tt 153) 8)) [pp 153],
 qn (.a (storeF (tt 154) (tt 151) 1)) [pp 154,pp 151],
 qo 155 (.p (nilcF (tt 144))) [pp 144],
 qo 156 (.p (faddrF (tt 155) 7)) [pp 155],
 qn (.a (storeF (tt 156) (tt 152) 1)) [pp 156,pp 152]] [0,0,0,4,12,28,0,64,252,0,509,1533,3581,8191,16383,32767])))))))) (
 .reg [
 qo 157 (.p (arF .add (tt 84) (ii 1))) [pp 84],
 mv 84 157])))
noncomputable def c22_l1:C:=.seq (.reg [
 qo 25 (.p (arF .lss (tt 24) (ii 2))) [pp 24]]) (
 .seq (.cond (tt 25) (.skip) (.exit 0)) (
 .seq (.block 1 (.seq (.reg [
 mv 26 24,
 mv 8 26]) (
 .seq (.reg [
 qo 9 (.p (S.get (ii 0))) []]) (
 .seq (.reg [
 mv 28 8,
 mv 29 0,
 mv 30 1,
 mv 31 8,
 qo 32 (.c (callF (ff 43) [(tt 29),(tt 30),(tt 31)])) [pp 29,pp 30,pp 31],
 mv 27 32,
 qo 33 (.p (extF (tt 27) 0)) [pp 27],
 qo 34 (.p (extF (tt 27) 1)) [pp 27],
 qo 35 (.p (iaddrAF (tt 7) (tt 28) 2 64)) [pp 7,pp 28],
 qn (.a (storeF (tt 35) (tt 33) 64)) [pp 35,pp 33],
 mv 9 34]) (
 .seq (.reg [
 mv 36 9,
 qo 37 (.p (eqcF true false [.int .i64] (tt 36) (ii 0))) [pp 36]]) (
 .cond (tt 37) (.seq (.reg [
 mv 38 9,
 qo 4 (.p (S.get (.c (.ptr none)))) [],
 mv 5 38]) (
 .ret)) (.skip))))))) (
 .reg [
 qo 39 (.p (arF .add (tt 24) (ii 1))) [pp 24],
 mv 24 39])))
noncomputable def c22:CFn:=⟨[.tmp (pp 4),.tmp (pp 5)],
 .seq (.reg [
 qo 4 (.p (S.get (.c (.ptr none)))) [],
 qo 5 (.p (S.get (ii 0))) []]) (
 .seq (.seq (.reg [
 mv 18 0,
 mv 19 1,
 qo 20 (.c (callF (ff 47) [(tt 18),(tt 19),(ii 50)])) [pp 18,pp 19],
 mv 6 20]) (
 .seq (.reg [
 mv 21 6,
 qo 22 (.p (eqcF true false [.int .i64] (tt 21) (ii 0))) [pp 21]]) (
 .cond (tt 22) (.seq (.reg [
 mv 23 6,
 qo 4 (.p (S.get (.c (.ptr none)))) [],
 mv 5 23]) (
 .ret)) (.skip)))) (
 .seq (.reg [
 qo 7 (.m (allocF 128 [.blk 0,.blk 0])) []]) (
 .seq (.seq (.reg [
 qo 24 (.p (S.get (ii 0))) []]) (
 .block 0 (.loop c22_l1))) (
 .seq (.reg [
 qo 41 (.p (iaddrAF (tt 7) (ii 0) 2 64)) [pp 7],
 qo 42 (.r (loadF (tt 41) 64 .bk)) [pp 41],
 qo 43 (.p (iaddrAF (tt 7) (ii 1) 2 64)) [pp 7],
 qo 44 (.r (loadF (tt 43) 64 .bk)) [pp 43],
 qo 45 (.c (callF (ff 48) [(tt 42),(tt 44)])) [pp 42,pp 44],
 mv 40 45,
 qo 46 (.p (extF (tt 40) 0)) [pp 40],
 qo 47 (.p (extF (tt 40) 1)) [pp 40],
 qo 48 (.p (extF (tt 40) 2)) [pp 40],
 qo 11 (.m (allocF 4 [.int .u64 0,.int .i64 0,.int .u64 0,.int .u64 0])) [],
 mv 10 46,
 qn (.a (storeF (tt 11) (tt 47) 4)) [pp 11,pp 47],
 mv 12 48]) (
 .seq (.seq (.regD [
 mv 49 12,
 qo 50 (.p (eqcF true false [.int .i64] (tt 49) (ii 0))) [pp 49],
 mv 51 50,
 qg 52 (.p (faddrF (tt 11) 1)) 51 false [pp 11],
 qg 53 (.r (loadF (tt 52) 1 .sc)) 51 false [pp 52],
 mg 54 0 51 false,
 mg 55 1 51 false,
 qg 56 (.c (callF (ff 49) [(tt 54),(tt 55)])) 51 false [pp 54,pp 55],
 qg 57 (.p (arF .sub (tt 56) (ii 10))) 51 false [pp 56],
 qg 58 (.p (arF .gtr (tt 53) (tt 57))) 51 false [pp 53,pp 57],
 qo 59 (.p (pickF (tt 51) (.c (.bool true)) (tt 58))) [pp 51,pp 58],
 mv 60 59,
 mg 61 10 60 false,
 qg 62 (.p (faddrF (tt 11) 2)) 60 false [pp 11],
 qg 63 (.r (loadF (tt 62) 1 .sc)) 60 false [pp 62],
 qg 64 (.p (faddrF (tt 11) 3)) 60 false [pp 11],
 qg 65 (.r (loadF (tt 64) 1 .sc)) 60 false [pp 64],
 qg 66 (.p (foldF max2 [(tt 61),(tt 63),(tt 65)])) 60 false [pp 61,pp 63,pp 65],
 qg 67 (.p (arF .gtr (tt 66) (.c (.int .u64 2305843009213693952)))) 60 false [pp 66],
 qo 68 (.p (pickF (tt 60) (.c (.bool true)) (tt 67))) [pp 60,pp 67]] [0,1,3,7,15,7,7,103,231,511,1023,2047,4095,4095,12287,4095,36863,131071,262143,524287]) (
 .cond (tt 68) (.seq (.reg [
 qo 4 (.p (S.get (.c (.ptr none)))) [],
 qo 5 (.p (S.get (ii 5))) []]) (
 .ret)) (.skip))) (
 .seq (.reg [
 mv 69 0,
 mv 70 1,
 qo 71 (.p (faddrF (tt 11) 0)) [pp 11],
 qo 72 (.r (loadF (tt 71) 1 .sc)) [pp 71],
 qo 73 (.p (faddrF (tt 11) 1)) [pp 11],
 qo 74 (.r (loadF (tt 73) 1 .sc)) [pp 73],
 mv 75 10,
 qo 76 (.p (faddrF (tt 11) 2)) [pp 11],
 qo 77 (.r (loadF (tt 76) 1 .sc)) [pp 76],
 qo 78 (.p (faddrF (tt 11) 3)) [pp 11],
 qo 79 (.r (loadF (tt 78) 1 .sc)) [pp 78],
 qo 80 (.p (faddrF (tt 11) 3)) [pp 11],
 qo 81 (.r (loadF (tt 80) 1 .sc)) [pp 80],
 qo 82 (.p (buildF [.ptr none,.int .i64 0,.int .u64 0,.int .i64 0,.int .u64 0,.int .u64 0,.int .u64 0,.int .u64 0,.slice none 0 0 0] .ag [(0,1,(tt 69)),(1,1,(tt 70)),(2,1,(tt 72)),(3,1,(tt 74)),(4,1,(tt 75)),(5,1,(tt 77)),(6,1,(tt 79)),(7,1,(tt 81))])) [pp 69,pp 70,pp 72,pp 74,pp 75,pp 77,pp 79,pp 81],
 qo 83 (.m (boxF 9 (tt 82))) [pp 82],
 mv 13 83]) (
 .seq (.seq (.reg [
 qo 84 (.p (S.get (ii 0))) []]) (
 .block 2 (.loop c22_l0))) (
 .seq (.reg [
 mv 158 13,
 mv 4 158,
 qo 5 (.p (S.get (ii 0))) []]) (
 .ret)))))))))⟩
theorem c22_eq:fnOf Tryd.prog 22=some c22:=by kernel_rfl
noncomputable def nextOk (R first tail:Nat) (i head X:Nat):Bool:=noteOk X&&decide ((ntG X).seq=first+i)&&decide ((ntG X).pos=head)&&roomR R tail head (recS (ntG X).cells)
noncomputable def goN (rd:Nat→Nat) (R first tail:Nat):Nat→List Nt→Nat→List Nt × Nat
 | 0,N,h=>(N,h)
 | k+1,N,h=>match nextOk R first tail N.length h (rd (2+(first+N.length) % 8)) with
  | true=>goN rd R first tail k (N++[ntG (rd (2+(first+N.length) % 8))]) (h+recS (ntG (rd (2+(first+N.length) % 8))).cells)
  | false=>(N,h)
section
variable {lf K:Nat} (hlf:1000 < lf)
include hlf
theorem ulopen_loop {G0:Heap} {l b:Bk} {lx:Nat} (hlx:l=.run lx) (lxo:G0.next≤lx) {id R cnt first tail:Nat} {B:Bn} (hf:Fit B) (bo:G0.Old b) (hR:1≤R∧R≤256) (hfirst:first≤2305843009213693952) (ht:tail≤2305843009213693952) (hrc:∀ j:Nat,j < 10→B.rc 0 (j:Int)=0) (n:Nat):∀(t:T) (G1:Heap),G1.get l=some (.rows false 9 [lcells b id R cnt first tail tail (.slice none 0 0 0)])→G1.Old l→G1.get b=some (bx false B)→Turns Z G0 G1→t.getP (Tr.path 0)=some (.ptr (some ⟨b,0⟩))→t.getP (Tr.path 1)=some (.int .i64 0)→t.getP (Tr.path 13)=some (.ptr (some ⟨l,0⟩))→t.getP (Tr.path 84)=some (.int .i64 0) →
  wp (loopF (runC (U lf K (n+7)) lf c22_l0) lf ⟨t,G1,[]⟩) fun x s=>x=.ex 2∧s.d=[]∧s.t.getP (Tr.path 13)=some (.ptr (some ⟨l,0⟩))∧s.H.get b=some (bx false B)∧Turns Z G0 s.H∧∃ lv,LogAt s.H l b id R cnt first tail (goN (fun j=>B.read 0 (j:Int)) R first tail 8 [] tail).2 (goN (fun j=>B.read 0 (j:Int)) R first tail 8 [] tail).1 lv∧∀ c,Bof lv c→¬ G0.Old c:=by
 intro t G1 hl1 ho1 hb1 hT1 q0 q1 q13 q84
 have lo:¬ G0.Old l:=by rw[hlx];exact Heap.not_old lxo
 have lb:l≠b:=fun e=>lo (e ▸ bo)
 obtain⟨W,hW⟩:∃ W,W=goN (fun j=>B.read 0 (j:Int)) R first tail 8 [] tail:=⟨_,rfl⟩
 rw[← hW]
 refine wp_loopF (fun m s=>∃(i:Nat) (N:List Nt) (head:Nat) (lv:V),m=8 - i∧i≤8∧N.length=i∧s.d=[]∧goN (fun j=>B.read 0 (j:Int)) R first tail (8 - i) N head=W∧Rg R tail head∧s.H.get l=some (.rows false 9 [lcells b id R cnt first tail head lv])∧s.H.Old l∧Lst G0 s.H 4 (rowsT N) lv∧s.H.get b=some (bx false B)∧Turns Z G0 s.H∧s.t.getP (Tr.path 0)=some (.ptr (some ⟨b,0⟩))∧s.t.getP (Tr.path 1)=some (.int .i64 0)∧s.t.getP (Tr.path 13)=some (.ptr (some ⟨l,0⟩))∧s.t.getP (Tr.path 84)=some (.int .i64 (i:Int)))
  ?_ lf 8 _ ⟨0,[],tail,_,rfl,Nat.zero_le _,rfl,rfl,hW.symm,⟨hR,Nat.le_refl _,by omega,by omega⟩,hl1,ho1,Lst.nil _ _ _,hb1,hT1,q0,q1,q13,q84⟩ (by omega)
 rintro m ⟨t,H,dd⟩ ⟨i,N,head,lv,rfl,hi,hNl,hd,hW2,hrg,hl,ho,hN,hb,hT,q0,q1,q13,q84⟩
 dsimp only at hd hl ho hN hb hT q0 q1 q13 q84
 subst hd
 have hLog:LogAt H l b id R cnt first tail head N lv:=⟨⟨hl,G0,hN,hT.next⟩,ho,hR,hrg,by omega,by omega⟩
 have hfin:∀ {H':Heap},Turns Z H H'→W=(N,head)→(H'.get b=some (bx false B)∧Turns Z G0 H'∧∃ lv,LogAt H' l b id R cnt first tail W.2 W.1 lv∧∀ c,Bof lv c→¬ G0.Old c):=by
  intro H' tt e
  rw[e]
  have hbo:H.Old b:=bo.mono hT.next
  refine⟨(tt.same b hbo (fun h=>h)).trans hb,hT.trans tt,lv,⟨⟨(tt.same l ho (fun h=>h)).trans hl,G0,hN.turns tt (fun _ _ h=>h),Nat.le_trans hT.next tt.next⟩,ho.mono tt.next,hR,hrg,hLog.fn,hLog.nl⟩,fun c hc=>?_⟩
  obtain⟨q,rfl,hq,_⟩:=hN.bof hc
  exact Heap.not_old hq
 by_cases hlt:i < 8
 rotate_left
 ·have:i=8:=by omega
  subst this
  have hnl:¬ (((8:Nat):Int) < 8):=by decide
  have:=hfin (Turns.refl Z H) hW2.symm
  simp (maxDischargeDepth:=12) only[c22_l0,q84,hnl,hv,ldO_one,stO_one,sy,tup,↓reduceIte,zA,zG,zC,zD,zF,zE,zB,zH,reduceCtorEq]
  exact⟨trivial,trivial,q13,this⟩
 have hlt':(i:Int) < 8:=by omega
 have w1:IntKind.i64.wrap ((i:Int)+1)=((i+1:Nat):Int):=by rw[Go.Am.wrap_i64 (by omega)];omega
 obtain⟨sq,hsq⟩:∃ sq,sq=first+N.length:=⟨_,rfl⟩
 have e1:=ulnext hlf hLog (K:=K) (n+6)
 rw[← hsq] at e1
 have eS:=fun H=>unslot hlf (K:=K) H (q:=sq) (n+6)
 obtain⟨z8,hz8⟩:∃ z,z=sq % 8:=⟨_,rfl⟩
 have hz8':z8 < 8:=by rw[hz8];exact Nat.mod_lt _ (by decide)
 rw[← hz8] at eS
 obtain⟨m,hm⟩:∃ m:Int,m=((2+z8:Nat):Int):=⟨_,rfl⟩
 have wm:IntKind.i64.wrap (2+(z8:Int))=m:=by rw[Go.Am.wrap_i64 (by omega)];omega
 have hrc1:=hrc (2+z8) (by omega)
 rw[← hm] at hrc1
 have eR:=qRead (lf:=lf) (K:=K) (w:=n+6) hb hf 0 m
 rw[hrc1] at eR
 obtain⟨X,hX⟩:∃ X,X=B.read 0 m:=⟨_,rfl⟩
 rw[← hX] at eR
 have hstep:goN (fun j=>B.read 0 (j:Int)) R first tail (8 - i) N head=match nextOk R first tail N.length head X with
  | true=>goN (fun j=>B.read 0 (j:Int)) R first tail (8 - (i+1)) (N++[ntG X]) (head+recS (ntG X).cells)
  | false=>(N,head):=by
  rw[show 8 - i=(8 - (i+1))+1 by omega,goN,hX,hm,hz8,hsq]
 rw[hW2] at hstep
 have t2:Turns Z H (((H.skip (K+2)).add (.rows false 64 [[.blk 0]])).set (.run (H.next+(K+2))) (.rows false 64 [[.blk X]])):=by
  refine Turns.setn ?_ _ (by omega) _
  exact((Turns.refl Z H).skip _).addm _
 have hx2:(((H.skip (K+2)).add (.rows false 64 [[.blk 0]])).set (.run (H.next+(K+2))) (.rows false 64 [[.blk X]])).get (.run (H.next+(K+2)))=some (.rows false 64 [[.blk X]]):=by rw[Heap.get_set,if_pos rfl]
 obtain⟨H2,hH2⟩:∃ H2,((H.skip (K+2)).add (.rows false 64 [[.blk 0]])).set (.run (H.next+(K+2))) (.rows false 64 [[.blk X]])=H2:=⟨_,rfl⟩
 have nn2:H2.next=H.next+(K+2)+1:=by rw[← hH2];rfl
 rw[hH2] at t2 hx2
 obtain⟨v3,H3,e3,t3,h3⟩:=unget hlf H2 X (K:=K) (n+1)
 have nn3:=t3.next
 have b00:((0:Int)==0)=true:=rfl
 have z4:put [V.int .u64 0,.int .u64 0,.int .i64 0,.int .u32 0] 0 [.int .u64 0,.int .u64 0,.int .i64 0,.int .u32 0]=some [V.int .u64 0,.int .u64 0,.int .i64 0,.int .u32 0]:=rfl
 have w4:width [V.int .u64 0,.int .u64 0,.int .i64 0,.int .u32 0]=4:=rfl
 rcases h3 with ⟨hok,rfl⟩ | ⟨hok,E,hE,rfl⟩
 rotate_left
 ·have hE':(E==0)=false:=beq_eq_false_iff_ne.2 hE
  have t4:Turns Z H3 ((H3.add (.rows false 4 [[.int .u64 0,.int .u64 0,.int .i64 0,.int .u32 0]])).set (.run H3.next) (.rows false 4 [[.int .u64 0,.int .u64 0,.int .i64 0,.int .u32 0]])):=by repeat (first | exact Turns.refl _ _ | apply Turns.skip | apply Turns.addm | apply Turns.setb | apply Turns.setl | apply Turns.setr | refine Turns.setn ?_ _ (by omega) _ | refine Turns.trans ?_ (tF _))
  obtain⟨H4,hH4⟩:∃ H4,(H3.add (.rows false 4 [[.int .u64 0,.int .u64 0,.int .i64 0,.int .u32 0]])).set (.run H3.next) (.rows false 4 [[.int .u64 0,.int .u64 0,.int .i64 0,.int .u32 0]])=H4:=⟨_,rfl⟩
  rw[hH4] at t4
  have hno:nextOk R first tail N.length head X=false:=by unfold nextOk;rw[hok];rfl
  rw[hno] at hstep
  simp (maxDischargeDepth:=12) only[c22_l0,q0,q1,q13,q84,hlt',e1,eS,wm,eR,hH2,b00,hx2,Dj,e3,z4,w4,hH4,hE',hv,ldO_one,stO_one,sy,tup,↓reduceIte,zA,zG,zC,zD,zF,zE,zB,zH,reduceCtorEq]
  rw[endD_ok (by kernel_rfl) (by kernel_rfl)]
  simp (maxDischargeDepth:=12) only[q13,hv,ldO_one,stO_one,sy,tup,↓reduceIte,zA,zG,zC,zD,zF,zE,zB,zH,reduceCtorEq]
  exact⟨trivial,trivial,trivial,hfin ((t2.trans t3).trans t4) hstep⟩
 obtain⟨nt,hnt⟩:∃ nt,nt=ntG X:=⟨_,rfl⟩
 rw[← hnt] at e3 hstep
 have hno:nextOk R first tail N.length head X=(decide (nt.seq=sq)&&decide (nt.pos=head)&&roomR R tail head (recS nt.cells)):=by unfold nextOk;rw[hok,← hnt,hsq,Bool.true_and]
 rw[hno] at hstep
 have hmay:NtOk nt:=by
  unfold noteOk at hok
  simp only[Bool.and_eq_true] at hok
  rw[hnt]
  exact ntMay_ok hok.1.2 (bd_lt X 10)
 have hntv:ntV nt=[.int .u64 (nt.seq:Int),.int .u64 (nt.pos:Int),.int .i64 (nt.cells:Int),.int .u32 (nt.sum:Int)]:=rfl
 have n0:cut (ntV nt) 0 1=some [.int .u64 (nt.seq:Int)]:=rfl
 have n1:cut (ntV nt) 1 1=some [.int .u64 (nt.pos:Int)]:=rfl
 have n2:cut (ntV nt) 2 1=some [.int .i64 (nt.cells:Int)]:=rfl
 have pn:put [V.int .u64 0,.int .u64 0,.int .i64 0,.int .u32 0] 0 (ntV nt)=some (ntV nt):=rfl
 have wn:width (ntV nt)=4:=rfl
 have t4:Turns Z H3 ((H3.add (.rows false 4 [[.int .u64 0,.int .u64 0,.int .i64 0,.int .u32 0]])).set (.run H3.next) (.rows false 4 [ntV nt])):=by repeat (first | exact Turns.refl _ _ | apply Turns.skip | apply Turns.addm | apply Turns.setb | apply Turns.setl | apply Turns.setr | refine Turns.setn ?_ _ (by omega) _ | refine Turns.trans ?_ (tF _))
 have h4:((H3.add (.rows false 4 [[.int .u64 0,.int .u64 0,.int .i64 0,.int .u32 0]])).set (.run H3.next) (.rows false 4 [ntV nt])).get (.run H3.next)=some (.rows false 4 [ntV nt]):=by rw[Heap.get_set,if_pos rfl]
 obtain⟨H4,hH4⟩:∃ H4,(H3.add (.rows false 4 [[.int .u64 0,.int .u64 0,.int .i64 0,.int .u32 0]])).set (.run H3.next) (.rows false 4 [ntV nt])=H4:=⟨_,rfl⟩
 have nn4:H4.next=H3.next+1:=by rw[← hH4];rfl
 rw[hH4] at t4 h4
 have tH4:=(t2.trans t3).trans t4
 have hl4:=(tH4.same l ho (fun h=>h)).trans hl
 have hLog4:LogAt H4 l b id R cnt first tail head N lv:=⟨⟨hl4,G0,hN.turns tH4 (fun _ _ h=>h),Nat.le_trans hT.next tH4.next⟩,ho.mono tH4.next,hR,hrg,hLog.fn,hLog.nl⟩
 have e5:=ulnext hlf hLog4 (K:=K) (n+6)
 rw[← hsq] at e5
 have k7:cut (lcells b id R cnt first tail head lv) 7 1=some [.int .u64 (head:Int)]:=rfl
 have k6:cut (lcells b id R cnt first tail head lv) 6 1=some [.int .u64 (tail:Int)]:=rfl
 have k3:cut (lcells b id R cnt first tail head lv) 3 1=some [.int .i64 (R:Int)]:=rfl
 obtain⟨Q,hQ⟩:∃ Q:List (Option V × Option V),Q=[(loadF (.t (Tr.path 107)) 1 .sc (Tr.setP (Tr.path 107) (.ptr (some ⟨.run H3.next,0⟩)) .e) H4,some (.int .u64 (nt.seq:Int))),(loadF (.t (Tr.path 107)) 1 .sc (Tr.setP (Tr.path 107) (.ptr (some ⟨.run H3.next,0⟩)) .e) H4,some (.int .u64 (nt.seq:Int)))]:=⟨_,rfl⟩
 have hQ':∀ x ∈ Q,x.1=x.2:=by
  rw[hQ]
  intro x hx
  simp only[List.mem_cons,List.not_mem_nil,or_false] at hx
  rcases hx with rfl | rfl<;>simp (maxDischargeDepth:=12) only[h4,n0,hv,ldO_one,stO_one,sy,tup,↓reduceIte,zA,zG,zC,zD,zF,zE,zB,zH,reduceCtorEq]
 by_cases h1:nt.seq=sq
 rotate_left
 ·have h1':((nt.seq:Int)==(sq:Int))=false:=by rw[beq_eq_false_iff_ne];omega
  rw[decide_eq_false h1,Bool.false_and,Bool.false_and] at hstep
  simp (maxDischargeDepth:=12) only[c22_l0,q0,q1,q13,q84,hlt',e1,eS,wm,eR,hH2,b00,hx2,Dj,e3,wn,pn,hH4,h4,n0,n1,e5,hl4,k7,h1',hv,ldO_one,stO_one,sy,tup,↓reduceIte,zA,zG,zC,zD,zF,zE,zB,zH,reduceCtorEq]
  rw[endD_q (q:=Q) (by kernel_rfl) (by rw[hQ];kernel_rfl)]
  simp (maxDischargeDepth:=12) only[q13,hv,ldO_one,stO_one,sy,tup,↓reduceIte,zA,zG,zC,zD,zF,zE,zB,zH,reduceCtorEq]
  exact⟨trivial,trivial,trivial,hfin (tH4.owe hQ') hstep⟩
 have h1':((nt.seq:Int)==(sq:Int))=true:=by rw[beq_iff_eq];omega
 by_cases h2:nt.pos=head
 rotate_left
 ·have h2':((nt.pos:Int)==(head:Int))=false:=by rw[beq_eq_false_iff_ne];omega
  rw[decide_eq_false h2,Bool.and_false,Bool.false_and] at hstep
  simp (maxDischargeDepth:=12) only[c22_l0,q0,q1,q13,q84,hlt',e1,eS,wm,eR,hH2,b00,hx2,Dj,e3,wn,pn,hH4,h4,n0,n1,e5,hl4,k7,h1',h2',hv,ldO_one,stO_one,sy,tup,↓reduceIte,zA,zG,zC,zD,zF,zE,zB,zH,reduceCtorEq]
  rw[endD_q (q:=Q) (by kernel_rfl) (by rw[hQ];kernel_rfl)]
  simp (maxDischargeDepth:=12) only[q13,hv,ldO_one,stO_one,sy,tup,↓reduceIte,zA,zG,zC,zD,zF,zE,zB,zH,reduceCtorEq]
  exact⟨trivial,trivial,trivial,hfin (tH4.owe hQ') hstep⟩
 have h2':((nt.pos:Int)==(head:Int))=true:=by rw[beq_iff_eq];omega
 rw[decide_eq_true h1,decide_eq_true h2,Bool.true_and,Bool.true_and] at hstep
 simp (maxDischargeDepth:=12) only[c22_l0,q0,q1,q13,q84,hlt',e1,eS,wm,eR,hH2,b00,hx2,Dj,e3,wn,pn,hH4,h4,n0,n1,e5,hl4,k7,h1',h2',hv,ldO_one,stO_one,sy,tup,↓reduceIte,zA,zG,zC,zD,zF,zE,zB,zH,reduceCtorEq]
 rw[endD_q (q:=Q) (by kernel_rfl) (by rw[hQ];kernel_rfl)]
 obtain⟨H5,hH5⟩:∃ H5,H4.owe Q=H5:=⟨_,rfl⟩
 have t5:Turns Z H H5:=by rw[← hH5];exact tH4.owe hQ'
 have get5:∀ c,H5.get c=H4.get c:=fun c=>by rw[← hH5,get_owe]
 have hl5:=(get5 l).trans hl4
 have h5:=(get5 _).trans h4
 have hcl:1≤nt.cells∧nt.cells≤32:=hmay.cells
 have e6:=usize hlf (K:=K) H5 (k:=nt.cells) (by omega) (n+5)
 rw[szR_rec hlf hcl.1 hcl.2] at e6
 obtain⟨k,hk⟩:∃ k,k=recS nt.cells:=⟨_,rfl⟩
 have hk34:1≤k∧k≤34:=by rw[hk];unfold recS;omega
 rw[← hk] at e6 hstep
 have e7:=urtake hlf (K:=K) H5 hrg (k:=k) (by omega) (n+4)
 rw[hH5]
 obtain⟨hd',hhd⟩:∃ hd',hd'=head+k:=⟨_,rfl⟩
 rw[← hhd] at e7 hstep
 obtain⟨Q5,hQ5⟩:∃ Q:List (Option V × Option V),Q=[(loadF (.t (Tr.path 125)) 1 .sc (Tr.setP (Tr.path 125) (.ptr (some ⟨l,3⟩)) .e) H5,some (.int .i64 (R:Int))),(loadF (.t (Tr.path 125)) 1 .sc (Tr.setP (Tr.path 125) (.ptr (some ⟨l,3⟩)) .e) H5,some (.int .i64 (R:Int))),(loadF (.t (Tr.path 129)) 1 .sc (Tr.setP (Tr.path 129) (.ptr (some ⟨l,6⟩)) .e) H5,some (.int .u64 (tail:Int))),(loadF (.t (Tr.path 129)) 1 .sc (Tr.setP (Tr.path 129) (.ptr (some ⟨l,6⟩)) .e) H5,some (.int .u64 (tail:Int))),(loadF (.t (Tr.path 133)) 1 .sc (Tr.setP (Tr.path 133) (.ptr (some ⟨l,7⟩)) .e) H5,some (.int .u64 (head:Int))),(loadF (.t (Tr.path 133)) 1 .sc (Tr.setP (Tr.path 133) (.ptr (some ⟨l,7⟩)) .e) H5,some (.int .u64 (head:Int)))]:=⟨_,rfl⟩
 have hQ5':∀ x ∈ Q5,x.1=x.2:=by
  rw[hQ5]
  intro x hx
  simp only[List.mem_cons,List.not_mem_nil,or_false] at hx
  rcases hx with rfl | rfl | rfl | rfl | rfl | rfl<;>simp (maxDischargeDepth:=12) only[hl5,k3,k6,k7,hv,ldO_one,stO_one,sy,tup,↓reduceIte,zA,zG,zC,zD,zF,zE,zB,zH,reduceCtorEq]
 cases hroom:roomR R tail head k
 ·rw[hroom] at e7 hstep
  rw[if_neg (by decide)] at e7
  have b10:((10:Int)==0)=false:=rfl
  simp (maxDischargeDepth:=12) only[q13,hl5,h5,k3,k6,k7,n2,e6,e7,hv,ldO_one,stO_one,sy,tup,↓reduceIte,zA,zG,zC,zD,zF,zE,zB,zH,reduceCtorEq]
  rw[endD_q (q:=Q5) (by kernel_rfl) (by rw[hQ5];kernel_rfl)]
  simp (maxDischargeDepth:=12) only[q13,b10,hv,ldO_one,stO_one,sy,tup,↓reduceIte,zA,zG,zC,zD,zF,zE,zB,zH,reduceCtorEq]
  exact⟨trivial,trivial,trivial,hfin (t5.owe hQ5') hstep⟩
 ·rw[hroom] at e7 hstep
  rw[if_pos rfl] at e7
  simp (maxDischargeDepth:=12) only[q13,hl5,h5,k3,k6,k7,n2,e6,e7,hv,ldO_one,stO_one,sy,tup,↓reduceIte,zA,zG,zC,zD,zF,zE,zB,zH,reduceCtorEq]
  rw[endD_q (q:=Q5) (by kernel_rfl) (by rw[hQ5];kernel_rfl)]
  obtain⟨H6,hH6⟩:∃ H6,H5.owe Q5=H6:=⟨_,rfl⟩
  have t6:Turns Z H H6:=by rw[← hH6];exact t5.owe hQ5'
  have get6:∀ c,H6.get c=H4.get c:=fun c=>by rw[← hH6,get_owe,get5]
  have hl6:=(get6 l).trans hl4
  have h6:=(get6 _).trans h4
  have nn6:=t6.next
  rw[hH6]
  have hrl:=rowsT_len N
  obtain⟨lp,lc,lo',rfl⟩:=hN.val
  rw[hrl] at hl6 hN
  have k8:cut (lcells b id R cnt first tail head (.slice lp N.length lc lo')) 8 1=some [.slice lp N.length lc lo']:=rfl
  have c4:cut (ntV nt) 0 4=some (ntV nt):=rfl
  have t7:=Turns.add Z H6 (.rows false 4 [ntV nt])
  have hx7:(H6.add (.rows false 4 [ntV nt])).get (.run H6.next)=some (.rows false 4 [ntV nt]):=by rw[Heap.get_add,if_pos rfl]
  obtain⟨H7,hH7⟩:∃ H7,H6.add (.rows false 4 [ntV nt])=H7:=⟨_,rfl⟩
  rw[hH7] at t7 hx7
  have tH7:=t6.trans t7
  have hN7:=hN.turns tH7 (fun _ _ h=>h)
  have tG7:=hT.trans tH7
  obtain⟨H8,ea,hN8,t8,nx8⟩:=hN7.app1 (by':=32) tG7.next hx7 c4 (by decide) (by rw[hrl];omega) (by rw[hrl];omega)
  rw[hrl] at ea hN8
  have hl7:=(t7.same l (ho.mono nn6) (fun h=>h)).trans hl6
  have lnB:¬ Bof (.slice lp N.length lc lo') l:=fun hB=>by
   obtain⟨_,_,_,_,hgB⟩:=hN7.bof hB
   rw[hl7] at hgB;cases hgB
  have hl8:=(t8.same l (ho.mono tH7.next) lnB).trans hl7
  have p8:put (lcells b id R cnt first tail head (.slice lp N.length lc lo')) 8 [.slice (some ⟨.run H7.next,0⟩) (N.length+1) (N.length+1) 4]=some (lcells b id R cnt first tail head (.slice (some ⟨.run H7.next,0⟩) (N.length+1) (N.length+1) 4)):=rfl
  have p7:put (lcells b id R cnt first tail head (.slice (some ⟨.run H7.next,0⟩) (N.length+1) (N.length+1) 4)) 7 [.int .u64 (hd':Int)]=some (lcells b id R cnt first tail hd' (.slice (some ⟨.run H7.next,0⟩) (N.length+1) (N.length+1) 4)):=rfl
  have wnt:width (ntV nt)=4:=rfl
  have cnt4:(V.agg (ntV nt)).cells=some (ntV nt):=rfl
  simp (maxDischargeDepth:=12) only[q13,q84,b00,hl6,k8,h6,c4,wnt,cnt4,hH7,ea,hl8,p8,p7,w1,hv,ldO_one,stO_one,sy,tup,↓reduceIte,zA,zG,zC,zD,zF,zE,zB,zH,reduceCtorEq]
  rw[endD_ok (by kernel_rfl) (by kernel_rfl)]
  simp (maxDischargeDepth:=12) only[q0,q1,q13,q84,w1,hv,ldO_one,stO_one,sy,tup,↓reduceIte,zA,zG,zC,zD,zF,zE,zB,zH,reduceCtorEq]
  have hRg:=hrg
  obtain⟨_,r1,r2,r3⟩:=hRg
  have hroom':=hroom
  unfold roomR at hroom'
  simp only[Bool.and_eq_true,decide_eq_true_eq] at hroom'
  have lnew:¬ (Bk.run H7.next=l):=fun e=>by
   have:=ho
   rw[← e] at this
   exact absurd this (Heap.not_old tH7.next)
  have t8':=lst_away hN7 tG7 (Nat.le_refl _) t8
  have hb8:=(t8'.same b bo (fun h=>h))
  have hbG:G0.get b=some (bx false B):=((hT.same b bo (fun h=>h)).symm).trans hb
  refine⟨8 - (i+1),by omega,i+1,N++[nt],hd',.slice (some ⟨.run H7.next,0⟩) (N.length+1) (N.length+1) 4,rfl,by omega,by simp[hNl],trivial,hstep.symm,⟨hR,by omega,by omega,by omega⟩,?_,?_,?_,?_,?_,by simp[q0],by simp[q1],by simp[q13],by simp⟩
  ·rfl
  ·exact(ho.mono (Nat.le_trans tH7.next t8.next))
  ·have er:rowsT (N++[nt])=rowsT N++[ntV nt]:=by
    unfold rowsT
    rw[List.map_append];rfl
   rw[er]
   have ts:∀(J:Heap) (o:Am.Obj),Lst G0 J 4 (rowsT N++[ntV nt]) (.slice (some ⟨.run H7.next,0⟩) (N.length+1) (N.length+1) 4)→Lst G0 (J.set l o) 4 (rowsT N++[ntV nt]) (.slice (some ⟨.run H7.next,0⟩) (N.length+1) (N.length+1) 4):=fun J o hJ=>hJ.turns (Turns.set (X:=fun c=>c=l) rfl J o) (fun c hc e=>by
    obtain⟨p,_,_,_,e1,e2⟩:=hc
    cases e1
    exact lnew (e2.symm.trans e))
   exact ts _ _ (ts _ _ hN8)
  ·rw[if_neg (fun e=>lb e.symm),if_neg (fun e=>lb e.symm),hb8]
   exact hbG
  ·rw[hlx]
   exact(t8'.setn _ lxo _).setn _ lxo _
end
end Go.Proofs.YtabebpemfinejaaDoor.draft
namespace Go.Proofs.YtabebpemfinejaaDoor.draft
open Go.Am
open disk (bx Fit A1 R1 Low Bn)
noncomputable def openX (B:Bn):Option Nat:=match newM (B.read 0 0) (B.read 0 1) with
 | none=>none
 | some X=>if((mkG X).R:Int)≤B.sectors 0 - 10∧sealN X≤2305843009213693952∧(mkG X).first≤2305843009213693952∧(mkG X).pos≤2305843009213693952 then some X else none
theorem foldV_max3 (a b c:Int):∃ m:Int,foldV max2 (.int .u64 a) [.int .u64 b,.int .u64 c]=some (.int .u64 m)∧(m≤2305843009213693952↔a≤2305843009213693952∧b≤2305843009213693952∧c≤2305843009213693952):=by
 simp only[foldV,max2,ltI_eq]
 by_cases h1:a < b<;>simp only[h1,decide_true,decide_false]
 ·by_cases h2:b < c<;>simp only[h2,decide_true,decide_false]
  ·exact⟨c,rfl,by omega⟩
  ·exact⟨b,rfl,by omega⟩
 ·by_cases h2:a < c<;>simp only[h2,decide_true,decide_false]
  ·exact⟨c,rfl,by omega⟩
  ·exact⟨a,rfl,by omega⟩
section
variable {lf K:Nat} (hlf:1000 < lf)
include hlf
def arr2 (X Y:Nat):Nat→List V
 | 0=>[.blk 0,.blk 0]
 | 1=>[.blk X,.blk 0]
 | _=>[.blk X,.blk Y]
theorem ulopen_reads {G0:Heap} {b:Bk} {q:Nat} {B:Bn} (bo:G0.Old b) (hf:Fit B) (hq:G0.next≤q) (hrc:∀ j:Nat,j < 10→B.rc 0 (j:Int)=0) (n:Nat):∀(t:T) (G1:Heap),G1.get b=some (bx false B)→Turns Z G0 G1→q < G1.next→G1.get (.run q)=some (.rows false 128 [arr2 (B.read 0 0) (B.read 0 1) 0])→t.getP (Tr.path 0)=some (.ptr (some ⟨b,0⟩))→t.getP (Tr.path 1)=some (.int .i64 0)→t.getP (Tr.path 4)=some (.ptr none)→t.getP (Tr.path 5)=some (.int .i64 0)→t.getP (Tr.path 7)=some (.ptr (some ⟨.run q,0⟩))→t.getP (Tr.path 24)=some (.int .i64 0) →
  wp (loopF (runC (U lf K (n+1)) lf c22_l1) lf ⟨t,G1,[]⟩) fun x s=>x=.ex 0∧s.d=[]∧s.H.get (.run q)=some (.rows false 128 [arr2 (B.read 0 0) (B.read 0 1) 2])∧s.H.get b=some (bx false B)∧Turns Z G0 s.H∧s.t.getP (Tr.path 0)=some (.ptr (some ⟨b,0⟩))∧s.t.getP (Tr.path 1)=some (.int .i64 0)∧s.t.getP (Tr.path 4)=some (.ptr none)∧s.t.getP (Tr.path 5)=some (.int .i64 0)∧s.t.getP (Tr.path 7)=some (.ptr (some ⟨.run q,0⟩)):=by
 intro t G1 hb1 hT1 hq1 hg1 q0 q1 q4 q5 q7 q24
 have qb:¬ (b=Bk.run q):=fun e=>by rw[e] at bo;exact absurd bo (Heap.not_old hq)
 refine wp_loopF (fun m s=>∃(i:Nat),m=2 - i∧i≤2∧s.d=[]∧s.H.get (.run q)=some (.rows false 128 [arr2 (B.read 0 0) (B.read 0 1) i])∧q < s.H.next∧s.H.get b=some (bx false B)∧Turns Z G0 s.H∧s.t.getP (Tr.path 0)=some (.ptr (some ⟨b,0⟩))∧s.t.getP (Tr.path 1)=some (.int .i64 0)∧s.t.getP (Tr.path 4)=some (.ptr none)∧s.t.getP (Tr.path 5)=some (.int .i64 0)∧s.t.getP (Tr.path 7)=some (.ptr (some ⟨.run q,0⟩))∧s.t.getP (Tr.path 24)=some (.int .i64 (i:Int)))
  ?_ lf 2 _ ⟨0,rfl,Nat.zero_le _,rfl,hg1,hq1,hb1,hT1,q0,q1,q4,q5,q7,q24⟩ (by omega)
 rintro m ⟨t,H,dd⟩ ⟨i,rfl,hi,hd,hg,hqn,hb,hT,q0,q1,q4,q5,q7,q24⟩
 dsimp only at hd hg hqn hb hT q0 q1 q4 q5 q7 q24
 subst hd
 by_cases hlt:i < 2
 rotate_left
 ·have:i=2:=by omega
  subst this
  have hnl:¬ (((2:Nat):Int) < 2):=by decide
  simp (maxDischargeDepth:=12) only[c22_l1,q24,hnl,hv,ldO_one,stO_one,sy,tup,↓reduceIte,zA,zG,zC,zD,zF,zE,zB,zH,reduceCtorEq]
  exact⟨trivial,trivial,hg,hb,hT,q0,q1,q4,q5,q7⟩
 have hlt':(i:Int) < 2:=by omega
 have hle:i≤1:=by omega
 have w1:IntKind.i64.wrap ((i:Int)+1)=((i+1:Nat):Int):=by rw[Go.Am.wrap_i64 (by omega)];omega
 have hrc1:=hrc i (by omega)
 obtain⟨m,hm⟩:∃ m:Int,m=(i:Int):=⟨_,rfl⟩
 have eR:=qRead (lf:=lf) (K:=K) (w:=n) hb hf 0 (i:Int)
 rw[hrc1] at eR
 obtain⟨X,hX⟩:∃ X,X=B.read 0 (i:Int):=⟨_,rfl⟩
 rw[← hX] at eR
 have b00:((0:Int)==0)=true:=rfl
 have hgs:(H.skip (K+2)).get (.run q)=some (.rows false 128 [arr2 (B.read 0 0) (B.read 0 1) i]):=by rw[get_skip];exact hg
 have hput:stO (some (.rows false 128 [arr2 (B.read 0 0) (B.read 0 1) i])) (i*64) [.blk X]=some (.rows false 128 [arr2 (B.read 0 0) (B.read 0 1) (i+1)]):=by
  have:i=0∨i=1:=by omega
  rw[hX]
  rcases this with rfl | rfl<;>rfl
 have ts:Turns Z H (H.skip (K+2)):=(Turns.refl Z H).skip _
 simp (maxDischargeDepth:=12) only[c22_l1,q0,q1,q4,q5,q7,q24,hlt',hle,eR,hg,hput,w1,b00,iaddrAF,idxAF,hv,ldO_one,stO_one,sy,tup,↓reduceIte,zA,zG,zC,zD,zF,zE,zB,zH,reduceCtorEq]
 refine⟨2 - (i+1),by omega,i+1,rfl,by omega,trivial,?_,?_,?_,?_,by simp[q0],by simp[q1],by simp[q4],by simp[q5],by simp[q7],by simp⟩
 ·first | rfl | (rw[Heap.get_set,if_pos rfl])
 ·show q < H.next+(K+2);omega
 ·rw[if_neg qb];exact hb
 ·exact(hT.trans ts).setn _ hq _
theorem newM_ok {A B X:Nat} (h:newM A B=some X):mkMay (mkG X)=true:=by
 have key:∀ Y,markOk Y=true→mkMay (mkG Y)=true:=fun Y h=>by
  unfold markOk at h
  simp only[Bool.and_eq_true] at h
  exact h.1.2
 unfold newM at h
 split at h
 ·cases h
 ·rename_i h2
  cases h;exact key _ h2
 ·rename_i h1 h2
  cases h;exact key _ h1
 ·rename_i h1 h2
  split at h
  ·cases h;exact key _ h2
  ·cases h;exact key _ h1
theorem ulopen {G:Heap} (hgl:G.get (.run 0)=some (.rows true 4 (intsR [8,2,8,8]))) (h00:0 < G.next) {b:Bk} (bo:G.Old b) {B:Bn} (hb:G.get b=some (bx false B)) (hf:Fit B) (hrc:roomC B 0 50=0→∀ j:Nat,j < 10→B.rc 0 (j:Int)=0) (hs:B.sectors 0≤1000000) (n:Nat) :
    ret (U lf K (n+8) 22 [.ptr (some ⟨b,0⟩),.int .i64 0] G) fun v G'=>G'.get b=some (bx false B)∧Turns Z G G' ∧
      ((roomC B 0 50≠0∧v=.tuple [.ptr none,.int .i64 (roomC B 0 50)]) ∨
       (roomC B 0 50=0∧openX B=none∧v=.tuple [.ptr none,.int .i64 5]) ∨
       (roomC B 0 50=0∧∃ X l lv,openX B=some X∧v=.tuple [.ptr (some ⟨l,0⟩),.int .i64 0]∧¬ G.Old l∧(∀ c,Bof lv c→¬ G.Old c)∧LogAt G' l b (mkG X).id (mkG X).R (sealN X) (mkG X).first (mkG X).pos (goN (fun j=>B.read 0 (j:Int)) (mkG X).R (mkG X).first (mkG X).pos 8 [] (mkG X).pos).2 (goN (fun j=>B.read 0 (j:Int)) (mkG X).R (mkG X).first (mkG X).pos 8 [] (mkG X).pos).1 lv)):=by
  obtain⟨v1,G1,e1,rfl,t1⟩:=ulroom hlf (K:=K) hb hf 0 50 (n+5)
  have hb1:=(t1.same b bo (fun h=>h)).trans hb
  refine ret_callU rfl rfl c22_eq ?_
  by_cases hc:roomC B 0 50=0
  rotate_left
  · have hc':(roomC B 0 50==0)=false:=beq_eq_false_iff_ne.2 hc
    generalize roomC B 0 50=c at *
    simp (maxDischargeDepth:=12) only[c22,e1,hc',hv,ldO_one,stO_one,sy,tup,↓reduceIte,zA,zG,zC,zD,zF,zE,zB,zH,reduceCtorEq]
    exact⟨trivial,.inr trivial,_,rfl,hb1,t1,.inl ⟨hc,rfl⟩⟩
  have hrc:=hrc hc
  rw[hc] at e1 ⊢
  have b00:((0:Int)==0)=true:=rfl
  have o1:=t1.next
  have t2:=Turns.add Z G1 (.rows false 128 [[.blk 0,.blk 0]])
  have hg2:(G1.add (.rows false 128 [[.blk 0,.blk 0]])).get (.run G1.next)=some (.rows false 128 [arr2 (B.read 0 0) (B.read 0 1) 0]):=by rw[Heap.get_add,if_pos rfl];rfl
  obtain⟨G2,hG2⟩:∃ G2,G1.add (.rows false 128 [[.blk 0,.blk 0]])=G2:=⟨_,rfl⟩
  have n2:G2.next=G1.next+1:=by rw[← hG2];rfl
  rw[hG2] at t2 hg2
  have hb2:=(t2.same b (bo.mono o1) (fun h=>h)).trans hb1
  have hloop:=ulopen_reads hlf (K:=K) (G0:=G) (b:=b) (q:=G1.next) (B:=B) bo hf o1 hrc (n+6)
  simp (maxDischargeDepth:=12) only[c22,e1,b00,hG2,hv,ldO_one,stO_one,sy,tup,↓reduceIte,zA,zG,zC,zD,zF,zE,zB,zH,reduceCtorEq]
  refine wp_ctx (F:=fun r=>seqC _ _ _ (blockC _ r)) (hloop _ _ hb2 (t1.trans t2) (by omega) hg2 ?_ ?_ ?_ ?_ ?_ ?_) ?_
  · simp only[sy,tup,↓reduceIte,zA,zG,zC,zD,zF,zE,zB,zH,reduceCtorEq]
  · simp only[sy,tup,↓reduceIte,zA,zG,zC,zD,zF,zE,zB,zH,reduceCtorEq]
  · simp only[sy,tup,↓reduceIte,zA,zG,zC,zD,zF,zE,zB,zH,reduceCtorEq]
  · simp only[sy,tup,↓reduceIte,zA,zG,zC,zD,zF,zE,zB,zH,reduceCtorEq]
  · simp only[sy,tup,↓reduceIte,zA,zG,zC,zD,zF,zE,zB,zH,reduceCtorEq]
  · simp only[sy,tup,↓reduceIte,zA,zG,zC,zD,zF,zE,zB,zH,reduceCtorEq]
  rintro x ⟨t,G3,d⟩ ⟨rfl,hd,hg3,hb3,t3,q0,q1,q4,q5,q7⟩
  dsimp only at hd hg3 hb3 t3 q0 q1 q4 q5 q7
  subst hd
  obtain⟨X0,hX0⟩:∃ X0,X0=B.read 0 0:=⟨_,rfl⟩
  obtain⟨X1,hX1⟩:∃ X1,X1=B.read 0 1:=⟨_,rfl⟩
  rw[← hX0,← hX1] at hg3
  have l0:ldO (some (.rows false 128 [arr2 X0 X1 2])) 0 64=some [.blk X0]:=rfl
  have l1:ldO (some (.rows false 128 [arr2 X0 X1 2])) 64 64=some [.blk X1]:=rfl
  have hgl3:=(t3.same (.run 0) h00 (fun h=>h)).trans hgl
  have nn3:=t3.next
  obtain⟨v4,G4,e4,t4,h4⟩:=umnewest hlf hgl3 (by omega) X0 X1 (K:=K) n
  have nn4:=t4.next
  have hox:openX B=match newM X0 X1 with
    | none=>none
    | some X=>if((mkG X).R:Int)≤B.sectors 0 - 10∧sealN X≤2305843009213693952∧(mkG X).first≤2305843009213693952∧(mkG X).pos≤2305843009213693952 then some X else none:=by unfold openX;rw[← hX0,← hX1]
  have b70:((7:Int)==0)=false:=rfl
  have z4:put [V.int .u64 0,.int .i64 0,.int .u64 0,.int .u64 0] 0 (mkV 0 0 0 0)=some (mkV 0 0 0 0):=rfl
  have w4:width (mkV 0 0 0 0)=4:=rfl
  rcases h4 with ⟨hX,rfl⟩ | ⟨X,hX,rfl⟩
  · rw[hX] at hox
    have t5:Turns Z G4 ((G4.add (.rows false 4 [[.int .u64 0,.int .i64 0,.int .u64 0,.int .u64 0]])).set (.run G4.next) (.rows false 4 [mkV 0 0 0 0])):=by repeat (first | exact Turns.refl _ _ | apply Turns.skip | apply Turns.addm | apply Turns.setb | apply Turns.setl | apply Turns.setr | refine Turns.setn ?_ _ (by omega) _ | refine Turns.trans ?_ (tF _))
    obtain⟨G5,hG5⟩:∃ G5,(G4.add (.rows false 4 [[.int .u64 0,.int .i64 0,.int .u64 0,.int .u64 0]])).set (.run G4.next) (.rows false 4 [mkV 0 0 0 0])=G5:=⟨_,rfl⟩
    rw[hG5] at t5
    simp (maxDischargeDepth:=12) only[q0,q1,q4,q5,q7,hg3,l0,l1,e4,z4,w4,hG5,b70,iaddrAF,idxAF,hv,ldO_one,stO_one,sy,tup,↓reduceIte,zA,zG,zC,zD,zF,zE,zB,zH,reduceCtorEq]
    rw[endD_ok (by kernel_rfl) (by kernel_rfl)]
    simp (maxDischargeDepth:=12) only[hv,ldO_one,stO_one,sy,tup,↓reduceIte,zA,zG,zC,zD,zF,zE,zB,zH,reduceCtorEq]
    have tt:=(t3.trans t4).trans t5
    exact⟨trivial,.inr trivial,_,rfl,(tt.same b bo (fun h=>h)).trans hb,tt,.inr (.inl ⟨trivial,hox,rfl⟩)⟩
  rw[hX] at hox
  obtain⟨M,hM⟩:∃ M,M=mkG X:=⟨_,rfl⟩
  obtain⟨cnt,hcnt⟩:∃ cnt,cnt=sealN X:=⟨_,rfl⟩
  rw[← hM,← hcnt] at e4
  have wM:width M.V=4:=rfl
  have pM:put [V.int .u64 0,.int .i64 0,.int .u64 0,.int .u64 0] 0 M.V=some M.V:=rfl
  have c0:cut M.V 0 1=some [.int .u64 (M.id:Int)]:=rfl
  have c1:cut M.V 1 1=some [.int .i64 (M.R:Int)]:=rfl
  have c2:cut M.V 2 1=some [.int .u64 (M.first:Int)]:=rfl
  have c3:cut M.V 3 1=some [.int .u64 (M.pos:Int)]:=rfl
  have t5:Turns Z G4 ((G4.add (.rows false 4 [[.int .u64 0,.int .i64 0,.int .u64 0,.int .u64 0]])).set (.run G4.next) (.rows false 4 [M.V])):=by repeat (first | exact Turns.refl _ _ | apply Turns.skip | apply Turns.addm | apply Turns.setb | apply Turns.setl | apply Turns.setr | refine Turns.setn ?_ _ (by omega) _ | refine Turns.trans ?_ (tF _))
  have h5:((G4.add (.rows false 4 [[.int .u64 0,.int .i64 0,.int .u64 0,.int .u64 0]])).set (.run G4.next) (.rows false 4 [M.V])).get (.run G4.next)=some (.rows false 4 [M.V]):=by rw[Heap.get_set,if_pos rfl]
  obtain⟨G5,hG5⟩:∃ G5,(G4.add (.rows false 4 [[.int .u64 0,.int .i64 0,.int .u64 0,.int .u64 0]])).set (.run G4.next) (.rows false 4 [M.V])=G5:=⟨_,rfl⟩
  have nn5:G5.next=G4.next+1:=by rw[← hG5];rfl
  rw[hG5] at t5 h5
  have tG5:=(t3.trans t4).trans t5
  have hb5:=(tG5.same b bo (fun h=>h)).trans hb
  have eS:=qSectors (lf:=lf) (K:=K) (w:=n+6) hb5 hf 0
  obtain⟨S,hS⟩:∃ S,S=B.sectors 0:=⟨_,rfl⟩
  rw[← hS] at eS hox hs
  have hS50:50≤S:=by
    rw[hS]
    unfold roomC at hc
    split at hc
    · cases hc
    · rename_i h;omega
  have wS:IntKind.i64.wrap (S - 10)=S - 10:=Go.Am.wrap_i64 (by omega)
  have h5s:(G5.skip (K+2)).get (.run G4.next)=some (.rows false 4 [M.V]):=by rw[get_skip];exact h5
  obtain⟨Q,hQ⟩:∃ Q:List (Option V × Option V),Q=[(loadF (.t (Tr.path 52)) 1 .sc (Tr.setP (Tr.path 52) (.ptr (some ⟨.run G4.next,1⟩)) .e) G5,some (.int .i64 (M.R:Int))),(loadF (.t (Tr.path 52)) 1 .sc (Tr.setP (Tr.path 52) (.ptr (some ⟨.run G4.next,1⟩)) .e) (G5.skip (K+2)),some (.int .i64 (M.R:Int)))]:=⟨_,rfl⟩
  have hQ':∀ x ∈ Q,x.1=x.2:=by
    rw[hQ]
    intro x hx
    simp only[List.mem_cons,List.not_mem_nil,or_false] at hx
    rcases hx with rfl | rfl<;>simp (maxDischargeDepth:=12) only[h5,h5s,c1,hv,ldO_one,stO_one,sy,tup,↓reduceIte,zA,zG,zC,zD,zF,zE,zB,zH,reduceCtorEq]
  have ts:Turns Z G5 (G5.skip (K+2)):=(Turns.refl Z G5).skip _
  have t6:Turns Z G ((G5.skip (K+2)).owe Q):=(tG5.trans ts).owe hQ'
  have h6:((G5.skip (K+2)).owe Q).get (.run G4.next)=some (.rows false 4 [M.V]):=by rw[get_owe];exact h5s
  obtain⟨mx,hmx,hmxL⟩:=foldV_max3 (cnt:Int) (M.first:Int) (M.pos:Int)
  obtain⟨G6,hG6⟩:∃ G6,(G5.skip (K+2)).owe Q=G6:=⟨_,rfl⟩
  have nn6:G6.next=G5.next+(K+2):=by rw[← hG6];rfl
  rw[hG6] at t6 h6
  have hb6:=(t6.same b bo (fun h=>h)).trans hb
  dsimp only at hox
  rw[← hM,← hcnt] at hox
  by_cases hRs:S - 10 < (M.R:Int)
  · have hno:openX B=none:=hox.trans (if_neg (fun h=>by omega))
    simp (maxDischargeDepth:=12) only[q0,q1,q4,q5,q7,hg3,l0,l1,e4,pM,wM,hG5,b00,h5,c1,eS,wS,hRs,iaddrAF,idxAF,hv,ldO_one,stO_one,sy,tup,↓reduceIte,zA,zG,zC,zD,zF,zE,zB,zH,reduceCtorEq]
    rw[endD_q (q:=Q) (by kernel_rfl) (by rw[hQ];kernel_rfl),hG6]
    simp (maxDischargeDepth:=12) only[hv,ldO_one,stO_one,sy,tup,↓reduceIte,zA,zG,zC,zD,zF,zE,zB,zH,reduceCtorEq]
    exact⟨trivial,.inr trivial,_,rfl,hb6,t6,.inr (.inl ⟨trivial,hno,rfl⟩)⟩
  by_cases hML:2305843009213693952 < mx
  · have hno:openX B=none:=hox.trans (if_neg (fun h=>by omega))
    simp (maxDischargeDepth:=12) only[q0,q1,q4,q5,q7,hg3,l0,l1,e4,pM,wM,hG5,b00,h5,h5s,c1,c2,c3,eS,wS,hRs,hmx,hML,foldF,iaddrAF,idxAF,hv,ldO_one,stO_one,sy,tup,↓reduceIte,zA,zG,zC,zD,zF,zE,zB,zH,reduceCtorEq]
    rw[endD_q (q:=Q) (by kernel_rfl) (by rw[hQ];kernel_rfl),hG6]
    simp (maxDischargeDepth:=12) only[hv,ldO_one,stO_one,sy,tup,↓reduceIte,zA,zG,zC,zD,zF,zE,zB,zH,reduceCtorEq]
    exact⟨trivial,.inr trivial,_,rfl,hb6,t6,.inr (.inl ⟨trivial,hno,rfl⟩)⟩
  have hyes:openX B=some X:=hox.trans (if_pos (by omega))
  have hmayM:(40≤M.R∧M.R≤256)∧M.id≠0∧1≤M.first:=by
    have:=newM_ok hlf hX
    rw[← hM] at this
    have:=of_decide_eq_true this
    omega
  have hbl:M.id < 18446744073709551616∧M.R < 65536:=by rw[hM];exact⟨bd_lt X 0,bd_lt X 8⟩
  have t7:Turns Z G6 (G6.add (.rows false 9 [lcells b M.id M.R cnt M.first M.pos M.pos (.slice none 0 0 0)])):=by repeat (first | exact Turns.refl _ _ | apply Turns.skip | apply Turns.addm | apply Turns.setb | apply Turns.setl | apply Turns.setr | refine Turns.setn ?_ _ (by omega) _ | refine Turns.trans ?_ (tF _))
  have h7:(G6.add (.rows false 9 [lcells b M.id M.R cnt M.first M.pos M.pos (.slice none 0 0 0)])).get (.run G6.next)=some (.rows false 9 [lcells b M.id M.R cnt M.first M.pos M.pos (.slice none 0 0 0)]):=by rw[Heap.get_add,if_pos rfl]
  obtain⟨G7,hG7⟩:∃ G7,G6.add (.rows false 9 [[.ptr (some ⟨b,0⟩),.int .i64 0,.int .u64 (M.id:Int),.int .i64 (M.R:Int),.int .u64 (cnt:Int),.int .u64 (M.first:Int),.int .u64 (M.pos:Int),.int .u64 (M.pos:Int),.slice none 0 0 0]])=G7:=⟨_,rfl⟩
  change Turns Z G6 (G6.add (.rows false 9 [[.ptr (some ⟨b,0⟩),.int .i64 0,.int .u64 (M.id:Int),.int .i64 (M.R:Int),.int .u64 (cnt:Int),.int .u64 (M.first:Int),.int .u64 (M.pos:Int),.int .u64 (M.pos:Int),.slice none 0 0 0]])) at t7
  change (G6.add (.rows false 9 [[.ptr (some ⟨b,0⟩),.int .i64 0,.int .u64 (M.id:Int),.int .i64 (M.R:Int),.int .u64 (cnt:Int),.int .u64 (M.first:Int),.int .u64 (M.pos:Int),.int .u64 (M.pos:Int),.slice none 0 0 0]])).get _=_ at h7
  have nn7:G7.next=G6.next+1:=by rw[← hG7];rfl
  rw[hG7] at t7 h7
  have hb7:=(t7.same b (bo.mono t6.next) (fun h=>h)).trans hb6
  have c0':cut M.V 0 1=some [.int .u64 (M.id:Int)]:=rfl
  have hloop:=ulopen_loop hlf (K:=K) (G0:=G) (l:=.run G6.next) (b:=b) (lx:=G6.next) rfl t6.next (id:=M.id) (R:=M.R) (cnt:=cnt) (first:=M.first) (tail:=M.pos) (B:=B) hf bo (by omega) (by omega) (by omega) hrc n
  simp (maxDischargeDepth:=12) only[q0,q1,q4,q5,q7,hg3,l0,l1,e4,pM,wM,hG5,b00,h5,h5s,c1,c2,c3,eS,wS,hRs,hmx,hML,foldF,iaddrAF,idxAF,hv,ldO_one,stO_one,sy,tup,↓reduceIte,zA,zG,zC,zD,zF,zE,zB,zH,reduceCtorEq]
  rw[endD_q (q:=Q) (by kernel_rfl) (by rw[hQ];kernel_rfl),hG6]
  simp (maxDischargeDepth:=12) only[q0,q1,q4,q5,h6,c0,c1,c2,c3,hG7,hv,ldO_one,stO_one,sy,tup,↓reduceIte,zA,zG,zC,zD,zF,zE,zB,zH,reduceCtorEq]
  refine wp_ctx (F:=fun r=>seqC _ _ _ (blockC _ r)) (hloop _ _ h7 (by show _ < _;omega) hb7 (t6.trans t7) ?_ ?_ ?_ ?_) ?_
  · simp (maxDischargeDepth:=12) only[q0,hv,ldO_one,stO_one,sy,tup,↓reduceIte,zA,zG,zC,zD,zF,zE,zB,zH,reduceCtorEq]
  · simp (maxDischargeDepth:=12) only[q1,hv,ldO_one,stO_one,sy,tup,↓reduceIte,zA,zG,zC,zD,zF,zE,zB,zH,reduceCtorEq]
  · simp only[sy,tup,↓reduceIte,zA,zG,zC,zD,zF,zE,zB,zH,reduceCtorEq]
  · simp only[sy,tup,↓reduceIte,zA,zG,zC,zD,zF,zE,zB,zH,reduceCtorEq]
  rintro x ⟨t,G8,d⟩ ⟨rfl,hd,q13,hb8,t8,lv,hL,hbof⟩
  dsimp only at hd q13 hb8 t8 hL
  subst hd
  simp (maxDischargeDepth:=12) only[q13,hv,ldO_one,stO_one,sy,tup,↓reduceIte,zA,zG,zC,zD,zF,zE,zB,zH,reduceCtorEq]
  rw[hM,hcnt] at hL
  exact⟨trivial,.inr trivial,_,rfl,hb8,t8,.inr (.inr ⟨trivial,X,_,lv,hyes,rfl,Heap.not_old t6.next,hbof,hL⟩)⟩
end
end Go.Proofs.YtabebpemfinejaaDoor.draft
namespace Go.Proofs.YtabebpemfinejaaDoor.draft
open Go.Am
open disk (bx Fit A1 R1 Low Bn)
structure Opn (R cnt first tail head:Nat) (N:List Nt) (S:List Nat):Prop where
 len:S.length=R+10
 hR:40≤R∧R≤255
 hcnt:1≤cnt∧cnt≤60
 f:1≤first∧first+N.length≤60
 nl:N.length≤8
 ch:Chain first tail N head
 rg:Rg R tail head
 hd:head≤2040
 mark:S.getD (cnt % 2) 0=markB cnt 7 R first tail
 ot:markOk (S.getD ((cnt+1) % 2) 0)=true→sealN (S.getD ((cnt+1) % 2) 0) < cnt
 nt:∀ i (h:i < N.length),S.getD (2+(first+i) % 8) 0=noteB N[i]
 nx:N.length < 8→noteOk (S.getD (2+(first+N.length) % 8) 0)=true→(ntG (S.getD (2+(first+N.length) % 8) 0)).seq≠first+N.length
theorem devB_rd (S:List Nat) (st:Nat) {n:Nat} (hn:n < S.length):(devB S [] st).read 0 (n:Int)=S.getD n 0:=by
 unfold disk.Bn.read
 rw[if_pos (show (devB S [] st).lc 0=0 from rfl)]
 show disk.Dev.read ⟨S,[],false⟩ (n:Int)=_
 unfold disk.Dev.read
 rw[if_pos (disk.code_ok (D:=⟨S,[],false⟩) (by show ¬ ((n:Int) < 0∨(S.length:Int)≤(n:Int));omega) rfl)]
 rfl
theorem Chain.one {f p f' p' h:Nat}:∀ {N:List Nt},Chain f p N h→Chain f' p' N h→p=p'
 | [],a,b=>Eq.trans a b.symm
 | n::N,⟨_,a,_⟩,⟨_,b,_⟩=>a.symm.trans b
theorem Chain.at {N:List Nt} {f p h:Nat} (c:Chain f p N h) {i:Nat} (hi:i < N.length):N[i].seq=f+i∧N[i].pos=posAt N h i∧(1≤N[i].cells∧N[i].cells≤32)∧N[i].sum < 4294967296∧posAt N h (i+1)=posAt N h i+recS N[i].cells∧posAt N h (i+1)≤h∧p≤posAt N h i:=by
 obtain⟨d1,d2⟩:=c.drop i (by omega)
 obtain⟨e1,e2⟩:=c.drop (i+1) (by omega)
 rw[List.drop_eq_getElem_cons hi] at d1
 obtain⟨a,b,b2,b3,b4⟩:=d1
 exact⟨a,b,b2,b3,e1.one b4,e1.le,d2⟩
section
variable {R cnt first tail head:Nat} {N:List Nt} {S:List Nat} (h:Opn R cnt first tail head N S)
include h
theorem Opn.mkok:MkOk 7 R first tail:=by
 obtain⟨_,h2,_,h4,_,_,h7,h8,_⟩:=h
 exact⟨by decide,⟨h2.1,by omega⟩,⟨h4.1,by omega⟩,by have:=h7.th;omega⟩
theorem Opn.ntok {i:Nat} (hi:i < N.length):NtOk N[i]:=by
 obtain⟨a,b,c,d,e,f,g⟩:=h.ch.at hi
 have h4:=h.f
 have h8:=h.hd
 exact⟨⟨by omega,by omega⟩,by omega,c,d⟩
theorem Opn.newest:newM (S.getD 0 0) (S.getD 1 0)=some (markB cnt 7 R first tail):=by
 have hc:=h.hcnt
 obtain⟨m1,m2,m3,_⟩:=mark_back (cnt:=cnt) ⟨hc.1,by omega⟩ h.mkok
 have hm:=h.mark
 have ho:=h.ot
 have:cnt % 2=0∨cnt % 2=1:=by omega
 unfold newM
 rcases this with e | e
 ·have e2:(cnt+1) % 2=1:=by omega
  rw[e] at hm
  rw[e2] at ho
  rw[hm,m1,m2]
  cases hB:markOk (S.getD 1 0)
  ·rfl
  ·have:=ho hB
   show (if cnt < sealN (S.getD 1 0) then _ else _)=_
   rw[if_neg (by omega)]
 ·have e2:(cnt+1) % 2=0:=by omega
  rw[e] at hm
  rw[e2] at ho
  rw[hm,m1,m2]
  cases hB:markOk (S.getD 0 0)
  ·rfl
  ·have:=ho hB
   show (if sealN (S.getD 0 0) < cnt then _ else _)=_
   rw[if_pos this]
theorem Opn.goes {rd:Nat→Nat} (hrd:∀ j,j < 10→rd j=S.getD j 0):∀ k i,i+k=8→i≤N.length→goN rd R first tail k (N.take i) (posAt N head i)=(N,head)
 | 0,i,e,hi=>by
  have:i=N.length:=by have:=h.nl;omega
  subst this
  show (N.take N.length,posAt N head N.length)=_
  rw[List.take_length,posAt_ge (Nat.le_refl _)]
 | k+1,i,e,hi=>by
  have hl:(N.take i).length=i:=by rw[List.length_take];omega
  rw[goN,hl,hrd _ (by omega)]
  by_cases hlt:i < N.length
  ·obtain⟨a1,a2,a3,a4,a5,a6,a7⟩:=h.ch.at hlt
   obtain⟨b1,b2,_⟩:=note_back (h.ntok hlt)
   have hrg:=h.rg
   have hrm:roomR R tail (posAt N head i) (recS N[i].cells)=true:=by
    unfold roomR
    rw[Bool.and_eq_true,decide_eq_true_eq,decide_eq_true_eq]
    have:=hrg.le
    have:=h.hd
    omega
   have hok:nextOk R first tail i (posAt N head i) (noteB N[i])=true:=by
    unfold nextOk
    rw[b1,b2,decide_eq_true a1,decide_eq_true a2,hrm];rfl
   rw[h.nt i hlt,hok,b2,← a5]
   show goN rd R first tail k (N.take i++[N[i]]) (posAt N head (i+1))=_
   rw[List.take_append_getElem hlt]
   exact Opn.goes hrd k (i+1) (by omega) hlt
  ·have hiN:i=N.length:=by omega
   have hno:nextOk R first tail i (posAt N head i) (S.getD (2+(first+i) % 8) 0)=false:=by
    have hx:=h.nx (by omega)
    rw[← hiN] at hx
    unfold nextOk
    cases hk:noteOk (S.getD (2+(first+i) % 8) 0)
    ·rfl
    ·rw[decide_eq_false (hx hk)];rfl
   rw[hno]
   show (N.take i,posAt N head i)=_
   rw[hiN,List.take_length,posAt_ge (Nat.le_refl _)]
theorem Opn.opens (st:Nat):openX (devB S [] st)=some (markB cnt 7 R first tail)∧sealN (markB cnt 7 R first tail)=cnt∧mkG (markB cnt 7 R first tail)=⟨7,R,first,tail⟩∧goN (fun j=>(devB S [] st).read 0 (j:Int)) R first tail 8 [] tail=(N,head)∧roomC (devB S [] st) 0 50=0∧∀ j:Nat,j < 10→(devB S [] st).rc 0 (j:Int)=0:=by
 have hc:=h.hcnt
 have hR:=h.hR
 have hl:=h.len
 have hf:=h.f
 have hrg:=h.rg
 have hhd:=h.hd
 obtain⟨m1,m2,m3,_⟩:=mark_back (cnt:=cnt) ⟨hc.1,by omega⟩ h.mkok
 have hs:(devB S [] st).sectors 0=((R+10:Nat):Int):=by rw[← hl];rfl
 refine⟨?_,m2,m3,?_,?_,fun j hj=>devB_rc S [] st (by omega)⟩
 ·unfold openX
  have r0:(devB S [] st).read 0 0=S.getD 0 0:=devB_rd S st (n:=0) (by omega)
  have r1:(devB S [] st).read 0 1=S.getD 1 0:=devB_rd S st (n:=1) (by omega)
  rw[r0,r1,h.newest]
  dsimp only
  rw[m3,m2,hs]
  exact if_pos ⟨by show (R:Int)≤_;omega,by omega,by show first≤_;omega,by show tail≤_;have:=hrg.th;omega⟩
 ·have:=h.goes (rd:=fun j=>(devB S [] st).read 0 (j:Int)) (fun j hj=>devB_rd S st (by omega)) 8 0 (by omega) (Nat.zero_le _)
  rw[List.take_zero] at this
  have hp:posAt N head 0=tail:=by
   obtain⟨d1,_⟩:=h.ch.drop 0 (Nat.zero_le _)
   exact Chain.one d1 h.ch
  rw[hp] at this
  exact this
 ·unfold roomC
  rw[hs]
  exact if_neg (by
   intro hh
   rcases hh with hh | hh | hh
   ·omega
   ·have:((devB S [] st).l.length:Int)=1:=rfl
    omega
   ·omega)
end
end Go.Proofs.YtabebpemfinejaaDoor.draft
namespace Go.Proofs.YtabebpemfinejaaDoor.draft
open Go.Am
open disk (bx Fit A1 R1 Low Bn)
def OldM (R cnt X:Nat):Prop:=X=0∨(2≤cnt∧∃ f p,MkOk 7 R f p∧X=markB (cnt - 1) 7 R f p)
def OldN (first X:Nat):Prop:=X=0∨∃ nt,NtOk nt∧nt.seq < first∧X=noteB nt
structure Std (R cnt first tail head:Nat) (N:List Nt) (C:List (List Cl)) (S:List Nat):Prop where
 op:Opn R cnt first tail head N S
 om:OldM R cnt (S.getD ((cnt+1) % 2) 0)
 on:∀ s,s < 8→(∀ i,i < N.length→(first+i) % 8≠s)→OldN first (S.getD (2+s) 0)
 held:Held R S N C
theorem oldm_no {R cnt X:Nat} (hc:cnt≤60) (h:OldM R cnt X) (hk:markOk X=true):sealN X < cnt:=by
 unfold OldM at h
 refine h.elim (fun e=>?_) (fun e=>?_)
 ·rw[e,mark_bad seal0] at hk;exact absurd hk (by decide)
 ·obtain⟨h2,f,p,hm,e⟩:=e
  obtain⟨_,e2,_⟩:=mark_back (cnt:=cnt - 1) ⟨by omega,by omega⟩ hm
  rw[e,e2];omega
theorem oldn_no {first X:Nat} (h:OldN first X) (hk:noteOk X=true):(ntG X).seq < first:=by
 unfold OldN at h
 refine h.elim (fun e=>?_) (fun e=>?_)
 ·rw[e,note_bad seal0] at hk;exact absurd hk (by decide)
 ·obtain⟨nt,hn,hs,e⟩:=e
  rw[e,(note_back hn).2.1];exact hs
theorem oldm_plain {R cnt X:Nat} (hc:cnt≤60) (h:OldM R cnt X):∃ n,Plain X n∧n < cnt+1:=by
 unfold OldM at h
 refine h.elim (fun e=>?_) (fun e=>?_)
 ·exact⟨0,by rw[e];exact plain0,by omega⟩
 ·obtain⟨h2,f,p,hm,e⟩:=e
  exact⟨cnt - 1,by rw[e];exact(mark_back (cnt:=cnt - 1) ⟨by omega,by omega⟩ hm).2.2.2.plain (by omega),by omega⟩
theorem oldn_plain {first X:Nat} (hf:first≤60) (h:OldN first X):∃ n,Plain X n∧(n < first∨n=0):=by
 unfold OldN at h
 refine h.elim (fun e=>?_) (fun e=>?_)
 ·exact⟨0,by rw[e];exact plain0,.inr rfl⟩
 ·obtain⟨nt,hn,hs,e⟩:=e
  exact⟨nt.seq,by rw[e];exact(note_back hn).2.2.plain (by omega),.inl hs⟩
theorem slot_ne {first n i:Nat} (hn:n < 8) (hi:i < n):(first+i) % 8≠(first+n) % 8:=by omega
theorem std_of {R cnt first tail head:Nat} {N:List Nt} {C:List (List Cl)} {S:List Nat} (len:S.length=R+10) (hR:40≤R∧R≤255) (hcnt:1≤cnt∧cnt≤60) (f:1≤first∧first+N.length≤60) (nl:N.length≤8) (ch:Chain first tail N head) (rg:Rg R tail head) (hd:head≤2040) (mark:S.getD (cnt % 2) 0=markB cnt 7 R first tail) (nt:∀ i (h:i < N.length),S.getD (2+(first+i) % 8) 0=noteB N[i])
  (om:OldM R cnt (S.getD ((cnt+1) % 2) 0)) (on:∀ s,s < 8→(∀ i,i < N.length→(first+i) % 8≠s)→OldN first (S.getD (2+s) 0)) (held:Held R S N C):Std R cnt first tail head N C S:=
 ⟨⟨len,hR,hcnt,f,nl,ch,rg,hd,mark,oldm_no hcnt.2 om,nt,fun h hk=>by
  have:=oldn_no (on _ (Nat.mod_lt _ (by decide)) (fun i hi=>slot_ne h hi)) hk
  omega⟩,om,on,held⟩
theorem Opn.of {R cnt first tail head:Nat} {N:List Nt} {S S':List Nat} (h:Opn R cnt first tail head N S) (len:S'.length=S.length) (mk:S'.getD (cnt % 2) 0=S.getD (cnt % 2) 0) (ot:markOk (S'.getD ((cnt+1) % 2) 0)=true→sealN (S'.getD ((cnt+1) % 2) 0) < cnt) (nt:∀ i,i < N.length→S'.getD (2+(first+i) % 8) 0=S.getD (2+(first+i) % 8) 0) (nx:N.length < 8→noteOk (S'.getD (2+(first+N.length) % 8) 0)=true→(ntG (S'.getD (2+(first+N.length) % 8) 0)).seq≠first+N.length):Opn R cnt first tail head N S':=
 ⟨by rw[len];exact h.len,h.hR,h.hcnt,h.f,h.nl,h.ch,h.rg,h.hd,by rw[mk];exact h.mark,ot,fun i hi=>by rw[nt i hi];exact h.nt i hi,nx⟩
theorem Opn.same {R cnt first tail head:Nat} {N:List Nt} {S S':List Nat} (h:Opn R cnt first tail head N S) (len:S'.length=S.length) (hS:∀ n,n < 10→S'.getD n 0=S.getD n 0):Opn R cnt first tail head N S':=
 h.of len (hS _ (by omega)) (by rw[hS _ (by omega)];exact h.ot) (fun i _=>hS _ (by omega)) (by rw[hS _ (by omega)];exact h.nx)
section
variable {R cnt first tail head:Nat} {N:List Nt} {C:List (List Cl)} {S:List Nat} (h:Std R cnt first tail head N C S)
include h
theorem Std.clear {f:Nat} (hf:first≤f∧f≤first+N.length) (hc:cnt < 60):Std R (cnt+1) f (posAt N head (f - first)) head (N.drop (f - first)) (C.drop (f - first)) (S.set ((cnt+1) % 2) (markB (cnt+1) 7 R f (posAt N head (f - first)))):=by
 obtain⟨op,om,on,held⟩:=h
 have hl:=op.len
 have hR:=op.hR
 have hcn:=op.hcnt
 have hff:=op.f
 have hrg:=op.rg
 obtain⟨g,hg⟩:∃ g,g=f - first:=⟨_,rfl⟩
 have hfg:f=first+g:=by omega
 obtain⟨d1,d2⟩:=op.ch.drop g (by omega)
 rw[← hg]
 have hle:=d1.le
 have gs:∀ n,(S.set ((cnt+1) % 2) (markB (cnt+1) 7 R f (posAt N head g))).getD n 0=if n=(cnt+1) % 2 then markB (cnt+1) 7 R f (posAt N head g) else S.getD n 0:=fun n=>getD_set _ _ _ _ (by omega)
 refine std_of (by rw[List.length_set,hl]) hR ⟨by omega,by omega⟩ ⟨by omega,by rw[List.length_drop];omega⟩ (by rw[List.length_drop];have:=op.nl;omega) (by rw[hfg];exact d1) ⟨hrg.r,hle,hrg.hm,by have:=hrg.le;omega⟩ op.hd ?_ ?_ ?_ ?_ ?_
 ·rw[gs,if_pos rfl]
 ·intro i hi
  rw[List.length_drop] at hi
  rw[gs,if_neg (by omega),List.getElem_drop,hfg,Nat.add_assoc]
  exact op.nt (g+i) (by omega)
 ·rw[gs,if_neg (by omega),show (cnt+1+1) % 2=cnt % 2 by omega,op.mark]
  exact .inr ⟨by omega,first,tail,op.mkok,rfl⟩
 ·intro s hs hn
  rw[gs,if_neg (by omega)]
  by_cases hx:∃ i,i < N.length∧(first+i) % 8=s
  ·obtain⟨i,hi,rfl⟩:=hx
   have hig:i < g:=by
    by_cases hig:i < g
    ·exact hig
    ·exfalso
     refine hn (i - g) (by rw[List.length_drop];omega) ?_
     rw[hfg,show first+g+(i - g)=first+i by omega]
   right
   refine⟨N[i],op.ntok hi,?_,op.nt i hi⟩
   have:=(op.ch.at hi).1
   omega
  ·refine(on s hs (fun i hi e=>hx ⟨i,hi,e⟩)).elim (fun e=>.inl e) (fun e=>?_)
   obtain⟨nt,a,b,c⟩:=e
   exact .inr ⟨nt,a,by omega,c⟩
 ·exact(held.drop g).same (fun n hn=>by rw[gs,if_neg (by omega)])
theorem Std.rec_same {k:Nat} {S':List Nat} (hk:head - tail+k≤R) (hS:∀ n,(∀ j,j < k→(head+j) % R+10≠n)→S'.getD n 0=S.getD n 0):Held R S' N C:=
 ⟨h.held.len,fun i h1 h2=>by
  obtain⟨e1,e2,e3,e4⟩:=h.held.recs i h1 h2
  refine⟨e1,e2,e3,fun j hj=>?_⟩
  rw[hS _ (fun q hq=>?_)]
  ·exact e4 j hj
  ·obtain⟨a1,a2,a3,a4,a5,a6,a7⟩:=h.op.ch.at h1
   rw[recL_len,e1] at hj
   have:=mod_ne (R:=R) (a:=N[i].pos+j) (b:=head+q) (by omega) (by omega)
   omega⟩
end
end Go.Proofs.YtabebpemfinejaaDoor.draft
namespace Go.Proofs.YtabebpemfinejaaDoor.draft
open Go.Am
open disk (bx Fit A1 R1 Low Bn)
section
variable {R cnt first tail head:Nat} {N:List Nt} {C:List (List Cl)} {S:List Nat} (h:Std R cnt first tail head N C S)
include h
theorem Std.append {cs:List Cl} (hf:∀ c ∈ cs,Fine c) (h32:1≤cs.length∧cs.length≤32) (hr:roomN R tail head N cs=true) (hfn:first+N.length < 60) (hhd:head+recS cs.length≤2040):Std R cnt first tail (head+recS cs.length) (N++[ntOf first head N cs]) (C++[cs]) (appS S R head (recL cs) (ntOf first head N cs)):=by
 obtain⟨op,om,on,held⟩:=h
 have hl:=op.len
 have hR:=op.hR
 have hrg:=op.rg
 obtain⟨n,hn⟩:∃ n,n=ntOf first head N cs:=⟨_,rfl⟩
 have n1:n.seq=first+N.length:=by rw[hn];rfl
 have n2:n.pos=head:=by rw[hn];rfl
 have n3:n.cells=cs.length:=by rw[hn];rfl
 have n4:n.sum=sumB (recL cs):=by rw[hn];rfl
 have hroom:N.length < 8∧recS cs.length≤R - (head - tail):=by
  unfold roomN roomR at hr
  simp only[Bool.and_eq_true,decide_eq_true_eq] at hr
  exact⟨hr.2,hr.1.1⟩
 have hle:=hrg.le
 have hth:=hrg.th
 rw[← hn]
 obtain⟨S1,hS1⟩:∃ S1,S1=disk.flushS S (recW R head (recL cs)):=⟨_,rfl⟩
 have l1:S1.length=R+10:=by rw[hS1,disk.flushS_length,hl]
 have low:∀ m,m < 10→S1.getD m 0=S.getD m 0:=fun m hm=>by rw[hS1];exact recW_miss (fun j hj=>by omega)
 have gs:∀ m,(appS S R head (recL cs) n).getD m 0=if m=2+n.seq % 8 then noteB n else S1.getD m 0:=fun m=>by
  unfold appS
  rw[← hS1]
  exact getD_set _ _ _ _ (by omega)
 have hl2:(appS S R head (recL cs) n).length=R+10:=by unfold appS;rw[List.length_set,← hS1,l1]
 refine std_of hl2 hR op.hcnt ⟨op.f.1,by rw[List.length_append,List.length_singleton];omega⟩ (by rw[List.length_append,List.length_singleton];omega) (op.ch.app n1 n2 (by omega) (by rw[n4];exact sumB_lt _) |> fun c=>by rw[n3] at c;exact c) ⟨hrg.r,by omega,by omega,by omega⟩ hhd ?_ ?_ ?_ ?_ ?_
 ·rw[gs,if_neg (by omega),low _ (by omega)];exact op.mark
 ·intro i hi
  rw[List.length_append,List.length_singleton] at hi
  rw[gs,n1]
  by_cases e:i < N.length
  ·have:=slot_ne (first:=first) hroom.1 e
   rw[if_neg (by omega),low _ (by omega),List.getElem_append_left e]
   exact op.nt i e
  ·have e:i=N.length:=by omega
   subst e
   rw[if_pos rfl,List.getElem_append_right (Nat.le_refl _)]
   simp
 ·rw[gs,if_neg (by omega),low _ (by omega)];exact om
 ·intro s hs hx
  rw[gs,n1]
  have h1:=hx N.length (by rw[List.length_append,List.length_singleton];omega)
  rw[if_neg (by omega),low _ (by omega)]
  exact on s hs (fun i hi=>hx i (by rw[List.length_append];omega))
 ·have hh:=held.app (f:=first) (t:=tail) op.ch hf (by omega) (by omega) n2 n3 n4
  rw[← hS1] at hh
  exact hh.same (fun m hm=>by rw[gs,if_neg (by omega)])
def Was (R cnt first tail head:Nat) (N:List Nt) (C:List (List Cl)) (S:List Nat):Prop:=Opn R cnt first tail head N S∧Held R S N C
theorem Std.was:Was R cnt first tail head N C S:=⟨h.op,h.held⟩
theorem Std.clear_cut {f:Nat} (hf:first≤f∧f≤first+N.length) (hc:cnt < 60) {x:Nat} (hx:x=markB (cnt+1) 7 R f (posAt N head (f - first))) {k:Nat} (hk:k≤1) (P:List Int) {S1:List Nat} (hS1:S1=disk.crashS (stepsD (S,[]) (([.wr ((cnt+1) % 2) x,.fl]:List Stp).take k)).1 ((stepsD (S,[]) (([.wr ((cnt+1) % 2) x,.fl]:List Stp).take k)).2.zip P)) :
  Was R cnt first tail head N C S1∨Was R (cnt+1) f (posAt N head (f - first)) head (N.drop (f - first)) (C.drop (f - first)) S1:=by
 have hl:=h.op.len
 have hR:=h.op.hR
 have hcn:=h.op.hcnt
 have:k=0∨k=1:=by omega
 rcases this with rfl | rfl
 ·have e:S1=S:=hS1
  rw[e]
  exact .inl h.was
 ·have e:S1=disk.crashS S ([((cnt+1) % 2,x)].zip P):=hS1
  obtain⟨q,hq,e2⟩:=crashS_one (S:=S) (m:=(cnt+1) % 2) (x:=x) (by omega) P
  rw[e2] at e
  have cl:=h.clear hf hc
  rw[← hx] at cl
  obtain⟨n,hpl,hn⟩:=oldm_plain hcn.2 h.om
  have hnew:Plain x (cnt+1):=by
   rw[hx]
   have hm:=cl.op.mkok
   exact(mark_back (cnt:=cnt+1) ⟨by omega,by omega⟩ hm).2.2.2.plain (by omega)
  rcases torn hpl hnew (by omega) hq with et | et | et
  ·left
   have gs:∀ m,S1.getD m 0=S.getD m 0:=fun m=>by
    rw[e,getD_set _ _ _ _ (by omega),et]
    split
    ·rename_i e3;rw[e3]
    ·rfl
   exact⟨h.op.same (by rw[e,List.length_set]) (fun m _=>gs m),h.held.same (fun m _=>gs m)⟩
  ·right
   rw[et] at e
   rw[e]
   exact cl.was
  ·left
   have gs:∀ m,S1.getD m 0=if m=(cnt+1) % 2 then disk.tornN (S.getD ((cnt+1) % 2) 0) x q else S.getD m 0:=fun m=>by
    rw[e,getD_set _ _ _ _ (by omega)]
   refine⟨h.op.of (by rw[e,List.length_set]) (by rw[gs,if_neg (by omega)]) (fun hk=>?_) (fun i _=>by rw[gs,if_neg (by omega)]) (by rw[gs,if_neg (by omega)];exact h.op.nx),h.held.same (fun m _=>by rw[gs,if_neg (by omega)])⟩
   rw[gs,if_pos rfl,mark_bad et] at hk
   cases hk
end
theorem recW_take (R p:Nat) (A:List Nat) (k:Nat):∀ w ∈ (recW R p A).take k,∃ j,j < A.length∧w.1=(p+j) % R+10:=fun w hw=>by
 obtain⟨j,hj,rfl⟩:=List.mem_map.1 (List.mem_of_mem_take hw)
 exact⟨j,List.mem_range.1 hj,rfl⟩
end Go.Proofs.YtabebpemfinejaaDoor.draft
namespace Go.Proofs.YtabebpemfinejaaDoor.draft
open Go.Am
open disk (bx Fit A1 R1 Low Bn)
theorem stepsD_wrs (S:List Nat):∀(W L:List (Nat × Nat)),stepsD (S,L) (W.map fun w=>Stp.wr w.1 w.2)=(S,L++W)
 | [],L=>by rw[List.append_nil];rfl
 | w::W,L=>by
  show stepsD (S,L++[(w.1,w.2)]) (W.map fun w=>Stp.wr w.1 w.2)=_
  rw[stepsD_wrs S W,List.append_assoc];rfl
theorem recT_wrs (R p:Nat) (A:List Nat):recT R p A=(recW R p A).map fun w=>Stp.wr w.1 w.2:=by
 unfold recT recW
 rw[List.map_map];rfl
section
variable {R cnt first tail head:Nat} {N:List Nt} {C:List (List Cl)} {S:List Nat} (h:Std R cnt first tail head N C S)
include h
theorem Std.append_cut {cs:List Cl} (hf:∀ c ∈ cs,Fine c) (h32:1≤cs.length∧cs.length≤32) (hr:roomN R tail head N cs=true) (hfn:first+N.length < 60) (hhd:head+recS cs.length≤2040) {k:Nat} (hk:k≤recS cs.length+2) (P:List Int) {X:List Nat × List (Nat × Nat)} (hX:X=stepsD (S,[]) ((appT R head (recL cs) (ntOf first head N cs)).take k)) {S1:List Nat} (hS1:S1=disk.crashS X.1 (X.2.zip P)) :
  Was R cnt first tail head N C S1∨Was R cnt first tail (head+recS cs.length) (N++[ntOf first head N cs]) (C++[cs]) S1:=by
 have hl:=h.op.len
 have hR:=h.op.hR
 have hrg:=h.op.rg
 have hle:=hrg.le
 have hth:=hrg.th
 have hroom:N.length < 8∧recS cs.length≤R - (head - tail):=by
  unfold roomN roomR at hr
  simp only[Bool.and_eq_true,decide_eq_true_eq] at hr
  exact⟨hr.2,hr.1.1⟩
 obtain⟨n,hn⟩:∃ n,n=ntOf first head N cs:=⟨_,rfl⟩
 have n1:n.seq=first+N.length:=by rw[hn];rfl
 have hA:(recL cs).length=recS cs.length:=recL_len cs
 have hrl:(recW R head (recL cs)).length=recS cs.length:=by unfold recW;rw[List.length_map,List.length_range,hA]
 have hap:=h.append hf h32 hr hfn hhd
 rw[← hn] at hX hap ⊢
 have free:∀ {T:List Nat},T.length=S.length→(∀ m,(∀ j,j < recS cs.length→(head+j) % R+10≠m)→T.getD m 0=S.getD m 0)→Was R cnt first tail head N C T:=fun {T} hT hS=>⟨h.op.same hT (fun m hm=>hS m (fun j hj=>by omega)),h.rec_same (k:=recS cs.length) (by omega) hS⟩
 have eT:appT R head (recL cs) n=((recW R head (recL cs)).map fun w=>Stp.wr w.1 w.2)++[.fl,.wr (2+n.seq % 8) (noteB n),.fl]:=by unfold appT;rw[recT_wrs]
 rw[eT] at hX
 have hml:((recW R head (recL cs)).map fun w=>Stp.wr w.1 w.2).length=recS cs.length:=by rw[List.length_map,hrl]
 by_cases hk1:k≤recS cs.length
 ·left
  rw[List.take_append_of_le_length (by omega),← List.map_take,stepsD_wrs,List.nil_append] at hX
  rw[hX] at hS1
  refine free (by rw[hS1,disk.crashS_length]) (fun m hm=>?_)
  rw[hS1]
  exact disk.crashS_other _ _ _ (fun w hw=>by
   obtain⟨j,hj,e⟩:=recW_take R head (recL cs) k w.1 (List.of_mem_zip hw).1
   rw[e]
   exact hm j (by omega))
 obtain⟨S2,hS2⟩:∃ S2,S2=disk.flushS S (recW R head (recL cs)):=⟨_,rfl⟩
 have l2:S2.length=S.length:=by rw[hS2,disk.flushS_length]
 have miss:∀ m,(∀ j,j < recS cs.length→(head+j) % R+10≠m)→S2.getD m 0=S.getD m 0:=fun m hm=>by rw[hS2];exact recW_miss (fun j hj=>hm j (by omega))
 have hw2:=free l2 miss
 have:k=recS cs.length+1∨k=recS cs.length+2:=by omega
 rcases this with e | e
 ·left
  have ek:(((recW R head (recL cs)).map fun(w:Nat × Nat)=>Stp.wr w.1 w.2)++[Stp.fl,.wr (2+n.seq % 8) (noteB n),.fl]).take k=((recW R head (recL cs)).map fun(w:Nat × Nat)=>Stp.wr w.1 w.2)++[Stp.fl]:=by
   rw[List.take_append,List.take_of_length_le (by omega),hml,e,Nat.add_sub_cancel_left];rfl
  rw[ek,stepsD_app,stepsD_wrs,List.nil_append] at hX
  have hX2:X=(S2,[]):=by rw[hX,hS2];rfl
  rw[hX2] at hS1
  have:S1=S2:=hS1
  rw[this]
  exact hw2
 ·have ek:(((recW R head (recL cs)).map fun(w:Nat × Nat)=>Stp.wr w.1 w.2)++[Stp.fl,.wr (2+n.seq % 8) (noteB n),.fl]).take k=((recW R head (recL cs)).map fun(w:Nat × Nat)=>Stp.wr w.1 w.2)++[Stp.fl,.wr (2+n.seq % 8) (noteB n)]:=by
   rw[List.take_append,List.take_of_length_le (by omega),hml,e,Nat.add_sub_cancel_left];rfl
  rw[ek,stepsD_app,stepsD_wrs,List.nil_append,stepsD_two,← hS2] at hX
  rw[hX] at hS1
  have hm8:n.seq % 8 < 8:=Nat.mod_lt _ (by decide)
  obtain⟨q,hq,e2⟩:=crashS_one (S:=S2) (m:=2+n.seq % 8) (x:=noteB n) (by omega) P
  have hS1':S1=S2.set (2+n.seq % 8) (disk.tornN (S2.getD (2+n.seq % 8) 0) (noteB n) q):=hS1.trans e2
  have hold:S2.getD (2+n.seq % 8) 0=S.getD (2+n.seq % 8) 0:=miss _ (fun j hj=>by omega)
  have hon:=h.on (n.seq % 8) hm8 (fun i hi=>by rw[n1];exact slot_ne hroom.1 hi)
  have hff:=h.op.f
  obtain⟨n0,hpl,hn0⟩:=oldn_plain (by omega) hon
  have hntok:NtOk n:=by
   have:=hap.op.ntok (i:=N.length) (by rw[List.length_append,List.length_singleton];omega)
   rw[List.getElem_append_right (Nat.le_refl _)] at this
   simpa using this
  have hnew:Plain (noteB n) n.seq:=(note_back hntok).2.2.plain (by omega)
  rw[hold] at hS1'
  rcases torn hpl hnew (by omega) hq with et | et | et
  ·left
   have gs:∀ m,S1.getD m 0=S2.getD m 0:=fun m=>by
    rw[hS1',getD_set _ _ _ _ (by omega),et]
    split
    ·rename_i e3;rw[e3,hold]
    ·rfl
   exact⟨hw2.1.same (by rw[hS1',List.length_set]) (fun m _=>gs m),hw2.2.same (fun m _=>gs m)⟩
  ·right
   rw[et,hS2] at hS1'
   rw[hS1']
   exact hap.was
  ·left
   have gs:∀ m,S1.getD m 0=if m=2+n.seq % 8 then disk.tornN (S.getD (2+n.seq % 8) 0) (noteB n) q else S2.getD m 0:=fun m=>by
    rw[hS1',getD_set _ _ _ _ (by omega)]
   refine⟨hw2.1.of (by rw[hS1',List.length_set]) (by rw[gs,if_neg (by omega)]) (by rw[gs,if_neg (by omega)];exact hw2.1.ot) (fun i hi=>?_) (fun _ hk=>?_),hw2.2.same (fun m _=>by rw[gs,if_neg (by omega)])⟩
   ·have:=slot_ne (first:=first) hroom.1 hi
    rw[gs,if_neg (by rw[n1];omega)]
   ·rw[gs,if_pos (by rw[n1]),note_bad et] at hk
    cases hk
end
end Go.Proofs.YtabebpemfinejaaDoor.draft
namespace Go.Proofs.YtabebpemfinejaaDoor.draft
open Go.Am
open disk (bx Fit A1 R1 Low Bn)
theorem flushS_zero:∀(W:List (Nat × Nat)) (S:List Nat) (n:Nat),(∀ w ∈ W,w.2=0)→S.getD n 0=0→(disk.flushS S W).getD n 0=0
 | [],S,n,_,h=>h
 | w::W,S,n,hw,h=>by
  show (disk.flushS (S.set w.1 w.2) W).getD n 0=0
  refine flushS_zero W _ n (fun v hv=>hw v (List.mem_cons_of_mem _ hv)) ?_
  rw[hw w (List.mem_cons_self ..),List.getD_eq_getElem?_getD,List.getElem?_set]
  split
  ·split<;>rfl
  ·rw[← List.getD_eq_getElem?_getD];exact h
theorem std_lay {R:Nat} (hR:40≤R∧R≤255):Std R 1 1 0 0 [] [] (layS (List.replicate (10+R) 0) 7 R):=by
 obtain⟨Z,hZ⟩:∃ Z:List Nat,Z=List.replicate (10+R) 0:=⟨_,rfl⟩
 obtain⟨W,hW⟩:∃ W:List (Nat × Nat),W=(List.range 10).map fun n=>(n,0):=⟨_,rfl⟩
 rw[← hZ]
 have eT:layT 7 R=(W.map fun w=>Stp.wr w.1 w.2)++[Stp.fl,.wr 1 (markB 1 7 R 1 0),.fl]:=by
  unfold layT
  rw[hW,List.map_map]
  have:∀(Q:List Stp) (T:List Stp),Q++T=Q++T:=fun _ _=>rfl
  exact this _ _
 have eS:layS Z 7 R=(disk.flushS Z W).set 1 (markB 1 7 R 1 0):=by
  unfold layS
  obtain⟨x,hx⟩:∃ x,x=markB 1 7 R 1 0:=⟨_,rfl⟩
  rw[eT,← hx,stepsD_app,stepsD_wrs,List.nil_append,show ([Stp.fl,.wr 1 x,.fl]:List Stp)=[.fl,.wr 1 x]++[.fl] from rfl,stepsD_app,stepsD_two,stepsD_last]
 have hz:∀ n,(disk.flushS Z W).getD n 0=0:=fun n=>by
  refine flushS_zero W Z n (fun w hw=>?_) ?_
  ·rw[hW] at hw
   obtain⟨j,_,rfl⟩:=List.mem_map.1 hw
   rfl
  ·rw[hZ,List.getD_eq_getElem?_getD,List.getElem?_replicate]
   split<;>rfl
 have hl:(disk.flushS Z W).length=R+10:=by rw[disk.flushS_length,hZ,List.length_replicate,Nat.add_comm]
 obtain⟨x,hx⟩:∃ x,x=markB 1 7 R 1 0:=⟨_,rfl⟩
 rw[← hx] at eS
 have gs:∀ n,(layS Z 7 R).getD n 0=if n=1 then x else 0:=fun n=>by
  rw[eS,getD_set _ _ _ _ (by omega),hz]
 refine std_of (by rw[eS,List.length_set,hl]) hR ⟨by decide,by decide⟩ ⟨by decide,by decide⟩ (by decide) rfl ⟨by omega,by decide,by decide,by omega⟩ (by decide) (by rw[gs,if_pos (by decide),hx]) (fun i hi=>absurd hi (by simp)) (by rw[gs,if_neg (by decide)];exact .inl rfl) (fun s hs _=>by rw[gs,if_neg (by omega)];exact .inl rfl) ⟨rfl,fun i h1=>absurd h1 (by simp)⟩
end Go.Proofs.YtabebpemfinejaaDoor.draft
namespace Go.Proofs.YtabebpemfinejaaDoor.draft
open Go.Am
open disk (bx Fit A1 R1 Low Bn)
structure LA (G0 G:Heap) (l b:Bk) (R i cnt first tail head:Nat) (N:List Nt) (lv:V) (S:List Nat) (st a:Nat) (C:List (List Cl)):Prop where
 log:LogAt G l b 7 R cnt first tail head N lv
 hb:G.get b=some (bx false (devA S [] st a))
 std:Std R cnt first tail head N (C.drop (first - 1)) S
 cl:C.length+1=first+N.length
 cnt:cnt≤1+i
 fst:first+N.length≤1+i
 hd:head≤34*i
 st:st≤13+40*i
 ar:1≤a∧a≤400
 lvn:∀ c,Bof lv c→¬ G0.Old c
 bo:G.Old b
 lb:l≠b
 bn:¬ G0.Old b
 ln:¬ G0.Old l
 t:Turns Z G0 G
structure LD (G0 G:Heap) (b:Bk) (Q:List Nat→Prop):Prop where
 ex:∃(S':List Nat) (L':List (Nat × Nat)) (st':Nat),G.get b=some (bx false (devD S' L' st'))∧Fit (devD S' L' st')∧∀ P:List Int,Q (disk.crashS S' (L'.zip P))
 bo:G.Old b
 bn:¬ G0.Old b
 t:Turns Z G0 G
theorem LA.same {G0 G G':Heap} {l b:Bk} {R i cnt first tail head:Nat} {N:List Nt} {lv:V} {S:List Nat} {st a:Nat} {C:List (List Cl)} (h:LA G0 G l b R i cnt first tail head N lv S st a C) (t:Turns Z G G'):LA G0 G' l b R i cnt first tail head N lv S st a C:=by
 obtain⟨hg,G1,hN,hn⟩:=h.log.ex
 exact { h with log:=⟨⟨(t.same l h.log.old (fun h=>h)).trans hg,G1,hN.turns t (fun _ _ h=>h),Nat.le_trans hn t.next⟩,h.log.old.mono t.next,h.log.rb,h.log.rg,h.log.fn,h.log.nl⟩,hb:=(t.same b h.bo (fun h=>h)).trans h.hb,bo:=h.bo.mono t.next,t:=h.t.trans t }
theorem LA.up {G0 G:Heap} {l b:Bk} {R i cnt first tail head:Nat} {N:List Nt} {lv:V} {S:List Nat} {st a:Nat} {C:List (List Cl)} (h:LA G0 G l b R i cnt first tail head N lv S st a C):LA G0 G l b R (i+1) cnt first tail head N lv S st a C:=
 { h with cnt:=by have:=h.cnt;omega,fst:=by have:=h.fst;omega,hd:=by have:=h.hd;omega,st:=by have:=h.st;omega }
theorem stepsD_inside:∀(l:List Stp) (S:List Nat) (L:List (Nat × Nat)),Inside S.length l→(∀ w ∈ L,w.1 < S.length)→∀ w ∈ (stepsD (S,L) l).2,w.1 < S.length
 | [],S,L,_,h=>h
 | .wr n x::l,S,L,hI,h=>by
  show ∀ w ∈ (stepsD (S,L++[(n,x)]) l).2,_
  refine stepsD_inside l S _ (fun s hs=>hI s (List.mem_cons_of_mem _ hs)) (fun w hw=>?_)
  rcases List.mem_append.1 hw with hw | hw
  ·exact h w hw
  ·rw[List.mem_singleton] at hw
   rw[hw]
   exact hI _ (List.mem_cons_self ..) n x rfl
 | .fl::l,S,L,hI,h=>by
  show ∀ w ∈ (stepsD (disk.flushS S L,[]) l).2,_
  have hl:=disk.flushS_length L S
  have:=stepsD_inside l (disk.flushS S L) [] (fun s hs=>by rw[hl];exact hI s (List.mem_cons_of_mem _ hs)) (fun w hw=>absurd hw (by simp))
  rw[hl] at this
  exact this
theorem stepsD_pend:∀(l:List Stp) (S:List Nat) (L:List (Nat × Nat)),(stepsD (S,L) l).2.length≤L.length+l.length
 | [],S,L=>Nat.le_refl _
 | .wr n x::l,S,L=>by
  show (stepsD (S,L++[(n,x)]) l).2.length≤_
  have:=stepsD_pend l S (L++[(n,x)])
  rw[List.length_append,List.length_singleton] at this
  rw[List.length_cons];omega
 | .fl::l,S,L=>by
  show (stepsD (disk.flushS S L,[]) l).2.length≤_
  have:=stepsD_pend l (disk.flushS S L) []
  rw[List.length_nil] at this
  rw[List.length_cons];omega
theorem devD_fit {S:List Nat} {L:List (Nat × Nat)} {st:Nat} (hS:S≠[]) (hl:S.length≤512) (hL:∀ w ∈ L,w.1 < S.length) (hL9:L.length≤900) (hst:st≤100000):Fit (devD S L st):=by
 have:Rm 0 (devD S L st):=by
  refine⟨(by intro e;cases e),Nat.le_of_ble_eq_true rfl,fun D hD=>?_,⟨by show (0:Int)≤1;decide,by show (1:Int)≤_;decide⟩,⟨by show (0:Int)≤(st:Int);omega,by show (st:Int)+_≤_;omega⟩⟩
  rw[show (devD S L st).l=[⟨S,L,false⟩] from rfl,List.mem_singleton] at hD
  subst hD
  exact⟨hS,hL,hl,by simpa using hL9⟩
 exact this.fit
theorem arm_done {S:List Nat} {st a:Nat} (hS:S≠[]) (hl5:S.length≤512) (hst:st≤90000) (ha:1≤a∧a≤400) {l:List Stp} (hI:Inside S.length l) (hll:l.length≤800) :
  (l.length < a∧doneC (devA S [] st a) l=0∧doneB (devA S [] st a) l=devA (stepsD (S,[]) l).1 (stepsD (S,[]) l).2 (st+l.length) (a - l.length)) ∨
  (doneC (devA S [] st a) l=8∧∃ k st' X,k+1≤l.length∧X=stepsD (S,[]) (l.take k)∧doneB (devA S [] st a) l=devD X.1 X.2 st'∧Fit (devD X.1 X.2 st')):=by
 obtain⟨h1,h2⟩:=arm_run l (S:=S) (L:=[]) (st:=st) (a:=a) hS hI ha.1
 by_cases h:l.length < a
 ·exact .inl ⟨h,h1 h⟩
 ·right
  obtain⟨c1,c2⟩:=h2 (by omega)
  have hI':Inside S.length (l.take (a - 1)):=fun s hs=>hI s (List.mem_of_mem_take hs)
  refine⟨c1,a - 1,st+(a - 1),_,by omega,rfl,c2,devD_fit ?_ ?_ ?_ ?_ (by omega)⟩
  ·intro e
   have:=stepsD_len (l.take (a - 1)) (S,[])
   rw[e] at this
   exact hS (List.length_eq_zero_iff.1 this.symm)
  ·rw[stepsD_len];exact hl5
  ·rw[stepsD_len];exact stepsD_inside _ S [] hI' (fun w hw=>absurd hw (by simp))
  ·have:=stepsD_pend (l.take (a - 1)) S []
   rw[List.length_nil,List.length_take] at this
   omega
end Go.Proofs.YtabebpemfinejaaDoor.draft
namespace Go.Proofs.YtabebpemfinejaaDoor.draft
open Go.Am
open disk (bx Fit A1 R1 Low Bn)
def QF (R first under:Nat) (C:List (List Cl)) (last:List Cl) (Sx:List Nat):Prop:=∃ cnt f tail head N C',Was R cnt f tail head N C' Sx∧(f=first∨f=under)∧((C'=C.drop (f - 1)∧f+N.length=C.length+1)∨(last≠[]∧C'=(C++[last]).drop (f - 1)∧f+N.length=C.length+2))
section
variable {lf K:Nat} (hlf:1000 < lf)
include hlf
variable {G0 G:Heap} {l b:Bk} {R i cnt first tail head:Nat} {N:List Nt} {lv:V} {S:List Nat} {st a:Nat} {C:List (List Cl)} (h:LA G0 G l b R i cnt first tail head N lv S st a C) (hi:i≤40) (hgl:G0.get (.run 0)=some (.rows true 4 (intsR [8,2,8,8]))) (h00:0 < G0.next)
include h hi hgl h00
theorem LA.clear {f:Nat} (hf:first≤f∧f≤first+N.length) (n:Nat):ret (U lf K (n+7) 10 [.ptr (some ⟨l,0⟩),.int .u64 (f:Int)] G) fun v G'=>Turns (LX b l lv) G G'∧(
  (v=.int .i64 0∧∃ cnt' tail' N' lv' S' st' a',LA G0 G' l b R (i+1) cnt' f tail' head N' lv' S' st' a' C) ∨
  (v=.int .i64 8∧LD G0 G' b (QF R first f C []))):=by
 have op:=h.std.op
 have h1:=op.len
 have h2:=op.hR
 have h3:=h.cnt
 have h4:=h.fst
 have h4':=op.f
 have h5:=h.hd
 have h6:=h.st
 have h7:=h.ar
 have hS0:S≠[]:=fun e=>by rw[e] at h1;simp at h1
 obtain⟨v,G',e,hr⟩:=ulclear hlf (K:=K) ((h.t.same (.run 0) h00 (fun h=>h)).trans hgl) (Nat.lt_of_lt_of_le h00 h.t.next) h.log op.ch h.bo h.lb h.hb (devA_rm hS0 (by omega) (by decide) (by omega) (by omega)) (by decide) h2.1 (by omega) h4'.1 (f:=f) (by omega) n
 refine⟨v,G',e,?_⟩
 rcases hr with ⟨h8,_⟩ | ⟨_,p,hp,hb',c,hc,hr⟩
 ·omega
 obtain⟨x,hx⟩:∃ x,x=markB (cnt+1) 7 R f p:=⟨_,rfl⟩
 rw[← hx] at hb' hc
 have hcl:=h.std.clear (f:=f) hf (by omega)
 have edr:(C.drop (first - 1)).drop (f - first)=C.drop (f - 1):=by rw[List.drop_drop];congr 1;omega
 rw[← hp,edr,← hx] at hcl
 rcases arm_done (S:=S) (st:=st) (a:=a) hS0 (by omega) (by omega) h7 (l:=[Stp.wr ((cnt+1) % 2) x,Stp.fl]) (by
  intro s hs m y e
  simp only[List.mem_cons,List.not_mem_nil,or_false] at hs
  rcases hs with rfl | rfl
  ·cases e;omega
  ·cases e) (by show 2≤800;decide) with ⟨d0,d1,d2⟩ | ⟨d1,k,st',X,hk,hX,d2,d3⟩
 ·rw[d1] at hc
  rw[d2] at hb'
  subst hc
  rcases hr with ⟨h9,_⟩ | ⟨_,rfl,ht,lv',hL,hlv⟩
  ·exact absurd rfl h9
  have d0':2 < a:=d0
  refine⟨ht,.inl ⟨rfl,cnt+1,p,N.drop (f - first),lv',S.set ((cnt+1) % 2) x,st+2,a - 2,⟨hL,hb',hcl,by have:=h.cl;rw[List.length_drop];omega,by omega,by rw[List.length_drop];omega,by omega,by omega,by omega,fun c hc ho=>hlv c hc (ho.mono h.t.next),h.bo.mono ht.next,h.lb,h.bn,h.ln,?_⟩⟩⟩
  exact h.t.later ht (fun c ho hc=>by
   rcases hc with rfl | rfl | hc
   ·exact absurd ho h.bn
   ·exact absurd ho h.ln
   ·exact absurd ho (h.lvn c hc))
 ·rw[d1] at hc
  rw[d2] at hb'
  subst hc
  rcases hr with ⟨_,rfl,ht⟩ | ⟨h9,_⟩
  rotate_left
  ·exact absurd h9 (by decide)
  have hk1:k+1≤2:=hk
  refine⟨ht.wide (fun c e=>.inl e),.inr ⟨rfl,⟨X.1,X.2,st',hb',d3,fun P=>?_⟩,h.bo.mono ht.next,h.bn,?_⟩⟩
  ·have hcc:=h.std.clear_cut (f:=f) hf (by omega) (x:=x) (by rw[hx,hp]) (k:=k) (by omega) P rfl
   rw[← hX,← hp,edr] at hcc
   have hcl0:=h.cl
   rcases hcc with w | w
   ·exact⟨_,_,_,_,_,_,w,.inl rfl,.inl ⟨rfl,by omega⟩⟩
   ·exact⟨_,_,_,_,_,_,w,.inr rfl,.inl ⟨rfl,by rw[List.length_drop];omega⟩⟩
  ·exact h.t.later ht (fun c ho hc=>by rw[hc] at ho;exact absurd ho h.bn)
theorem LA.append {pp:Option Ptr} {cs:List Cl} {pc po:Nat} (hc:CellsAt G pp cs) (hcl:cs.length+1 < lf) (hmax:cs.length≤9223372036854775807) (hsm:∀ c ∈ cs,c.x < 256 ^ 64) (n:Nat):ret (U lf K (n+6) 11 [.ptr (some ⟨l,0⟩),.slice pp cs.length pc po] G) fun v G'=>Turns (LX b l lv) G G'∧(
  (∃ e:Int,e≠0∧e≠8∧v=.tuple [.int .u64 0,.int .i64 e]∧LA G0 G' l b R (i+1) cnt first tail head N lv S st a C) ∨
  (pcode cs=0∧v=.tuple [.int .u64 ((first+N.length:Nat):Int),.int .i64 0]∧∃ head' N' lv' S' st' a',LA G0 G' l b R (i+1) cnt first tail head' N' lv' S' st' a' (C++[cs])) ∨
  (pcode cs=0∧v=.tuple [.int .u64 0,.int .i64 8]∧LD G0 G' b (QF R first first C cs))):=by
 have op:=h.std.op
 have h1:=op.len
 have h2:=op.hR
 have h3:=h.cnt
 have h4:=h.fst
 have h4':=op.f
 have h5:=h.hd
 have h6:=h.st
 have h7:=h.ar
 have hcl0:=h.cl
 have hS0:S≠[]:=fun e=>by rw[e] at h1;simp at h1
 obtain⟨v,G',e,hr⟩:=ulappend hlf (K:=K) h.log h.bo h.lb h.hb (devA_rm hS0 (by omega) (by decide) (by omega) (by omega)) hc hcl hmax (pc:=pc) (po:=po) h4'.1 (by omega) n
 refine⟨v,G',e,?_⟩
 have hp8:pcode cs≠8:=by
  unfold pcode
  split
  ·decide
  ·split
   ·decide
   ·split<;>decide
 rcases hr with ⟨c,hc0,rfl,ht,hx⟩ | ⟨hp,hr,hb',c,hcc,hx⟩
 ·refine⟨ht.wide (fun c h=>h.elim),.inl ⟨c,hc0,?_,rfl,(h.same ht).up⟩⟩
  rcases hx with ⟨_,rfl⟩ | ⟨_,_,rfl⟩
  ·exact hp8
  ·decide
 obtain⟨h1c,h32,hmay⟩:=pcode_ok hlf hp
 have hfine:∀ c ∈ cs,Fine c:=fun c hc=>⟨List.all_eq_true.1 hmay c hc,hsm c hc⟩
 have hk:recS cs.length≤34:=by unfold recS;omega
 have hA:(recL cs).length=recS cs.length:=recL_len cs
 obtain⟨nt,hnt⟩:∃ nt,nt=ntOf first head N cs:=⟨_,rfl⟩
 have hTl:(appT R head (recL cs) nt).length=recS cs.length+3:=by unfold appT recT;rw[List.length_append,List.length_map,List.length_range,hA];rfl
 have hI:Inside S.length (appT R head (recL cs) nt):=by
  intro s hs m y e
  subst e
  unfold appT recT at hs
  rcases List.mem_append.1 hs with hs | hs
  ·obtain⟨j,hj,e⟩:=List.mem_map.1 hs
   cases e
   have:(head+j) % R < R:=Nat.mod_lt _ (by omega)
   omega
  ·simp only[List.mem_cons,Stp.wr.injEq,reduceCtorEq,List.not_mem_nil,or_false,false_or] at hs
   have:nt.seq % 8 < 8:=Nat.mod_lt _ (by decide)
   omega
 have ap:=h.std.append hfine ⟨h1c,h32⟩ hr (by omega) (by omega)
 have edr:C.drop (first - 1)++[cs]=(C++[cs]).drop (first - 1):=by rw[List.drop_append_of_le_length (by omega)]
 rw[edr] at ap
 rw[← hnt] at hb' hcc ap hx
 have eS:(stepsD (S,[]) (appT R head (recL cs) nt))=(appS S R head (recL cs) nt,[]):=by
  unfold appT appS
  obtain⟨m,hm⟩:∃ m,m=2+nt.seq % 8:=⟨_,rfl⟩
  obtain⟨x,hx⟩:∃ x,x=noteB nt:=⟨_,rfl⟩
  rw[stepsD_app,recT_D,List.nil_append,← hm,← hx,show ([Stp.fl,.wr m x,.fl]:List Stp)=[.fl,.wr m x]++[.fl] from rfl,stepsD_app,stepsD_two,stepsD_last]
 rcases arm_done (S:=S) (st:=st) (a:=a) hS0 (by omega) (by omega) h7 hI (by omega) with ⟨d0,d1,d2⟩ | ⟨d1,k,st',X,hk',hX,d2,d3⟩
 ·rw[d1] at hcc
  rw[d2,eS,hTl] at hb'
  rw[hTl] at d0
  subst hcc
  rcases hx with ⟨h9,_⟩ | ⟨_,rfl,ht,lv',hL,hlv⟩
  ·exact absurd rfl h9
  refine⟨ht,.inr (.inl ⟨hp,rfl,_,_,lv',_,_,_,⟨hL,hb',ap,by rw[List.length_append,List.length_append,List.length_singleton,List.length_singleton];omega,by omega,by rw[List.length_append,List.length_singleton];omega,by omega,by omega,by omega,fun c hc ho=>hlv c hc (ho.mono h.t.next),h.bo.mono ht.next,h.lb,h.bn,h.ln,?_⟩⟩)⟩
  exact h.t.later ht (fun c ho hc=>by
   rcases hc with rfl | rfl | hc
   ·exact absurd ho h.bn
   ·exact absurd ho h.ln
   ·exact absurd ho (h.lvn c hc))
 ·rw[d1] at hcc
  rw[d2] at hb'
  subst hcc
  rcases hx with ⟨_,rfl,ht⟩ | ⟨h9,_⟩
  rotate_left
  ·exact absurd h9 (by decide)
  refine⟨ht.wide (fun c e=>.inl e),.inr (.inr ⟨hp,rfl,⟨X.1,X.2,st',hb',d3,fun P=>?_⟩,h.bo.mono ht.next,h.bn,?_⟩)⟩
  ·rw[hTl] at hk'
   rw[hnt] at hX
   have hcc:=h.std.append_cut hfine ⟨h1c,h32⟩ hr (by omega) (by omega) (k:=k) (by omega) P hX rfl
   rw[edr] at hcc
   rcases hcc with w | w
   ·exact⟨_,_,_,_,_,_,w,.inl rfl,.inl ⟨rfl,by omega⟩⟩
   ·exact⟨_,_,_,_,_,_,w,.inl rfl,.inr ⟨fun e=>by rw[e] at h1c;simp at h1c,rfl,by rw[List.length_append,List.length_singleton];omega⟩⟩
  ·exact h.t.later ht (fun c ho hc=>by rw[hc] at ho;exact absurd ho h.bn)
end
end Go.Proofs.YtabebpemfinejaaDoor.draft
