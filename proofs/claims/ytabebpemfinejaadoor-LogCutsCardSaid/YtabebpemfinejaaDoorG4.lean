import Derived.Test.YtabebpemfinejaaDoorG3
set_option linter.unusedVariables false
set_option linter.unusedSectionVars false
set_option linter.unusedSimpArgs false
set_option maxRecDepth 10000
open Nat renaming reduceEqDiff → zA, reduceLeDiff → zB, reduceSub → zC, reduceMul → zD, reduceMod → zE, reduceDiv → zF, reduceAdd → zG
open Int renaming reduceBEq → zH
namespace Go.Proofs.YtabebpemfinejaaDoor.draft
open Go.Am
noncomputable def c29_l0:C:=.seq (.reg [
 qo 39 (.p (arF .lss (tt 38) (tt 37))) [pp 38,pp 37]]) (
 .seq (.cond (tt 39) (.skip) (.exit 2)) (
 .seq (.block 3 (.seq (.reg [
 mv 40 38,
 qo 41 (.p (iaddrSF (tt 36) (tt 38) 66)) [pp 36,pp 38],
 qo 42 (.r (loadF (tt 41) 66 .ag)) [pp 41],
 qo 8 (.m (allocF 66 [.int .i64 0,.int .i64 0,.blk 0])) [],
 mv 7 40,
 qn (.a (storeF (tt 8) (tt 42) 66)) [pp 8,pp 42]]) (
 .seq (.reg [
 mv 43 6,
 mv 44 7,
 qo 45 (.p (arF .quo (tt 44) (ii 16))) [pp 44],
 qo 46 (.p (iaddrSF (tt 43) (tt 45) 64)) [pp 43,pp 45],
 mv 47 7,
 qo 48 (.p (arF .rem (tt 47) (ii 16))) [pp 47],
 qo 49 (.p (arF .mul (tt 48) (ii 4))) [pp 48],
 qo 50 (.p (sliceAF 64 1 (tt 46) (some (tt 49)) none none)) [pp 46,pp 49],
 qo 51 (.p (sliceF 1 (tt 50) none (some (ii 4)) none)) [pp 50],
 mv 9 51]) (
 .seq (.reg [
 qo 53 (.p (faddrF (tt 8) 0)) [pp 8],
 qo 54 (.p (faddrF (tt 53) 0)) [pp 53],
 qo 55 (.r (loadF (tt 54) 1 .sc)) [pp 54],
 qo 56 (.p (convF .u64 (tt 55))) [pp 55],
 qo 57 (.c (callF (ff 58) [(tt 56),(ii 2)])) [pp 56],
 mv 52 57,
 qo 58 (.p (extF (tt 52) 0)) [pp 52],
 qo 59 (.p (extF (tt 52) 1)) [pp 52],
 mv 10 58,
 mv 11 59]) (
 .seq (.reg [
 mv 60 9,
 mv 61 10,
 qo 62 (.a (cpyF 1 (tt 60) (tt 61))) [pp 60,pp 61]]) (
 .seq (.reg [
 mv 63 9,
 qo 64 (.p (faddrF (tt 8) 0)) [pp 8],
 qo 65 (.p (faddrF (tt 64) 1)) [pp 64],
 qo 66 (.r (loadF (tt 65) 1 .sc)) [pp 65],
 qo 67 (.p (convF .u8 (tt 66))) [pp 66],
 qo 68 (.p (iaddrSF (tt 63) (ii 2) 1)) [pp 63],
 qn (.a (storeF (tt 68) (tt 67) 1)) [pp 68,pp 67]]) (
 .reg [
 mv 69 6,
 qo 70 (.p (faddrF (tt 8) 2)) [pp 8],
 qo 71 (.r (loadF (tt 70) 64 .bk)) [pp 70],
 qo 72 (.m (bsliceF 1 64 [.blk 0] [(0,64,(tt 71))])) [pp 71],
 qo 73 (.a (appF 64 64 (tt 69) (tt 72))) [pp 69,pp 72],
 mv 6 73]))))))) (
 .reg [
 qo 74 (.p (arF .add (tt 38) (ii 1))) [pp 38],
 mv 38 74])))
noncomputable def c29_l1:C:=.seq (.reg [
 qo 18 (.p (arF .lss (tt 17) (tt 16))) [pp 17,pp 16]]) (
 .seq (.cond (tt 18) (.skip) (.exit 0)) (
 .seq (.block 1 (.seq (.reg [
 qo 19 (.p (iaddrSF (tt 15) (tt 17) 66)) [pp 15,pp 17],
 qo 20 (.r (loadF (tt 19) 66 .ag)) [pp 19],
 qo 5 (.m (allocF 66 [.int .i64 0,.int .i64 0,.blk 0])) [],
 qn (.a (storeF (tt 5) (tt 20) 66)) [pp 5,pp 20]]) (
 .seq (.reg [
 qo 21 (.p (faddrF (tt 5) 0)) [pp 5],
 qo 22 (.r (loadF (tt 21) 2 .ag)) [pp 21],
 qo 23 (.c (callF (ff 56) [(tt 22)])) [pp 22],
 qo 24 (.p (unF .not (tt 23))) [pp 23]]) (
 .cond (tt 24) (.seq (.reg [
 qo 2 (.p (S.get (.c (.slice none 0 0 0)))) [],
 qo 3 (.p (S.get (ii 2))) []]) (
 .ret)) (.skip))))) (
 .reg [
 qo 25 (.p (arF .add (tt 17) (ii 1))) [pp 17],
 mv 17 25])))
noncomputable def c29:CFn:=⟨[.tmp (pp 2),.tmp (pp 3)],
 .seq (.reg [
 qo 2 (.p (S.get (.c (.slice none 0 0 0)))) [],
 qo 3 (.p (S.get (ii 0))) []]) (
 .seq (.seq (.reg [
 mv 12 0,
 qo 13 (.p (lenF (tt 12))) [pp 12],
 qo 14 (.p (eqcF false false [.int .i64] (tt 13) (ii 0))) [pp 13]]) (
 .cond (tt 14) (.seq (.reg [
 qo 2 (.p (S.get (.c (.slice none 0 0 0)))) [],
 qo 3 (.p (S.get (ii 2))) []]) (
 .ret)) (.skip))) (
 .seq (.seq (.reg [
 mv 15 0,
 qo 16 (.p (lenF (tt 15))) [pp 15],
 qo 17 (.p (S.get (ii 0))) []]) (
 .block 0 (.loop c29_l1))) (
 .seq (.seq (.reg [
 mv 26 0,
 qo 27 (.p (lenF (tt 26))) [pp 26],
 qo 28 (.p (arF .gtr (tt 27) (ii 32))) [pp 27]]) (
 .cond (tt 28) (.seq (.reg [
 qo 2 (.p (S.get (.c (.slice none 0 0 0)))) [],
 qo 3 (.p (S.get (ii 3))) []]) (
 .ret)) (.skip))) (
 .seq (.reg [
 mv 29 0,
 qo 30 (.p (lenF (tt 29))) [pp 29],
 qo 31 (.c (callF (ff 57) [(tt 30)])) [pp 30],
 mv 32 0,
 qo 33 (.p (lenF (tt 32))) [pp 32],
 qo 34 (.c (callF (ff 42) [(tt 33)])) [pp 33],
 qo 35 (.m (mksliceF 64 64 [.blk 0] (tt 31) (tt 34))) [pp 31,pp 34],
 mv 6 35]) (
 .seq (.seq (.reg [
 mv 36 0,
 qo 37 (.p (lenF (tt 36))) [pp 36],
 qo 38 (.p (S.get (ii 0))) []]) (
 .block 2 (.loop c29_l0))) (
 .seq (.reg [
 mv 75 6,
 mv 2 75,
 qo 3 (.p (S.get (ii 0))) []]) (
 .ret)))))))⟩
theorem c29_eq:fnOf Tryd.prog 29=some c29:=by kernel_rfl
def pcode (l:List Cl):Int:=if l=[] then 2 else if l.all mayC=false then 2 else if 32 < l.length then 3 else 0
theorem app_in {H:Heap} {w y:Nat} {A:List Nat} {len S x:Nat} (hw:H.get (.run w)=some (.rows false 64 (rowsK A))) (hA:A.length=S) (hl:len < S) (hS:S≤1000) (hy:H.get (.run y)=some (.rows false 64 [[.blk x]])) :
  appendV 64 64 H (.slice (some ⟨.run w,0⟩) len S 0) (.slice (some ⟨.run y,0⟩) 1 1 0)=some (.slice (some ⟨.run w,0⟩) (len+1) S 0,H.set (.run w) (.rows false 64 (rowsK (A.set len x)))):=by
 have hb1:Nat.ble (Nat.mul (Nat.add len 1) 64) 1099511627776=true:=ble_iff.2 (by show (len+1)*64≤_;omega)
 have hb2:Nat.ble (Nat.add len 1) 1099511627776=true:=ble_iff.2 (by show len+1≤_;omega)
 have hr:Nat.ble (Nat.add len 1) S=true:=ble_iff.2 (by show len+1≤_;omega)
 have hf:firstE H 64 (.slice (some ⟨.run y,0⟩) 1 1 0)=some [[.blk x]]:=by
  simp only[firstE,elems]
  rw[loadAt_eq hy (r:=[.blk x]) (by rw[Nat.zero_div];rfl),Nat.zero_mod,Dj]
  rfl
 have hs:storeElems (.run w) 64 [[.blk x]] (Nat.add 0 (Nat.mul len 64)) H=some (H.set (.run w) (.rows false 64 (rowsK (A.set len x)))):=by
  show (match storeAt H ⟨.run w,Nat.add 0 (Nat.mul len 64)⟩ [.blk x] with | some H'=>storeElems (.run w) 64 [] _ H' | none=>none)=_
  rw[show Nat.add 0 (Nat.mul len 64)=len*64 by show 0+len*64=_;omega,st_get,hw,stK_blk (by omega)]
  rfl
 have hlen:lenOf (.slice (some ⟨.run y,0⟩) 1 1 0)=some 1:=rfl
 unfold appendV
 simp only[hlen,show Nat.beq 1 0=false from rfl,hb1,hb2,hf,hr,hs,Bool.and_self,show Nat.beq 0 0=true from rfl,Option.map_some]
section
variable {lf K:Nat} (hlf:1000 < lf)
include hlf
theorem ucput_check {G:Heap} {pp:Option Ptr} {l:List Cl} {pc po:Nat} (h:CellsAt G pp l) (hl:l.length+1 < lf) (hmax:l.length≤9223372036854775807) (n:Nat):∀ t:T,t.getP (Tr.path 0)=some (.slice pp l.length pc po)→t.getP (Tr.path 15)=some (.slice pp l.length pc po)→t.getP (Tr.path 16)=some (.int .i64 (l.length:Int))→t.getP (Tr.path 17)=some (.int .i64 0) →
  wp (loopF (runC (U lf K (n+2)) lf c29_l1) lf ⟨t,G,[]⟩) fun x s=>s.d=[]∧Turns Z G s.H∧((x=.ex 0∧l.all mayC=true∧s.t.getP (Tr.path 0)=some (.slice pp l.length pc po))∨(x=.ret∧l.all mayC=false∧s.t.getP (Tr.path 2)=some (.slice none 0 0 0)∧s.t.getP (Tr.path 3)=some (.int .i64 2))):=by
 intro t q0 q15 q16 q17
 refine wp_loopF (fun u s=>∃ i:Nat,u=l.length - i∧i≤l.length∧s.d=[]∧s.t.getP (Tr.path 0)=some (.slice pp l.length pc po)∧s.t.getP (Tr.path 15)=some (.slice pp l.length pc po)∧s.t.getP (Tr.path 16)=some (.int .i64 (l.length:Int))∧s.t.getP (Tr.path 17)=some (.int .i64 (i:Int))∧(∀ j (hj:j < l.length),j < i→mayC l[j]=true)∧Turns Z G s.H)
  ?_ lf l.length _ ⟨0,rfl,Nat.zero_le _,rfl,q0,q15,q16,q17,fun j _ hj=>absurd hj (by omega),Turns.refl _ _⟩ (by omega)
 rintro u ⟨t,HH,d⟩ ⟨i,rfl,hi,hd,q0,q15,q16,q17,hm,hT⟩
 dsimp only at hd q0 q15 q16 q17 hT
 subst hd
 by_cases hlt:i < l.length
 ·have hlt':(i:Int) < (l.length:Int):=by omega
  have hle:i+1≤l.length:=hlt
  have w1:IntKind.i64.wrap ((i:Int)+1)=((i+1:Nat):Int):=by rw[Go.Am.wrap_i64 (by omega)];omega
  obtain⟨x,ox,rfl,hld⟩:=(h.turnsZ hT).load hlt
  have ld:=hld 0 66 (by decide)
  rw[Nat.add_zero,show cut (rowC l[i]) 0 66=some (rowC l[i]) from rfl] at ld
  unfold rowC at ld
  have hw66:width [V.int .i64 l[i].s,V.int .i64 l[i].m,V.blk l[i].x]=66:=rfl
  have hp66:put [V.int .i64 0,V.int .i64 0,V.blk 0] 0 [V.int .i64 l[i].s,V.int .i64 l[i].m,V.blk l[i].x]=some [V.int .i64 l[i].s,V.int .i64 l[i].m,V.blk l[i].x]:=rfl
  have k0:cut [V.int .i64 l[i].s,V.int .i64 l[i].m,V.blk l[i].x] 0 2=some [V.int .i64 l[i].s,V.int .i64 l[i].m]:=rfl
  have t1:Turns Z HH ((HH.add (.rows false 66 [[.int .i64 0,.int .i64 0,.blk 0]])).set (.run HH.next) (.rows false 66 [[.int .i64 l[i].s,.int .i64 l[i].m,.blk l[i].x]])):=by repeat (first | exact Turns.refl _ _ | apply Turns.skip | apply Turns.addm | apply Turns.setb | apply Turns.setl | apply Turns.setr | refine Turns.setn ?_ _ (by omega) _ | refine Turns.trans ?_ (tF _))
  have hg1:((HH.add (.rows false 66 [[.int .i64 0,.int .i64 0,.blk 0]])).set (.run HH.next) (.rows false 66 [[.int .i64 l[i].s,.int .i64 l[i].m,.blk l[i].x]])).get (.run HH.next)=some (.rows false 66 [[.int .i64 l[i].s,.int .i64 l[i].m,.blk l[i].x]]):=by rw[Heap.get_set,if_pos rfl]
  obtain⟨H1,hH1⟩:∃ H1,(HH.add (.rows false 66 [[.int .i64 0,.int .i64 0,.blk 0]])).set (.run HH.next) (.rows false 66 [[.int .i64 l[i].s,.int .i64 l[i].m,.blk l[i].x]])=H1:=⟨_,rfl⟩
  rw[hH1] at t1 hg1
  obtain⟨v2,H2,e2,rfl,t2⟩:=ucmay hlf (K:=K) H1 l[i].s l[i].m (n+1)
  have hmay:mayC l[i]=mayP l[i].s l[i].m:=rfl
  cases hB:mayP l[i].s l[i].m with
  | true=>
   rw[hB] at e2 hmay
   simp (maxDischargeDepth:=12) only[c29_l1,q15,q16,q17,hlt',hle,w1,ld,hw66,hp66,hH1,hg1,k0,e2,Nat.mul_one,hv,ldO_one,stO_one,sy,tup,↓reduceIte,zA,zG,zC,zD,zF,zE,zB,zH,reduceCtorEq]
   refine⟨l.length - (i+1),by omega,i+1,rfl,by omega,trivial,by simp[q0],by simp[q15],by simp[q16],by simp,fun j hj hji=>?_,(hT.trans t1).trans t2⟩
   by_cases e:j=i
   ·subst e;exact hmay
   ·exact hm j hj (by omega)
  | false=>
   rw[hB] at e2 hmay
   simp (maxDischargeDepth:=12) only[c29_l1,q15,q16,q17,hlt',hle,w1,ld,hw66,hp66,hH1,hg1,k0,e2,Nat.mul_one,hv,ldO_one,stO_one,sy,tup,↓reduceIte,zA,zG,zC,zD,zF,zE,zB,zH,reduceCtorEq]
   refine⟨trivial,(hT.trans t1).trans t2,.inr ⟨trivial,?_,trivial,trivial⟩⟩
   rw[List.all_eq_false]
   exact⟨l[i],List.getElem_mem _,by rw[hmay];decide⟩
 ·have:i=l.length:=by omega
  subst this
  simp (maxDischargeDepth:=12) only[c29_l1,q15,q16,q17,Int.lt_irrefl,hv,ldO_one,stO_one,sy,tup,↓reduceIte,zA,zG,zC,zD,zF,zE,zB,zH,reduceCtorEq]
  refine⟨trivial,hT,.inl ⟨trivial,?_,q0⟩⟩
  rw[List.all_eq_true]
  intro c hc
  obtain⟨j,hj,rfl⟩:=List.getElem_of_mem hc
  exact hm j hj hj
theorem ucput_fill {G:Heap} {pp:Option Ptr} {l:List Cl} {pc po:Nat} (h:CellsAt G pp l) (hl:l.length≤32) (hm:l.all mayC=true) {G1:Heap} (tG:Turns Z G G1) {w:Nat} (hw0:G.next≤w) (hw:G1.get (.run w)=some (.rows false 64 (rowsK (outA l 0)))) (wo:w < G1.next) (n:Nat):∀ t:T,t.getP (Tr.path 6)=some (.slice (some ⟨.run w,0⟩) (headsN l.length+0) (headsN l.length+l.length) 0)→t.getP (Tr.path 36)=some (.slice pp l.length pc po)→t.getP (Tr.path 37)=some (.int .i64 (l.length:Int))→t.getP (Tr.path 38)=some (.int .i64 0) →
  wp (loopF (runC (U lf K (n+2)) lf c29_l0) lf ⟨t,G1,[]⟩) fun x s=>x=.ex 2∧s.d=[]∧Turns Z G s.H∧s.t.getP (Tr.path 6)=some (.slice (some ⟨.run w,0⟩) (headsN l.length+l.length) (headsN l.length+l.length) 0)∧s.H.get (.run w)=some (.rows false 64 (rowsK (recL l)))∧w < s.H.next:=by
 intro t q6 q36 q37 q38
 refine wp_loopF (fun u s=>∃ i:Nat,u=l.length - i∧i≤l.length∧s.d=[]∧s.t.getP (Tr.path 6)=some (.slice (some ⟨.run w,0⟩) (headsN l.length+i) (headsN l.length+l.length) 0)∧s.t.getP (Tr.path 36)=some (.slice pp l.length pc po)∧s.t.getP (Tr.path 37)=some (.int .i64 (l.length:Int))∧s.t.getP (Tr.path 38)=some (.int .i64 (i:Int))∧s.H.get (.run w)=some (.rows false 64 (rowsK (outA l i)))∧w < s.H.next∧Turns Z G s.H)
  ?_ lf l.length _ ⟨0,rfl,Nat.zero_le _,rfl,q6,q36,q37,q38,hw,wo,tG⟩ (by omega)
 rintro u ⟨t,HH,d⟩ ⟨i,rfl,hi,hd,q6,q36,q37,q38,hwi,woi,hT⟩
 dsimp only at hd q6 q36 q37 q38 hwi woi hT
 subst hd
 by_cases hlt:i < l.length
 ·have hlt':(i:Int) < (l.length:Int):=by omega
  have hle:i+1≤l.length:=hlt
  have w1:IntKind.i64.wrap ((i:Int)+1)=((i+1:Nat):Int):=by rw[Go.Am.wrap_i64 (by omega)];omega
  obtain⟨x,ox,rfl,hld⟩:=(h.turnsZ hT).load hlt
  have ld:=hld 0 66 (by decide)
  rw[Nat.add_zero,show cut (rowC l[i]) 0 66=some (rowC l[i]) from rfl] at ld
  unfold rowC at ld
  have hmi:=mayC_t (List.all_eq_true.1 hm l[i] (List.getElem_mem _))
  obtain⟨N,hN⟩:∃ N,N=l[i].s.toNat:=⟨_,rfl⟩
  obtain⟨M,hM⟩:∃ M,M=l[i].m.toNat:=⟨_,rfl⟩
  have hNs:l[i].s=(N:Int):=by omega
  have hMs:l[i].m=(M:Int):=by omega
  have hstep:=outA_step (l:=l) (i:=i) hlt (by rw[outA_len];unfold headsN;omega) rfl
  have hpl:placeL l[i]=[dig N 0,dig N 1,M]:=by unfold placeL;rw[← hN,← hM]
  have hA:=outA_len l i
  have hq:i / 16 < headsN l.length:=by unfold headsN;omega
  have hqA:i / 16 < (outA l i).length:=by omega
  have hS32:headsN l.length≤2:=by unfold headsN;omega
  rw[hpl] at hstep
  rw[hNs,hMs] at ld
  generalize l[i].x=X at ld hstep
  generalize outA l i=A at hwi hstep hA hqA
  generalize hhN:headsN l.length=hN' at q6 hstep hA hq hS32
  obtain⟨q,hqe⟩:∃ q,q=i / 16:=⟨_,rfl⟩
  obtain⟨r,hre⟩:∃ r,r=i % 16:=⟨_,rfl⟩
  have hr16:r < 16:=by rw[hre];exact Nat.mod_lt _ (by decide)
  have aq:arith .quo (.int .i64 (i:Int)) (.int .i64 16)=some (.int .i64 (q:Int)):=by rw[hqe];exact quo_i64 i 16 (by decide) (by omega)
  have ar:arith .rem (.int .i64 (i:Int)) (.int .i64 16)=some (.int .i64 (r:Int)):=by rw[hre];exact rem_i64 i 16 (by decide)
  rw[← hqe] at hq hqA hstep
  rw[← hre] at hstep
  obtain⟨off,hoff⟩:∃ off,off=r*4:=⟨_,rfl⟩
  rw[← hoff] at hstep
  have wm:IntKind.i64.wrap ((r:Int)*4)=(off:Int):=by rw[Go.Am.wrap_i64 (by omega)];omega
  have offle:off≤60:=by omega
  have as2:asNat (.int .i64 2)=some 2:=rfl
  have hw66:width [V.int .i64 (N:Int),V.int .i64 (M:Int),V.blk X]=66:=rfl
  have hp66:put [V.int .i64 0,V.int .i64 0,V.blk 0] 0 [V.int .i64 (N:Int),V.int .i64 (M:Int),V.blk X]=some [V.int .i64 (N:Int),V.int .i64 (M:Int),V.blk X]:=rfl
  have k0:cut [V.int .i64 (N:Int),V.int .i64 (M:Int),V.blk X] 0 1=some [V.int .i64 (N:Int)]:=rfl
  have k1:cut [V.int .i64 (N:Int),V.int .i64 (M:Int),V.blk X] 1 1=some [V.int .i64 (M:Int)]:=rfl
  have k2:cut [V.int .i64 (N:Int),V.int .i64 (M:Int),V.blk X] 2 64=some [V.blk X]:=rfl
  have t1:Turns Z HH ((HH.add (.rows false 66 [[.int .i64 0,.int .i64 0,.blk 0]])).set (.run HH.next) (.rows false 66 [[.int .i64 (N:Int),.int .i64 (M:Int),.blk X]])):=by repeat (first | exact Turns.refl _ _ | apply Turns.skip | apply Turns.addm | apply Turns.setb | apply Turns.setl | apply Turns.setr | refine Turns.setn ?_ _ (by omega) _ | refine Turns.trans ?_ (tF _))
  have hg1:((HH.add (.rows false 66 [[.int .i64 0,.int .i64 0,.blk 0]])).set (.run HH.next) (.rows false 66 [[.int .i64 (N:Int),.int .i64 (M:Int),.blk X]])).get (.run HH.next)=some (.rows false 66 [[.int .i64 (N:Int),.int .i64 (M:Int),.blk X]]):=by rw[Heap.get_set,if_pos rfl]
  obtain⟨H1,hH1⟩:∃ H1,(HH.add (.rows false 66 [[.int .i64 0,.int .i64 0,.blk 0]])).set (.run HH.next) (.rows false 66 [[.int .i64 (N:Int),.int .i64 (M:Int),.blk X]])=H1:=⟨_,rfl⟩
  have n1:H1.next=HH.next+1:=by rw[← hH1];rfl
  rw[hH1] at t1 hg1
  have hw1:=(t1.same (.run w) woi (fun h=>h)).trans hwi
  have b1:bounds 64 64 (some (.int .i64 (off:Int))) none none=some (off,64,64):=by
   simp only[bounds,boundD,bound,C5,nble]
   simp[show off≤64 by omega]
  have b2:bounds (64 - off) (64 - off) none (some (.int .i64 4)) none=some (0,4,64 - off):=by
   simp only[bounds,boundD,bound,nble]
   rw[show asNat (.int .i64 4)=some 4 from rfl]
   simp[show 4≤64 - off by omega]
  have f1:¬ (64=off):=by omega
  have f2:¬ (64 - off=0):=by omega
  have wN:IntKind.u64.wrap (N:Int)=(N:Int):=Go.Am.wrap_u64 (by omega)
  obtain⟨v2,H2,e2,t2,h2⟩:=u_pnput_ok (K:=K) H1 (N:=N) (by omega) (s:=2) (by omega) (lf:=lf) (by omega) (n+1)
  obtain⟨k,rfl,hk,hk1⟩:∃ k,v2=.tuple [.slice (some ⟨.run k,0⟩) 2 2 0,.int .i64 0]∧BodyAt H2 k (dig N) 2∧H1.next≤k:=by
   rcases h2 with ⟨_,h⟩ | ⟨h,_⟩
   ·exact h
   ·exact absurd (Nat.div_eq_of_lt (by omega)) h
  change U lf K (n+2) 58 [.int .u64 (N:Int),.int .i64 2] H1=_ at e2
  have hw2:=(t2.same (.run w) (Nat.lt_of_lt_of_le woi t1.next) (fun h=>h)).trans hw1
  have hg2:=(t2.same (.run HH.next) (by show _ < _;omega) (fun h=>h)).trans hg1
  have hd0:=dig_lt N 0
  have hd1:=dig_lt N 1
  have cp:copyV 1 H2 (.slice (some ⟨.run w,q*64+off⟩) 4 (64 - off) 0) (.slice (some ⟨.run k,0⟩) 2 2 0)=some (.int .i64 2,H2.set (.run w) (.rows false 64 (rowsK (A.set q (layB (A.getD q 0) off [dig N 0,dig N 1]))))):=by
   have hel:firstE H2 1 (.slice (some ⟨.run k,0⟩) 2 2 0)=some (rowsN [dig N 0,dig N 1]):=elems_bod hk 2 0 (by omega)
   have hst:=store_layK [dig N 0,dig N 1] q off H2 A hqA hw2 (by simp only[List.length_cons,List.length_nil];omega) (by
    intro x hx
    simp only[List.mem_cons,List.not_mem_nil,or_false] at hx
    rcases hx with rfl | rfl<;>omega)
   unfold copyV
   simp only[show min 2 4=2 from rfl,show Nat.beq 2 0=false from rfl,hel,hst,Option.map_some]
   rfl
  obtain⟨A2,hA2⟩:∃ A2,A2=A.set q (layB (A.getD q 0) off [dig N 0,dig N 1]):=⟨_,rfl⟩
  have hA2l:A2.length=A.length:=by rw[hA2,List.length_set]
  have hA2q:A2.getD q 0=layB (A.getD q 0) off [dig N 0,dig N 1]:=by rw[hA2,getD_get (by rw[List.length_set];exact hqA),List.getElem_set_self]
  rw[← hA2] at cp
  obtain⟨H3,hH3⟩:∃ H3,H2.set (.run w) (.rows false 64 (rowsK A2))=H3:=⟨_,rfl⟩
  have hw3:H3.get (.run w)=some (.rows false 64 (rowsK A2)):=by rw[← hH3,Heap.get_set,if_pos rfl]
  have hwn:¬ (Bk.run HH.next=Bk.run w):=by intro e;cases e;omega
  have hg3:H3.get (.run HH.next)=some (.rows false 66 [[.int .i64 (N:Int),.int .i64 (M:Int),.blk X]]):=by rw[← hH3,Heap.get_set,if_neg hwn];exact hg2
  rw[hH3] at cp
  have wM:IntKind.u8.wrap (M:Int)=(M:Int):=wrap_u8 (by omega)
  have st3:=stK_byte (A:=A2) (q:=q) (by omega) (j:=off+2) (x:=M) (by omega) (by omega)
  rw[hA2q,show q*64+(off+2)=q*64+off+2 by omega] at st3
  obtain⟨A3,hA3⟩:∃ A3,A3=A2.set q (setByte (layB (A.getD q 0) off [dig N 0,dig N 1]) (off+2) M):=⟨_,rfl⟩
  rw[← hA3] at st3
  have hA3e:A3=A.set q (layB (A.getD q 0) off [dig N 0,dig N 1,M]):=by rw[hA3,hA2,List.set_set];rfl
  obtain⟨H4,hH4⟩:∃ H4,H3.set (.run w) (.rows false 64 (rowsK A3))=H4:=⟨_,rfl⟩
  have hw4:H4.get (.run w)=some (.rows false 64 (rowsK A3)):=by rw[← hH4,Heap.get_set,if_pos rfl]
  have hg4:H4.get (.run HH.next)=some (.rows false 66 [[.int .i64 (N:Int),.int .i64 (M:Int),.blk X]]):=by rw[← hH4,Heap.get_set,if_neg hwn];exact hg3
  have n4:H4.next=H2.next:=by rw[← hH4,← hH3];rfl
  have tn2:=t2.next
  have hy:(H4.add (.rows false 64 [[.blk X]])).get (.run H4.next)=some (.rows false 64 [[.blk X]]):=by rw[Heap.get_add,if_pos rfl]
  have hwa:(H4.add (.rows false 64 [[.blk X]])).get (.run w)=some (.rows false 64 (rowsK A3)):=by rw[Heap.get_add,if_neg (run_ne (by omega))];exact hw4
  have ea:=app_in (S:=hN'+l.length) (len:=hN'+i) (x:=X) (A:=A3) (y:=H4.next) hwa (by rw[hA3e,List.length_set];exact hA) (by omega) (by omega) hy
  have hfin:A3.set (hN'+i) X=outA l (i+1):=by rw[hA3e];exact hstep
  rw[hfin] at ea
  have hq1:q+1≤hN'+i:=by omega
  simp (maxDischargeDepth:=12) only[c29_l0,q6,q36,q37,q38,hlt',hle,w1,ld,hw66,hp66,hH1,hg1,hw1,aq,ar,arith_mul,wm,hq1,as2,b1,b2,f1,f2,k0,wN,e2,hg2,cp,hg3,hw3,k1,wM,st3,hH4,hg4,k2,ea,Nat.mul_one,Nat.sub_zero,hv,ldO_one,stO_one,sy,tup,↓reduceIte,zA,zG,zC,zD,zF,zE,zB,zH,reduceCtorEq]
  refine⟨l.length - (i+1),by omega,i+1,rfl,by omega,trivial,by rw[Nat.add_assoc],trivial,trivial,by simp,rfl,by omega,?_⟩
  have tw:∀ {J J':Heap},Turns Z G J→Turns (fun c=>c=.run w) J J'→Turns Z G J':=fun a b=>a.later b (fun c ho e=>by subst e;exact absurd ho (Heap.not_old hw0))
  have t3:Turns (fun c=>c=.run w) H2 H3:=by rw[← hH3];exact Turns.set (X:=fun c=>c=.run w) rfl H2 _
  have t4:Turns (fun c=>c=.run w) H3 H4:=by rw[← hH4];exact Turns.set (X:=fun c=>c=.run w) rfl H3 _
  exact((tw (tw ((hT.trans t1).trans t2) t3) t4).addm _).setn _ hw0 _
 ·have:i=l.length:=by omega
  subst this
  simp (maxDischargeDepth:=12) only[c29_l0,q36,q37,q38,Int.lt_irrefl,hv,ldO_one,stO_one,sy,tup,↓reduceIte,zA,zG,zC,zD,zF,zE,zB,zH,reduceCtorEq]
  exact⟨trivial,trivial,hT,q6,hwi,woi⟩
theorem szR_rec {k:Nat} (h1:1≤k) (h2:k≤32):szR k=recS k:=by
 unfold szR recS
 rw[if_neg (by omega)]
theorem ucput {G:Heap} {pp:Option Ptr} {l:List Cl} {pc po:Nat} (h:CellsAt G pp l) (hl:l.length+1 < lf) (hmax:l.length≤9223372036854775807) (n:Nat):ret (U lf K (n+3) 29 [.slice pp l.length pc po] G) fun v G'=>Turns Z G G' ∧
  ((pcode l≠0∧v=.tuple [.slice none 0 0 0,.int .i64 (pcode l)])∨(pcode l=0∧∃ w,v=.tuple [.slice (some ⟨.run w,0⟩) (recS l.length) (recS l.length) 0,.int .i64 0]∧G.next≤w∧w < G'.next∧G'.get (.run w)=some (.rows false 64 (rowsK (recL l))))):=by
 refine ret_callU rfl rfl c29_eq ?_
 by_cases h0:l=[]
 ·have pz:pcode l=2:=by rw[h0];rfl
  rw[pz]
  have hz':((l.length:Int)==0)=true:=by rw[h0];rfl
  simp (maxDischargeDepth:=12) only[c29,hz',hv,ldO_one,stO_one,sy,tup,↓reduceIte,zA,zG,zC,zD,zF,zE,zB,zH,reduceCtorEq]
  exact⟨trivial,.inr trivial,_,rfl,Turns.refl _ _,.inl ⟨by decide,rfl⟩⟩
 ·have hz:¬ (l.length=0):=fun e=>h0 (List.length_eq_zero_iff.1 e)
  have hz':((l.length:Int)==0)=false:=by rw[beq_eq_false_iff_ne];omega
  have pc0:pcode l=if l.all mayC=false then 2 else if 32 < l.length then 3 else 0:=by unfold pcode;rw[if_neg h0]
  simp (maxDischargeDepth:=12) only[c29,hz',hv,ldO_one,stO_one,sy,tup,↓reduceIte,zA,zG,zC,zD,zF,zE,zB,zH,reduceCtorEq]
  refine wp_ctx (F:=fun r=>seqC _ _ _ (blockC _ r)) (ucput_check hlf h hl hmax (n:=n) (pc:=pc) (po:=po) _ ?_ ?_ ?_ ?_) ?_
  ·simp only[sy,tup,↓reduceIte,zA,zG,zC,zD,zF,zE,zB,zH,reduceCtorEq]
  ·simp only[sy,tup,↓reduceIte,zA,zG,zC,zD,zF,zE,zB,zH,reduceCtorEq]
  ·simp only[sy,tup,↓reduceIte,zA,zG,zC,zD,zF,zE,zB,zH,reduceCtorEq]
  ·simp only[sy,tup,↓reduceIte,zA,zG,zC,zD,zF,zE,zB,zH,reduceCtorEq]
  rintro x ⟨t,H1,d⟩ ⟨hd,hT,⟨rfl,hm,q0⟩ | ⟨rfl,hm,q2,q3⟩⟩
  ·dsimp only at hd q0 hT
   subst hd
   rw[if_neg (by rw[hm];decide)] at pc0
   by_cases h32:32 < l.length
   ·rw[if_pos h32] at pc0
    rw[pc0]
    have h32':(32:Int) < (l.length:Int):=by omega
    simp (maxDischargeDepth:=12) only[q0,h32',hv,ldO_one,stO_one,sy,tup,↓reduceIte,zA,zG,zC,zD,zF,zE,zB,zH,reduceCtorEq]
    exact⟨trivial,.inr trivial,_,rfl,hT,.inl ⟨by decide,rfl⟩⟩
   ·rw[if_neg h32] at pc0
    rw[pc0]
    have h32':¬ (32:Int) < (l.length:Int):=by omega
    have e1:=uheads hlf (K:=K) H1 (k:=l.length) (by omega) (n+1)
    have e2:=usize hlf (K:=K) H1 (k:=l.length) (by omega) n
    have es:szR l.length=recS l.length:=szR_rec hlf (by omega) (by omega)
    rw[es] at e2
    change U lf K (n+2) 57 [.int .i64 (l.length:Int)] H1=some (.v (.int .i64 ((headsN l.length:Nat):Int)),H1) at e1
    have m0:headsN l.length≤recS l.length:=Nat.le_add_right _ _
    have m1:64*recS l.length≤1099511627776:=by unfold recS;omega
    have m2:recS l.length≤1099511627776:=by unfold recS;omega
    have ez:List.replicate (recS l.length) [V.blk 0]=rowsK (outA l 0):=by rw[outA_zero];unfold rowsK;rw[List.map_replicate];rfl
    have eS:recS l.length=headsN l.length+l.length:=rfl
    have hwn:(H1.add (.rows false 64 (rowsK (outA l 0)))).get (.run H1.next)=some (.rows false 64 (rowsK (outA l 0))):=by rw[Heap.get_add,if_pos rfl]
    have tA:Turns Z G (H1.add (.rows false 64 (rowsK (outA l 0)))):=hT.trans (Turns.add Z H1 _)
    have nA:(H1.add (.rows false 64 (rowsK (outA l 0)))).next=H1.next+1:=rfl
    obtain⟨H2,hH2⟩:∃ H2,H1.add (.rows false 64 (rowsK (outA l 0)))=H2:=⟨_,rfl⟩
    rw[hH2] at hwn tA nA
    have hl32:l.length≤32:=by omega
    have hf:=ucput_fill hlf (K:=K) h hl32 hm tA (w:=H1.next) hT.next hwn (by omega) (pc:=pc) (po:=po) n
    rw[← eS] at hf
    generalize recS l.length=S at e2 m0 m1 m2 ez hf ⊢
    generalize headsN l.length=hd at e1 m0 hf
    rw[Nat.add_zero] at hf
    simp (maxDischargeDepth:=12) only[q0,h32',e1,e2,mksliceF,m0,m1,m2,ez,hH2,hv,ldO_one,stO_one,sy,tup,↓reduceIte,zA,zG,zC,zD,zF,zE,zB,zH,reduceCtorEq]
    refine wp_ctx (F:=fun r=>seqC _ _ _ (blockC _ r)) (hf _ ?_ ?_ ?_ ?_) ?_
    ·simp only[sy,tup,↓reduceIte,zA,zG,zC,zD,zF,zE,zB,zH,reduceCtorEq]
    ·simp only[sy,tup,↓reduceIte,zA,zG,zC,zD,zF,zE,zB,zH,reduceCtorEq]
    ·simp only[sy,tup,↓reduceIte,zA,zG,zC,zD,zF,zE,zB,zH,reduceCtorEq]
    ·simp only[sy,tup,↓reduceIte,zA,zG,zC,zD,zF,zE,zB,zH,reduceCtorEq]
    rintro x ⟨t,H3,d⟩ ⟨rfl,hd,hT3,q6,hw3,wo3⟩
    dsimp only at hd q6 hT3 hw3 wo3
    subst hd
    simp (maxDischargeDepth:=12) only[q6,hv,ldO_one,stO_one,sy,tup,↓reduceIte,zA,zG,zC,zD,zF,zE,zB,zH,reduceCtorEq]
    exact⟨trivial,.inr trivial,_,rfl,hT3,.inr ⟨trivial,_,rfl,hT.next,wo3,hw3⟩⟩
  ·dsimp only at hd q2 q3 hT
   subst hd
   rw[if_pos hm] at pc0
   rw[pc0]
   simp (maxDischargeDepth:=12) only[q2,q3,hv,ldO_one,stO_one,sy,tup,↓reduceIte,zA,zG,zC,zD,zF,zE,zB,zH,reduceCtorEq]
   exact⟨trivial,.inr trivial,_,rfl,hT,.inl ⟨by decide,rfl⟩⟩
end
end Go.Proofs.YtabebpemfinejaaDoor.draft
namespace Go.Proofs.YtabebpemfinejaaDoor.draft
open Go.Am
open disk (bx Fit A1 R1 Low Bn)
noncomputable def c11_l0:C:=.seq (.reg [
 qo 64 (.p (arF .lss (tt 63) (tt 62))) [pp 63,pp 62]]) (
 .seq (.cond (tt 64) (.skip) (.exit 0)) (
 .seq (.block 1 (.seq (.reg [
 mv 65 63,
 qo 66 (.p (iaddrSF (tt 61) (tt 63) 1)) [pp 61,pp 63],
 qo 67 (.r (loadF (tt 66) 1 .sc)) [pp 66],
 mv 10 65,
 mv 11 67]) (
 .reg [
 mv 68 9,
 mv 69 0,
 mv 70 11,
 mv 71 6,
 mv 72 10,
 qo 73 (.p (iaddrSF (tt 71) (tt 72) 64)) [pp 71,pp 72],
 qo 74 (.r (loadF (tt 73) 64 .bk)) [pp 73],
 qo 75 (.c (callF (ff 32) [(tt 69),(tt 70),(tt 74)])) [pp 69,pp 70,pp 74],
 qo 76 (.m (bsliceF 1 1 [.nilFunc] [(0,1,(tt 75))])) [pp 75],
 qo 77 (.a (appF 1 8 (tt 68) (tt 76))) [pp 68,pp 76],
 mv 9 77]))) (
 .reg [
 qo 78 (.p (arF .add (tt 63) (ii 1))) [pp 63],
 mv 63 78])))
noncomputable def c11:CFn:=⟨[.tmp (pp 4),.tmp (pp 5)],
 .seq (.reg [
 qo 4 (.p (S.get (.c (.int .u64 0)))) [],
 qo 5 (.p (S.get (ii 0))) []]) (
 .seq (.seq (.reg [
 mv 16 0,
 qo 17 (.c (callF (ff 25) [(tt 16)])) [pp 16]]) (
 .cond (tt 17) (.seq (.reg [
 qo 4 (.p (S.get (.c (.int .u64 0)))) [],
 qo 5 (.p (S.get (ii 1))) []]) (
 .ret)) (.skip))) (
 .seq (.reg [
 mv 19 1,
 qo 20 (.c (callF (ff 29) [(tt 19)])) [pp 19],
 mv 18 20,
 qo 21 (.p (extF (tt 18) 0)) [pp 18],
 qo 22 (.p (extF (tt 18) 1)) [pp 18],
 mv 6 21,
 mv 7 22]) (
 .seq (.seq (.reg [
 mv 23 7,
 qo 24 (.p (eqcF true false [.int .i64] (tt 23) (ii 0))) [pp 23]]) (
 .cond (tt 24) (.seq (.reg [
 mv 25 7,
 qo 4 (.p (S.get (.c (.int .u64 0)))) [],
 mv 5 25]) (
 .ret)) (.skip))) (
 .seq (.regD [
 mv 27 0,
 qo 28 (.p (nilcF (tt 27))) [pp 27],
 qo 29 (.p (faddrF (tt 28) 3)) [pp 28],
 qo 30 (.r (loadF (tt 29) 1 .sc)) [pp 29],
 mv 31 0,
 qo 32 (.p (nilcF (tt 31))) [pp 31],
 qo 33 (.p (faddrF (tt 32) 6)) [pp 32],
 qo 34 (.r (loadF (tt 33) 1 .sc)) [pp 33],
 mv 35 0,
 qo 36 (.p (nilcF (tt 35))) [pp 35],
 qo 37 (.p (faddrF (tt 36) 7)) [pp 36],
 qo 38 (.r (loadF (tt 37) 1 .sc)) [pp 37],
 mv 39 6,
 qo 40 (.p (lenF (tt 39))) [pp 39],
 qo 41 (.c (callF (ff 30) [(tt 30),(tt 34),(tt 38),(tt 40)])) [pp 30,pp 34,pp 38,pp 40],
 mv 26 41,
 qo 42 (.p (extF (tt 26) 0)) [pp 26],
 qo 43 (.p (extF (tt 26) 1)) [pp 26],
 mv 8 42,
 mv 7 43] [0,1,3,7,0,16,48,112,0,256,768,1792,0,4096,16383,32767,65535,65535,131071,524287]) (
 .seq (.seq (.reg [
 mv 44 7,
 qo 45 (.p (eqcF true false [.int .i64] (tt 44) (ii 0))) [pp 44],
 mv 46 45,
 mg 47 0 46 false,
 qg 48 (.p (nilcF (tt 47))) 46 false [pp 47],
 qg 49 (.p (faddrF (tt 48) 8)) 46 false [pp 48],
 qg 50 (.r (loadF (tt 49) 1 .sc)) 46 false [pp 49],
 qg 51 (.p (lenF (tt 50))) 46 false [pp 50],
 qg 52 (.p (arF .geq (tt 51) (ii 8))) 46 false [pp 51],
 qo 53 (.p (pickF (tt 46) (.c (.bool true)) (tt 52))) [pp 46,pp 52]]) (
 .cond (tt 53) (.seq (.reg [
 qo 4 (.p (S.get (.c (.int .u64 0)))) [],
 qo 5 (.p (S.get (ii 10))) []]) (
 .ret)) (.skip))) (
 .seq (.reg [
 qo 9 (.p (S.get (.c (.slice none 0 0 0)))) []]) (
 .seq (.seq (.reg [
 mv 54 0,
 mv 55 0,
 qo 56 (.p (nilcF (tt 55))) [pp 55],
 qo 57 (.p (faddrF (tt 56) 7)) [pp 56],
 qo 58 (.r (loadF (tt 57) 1 .sc)) [pp 57],
 mv 59 6,
 qo 60 (.p (lenF (tt 59))) [pp 59],
 qo 61 (.c (callF (ff 31) [(tt 54),(tt 58),(tt 60)])) [pp 54,pp 58,pp 60],
 qo 62 (.p (lenF (tt 61))) [pp 61],
 qo 63 (.p (S.get (ii 0))) []]) (
 .block 0 (.loop c11_l0))) (
 .seq (.regD [
 mv 79 0,
 qo 80 (.c (callF (ff 27) [(tt 79)])) [pp 79],
 mv 81 0,
 qo 82 (.p (nilcF (tt 81))) [pp 81],
 qo 83 (.p (faddrF (tt 82) 7)) [pp 82],
 qo 84 (.r (loadF (tt 83) 1 .sc)) [pp 83],
 mv 85 1,
 qo 86 (.p (lenF (tt 85))) [pp 85],
 mv 87 6,
 qo 88 (.c (callF (ff 33) [(tt 87)])) [pp 87],
 qo 89 (.p (buildF [.int .u64 0,.int .u64 0,.int .i64 0,.int .u32 0] .ag [(0,1,(tt 80)),(1,1,(tt 84)),(2,1,(tt 86)),(3,1,(tt 88))])) [pp 80,pp 84,pp 86,pp 88],
 qo 12 (.m (allocF 4 [.int .u64 0,.int .u64 0,.int .i64 0,.int .u32 0])) [],
 qn (.a (storeF (tt 12) (tt 89) 4)) [pp 12,pp 89]] [0,1,0,4,12,28,0,64,0,259,1023,0,4095]) (
 .seq (.reg [
 qo 91 (.r (loadF (tt 12) 4 .ag)) [pp 12],
 qo 92 (.c (callF (ff 34) [(tt 91)])) [pp 91],
 mv 90 92,
 qo 93 (.p (extF (tt 90) 0)) [pp 90],
 qo 94 (.p (extF (tt 90) 1)) [pp 90],
 qo 13 (.m (allocF 64 [.blk 0])) [],
 qn (.a (storeF (tt 13) (tt 93) 64)) [pp 13,pp 93],
 mv 14 94]) (
 .seq (.regD [
 mv 95 9,
 mv 96 0,
 qo 97 (.p (mkfnF (.func 35) [(tt 96)] [])) [pp 96],
 mv 98 0,
 qo 99 (.p (faddrF (tt 12) 0)) [pp 12],
 qo 100 (.r (loadF (tt 99) 1 .sc)) [pp 99],
 qo 101 (.c (callF (ff 36) [(tt 100)])) [pp 100],
 qo 102 (.p (arF .add (ii 2) (tt 101))) [pp 101],
 qo 103 (.r (loadF (tt 13) 64 .bk)) [pp 13],
 qo 104 (.c (callF (ff 32) [(tt 98),(tt 102),(tt 103)])) [pp 98,pp 102,pp 103],
 mv 105 0,
 qo 106 (.p (mkfnF (.func 35) [(tt 105)] [])) [pp 105],
 qo 107 (.m (bsliceF 3 1 [.nilFunc] [(0,1,(tt 97)),(1,1,(tt 104)),(2,1,(tt 106))])) [pp 97,pp 104,pp 106],
 qo 108 (.a (appF 1 8 (tt 95) (tt 107))) [pp 95,pp 107],
 mv 9 108] [0,0,2,0,0,16,48,112,0,504,0,1024,4094,8191,16383]) (
 .seq (.seq (.reg [
 mv 109 9,
 qo 110 (.c (callF (ff 37) [(tt 109)])) [pp 109],
 mv 15 110]) (
 .seq (.reg [
 mv 111 15,
 qo 112 (.p (eqcF true false [.int .i64] (tt 111) (ii 0))) [pp 111]]) (
 .cond (tt 112) (.seq (.reg [
 mv 113 15,
 qo 4 (.p (S.get (.c (.int .u64 0)))) [],
 mv 5 113]) (
 .ret)) (.skip)))) (
 .seq (.regD [
 mv 114 0,
 mv 115 0,
 mv 116 0,
 qo 117 (.p (nilcF (tt 116))) [pp 116],
 qo 118 (.p (faddrF (tt 117) 8)) [pp 117],
 qo 119 (.r (loadF (tt 118) 1 .sc)) [pp 118],
 qo 120 (.r (loadF (tt 12) 4 .ag)) [pp 12],
 qo 121 (.m (bsliceF 1 4 [.int .u64 0,.int .u64 0,.int .i64 0,.int .u32 0] [(0,4,(tt 120))])) [pp 120],
 qo 122 (.a (appF 4 32 (tt 119) (tt 121))) [pp 119,pp 121],
 mv 123 8,
 qo 124 (.p (nilcF (tt 114))) [pp 114],
 qo 125 (.p (faddrF (tt 124) 8)) [pp 124],
 qn (.a (storeF (tt 125) (tt 122) 1)) [pp 125,pp 122],
 qo 126 (.p (nilcF (tt 115))) [pp 115],
 qo 127 (.p (faddrF (tt 126) 7)) [pp 126],
 qn (.a (storeF (tt 127) (tt 123) 1)) [pp 127,pp 123]] [0,0,0,4,12,28,0,64,252,0,509,1533,3581,8191,16383,32767]) (
 .seq (.reg [
 qo 128 (.p (faddrF (tt 12) 0)) [pp 12],
 qo 129 (.r (loadF (tt 128) 1 .sc)) [pp 128],
 mv 4 129,
 qo 5 (.p (S.get (ii 0))) []]) (
 .ret))))))))))))))⟩
theorem c11_eq:fnOf Tryd.prog 11=some c11:=by kernel_rfl
def LX (b l:Bk) (lv:V):Bk→Prop:=fun c=>c=b∨c=l∨Bof lv c
def recT (R p:Nat) (A:List Nat):List Stp:=(List.range A.length).map fun j=>.wr ((p+j) % R+10) (A.getD j 0)
noncomputable def appT (R p:Nat) (A:List Nat) (N:Nt):List Stp:=recT R p A++[.fl,.wr (2+N.seq % 8) (noteB N),.fl]
noncomputable def ntOf (first hd:Nat) (N:List Nt) (cs:List Cl):Nt:=⟨first+N.length,hd,cs.length,sumB (recL cs)⟩
def roomN (R tail head:Nat) (N:List Nt) (cs:List Cl):Bool:=roomR R tail head (recS cs.length)&&decide (N.length < 8)
theorem StepAt.func {G0 H:Heap} {l:Bk} {v:V} {s:Stp} (h:StepAt G0 H l v s):∃ f a k,v=.func f a k:=by
 cases s with
 | fl=>exact⟨_,_,_,h⟩
 | wr n x=>
  obtain⟨a1,a2,a3,e,_⟩:=h
  exact⟨_,_,_,e⟩
theorem StepAt.away {G0 G1 H H':Heap} {l:Bk} {v y:V} {s:Stp} {Vs:List V} (h:StepAt G0 H l v s) (hy:Lst G1 H 1 (Vs.map fun v=>[v]) y) (hf:∀ v ∈ Vs,∃ f a k,v=.func f a k) (t:Turns (Bof y) H H'):StepAt G0 H' l v s:=by
 cases s with
 | fl=>exact h
 | wr n x=>
  obtain⟨a1,a2,a3,e,g1,g2,g3,l1,l2,l3,h1,h2,h3⟩:=h
  have nb:∀ a,(∀ f k j,H.get (.run a)≠some (.rows false 1 ([.func f k j]::(Vs.tail.map fun v=>[v]))))→¬ Bof y (.run a):=fun a ha hb=>by
   obtain⟨_,_,_,_,hg⟩:=hy.bof hb
   have hne:Vs≠[]:=fun e=>by
    obtain⟨p,q,r,o,e2,_⟩:=hb
    rcases hy with ⟨_,e3⟩ | ⟨_,hn,_⟩
    ·rw[e3] at e2;cases e2
    ·rw[e] at hn;exact hn rfl
   cases Vs with
   | nil=>exact hne rfl
   | cons x Vs=>
    obtain⟨f,k,j,rfl⟩:=hf x (List.mem_cons_self ..)
    exact ha f k j hg
  refine⟨a1,a2,a3,e,g1,g2,g3,Nat.lt_of_lt_of_le l1 t.next,Nat.lt_of_lt_of_le l2 t.next,Nat.lt_of_lt_of_le l3 t.next,(t.same (.run a1) l1 (nb a1 fun f k j=>?_)).trans h1,(t.same (.run a2) l2 (nb a2 fun f k j=>?_)).trans h2,(t.same (.run a3) l3 (nb a3 fun f k j=>?_)).trans h3⟩
  ·rw[h1];intro e;cases e
  ·rw[h2];intro e;cases e
  ·rw[h3];intro e;cases e
section
variable {lf K:Nat} (hlf:1000 < lf)
include hlf
theorem ulappend_steps {G:Heap} {l:Bk} {A:List Nat} {w u R p:Nat} (hA:A.length≤100) (hw:G.get (.run w)=some (.rows false 64 (rowsK A))) (wo:w < G.next) (hu:G.get (.run u)=some (.rows false 1 (rowsI (secs R p A.length)))) (uo:u < G.next) (hR:1≤R∧R≤256) {a1 a8:V} (n:Nat):∀ t:T,t.getP (Tr.path 0)=some (.ptr (some ⟨l,0⟩))→t.getP (Tr.path 1)=some a1→t.getP (Tr.path 8)=some a8→t.getP (Tr.path 6)=some (.slice (some ⟨.run w,0⟩) A.length A.length 0)→t.getP (Tr.path 9)=some (.slice none 0 0 0)→t.getP (Tr.path 61)=some (.slice (some ⟨.run u,0⟩) A.length A.length 0)→t.getP (Tr.path 62)=some (.int .i64 (A.length:Int))→t.getP (Tr.path 63)=some (.int .i64 0) →
  wp (loopF (runC (U lf K (n+1)) lf c11_l0) lf ⟨t,G,[]⟩) fun x s=>x=.ex 0∧s.d=[]∧s.t.getP (Tr.path 0)=some (.ptr (some ⟨l,0⟩))∧s.t.getP (Tr.path 1)=some a1∧s.t.getP (Tr.path 6)=some (.slice (some ⟨.run w,0⟩) A.length A.length 0)∧s.t.getP (Tr.path 8)=some a8∧Turns Z G s.H∧∃(Vs:List V) (y:V),s.t.getP (Tr.path 9)=some y∧Lst G s.H 1 (Vs.map fun v=>[v]) y∧Vs.length=A.length∧(∀ j (h1:j < Vs.length),StepAt G s.H l Vs[j] (.wr ((p+j) % R+10) (A.getD j 0))):=by
 intro t q0 q1 q8 q6 q9 q61 q62 q63
 refine wp_loopF (fun k s=>∃(i:Nat) (Vs:List V) (y:V),k=A.length - i∧i≤A.length∧s.d=[]∧s.t.getP (Tr.path 0)=some (.ptr (some ⟨l,0⟩))∧s.t.getP (Tr.path 1)=some a1∧s.t.getP (Tr.path 8)=some a8∧s.t.getP (Tr.path 6)=some (.slice (some ⟨.run w,0⟩) A.length A.length 0)∧s.t.getP (Tr.path 9)=some y∧s.t.getP (Tr.path 61)=some (.slice (some ⟨.run u,0⟩) A.length A.length 0)∧s.t.getP (Tr.path 62)=some (.int .i64 (A.length:Int))∧s.t.getP (Tr.path 63)=some (.int .i64 (i:Int))∧Lst G s.H 1 (Vs.map fun v=>[v]) y∧Vs.length=i∧(∀ j (h1:j < Vs.length),StepAt G s.H l Vs[j] (.wr ((p+j) % R+10) (A.getD j 0)))∧Turns Z G s.H)
  ?_ lf A.length _ ⟨0,[],_,rfl,Nat.zero_le _,rfl,q0,q1,q8,q6,q9,q61,q62,q63,Lst.nil _ _ _,rfl,fun j h1=>absurd h1 (by simp),Turns.refl _ _⟩ (by omega)
 rintro k ⟨t,HH,d⟩ ⟨i,Vs,y,rfl,hi,hd,q0,q1,q8,q6,q9,q61,q62,q63,hy,hVs,hst,hT⟩
 dsimp only at hd q0 q1 q8 q6 q9 q61 q62 q63 hy hst hT
 subst hd
 by_cases hlt:i < A.length
 ·have hlt':(i:Int) < (A.length:Int):=by omega
  have hle:i+1≤A.length:=hlt
  have w1:IntKind.i64.wrap ((i:Int)+1)=((i+1:Nat):Int):=by rw[Go.Am.wrap_i64 (by omega)];omega
  have hm:(p+i) % R < R:=Nat.mod_lt _ (by omega)
  have hwH:=(hT.same (.run w) wo (fun h=>h)).trans hw
  have huH:=(hT.same (.run u) uo (fun h=>h)).trans hu
  have hsl:(secs R p A.length).length=A.length:=by unfold secs;simp
  have ld1:=ldI (ro:=false) (A:=secs R p A.length) (i:=i) (by omega)
  have hsi:(secs R p A.length)[i]'(by omega)=(((p+i) % R+10:Nat):Int):=by unfold secs;rw[List.getElem_map,List.getElem_range]
  rw[hsi] at ld1
  have ld2:=ldK (ro:=false) hlt
  rw[← getD_get hlt] at ld2
  obtain⟨m,hmm⟩:∃ m,m=(p+i) % R+10:=⟨_,rfl⟩
  rw[← hmm] at ld1
  obtain⟨X,hX⟩:∃ X,X=A.getD i 0:=⟨_,rfl⟩
  rw[← hX] at ld2
  obtain⟨v1,H1,e1,hs1,t1⟩:=ulput hlf (K:=K) HH l m X n
  have hs1':=hs1
  obtain⟨b1,b2,b3,rfl,g1,g2,g3,l1,l2,l3,h1,h2,h3⟩:=hs1'
  have hy1:=hy.turns t1 (fun _ _ h=>h)
  have hxg:(H1.add (.rows false 1 [[.func (.func 60) [] [.ptr (some ⟨.run b1,0⟩),.ptr (some ⟨.run b2,0⟩),.ptr (some ⟨.run b3,0⟩)]]])).get (.run H1.next)=some (.rows false 1 [[.func (.func 60) [] [.ptr (some ⟨.run b1,0⟩),.ptr (some ⟨.run b2,0⟩),.ptr (some ⟨.run b3,0⟩)]]]):=by rw[Heap.get_add,if_pos rfl]
  have ta:=Turns.add Z H1 (.rows false 1 [[.func (.func 60) [] [.ptr (some ⟨.run b1,0⟩),.ptr (some ⟨.run b2,0⟩),.ptr (some ⟨.run b3,0⟩)]]])
  obtain⟨H2,hH2⟩:∃ H2,H1.add (.rows false 1 [[.func (.func 60) [] [.ptr (some ⟨.run b1,0⟩),.ptr (some ⟨.run b2,0⟩),.ptr (some ⟨.run b3,0⟩)]]])=H2:=⟨_,rfl⟩
  rw[hH2] at hxg ta
  have hy2:=hy1.turns ta (fun _ _ h=>h)
  have hvl:(Vs.map fun v=>[v]).length=i:=by rw[List.length_map,hVs]
  have tt:=(hT.trans t1).trans ta
  obtain⟨H3,ea,hy3,t3,_⟩:=hy2.app1 (by':=8) tt.next hxg rfl (by decide) (by rw[hvl];omega) (by rw[hvl];omega)
  rw[hvl] at ea hy3
  have hf:∀ v ∈ Vs,∃ f a k,v=V.func f a k:=fun v hv=>by
   obtain⟨j,hj,rfl⟩:=List.getElem_of_mem hv
   exact(hst j hj).func
  have t3':=lst_away hy2 tt (Nat.le_refl _) t3
  have hs3:StepAt G H3 l (.func (.func 60) [] [.ptr (some ⟨.run b1,0⟩),.ptr (some ⟨.run b2,0⟩),.ptr (some ⟨.run b3,0⟩)]) (.wr m X):=by
   have hn:=hT.next
   have h0:StepAt G H1 l (.func (.func 60) [] [.ptr (some ⟨.run b1,0⟩),.ptr (some ⟨.run b2,0⟩),.ptr (some ⟨.run b3,0⟩)]) (.wr m X):=⟨b1,b2,b3,rfl,by omega,by omega,by omega,l1,l2,l3,h1,h2,h3⟩
   exact(h0.turns ta (fun _ _ _ h=>h)).away hy2 hf t3
  have hst3:∀ j (h1:j < Vs.length),StepAt G H3 l Vs[j] (.wr ((p+j) % R+10) (A.getD j 0)):=fun j hj=>(((hst j hj).turns t1 (fun _ _ _ h=>h)).turns ta (fun _ _ _ h=>h)).away hy2 hf t3
  simp (maxDischargeDepth:=12) only[c11_l0,q0,q6,q9,q61,q62,q63,hlt',hle,w1,hwH,huH,ld1,ld2,e1,hH2,ea,Nat.mul_one,hv,ldO_one,stO_one,sy,tup,↓reduceIte,zA,zG,zC,zD,zF,zE,zB,zH,reduceCtorEq]
  refine⟨A.length - (i+1),by omega,i+1,Vs++[.func (.func 60) [] [.ptr (some ⟨.run b1,0⟩),.ptr (some ⟨.run b2,0⟩),.ptr (some ⟨.run b3,0⟩)]],_,rfl,by omega,trivial,by simp[q0],by simp[q1],by simp[q8],by simp[q6],rfl,by simp[q61],by simp[q62],by simp,by rw[List.map_append];exact hy3,by simp[hVs],fun j hj=>?_,t3'⟩
  by_cases e:j < Vs.length
  ·rw[List.getElem_append_left e]
   exact hst3 j e
  ·have ej:j=Vs.length:=by simp at hj;omega
   subst ej
   have g1:(Vs++[V.func (.func 60) [] [.ptr (some ⟨.run b1,0⟩),.ptr (some ⟨.run b2,0⟩),.ptr (some ⟨.run b3,0⟩)]])[Vs.length]'hj=.func (.func 60) [] [.ptr (some ⟨.run b1,0⟩),.ptr (some ⟨.run b2,0⟩),.ptr (some ⟨.run b3,0⟩)]:=by simp
   rw[g1,hVs,← hmm,← hX]
   exact hs3
 ·have:i=A.length:=by omega
  subst this
  simp (maxDischargeDepth:=12) only[c11_l0,q61,q62,q63,Int.lt_irrefl,hv,ldO_one,stO_one,sy,tup,↓reduceIte,zA,zG,zC,zD,zF,zE,zB,zH,reduceCtorEq]
  exact⟨trivial,trivial,q0,q1,q6,q8,hT,Vs,y,q9,hy,hVs,hst⟩
end
end Go.Proofs.YtabebpemfinejaaDoor.draft
namespace Go.Proofs.YtabebpemfinejaaDoor.draft
open Go.Am
open disk (bx Fit A1 R1 Low Bn)
theorem blks_run {H:Heap} {w c z:Nat} {A:List Nat} (h:H.get (.run w)=some (.rows false 64 (rowsK A))):BlksAt H (.slice (some ⟨.run w,0⟩) A.length c z) A:=
 ⟨⟨_,_,_,rfl⟩,fun i hi=>⟨w,0,_,_,rfl,by rw[Nat.zero_add,ld_get,h];exact ldK hi⟩⟩
theorem elems3 {H:Heap} {w:Nat} {a b c:V} (h:H.get (.run w)=some (.rows false 1 [[a],[b],[c]])) (ha:cut [a] 0 1=some [a]) (hb:cut [b] 0 1=some [b]) (hc:cut [c] 0 1=some [c]):firstE H 1 (.slice (some ⟨.run w,0⟩) 3 3 0)=some [[a],[b],[c]]:=by
 have l0:loadAt H ⟨.run w,0⟩ 1=some [a]:=by rw[loadAt_eq h (r:=[a]) rfl];exact ha
 have l1:loadAt H ⟨.run w,Nat.add 0 1⟩ 1=some [b]:=by rw[loadAt_eq h (r:=[b]) rfl];exact hb
 have l2:loadAt H ⟨.run w,Nat.add (Nat.add 0 1) 1⟩ 1=some [c]:=by rw[loadAt_eq h (r:=[c]) rfl];exact hc
 simp only[firstE,elems,l0,l1,l2]
 rfl
section
variable {lf K:Nat} (hlf:1000 < lf)
include hlf
theorem ulappend {G:Heap} {l b:Bk} {id R cnt first tail head:Nat} {N:List Nt} {lv:V} (h:LogAt G l b id R cnt first tail head N lv) (bo:G.Old b) (lb:l≠b) {B:Bn} (hb:G.get b=some (bx false B)) (hR:Rm 40 B) {pp:Option Ptr} {cs:List Cl} {pc po:Nat} (hc:CellsAt G pp cs) (hcl:cs.length+1 < lf) (hmax:cs.length≤9223372036854775807) (hfirst:1≤first) (hf61:first+N.length < 4611686018427387904) (n:Nat) :
    ret (U lf K (n+6) 11 [.ptr (some ⟨l,0⟩),.slice pp cs.length pc po] G) fun v G'=>
      (∃ e:Int,e≠0∧v=.tuple [.int .u64 0,.int .i64 e]∧Turns Z G G'∧((pcode cs≠0∧e=pcode cs)∨(pcode cs=0∧roomN R tail head N cs=false∧e=10))) ∨
      (pcode cs=0∧roomN R tail head N cs=true∧G'.get b=some (bx false (doneB B (appT R head (recL cs) (ntOf first head N cs))))∧∃ e,e=doneC B (appT R head (recL cs) (ntOf first head N cs)) ∧
        ((e≠0∧v=.tuple [.int .u64 0,.int .i64 e]∧Turns (fun c=>c=b) G G') ∨
         (e=0∧v=.tuple [.int .u64 ((first+N.length:Nat):Int),.int .i64 0]∧Turns (LX b l lv) G G'∧∃ lv',LogAt G' l b id R cnt first tail (head+recS cs.length) (N++[ntOf first head N cs]) lv'∧∀ c,Bof lv' c→¬ G.Old c))):=by
  have e0:=ulnone hlf h (K:=K) (n+4)
  obtain⟨v1,H1,e1,t1,h1⟩:=ucput hlf (K:=K) hc hcl hmax (pc:=pc) (po:=po) (n+2)
  refine ret_callU rfl rfl c11_eq ?_
  rcases h1 with ⟨hp,rfl⟩ | ⟨hp,w,rfl,hw0,hw1,hw⟩
  · have hp':(pcode cs==0)=false:=beq_eq_false_iff_ne.2 hp
    generalize pcode cs=P at e1 hp hp' ⊢
    simp (maxDischargeDepth:=12) only[c11,e0,e1,hp',hv,ldO_one,stO_one,sy,tup,↓reduceIte,zA,zG,zC,zD,zF,zE,zB,zH,reduceCtorEq]
    exact⟨trivial,.inr trivial,_,rfl,.inl ⟨P,hp,rfl,t1,.inl ⟨hp,rfl⟩⟩⟩
  obtain⟨hg,G0,hN,hG0⟩:=h.ex
  have k3:cut (lcells b id R cnt first tail head lv) 3 1=some [.int .i64 (R:Int)]:=rfl
  have k6:cut (lcells b id R cnt first tail head lv) 6 1=some [.int .u64 (tail:Int)]:=rfl
  have k7:cut (lcells b id R cnt first tail head lv) 7 1=some [.int .u64 (head:Int)]:=rfl
  have hl32:cs.length≤32∧1≤cs.length∧cs.all mayC=true:=by
    unfold pcode at hp
    split at hp
    · cases hp
    · rename_i h1
      split at hp
      · cases hp
      · rename_i h2
        split at hp
        · cases hp
        · rename_i h3
          have:=List.length_pos_iff.2 h1
          exact⟨by omega,by omega,by simpa using h2⟩
  obtain⟨k,hk⟩:∃ k,k=recS cs.length:=⟨_,rfl⟩
  have hk34:1≤k∧k≤34:=by rw[hk];unfold recS;omega
  have hAl:(recL cs).length=k:=by rw[recL_len,hk]
  have hg1:=(t1.same l h.old (fun h=>h)).trans hg
  rw[← hk] at e1
  have e2:=urtake hlf (K:=K) H1 h.rg (k:=k) (by omega) (n+2)
  have e2n:roomN R tail head N cs=(roomR R tail head k&&decide (N.length < 8)):=by unfold roomN;rw[← hk]
  have hnl:=h.nl
  have hrl:=rowsT_len N
  obtain⟨lp,lc,lo,rfl⟩:=hN.val
  rw[hrl] at hg hg1 hN k3 k6 k7
  have k8:cut (lcells b id R cnt first tail head (.slice lp N.length lc lo)) 8 1=some [.slice lp N.length lc lo]:=rfl
  by_cases hroom:roomR R tail head k=true
  rotate_left
  · rw[Bool.not_eq_true] at hroom
    rw[hroom] at e2 e2n
    rw[if_neg (by decide)] at e2
    simp (maxDischargeDepth:=12) only[c11,e0,e1,hg1,k3,k6,k7,e2,hv,ldO_one,stO_one,sy,tup,↓reduceIte,zA,zG,zC,zD,zF,zE,zB,zH,reduceCtorEq]
    rw[endD_ok (by kernel_rfl) (by kernel_rfl)]
    simp (maxDischargeDepth:=12) only[hv,ldO_one,stO_one,sy,tup,↓reduceIte,zA,zG,zC,zD,zF,zE,zB,zH,reduceCtorEq]
    exact⟨trivial,.inr trivial,_,rfl,.inl ⟨10,by decide,rfl,t1,.inr ⟨hp,by rw[e2n];rfl,rfl⟩⟩⟩
  rw[hroom] at e2 e2n
  rw[if_pos rfl] at e2
  by_cases hN8:N.length < 8
  rotate_left
  · have hn8':(8:Int)≤(N.length:Int):=by omega
    simp (maxDischargeDepth:=12) only[c11,e0,e1,hg1,k3,k6,k7,k8,e2,hn8',hv,ldO_one,stO_one,sy,tup,↓reduceIte,zA,zG,zC,zD,zF,zE,zB,zH,reduceCtorEq]
    rw[endD_ok (by kernel_rfl) (by kernel_rfl)]
    simp (maxDischargeDepth:=12) only[hg1,k8,hn8',hv,ldO_one,stO_one,sy,tup,↓reduceIte,zA,zG,zC,zD,zF,zE,zB,zH,reduceCtorEq]
    exact⟨trivial,.inr trivial,_,rfl,.inl ⟨10,by decide,rfl,t1,.inr ⟨hp,by rw[e2n,decide_eq_false hN8];rfl,rfl⟩⟩⟩
  have hn8':¬ (8:Int)≤(N.length:Int):=by omega
  have hRb:=h.rb
  have hrg:=h.rg
  have hkR:k≤R - (head - tail)∧head+k≤4611686018427387904:=by
    unfold roomR at hroom
    simp only[Bool.and_eq_true,decide_eq_true_eq] at hroom
    have:=hrg.hm
    omega
  have h':LogAt H1 l b id R cnt first tail head N (.slice lp N.length lc lo):=⟨⟨hg1,G0,hN.turns t1 (fun _ _ h=>h),Nat.le_trans hG0 t1.next⟩,h.old.mono t1.next,h.rb,h.rg,h.fn,h.nl⟩
  obtain⟨v3,H2,e3,u,rfl,hu0,hu1,hu,t2⟩:=ulsectors hlf (K:=K) h' (p:=head) (k:=k) hkR.2 (by omega) (n+2)
  simp (maxDischargeDepth:=12) only[c11,e0,e1,hg1,k3,k6,k7,k8,e2,hv,ldO_one,stO_one,sy,tup,↓reduceIte,zA,zG,zC,zD,zF,zE,zB,zH,reduceCtorEq]
  rw[endD_ok (by kernel_rfl) (by kernel_rfl)]
  have hw2:=(t2.same (.run w) hw1 (fun h=>h)).trans hw
  have tG2:=t1.trans t2
  have hloop:=ulappend_steps hlf (K:=K) (G:=H2) (l:=l) (A:=recL cs) (w:=w) (u:=u) (R:=R) (p:=head) (by omega) hw2 (Nat.lt_of_lt_of_le hw1 t2.next) (by rw[hAl];exact hu) hu1 hRb (a1:=.slice pp cs.length pc po) (a8:=.int .u64 ((head+k:Nat):Int)) (n+4)
  rw[hAl] at hloop
  simp (maxDischargeDepth:=12) only[hg1,k7,k8,hn8',e3,hv,ldO_one,stO_one,sy,tup,↓reduceIte,zA,zG,zC,zD,zF,zE,zB,zH,reduceCtorEq]
  refine wp_ctx (F:=fun r=>seqC _ _ _ (blockC _ r)) (hloop _ ?_ ?_ ?_ ?_ ?_ ?_ ?_ ?_) ?_
  · simp only[sy,tup,↓reduceIte,zA,zG,zC,zD,zF,zE,zB,zH,reduceCtorEq]
  · simp only[sy,tup,↓reduceIte,zA,zG,zC,zD,zF,zE,zB,zH,reduceCtorEq]
  · simp only[sy,tup,↓reduceIte,zA,zG,zC,zD,zF,zE,zB,zH,reduceCtorEq]
  · simp only[sy,tup,↓reduceIte,zA,zG,zC,zD,zF,zE,zB,zH,reduceCtorEq]
  · simp only[sy,tup,↓reduceIte,zA,zG,zC,zD,zF,zE,zB,zH,reduceCtorEq]
  · simp only[sy,tup,↓reduceIte,zA,zG,zC,zD,zF,zE,zB,zH,reduceCtorEq]
  · simp only[sy,tup,↓reduceIte,zA,zG,zC,zD,zF,zE,zB,zH,reduceCtorEq]
  · simp only[sy,tup,↓reduceIte,zA,zG,zC,zD,zF,zE,zB,zH,reduceCtorEq]
  rintro x ⟨t,H3,d⟩ ⟨rfl,hd,q0,q1,q6,q8,t3,Vs,y,q9,hy,hVs,hst⟩
  dsimp only at hd q0 q1 q6 q8 t3 q9 hy hst
  subst hd
  have tG3:=tG2.trans t3
  have h3:LogAt H3 l b id R cnt first tail head N (.slice lp N.length lc lo):=⟨⟨(tG3.same l h.old (fun h=>h)).trans hg,G0,hN.turns tG3 (fun _ _ h=>h),Nat.le_trans hG0 tG3.next⟩,h.old.mono tG3.next,h.rb,h.rg,h.fn,h.nl⟩
  have hg3:=h3.ex.1
  have e4:=ulnext hlf h3 (K:=K) (n+4)
  have hw3:=(t3.same (.run w) (Nat.lt_of_lt_of_le hw1 t2.next) (fun h=>h)).trans hw2
  have hwo3:w < H3.next:=Nat.lt_of_lt_of_le (Nat.lt_of_lt_of_le hw1 t2.next) t3.next
  obtain⟨v5,H4,e5,rfl,t4⟩:=usum (K:=K) hlf (G:=H3) (v:=.slice (some ⟨.run w,0⟩) k k 0) (l:=recL cs) (fun H tH=>by
    have:=blks_run (c:=k) (z:=0) ((tH.same (.run w) hwo3 (fun h=>h)).trans hw3)
    rw[hAl] at this
    exact this) (by omega) (n+2)
  obtain⟨nt,hnt⟩:∃ nt,nt=ntOf first head N cs:=⟨_,rfl⟩
  obtain⟨sq,hsq⟩:∃ sq,sq=first+N.length:=⟨_,rfl⟩
  obtain⟨sm,hsm⟩:∃ sm,sm=sumB (recL cs):=⟨_,rfl⟩
  have hntv:ntV nt=[.int .u64 (sq:Int),.int .u64 (head:Int),.int .i64 (cs.length:Int),.int .u32 (sm:Int)]:=by rw[hnt,hsq,hsm];rfl
  rw[← hsq] at e4
  rw[← hsm] at e5
  have hg4:=(t4.same l h3.old (fun h=>h)).trans hg3
  have t5:Turns Z H4 ((H4.add (.rows false 4 [[.int .u64 0,.int .u64 0,.int .i64 0,.int .u32 0]])).set (.run H4.next) (.rows false 4 [[.int .u64 (sq:Int),.int .u64 (head:Int),.int .i64 (cs.length:Int),.int .u32 (sm:Int)]])):=by repeat (first | exact Turns.refl _ _ | apply Turns.skip | apply Turns.addm | apply Turns.setb | apply Turns.setl | apply Turns.setr | refine Turns.setn ?_ _ (by omega) _ | refine Turns.trans ?_ (tF _))
  have hn5:((H4.add (.rows false 4 [[.int .u64 0,.int .u64 0,.int .i64 0,.int .u32 0]])).set (.run H4.next) (.rows false 4 [[.int .u64 (sq:Int),.int .u64 (head:Int),.int .i64 (cs.length:Int),.int .u32 (sm:Int)]])).get (.run H4.next)=some (.rows false 4 [[.int .u64 (sq:Int),.int .u64 (head:Int),.int .i64 (cs.length:Int),.int .u32 (sm:Int)]]):=by rw[Heap.get_set,if_pos rfl]
  obtain⟨H5,hH5⟩:∃ H5,(H4.add (.rows false 4 [[.int .u64 0,.int .u64 0,.int .i64 0,.int .u32 0]])).set (.run H4.next) (.rows false 4 [[.int .u64 (sq:Int),.int .u64 (head:Int),.int .i64 (cs.length:Int),.int .u32 (sm:Int)]])=H5:=⟨_,rfl⟩
  have nn5:H5.next=H4.next+1:=by rw[← hH5];rfl
  rw[hH5] at t5 hn5
  have put4:put [V.int .u64 0,V.int .u64 0,V.int .i64 0,V.int .u32 0] 0 [.int .u64 (sq:Int),.int .u64 (head:Int),.int .i64 (cs.length:Int),.int .u32 (sm:Int)]=some [.int .u64 (sq:Int),.int .u64 (head:Int),.int .i64 (cs.length:Int),.int .u32 (sm:Int)]:=rfl
  have wid4:width [V.int .u64 (sq:Int),.int .u64 (head:Int),.int .i64 (cs.length:Int),.int .u32 (sm:Int)]=4:=rfl
  obtain⟨Q,hQ⟩:∃ Q:List (Option V × Option V),Q=[(loadF (.t (Tr.path 83)) 1 .sc (Tr.setP (Tr.path 83) (.ptr (some ⟨l,7⟩)) .e) H3,some (.int .u64 (head:Int))),(loadF (.t (Tr.path 83)) 1 .sc (Tr.setP (Tr.path 83) (.ptr (some ⟨l,7⟩)) .e) H3,some (.int .u64 (head:Int))),(loadF (.t (Tr.path 83)) 1 .sc (Tr.setP (Tr.path 83) (.ptr (some ⟨l,7⟩)) .e) H3,some (.int .u64 (head:Int))),(loadF (.t (Tr.path 83)) 1 .sc (Tr.setP (Tr.path 83) (.ptr (some ⟨l,7⟩)) .e) H4,some (.int .u64 (head:Int)))]:=⟨_,rfl⟩
  have hQ':∀ x ∈ Q,x.1=x.2:=by
    rw[hQ]
    intro x hx
    simp only[List.mem_cons,List.not_mem_nil,or_false] at hx
    rcases hx with rfl | rfl | rfl | rfl<;>simp (maxDischargeDepth:=12) only[hg3,hg4,k7,hv,ldO_one,stO_one,sy,tup,↓reduceIte,zA,zG,zC,zD,zF,zE,zB,zH,reduceCtorEq]
  simp (maxDischargeDepth:=12) only[q0,q1,q6,q8,q9,e4,hg3,k7,e5,put4,wid4,hH5,hv,ldO_one,stO_one,sy,tup,↓reduceIte,zA,zG,zC,zD,zF,zE,zB,zH,reduceCtorEq]
  rw[endD_q (q:=Q) (by kernel_rfl) (by rw[hQ];kernel_rfl)]
  have t5':=t5.owe hQ'
  have hn6:(H5.owe Q).get (.run H4.next)=some (.rows false 4 [[.int .u64 (sq:Int),.int .u64 (head:Int),.int .i64 (cs.length:Int),.int .u32 (sm:Int)]]):=by rw[get_owe];exact hn5
  obtain⟨H6,hH6⟩:∃ H6,H5.owe Q=H6:=⟨_,rfl⟩
  have nn6:H6.next=H4.next+1:=by rw[← hH6];exact nn5
  rw[hH6] at t5' hn6 ⊢
  have k04:cut [V.int .u64 (sq:Int),.int .u64 (head:Int),.int .i64 (cs.length:Int),.int .u32 (sm:Int)] 0 4=some [.int .u64 (sq:Int),.int .u64 (head:Int),.int .i64 (cs.length:Int),.int .u32 (sm:Int)]:=rfl
  have k01:cut [V.int .u64 (sq:Int),.int .u64 (head:Int),.int .i64 (cs.length:Int),.int .u32 (sm:Int)] 0 1=some [.int .u64 (sq:Int)]:=rfl
  have hntok:NtOk nt:=by
    rw[hnt]
    exact⟨⟨by show 1≤first+N.length;omega,by show first+N.length≤_;omega⟩,by show head≤_;omega,⟨hl32.2.1,hl32.1⟩,sumB_lt _⟩
  obtain⟨v7,H7,e7,rfl,t7⟩:=unote hlf H6 hntok (K:=K) n
  rw[hntv] at e7
  obtain⟨X,hX⟩:∃ X,X=noteB nt:=⟨_,rfl⟩
  rw[← hX] at e7
  have hn7:=(t7.same (.run H4.next) (by show _ < _;omega) (fun h=>h)).trans hn6
  have t8:Turns Z H7 ((H7.add (.rows false 64 [[.blk 0]])).set (.run H7.next) (.rows false 64 [[.blk X]])):=by repeat (first | exact Turns.refl _ _ | apply Turns.skip | apply Turns.addm | apply Turns.setb | apply Turns.setl | apply Turns.setr | refine Turns.setn ?_ _ (by omega) _ | refine Turns.trans ?_ (tF _))
  have hx8:((H7.add (.rows false 64 [[.blk 0]])).set (.run H7.next) (.rows false 64 [[.blk X]])).get (.run H7.next)=some (.rows false 64 [[.blk X]]):=by rw[Heap.get_set,if_pos rfl]
  obtain⟨H8,hH8⟩:∃ H8,(H7.add (.rows false 64 [[.blk 0]])).set (.run H7.next) (.rows false 64 [[.blk X]])=H8:=⟨_,rfl⟩
  have nn8:H8.next=H7.next+1:=by rw[← hH8];rfl
  rw[hH8] at t8 hx8
  have hn8:=(t8.same (.run H4.next) (by show _ < _;have:=t7.next;omega) (fun h=>h)).trans hn7
  have eS:=fun H=>unslot hlf (K:=K) H (q:=sq) (n+4)
  obtain⟨m,hm⟩:∃ m,m=2+sq % 8:=⟨_,rfl⟩
  have wm:IntKind.i64.wrap (2+((sq % 8:Nat):Int))=(m:Int):=by rw[Go.Am.wrap_i64 (by omega)];omega
  generalize hz8:sq % 8=z8 at eS wm hm
  obtain⟨v9,H9,e9,hs9,t9⟩:=ulput hlf (K:=K) H8 l m X (n+4)
  have hs9':=hs9
  obtain⟨b1,b2,b3,rfl,g1,g2,g3,l1,l2,l3,h1,h2,h3'⟩:=hs9'
  obtain⟨pv,hpv⟩:∃ pv:V,pv=.func (.func 60) [] [.ptr (some ⟨.run b1,0⟩),.ptr (some ⟨.run b2,0⟩),.ptr (some ⟨.run b3,0⟩)]:=⟨_,rfl⟩
  obtain⟨fv,hfv⟩:∃ fv:V,fv=.func (.func 35) [.ptr (some ⟨l,0⟩)] []:=⟨_,rfl⟩
  have t10:=Turns.add Z H9 (.rows false 1 [[fv],[pv],[fv]])
  have hx10:(H9.add (.rows false 1 [[fv],[pv],[fv]])).get (.run H9.next)=some (.rows false 1 [[fv],[pv],[fv]]):=by rw[Heap.get_add,if_pos rfl]
  obtain⟨H10,hH10⟩:∃ H10,H9.add (.rows false 1 [[fv],[pv],[fv]])=H10:=⟨_,rfl⟩
  rw[hH10] at t10 hx10
  have hfe:=elems3 hx10 (by rw[hfv];rfl) (by rw[hpv];rfl) (by rw[hfv];rfl)
  have t4_10:=((((t4.trans t5').trans t7).trans t8).trans t9).trans t10
  have t3_10:=t3.trans t4_10
  have hy10:=hy.turns t4_10 (fun _ _ h=>h)
  have hvl:(Vs.map fun v=>[v]).length=k:=by rw[List.length_map,hVs]
  obtain⟨H11,ea,hy11,t11,_⟩:=hy10.app (by':=8) (x:=.slice (some ⟨.run H9.next,0⟩) 3 3 0) t3_10.next hfe rfl (by simp) (by decide) (by rw[hvl];simp only[List.length_cons,List.length_nil];omega) (by rw[hvl];simp only[List.length_cons,List.length_nil];omega)
  rw[hvl] at ea hy11
  have hf:∀ v ∈ Vs,∃ f a k,v=V.func f a k:=fun v hv=>by
    obtain⟨j,hj,rfl⟩:=List.getElem_of_mem hv
    exact(hst j hj).func
  have t2_11:=lst_away hy10 t3_10 (Nat.le_refl _) t11
  have hst11:∀ j (h1:j < Vs.length),StepAt H2 H11 l Vs[j] (.wr ((head+j) % R+10) ((recL cs).getD j 0)):=fun j hj=>((hst j hj).turns t4_10 (fun _ _ _ h=>h)).away hy10 hf t11
  have hs11:StepAt H2 H11 l pv (.wr m X):=by
    have ht8:=((((t3.trans t4).trans t5').trans t7).trans t8).next
    have h0:StepAt H2 H9 l pv (.wr m X):=⟨b1,b2,b3,hpv,by omega,by omega,by omega,l1,l2,l3,h1,h2,h3'⟩
    exact(h0.turns t10 (fun _ _ _ h=>h)).away hy10 hf t11
  obtain⟨Q2,hQ2⟩:∃ Q:List (Option V × Option V),Q=[(loadF (.t (Tr.path 13)) 64 .bk (Tr.setP (Tr.path 13) (.ptr (some ⟨.run H7.next,0⟩)) .e) H8,some (.blk X)),(loadF (.t (Tr.path 13)) 64 .bk (Tr.setP (Tr.path 13) (.ptr (some ⟨.run H7.next,0⟩)) .e) H8,some (.blk X))]:=⟨_,rfl⟩
  have cfv:fv.cells=some [fv]:=by rw[hfv];rfl
  have cpv:pv.cells=some [pv]:=by rw[hpv];rfl
  have wfv:width [fv]=1:=by rw[hfv];rfl
  have wpv:width [pv]=1:=by rw[hpv];rfl
  simp (maxDischargeDepth:=12) only[hn6,k04,e7,hH8,hn8,k01,eS,wm,hx8,e9,q0,q9,rep3,upd_at1,upd_at2,← hpv,← hfv,cfv,cpv,wfv,wpv,hH10,ea,hv,ldO_one,stO_one,sy,tup,↓reduceIte,zA,zG,zC,zD,zF,zE,zB,zH,reduceCtorEq]
  rw[endD_q (q:=Q2) (by kernel_rfl) (by rw[hQ2];kernel_rfl)]
  have hQ2':∀ x ∈ Q2,x.1=x.2:=by
    rw[hQ2]
    intro x hx
    simp only[List.mem_cons,List.not_mem_nil,or_false] at hx
    rcases hx with rfl | rfl<;>simp (maxDischargeDepth:=12) only[hx8,hv,ldO_one,stO_one,sy,tup,↓reduceIte,zA,zG,zC,zD,zF,zE,zB,zH,reduceCtorEq]
  obtain⟨H12,hH12⟩:∃ H12,H11.owe Q2=H12:=⟨_,rfl⟩
  have t2_12:Turns Z H2 H12:=by rw[← hH12];exact t2_11.owe hQ2'
  have get12:∀ c,H12.get c=H11.get c:=fun c=>by rw[← hH12,get_owe]
  have next12:H12.next=H11.next:=by rw[← hH12];rfl
  rw[hH12]
  obtain⟨Ss,hSs⟩:∃ Ss,Ss=appT R head (recL cs) (ntOf first head N cs):=⟨_,rfl⟩
  have hSl:Ss.length=k+3:=by rw[hSs];unfold appT recT;rw[List.length_append,List.length_map,List.length_range,hAl];rfl
  have hVl:(Vs++[fv,pv,fv]).length=k+3:=by rw[List.length_append,hVs];rfl
  have tG12:=tG2.trans t2_12
  have hg12:=(tG12.same l h.old (fun h=>h)).trans hg
  have hb12:=(tG12.same b bo (fun h=>h)).trans hb
  obtain⟨j11,hj11,hj11g,hj11a,hj11b⟩:∃ j,j=H10.next∧H11.get (.run j)=some (.rows false 1 ((Vs++[fv,pv,fv]).map fun v=>[v]))∧H2.next≤j∧j < H11.next:=by
    rcases hy11 with ⟨e,_⟩ | ⟨j,_,e,hgj,ja,jb⟩
    · simp at e
    · have ej:H10.next=j:=Bk.run.inj (Ptr.mk.inj (Option.some.inj (V.slice.inj e).1)).1
      refine⟨j,ej.symm,?_,ja,jb⟩
      rw[hgj,List.map_append];rfl
  have hstep12:∀ i (h1:i < (Vs++[fv,pv,fv]).length) (h2:i < Ss.length),StepAt H2 H12 l (Vs++[fv,pv,fv])[i] Ss[i]:=by
    intro i h1 h2
    have conv:∀ {v:V} {s:Stp},StepAt H2 H11 l v s→StepAt H2 H12 l v s:=fun {v s} h=>by
      cases s with
      | fl=>exact h
      | wr n x=>
        obtain⟨a1,a2,a3,e,g1,g2,g3,l1,l2,l3,h1,h2,h3⟩:=h
        exact⟨a1,a2,a3,e,g1,g2,g3,by rw[next12];exact l1,by rw[next12];exact l2,by rw[next12];exact l3,by rw[get12];exact h1,by rw[get12];exact h2,by rw[get12];exact h3⟩
    apply conv
    have hSi:∀(h2:i < (recT R head (recL cs)++[Stp.fl,.wr (2+(ntOf first head N cs).seq % 8) (noteB (ntOf first head N cs)),.fl]).length),Ss[i]'(by rw[hSs];exact h2)=(recT R head (recL cs)++[Stp.fl,.wr (2+(ntOf first head N cs).seq % 8) (noteB (ntOf first head N cs)),.fl])[i]:=fun _=>by simp only[hSs];rfl
    have hrl:(recT R head (recL cs)).length=k:=by unfold recT;rw[List.length_map,List.length_range,hAl]
    rw[hSi (by rw[List.length_append,hrl];show i < k+3;omega)]
    by_cases e:i < k
    · rw[List.getElem_append_left (by omega),List.getElem_append_left (by omega)]
      have:(recT R head (recL cs))[i]'(by omega)=.wr ((head+i) % R+10) ((recL cs).getD i 0):=by unfold recT;rw[List.getElem_map,List.getElem_range]
      rw[this]
      exact hst11 i (by omega)
    · rw[List.getElem_append_right (by omega),List.getElem_append_right (by omega)]
      have:i=k∨i=k+1∨i=k+2:=by omega
      rcases this with rfl | rfl | rfl
      · simp only[hVs,hrl,Nat.sub_self,List.getElem_cons_zero]
        exact hfv
      · simp only[hVs,hrl,Nat.add_sub_cancel_left,List.getElem_cons_succ,List.getElem_cons_zero]
        rw[← hnt,← hX,show nt.seq=sq by rw[hnt,hsq];rfl,hz8,← hm]
        exact hs11
      · simp only[hVs,hrl,Nat.add_sub_cancel_left,List.getElem_cons_succ,List.getElem_cons_zero]
        exact hfv
  obtain⟨v13,H13,e13,rfl,hb13,t13⟩:=ulrun hlf (K:=K) (G:=H12) hg12 (G0:=H2) (b:=b) (w:=H10.next) (z:=1) (c:=k+3) (Vs:=Vs++[fv,pv,fv]) (Ss:=Ss) (by omega) (by omega) hstep12 (by rw[get12,← hj11];exact hj11g) ⟨by omega,by omega⟩ (h.old.mono tG12.next) lb (bo.mono tG2.next) hb12 (hR.mono (by omega)) (n+2)
  rw[hVl] at e13
  rw[← hSs]
  obtain⟨W,hW⟩:∃ W,W=doneC B Ss:=⟨_,rfl⟩
  rw[← hW] at e13 ⊢
  have lw:k+[[fv],[pv],[fv]].length=k+3:=rfl
  have hb13':=hb13
  by_cases hW0:W=0
  rotate_left
  · have hW':(W==0)=false:=beq_eq_false_iff_ne.2 hW0
    simp (maxDischargeDepth:=12) only[lw,e13,hW',q0,hv,ldO_one,stO_one,sy,tup,↓reduceIte,zA,zG,zC,zD,zF,zE,zB,zH,reduceCtorEq]
    exact⟨trivial,.inr trivial,_,rfl,.inr ⟨hp,by rw[e2n,decide_eq_true hN8];rfl,hb13,W,rfl,.inl ⟨hW0,rfl,(tG12.wide (fun c h=>h.elim)).trans t13⟩⟩⟩
  have hW':(W==0)=true:=by rw[hW0];rfl
  have hg13:=(t13.same l (h.old.mono tG12.next) lb).trans hg12
  have o4:H4.next < H8.next:=by have:=t7.next;omega
  have hn10:=((t9.trans t10).same (.run H4.next) (by show _ < _;exact o4) (fun h=>h)).trans hn8
  have o10:H4.next < H10.next:=Nat.lt_of_lt_of_le o4 (t9.trans t10).next
  have hn11:=(t11.same (.run H4.next) (by show _ < _;exact o10) (fun hB=>by
    obtain⟨_,_,_,_,hgB⟩:=hy10.bof hB
    rw[hn10] at hgB;cases hgB)).trans hn10
  have hn12:H12.get (.run H4.next)=_:=(get12 _).trans hn11
  have ob4:¬ (Bk.run H4.next=b):=fun e=>by rw[← e] at bo;exact absurd bo (Heap.not_old (Nat.le_trans tG3.next t4.next))
  have o12:H4.next < H12.next:=by rw[next12];exact Nat.lt_of_lt_of_le o10 t11.next
  have hn13:=(t13.same (.run H4.next) (by show _ < _;exact o12) ob4).trans hn12
  have hN13:Lst G0 H13 4 (rowsT N) (.slice lp N.length lc lo):=(hN.turns tG12 (fun _ _ h=>h)).turns t13 (fun c hc e=>by
    obtain⟨_,_,_,_,hgB⟩:=(hN.turns tG12 (fun _ _ h=>h)).bof hc
    rw[e,hb12] at hgB;cases hgB)
  have t14:=Turns.add Z H13 (.rows false 4 [[.int .u64 (sq:Int),.int .u64 (head:Int),.int .i64 (cs.length:Int),.int .u32 (sm:Int)]])
  have hx14:(H13.add (.rows false 4 [[.int .u64 (sq:Int),.int .u64 (head:Int),.int .i64 (cs.length:Int),.int .u32 (sm:Int)]])).get (.run H13.next)=some (.rows false 4 [[.int .u64 (sq:Int),.int .u64 (head:Int),.int .i64 (cs.length:Int),.int .u32 (sm:Int)]]):=by rw[Heap.get_add,if_pos rfl]
  obtain⟨H14,hH14⟩:∃ H14,H13.add (.rows false 4 [[.int .u64 (sq:Int),.int .u64 (head:Int),.int .i64 (cs.length:Int),.int .u32 (sm:Int)]])=H14:=⟨_,rfl⟩
  rw[hH14] at t14 hx14
  have hN14:=hN13.turns t14 (fun _ _ h=>h)
  have tn:G.next≤H14.next:=Nat.le_trans (Nat.le_trans tG12.next t13.next) t14.next
  obtain⟨H15,ea15,hN15,t15,nx15⟩:=hN14.app1 (by':=32) (Nat.le_trans hG0 tn) hx14 k04 (by decide) (by rw[hrl];omega) (by rw[hrl];omega)
  rw[hrl] at ea15 hN15
  have hg14:=(t14.same l (h.old.mono (Nat.le_trans tG12.next t13.next)) (fun h=>h)).trans hg13
  have lnB:¬ Bof (.slice lp N.length lc lo) l:=fun hB=>by
    obtain⟨_,_,_,_,hgB⟩:=hN14.bof hB
    rw[hg14] at hgB;cases hgB
  have hg15:=(t15.same l (h.old.mono tn) lnB).trans hg14
  have hn15:H14.get (.run H4.next)=_:=(t14.same (.run H4.next) (by show _ < _;exact Nat.lt_of_lt_of_le o12 t13.next) (fun h=>h)).trans hn13
  have p8:put (lcells b id R cnt first tail head (.slice lp N.length lc lo)) 8 [.slice (some ⟨.run H14.next,0⟩) (N.length+1) (N.length+1) 4]=some (lcells b id R cnt first tail head (.slice (some ⟨.run H14.next,0⟩) (N.length+1) (N.length+1) 4)):=rfl
  have p7:put (lcells b id R cnt first tail head (.slice (some ⟨.run H14.next,0⟩) (N.length+1) (N.length+1) 4)) 7 [.int .u64 ((head:Int)+(k:Int))]=some (lcells b id R cnt first tail (head+k) (.slice (some ⟨.run H14.next,0⟩) (N.length+1) (N.length+1) 4)):=rfl
  simp (maxDischargeDepth:=12) only[lw,e13,hW',q0,q8,hg13,k8,hn13,k04,hH14,ea15,hg15,p8,p7,hv,ldO_one,stO_one,sy,tup,↓reduceIte,zA,zG,zC,zD,zF,zE,zB,zH,reduceCtorEq]
  rw[endD_ok (by kernel_rfl) (by kernel_rfl)]
  have hn15':=(t15.same (.run H4.next) (by show _ < _;exact Nat.lt_of_lt_of_le (Nat.lt_of_lt_of_le o12 t13.next) t14.next) (fun hB=>by
    obtain⟨m',em,_,hlt,_⟩:=hN.bof hB
    have em:=Bk.run.inj em
    have:=tG3.next
    have:=t4.next
    omega)).trans hn15
  have lne:(Bk.run H4.next=l)=False:=by
    simp only[eq_iff_iff,iff_false]
    intro e
    have:=h.old
    rw[← e] at this
    exact absurd this (Heap.not_old (Nat.le_trans tG3.next t4.next))
  simp (maxDischargeDepth:=12) only[hn15',k01,lne,hv,ldO_one,stO_one,sy,tup,↓reduceIte,zA,zG,zC,zD,zF,zE,zB,zH,reduceCtorEq]
  have lnew:¬ (Bk.run H14.next=l):=fun e=>by
    have:=h.old
    rw[← e] at this
    exact absurd this (Heap.not_old tn)
  have lnb:¬ (b=l):=fun e=>lb e.symm
  have tf:Turns (LX b l (.slice lp (rowsT N).length lc lo)) G H15:=by
    refine(((tG12.wide (fun c h=>h.elim)).trans (t13.wide (fun c h=>.inl h))).trans (t14.wide (fun c h=>h.elim))).trans (t15.wide (fun c h=>.inr (.inr ?_)))
    rw[hrl];exact h
  refine⟨trivial,.inr trivial,_,rfl,.inr ⟨hp,by rw[e2n,decide_eq_true hN8];rfl,?_,W,rfl,.inr ⟨hW0,?_,?_,.slice (some ⟨.run H14.next,0⟩) (N.length+1) (N.length+1) 4,⟨⟨?_,G0,?_,?_⟩,?_,hRb,?_,?_,?_⟩,?_⟩⟩⟩
  · rw[if_neg lnb,if_neg lnb]
    have hb14:=(t14.same b (bo.mono (Nat.le_trans tG12.next t13.next)) (fun h=>h)).trans hb13
    refine(t15.same b (bo.mono tn) (fun hB=>?_)).trans hb14
    obtain⟨_,_,_,_,hgB⟩:=hN14.bof hB
    rw[hb14] at hgB;cases hgB
  · rw[hsq];rfl
  · exact(tf.put (.inl (.inr (.inl rfl))) _).put (.inl (.inr (.inl rfl))) _
  · rw[Heap.get_set,if_pos rfl,← hk]
  · have er:rowsT (N++[ntOf first head N cs])=rowsT N++[[.int .u64 (sq:Int),.int .u64 (head:Int),.int .i64 (cs.length:Int),.int .u32 (sm:Int)]]:=by
      unfold rowsT
      rw[List.map_append,hsq,hsm];rfl
    rw[er]
    have ts:∀(J:Heap) (o:Am.Obj),Lst G0 J 4 (rowsT N++[[.int .u64 (sq:Int),.int .u64 (head:Int),.int .i64 (cs.length:Int),.int .u32 (sm:Int)]]) (.slice (some ⟨.run H14.next,0⟩) (N.length+1) (N.length+1) 4)→Lst G0 (J.set l o) 4 (rowsT N++[[.int .u64 (sq:Int),.int .u64 (head:Int),.int .i64 (cs.length:Int),.int .u32 (sm:Int)]]) (.slice (some ⟨.run H14.next,0⟩) (N.length+1) (N.length+1) 4):=fun J o hJ=>hJ.turns (Turns.set (X:=fun c=>c=l) rfl J o) (fun c hc e=>by
      obtain⟨p,_,_,_,e1,e2⟩:=hc
      cases e1
      exact lnew (e2.symm.trans e))
    exact ts _ _ (ts _ _ hN15)
  · exact Nat.le_trans hG0 (Nat.le_trans tn t15.next)
  · exact h.old.mono (Nat.le_trans tn t15.next)
  · exact⟨hRb,by have:=hrg.th;omega,by rw[← hk];omega,by rw[← hk];have:=hrg.th;have:=hrg.le;omega⟩
  · rw[List.length_append];simp only[List.length_singleton];omega
  · rw[List.length_append];simp only[List.length_singleton];omega
  · rintro c ⟨p,_,_,_,e1,e2⟩ ho
    cases e1
    rw[e2] at ho
    exact absurd ho (Heap.not_old tn)
end
end Go.Proofs.YtabebpemfinejaaDoor.draft
namespace Go.Proofs.YtabebpemfinejaaDoor.draft
open Go.Am
open disk (bx Fit A1 R1 Low Bn)
noncomputable def c10:CFn:=⟨[.tmp (pp 4)],
 .seq (.reg [
 qo 4 (.p (S.get (ii 0))) []]) (
 .seq (.block 0 (.seq (.reg [
 mv 9 0,
 qo 10 (.c (callF (ff 25) [(tt 9)])) [pp 9],
 mv 8 10]) (
 .cond (tt 8) (.seq (.reg [
 qo 4 (.p (S.get (ii 1))) []]) (
 .ret)) (.seq (.reg [
 mv 12 1,
 mv 13 0,
 qo 14 (.p (nilcF (tt 13))) [pp 13],
 qo 15 (.p (faddrF (tt 14) 5)) [pp 14],
 qo 16 (.r (loadF (tt 15) 1 .sc)) [pp 15],
 qo 17 (.p (arF .lss (tt 12) (tt 16))) [pp 12,pp 16],
 mv 18 17,
 mg 19 1 18 false,
 mg 20 0 18 false,
 qg 21 (.c (callF (ff 27) [(tt 20)])) 18 false [pp 20],
 qg 22 (.p (arF .gtr (tt 19) (tt 21))) 18 false [pp 19,pp 21],
 qo 23 (.p (pickF (tt 18) (.c (.bool true)) (tt 22))) [pp 18,pp 22],
 mv 11 23]) (
 .cond (tt 11) (.seq (.reg [
 qo 4 (.p (S.get (ii 2))) []]) (
 .ret)) (.skip)))))) (
 .seq (.reg [
 mv 24 1,
 mv 25 0,
 qo 26 (.p (nilcF (tt 25))) [pp 25],
 qo 27 (.p (faddrF (tt 26) 5)) [pp 26],
 qo 28 (.r (loadF (tt 27) 1 .sc)) [pp 27],
 qo 29 (.p (arF .sub (tt 24) (tt 28))) [pp 24,pp 28],
 mv 5 29]) (
 .seq (.reg [
 mv 30 0,
 qo 31 (.p (nilcF (tt 30))) [pp 30],
 qo 32 (.p (faddrF (tt 31) 7)) [pp 31],
 qo 33 (.r (loadF (tt 32) 1 .sc)) [pp 32],
 mv 6 33]) (
 .seq (.seq (.reg [
 mv 34 5,
 mv 35 0,
 qo 36 (.p (nilcF (tt 35))) [pp 35],
 qo 37 (.p (faddrF (tt 36) 8)) [pp 36],
 qo 38 (.r (loadF (tt 37) 1 .sc)) [pp 37],
 qo 39 (.p (lenF (tt 38))) [pp 38],
 qo 40 (.p (convF .u64 (tt 39))) [pp 39],
 qo 41 (.p (arF .lss (tt 34) (tt 40))) [pp 34,pp 40]]) (
 .cond (tt 41) (.reg [
 mv 42 0,
 qo 43 (.p (nilcF (tt 42))) [pp 42],
 qo 44 (.p (faddrF (tt 43) 8)) [pp 43],
 qo 45 (.r (loadF (tt 44) 1 .sc)) [pp 44],
 mv 46 5,
 qo 47 (.p (iaddrSF (tt 45) (tt 46) 4)) [pp 45,pp 46],
 qo 48 (.p (faddrF (tt 47) 1)) [pp 47],
 qo 49 (.r (loadF (tt 48) 1 .sc)) [pp 48],
 mv 6 49]) (.skip))) (
 .seq (.seq (.reg [
 mv 50 0,
 mv 51 0,
 qo 52 (.p (nilcF (tt 51))) [pp 51],
 qo 53 (.p (faddrF (tt 52) 4)) [pp 52],
 qo 54 (.r (loadF (tt 53) 1 .sc)) [pp 53],
 qo 55 (.p (arF .add (tt 54) (.c (.int .u64 1)))) [pp 54],
 mv 56 1,
 mv 57 6,
 qo 58 (.c (callF (ff 28) [(tt 50),(tt 55),(tt 56),(tt 57)])) [pp 50,pp 55,pp 56,pp 57],
 mv 7 58]) (
 .seq (.reg [
 mv 59 7,
 qo 60 (.p (eqcF true false [.int .i64] (tt 59) (ii 0))) [pp 59]]) (
 .cond (tt 60) (.seq (.reg [
 mv 61 7,
 mv 4 61]) (
 .ret)) (.skip)))) (
 .seq (.regD [
 mv 62 0,
 mv 63 0,
 mv 64 0,
 mv 65 0,
 mv 66 0,
 qo 67 (.p (nilcF (tt 66))) [pp 66],
 qo 68 (.p (faddrF (tt 67) 4)) [pp 67],
 qo 69 (.r (loadF (tt 68) 1 .sc)) [pp 68],
 qo 70 (.p (arF .add (tt 69) (.c (.int .u64 1)))) [pp 69],
 mv 71 1,
 mv 72 6,
 mv 73 0,
 qo 74 (.p (nilcF (tt 73))) [pp 73],
 qo 75 (.p (faddrF (tt 74) 8)) [pp 74],
 qo 76 (.r (loadF (tt 75) 1 .sc)) [pp 75],
 mv 77 5,
 qo 78 (.p (sliceF 4 (tt 76) (some (tt 77)) none none)) [pp 76,pp 77],
 qo 79 (.a (appF 4 32 (.c (.slice none 0 0 0)) (tt 78))) [pp 78],
 qo 80 (.p (nilcF (tt 62))) [pp 62],
 qo 81 (.p (faddrF (tt 80) 4)) [pp 80],
 qn (.a (storeF (tt 81) (tt 70) 1)) [pp 81,pp 70],
 qo 82 (.p (nilcF (tt 63))) [pp 63],
 qo 83 (.p (faddrF (tt 82) 5)) [pp 82],
 qn (.a (storeF (tt 83) (tt 71) 1)) [pp 83,pp 71],
 qo 84 (.p (nilcF (tt 64))) [pp 64],
 qo 85 (.p (faddrF (tt 84) 6)) [pp 84],
 qn (.a (storeF (tt 85) (tt 72) 1)) [pp 85,pp 72],
 qo 86 (.p (nilcF (tt 65))) [pp 65],
 qo 87 (.p (faddrF (tt 86) 8)) [pp 86],
 qn (.a (storeF (tt 87) (tt 79) 1)) [pp 87,pp 79]] [0,0,0,0,0,16,48,112,240,0,0,0,2048,6144,14336,0,63488,129024,260593,522737,1047025,2096115,4193267,8387571,16777207,33554423,67108855,134217727,268435455,536870911]) (
 .seq (.reg [
 qo 4 (.p (S.get (ii 0))) []]) (
 .ret))))))))⟩
theorem c10_eq:fnOf Tryd.prog 10=some c10:=by kernel_rfl
theorem elems_rws {H:Heap} {b:Bk} {ro:Bool} {sz:Nat} (hz:sz≠0) {R:List (List V)} (hg:H.get b=some (.rows ro sz R)) (hc:∀ r ∈ R,cut r 0 sz=some r):∀(n o:Nat),o+n≤R.length→elems H b sz n (o*sz)=some ((R.drop o).take n)
 | 0,o,_=>by rw[List.take_zero];rfl
 | n+1,o,h=>by
  have ho:o < R.length:=by omega
  have l0:loadAt H ⟨b,o*sz⟩ sz=some R[o]:=by
   rw[loadAt_eq hg (r:=R[o]) (nth_of (by rw[Nat.mul_div_cancel _ (by omega),List.getElem?_eq_getElem ho])),Nat.mul_mod_left]
   exact hc _ (List.getElem_mem _)
  unfold elems
  rw[l0]
  simp only
  rw[show Nat.add (o*sz) sz=(o+1)*sz by show o*sz+sz=_;rw[Nat.succ_mul],elems_rws hz hg hc n (o+1) (by omega),List.drop_eq_getElem_cons ho,List.take_succ_cons]
  rfl
theorem rowsT_drop (N:List Nt) (g:Nat):rowsT (N.drop g)=(rowsT N).drop g:=by unfold rowsT;rw[List.map_drop]
theorem rowsT_get {N:List Nt} {i:Nat} (hi:i < N.length):(rowsT N)[i]?=some (ntV N[i]):=by unfold rowsT;rw[List.getElem?_map,List.getElem?_eq_getElem hi];rfl
theorem clear_live {G0 H:Heap} {N:List Nt} {lv:V} (hN:Lst G0 H 4 (rowsT N) lv) {g:Nat} (hg:g≤N.length) (hl:N.length≤8):∃ sv lv' H',(∀(x lo:S) (t:T),x.get t=some lv→lo.get t=some (.int .u64 (g:Int))→sliceF 4 x (some lo) none none t=some sv)∧appendV 4 32 H (.slice none 0 0 0) sv=some (lv',H')∧Lst H H' 4 (rowsT (N.drop g)) lv'∧Turns Z H H':=by
 have hrl:=rowsT_len N
 rcases hN with ⟨e0,rfl⟩ | ⟨m,hne,rfl,hget,_,_⟩
 ·have n0:N.length=0:=by rw[← hrl,e0];rfl
  have g0:g=0:=by omega
  subst g0
  refine⟨.slice none 0 0 0,.slice none 0 0 0,H,fun x lo t h1 h2=>?_,rfl,.inl ⟨e0,rfl⟩,Turns.refl _ _⟩
  unfold sliceF
  simp only[h1,h2,oget,Option.map_some]
  rfl
 ·rw[hrl]
  by_cases hlt:g < N.length
  ·have hb:bounds N.length N.length (some (.int .u64 (g:Int))) none none=some (g,N.length,N.length):=by
    simp only[bounds,boundD,bound,C5,nble]
    simp[hg]
   have hel:firstE H 4 (.slice (some ⟨.run m,g*4⟩) (N.length - g) (N.length - g) 4)=some (rowsT (N.drop g)):=by
    have:=elems_rws (by decide) hget (fun r hr=>by
     obtain⟨n,_,rfl⟩:=List.mem_map.1 hr
     rfl) (N.length - g) g (by rw[hrl];omega)
    show elems H (.run m) 4 (N.length - g) (g*4)=_
    rw[this,rowsT_drop,List.take_of_length_le (by rw[List.length_drop,hrl];omega)]
   have hdl:(rowsT (N.drop g)).length=N.length - g:=by rw[rowsT_len,List.length_drop]
   have hdn:rowsT (N.drop g)≠[]:=fun e=>by rw[e] at hdl;simp at hdl;omega
   obtain⟨H',ea,hL,ht,_⟩:=(Lst.nil H H 4).app (by':=32) (Nat.le_refl _) hel (by rw[hdl];rfl) hdn (by decide) (by rw[hdl];simp only[List.length_nil];omega) (by rw[hdl];simp only[List.length_nil];omega)
   refine⟨_,_,H',fun x lo t h1 h2=>?_,ea,hL,ht.wide (fun c ⟨_,_,_,_,e,_⟩=>by cases e)⟩
   unfold sliceF
   simp only[h1,h2,oget,Option.map_some,hb,nbeq,nble]
   simp[show g+1≤N.length by omega,Ca,B9,Cb]
  ·have ge:g=N.length:=by omega
   subst ge
   have hb:bounds N.length N.length (some (.int .u64 (N.length:Int))) none none=some (N.length,N.length,N.length):=by
    simp only[bounds,boundD,bound,C5,nble]
    simp
   refine⟨.slice none 0 0 1,.slice none 0 0 0,H,fun x lo t h1 h2=>?_,rfl,.inl ⟨by rw[List.drop_length];rfl,rfl⟩,Turns.refl _ _⟩
   unfold sliceF
   simp only[h1,h2,oget,Option.map_some,hb,nbeq,nble]
   rw[decide_eq_false (show ¬ N.length+1≤N.length by omega)]
   simp
section
variable {lf K:Nat} (hlf:1000 < lf)
include hlf
theorem ulclear {G:Heap} {l b:Bk} {id R cnt first tail head:Nat} {N:List Nt} {lv:V} (hgl:G.get (.run 0)=some (.rows true 4 (intsR [8,2,8,8]))) (h00:0 < G.next) (h:LogAt G l b id R cnt first tail head N lv) (hch:Chain first tail N head) (bo:G.Old b) (lb:l≠b) {B:Bn} (hb:G.get b=some (bx false B)) (hR:Rm 2 B) (hid:id≠0∧id < 18446744073709551616) (hR40:40≤R) (hcnt:cnt < 4611686018427387904) (hfirst:1≤first) {f:Nat} (hf:f < 18446744073709551616) (n:Nat) :
    ret (U lf K (n+7) 10 [.ptr (some ⟨l,0⟩),.int .u64 (f:Int)] G) fun v G'=>
      ((f < first∨first+N.length < f)∧v=.int .i64 2∧Turns Z G G') ∨
      ((first≤f∧f≤first+N.length)∧∃ p,p=posAt N head (f - first)∧G'.get b=some (bx false (doneB B [Stp.wr ((cnt+1) % 2) (markB (cnt+1) id R f p),Stp.fl]))∧∃ e,e=doneC B [Stp.wr ((cnt+1) % 2) (markB (cnt+1) id R f p),Stp.fl] ∧
        ((e≠0∧v=.int .i64 e∧Turns (fun c=>c=b) G G') ∨
         (e=0∧v=.int .i64 0∧Turns (LX b l lv) G G'∧∃ lv',LogAt G' l b id R (cnt+1) f p head (N.drop (f - first)) lv'∧∀ c,Bof lv' c→¬ G.Old c))):=by
  have e0:=ulnone hlf h (K:=K) (n+5)
  have eN:=ulnext hlf h (K:=K) (n+5)
  obtain⟨hg,G0,hN,hG0⟩:=h.ex
  have hfn:=h.fn
  have hnl:=h.nl
  have hrl:=rowsT_len N
  obtain⟨lp,lc,lo,rfl⟩:=hN.val
  rw[hrl] at hg hN
  have k4:cut (lcells b id R cnt first tail head (.slice lp N.length lc lo)) 4 1=some [.int .u64 (cnt:Int)]:=rfl
  have k5:cut (lcells b id R cnt first tail head (.slice lp N.length lc lo)) 5 1=some [.int .u64 (first:Int)]:=rfl
  have k7:cut (lcells b id R cnt first tail head (.slice lp N.length lc lo)) 7 1=some [.int .u64 (head:Int)]:=rfl
  have k8:cut (lcells b id R cnt first tail head (.slice lp N.length lc lo)) 8 1=some [.slice lp N.length lc lo]:=rfl
  obtain⟨nx,hnx⟩:∃ nx,nx=first+N.length:=⟨_,rfl⟩
  rw[← hnx] at eN
  refine ret_callU rfl rfl c10_eq ?_
  by_cases h1:f < first
  · simp (maxDischargeDepth:=12) only[c10,e0,hg,k5,h1,hv,ldO_one,stO_one,sy,tup,↓reduceIte,zA,zG,zC,zD,zF,zE,zB,zH,reduceCtorEq]
    exact⟨trivial,.inr trivial,_,rfl,.inl ⟨.inl trivial,rfl,Turns.refl _ _⟩⟩
  by_cases h2:nx < f
  · simp (maxDischargeDepth:=12) only[c10,e0,hg,k5,h1,h2,eN,hv,ldO_one,stO_one,sy,tup,↓reduceIte,zA,zG,zC,zD,zF,zE,zB,zH,reduceCtorEq]
    exact⟨trivial,.inr trivial,_,rfl,.inl ⟨.inr (by omega),rfl,Turns.refl _ _⟩⟩
  obtain⟨g,hgg⟩:∃ g,g=f - first:=⟨_,rfl⟩
  have w1:IntKind.u64.wrap ((f:Int) - (first:Int))=(g:Int):=by rw[Go.Am.wrap_u64 (by omega)];omega
  have w2:IntKind.u64.wrap (N.length:Int)=(N.length:Int):=Go.Am.wrap_u64 (by omega)
  obtain⟨cn,hcn⟩:∃ cn,cn=cnt+1:=⟨_,rfl⟩
  have w3:IntKind.u64.wrap ((cnt:Int)+1)=(cn:Int):=by rw[Go.Am.wrap_u64 (by omega)];omega
  obtain⟨hdc,hdp⟩:=hch.drop g (by omega)
  have hple:=hdc.le
  obtain⟨p,hp⟩:∃ p,p=posAt N head g:=⟨_,rfl⟩
  rw[← hp] at hdc hdp hple
  have hrg:=h.rg
  have hrgm:=hrg.hm
  have hRb:=h.rb
  obtain⟨v3,G3,e3,rfl,hb3,t3⟩:=ulmark hlf (K:=K) hgl h00 hg h.old bo lb hb hR (cn:=cn) (f:=f) (p:=p) (by omega) ⟨hid,⟨hR40,hRb.2⟩,⟨by omega,by omega⟩,by omega⟩ n
  have hg3:=(t3.same l h.old lb).trans hg
  have hN3:Lst G0 G3 4 (rowsT N) (.slice lp N.length lc lo):=hN.turns t3 (fun c hc e=>by
    obtain⟨_,_,_,_,hgB⟩:=hN.bof hc
    rw[e,hb] at hgB;cases hgB)
  obtain⟨sv,lv',G4,hsv,ea,hL4,t4⟩:=clear_live hN3 (g:=g) (by omega) hnl
  obtain⟨W,hW⟩:∃ W,W=doneC B [Stp.wr (cn % 2) (markB cn id R f p),Stp.fl]:=⟨_,rfl⟩
  rw[← hW] at e3
  have hg4:=(t4.same l (h.old.mono t3.next) (fun h=>h)).trans hg3
  rw[← hgg,← hcn,← hp]
  have hLv':lv'=.slice none 0 0 0∨∃ a b c,lv'=.slice (some ⟨.run a,0⟩) b c 4∧G3.next≤a:=by
    rcases hL4 with ⟨_,e⟩ | ⟨a,_,e,_,ha,_⟩
    · exact .inl e
    · exact .inr ⟨a,_,_,e,ha⟩
  have p4:put (lcells b id R cnt first tail head (.slice lp N.length lc lo)) 4 [.int .u64 (cn:Int)]=some (lcells b id R cn first tail head (.slice lp N.length lc lo)):=rfl
  have p5:put (lcells b id R cn first tail head (.slice lp N.length lc lo)) 5 [.int .u64 (f:Int)]=some (lcells b id R cn f tail head (.slice lp N.length lc lo)):=rfl
  have p6:put (lcells b id R cn f tail head (.slice lp N.length lc lo)) 6 [.int .u64 (p:Int)]=some (lcells b id R cn f p head (.slice lp N.length lc lo)):=rfl
  have p8:put (lcells b id R cn f p head (.slice lp N.length lc lo)) 8 [lv']=some (lcells b id R cn f p head lv'):=by
    rcases hLv' with rfl | ⟨_,_,_,rfl,_⟩<;>rfl
  obtain⟨Q,hQ⟩:∃ Q:List (Option V × Option V),Q=[(loadF (.t (Tr.path 68)) 1 .sc (Tr.setP (Tr.path 68) (.ptr (some ⟨l,4⟩)) .e) G3,some (.int .u64 (cnt:Int))),(loadF (.t (Tr.path 68)) 1 .sc (Tr.setP (Tr.path 68) (.ptr (some ⟨l,4⟩)) .e) G4,some (.int .u64 (cnt:Int)))]:=⟨_,rfl⟩
  have hQ':∀ x ∈ Q,x.1=x.2:=by
    rw[hQ]
    intro x hx
    simp only[List.mem_cons,List.not_mem_nil,or_false] at hx
    rcases hx with rfl | rfl<;>simp (maxDischargeDepth:=12) only[hg3,hg4,k4,hv,ldO_one,stO_one,sy,tup,↓reduceIte,zA,zG,zC,zD,zF,zE,zB,zH,reduceCtorEq]
  have clv:lv'.cells=some [lv']:=by rcases hLv' with rfl | ⟨_,_,_,rfl,_⟩<;>rfl
  have wlv:width [lv']=1:=by rcases hLv' with rfl | ⟨_,_,_,rfl,_⟩<;>rfl
  have lnb:¬ (b=l):=fun e=>lb e.symm
  obtain⟨GF,hGF⟩:∃ GF,GF=(((G4.set l (.rows false 9 [lcells b id R cn first tail head (.slice lp N.length lc lo)])).set l (.rows false 9 [lcells b id R cn f tail head (.slice lp N.length lc lo)])).set l (.rows false 9 [lcells b id R cn f p head (.slice lp N.length lc lo)])).set l (.rows false 9 [lcells b id R cn f p head lv']):=⟨_,rfl⟩
  have nF:GF.next=G4.next:=by rw[hGF];rfl
  have gF:∀ c,c≠l→GF.get c=G4.get c:=fun c hc=>by rw[hGF,Heap.get_set,if_neg hc,Heap.get_set,if_neg hc,Heap.get_set,if_neg hc,Heap.get_set,if_neg hc]
  have hbf:GF.get b=some (bx false (doneB B [Stp.wr (cn % 2) (markB cn id R f p),Stp.fl])):=(gF b lnb).trans ((t4.same b (bo.mono t3.next) (fun h=>h)).trans hb3)
  have t34:Turns (LX b l (.slice lp (rowsT N).length lc lo)) G G4:=(t3.wide (fun c h=>.inl h)).trans (t4.wide (fun c h=>h.elim))
  have tF:Turns (LX b l (.slice lp (rowsT N).length lc lo)) G GF:=by
    rw[hGF]
    exact(((t34.put (.inl (.inr (.inl rfl))) _).put (.inl (.inr (.inl rfl))) _).put (.inl (.inr (.inl rfl))) _).put (.inl (.inr (.inl rfl))) _
  have hLF:Lst G3 (GF.owe Q) 4 (rowsT (N.drop g)) lv':=by
    rcases hL4 with ⟨a,e⟩ | ⟨a,h1,e,h2,h3,h4⟩
    · exact .inl ⟨a,e⟩
    · refine .inr ⟨a,h1,e,?_,h3,by show a < GF.next;rw[nF];exact h4⟩
      rw[get_owe,gF _ (fun e2=>?_)]
      · exact h2
      · have:=h.old
        rw[← e2] at this
        exact absurd this (Heap.not_old (Nat.le_trans t3.next h3))
  have hLog:LogAt (GF.owe Q) l b id R cn f p head (N.drop g) lv':=by
    refine⟨⟨by rw[get_owe,hGF,Heap.get_set,if_pos rfl],G3,hLF,by show G3.next≤GF.next;rw[nF];exact t4.next⟩,?_,hRb,⟨hRb,hple,hrgm,by have:=hrg.le;omega⟩,by rw[List.length_drop];omega,by rw[List.length_drop];omega⟩
    exact(Heap.old_iff (H:=GF) (H':=GF.owe Q) rfl l).1 (h.old.mono tF.next)
  have hnew:∀ c,Bof lv' c→¬ G.Old c:=by
    intro c hc ho
    rcases hLv' with rfl | ⟨_,_,_,rfl,ha⟩
    · obtain⟨_,_,_,_,e,_⟩:=hc
      cases e
    · obtain⟨_,_,_,_,e,e2⟩:=hc
      cases e
      rw[e2] at ho
      exact absurd ho (Heap.not_old (Nat.le_trans t3.next ha))
  by_cases hlt:g < N.length
  · have hpe:p=N[g].pos:=by rw[hp,posAt_lt hlt]
    obtain⟨m,em,hld⟩:=hN.load (i:=g) (o:=1) (k:=1) (r:=ntV N[g]) (rowsT_get hlt) (by decide)
    rw[ld_get,show cut (ntV N[g]) 1 1=some [.int .u64 (N[g].pos:Int)] from rfl,← hpe] at hld
    have elp:lp=some ⟨.run m,0⟩:=(V.slice.inj em).1
    subst elp
    have hle:g+1≤N.length:=hlt
    simp (maxDischargeDepth:=12) only[c10,e0,hg,k5,h1,h2,eN,w1,k7,k8,w2,hlt,hle,hld,k4,w3,e3,Nat.mul_one,hv,ldO_one,stO_one,sy,tup,↓reduceIte,zA,zG,zC,zD,zF,zE,zB,zH,reduceCtorEq]
    by_cases hW0:W=0
    rotate_left
    · have hW':(W==0)=false:=beq_eq_false_iff_ne.2 hW0
      simp (maxDischargeDepth:=12) only[hW',hv,ldO_one,stO_one,sy,tup,↓reduceIte,zA,zG,zC,zD,zF,zE,zB,zH,reduceCtorEq]
      exact⟨trivial,.inr trivial,_,rfl,.inr ⟨⟨by omega,by omega⟩,p,rfl,hb3,W,hW,.inl ⟨hW0,rfl,t3⟩⟩⟩
    have hW':(W==0)=true:=by rw[hW0];rfl
    simp (maxDischargeDepth:=12) only[hW',hg3,k4,k8,w3,↓hsv,ea,hg4,p4,p5,p6,p8,clv,wlv,hv,ldO_one,stO_one,sy,tup,↓reduceIte,zA,zG,zC,zD,zF,zE,zB,zH,reduceCtorEq]
    rw[← hGF]
    rw[endD_q (q:=Q) (by kernel_rfl) (by rw[hQ];kernel_rfl)]
    simp (maxDischargeDepth:=12) only[hv,ldO_one,stO_one,sy,tup,↓reduceIte,zA,zG,zC,zD,zF,zE,zB,zH,reduceCtorEq]
    exact⟨trivial,.inr trivial,_,rfl,.inr ⟨⟨by omega,by omega⟩,p,rfl,hbf,W,hW,.inr ⟨hW0,rfl,tF.owe hQ',lv',hLog,hnew⟩⟩⟩
  · have hpe:p=head:=by rw[hp,posAt_ge (by omega)]
    subst hpe
    simp (maxDischargeDepth:=12) only[c10,e0,hg,k5,h1,h2,eN,w1,k7,k8,w2,hlt,k4,w3,e3,Nat.mul_one,hv,ldO_one,stO_one,sy,tup,↓reduceIte,zA,zG,zC,zD,zF,zE,zB,zH,reduceCtorEq]
    by_cases hW0:W=0
    rotate_left
    · have hW':(W==0)=false:=beq_eq_false_iff_ne.2 hW0
      simp (maxDischargeDepth:=12) only[hW',hv,ldO_one,stO_one,sy,tup,↓reduceIte,zA,zG,zC,zD,zF,zE,zB,zH,reduceCtorEq]
      exact⟨trivial,.inr trivial,_,rfl,.inr ⟨⟨by omega,by omega⟩,p,rfl,hb3,W,hW,.inl ⟨hW0,rfl,t3⟩⟩⟩
    have hW':(W==0)=true:=by rw[hW0];rfl
    simp (maxDischargeDepth:=12) only[hW',hg3,k4,k8,w3,↓hsv,ea,hg4,p4,p5,p6,p8,clv,wlv,hv,ldO_one,stO_one,sy,tup,↓reduceIte,zA,zG,zC,zD,zF,zE,zB,zH,reduceCtorEq]
    rw[← hGF]
    rw[endD_q (q:=Q) (by kernel_rfl) (by rw[hQ];kernel_rfl)]
    simp (maxDischargeDepth:=12) only[hv,ldO_one,stO_one,sy,tup,↓reduceIte,zA,zG,zC,zD,zF,zE,zB,zH,reduceCtorEq]
    exact⟨trivial,.inr trivial,_,rfl,.inr ⟨⟨by omega,by omega⟩,p,rfl,hbf,W,hW,.inr ⟨hW0,rfl,tF.owe hQ',lv',hLog,hnew⟩⟩⟩
end
end Go.Proofs.YtabebpemfinejaaDoor.draft
namespace Go.Proofs.YtabebpemfinejaaDoor.draft
open Go.Am
open disk (bx Fit A1 R1 Low Bn)
noncomputable def c47:CFn:=⟨[.tmp (pp 6)],
 .seq (.reg [
 qo 6 (.p (S.get (ii 0))) []]) (
 .seq (.block 0 (.seq (.reg [
 mv 8 0,
 qo 9 (.c (callF (ff 74) [(tt 8)])) [pp 8],
 qo 10 (.p (eqcF false false [.int .i64] (tt 9) (ii 0))) [pp 9],
 mv 7 10]) (
 .cond (tt 7) (.seq (.reg [
 qo 6 (.p (S.get (ii 1))) []]) (
 .ret)) (.seq (.reg [
 mv 12 1,
 qo 13 (.p (arF .lss (tt 12) (ii 0))) [pp 12],
 mv 14 13,
 mg 15 1 14 false,
 mg 16 0 14 false,
 qg 17 (.c (callF (ff 74) [(tt 16)])) 14 false [pp 16],
 qg 18 (.p (arF .geq (tt 15) (tt 17))) 14 false [pp 15,pp 17],
 qo 19 (.p (pickF (tt 14) (.c (.bool true)) (tt 18))) [pp 14,pp 18],
 mv 20 19,
 mg 21 0 20 false,
 mg 22 1 20 false,
 qg 23 (.c (callF (ff 49) [(tt 21),(tt 22)])) 20 false [pp 21,pp 22],
 mg 24 2 20 false,
 qg 25 (.p (arF .lss (tt 23) (tt 24))) 20 false [pp 23,pp 24],
 qo 26 (.p (pickF (tt 20) (.c (.bool true)) (tt 25))) [pp 20,pp 25],
 mv 11 26]) (
 .cond (tt 11) (.seq (.reg [
 qo 6 (.p (S.get (ii 2))) []]) (
 .ret)) (.skip)))))) (
 .seq (.reg [
 qo 6 (.p (S.get (ii 0))) []]) (
 .ret)))⟩
theorem c47_eq:fnOf Tryd.prog 47=some c47:=by kernel_rfl
noncomputable def c24_l0:C:=.seq (.reg [
 qo 47 (.p (arF .lss (tt 46) (ii 10))) [pp 46]]) (
 .seq (.cond (tt 47) (.skip) (.exit 1)) (
 .seq (.block 2 (.seq (.reg [
 mv 48 46,
 mv 13 48]) (
 .reg [
 mv 49 12,
 qo 50 (.r (loadF (tt 11) 1 .sc)) [pp 11],
 mv 51 13,
 qo 52 (.p (buildF [.blk 0] .bk [])) [],
 qo 53 (.c (callF (ff 32) [(tt 50),(tt 51),(tt 52)])) [pp 50,pp 51,pp 52],
 qo 54 (.m (bsliceF 1 1 [.nilFunc] [(0,1,(tt 53))])) [pp 53],
 qo 55 (.a (appF 1 8 (tt 49) (tt 54))) [pp 49,pp 54],
 mv 12 55]))) (
 .reg [
 qo 56 (.p (arF .add (tt 46) (ii 1))) [pp 46],
 mv 46 56])))
noncomputable def c24:CFn:=⟨[.tmp (pp 8),.tmp (pp 9)],
 .seq (.reg [
 qo 8 (.p (S.get (.c (.ptr none)))) [],
 qo 9 (.p (S.get (ii 0))) []]) (
 .seq (.reg [
 mv 15 0,
 mv 16 1,
 mv 17 3,
 qo 18 (.p (foldF max2 [(tt 17),(ii 0)])) [pp 17],
 qo 19 (.p (arF .add (ii 10) (tt 18))) [pp 18],
 qo 20 (.c (callF (ff 47) [(tt 15),(tt 16),(tt 19)])) [pp 15,pp 16,pp 19],
 mv 10 20]) (
 .seq (.block 0 (.seq (.reg [
 mv 22 10,
 qo 23 (.p (eqcF false false [.int .i64] (tt 22) (ii 1))) [pp 22],
 mv 21 23]) (
 .cond (tt 21) (.seq (.reg [
 mv 24 10,
 qo 8 (.p (S.get (.c (.ptr none)))) [],
 mv 9 24]) (
 .ret)) (.seq (.reg [
 mv 26 10,
 qo 27 (.p (eqcF true false [.int .i64] (tt 26) (ii 0))) [pp 26],
 mv 28 27,
 mg 29 2 28 false,
 qg 30 (.p (eqcF false false [.int .u64] (tt 29) (.c (.int .u64 0)))) 28 false [pp 29],
 qo 31 (.p (pickF (tt 28) (.c (.bool true)) (tt 30))) [pp 28,pp 30],
 mv 32 31,
 mg 33 3 32 false,
 qg 34 (.p (arF .lss (tt 33) (ii 40))) 32 false [pp 33],
 qo 35 (.p (pickF (tt 32) (.c (.bool true)) (tt 34))) [pp 32,pp 34],
 mv 36 35,
 mg 37 3 36 false,
 qg 38 (.p (arF .gtr (tt 37) (ii 256))) 36 false [pp 37],
 qo 39 (.p (pickF (tt 36) (.c (.bool true)) (tt 38))) [pp 36,pp 38],
 mv 25 39]) (
 .cond (tt 25) (.seq (.reg [
 qo 8 (.p (S.get (.c (.ptr none)))) [],
 qo 9 (.p (S.get (ii 2))) []]) (
 .ret)) (.skip)))))) (
 .seq (.reg [
 mv 40 0,
 mv 41 1,
 mv 42 2,
 mv 43 3,
 qo 44 (.p (buildF [.ptr none,.int .i64 0,.int .u64 0,.int .i64 0,.int .u64 0,.int .u64 0,.int .u64 0,.int .u64 0,.slice none 0 0 0] .ag [(0,1,(tt 40)),(1,1,(tt 41)),(2,1,(tt 42)),(3,1,(tt 43)),(4,1,(.c (.int .u64 1))),(5,1,(.c (.int .u64 1)))])) [pp 40,pp 41,pp 42,pp 43],
 qo 45 (.m (boxF 9 (tt 44))) [pp 44],
 qo 11 (.m (allocF 1 [.ptr none])) [],
 qn (.a (storeF (tt 11) (tt 45) 1)) [pp 11,pp 45]]) (
 .seq (.reg [
 qo 12 (.p (S.get (.c (.slice none 0 0 0)))) []]) (
 .seq (.seq (.reg [
 qo 46 (.p (S.get (ii 0))) []]) (
 .block 1 (.loop c24_l0))) (
 .seq (.reg [
 mv 57 12,
 qo 58 (.r (loadF (tt 11) 1 .sc)) [pp 11],
 qo 59 (.p (mkfnF (.func 35) [(tt 58)] [])) [pp 58],
 qo 60 (.p (mkfnF (.func 52) [] [(tt 11)])) [pp 11],
 qo 61 (.m (bsliceF 2 1 [.nilFunc] [(0,1,(tt 59)),(1,1,(tt 60))])) [pp 59,pp 60],
 qo 62 (.a (appF 1 8 (tt 57) (tt 61))) [pp 57,pp 61],
 mv 12 62]) (
 .seq (.seq (.reg [
 mv 63 12,
 qo 64 (.c (callF (ff 37) [(tt 63)])) [pp 63],
 mv 14 64]) (
 .seq (.reg [
 mv 65 14,
 qo 66 (.p (eqcF true false [.int .i64] (tt 65) (ii 0))) [pp 65]]) (
 .cond (tt 66) (.seq (.reg [
 mv 67 14,
 qo 8 (.p (S.get (.c (.ptr none)))) [],
 mv 9 67]) (
 .ret)) (.skip)))) (
 .seq (.reg [
 qo 68 (.r (loadF (tt 11) 1 .sc)) [pp 11],
 mv 8 68,
 qo 9 (.p (S.get (ii 0))) []]) (
 .ret)))))))))⟩
theorem c24_eq:fnOf Tryd.prog 24=some c24:=by kernel_rfl
noncomputable def c52:CFn:=⟨[.tmp (pp 1)],
 .seq (.reg [
 qo 1 (.p (S.get (ii 0))) []]) (
 .seq (.reg [
 qo 2 (.r (loadF (tt 0) 1 .sc)) [pp 0],
 qo 3 (.c (callF (ff 28) [(tt 2),(.c (.int .u64 1)),(.c (.int .u64 1)),(.c (.int .u64 0))])) [pp 2],
 mv 1 3]) (
 .ret))⟩
theorem c52_eq:fnOf Tryd.prog 52=some c52:=by kernel_rfl
def roomC (B:Bn) (d s:Int):Int:=if d < 0∨(B.l.length:Int)≤d∨B.sectors d < s then 2 else 0
noncomputable def layT (id R:Nat):List Stp:=(List.range 10).map (fun n=>.wr n 0)++[.fl,.wr 1 (markB 1 id R 1 0),.fl]
section
variable {lf K:Nat} (hlf:1000 < lf)
include hlf
theorem ulroom {G:Heap} {b:Bk} {B:Bn} (hb:G.get b=some (bx false B)) (hf:Fit B) (d s:Int) (n:Nat):ret (U lf K (n+2) 47 [.ptr (some ⟨b,0⟩),.int .i64 d,.int .i64 s] G) fun v G'=>v=.int .i64 (roomC B d s)∧Turns Z G G':=by
 have hne:¬ (B.l.length=0):=fun e=>hf.ne (List.length_eq_zero_iff.1 e)
 have e1:=fun(w:Nat)=>qDevices (lf:=lf) (K:=K) (w:=w) hb hf
 have hne':((B.l.length:Int)==0)=false:=by rw[beq_eq_false_iff_ne];omega
 have hb1:(G.skip (K+2)).get b=some (bx false B):=by rw[get_skip];exact hb
 have hb2:((G.skip (K+2)).skip (K+2)).get b=some (bx false B):=by rw[get_skip];exact hb1
 have eD0:=qDevices (lf:=lf) (K:=K) (w:=n) hb hf
 have eD1:=qDevices (lf:=lf) (K:=K) (w:=n) hb1 hf
 have eS1:=qSectors (lf:=lf) (K:=K) (w:=n) hb1 hf d
 have eS2:=qSectors (lf:=lf) (K:=K) (w:=n) hb2 hf d
 obtain⟨L,hL⟩:∃ L,L=B.l.length:=⟨_,rfl⟩
 rw[← hL] at hne hne' eD0 eD1
 have hcode:roomC B d s=if d < 0∨(B.l.length:Int)≤d∨B.sectors d < s then 2 else 0:=rfl
 rw[← hL] at hcode
 refine ret_callU rfl rfl c47_eq ?_
 by_cases h1:d < 0
 ·rw[show roomC B d s=2 from if_pos (.inl h1)]
  simp (maxDischargeDepth:=12) only[c47,eD0,hne',h1,hv,ldO_one,stO_one,sy,tup,↓reduceIte,zA,zG,zC,zD,zF,zE,zB,zH,reduceCtorEq]
  refine⟨trivial,.inr trivial,_,rfl,rfl,?_⟩
  repeat (first | exact Turns.refl _ _ | apply Turns.skip | apply Turns.addm | apply Turns.setb | apply Turns.setl | apply Turns.setr | refine Turns.setn ?_ _ (by omega) _ | refine Turns.trans ?_ (tF _))
 by_cases h2:(L:Int)≤d
 ·rw[hcode,if_pos (.inr (.inl h2))]
  simp (maxDischargeDepth:=12) only[c47,eD0,eD1,hne',h1,h2,hv,ldO_one,stO_one,sy,tup,↓reduceIte,zA,zG,zC,zD,zF,zE,zB,zH,reduceCtorEq]
  refine⟨trivial,.inr trivial,_,rfl,rfl,?_⟩
  repeat (first | exact Turns.refl _ _ | apply Turns.skip | apply Turns.addm | apply Turns.setb | apply Turns.setl | apply Turns.setr | refine Turns.setn ?_ _ (by omega) _ | refine Turns.trans ?_ (tF _))
 by_cases h3:B.sectors d < s
 ·rw[hcode,if_pos (.inr (.inr h3))]
  simp (maxDischargeDepth:=12) only[c47,eD0,eD1,eS2,hne',h1,h2,h3,hv,ldO_one,stO_one,sy,tup,↓reduceIte,zA,zG,zC,zD,zF,zE,zB,zH,reduceCtorEq]
  refine⟨trivial,.inr trivial,_,rfl,rfl,?_⟩
  repeat (first | exact Turns.refl _ _ | apply Turns.skip | apply Turns.addm | apply Turns.setb | apply Turns.setl | apply Turns.setr | refine Turns.setn ?_ _ (by omega) _ | refine Turns.trans ?_ (tF _))
 ·rw[hcode,if_neg (fun h=>h.elim h1 (fun h=>h.elim h2 h3))]
  simp (maxDischargeDepth:=12) only[c47,eD0,eD1,eS2,hne',h1,h2,h3,hv,ldO_one,stO_one,sy,tup,↓reduceIte,zA,zG,zC,zD,zF,zE,zB,zH,reduceCtorEq]
  refine⟨trivial,.inr trivial,_,rfl,rfl,?_⟩
  repeat (first | exact Turns.refl _ _ | apply Turns.skip | apply Turns.addm | apply Turns.setb | apply Turns.setl | apply Turns.setr | refine Turns.setn ?_ _ (by omega) _ | refine Turns.trans ?_ (tF _))
theorem ullay1 {G:Heap} (hgl:G.get (.run 0)=some (.rows true 4 (intsR [8,2,8,8]))) (h00:0 < G.next) {l b:Bk} {id R:Nat} {x:Nat} (hx:G.get (.run x)=some (.rows false 1 [[.ptr (some ⟨l,0⟩)]])) {cnt first tail head:Nat} {v:V} (hg:G.get l=some (.rows false 9 [lcells b id R cnt first tail head v])) (ho:G.Old l) (bo:G.Old b) (lb:l≠b) {B:Bn} (hb:G.get b=some (bx false B)) (hR:Rm 2 B) (hm:MkOk id R 1 0) (n:Nat) :
  ret (U lf K (n+7) 52 [.ptr (some ⟨.run x,0⟩)] G) fun v G'=>v=.int .i64 (doneC B [Stp.wr 1 (markB 1 id R 1 0),Stp.fl])∧G'.get b=some (bx false (doneB B [Stp.wr 1 (markB 1 id R 1 0),Stp.fl]))∧Turns (fun c=>c=b) G G':=by
 obtain⟨v3,G3,e3,rfl,hb3,t3⟩:=ulmark hlf (K:=K) hgl h00 hg ho bo lb hb hR (cn:=1) (f:=1) (p:=0) (by omega) hm n
 change U lf K (n+6) 28 [.ptr (some ⟨l,0⟩),.int .u64 1,.int .u64 1,.int .u64 0] G=_ at e3
 change G3.get b=some (bx false (doneB B [Stp.wr 1 (markB 1 id R 1 0),Stp.fl])) at hb3
 change _=some (Rs.v (V.int .i64 (doneC B [Stp.wr 1 (markB 1 id R 1 0),Stp.fl])),G3) at e3
 obtain⟨W,hW⟩:∃ W,W=doneC B [Stp.wr 1 (markB 1 id R 1 0),Stp.fl]:=⟨_,rfl⟩
 rw[← hW] at e3 ⊢
 have k0:cut [V.ptr (some ⟨l,0⟩)] 0 1=some [.ptr (some ⟨l,0⟩)]:=rfl
 refine ret_callU rfl rfl c52_eq ?_
 simp (maxDischargeDepth:=12) only[c52,hx,k0,e3,hv,ldO_one,stO_one,sy,tup,↓reduceIte,zA,zG,zC,zD,zF,zE,zB,zH,reduceCtorEq]
 exact⟨trivial,.inr trivial,_,rfl,rfl,hb3,t3⟩
end
theorem doneC_cons (B:Bn) (s:Stp) (l:List Stp):doneC B (s::l)=if stepC B s=0 then doneC (stepB B s) l else stepC B s:=rfl
theorem doneB_cons (B:Bn) (s:Stp) (l:List Stp):doneB B (s::l)=if stepC B s=0 then doneB (stepB B s) l else stepB B s:=rfl
theorem doneB_rm {k:Nat}:∀(l:List Stp) {B:Bn},Rm (k+l.length) B→Rm k (doneB B l)
 | [],B,h=>h
 | s::l,B,h=>by
  rw[doneB_cons]
  have h1:Rm (k+l.length) (stepB B s):=Rm.step (by rw[List.length_cons] at h;exact h) s
  split
  ·exact doneB_rm l h1
  ·exact h1.mono (Nat.le_add_right _ _)
theorem runF_app:∀(A:List Stp) (B:Bn) (T:List Stp),runF B ((A.map fun s B=>(stepC B s,stepB B s))++[fun B=>(doneC B T,doneB B T)])=(doneC B (A++T),doneB B (A++T))
 | [],B,T=>by
  show (if doneC B T=0 then(0,doneB B T) else(doneC B T,doneB B T))=_
  split
  ·rename_i h;rw[List.nil_append,h]
  ·rfl
 | s::A,B,T=>by
  rw[List.map_cons,List.cons_append,runF_cons,runF_app A,List.cons_append,doneC_cons,doneB_cons]
  simp only
  split<;>rfl
end Go.Proofs.YtabebpemfinejaaDoor.draft
