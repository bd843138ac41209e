import Derived.Test.YtabebpemfinejaaGreatG1
set_option linter.unusedVariables false
set_option linter.unusedSimpArgs false
set_option maxRecDepth 10000
open Nat renaming reduceEqDiff → zA, reduceLeDiff → zB, reduceSub → zC, reduceMul → zD, reduceMod → zE, reduceDiv → zF, reduceAdd → zG
open Int renaming reduceBEq → zH
namespace Go.Proofs.YtabebpemfinejaaGreat.draft
open Go.Am
theorem cnt_cons (x k:Nat) (l:List Nat):cnt (x::l) k=(if x=k then 1 else 0)+cnt l k:=by
 unfold cnt
 rw[List.filter_cons]
 by_cases e:x=k
 ·simp[e];omega
 ·simp[e]
theorem cnt3:∀ S:List Nat,cnt S 0+cnt S 1+cnt S 2=(S.filter fun y=>decide (y≤2)).length
 | []=>rfl
 | x::l=>by
  rw[cnt_cons,cnt_cons,cnt_cons,List.filter_cons]
  have:=cnt3 l
  by_cases h:x≤2
  ·have:(if x=0 then 1 else 0)+(if x=1 then 1 else 0)+(if x=2 then 1 else 0)=1:=by
    rcases(by omega:x=0∨x=1∨x=2) with e | e | e<;>simp[e]
   simp[h]
   omega
  ·rw[if_neg (by omega),if_neg (by omega),if_neg (by omega)]
   simp[h]
   omega
theorem cnt3_iff {S:List Nat} (hS:S.length=16):cnt S 0+cnt S 1+cnt S 2=16↔∀ x ∈ S,x≤2:=by
 rw[cnt3,← hS,List.length_filter_eq_length_iff]
 simp
def tail0 (m:Int) (S:List Nat):Prop:=∀ j:Nat,m≤(j:Int)→∀ x,S[j]?=some x→x=0
theorem fine_iff {m s r c:Int} {S:List Nat} (hS:S.length=16):fine m s r S c↔(may m s r=true∧(0≤c∧c < s)∧tail0 m S∧cnt S 0+cnt S 1+cnt S 2=16∧(cnt S 2=1∨cnt S 2=0∧c=0)):=by
 rw[cnt3_iff hS]
 constructor
 ·rintro⟨h1,h2,h3,h4,h5,h6⟩
  refine⟨h1,⟨h4,h5⟩,fun j hj x hx=>?_,fun x hx=>?_,by omega⟩
  ·obtain⟨hlt,_⟩:=List.getElem?_eq_some_iff.1 hx
   exact(h2 j (by omega) x hx).2 hj
  ·obtain⟨j,hj,e⟩:=List.getElem_of_mem hx
   exact(h2 j (by omega) x (by rw[List.getElem?_eq_getElem hj,e])).1
 ·rintro⟨h1,⟨h4,h5⟩,h2,h3,h6⟩
  refine⟨h1,fun j hj x hx=>⟨h3 x (List.mem_of_getElem? hx),fun hm=>h2 j hm x hx⟩,by omega,h4,h5,by omega⟩
theorem bFrom {n a:Nat} (h:a≤n):bounds n n (some (.int .i64 (a:Int))) none none=some (a,n,n):=by
 show (match bound n (.int .i64 (a:Int)) with
  | some l=>some (l,n,n)
  | none=>none)=_
 have:bound n (.int .i64 (a:Int))=some a:=by
  unfold bound
  simp only[show asNat (.int .i64 (a:Int))=some a from rfl,ble_iff.2 h]
 rw[this]
theorem pmay_ok (H:Heap) {m s r c:Int} {g:Bool} {S:List Nat} (hS:S.length=16) (lf n:Nat) (hlf:17 < lf):ret (callS Tryz.prog S0 lf (n+3) 47 [ros m s r S c g] H) fun v H'=>(∃ z:Bool,v=.bool z∧(z=true↔fine m s r S c))∧Turns Z H H':=by
 have t1:=Turns.add Z H (.rows false 21 [rcells m s r S c g])
 have hg:(H.add (.rows false 21 [rcells m s r S c g])).get (.run H.next)=some (.rows false 21 [rcells m s r S c g]):=by rw[Heap.get_add,if_pos rfl]
 have og:(H.add (.rows false 21 [rcells m s r S c g])).Old (.run H.next):=by show _ < _;simp
 have hr:∀ {H':Heap},Turns Z (H.add (.rows false 21 [rcells m s r S c g])) H'→RosAt H' (.run H.next) m s r S c g:=fun t=>⟨(t.same _ og id).trans hg,hS⟩
 have lg:=ros_geo (hr (Turns.refl Z _))
 have hw:=r_width hS m s r c g
 have hfi:=fine_iff (m:=m) (s:=s) (r:=r) (c:=c) hS
 generalize hH1:H.add (.rows false 21 [rcells m s r S c g])=H1 at *
 obtain⟨v,H2,e2,rfl,t2⟩:=may_ok H1 m s r lf n
 unfold geo at e2
 refine ret_call rfl c47_eq ?_
 cases hm:may m s r with
 | false=>
  rw[hm] at e2
  simp only[c47,ros,hw,hH1,lg,e2,sy,tup,↓reduceIte,zA,zG,zC,zD,zF,zE,zB,zH,reduceCtorEq]
  exact⟨trivial,.inr trivial,_,rfl,⟨false,rfl,by rw[hfi,hm];simp⟩,t1.trans t2⟩
 | true=>
  rw[hm] at e2 hfi
  have hr2:=hr t2
  have lc:=ros_c hr2
  have ls:=ros_s hr2
  have l0:=ros_m hr2
  by_cases hc0:c < 0
  ·simp only[c47,ros,hw,hH1,lg,e2,lc,hc0,sy,tup,↓reduceIte,zA,zG,zC,zD,zF,zE,zB,zH,reduceCtorEq]
   exact⟨trivial,.inr trivial,_,rfl,⟨false,rfl,by rw[hfi];simp;omega⟩,t1.trans t2⟩
  by_cases hcs:s≤c
  ·simp only[c47,ros,hw,hH1,lg,e2,lc,ls,hc0,hcs,sy,tup,↓reduceIte,zA,zG,zC,zD,zF,zE,zB,zH,reduceCtorEq]
   exact⟨trivial,.inr trivial,_,rfl,⟨false,rfl,by rw[hfi];simp;omega⟩,t1.trans t2⟩
  have hmm:=(may_t hm).1
  obtain⟨M,hM⟩:∃ M:Nat,m=(M:Int):=⟨m.toNat,by omega⟩
  have hM16:M≤16:=by omega
  have hM3:3≤M:=by omega
  have bF:=bFrom hM16
  have l0':loadAt H2 ⟨.run H.next,0⟩ 1=some [.int .i64 (M:Int)]:=by rw[← hM];exact l0
  have hloop:∀(o27 c27:Nat) (t:T),(M < 16→o27=3+M*1)→t.getP (Tr.path 1)=some (.ptr (some ⟨.run H.next,0⟩))→t.getP (Tr.path 27)=some (.slice (some ⟨.run H.next,o27⟩) (16 - M) c27 0)→t.getP (Tr.path 28)=some (.int .i64 ((16 - M:Nat):Int))→t.getP (Tr.path 29)=some (.int .i64 0) →
    wp (loopF (runC (callS Tryz.prog S0 lf (n+2)) lf c47_l0) lf ⟨t,H2,[]⟩) fun x' s'=>s'.d=[]∧s'.H=H2∧((x'=.ex 0∧tail0 m S∧s'.t.getP (Tr.path 1)=some (.ptr (some ⟨.run H.next,0⟩))) ∨
     (x'=.ret∧¬ tail0 m S∧s'.t.getP (Tr.path 2)=some (.bool false))):=by
   intro o27 c27 t ho q1 q27 q28 q29
   refine wp_loopF (fun k s'=>∃ j:Nat,k=16 - M - j∧j≤16 - M∧s'.d=[]∧s'.H=H2∧(∀ i,M≤i→i < M+j→∀ x,S[i]?=some x→x=0)∧s'.t.getP (Tr.path 1)=some (.ptr (some ⟨.run H.next,0⟩))∧s'.t.getP (Tr.path 27)=some (.slice (some ⟨.run H.next,o27⟩) (16 - M) c27 0)∧s'.t.getP (Tr.path 28)=some (.int .i64 ((16 - M:Nat):Int))∧s'.t.getP (Tr.path 29)=some (.int .i64 (j:Int))) ?_ lf (16 - M) _ ⟨0,rfl,by omega,rfl,rfl,fun i h1 h2=>absurd h2 (by omega),q1,q27,q28,q29⟩ (by omega)
   rintro k ⟨t,HH,d⟩ ⟨j,rfl,hj,hd,hH,hz,q1,q27,q28,q29⟩
   dsimp only at hd hH q1 q27 q28 q29
   subst hd;subst hH
   by_cases hlt:j < 16 - M
   ·have hlt':(j:Int) < ((16 - M:Nat):Int):=by omega
    have hle':j+1≤16 - M:=hlt
    obtain rfl:=ho (by omega)
    have hiS:M+j < S.length:=by omega
    have lx:=ros_st hr2 (i:=M+j) (by omega)
    rw[Nat.add_mul,← Nat.add_assoc] at lx
    have w1:IntKind.i64.wrap ((j:Int)+1)=((j+1:Nat):Int):=by rw[wrap_i64 (by omega)];omega
    have hget:S[M+j]?=some S[M+j]:=List.getElem?_eq_getElem hiS
    by_cases h0:S[M+j]=0
    ·have hb:(((S[M+j]:Nat):Int)==0)=true:=by simp[h0]
     simp only[c47_l0,q1,q27,q28,q29,hlt',hle',lx,hb,w1,sy,tup,↓reduceIte,zA,zG,zC,zD,zF,zE,zB,zH,reduceCtorEq]
     refine⟨16 - M - (j+1),by omega,j+1,rfl,by omega,trivial,trivial,fun i h1 h2 x hx=>?_,by simp[q1],by simp[q27],by simp[q28],by simp⟩
     by_cases e:i=M+j
     ·subst e
      rw[hget] at hx
      cases hx
      exact h0
     ·exact hz i h1 (by omega) x hx
    ·have hb:(((S[M+j]:Nat):Int)==0)=false:=by simp;omega
     simp only[c47_l0,q1,q27,q28,q29,hlt',hle',lx,hb,sy,tup,↓reduceIte,zA,zG,zC,zD,zF,zE,zB,zH,reduceCtorEq]
     exact⟨trivial,trivial,.inr ⟨trivial,fun h=>h0 (h (M+j) (by omega) _ hget),trivial⟩⟩
   ·have hje:j=16 - M:=by omega
    have hnl:¬ (j:Int) < ((16 - M:Nat):Int):=by omega
    simp only[c47_l0,q1,q27,q28,q29,hnl,sy,tup,↓reduceIte,zA,zG,zC,zD,zF,zE,zB,zH,reduceCtorEq]
    refine⟨trivial,trivial,.inl ⟨trivial,fun i hi x hx=>?_,by first | trivial | exact q1⟩⟩
    obtain⟨hlt2,_⟩:=List.getElem?_eq_some_iff.1 hx
    exact hz i (by omega) (by omega) x hx
  obtain⟨v,H3,e3,rfl,t3⟩:=count_ok H2 (m:=m) (s:=s) (r:=r) (c:=c) (g:=g) hS 2 lf (n+1) hlf
  obtain⟨v,H4,e4,rfl,t4⟩:=count_ok H3 (m:=m) (s:=s) (r:=r) (c:=c) (g:=g) hS 0 lf (n+1) hlf
  obtain⟨v,H5,e5,rfl,t5⟩:=count_ok H4 (m:=m) (s:=s) (r:=r) (c:=c) (g:=g) hS 1 lf (n+1) hlf
  have a2:=ros_all hr2
  have a3:=ros_all (hr (t2.trans t3))
  have a4:=ros_all (hr ((t2.trans t3).trans t4))
  have c5:=ros_c (hr (((t2.trans t3).trans t4).trans t5))
  have n0:=cnt_le S 0
  have n1:=cnt_le S 1
  have n2:=cnt_le S 2
  have w1:IntKind.i64.wrap ((cnt S 0:Int)+(cnt S 1:Int))=(cnt S 0:Int)+(cnt S 1:Int):=wrap_i64 (by omega)
  have w2:IntKind.i64.wrap ((cnt S 0:Int)+(cnt S 1:Int)+(cnt S 2:Int))=(cnt S 0:Int)+(cnt S 1:Int)+(cnt S 2:Int):=wrap_i64 (by omega)
  unfold ros at e3 e4 e5
  obtain⟨q,hqd⟩:∃ q:List (Option V × Option V),q=[(loadF (.t (Tr.path 1)) 21 .ag (Tr.setP (Tr.path 1) (.ptr (some ⟨.run H.next,0⟩)) .e) H3,some (.agg (rcells m s r S c g))),(loadF (.t (Tr.path 1)) 21 .ag (Tr.setP (Tr.path 1) (.ptr (some ⟨.run H.next,0⟩)) .e) H4,some (.agg (rcells m s r S c g)))]:=⟨_,rfl⟩
  have hq:∀ p ∈ q,p.1=p.2:=by
   rw[hqd]
   intro p hp
   simp only[List.mem_cons,List.not_mem_nil,or_false] at hp
   rcases hp with rfl | rfl
   ·simp only[a3,sy,tup,↓reduceIte,zA,zG,zC,zD,zF,zE,zB,zH,reduceCtorEq]
   ·simp only[a4,sy,tup,↓reduceIte,zA,zG,zC,zD,zF,zE,zB,zH,reduceCtorEq]
  have tt:Turns Z H (H5.owe q):=(((((t1.trans t2).trans t3).trans t4).trans t5).owe hq)
  have e3':∀ y:Int,y=2→callS Tryz.prog S0 lf (n+2) 110 [.agg (rcells m s r S c g),.int .u8 y] H2=some (.v (.int .i64 (cnt S 2:Int)),H3):=fun y hy=>by rw[hy];exact e3
  have e3:=e3' 2 rfl
  have e4':∀ y:Int,y=0→callS Tryz.prog S0 lf (n+2) 110 [.agg (rcells m s r S c g),.int .u8 y] H3=some (.v (.int .i64 (cnt S 0:Int)),H4):=fun y hy=>by rw[hy];exact e4
  have e4:=e4' 0 rfl
  have e5':∀ y:Int,y=1→callS Tryz.prog S0 lf (n+2) 110 [.agg (rcells m s r S c g),.int .u8 y] H4=some (.v (.int .i64 (cnt S 1:Int)),H5):=fun y hy=>by rw[hy];exact e5
  have e5:=e5' 1 rfl
  by_cases hMe:M=16
  ·subst hMe
   simp only[c47,ros,hw,hH1,lg,e2,lc,ls,l0',hc0,hcs,bF,Nat.sub_self,sy,tup,↓reduceIte,zA,zG,zC,zD,zF,zE,zB,zH,reduceCtorEq]
   refine wp_ctx (F:=fun r=>seqC _ _ _ (blockC _ r)) (hloop 3 0 _ (fun h=>absurd h (by omega)) ?_ ?_ ?_ ?_) ?_
   ·simp only[sy,tup,↓reduceIte,zA,zG,zC,zD,zF,zE,zB,zH,reduceCtorEq]
   ·simp only[sy,tup,↓reduceIte,zA,zG,zC,zD,zF,zE,zB,zH,reduceCtorEq]
   ·simp only[sy,tup,↓reduceIte,zA,zG,zC,zD,zF,zE,zB,zH,reduceCtorEq]
   ·simp only[sy,tup,↓reduceIte,zA,zG,zC,zD,zF,zE,zB,zH,reduceCtorEq]
   rintro x' ⟨t,HH,d⟩ ⟨hd,hH,⟨rfl,hok,q1⟩ | ⟨rfl,hno,q2⟩⟩
   ·dsimp only at hd hH q1
    subst hd;subst hH
    by_cases hsum:cnt S 0+cnt S 1+cnt S 2=16
    ·have hb:((cnt S 0:Int)+(cnt S 1:Int)+(cnt S 2:Int)==16)=true:=by simp;omega
     by_cases h1:cnt S 2=1
     ·have hb1:((cnt S 2:Int)==1)=true:=by simp[h1]
      simp only[q1,a2,e3,a3,e4,a4,e5,c5,w1,w2,hb,hb1,sy,tup,↓reduceIte,zA,zG,zC,zD,zF,zE,zB,zH,reduceCtorEq]
      rw[endD_q (q:=q) (by kernel_rfl) (by rw[hqd];kernel_rfl)]
      simp only[sy,tup,↓reduceIte,zA,zG,zC,zD,zF,zE,zB,zH,reduceCtorEq]
      exact⟨trivial,.inr trivial,_,rfl,⟨_,rfl,by rw[hfi];simp[hok,hsum,h1];try omega⟩,tt⟩
     ·have hb1:((cnt S 2:Int)==1)=false:=by simp;omega
      by_cases h0:cnt S 2=0
      ·have hb0:((cnt S 2:Int)==0)=true:=by simp[h0]
       by_cases hz:c=0
       ·have hbz:(c==0)=true:=by simp[hz]
        simp only[q1,a2,e3,a3,e4,a4,e5,c5,w1,w2,hb,hb1,hb0,hbz,sy,tup,↓reduceIte,zA,zG,zC,zD,zF,zE,zB,zH,reduceCtorEq]
        rw[endD_q (q:=q) (by kernel_rfl) (by rw[hqd];kernel_rfl)]
        simp only[sy,tup,↓reduceIte,zA,zG,zC,zD,zF,zE,zB,zH,reduceCtorEq]
        exact⟨trivial,.inr trivial,_,rfl,⟨_,rfl,by rw[hfi];simp[hok,hsum,h1,h0,hz];try omega⟩,tt⟩
       ·have hbz:(c==0)=false:=by simp[hz]
        simp only[q1,a2,e3,a3,e4,a4,e5,c5,w1,w2,hb,hb1,hb0,hbz,sy,tup,↓reduceIte,zA,zG,zC,zD,zF,zE,zB,zH,reduceCtorEq]
        rw[endD_q (q:=q) (by kernel_rfl) (by rw[hqd];kernel_rfl)]
        simp only[sy,tup,↓reduceIte,zA,zG,zC,zD,zF,zE,zB,zH,reduceCtorEq]
        exact⟨trivial,.inr trivial,_,rfl,⟨_,rfl,by rw[hfi];simp[hok,hsum,h1,h0,hz];try omega⟩,tt⟩
      ·have hb0:((cnt S 2:Int)==0)=false:=by simp;omega
       simp only[q1,a2,e3,a3,e4,a4,e5,c5,w1,w2,hb,hb1,hb0,sy,tup,↓reduceIte,zA,zG,zC,zD,zF,zE,zB,zH,reduceCtorEq]
       rw[endD_q (q:=q) (by kernel_rfl) (by rw[hqd];kernel_rfl)]
       simp only[sy,tup,↓reduceIte,zA,zG,zC,zD,zF,zE,zB,zH,reduceCtorEq]
       exact⟨trivial,.inr trivial,_,rfl,⟨_,rfl,by rw[hfi];simp[hok,hsum,h1,h0];try omega⟩,tt⟩
    ·have hb:((cnt S 0:Int)+(cnt S 1:Int)+(cnt S 2:Int)==16)=false:=by simp;omega
     simp only[q1,a2,e3,a3,e4,a4,e5,c5,w1,w2,hb,sy,tup,↓reduceIte,zA,zG,zC,zD,zF,zE,zB,zH,reduceCtorEq]
     rw[endD_q (q:=q) (by kernel_rfl) (by rw[hqd];kernel_rfl)]
     simp only[sy,tup,↓reduceIte,zA,zG,zC,zD,zF,zE,zB,zH,reduceCtorEq]
     exact⟨trivial,.inr trivial,_,rfl,⟨_,rfl,by rw[hfi];simp[hok,hsum];try omega⟩,tt⟩
   ·dsimp only at hd hH q2
    subst hd;subst hH
    simp only[q2,sy,tup,↓reduceIte,zA,zG,zC,zD,zF,zE,zB,zH,reduceCtorEq]
    exact⟨trivial,.inr trivial,_,rfl,⟨false,rfl,by rw[hfi];simp[hno]⟩,t1.trans t2⟩
  ·have hMe':¬ 16=M:=fun e=>hMe e.symm
   simp only[c47,ros,hw,hH1,lg,e2,lc,ls,l0',hc0,hcs,bF,hMe',sy,tup,↓reduceIte,zA,zG,zC,zD,zF,zE,zB,zH,reduceCtorEq]
   refine wp_ctx (F:=fun r=>seqC _ _ _ (blockC _ r)) (hloop (3+M*1) (16 - M) _ (fun _=>rfl) ?_ ?_ ?_ ?_) ?_
   ·simp only[sy,tup,↓reduceIte,zA,zG,zC,zD,zF,zE,zB,zH,reduceCtorEq]
   ·simp only[sy,tup,↓reduceIte,zA,zG,zC,zD,zF,zE,zB,zH,reduceCtorEq]
   ·simp only[sy,tup,↓reduceIte,zA,zG,zC,zD,zF,zE,zB,zH,reduceCtorEq]
   ·simp only[sy,tup,↓reduceIte,zA,zG,zC,zD,zF,zE,zB,zH,reduceCtorEq]
   rintro x' ⟨t,HH,d⟩ ⟨hd,hH,⟨rfl,hok,q1⟩ | ⟨rfl,hno,q2⟩⟩
   ·dsimp only at hd hH q1
    subst hd;subst hH
    by_cases hsum:cnt S 0+cnt S 1+cnt S 2=16
    ·have hb:((cnt S 0:Int)+(cnt S 1:Int)+(cnt S 2:Int)==16)=true:=by simp;omega
     by_cases h1:cnt S 2=1
     ·have hb1:((cnt S 2:Int)==1)=true:=by simp[h1]
      simp only[q1,a2,e3,a3,e4,a4,e5,c5,w1,w2,hb,hb1,sy,tup,↓reduceIte,zA,zG,zC,zD,zF,zE,zB,zH,reduceCtorEq]
      rw[endD_q (q:=q) (by kernel_rfl) (by rw[hqd];kernel_rfl)]
      simp only[sy,tup,↓reduceIte,zA,zG,zC,zD,zF,zE,zB,zH,reduceCtorEq]
      exact⟨trivial,.inr trivial,_,rfl,⟨_,rfl,by rw[hfi];simp[hok,hsum,h1];try omega⟩,tt⟩
     ·have hb1:((cnt S 2:Int)==1)=false:=by simp;omega
      by_cases h0:cnt S 2=0
      ·have hb0:((cnt S 2:Int)==0)=true:=by simp[h0]
       by_cases hz:c=0
       ·have hbz:(c==0)=true:=by simp[hz]
        simp only[q1,a2,e3,a3,e4,a4,e5,c5,w1,w2,hb,hb1,hb0,hbz,sy,tup,↓reduceIte,zA,zG,zC,zD,zF,zE,zB,zH,reduceCtorEq]
        rw[endD_q (q:=q) (by kernel_rfl) (by rw[hqd];kernel_rfl)]
        simp only[sy,tup,↓reduceIte,zA,zG,zC,zD,zF,zE,zB,zH,reduceCtorEq]
        exact⟨trivial,.inr trivial,_,rfl,⟨_,rfl,by rw[hfi];simp[hok,hsum,h1,h0,hz];try omega⟩,tt⟩
       ·have hbz:(c==0)=false:=by simp[hz]
        simp only[q1,a2,e3,a3,e4,a4,e5,c5,w1,w2,hb,hb1,hb0,hbz,sy,tup,↓reduceIte,zA,zG,zC,zD,zF,zE,zB,zH,reduceCtorEq]
        rw[endD_q (q:=q) (by kernel_rfl) (by rw[hqd];kernel_rfl)]
        simp only[sy,tup,↓reduceIte,zA,zG,zC,zD,zF,zE,zB,zH,reduceCtorEq]
        exact⟨trivial,.inr trivial,_,rfl,⟨_,rfl,by rw[hfi];simp[hok,hsum,h1,h0,hz];try omega⟩,tt⟩
      ·have hb0:((cnt S 2:Int)==0)=false:=by simp;omega
       simp only[q1,a2,e3,a3,e4,a4,e5,c5,w1,w2,hb,hb1,hb0,sy,tup,↓reduceIte,zA,zG,zC,zD,zF,zE,zB,zH,reduceCtorEq]
       rw[endD_q (q:=q) (by kernel_rfl) (by rw[hqd];kernel_rfl)]
       simp only[sy,tup,↓reduceIte,zA,zG,zC,zD,zF,zE,zB,zH,reduceCtorEq]
       exact⟨trivial,.inr trivial,_,rfl,⟨_,rfl,by rw[hfi];simp[hok,hsum,h1,h0];try omega⟩,tt⟩
    ·have hb:((cnt S 0:Int)+(cnt S 1:Int)+(cnt S 2:Int)==16)=false:=by simp;omega
     simp only[q1,a2,e3,a3,e4,a4,e5,c5,w1,w2,hb,sy,tup,↓reduceIte,zA,zG,zC,zD,zF,zE,zB,zH,reduceCtorEq]
     rw[endD_q (q:=q) (by kernel_rfl) (by rw[hqd];kernel_rfl)]
     simp only[sy,tup,↓reduceIte,zA,zG,zC,zD,zF,zE,zB,zH,reduceCtorEq]
     exact⟨trivial,.inr trivial,_,rfl,⟨_,rfl,by rw[hfi];simp[hok,hsum];try omega⟩,tt⟩
   ·dsimp only at hd hH q2
    subst hd;subst hH
    simp only[q2,sy,tup,↓reduceIte,zA,zG,zC,zD,zF,zE,zB,zH,reduceCtorEq]
    exact⟨trivial,.inr trivial,_,rfl,⟨false,rfl,by rw[hfi];simp[hno]⟩,t1.trans t2⟩
end Go.Proofs.YtabebpemfinejaaGreat.draft
namespace Go.Proofs.YtabebpemfinejaaGreat.draft
open Go.Am
noncomputable def c256_l0:C:=.seq (.reg [
 qo 43 (.p (arF .lss (tt 42) (tt 41))) [pp 42,pp 41]]) (
 .seq (.cond (tt 43) (.skip) (.exit 1)) (
 .seq (.block 2 (.seq (.reg [
 mv 44 42,
 qo 45 (.p (iaddrSF (tt 40) (tt 42) 1)) [pp 40,pp 42],
 qo 46 (.r (loadF (tt 45) 1 .sc)) [pp 45],
 mv 9 44,
 mv 10 46]) (
 .reg [
 mv 47 8,
 mv 48 10,
 qo 49 (.p (convF .u64 (tt 48))) [pp 48],
 mv 50 9,
 qo 51 (.p (arF .mul (ii 8) (tt 50))) [pp 50],
 qo 52 (.p (arF .shl (tt 49) (tt 51))) [pp 49,pp 51],
 qo 53 (.p (arF .or (tt 47) (tt 52))) [pp 47,pp 52],
 mv 8 53]))) (
 .reg [
 qo 54 (.p (arF .add (tt 42) (ii 1))) [pp 42],
 mv 42 54])))
noncomputable def c256:CFn:=⟨[.tmp (pp 6),.tmp (pp 7)],
 .seq (.reg [
 qo 6 (.p (S.get (.c (.int .u64 0)))) [],
 qo 7 (.p (S.get (ii 0))) []]) (
 .seq (.block 0 (.seq (.reg [
 mv 12 2,
 qo 13 (.p (arF .lss (tt 12) (ii 1))) [pp 12],
 mv 14 13,
 mg 15 2 14 false,
 qg 16 (.p (arF .gtr (tt 15) (ii 8))) 14 false [pp 15],
 qo 17 (.p (pickF (tt 14) (.c (.bool true)) (tt 16))) [pp 14,pp 16],
 mv 18 17,
 mg 19 1 18 false,
 qg 20 (.p (arF .lss (tt 19) (ii 0))) 18 false [pp 19],
 qo 21 (.p (pickF (tt 18) (.c (.bool true)) (tt 20))) [pp 18,pp 20],
 mv 22 21,
 mg 23 1 22 false,
 mg 24 0 22 false,
 qg 25 (.p (lenF (tt 24))) 22 false [pp 24],
 qg 26 (.p (arF .gtr (tt 23) (tt 25))) 22 false [pp 23,pp 25],
 qo 27 (.p (pickF (tt 22) (.c (.bool true)) (tt 26))) [pp 22,pp 26],
 mv 11 27]) (
 .cond (tt 11) (.seq (.reg [
 qo 6 (.p (S.get (.c (.int .u64 0)))) [],
 qo 7 (.p (S.get (ii 2))) []]) (
 .ret)) (.seq (.reg [
 mv 29 2,
 mv 30 0,
 qo 31 (.p (lenF (tt 30))) [pp 30],
 mv 32 1,
 qo 33 (.p (arF .sub (tt 31) (tt 32))) [pp 31,pp 32],
 qo 34 (.p (arF .gtr (tt 29) (tt 33))) [pp 29,pp 33],
 mv 28 34]) (
 .cond (tt 28) (.seq (.reg [
 qo 6 (.p (S.get (.c (.int .u64 0)))) [],
 qo 7 (.p (S.get (ii 4))) []]) (
 .ret)) (.skip)))))) (
 .seq (.reg [
 qo 8 (.p (S.get (.c (.int .u64 0)))) []]) (
 .seq (.seq (.reg [
 mv 35 0,
 mv 36 1,
 mv 37 1,
 mv 38 2,
 qo 39 (.p (arF .add (tt 37) (tt 38))) [pp 37,pp 38],
 qo 40 (.p (sliceF 1 (tt 35) (some (tt 36)) (some (tt 39)) none)) [pp 35,pp 36,pp 39],
 qo 41 (.p (lenF (tt 40))) [pp 40],
 qo 42 (.p (S.get (ii 0))) []]) (
 .block 1 (.loop c256_l0))) (
 .seq (.reg [
 mv 55 8,
 mv 6 55,
 qo 7 (.p (S.get (ii 0))) []]) (
 .ret)))))⟩
theorem c256_eq:fnOf Tryz.prog 256=some c256:=by kernel_rfl
theorem wrap_u64 {n:Nat} (h:n < 18446744073709551616):IntKind.u64.wrap (n:Int)=n:=by
 show (if false&&decide ((n:Int) % (2 ^ 64:Int)≥(2 ^ (64 - 1):Int)) then(n:Int) % (2 ^ 64:Int) - (2 ^ 64:Int) else(n:Int) % (2 ^ 64:Int))=n
 rw[show (2 ^ 64:Int)=18446744073709551616 from rfl]
 simp only[Bool.false_and,Bool.false_eq_true,if_false]
 omega
theorem fits_u64 {n:Nat} (h:n < 18446744073709551616):fitsK .u64 n=true:=by
 show Nat.ble n 18446744073709551615=true
 rw[ble_iff];omega
theorem lor_lt {a b:Nat} (h:a < 18446744073709551616) (k:b < 18446744073709551616):a ||| b < 18446744073709551616:=Nat.or_lt_two_pow (n:=64) h k
theorem or_u64 {a b:Nat} (h:a < 18446744073709551616) (k:b < 18446744073709551616):arith .or (.int .u64 (a:Int)) (.int .u64 (b:Int))=some (.int .u64 ((a ||| b:Nat):Int)):=by
 have e:bitI Nat.lor (fun _ a b=>a ||| b) .u64 (a:Int) (b:Int)=((a ||| b:Nat):Int):=by
  show (match fitsK .u64 a&&fitsK .u64 b with | true=>Int.ofNat (Nat.lor a b) | false=>_)=_
  rw[fits_u64 h,fits_u64 k];rfl
 show (match decide (IntKind.u64=IntKind.u64) with | false=>none | true=>mkI .u64 (bitI Nat.lor (fun _ a b=>a ||| b) .u64 (a:Int) (b:Int)))=_
 rw[e,C9,wrap_u64 (lor_lt h k)];rfl
noncomputable def up (c i:Nat):Nat:=c*2 ^ (8*i)
theorem up_lt {c i:Nat} (hc:c < 256) (hi:i < 8):up c i < 18446744073709551616:=by
 unfold up
 have h1:2 ^ (8*i)≤2 ^ 56:=Nat.pow_le_pow_right (by decide) (by omega)
 have h2:c*2 ^ (8*i)≤255*2 ^ 56:=Nat.mul_le_mul (by omega) h1
 exact Nat.lt_of_le_of_lt h2 (by decide)
theorem shl_u64 {c i:Nat} (hc:c < 256) (hi:i < 8):arith .shl (.int .u64 (c:Int)) (.int .i64 ((8*i:Nat):Int))=some (.int .u64 ((up c i:Nat):Int)):=by
 have hm:min (8*i) 64=8*i:=by omega
 show mkI .u64 (mulI (c:Int) (.ofNat (Nat.pow 2 (min (8*i) 64))))=_
 rw[hm,C9]
 show some (V.int .u64 (IntKind.u64.wrap ((c*2 ^ (8*i):Nat):Int)))=_
 have:=up_lt hc hi
 unfold up at this
 rw[wrap_u64 this]
 rfl
noncomputable def leN (c:Nat→Nat):Nat→Nat
 | 0=>0
 | i+1=>leN c i ||| up (c i) i
theorem leN_lt {c:Nat→Nat}:∀ {n:Nat},n≤8→(∀ i,i < n→c i < 256)→leN c n < 18446744073709551616
 | 0,_,_=>by show 0 < _;decide
 | n+1,h,hc=>lor_lt (leN_lt (by omega) (fun i hi=>hc i (by omega))) (up_lt (hc n (by omega)) (by omega))
theorem bounds_ok {len cap a b:Nat} (h1:a≤b) (h2:b≤cap):bounds len cap (some (.int .i64 (a:Int))) (some (.int .i64 (b:Int))) none=some (a,b,cap):=by
 have b1:bound cap (.int .i64 (b:Int))=some b:=by
  show (match Nat.ble b cap with | true=>some b | false=>none)=_
  rw[ble_iff.2 (by omega)]
 have b2:bound b (.int .i64 (a:Int))=some a:=by
  show (match Nat.ble a b with | true=>some a | false=>none)=_
  rw[ble_iff.2 (by omega)]
 unfold bounds
 simp only[boundD,b1,b2]
theorem wrap_nat {n:Nat} (h:n < 9223372036854775808):IntKind.i64.wrap (n:Int)=n:=wrap_i64 (by omega)
theorem nget_ok {H:Heap} {p:Ptr} {len cap loose a sz:Nat} {c:Nat→Nat} (hs:1≤sz∧sz≤8) (ha:a+sz≤len) (hc:len≤cap) (hm:cap < 1000000) (hl:loose=0∨loose=1) (hb:∀ i,i < sz→c i < 256) (hd:∀ i,i < sz→loadAt H ⟨p.b,p.o+a+i⟩ 1=some [.int .u8 (c i:Int)]) (lf n:Nat) (hlf:9 < lf) :
  callS Tryz.prog S0 lf (n+1) 256 [.slice (some p) len cap loose,.int .i64 (a:Int),.int .i64 (sz:Int)] H=some (.v (.tuple [.int .u64 ((leN c sz:Nat):Int),.int .i64 0]),H):=by
 obtain⟨v,H',e,rfl,rfl⟩:ret (callS Tryz.prog S0 lf (n+1) 256 [.slice (some p) len cap loose,.int .i64 (a:Int),.int .i64 (sz:Int)] H) fun v H'=>v=.tuple [.int .u64 ((leN c sz:Nat):Int),.int .i64 0]∧H'=H:=by
  refine ret_call rfl c256_eq ?_
  have f1:¬ ((sz:Int) < 1):=by omega
  have f2:¬ ((8:Int) < (sz:Int)):=by omega
  have f3:¬ ((a:Int) < 0):=by omega
  have f4:¬ ((len:Int) < (a:Int)):=by omega
  have w1:IntKind.i64.wrap ((len:Int) - (a:Int))=((len - a:Nat):Int):=by rw[wrap_i64 (by omega)];omega
  have f5:¬ (((len - a:Nat):Int) < (sz:Int)):=by omega
  obtain⟨e,he⟩:∃ e,e=a+sz:=⟨_,rfl⟩
  have w2:IntKind.i64.wrap ((a:Int)+(sz:Int))=(e:Int):=by rw[wrap_i64 (by omega)];omega
  have bb:bounds len cap (some (.int .i64 (a:Int))) (some (.int .i64 (e:Int))) none=some (a,e,cap):=bounds_ok (by omega) (by omega)
  have hsz:e - a=sz:=by omega
  have ne:¬ (cap=a):=by omega
  have le:a+1≤cap:=by omega
  have hloop:∀ t:T,t.getP (Tr.path 8)=some (.int .u64 0)→t.getP (Tr.path 40)=some (.slice (some ⟨p.b,p.o+a⟩) sz (cap - a) loose)→t.getP (Tr.path 41)=some (.int .i64 (sz:Int))→t.getP (Tr.path 42)=some (.int .i64 0) →
    wp (loopF (runC (callS Tryz.prog S0 lf n) lf c256_l0) lf ⟨t,H,[]⟩) fun x s=>x=.ex 1∧s.d=[]∧s.H=H∧s.t.getP (Tr.path 8)=some (.int .u64 ((leN c sz:Nat):Int)):=by
   intro t q8 q40 q41 q42
   refine wp_loopF (fun k s=>∃ i:Nat,k=sz - i∧i≤sz∧s.d=[]∧s.H=H∧s.t.getP (Tr.path 8)=some (.int .u64 ((leN c i:Nat):Int))∧s.t.getP (Tr.path 40)=some (.slice (some ⟨p.b,p.o+a⟩) sz (cap - a) loose)∧s.t.getP (Tr.path 41)=some (.int .i64 (sz:Int))∧s.t.getP (Tr.path 42)=some (.int .i64 (i:Int))) ?_ lf sz _ ⟨0,rfl,by omega,rfl,rfl,q8,q40,q41,q42⟩ (by omega)
   rintro k ⟨t,HH,d⟩ ⟨i,rfl,hi,hd',hH,q8,q40,q41,q42⟩
   dsimp only at hd' hH q8 q40 q41 q42
   subst hd';subst hH
   by_cases hlt:i < sz
   ·have hlt':(i:Int) < (sz:Int):=by omega
    have hle':i+1≤sz:=hlt
    have lk:=hd i hlt
    have w3:IntKind.i64.wrap ((i:Int)+1)=((i+1:Nat):Int):=by rw[wrap_i64 (by omega)];omega
    have w4:IntKind.i64.wrap (8*(i:Int))=((8*i:Nat):Int):=by rw[wrap_i64 (by omega)];omega
    have w5:IntKind.u64.wrap (c i:Int)=(c i:Int):=wrap_u64 (by have:=hb i hlt;omega)
    have hsh:=shl_u64 (hb i hlt) (show i < 8 by omega)
    have hor:=or_u64 (leN_lt (c:=c) (n:=i) (by omega) (fun j hj=>hb j (by omega))) (up_lt (hb i hlt) (show i < 8 by omega))
    change _=some (V.int .u64 ((leN c (i+1):Nat):Int)) at hor
    simp only[c256_l0,q8,q40,q41,q42,hlt',hle',w3,w4,w5,lk,arith_mul,hsh,hor,Nat.mul_one,sy,tup,↓reduceIte,zA,zG,zC,zD,zF,zE,zB,zH,reduceCtorEq]
    exact⟨sz - (i+1),by omega,i+1,rfl,by omega,trivial,trivial,rfl,trivial,trivial,by simp⟩
   ·have:i=sz:=by omega
    subst this
    simp only[c256_l0,q8,q40,q41,q42,Nat.lt_irrefl,Int.lt_irrefl,sy,tup,↓reduceIte,zA,zG,zC,zD,zF,zE,zB,zH,reduceCtorEq]
    exact⟨trivial,trivial,trivial,trivial⟩
  rcases hl with rfl | rfl
  ·simp only[c256,f1,f2,f3,f4,f5,w1,w2,bb,hsz,ne,le,Nat.mul_one,sy,tup,↓reduceIte,zA,zG,zC,zD,zF,zE,zB,zH,reduceCtorEq]
   refine wp_ctx (F:=fun r=>seqC _ _ _ (blockC _ r)) (hloop _ ?_ ?_ ?_ ?_) ?_
   ·simp only[sy,tup,↓reduceIte,zA,zG,zC,zD,zF,zE,zB,zH,reduceCtorEq]
   ·simp only[sy,tup,↓reduceIte,zA,zG,zC,zD,zF,zE,zB,zH,reduceCtorEq]
   ·simp only[sy,tup,↓reduceIte,zA,zG,zC,zD,zF,zE,zB,zH,reduceCtorEq]
   ·simp only[sy,tup,↓reduceIte,zA,zG,zC,zD,zF,zE,zB,zH,reduceCtorEq]
   rintro x ⟨t,HH,d⟩ ⟨rfl,hd',hH,q8⟩
   dsimp only at hd' hH q8
   subst hd';subst hH
   simp only[q8,sy,tup,↓reduceIte,zA,zG,zC,zD,zF,zE,zB,zH,reduceCtorEq]
   simp
  ·simp only[c256,f1,f2,f3,f4,f5,w1,w2,bb,hsz,ne,le,Nat.mul_one,sy,tup,↓reduceIte,zA,zG,zC,zD,zF,zE,zB,zH,reduceCtorEq]
   refine wp_ctx (F:=fun r=>seqC _ _ _ (blockC _ r)) (hloop _ ?_ ?_ ?_ ?_) ?_
   ·simp only[sy,tup,↓reduceIte,zA,zG,zC,zD,zF,zE,zB,zH,reduceCtorEq]
   ·simp only[sy,tup,↓reduceIte,zA,zG,zC,zD,zF,zE,zB,zH,reduceCtorEq]
   ·simp only[sy,tup,↓reduceIte,zA,zG,zC,zD,zF,zE,zB,zH,reduceCtorEq]
   ·simp only[sy,tup,↓reduceIte,zA,zG,zC,zD,zF,zE,zB,zH,reduceCtorEq]
   rintro x ⟨t,HH,d⟩ ⟨rfl,hd',hH,q8⟩
   dsimp only at hd' hH q8
   subst hd';subst hH
   simp only[q8,sy,tup,↓reduceIte,zA,zG,zC,zD,zF,zE,zB,zH,reduceCtorEq]
   simp
 exact e
end Go.Proofs.YtabebpemfinejaaGreat.draft
namespace Go.Proofs.YtabebpemfinejaaGreat.draft
open Go.Am
noncomputable def c225:CFn:=⟨[.tmp (pp 2)],
 .seq (.reg [
 qo 2 (.p (S.get (.c (.int .u32 0)))) []]) (
 .seq (.reg [
 mv 3 0,
 qo 4 (.c (callF (ff 240) [(.c (.int .u32 0)),(tt 3)])) [pp 3],
 mv 2 4]) (
 .ret))⟩
theorem c225_eq:fnOf Tryz.prog 225=some c225:=by kernel_rfl
noncomputable def c240_l0:C:=.seq (.reg [
 qo 13 (.p (arF .lss (tt 12) (tt 11))) [pp 12,pp 11]]) (
 .seq (.cond (tt 13) (.skip) (.exit 0)) (
 .seq (.block 1 (.seq (.reg [
 qo 14 (.p (iaddrSF (tt 10) (tt 12) 1)) [pp 10,pp 12],
 qo 15 (.r (loadF (tt 14) 1 .sc)) [pp 14],
 mv 7 15]) (
 .reg [
 mv 16 5,
 mv 17 7,
 qo 18 (.c (callF (ff 251) [(tt 16),(tt 17)])) [pp 16,pp 17],
 mv 5 18]))) (
 .reg [
 qo 19 (.p (arF .add (tt 12) (ii 1))) [pp 12],
 mv 12 19])))
noncomputable def c240:CFn:=⟨[.tmp (pp 4)],
 .seq (.reg [
 qo 4 (.p (S.get (.c (.int .u32 0)))) []]) (
 .seq (.reg [
 mv 8 0,
 qo 9 (.p (unF .xor (tt 8))) [pp 8],
 mv 5 9]) (
 .seq (.seq (.reg [
 mv 10 1,
 qo 11 (.p (lenF (tt 10))) [pp 10],
 qo 12 (.p (S.get (ii 0))) []]) (
 .block 0 (.loop c240_l0))) (
 .seq (.reg [
 mv 20 5,
 qo 21 (.p (unF .xor (tt 20))) [pp 20],
 mv 4 21]) (
 .ret))))⟩
theorem c240_eq:fnOf Tryz.prog 240=some c240:=by kernel_rfl
noncomputable def c257:CFn:=⟨[.tmp (pp 2)],
 .seq (.reg [
 qo 2 (.p (S.get (.c (.slice none 0 0 0)))) []]) (
 .seq (.seq (.reg [
 mv 3 0,
 qo 4 (.r (eqnF false .slice (tt 3) (.c (.slice none 0 0 0)))) [pp 3]]) (
 .cond (tt 4) (.seq (.reg [
 qo 2 (.p (S.get (.c (.slice none 0 0 0)))) []]) (
 .ret)) (.skip))) (
 .seq (.reg [
 qo 5 (.m (bsliceF 0 1 [.int .u8 0] [])) [],
 mv 6 0,
 qo 7 (.a (appF 1 1 (tt 5) (tt 6))) [pp 5,pp 6],
 mv 2 7]) (
 .ret)))⟩
theorem c257_eq:fnOf Tryz.prog 257=some c257:=by kernel_rfl
noncomputable def c246:CFn:=⟨[.tmp (pp 2),.tmp (pp 3),.tmp (pp 4)],
 .seq (.reg [
 qo 1 (.m (boxF 64 (tt 0))) [pp 0],
 qo 2 (.p (S.get (.c (.int .u64 0)))) [],
 qo 3 (.p (S.get (.c (.slice none 0 0 0)))) [],
 qo 4 (.p (S.get (ii 0))) []]) (
 .seq (.reg [
 qo 12 (.p (sliceAF 64 1 (tt 1) none none none)) [pp 1],
 qo 13 (.c (callF (ff 256) [(tt 12),(ii 0),(ii 8)])) [pp 12],
 mv 11 13,
 qo 14 (.p (extF (tt 11) 0)) [pp 11],
 qo 15 (.p (extF (tt 11) 1)) [pp 11],
 mv 5 14,
 mv 6 15]) (
 .seq (.reg [
 qo 17 (.p (sliceAF 64 1 (tt 1) none none none)) [pp 1],
 qo 18 (.c (callF (ff 256) [(tt 17),(ii 56),(ii 8)])) [pp 17],
 mv 16 18,
 qo 19 (.p (extF (tt 16) 0)) [pp 16],
 qo 20 (.p (extF (tt 16) 1)) [pp 16],
 mv 7 19,
 mv 8 20]) (
 .seq (.seq (.reg [
 mv 21 5,
 qo 22 (.p (eqcF false false [.int .u64] (tt 21) (.c (.int .u64 0)))) [pp 21],
 mv 23 22,
 mg 24 5 23 false,
 mg 25 7 23 false,
 qg 26 (.p (eqcF true false [.int .u64] (tt 24) (tt 25))) 23 false [pp 24,pp 25],
 qo 27 (.p (pickF (tt 23) (.c (.bool true)) (tt 26))) [pp 23,pp 26]]) (
 .cond (tt 27) (.seq (.reg [
 qo 2 (.p (S.get (.c (.int .u64 0)))) [],
 qo 3 (.p (S.get (.c (.slice none 0 0 0)))) [],
 qo 4 (.p (S.get (ii 5))) []]) (
 .ret)) (.skip))) (
 .seq (.seq (.reg [
 qo 29 (.p (sliceAF 64 1 (tt 1) none none none)) [pp 1],
 qo 30 (.c (callF (ff 256) [(tt 29),(ii 52),(ii 4)])) [pp 29],
 mv 28 30,
 qo 31 (.p (extF (tt 28) 0)) [pp 28],
 qo 32 (.p (extF (tt 28) 1)) [pp 28],
 mv 9 31,
 mv 10 32]) (
 .seq (.reg [
 qo 33 (.p (sliceAF 64 1 (tt 1) none (some (ii 52)) (some (ii 52)))) [pp 1],
 qo 34 (.c (callF (ff 225) [(tt 33)])) [pp 33],
 qo 35 (.p (convF .u64 (tt 34))) [pp 34],
 mv 36 9,
 qo 37 (.p (eqcF true false [.int .u64] (tt 35) (tt 36))) [pp 35,pp 36]]) (
 .cond (tt 37) (.seq (.reg [
 qo 2 (.p (S.get (.c (.int .u64 0)))) [],
 qo 3 (.p (S.get (.c (.slice none 0 0 0)))) [],
 qo 4 (.p (S.get (ii 6))) []]) (
 .ret)) (.skip)))) (
 .seq (.reg [
 mv 38 5,
 qo 39 (.p (sliceAF 64 1 (tt 1) (some (ii 8)) (some (ii 52)) (some (ii 52)))) [pp 1],
 qo 40 (.c (callF (ff 257) [(tt 39)])) [pp 39],
 mv 2 38,
 mv 3 40,
 qo 4 (.p (S.get (ii 0))) []]) (
 .ret))))))⟩
theorem c246_eq:fnOf Tryz.prog 246=some c246:=by kernel_rfl
theorem take_ok (H:Heap) {r c:Nat} (hr:r < 4294967296) (hc:c < 256) (lf n:Nat):callS Tryz.prog S0 lf (n+1) 251 [.int .u32 (r:Int),.int .u8 (c:Int)] H=some (.v (.int .u32 ((crc.takeN r c:Nat):Int)),H):=by
 have h:(Nat.ble r 4294967295&&Nat.ble c 255)=true:=by
  rw[ble_iff.2 (by omega:r≤4294967295),ble_iff.2 (by omega:c≤255)];rfl
 show (match (match Nat.ble r 4294967295&&Nat.ble c 255 with | true=>some (Rs.v (.int .u32 (.ofNat (crc.takeN r c))),H) | false=>none) with | some r=>some r | none=>_)=_
 rw[h]
 rfl
theorem take_lt {r c:Nat} (hr:r < 4294967296) (hc:c < 256):crc.takeN r c < 4294967296:=crc.half_lt (crc.half_lt (crc.xor_lt hr (by omega)))
noncomputable def notN (r:Nat):Nat:=crc.xo 4294967295 r
theorem notN_lt {r:Nat} (hr:r < 4294967296):notN r < 4294967296:=crc.xor_lt (by decide) hr
noncomputable def crcN (c:Nat→Nat):Nat→Nat
 | 0=>4294967295
 | i+1=>crc.takeN (crcN c i) (c i)
theorem crcN_lt {c:Nat→Nat}:∀ {n:Nat},(∀ i,i < n→c i < 256)→crcN c n < 4294967296
 | 0,_=>by show 4294967295 < _;decide
 | n+1,hc=>take_lt (crcN_lt (fun i hi=>hc i (by omega))) (hc n (by omega))
theorem not_u32 {r:Nat} (hr:r < 4294967296):unary .xor (.int .u32 (r:Int))=some (.int .u32 ((notN r:Nat):Int)):=by
 have e:bitI Nat.xor (fun _ a b=>a ^^^ b) .u32 (4294967295:Int) (r:Int)=((notN r:Nat):Int):=by
  show (match fitsK .u32 4294967295&&fitsK .u32 r with | true=>Int.ofNat (Nat.xor 4294967295 r) | false=>_)=_
  rw[crc.fits_u32 hr];rfl
 show mkI .u32 (bitI Nat.xor (fun _ a b=>a ^^^ b) .u32 (4294967295:Int) (r:Int))=_
 rw[e,C9,crc.u32_wrap (notN_lt hr)]
theorem crc_ok {H:Heap} {p:Ptr} {len cap loose:Nat} {c:Nat→Nat} (hm:len < 1000000) (hb:∀ i,i < len→c i < 256) (hd:∀ i,i < len→loadAt H ⟨p.b,p.o+i⟩ 1=some [.int .u8 (c i:Int)]) (lf n:Nat) (hlf:len+1 < lf) :
  callS Tryz.prog S0 lf (n+2) 240 [.int .u32 0,.slice (some p) len cap loose] H=some (.v (.int .u32 ((notN (crcN c len):Nat):Int)),H):=by
 obtain⟨v,H',e,rfl,rfl⟩:ret (callS Tryz.prog S0 lf (n+2) 240 [.int .u32 0,.slice (some p) len cap loose] H) fun v H'=>v=.int .u32 ((notN (crcN c len):Nat):Int)∧H'=H:=by
  refine ret_call rfl c240_eq ?_
  have u0:unary .xor (.int .u32 0)=some (.int .u32 4294967295):=by kernel_rfl
  have hloop:∀ t:T,t.getP (Tr.path 5)=some (.int .u32 4294967295)→t.getP (Tr.path 10)=some (.slice (some p) len cap loose)→t.getP (Tr.path 11)=some (.int .i64 (len:Int))→t.getP (Tr.path 12)=some (.int .i64 0) →
    wp (loopF (runC (callS Tryz.prog S0 lf (n+1)) lf c240_l0) lf ⟨t,H,[]⟩) fun x s=>x=.ex 0∧s.d=[]∧s.H=H∧s.t.getP (Tr.path 5)=some (.int .u32 ((crcN c len:Nat):Int)):=by
   intro t q5 q10 q11 q12
   refine wp_loopF (fun k s=>∃ i:Nat,k=len - i∧i≤len∧s.d=[]∧s.H=H∧s.t.getP (Tr.path 5)=some (.int .u32 ((crcN c i:Nat):Int))∧s.t.getP (Tr.path 10)=some (.slice (some p) len cap loose)∧s.t.getP (Tr.path 11)=some (.int .i64 (len:Int))∧s.t.getP (Tr.path 12)=some (.int .i64 (i:Int))) ?_ lf len _ ⟨0,rfl,by omega,rfl,rfl,q5,q10,q11,q12⟩ (by omega)
   rintro k ⟨t,HH,d⟩ ⟨i,rfl,hi,hd',hH,q5,q10,q11,q12⟩
   dsimp only at hd' hH q5 q10 q11 q12
   subst hd';subst hH
   by_cases hlt:i < len
   ·have hlt':(i:Int) < (len:Int):=by omega
    have hle':i+1≤len:=hlt
    have lk:=hd i hlt
    have w3:IntKind.i64.wrap ((i:Int)+1)=((i+1:Nat):Int):=by rw[wrap_i64 (by omega)];omega
    have tk:=take_ok HH (crcN_lt (c:=c) (n:=i) (fun j hj=>hb j (by omega))) (hb i hlt) lf n
    simp only[c240_l0,q5,q10,q11,q12,hlt',hle',w3,lk,tk,Nat.mul_one,sy,tup,↓reduceIte,zA,zG,zC,zD,zF,zE,zB,zH,reduceCtorEq]
    exact⟨len - (i+1),by omega,i+1,rfl,by omega,trivial,trivial,rfl,trivial,trivial,by simp⟩
   ·have:i=len:=by omega
    subst this
    simp only[c240_l0,q5,q10,q11,q12,Nat.lt_irrefl,Int.lt_irrefl,sy,tup,↓reduceIte,zA,zG,zC,zD,zF,zE,zB,zH,reduceCtorEq]
    exact⟨trivial,trivial,trivial,trivial⟩
  have un:=not_u32 (crcN_lt hb)
  simp only[c240,u0,sy,tup,↓reduceIte,zA,zG,zC,zD,zF,zE,zB,zH,reduceCtorEq]
  refine wp_ctx (F:=fun r=>seqC _ _ _ (blockC _ r)) (hloop _ ?_ ?_ ?_ ?_) ?_
  ·simp only[sy,tup,↓reduceIte,zA,zG,zC,zD,zF,zE,zB,zH,reduceCtorEq]
  ·simp only[sy,tup,↓reduceIte,zA,zG,zC,zD,zF,zE,zB,zH,reduceCtorEq]
  ·simp only[sy,tup,↓reduceIte,zA,zG,zC,zD,zF,zE,zB,zH,reduceCtorEq]
  ·simp only[sy,tup,↓reduceIte,zA,zG,zC,zD,zF,zE,zB,zH,reduceCtorEq]
  rintro x ⟨t,HH,d⟩ ⟨rfl,hd',hH,q5⟩
  dsimp only at hd' hH q5
  subst hd';subst hH
  simp only[q5,un,sy,tup,↓reduceIte,zA,zG,zC,zD,zF,zE,zB,zH,reduceCtorEq]
  simp
 exact e
theorem of_ok {H:Heap} {p:Ptr} {len cap loose:Nat} {c:Nat→Nat} (hm:len < 1000000) (hb:∀ i,i < len→c i < 256) (hd:∀ i,i < len→loadAt H ⟨p.b,p.o+i⟩ 1=some [.int .u8 (c i:Int)]) (lf n:Nat) (hlf:len+1 < lf) :
  callS Tryz.prog S0 lf (n+3) 225 [.slice (some p) len cap loose] H=some (.v (.int .u32 ((notN (crcN c len):Nat):Int)),H):=by
 have e1:=crc_ok (cap:=cap) (loose:=loose) hm hb hd lf n hlf
 obtain⟨v,H',e,rfl,rfl⟩:ret (callS Tryz.prog S0 lf (n+3) 225 [.slice (some p) len cap loose] H) fun v H'=>v=.int .u32 ((notN (crcN c len):Nat):Int)∧H'=H:=by
  refine ret_call rfl c225_eq ?_
  simp only[c225,e1,sy,tup,↓reduceIte,zA,zG,zC,zD,zF,zE,zB,zH,reduceCtorEq]
  simp
 exact e
theorem byte_lt (B i:Nat):byte B i < 256:=Nat.mod_lt _ (by decide)
theorem load_byte {H:Heap} {b:Bk} {ro:Bool} {B i:Nat} (h:H.get b=some (.rows ro 64 [[.blk B]])) (hi:i < 64):loadAt H ⟨b,i⟩ 1=some [.int .u8 (byte B i:Int)]:=by
 rw[loadAt_eq h (r:=[.blk B]) (by rw[Nat.div_eq_of_lt hi];rfl),Nat.mod_eq_of_lt hi]
 exact disk.cut_byte B i hi
def rowsB (c:Nat→Nat):Nat→Nat→List (List V)
 | 0,_=>[]
 | n+1,j=>[.int .u8 (c j:Int)]::rowsB c n (j+1)
theorem rowsB_get (c:Nat→Nat):∀ n j i,i < n→(rowsB c n j)[i]?=some [.int .u8 (c (j+i):Int)]
 | n+1,j,0,_=>rfl
 | n+1,j,i+1,h=>by
  have:=rowsB_get c n (j+1) i (by omega)
  rw[show j+1+i=j+(i+1) by omega] at this
  exact this
theorem elems_blk {H:Heap} {b:Bk} {B:Nat} (h:H.get b=some (.rows false 64 [[.blk B]])):∀(n j:Nat),j+n≤64→elems H b 1 n j=some (rowsB (byte B) n j)
 | 0,_,_=>rfl
 | n+1,j,hj=>by
  unfold elems
  rw[load_byte h (show j < 64 by omega)]
  simp only
  rw[show Nat.add j 1=j+1 from rfl,elems_blk h n (j+1) (by omega)]
  rfl
structure BodyAt (H:Heap) (k:Nat) (c:Nat→Nat) (n:Nat):Prop where
 own:H.get (.run k)=some (.rows false 1 (rowsB c n 0))
 old:k < H.next
theorem BodyAt.turns {H H':Heap} {k:Nat} {c:Nat→Nat} {n:Nat} (h:BodyAt H k c n) (t:Turns Z H H'):BodyAt H' k c n:=⟨(t.same (.run k) h.old id).trans h.own,Nat.lt_of_lt_of_le h.old t.next⟩
theorem BodyAt.load {H:Heap} {k:Nat} {c:Nat→Nat} {n i:Nat} (h:BodyAt H k c n) (hi:i < n):loadAt H ⟨.run k,i⟩ 1=some [.int .u8 (c i:Int)]:=by
 rw[loadAt_eq h.own (r:=[.int .u8 (c i:Int)]) (by rw[Nat.div_one,nth_eq,rowsB_get c n 0 i hi,Nat.zero_add]),Nat.mod_one]
 rfl
theorem rowsB_shift (c:Nat→Nat) (a:Nat):∀ n j,rowsB c n (a+j)=rowsB (fun i=>c (a+i)) n j
 | 0,_=>rfl
 | n+1,j=>by
  show _::_=_::_
  rw[show a+j+1=a+(j+1) by omega,rowsB_shift c a n (j+1)]
theorem clone_ok {H:Heap} {b:Bk} {B:Nat} (h:H.get b=some (.rows false 64 [[.blk B]])) (ho:H.Old b) (lf n:Nat):ret (callS Tryz.prog S0 lf (n+1) 257 [.slice (some ⟨b,8⟩) 44 44 0] H) fun v H'=>
  Turns Z H H'∧∃ k,v=.slice (some ⟨.run k,0⟩) 44 44 1∧BodyAt H' k (fun i=>byte B (8+i)) 44∧H.next≤k:=by
 have h1:(H.add (.rows false 1 [])).get b=some (.rows false 64 [[.blk B]]):=((Turns.add Z H (.rows false 1 [])).same b ho id).trans h
 have he:=elems_blk h1 44 8 (by omega)
 have ha:appendV 1 1 (H.add (.rows false 1 [])) (.slice (some ⟨.run H.next,0⟩) 0 0 0) (.slice (some ⟨b,8⟩) 44 44 0)=some (.slice (some ⟨.run (H.next+1),0⟩) 44 44 1,(H.add (.rows false 1 [])).add (.rows false 1 (rowsB (byte B) 44 8))):=by
  have e0:elems (H.add (.rows false 1 [])) (.run H.next) 1 0 0=some []:=rfl
  unfold appendV
  simp only[lenOf,firstE,he,e0]
  rfl
 have hq:eqSl (.slice (some ⟨b,8⟩) 44 44 0) (.slice none 0 0 0)=some false:=rfl
 refine ret_call rfl c257_eq ?_
 simp only[c257,hq,ha,List.replicate_zero,sy,tup,↓reduceIte,zA,zG,zC,zD,zF,zE,zB,zH,reduceCtorEq]
 refine⟨trivial,.inr trivial,_,rfl,(Turns.add Z H _).addm _,H.next+1,rfl,⟨?_,?_⟩,by omega⟩
 ·rw[Heap.get_add,if_pos (by simp)]
  rw[rowsB_shift (byte B) 8 44 0]
 ·show _ < _
  simp
noncomputable def sealN (B:Nat):Nat:=leN (fun i=>byte B (0+i)) 8
noncomputable def sealE (B:Nat):Int:=
 if sealN B=0∨sealN B≠leN (fun i=>byte B (56+i)) 8 then 5
 else if notN (crcN (byte B) 52)≠leN (fun i=>byte B (52+i)) 4 then 6 else 0
theorem sget_ok (H:Heap) (B:Nat) {lf:Nat} (hlf:60 < lf) (n:Nat):ret (callS Tryz.prog S0 lf (n+4) 246 [.blk B] H) fun v H'=>Turns Z H H' ∧
  ((sealE B≠0∧v=.tuple [.int .u64 0,.slice none 0 0 0,.int .i64 (sealE B)])∨(sealE B=0∧∃ k,v=.tuple [.int .u64 ((sealN B:Nat):Int),.slice (some ⟨.run k,0⟩) 44 44 1,.int .i64 0]∧BodyAt H' k (fun i=>byte B (8+i)) 44∧H.next≤k)):=by
 have t1:=Turns.add Z H (.rows false 64 [[.blk B]])
 have hg:(H.add (.rows false 64 [[.blk B]])).get (.run H.next)=some (.rows false 64 [[.blk B]]):=by rw[Heap.get_add,if_pos rfl]
 have ho:(H.add (.rows false 64 [[.blk B]])).Old (.run H.next):=by show _ < _;simp
 generalize hH1:H.add (.rows false 64 [[.blk B]])=H1 at *
 have g1:callS Tryz.prog S0 lf (n+3) 256 [.slice (some ⟨.run H.next,0⟩) 64 64 0,.int .i64 0,.int .i64 8] H1=some (.v (.tuple [.int .u64 ((leN (fun i=>byte B (0+i)) 8:Nat):Int),.int .i64 0]),H1):=nget_ok (H:=H1) (p:=⟨.run H.next,0⟩) (len:=64) (cap:=64) (loose:=0) (a:=0) (sz:=8) (c:=fun i=>byte B (0+i)) (by omega) (by omega) (by omega) (by omega) (.inl rfl) (fun i _=>byte_lt _ _) (fun i hi=>by simpa using load_byte hg (i:=0+i) (by omega)) lf (n+2) (by omega)
 have g2:callS Tryz.prog S0 lf (n+3) 256 [.slice (some ⟨.run H.next,0⟩) 64 64 0,.int .i64 56,.int .i64 8] H1=some (.v (.tuple [.int .u64 ((leN (fun i=>byte B (56+i)) 8:Nat):Int),.int .i64 0]),H1):=nget_ok (H:=H1) (p:=⟨.run H.next,0⟩) (len:=64) (cap:=64) (loose:=0) (a:=56) (sz:=8) (c:=fun i=>byte B (56+i)) (by omega) (by omega) (by omega) (by omega) (.inl rfl) (fun i _=>byte_lt _ _) (fun i hi=>by simpa using load_byte hg (i:=56+i) (by omega)) lf (n+2) (by omega)
 have g3:callS Tryz.prog S0 lf (n+3) 256 [.slice (some ⟨.run H.next,0⟩) 64 64 0,.int .i64 52,.int .i64 4] H1=some (.v (.tuple [.int .u64 ((leN (fun i=>byte B (52+i)) 4:Nat):Int),.int .i64 0]),H1):=nget_ok (H:=H1) (p:=⟨.run H.next,0⟩) (len:=64) (cap:=64) (loose:=0) (a:=52) (sz:=4) (c:=fun i=>byte B (52+i)) (by omega) (by omega) (by omega) (by omega) (.inl rfl) (fun i _=>byte_lt _ _) (fun i hi=>by simpa using load_byte hg (i:=52+i) (by omega)) lf (n+2) (by omega)
 have g4:=of_ok (H:=H1) (p:=⟨.run H.next,0⟩) (len:=52) (cap:=52) (loose:=0) (c:=byte B) (by omega) (fun i _=>byte_lt _ _) (fun i hi=>by simpa using load_byte hg (i:=i) (by omega)) lf n (by omega)
 obtain⟨vb,H2,e2,t2,k,rfl,hb,hk⟩:=clone_ok hg ho lf (n+2)
 have hk':H.next≤k:=Nat.le_trans t1.next hk
 change callS Tryz.prog S0 lf (n+3) 257 _ _=_ at e2
 have l1:leN (fun i=>byte B (0+i)) 8=sealN B:=rfl
 rw[l1] at g1
 generalize hN2:leN (fun i=>byte B (56+i)) 8=n2 at *
 generalize hN3:leN (fun i=>byte B (52+i)) 4=n3 at *
 have hcl:notN (crcN (byte B) 52) < 4294967296:=notN_lt (crcN_lt (fun i _=>byte_lt _ _))
 generalize hN4:notN (crcN (byte B) 52)=n4 at *
 have w4:IntKind.u64.wrap (n4:Int)=(n4:Int):=wrap_u64 (by omega)
 have hE:sealE B=if sealN B=0∨sealN B≠n2 then 5 else if n4≠n3 then 6 else 0:=by unfold sealE;rw[hN2,hN3,hN4]
 rw[hE]
 generalize sealN B=n1 at *
 refine ret_call rfl c246_eq ?_
 by_cases h0:n1=0
 ·subst h0
  have z0:(((0:Nat):Int)==0)=true:=rfl
  simp only[c246,hH1,g1,g2,g3,g4,z0,sliceAF,oget,bounds,boundD,sy,tup,↓reduceIte,zA,zG,zC,zD,zF,zE,zB,zH,reduceCtorEq]
  refine⟨trivial,.inr trivial,_,rfl,t1,.inl ⟨by simp,by simp⟩⟩
 ·have z0:((n1:Int)==0)=false:=by simpa using h0
  by_cases h1:n1=n2
  ·subst h1
   by_cases h2:n4=n3
   ·subst h2
    have b1:bound 52 (.int .i64 52)=some 52:=rfl
    have b2:bound 64 (.int .i64 52)=some 52:=rfl
    have b3:bound 52 (.int .i64 8)=some 8:=rfl
    have m1:Nat.beq 52 0=false:=rfl
    have m2:Nat.beq 52 8=false:=rfl
    simp only[c246,hH1,g1,g2,g3,g4,z0,w4,e2,b1,b2,b3,m1,m2,sliceAF,oget,bounds,boundD,bne_self_eq_false,sy,tup,↓reduceIte,zA,zG,zC,zD,zF,zE,zB,zH,reduceCtorEq]
    refine⟨trivial,.inr trivial,_,rfl,t1.trans t2,.inr ⟨by simp[h0],k,rfl,hb,hk'⟩⟩
   ·have z2:((n4:Int)==(n3:Int))=false:=by simpa using (fun e=>h2 (Int.ofNat.inj e))
    have b1:bound 52 (.int .i64 52)=some 52:=rfl
    have b2:bound 64 (.int .i64 52)=some 52:=rfl
    simp only[c246,hH1,g1,g2,g3,g4,z0,z2,w4,b1,b2,sliceAF,oget,bounds,boundD,sy,tup,↓reduceIte,zA,zG,zC,zD,zF,zE,zB,zH,reduceCtorEq]
    refine⟨trivial,.inr trivial,_,rfl,t1,.inl ⟨by simp[h0,h2],by simp[h0,h2]⟩⟩
  ·have z1:((n1:Int)==(n2:Int))=false:=by simpa using (fun e=>h1 (Int.ofNat.inj e))
   simp only[c246,hH1,g1,g2,g3,g4,z0,z1,sliceAF,oget,bounds,boundD,sy,tup,↓reduceIte,zA,zG,zC,zD,zF,zE,zB,zH,reduceCtorEq]
   refine⟨trivial,.inr trivial,_,rfl,t1,.inl ⟨by simp[h1],by simp[h1]⟩⟩
end Go.Proofs.YtabebpemfinejaaGreat.draft
namespace Go.Proofs.YtabebpemfinejaaGreat.draft
open Go.Am
noncomputable def c223_l0:C:=.seq (.reg [
 qo 13 (.p (arF .lss (tt 12) (ii 16))) [pp 12]]) (
 .seq (.cond (tt 13) (.skip) (.exit 0)) (
 .seq (.block 1 (.seq (.reg [
 mv 14 12,
 qo 15 (.p (idxAF (tt 11) (tt 12) 16 1 .sc)) [pp 11,pp 12],
 mv 4 14,
 mv 5 15]) (
 .block 2 (.seq (.seq (.reg [
 mv 17 5,
 qo 18 (.p (arF .gtr (tt 17) (.c (.int .u8 2)))) [pp 17],
 mv 16 18]) (
 .cond (tt 16) (.skip) (.reg [
 mv 19 4,
 qo 20 (.p (faddrF (tt 1) 0)) [pp 1],
 qo 21 (.p (faddrF (tt 20) 0)) [pp 20],
 qo 22 (.r (loadF (tt 21) 1 .sc)) [pp 21],
 qo 23 (.p (arF .geq (tt 19) (tt 22))) [pp 19,pp 22],
 mv 24 23,
 mg 25 5 24 true,
 qg 26 (.p (eqcF true false [.int .u8] (tt 25) (.c (.int .u8 0)))) 24 true [pp 25],
 qo 27 (.p (pickF (tt 24) (tt 26) (.c (.bool false)))) [pp 24,pp 26],
 mv 16 27]))) (
 .cond (tt 16) (.seq (.reg [
 qo 2 (.p (S.get (.c (.bool false)))) []]) (
 .ret)) (.seq (.reg [
 mv 29 5,
 qo 30 (.p (eqcF false false [.int .u8] (tt 29) (.c (.int .u8 2)))) [pp 29],
 mv 28 30]) (
 .cond (tt 28) (.reg [
 mv 31 3,
 qo 32 (.p (arF .add (tt 31) (ii 1))) [pp 31],
 mv 3 32]) (.skip)))))))) (
 .reg [
 qo 33 (.p (arF .add (tt 12) (ii 1))) [pp 12],
 mv 12 33])))
noncomputable def c223:CFn:=⟨[.tmp (pp 2)],
 .seq (.reg [
 qo 1 (.m (boxF 21 (tt 0))) [pp 0],
 qo 2 (.p (S.get (.c (.bool false)))) []]) (
 .seq (.seq (.reg [
 qo 6 (.p (faddrF (tt 1) 0)) [pp 1],
 qo 7 (.r (loadF (tt 6) 3 .ag)) [pp 6],
 qo 8 (.c (callF (ff 89) [(tt 7)])) [pp 7],
 qo 9 (.p (unF .not (tt 8))) [pp 8]]) (
 .cond (tt 9) (.seq (.reg [
 qo 2 (.p (S.get (.c (.bool false)))) []]) (
 .ret)) (.skip))) (
 .seq (.reg [
 qo 3 (.p (S.get (ii 0))) []]) (
 .seq (.seq (.reg [
 qo 10 (.p (faddrF (tt 1) 3)) [pp 1],
 qo 11 (.r (loadF (tt 10) 16 .ag)) [pp 10],
 qo 12 (.p (S.get (ii 0))) []]) (
 .block 0 (.loop c223_l0))) (
 .seq (.reg [
 mv 34 3,
 qo 35 (.p (arF .leq (tt 34) (ii 1))) [pp 34],
 mv 36 35,
 qg 37 (.p (faddrF (tt 1) 19)) 36 true [pp 1],
 qg 38 (.r (loadF (tt 37) 1 .sc)) 36 true [pp 37],
 qg 39 (.p (arF .geq (tt 38) (ii 0))) 36 true [pp 38],
 qo 40 (.p (pickF (tt 36) (tt 39) (.c (.bool false)))) [pp 36,pp 39],
 mv 41 40,
 qg 42 (.p (faddrF (tt 1) 19)) 41 true [pp 1],
 qg 43 (.r (loadF (tt 42) 1 .sc)) 41 true [pp 42],
 qg 44 (.p (faddrF (tt 1) 0)) 41 true [pp 1],
 qg 45 (.p (faddrF (tt 44) 1)) 41 true [pp 44],
 qg 46 (.r (loadF (tt 45) 1 .sc)) 41 true [pp 45],
 qg 47 (.p (arF .lss (tt 43) (tt 46))) 41 true [pp 43,pp 46],
 qo 48 (.p (pickF (tt 41) (tt 47) (.c (.bool false)))) [pp 41,pp 47],
 mv 49 48,
 mg 50 3 49 true,
 qg 51 (.p (eqcF false false [.int .i64] (tt 50) (ii 1))) 49 true [pp 50],
 mg 52 51 49 true,
 qg 53 (.p (faddrF (tt 1) 19)) 52 false [pp 1],
 qg 54 (.r (loadF (tt 53) 1 .sc)) 52 false [pp 53],
 qg 55 (.p (eqcF false false [.int .i64] (tt 54) (ii 0))) 52 false [pp 54],
 qg 56 (.p (pickF (tt 52) (.c (.bool true)) (tt 55))) 49 true [pp 52,pp 55],
 qo 57 (.p (pickF (tt 49) (tt 56) (.c (.bool false)))) [pp 49,pp 56],
 mv 2 57]) (
 .ret)))))⟩
theorem c223_eq:fnOf Tryz.prog 223=some c223:=by kernel_rfl
noncomputable def c181:CFn:=⟨[.tmp (pp 2)],
 .seq (.reg [
 qo 1 (.m (boxF 23 (tt 0))) [pp 0],
 qo 2 (.p (S.get (.c (.bool false)))) []]) (
 .seq (.reg [
 qo 3 (.p (faddrF (tt 1) 0)) [pp 1],
 qo 4 (.r (loadF (tt 3) 1 .sc)) [pp 3],
 qo 5 (.p (eqcF true false [.int .u64] (tt 4) (.c (.int .u64 0)))) [pp 4],
 mv 6 5,
 qg 7 (.p (faddrF (tt 1) 1)) 6 true [pp 1],
 qg 8 (.r (loadF (tt 7) 1 .sc)) 6 true [pp 7],
 qg 9 (.p (arF .geq (tt 8) (ii 0))) 6 true [pp 8],
 qo 10 (.p (pickF (tt 6) (tt 9) (.c (.bool false)))) [pp 6,pp 9],
 mv 11 10,
 qg 12 (.p (faddrF (tt 1) 1)) 11 true [pp 1],
 qg 13 (.r (loadF (tt 12) 1 .sc)) 11 true [pp 12],
 qg 14 (.p (faddrF (tt 1) 2)) 11 true [pp 1],
 qg 15 (.p (faddrF (tt 14) 0)) 11 true [pp 14],
 qg 16 (.p (faddrF (tt 15) 0)) 11 true [pp 15],
 qg 17 (.r (loadF (tt 16) 1 .sc)) 11 true [pp 16],
 qg 18 (.p (arF .lss (tt 13) (tt 17))) 11 true [pp 13,pp 17],
 qo 19 (.p (pickF (tt 11) (tt 18) (.c (.bool false)))) [pp 11,pp 18],
 mv 20 19,
 qg 21 (.p (faddrF (tt 1) 2)) 20 true [pp 1],
 qg 22 (.r (loadF (tt 21) 21 .ag)) 20 true [pp 21],
 qg 23 (.c (callF (ff 223) [(tt 22)])) 20 true [pp 22],
 qo 24 (.p (pickF (tt 20) (tt 23) (.c (.bool false)))) [pp 20,pp 23],
 mv 2 24]) (
 .ret))⟩
theorem c181_eq:fnOf Tryz.prog 181=some c181:=by kernel_rfl
noncomputable def c180:CFn:=⟨[.tmp (pp 2)],
 .seq (.reg [
 qo 2 (.p (S.get (.c (.bool false)))) []]) (
 .seq (.reg [
 mv 3 0,
 qo 4 (.p (arF .geq (tt 3) (.c (.int .u64 1)))) [pp 3],
 mv 5 4,
 mg 6 0 5 true,
 qg 7 (.p (arF .leq (tt 6) (.c (.int .u64 4611686018427387904)))) 5 true [pp 6],
 qo 8 (.p (pickF (tt 5) (tt 7) (.c (.bool false)))) [pp 5,pp 7],
 mv 2 8]) (
 .ret))⟩
theorem c180_eq:fnOf Tryz.prog 180=some c180:=by kernel_rfl
theorem sfine_ok (H:Heap) {m s r c:Int} {g:Bool} {S:List Nat} (hS:S.length=16) (lf n:Nat) (hlf:17 < lf):ret (callS Tryz.prog S0 lf (n+3) 223 [ros m s r S c g] H) fun v H'=>(∃ z:Bool,v=.bool z∧(z=true↔fine m s r S c))∧Turns Z H H':=by
 have t1:=Turns.add Z H (.rows false 21 [rcells m s r S c g])
 have hg:(H.add (.rows false 21 [rcells m s r S c g])).get (.run H.next)=some (.rows false 21 [rcells m s r S c g]):=by rw[Heap.get_add,if_pos rfl]
 have og:(H.add (.rows false 21 [rcells m s r S c g])).Old (.run H.next):=by show _ < _;simp
 have hr:∀ {H':Heap},Turns Z (H.add (.rows false 21 [rcells m s r S c g])) H'→RosAt H' (.run H.next) m s r S c g:=fun t=>⟨(t.same _ og id).trans hg,hS⟩
 have lg:=ros_geo (hr (Turns.refl Z _))
 have hw:=r_width hS m s r c g
 generalize hH1:H.add (.rows false 21 [rcells m s r S c g])=H1 at *
 obtain⟨v,H2,e2,rfl,t2⟩:=may_ok H1 m s r lf n
 unfold geo at e2
 refine ret_call rfl c223_eq ?_
 cases hm:may m s r with
 | false=>
  rw[hm] at e2
  simp only[c223,ros,hw,hH1,lg,e2,sy,tup,↓reduceIte,zA,zG,zC,zD,zF,zE,zB,zH,reduceCtorEq]
  exact⟨trivial,.inr trivial,_,rfl,⟨false,rfl,by unfold fine;rw[hm];simp⟩,t1.trans t2⟩
 | true=>
  rw[hm] at e2
  have hr2:=hr t2
  have l0:=ros_m hr2
  have lS:=ros_sts hr2
  simp only[c223,ros,hw,hH1,lg,e2,lS,sy,tup,↓reduceIte,zA,zG,zC,zD,zF,zE,zB,zH,reduceCtorEq]
  have hloop:∀ t:T,t.getP (Tr.path 1)=some (.ptr (some ⟨.run H.next,0⟩))→t.getP (Tr.path 3)=some (.int .i64 0)→t.getP (Tr.path 11)=some (.agg (sts S))→t.getP (Tr.path 12)=some (.int .i64 0) →
    wp (loopF (runC (callS Tryz.prog S0 lf (n+2)) lf c223_l0) lf ⟨t,H2,[]⟩) fun x' s'=>s'.d=[]∧s'.H=H2∧((x'=.ex 0∧okTo m S 16∧s'.t.getP (Tr.path 1)=some (.ptr (some ⟨.run H.next,0⟩))∧s'.t.getP (Tr.path 3)=some (.int .i64 (cnt S 2:Int))) ∨
     (x'=.ret∧¬ okTo m S 16∧s'.t.getP (Tr.path 2)=some (.bool false))):=by
   intro t q1 q3 q11 q4
   refine wp_loopF (fun j s'=>∃ i:Nat,j=16 - i∧i≤16∧s'.d=[]∧s'.H=H2∧okTo m S i∧s'.t.getP (Tr.path 1)=some (.ptr (some ⟨.run H.next,0⟩))∧s'.t.getP (Tr.path 3)=some (.int .i64 (cnt (S.take i) 2:Int))∧s'.t.getP (Tr.path 11)=some (.agg (sts S))∧s'.t.getP (Tr.path 12)=some (.int .i64 (i:Int))) ?_ lf 16 _ ⟨0,rfl,by omega,rfl,rfl,fun j hj=>absurd hj (by omega),q1,q3,q11,q4⟩ (by omega)
   rintro j ⟨t,HH,d⟩ ⟨i,rfl,hi,hd,hH,hok,q1,q3,q11,q4⟩
   dsimp only at hd hH q1 q3 q11 q4
   subst hd;subst hH
   by_cases hlt:i < 16
   ·have hlt':(i:Int) < 16:=by omega
    have hle':i+1≤16:=hlt
    have hiS:i < S.length:=by omega
    have hget:S[i]?=some S[i]:=List.getElem?_eq_getElem hiS
    have lx:=sts_cut hiS
    have hn:=cnt_le (S.take i) 2
    rw[List.length_take] at hn
    have w1:IntKind.i64.wrap ((i:Int)+1)=((i+1:Nat):Int):=by rw[wrap_i64 (by omega)];omega
    have w2:IntKind.i64.wrap ((cnt (S.take i) 2:Int)+1)=((cnt (S.take i) 2+1:Nat):Int):=by rw[wrap_i64 (by omega)];omega
    have hk:=cnt_take (x:=2) hiS
    by_cases h2:2 < S[i]
    ·have h2':(2:Int) < ((S[i]:Nat):Int):=by omega
     simp only[c223_l0,q1,q3,q11,q4,hlt',hle',lx,h2',sy,tup,↓reduceIte,zA,zG,zC,zD,zF,zE,zB,zH,reduceCtorEq]
     refine⟨trivial,trivial,.inr ⟨trivial,fun h=>?_,trivial⟩⟩
     have:=(h i hlt _ hget).1
     omega
    ·have h2':¬ (2:Int) < ((S[i]:Nat):Int):=by omega
     by_cases hmi:m≤(i:Int)
     ·by_cases h0:S[i]=0
      ·have hb0:(((S[i]:Nat):Int)==0)=true:=by simp[h0]
       have hb2:(((S[i]:Nat):Int)==2)=false:=by simp[h0]
       rw[if_neg (by omega),Nat.add_zero] at hk
       simp only[c223_l0,q1,q3,q11,q4,hlt',hle',lx,l0,h2',hmi,hb0,hb2,w1,sy,tup,↓reduceIte,zA,zG,zC,zD,zF,zE,zB,zH,reduceCtorEq]
       exact⟨16 - (i+1),by omega,i+1,rfl,by omega,trivial,trivial,okTo_succ hok hget ⟨by omega,fun _=>h0⟩,by simp[q1],by simp[q3,hk],by simp[q11],by simp⟩
      ·have hb0:(((S[i]:Nat):Int)==0)=false:=by simp;omega
       simp only[c223_l0,q1,q3,q11,q4,hlt',hle',lx,l0,h2',hmi,hb0,sy,tup,↓reduceIte,zA,zG,zC,zD,zF,zE,zB,zH,reduceCtorEq]
       refine⟨trivial,trivial,.inr ⟨trivial,fun h=>?_,trivial⟩⟩
       exact h0 ((h i hlt _ hget).2 hmi)
     ·by_cases e2:S[i]=2
      ·have hb2:(((S[i]:Nat):Int)==2)=true:=by simp[e2]
       rw[if_pos e2] at hk
       simp only[c223_l0,q1,q3,q11,q4,hlt',hle',lx,l0,h2',hmi,hb2,w1,w2,sy,tup,↓reduceIte,zA,zG,zC,zD,zF,zE,zB,zH,reduceCtorEq]
       exact⟨16 - (i+1),by omega,i+1,rfl,by omega,trivial,trivial,okTo_succ hok hget ⟨by omega,fun h=>absurd h hmi⟩,by simp[q1],by simp[hk],by simp[q11],by simp⟩
      ·have hb2:(((S[i]:Nat):Int)==2)=false:=by simp;omega
       rw[if_neg e2,Nat.add_zero] at hk
       simp only[c223_l0,q1,q3,q11,q4,hlt',hle',lx,l0,h2',hmi,hb2,w1,sy,tup,↓reduceIte,zA,zG,zC,zD,zF,zE,zB,zH,reduceCtorEq]
       exact⟨16 - (i+1),by omega,i+1,rfl,by omega,trivial,trivial,okTo_succ hok hget ⟨by omega,fun h=>absurd h hmi⟩,by simp[q1],by simp[q3,hk],by simp[q11],by simp⟩
   ·have:i=16:=by omega
    subst this
    have hnl:decide (((16:Nat):Int) < 16)=false:=rfl
    rw[List.take_of_length_le (by omega)] at q3
    simp only[c223_l0,q1,q3,q11,q4,hnl,sy,tup,↓reduceIte,zA,zG,zC,zD,zF,zE,zB,zH,reduceCtorEq]
    exact⟨trivial,trivial,.inl ⟨trivial,hok,by first | trivial | exact q1,by first | trivial | exact q3⟩⟩
  refine wp_ctx (F:=fun r=>seqC _ _ _ (blockC _ r)) (hloop _ ?_ ?_ ?_ ?_) ?_
  ·simp only[sy,tup,↓reduceIte,zA,zG,zC,zD,zF,zE,zB,zH,reduceCtorEq]
  ·simp only[sy,tup,↓reduceIte,zA,zG,zC,zD,zF,zE,zB,zH,reduceCtorEq]
  ·simp only[sy,tup,↓reduceIte,zA,zG,zC,zD,zF,zE,zB,zH,reduceCtorEq]
  ·simp only[sy,tup,↓reduceIte,zA,zG,zC,zD,zF,zE,zB,zH,reduceCtorEq]
  rintro x' ⟨t,HH,d⟩ ⟨hd,hH,⟨rfl,hok,q1,q3⟩ | ⟨rfl,hno,q2⟩⟩
  ·dsimp only at hd hH q1 q3
   subst hd;subst hH
   have lc:=ros_c hr2
   have ls:=ros_s hr2
   have hN:(fine m s r S c)=(cnt S 2≤1∧0≤c∧c < s∧(cnt S 2=1∨c=0)):=by unfold fine;rw[hm];simp[hok]
   rw[hN]
   by_cases h1:cnt S 2≤1
   ·have h1':(cnt S 2:Int)≤1:=by omega
    by_cases hc0:0≤c
    ·by_cases hcs:c < s
     ·by_cases h11:cnt S 2=1
      ·have hb:((cnt S 2:Int)==1)=true:=by simp[h11]
       simp only[q1,q3,lc,ls,h1',hc0,hcs,hb,sy,tup,↓reduceIte,zA,zG,zC,zD,zF,zE,zB,zH,reduceCtorEq]
       exact⟨trivial,.inr trivial,_,rfl,⟨_,rfl,by simp[h1,hc0,hcs,h11]⟩,t1.trans t2⟩
      ·have hb:((cnt S 2:Int)==1)=false:=by simp;omega
       by_cases hcz:c=0
       ·have hbc:(c==0)=true:=by simp[hcz]
        simp only[q1,q3,lc,ls,h1',hc0,hcs,hb,hbc,sy,tup,↓reduceIte,zA,zG,zC,zD,zF,zE,zB,zH,reduceCtorEq]
        exact⟨trivial,.inr trivial,_,rfl,⟨_,rfl,by simp[h1,hc0,hcs,hcz]⟩,t1.trans t2⟩
       ·have hbc:(c==0)=false:=by simp[hcz]
        simp only[q1,q3,lc,ls,h1',hc0,hcs,hb,hbc,sy,tup,↓reduceIte,zA,zG,zC,zD,zF,zE,zB,zH,reduceCtorEq]
        exact⟨trivial,.inr trivial,_,rfl,⟨_,rfl,by simp[h11,hcz]⟩,t1.trans t2⟩
     ·simp only[q1,q3,lc,ls,h1',hc0,hcs,sy,tup,↓reduceIte,zA,zG,zC,zD,zF,zE,zB,zH,reduceCtorEq]
      exact⟨trivial,.inr trivial,_,rfl,⟨_,rfl,by simp[hcs]⟩,t1.trans t2⟩
    ·simp only[q1,q3,lc,ls,h1',hc0,sy,tup,↓reduceIte,zA,zG,zC,zD,zF,zE,zB,zH,reduceCtorEq]
     exact⟨trivial,.inr trivial,_,rfl,⟨_,rfl,by simp[hc0]⟩,t1.trans t2⟩
   ·have h1':¬ (cnt S 2:Int)≤1:=by omega
    simp only[q1,q3,lc,ls,h1',sy,tup,↓reduceIte,zA,zG,zC,zD,zF,zE,zB,zH,reduceCtorEq]
    exact⟨trivial,.inr trivial,_,rfl,⟨_,rfl,by simp[h1]⟩,t1.trans t2⟩
  ·dsimp only at hd hH q2
   subst hd;subst hH
   simp only[q2,sy,tup,↓reduceIte,zA,zG,zC,zD,zF,zE,zB,zH,reduceCtorEq]
   exact⟨trivial,.inr trivial,_,rfl,⟨false,rfl,by unfold fine;simp[hno]⟩,t1.trans t2⟩
def scells (id me m s r:Int) (S:List Nat) (c:Int) (g:Bool):List V:=[.int .u64 id,.int .i64 me]++rcells m s r S c g
def sup (id me m s r:Int) (S:List Nat) (c:Int) (g:Bool):V:=.agg (scells id me m s r S c g)
theorem s_thin (id me m s r:Int) (S:List Nat) (c:Int) (g:Bool):Thin (scells id me m s r S c g):=by
 intro v hv
 unfold scells at hv
 rcases List.mem_append.1 hv with h | h
 ·simp at h;rcases h with rfl | rfl<;>rfl
 ·exact r_thin m s r S c g v h
theorem s_len {S:List Nat} (hS:S.length=16) (id me m s r c:Int) (g:Bool):(scells id me m s r S c g).length=23:=by
 unfold scells
 rw[List.length_append,r_len hS]
 rfl
theorem s_width {S:List Nat} (hS:S.length=16) (id me m s r c:Int) (g:Bool):width (scells id me m s r S c g)=23:=by
 rw[width_thin (s_thin id me m s r S c g),s_len hS]
structure SupAt (H:Heap) (b:Bk) (id me m s r:Int) (S:List Nat) (c:Int) (g:Bool):Prop where
 own:H.get b=some (.rows false 23 [scells id me m s r S c g])
 len:S.length=16
section
variable {H:Heap} {b:Bk} {id me m s r:Int} {S:List Nat} {c:Int} {g:Bool} (h:SupAt H b id me m s r S c g)
include h
theorem sup_cut {o n:Nat} (hn:o+n≤23) (ho:o < 23):loadAt H ⟨b,o⟩ n=some (((scells id me m s r S c g).drop o).take n):=by
 rw[loadAt_eq h.own (r:=scells id me m s r S c g) (nth_of (by rw[Nat.div_eq_of_lt ho];rfl)),Nat.mod_eq_of_lt ho]
 exact cut_thin (s_thin id me m s r S c g) (by rw[s_len h.len];exact hn)
theorem sup_all:loadAt H ⟨b,0⟩ 23=some (scells id me m s r S c g):=by
 rw[sup_cut h (by omega) (by omega),List.drop_zero,List.take_of_length_le (by rw[s_len h.len];omega)]
theorem sup_id:loadAt H ⟨b,0⟩ 1=some [.int .u64 id]:=by rw[sup_cut h (by omega) (by omega)];rfl
theorem sup_self:loadAt H ⟨b,1⟩ 1=some [.int .i64 me]:=by rw[sup_cut h (by omega) (by omega)];rfl
theorem sup_m:loadAt H ⟨b,2⟩ 1=some [.int .i64 m]:=by rw[sup_cut h (by omega) (by omega)];rfl
theorem sup_r:loadAt H ⟨b,2⟩ 21=some (rcells m s r S c g):=by
 rw[sup_cut h (by omega) (by omega)]
 unfold scells
 show some (List.take 21 (rcells m s r S c g))=_
 rw[List.take_of_length_le (by rw[r_len h.len];omega)]
end
def evt (n:Int):Bool:=decide (1≤n)&&decide (n≤4611686018427387904)
theorem event_ok (H:Heap) (x:Int) (lf n:Nat):callS Tryz.prog S0 lf (n+1) 180 [.int .u64 x] H=some (.v (.bool (evt x)),H):=by
 obtain⟨v,H',e,rfl,rfl⟩:ret (callS Tryz.prog S0 lf (n+1) 180 [.int .u64 x] H) fun v H'=>v=.bool (evt x)∧H'=H:=by
  refine ret_call rfl c180_eq ?_
  by_cases h:1≤x
  ·simp only[c180,h,sy,tup,↓reduceIte,zA,zG,zC,zD,zF,zE,zB,zH,reduceCtorEq]
   simp[evt,h]
  ·simp only[c180,h,sy,tup,↓reduceIte,zA,zG,zC,zD,zF,zE,zB,zH,reduceCtorEq]
   simp[evt,h]
 exact e
def smay (id me m s r:Int) (S:List Nat) (c:Int):Prop:=id≠0∧0≤me∧me < m∧fine m s r S c
theorem smay_ok (H:Heap) {id me m s r c:Int} {g:Bool} {S:List Nat} (hS:S.length=16) (lf n:Nat) (hlf:17 < lf):ret (callS Tryz.prog S0 lf (n+4) 181 [sup id me m s r S c g] H) fun v H'=>(∃ z:Bool,v=.bool z∧(z=true↔smay id me m s r S c))∧Turns Z H H':=by
 have t1:=Turns.add Z H (.rows false 23 [scells id me m s r S c g])
 have hg:(H.add (.rows false 23 [scells id me m s r S c g])).get (.run H.next)=some (.rows false 23 [scells id me m s r S c g]):=by rw[Heap.get_add,if_pos rfl]
 have hr:SupAt (H.add (.rows false 23 [scells id me m s r S c g])) (.run H.next) id me m s r S c g:=⟨hg,hS⟩
 have l1:=sup_id hr
 have l2:=sup_self hr
 have l3:=sup_m hr
 have l4:=sup_r hr
 have hw:=s_width hS id me m s r c g
 generalize hH1:H.add (.rows false 23 [scells id me m s r S c g])=H1 at *
 obtain⟨v,H2,e2,⟨z,rfl,hz⟩,t2⟩:=sfine_ok H1 (m:=m) (s:=s) (r:=r) (c:=c) (g:=g) hS lf n hlf
 unfold ros at e2
 refine ret_call rfl c181_eq ?_
 by_cases h0:id=0
 ·have b0:(id==0)=true:=by simp[h0]
  simp only[c181,sup,hw,hH1,l1,l2,l3,l4,b0,sy,tup,↓reduceIte,zA,zG,zC,zD,zF,zE,zB,zH,reduceCtorEq]
  exact⟨trivial,.inr trivial,_,rfl,⟨false,rfl,by simp[smay,h0]⟩,t1⟩
 ·have b0:(id==0)=false:=by simp[h0]
  by_cases h1:0≤me
  ·by_cases h2:me < m
   ·simp only[c181,sup,hw,hH1,l1,l2,l3,l4,b0,h1,h2,e2,sy,tup,↓reduceIte,zA,zG,zC,zD,zF,zE,zB,zH,reduceCtorEq]
    exact⟨trivial,.inr trivial,_,rfl,⟨z,rfl,by simp[smay,h0,h1,h2,hz]⟩,t1.trans t2⟩
   ·simp only[c181,sup,hw,hH1,l1,l2,l3,l4,b0,h1,h2,sy,tup,↓reduceIte,zA,zG,zC,zD,zF,zE,zB,zH,reduceCtorEq]
    exact⟨trivial,.inr trivial,_,rfl,⟨false,rfl,by simp[smay,h2]⟩,t1⟩
  ·simp only[c181,sup,hw,hH1,l1,l2,l3,l4,b0,h1,sy,tup,↓reduceIte,zA,zG,zC,zD,zF,zE,zB,zH,reduceCtorEq]
   exact⟨trivial,.inr trivial,_,rfl,⟨false,rfl,by simp[smay,h1]⟩,t1⟩
end Go.Proofs.YtabebpemfinejaaGreat.draft
namespace Go.Proofs.YtabebpemfinejaaGreat.draft
open Go.Am
noncomputable def c247:CFn:=⟨[.tmp (pp 4)],
 .seq (.reg [
 qo 4 (.p (S.get (.c (.int .u64 0)))) []]) (
 .seq (.regD [
 mv 8 0,
 qo 9 (.p (nilcF (tt 8))) [pp 8],
 qo 10 (.p (faddrF (tt 9) 0)) [pp 9],
 qo 11 (.r (loadF (tt 10) 1 .sc)) [pp 10],
 mv 12 0,
 qo 13 (.p (nilcF (tt 12))) [pp 12],
 qo 14 (.p (faddrF (tt 13) 1)) [pp 13],
 qo 15 (.r (loadF (tt 14) 1 .sc)) [pp 14],
 mv 16 1,
 qo 17 (.c (callF (ff 256) [(tt 11),(tt 15),(tt 16)])) [pp 11,pp 15,pp 16],
 mv 7 17,
 qo 18 (.p (extF (tt 7) 0)) [pp 7],
 qo 19 (.p (extF (tt 7) 1)) [pp 7],
 mv 5 18,
 mv 6 19] [0,1,3,7,0,16,48,112,0,511,1023,2047,2047,4095,16383]) (
 .seq (.reg [
 mv 20 0,
 qo 21 (.p (nilcF (tt 20))) [pp 20],
 qo 22 (.p (faddrF (tt 21) 1)) [pp 21],
 qo 23 (.r (loadF (tt 22) 1 .sc)) [pp 22],
 mv 24 1,
 qo 25 (.p (arF .add (tt 23) (tt 24))) [pp 23,pp 24],
 qo 26 (.p (nilcF (tt 20))) [pp 20],
 qo 27 (.p (faddrF (tt 26) 1)) [pp 26],
 qn (.a (storeF (tt 27) (tt 25) 1)) [pp 27,pp 25]]) (
 .seq (.reg [
 mv 28 5,
 mv 4 28]) (
 .ret))))⟩
theorem c247_eq:fnOf Tryz.prog 247=some c247:=by kernel_rfl
noncomputable def c250:CFn:=⟨[.tmp (pp 2)],
 .seq (.reg [
 qo 2 (.p (S.get (.c (.bool false)))) []]) (
 .seq (.reg [
 mv 3 0,
 qo 4 (.p (eqcF true false [.int .u8] (tt 3) (.c (.int .u8 0)))) [pp 3],
 mv 2 4]) (
 .ret))⟩
theorem c250_eq:fnOf Tryz.prog 250=some c250:=by kernel_rfl
noncomputable def c258_l0:C:=.seq (.reg [
 qo 9 (.p (arF .lss (tt 8) (tt 7))) [pp 8,pp 7]]) (
 .seq (.cond (tt 9) (.skip) (.exit 0)) (
 .seq (.block 1 (.seq (.reg [
 mv 10 8,
 mv 5 10]) (
 .seq (.reg [
 mv 11 1,
 mv 12 0,
 mv 13 5,
 qo 14 (.p (iaddrSF (tt 12) (tt 13) 1)) [pp 12,pp 13],
 qo 15 (.r (loadF (tt 14) 1 .sc)) [pp 14],
 qo 16 (.c (callF (tt 11) [(tt 15)])) [pp 11,pp 15]]) (
 .cond (tt 16) (.seq (.reg [
 mv 17 5,
 mv 4 17]) (
 .ret)) (.skip))))) (
 .reg [
 qo 18 (.p (arF .add (tt 8) (ii 1))) [pp 8],
 mv 8 18])))
noncomputable def c258:CFn:=⟨[.tmp (pp 4)],
 .seq (.reg [
 qo 4 (.p (S.get (ii 0))) []]) (
 .seq (.seq (.reg [
 mv 6 0,
 qo 7 (.p (lenF (tt 6))) [pp 6],
 qo 8 (.p (S.get (ii 0))) []]) (
 .block 0 (.loop c258_l0))) (
 .seq (.reg [
 qo 4 (.p (S.get (ii (-1)))) []]) (
 .ret)))⟩
theorem c258_eq:fnOf Tryz.prog 258=some c258:=by kernel_rfl
noncomputable def c249:CFn:=⟨[.tmp (pp 4)],
 .seq (.reg [
 qo 4 (.p (S.get (.c (.bool false)))) []]) (
 .seq (.reg [
 mv 5 0,
 mv 6 1,
 qo 7 (.c (callF (ff 258) [(tt 5),(tt 6)])) [pp 5,pp 6],
 qo 8 (.p (arF .geq (tt 7) (ii 0))) [pp 7],
 mv 4 8]) (
 .ret))⟩
theorem c249_eq:fnOf Tryz.prog 249=some c249:=by kernel_rfl
noncomputable def c241:CFn:=⟨[.tmp (pp 2)],
 .seq (.reg [
 qo 2 (.p (S.get (.c (.bool false)))) []]) (
 .seq (.reg [
 mv 3 0,
 qo 4 (.p (arF .geq (tt 3) (ii 1))) [pp 3],
 mv 5 4,
 mg 6 0 5 true,
 qg 7 (.p (arF .leq (tt 6) (ii 8))) 5 true [pp 6],
 qo 8 (.p (pickF (tt 5) (tt 7) (.c (.bool false)))) [pp 5,pp 7],
 mv 2 8]) (
 .ret))⟩
theorem c241_eq:fnOf Tryz.prog 241=some c241:=by kernel_rfl
noncomputable def c248_l0:C:=.seq (.reg [
 qo 39 (.p (arF .lss (tt 38) (tt 37))) [pp 38,pp 37]]) (
 .seq (.cond (tt 39) (.skip) (.exit 1)) (
 .seq (.block 2 (.seq (.reg [
 mv 40 38,
 mv 9 40]) (
 .seq (.reg [
 mv 41 9,
 mv 42 1,
 qo 43 (.p (arF .mul (tt 41) (tt 42))) [pp 41,pp 42],
 mv 10 43]) (
 .seq (.reg [
 mv 44 0,
 mv 45 10,
 qo 46 (.p (arF .quo (tt 45) (ii 8))) [pp 45],
 qo 47 (.p (iaddrSF (tt 44) (tt 46) 1)) [pp 44,pp 46],
 qo 48 (.r (loadF (tt 47) 1 .sc)) [pp 47],
 qo 49 (.p (convF .u16 (tt 48))) [pp 48],
 mv 11 49]) (
 .seq (.seq (.reg [
 mv 50 10,
 qo 51 (.p (arF .rem (tt 50) (ii 8))) [pp 50],
 mv 52 1,
 qo 53 (.p (arF .add (tt 51) (tt 52))) [pp 51,pp 52],
 qo 54 (.p (arF .gtr (tt 53) (ii 8))) [pp 53]]) (
 .cond (tt 54) (.reg [
 mv 55 11,
 mv 56 0,
 mv 57 10,
 qo 58 (.p (arF .quo (tt 57) (ii 8))) [pp 57],
 qo 59 (.p (arF .add (tt 58) (ii 1))) [pp 58],
 qo 60 (.p (iaddrSF (tt 56) (tt 59) 1)) [pp 56,pp 59],
 qo 61 (.r (loadF (tt 60) 1 .sc)) [pp 60],
 qo 62 (.p (convF .u16 (tt 61))) [pp 61],
 qo 63 (.p (arF .shl (tt 62) (.c (.int .u64 8)))) [pp 62],
 qo 64 (.p (arF .or (tt 55) (tt 63))) [pp 55,pp 63],
 mv 11 64]) (.skip))) (
 .regD [
 mv 65 8,
 mv 66 9,
 mv 67 11,
 mv 68 10,
 qo 69 (.p (arF .rem (tt 68) (ii 8))) [pp 68],
 qo 70 (.p (arF .shr (tt 67) (tt 69))) [pp 67,pp 69],
 mv 71 1,
 qo 72 (.p (arF .shl (.c (.int .u16 1)) (tt 71))) [pp 71],
 qo 73 (.p (arF .sub (tt 72) (.c (.int .u16 1)))) [pp 72],
 qo 74 (.p (arF .and (tt 70) (tt 73))) [pp 70,pp 73],
 qo 75 (.p (convF .u8 (tt 74))) [pp 74],
 qo 76 (.p (iaddrSF (tt 65) (tt 66) 1)) [pp 65,pp 66],
 qn (.a (storeF (tt 76) (tt 75) 1)) [pp 76,pp 75]] [0,0,0,0,8,28,0,64,192,508,1020,2047,4095])))))) (
 .reg [
 qo 77 (.p (arF .add (tt 38) (ii 1))) [pp 38],
 mv 38 77])))
noncomputable def c248:CFn:=⟨[.tmp (pp 6),.tmp (pp 7)],
 .seq (.reg [
 qo 6 (.p (S.get (.c (.slice none 0 0 0)))) [],
 qo 7 (.p (S.get (ii 0))) []]) (
 .seq (.block 0 (.seq (.reg [
 mv 13 1,
 qo 14 (.c (callF (ff 241) [(tt 13)])) [pp 13],
 qo 15 (.p (unF .not (tt 14))) [pp 14],
 mv 16 15,
 mg 17 2 16 false,
 qg 18 (.p (arF .lss (tt 17) (ii 0))) 16 false [pp 17],
 qo 19 (.p (pickF (tt 16) (.c (.bool true)) (tt 18))) [pp 16,pp 18],
 mv 20 19,
 mg 21 2 20 false,
 qg 22 (.p (arF .gtr (tt 21) (ii 1048576))) 20 false [pp 21],
 qo 23 (.p (pickF (tt 20) (.c (.bool true)) (tt 22))) [pp 20,pp 22],
 mv 12 23]) (
 .cond (tt 12) (.seq (.reg [
 qo 6 (.p (S.get (.c (.slice none 0 0 0)))) [],
 qo 7 (.p (S.get (ii 2))) []]) (
 .ret)) (.seq (.reg [
 mv 25 2,
 mv 26 1,
 qo 27 (.p (arF .mul (tt 25) (tt 26))) [pp 25,pp 26],
 qo 28 (.p (arF .add (tt 27) (ii 8))) [pp 27],
 qo 29 (.p (arF .sub (tt 28) (ii 1))) [pp 28],
 qo 30 (.p (arF .quo (tt 29) (ii 8))) [pp 29],
 mv 31 0,
 qo 32 (.p (lenF (tt 31))) [pp 31],
 qo 33 (.p (arF .gtr (tt 30) (tt 32))) [pp 30,pp 32],
 mv 24 33]) (
 .cond (tt 24) (.seq (.reg [
 qo 6 (.p (S.get (.c (.slice none 0 0 0)))) [],
 qo 7 (.p (S.get (ii 4))) []]) (
 .ret)) (.skip)))))) (
 .seq (.reg [
 mv 34 2,
 qo 35 (.m (mksliceF 1 1 [.int .u8 0] (tt 34) (tt 34))) [pp 34,pp 34],
 mv 8 35]) (
 .seq (.seq (.reg [
 mv 36 8,
 qo 37 (.p (lenF (tt 36))) [pp 36],
 qo 38 (.p (S.get (ii 0))) []]) (
 .block 1 (.loop c248_l0))) (
 .seq (.reg [
 mv 78 8,
 mv 6 78,
 qo 7 (.p (S.get (ii 0))) []]) (
 .ret)))))⟩
theorem c248_eq:fnOf Tryz.prog 248=some c248:=by kernel_rfl
def rdr (k:Nat) (a:Nat):Am.Obj:=.rows false 2 [[.slice (some ⟨.run k,0⟩) 44 44 1,.int .i64 (a:Int)]]
theorem rtake_ok {H:Heap} {b:Bk} {k a sz:Nat} {c:Nat→Nat} (hr:H.get b=some (rdr k a)) (hb:BodyAt H k c 44) (hc:∀ i,c i < 256) (hs:1≤sz∧sz≤8) (ha:a+sz≤44) {lf:Nat} (hlf:60 < lf) (n:Nat) :
  callS Tryz.prog S0 lf (n+2) 247 [.ptr (some ⟨b,0⟩),.int .i64 (sz:Int)] H=some (.v (.int .u64 ((leN (fun i=>c (a+i)) sz:Nat):Int)),H.set b (rdr k (a+sz))):=by
 have g:=nget_ok (H:=H) (p:=⟨.run k,0⟩) (len:=44) (cap:=44) (loose:=1) (a:=a) (sz:=sz) (c:=fun i=>c (a+i)) hs ha (by omega) (by omega) (.inr rfl) (fun i _=>hc _) (fun i hi=>by simpa using hb.load (i:=a+i) (by omega)) lf n (by omega)
 have l0:loadAt H ⟨b,0⟩ 1=some [.slice (some ⟨.run k,0⟩) 44 44 1]:=by rw[loadAt_eq hr rfl];rfl
 have l1:loadAt H ⟨b,1⟩ 1=some [.int .i64 (a:Int)]:=by rw[loadAt_eq hr rfl];rfl
 have w:IntKind.i64.wrap ((a:Int)+(sz:Int))=((a+sz:Nat):Int):=by rw[wrap_i64 (by omega)];omega
 have st:storeAt H ⟨b,1⟩ [.int .i64 ((a+sz:Nat):Int)]=some (H.set b (rdr k (a+sz))):=storeAt_eq hr (r:=[.slice (some ⟨.run k,0⟩) 44 44 1,.int .i64 (a:Int)]) rfl rfl
 obtain⟨e,he⟩:∃ e,e=a+sz:=⟨_,rfl⟩
 rw[← he] at w st ⊢
 obtain⟨v,H',e,rfl,rfl⟩:ret (callS Tryz.prog S0 lf (n+2) 247 [.ptr (some ⟨b,0⟩),.int .i64 (sz:Int)] H) fun v H'=>v=.int .u64 ((leN (fun i=>c (a+i)) sz:Nat):Int)∧H'=H.set b (rdr k e):=by
  refine ret_call rfl c247_eq ?_
  simp only[c247,l0,l1,g,w,st,sy,tup,↓reduceIte,zA,zG,zC,zD,zF,zE,zB,zH,reduceCtorEq]
  rw[endD_ok (by kernel_rfl) (by kernel_rfl)]
  simp only[l0,l1,g,w,st,sy,tup,↓reduceIte,zA,zG,zC,zD,zF,zE,zB,zH,reduceCtorEq]
  simp
 exact e
theorem nz_ok (H:Heap) (x:Nat) (lf n:Nat):callS Tryz.prog S0 lf (n+1) 250 [.int .u8 (x:Int)] H=some (.v (.bool (!((x:Int)==0))),H):=by
 obtain⟨v,H',e,rfl,rfl⟩:ret (callS Tryz.prog S0 lf (n+1) 250 [.int .u8 (x:Int)] H) fun v H'=>v=.bool (!((x:Int)==0))∧H'=H:=by
  refine ret_call rfl c250_eq ?_
  simp only[c250,sy,tup,↓reduceIte,zA,zG,zC,zD,zF,zE,zB,zH,reduceCtorEq]
  simp
 exact e
def zeroTo (c:Nat→Nat) (n:Nat):Prop:=∀ i,i < n→c i=0
theorem index_ok {H:Heap} {p:Ptr} {len cap loose:Nat} {c:Nat→Nat} (hm:len < 1000000) (hd:∀ i,i < len→loadAt H ⟨p.b,p.o+i⟩ 1=some [.int .u8 (c i:Int)]) (lf n:Nat) (hlf:len+1 < lf) :
  ret (callS Tryz.prog S0 lf (n+2) 258 [.slice (some p) len cap loose,.func (.func 250) [] []] H) fun v H'=>H'=H∧((zeroTo c len∧v=.int .i64 (-1))∨(¬ zeroTo c len∧∃ i:Nat,v=.int .i64 (i:Int))):=by
 refine ret_call rfl c258_eq ?_
 simp only[c258,sy,tup,↓reduceIte,zA,zG,zC,zD,zF,zE,zB,zH,reduceCtorEq]
 have hloop:∀ t:T,t.getP (Tr.path 0)=some (.slice (some p) len cap loose)→t.getP (Tr.path 1)=some (.func (.func 250) [] [])→t.getP (Tr.path 7)=some (.int .i64 (len:Int))→t.getP (Tr.path 8)=some (.int .i64 0) →
   wp (loopF (runC (callS Tryz.prog S0 lf (n+1)) lf c258_l0) lf ⟨t,H,[]⟩) fun x s=>s.d=[]∧s.H=H∧((x=.ex 0∧zeroTo c len)∨(x=.ret∧¬ zeroTo c len∧∃ i:Nat,s.t.getP (Tr.path 4)=some (.int .i64 (i:Int)))):=by
  intro t q0 q1 q7 q8
  refine wp_loopF (fun k s=>∃ i:Nat,k=len - i∧i≤len∧s.d=[]∧s.H=H∧zeroTo c i∧s.t.getP (Tr.path 0)=some (.slice (some p) len cap loose)∧s.t.getP (Tr.path 1)=some (.func (.func 250) [] [])∧s.t.getP (Tr.path 7)=some (.int .i64 (len:Int))∧s.t.getP (Tr.path 8)=some (.int .i64 (i:Int))) ?_ lf len _ ⟨0,rfl,by omega,rfl,rfl,fun i hi=>absurd hi (by omega),q0,q1,q7,q8⟩ (by omega)
  rintro k ⟨t,HH,d⟩ ⟨i,rfl,hi,hd',hH,hz,q0,q1,q7,q8⟩
  dsimp only at hd' hH q0 q1 q7 q8
  subst hd';subst hH
  by_cases hlt:i < len
  ·have hlt':(i:Int) < (len:Int):=by omega
   have hle':i+1≤len:=hlt
   have lk:=hd i hlt
   have w3:IntKind.i64.wrap ((i:Int)+1)=((i+1:Nat):Int):=by rw[wrap_i64 (by omega)];omega
   have nz:=nz_ok HH (c i) lf n
   by_cases h0:c i=0
   ·have b0:((c i:Int)==0)=true:=by simp[h0]
    rw[b0] at nz
    simp only[c258_l0,q0,q1,q7,q8,hlt',hle',w3,lk,nz,Nat.mul_one,sy,tup,↓reduceIte,zA,zG,zC,zD,zF,zE,zB,zH,reduceCtorEq]
    refine⟨len - (i+1),by omega,i+1,rfl,by omega,trivial,trivial,fun j hj=>?_,trivial,trivial,trivial,by simp⟩
    by_cases e:j=i
    ·subst e;exact h0
    ·exact hz j (by omega)
   ·have b0:((c i:Int)==0)=false:=by simp[h0]
    rw[b0] at nz
    simp only[c258_l0,q0,q1,q7,q8,hlt',hle',w3,lk,nz,Nat.mul_one,sy,tup,↓reduceIte,zA,zG,zC,zD,zF,zE,zB,zH,reduceCtorEq]
    exact⟨trivial,trivial,.inr ⟨trivial,fun h=>h0 (h i hlt),i,rfl⟩⟩
  ·have:i=len:=by omega
   subst this
   simp only[c258_l0,q0,q1,q7,q8,Nat.lt_irrefl,Int.lt_irrefl,sy,tup,↓reduceIte,zA,zG,zC,zD,zF,zE,zB,zH,reduceCtorEq]
   exact⟨trivial,trivial,.inl ⟨trivial,hz⟩⟩
 refine wp_ctx (F:=fun r=>seqC _ _ _ (blockC _ r)) (hloop _ ?_ ?_ ?_ ?_) ?_
 ·simp only[sy,tup,↓reduceIte,zA,zG,zC,zD,zF,zE,zB,zH,reduceCtorEq]
 ·simp only[sy,tup,↓reduceIte,zA,zG,zC,zD,zF,zE,zB,zH,reduceCtorEq]
 ·simp only[sy,tup,↓reduceIte,zA,zG,zC,zD,zF,zE,zB,zH,reduceCtorEq]
 ·simp only[sy,tup,↓reduceIte,zA,zG,zC,zD,zF,zE,zB,zH,reduceCtorEq]
 rintro x ⟨t,HH,d⟩ ⟨hd',hH,⟨rfl,hz⟩ | ⟨rfl,hz,i,q4⟩⟩
 ·dsimp only at hd' hH
  subst hd';subst hH
  simp only[sy,tup,↓reduceIte,zA,zG,zC,zD,zF,zE,zB,zH,reduceCtorEq]
  exact⟨trivial,.inr trivial,_,rfl,trivial,.inl ⟨hz,rfl⟩⟩
 ·dsimp only at hd' hH q4
  subst hd';subst hH
  simp only[q4,sy,tup,↓reduceIte,zA,zG,zC,zD,zF,zE,zB,zH,reduceCtorEq]
  exact⟨trivial,.inr trivial,_,rfl,trivial,.inr ⟨hz,i,rfl⟩⟩
theorem contains_ok {H:Heap} {p:Ptr} {len cap loose:Nat} {c:Nat→Nat} (hm:len < 1000000) (hd:∀ i,i < len→loadAt H ⟨p.b,p.o+i⟩ 1=some [.int .u8 (c i:Int)]) (lf n:Nat) (hlf:len+1 < lf) :
  ret (callS Tryz.prog S0 lf (n+3) 249 [.slice (some p) len cap loose,.func (.func 250) [] []] H) fun v H'=>H'=H∧∃ z:Bool,v=.bool z∧(z=false↔zeroTo c len):=by
 obtain⟨v,H',e,rfl,hv⟩:=index_ok (cap:=cap) (loose:=loose) hm hd lf n hlf
 refine ret_call rfl c249_eq ?_
 rcases hv with ⟨hz,rfl⟩ | ⟨hz,i,rfl⟩
 ·have hn:¬ ((0:Int)≤-1):=by omega
  simp only[c249,e,hn,sy,tup,↓reduceIte,zA,zG,zC,zD,zF,zE,zB,zH,reduceCtorEq]
  exact⟨trivial,.inr trivial,_,rfl,trivial,false,rfl,by simp[hz]⟩
 ·have hn:(0:Int)≤(i:Int):=by omega
  simp only[c249,e,hn,sy,tup,↓reduceIte,zA,zG,zC,zD,zF,zE,zB,zH,reduceCtorEq]
  exact⟨trivial,.inr trivial,_,rfl,trivial,true,rfl,by simp[hz]⟩
theorem wide_ok (H:Heap) (lf n:Nat):callS Tryz.prog S0 lf (n+1) 241 [.int .i64 2] H=some (.v (.bool true),H):=by
 obtain⟨v,H',e,rfl,rfl⟩:ret (callS Tryz.prog S0 lf (n+1) 241 [.int .i64 2] H) fun v H'=>v=.bool true∧H'=H:=by
  refine ret_call rfl c241_eq ?_
  have h1:(1:Int)≤2:=by omega
  have h2:(2:Int)≤8:=by omega
  simp only[c241,h1,h2,sy,tup,↓reduceIte,zA,zG,zC,zD,zF,zE,zB,zH,reduceCtorEq]
  simp
 exact e
theorem wrap_u16 {n:Nat} (h:n < 65536):IntKind.u16.wrap (n:Int)=n:=by
 show (if false&&decide ((n:Int) % (2 ^ 16:Int)≥(2 ^ (16 - 1):Int)) then(n:Int) % (2 ^ 16:Int) - (2 ^ 16:Int) else(n:Int) % (2 ^ 16:Int))=n
 rw[show (2 ^ 16:Int)=65536 from rfl]
 simp only[Bool.false_and,Bool.false_eq_true,if_false]
 omega
theorem wrap_u8 {n:Nat} (h:n < 256):IntKind.u8.wrap (n:Int)=n:=by
 show (if false&&decide ((n:Int) % (2 ^ 8:Int)≥(2 ^ (8 - 1):Int)) then(n:Int) % (2 ^ 8:Int) - (2 ^ 8:Int) else(n:Int) % (2 ^ 8:Int))=n
 rw[show (2 ^ 8:Int)=256 from rfl]
 simp only[Bool.false_and,Bool.false_eq_true,if_false]
 omega
theorem quo_i64 (a b:Nat) (hb:b≠0) (ha:a < 9223372036854775808):arith .quo (.int .i64 (a:Int)) (.int .i64 (b:Int))=some (.int .i64 ((a / b:Nat):Int)):=by
 have h0:eqI (b:Int) 0=false:=by
  rw[C7];simpa using hb
 show (match eqI (b:Int) 0 with | true=>none | false=>mkI .i64 (quoI (a:Int) (b:Int)))=_
 rw[h0]
 show mkI .i64 ((a / b:Nat):Int)=_
 rw[C9,wrap_nat (Nat.lt_of_le_of_lt (Nat.div_le_self _ _) ha)]
theorem rem_i64 (a b:Nat) (hb:b≠0):arith .rem (.int .i64 (a:Int)) (.int .i64 (b:Int))=some (.int .i64 ((a % b:Nat):Int)):=by
 have h0:eqI (b:Int) 0=false:=by
  rw[C7];simpa using hb
 show (match eqI (b:Int) 0 with | true=>none | false=>frc (remI (a:Int) (b:Int)) fun n=>some (V.int .i64 n))=_
 rw[h0]
 show frc (((a % b:Nat)):Int) _=_
 generalize a % b=z
 cases z<;>rfl
theorem shr_u16 {a m:Nat} (hm:m < 16):arith .shr (.int .u16 (a:Int)) (.int .i64 (m:Int))=some (.int .u16 ((a / 2 ^ m:Nat):Int)):=by
 have:min m 16=m:=by omega
 show some (V.int .u16 (.ofNat (Nat.div a (Nat.pow 2 (min m 16)))))=_
 rw[this];rfl
theorem and_u16 {a b:Nat} (h:a < 65536) (k:b < 65536):arith .and (.int .u16 (a:Int)) (.int .u16 (b:Int))=some (.int .u16 ((a&&&b:Nat):Int)):=by
 have f:∀ {x:Nat},x < 65536→fitsK .u16 x=true:=fun {x} hx=>by
  show Nat.ble x 65535=true
  rw[ble_iff];omega
 have hl:a&&&b < 65536:=Nat.lt_of_le_of_lt Nat.and_le_left h
 have e:bitI Nat.land (fun _ a b=>a&&&b) .u16 (a:Int) (b:Int)=((a&&&b:Nat):Int):=by
  show (match fitsK .u16 a&&fitsK .u16 b with | true=>Int.ofNat (Nat.land a b) | false=>_)=_
  rw[f h,f k];rfl
 show (match decide (IntKind.u16=IntKind.u16) with | false=>none | true=>mkI .u16 (bitI Nat.land (fun _ a b=>a&&&b) .u16 (a:Int) (b:Int)))=_
 rw[e,C9,wrap_u16 hl];rfl
noncomputable def twoB (c:Nat→Nat) (i:Nat):Nat:=(c (2*i / 8) / 2 ^ (2*i % 8))&&&3
theorem rowsB_congr {f g:Nat→Nat}:∀ n j,(∀ i,j≤i→i < j+n→f i=g i)→rowsB f n j=rowsB g n j
 | 0,_,_=>rfl
 | n+1,j,h=>by
  show _::_=_::_
  rw[h j (by omega) (by omega),rowsB_congr n (j+1) (fun i h1 h2=>h i (by omega) (by omega))]
theorem rowsB_upd (f:Nat→Nat) (x:Nat):∀ n j i,i < n→upd [V.int .u8 (x:Int)] (rowsB f n j) i=rowsB (fun q=>if q=j+i then x else f q) n j
 | n+1,j,0,_=>by
  show _::_=_::_
  simp only[Nat.add_zero,if_true]
  rw[rowsB_congr (g:=fun q=>if q=j then x else f q) n (j+1) (fun i h1 h2=>by rw[if_neg (by omega)])]
 | n+1,j,i+1,h=>by
  show _::upd [V.int .u8 (x:Int)] (rowsB f n (j+1)) i=_::_
  rw[rowsB_upd f x n (j+1) i (by omega),show j+1+i=j+(i+1) by omega]
  have e:(fun q=>if q=j+(i+1) then x else f q) j=f j:=if_neg (by omega)
  rw[e]
theorem rowsB_rep:∀ n j,List.replicate n [V.int .u8 0]=rowsB (fun _=>0) n j
 | 0,_=>rfl
 | n+1,j=>by
  rw[List.replicate_succ,rowsB_rep n (j+1)]
  rfl
theorem unbits_ok {H:Heap} {p:Ptr} {len cap loose:Nat} {c:Nat→Nat} (h4:4≤len) (hm:len < 1000000) (ho:H.Old p.b) (hc:∀ i,c i < 256) (hd:∀ {H':Heap},Turns Z H H'→∀ i,i < 4→loadAt H' ⟨p.b,p.o+i⟩ 1=some [.int .u8 (c i:Int)]) (lf n:Nat) (hlf:17 < lf) :
  ret (callS Tryz.prog S0 lf (n+2) 248 [.slice (some p) len cap loose,.int .i64 2,.int .i64 16] H) fun v H'=>Turns Z H H'∧∃ k,v=.tuple [.slice (some ⟨.run k,0⟩) 16 16 0,.int .i64 0]∧H'.get (.run k)=some (.rows false 1 (rowsB (twoB c) 16 0))∧k < H'.next:=by
 have wd:=wide_ok H lf n
 have f1:¬ ((16:Int) < 0):=by omega
 have f2:¬ ((1048576:Int) < 16):=by omega
 have f3:¬ ((len:Int) < 4):=by omega
 have q1:arith .quo (.int .i64 39) (.int .i64 8)=some (.int .i64 4):=by kernel_rfl
 have w1:IntKind.i64.wrap (16*2)=32:=by kernel_rfl
 have w2:IntKind.i64.wrap (32+8)=40:=by kernel_rfl
 have w3:IntKind.i64.wrap (40 - 1)=39:=by kernel_rfl
 refine ret_call rfl c248_eq ?_
 have a16:asNat (.int .i64 16)=some 16:=rfl
 obtain⟨kb,hkb⟩:∃ kb,kb=H.next:=⟨_,rfl⟩
 have hloop:∀ t:T,t.getP (Tr.path 0)=some (.slice (some p) len cap loose)→t.getP (Tr.path 1)=some (.int .i64 2)→t.getP (Tr.path 8)=some (.slice (some ⟨.run kb,0⟩) 16 16 0)→t.getP (Tr.path 37)=some (.int .i64 16)→t.getP (Tr.path 38)=some (.int .i64 0) →
   wp (loopF (runC (callS Tryz.prog S0 lf (n+1)) lf c248_l0) lf ⟨t,H.add (.rows false 1 (List.replicate 16 [.int .u8 0])),[]⟩) fun x s=>x=.ex 1∧s.d=[]∧s.t.getP (Tr.path 8)=some (.slice (some ⟨.run kb,0⟩) 16 16 0)∧Turns Z H s.H∧s.H.get (.run kb)=some (.rows false 1 (rowsB (twoB c) 16 0))∧kb < s.H.next:=by
  intro t p0 p1 p8 p37 p38
  refine wp_loopF (fun k s=>∃ i:Nat,k=16 - i∧i≤16∧s.d=[]∧s.t.getP (Tr.path 0)=some (.slice (some p) len cap loose)∧s.t.getP (Tr.path 1)=some (.int .i64 2)∧s.t.getP (Tr.path 8)=some (.slice (some ⟨.run kb,0⟩) 16 16 0)∧s.t.getP (Tr.path 37)=some (.int .i64 16)∧s.t.getP (Tr.path 38)=some (.int .i64 (i:Int))∧Turns Z H s.H∧s.H.get (.run kb)=some (.rows false 1 (rowsB (fun j=>if j < i then twoB c j else 0) 16 0))∧kb < s.H.next) ?_ lf 16 _ ⟨0,rfl,by omega,rfl,p0,p1,p8,p37,p38,Turns.add Z H _,?_,by rw[hkb];simp⟩ (by omega)
  ·rintro k ⟨t,HH,d⟩ ⟨i,rfl,hi,hd',p0,p1,p8,p37,p38,hT,hg,hkn⟩
   dsimp only at hd' p0 p1 p8 p37 p38 hT hg hkn
   subst hd'
   by_cases hlt:i < 16
   ·have hlt':(i:Int) < 16:=by omega
    have hle':i+1≤16:=hlt
    obtain⟨e,he⟩:∃ e,e=2*i:=⟨_,rfl⟩
    have u1:IntKind.i64.wrap ((i:Int)*2)=(e:Int):=by rw[wrap_i64 (by omega)];omega
    have u2:arith .quo (.int .i64 (e:Int)) (.int .i64 8)=some (.int .i64 ((e / 8:Nat):Int)):=quo_i64 e 8 (by decide) (by omega)
    have u3:arith .rem (.int .i64 (e:Int)) (.int .i64 8)=some (.int .i64 ((e % 8:Nat):Int)):=rem_i64 e 8 (by decide)
    have hq4:e / 8 < 4:=by omega
    have lk:=hd hT (e / 8) hq4
    have hql:e / 8+1≤len:=by omega
    have hm6:e % 8≤6:=by omega
    have hcx:=hc (e / 8)
    have htw:twoB c i=(c (e / 8) / 2 ^ (e % 8))&&&3:=by unfold twoB;rw[he]
    have hsh:=shr_u16 (a:=c (e / 8)) (m:=e % 8) (by omega)
    generalize e / 8=q at *
    generalize e % 8=mm at *
    generalize c q=cx at *
    have hx4:cx / 2 ^ mm < 65536:=Nat.lt_of_le_of_lt (Nat.div_le_self _ _) (by omega)
    generalize cx / 2 ^ mm=cy at *
    have w4:IntKind.u16.wrap (cx:Int)=(cx:Int):=wrap_u16 (by omega)
    obtain⟨m2,hm2⟩:∃ m2,m2=mm+2:=⟨_,rfl⟩
    have w5:IntKind.i64.wrap ((mm:Int)+2)=(m2:Int):=by rw[wrap_i64 (by omega)];omega
    have w6:¬ ((8:Int) < (m2:Int)):=by omega
    have s1:arith .shl (.int .u16 1) (.int .i64 2)=some (.int .u16 4):=by kernel_rfl
    have s2:IntKind.u16.wrap (4 - 1)=3:=by kernel_rfl
    have s3:arith .and (.int .u16 (cy:Int)) (.int .u16 3)=some (.int .u16 ((cy&&&3:Nat):Int)):=and_u16 hx4 (by decide)
    have hle3:cy&&&3≤3:=Nat.and_le_right
    rw[← htw] at s3 hle3
    have s4:IntKind.u8.wrap ((twoB c i:Nat):Int)=((twoB c i:Nat):Int):=wrap_u8 (by omega)
    have w7:IntKind.i64.wrap ((i:Int)+1)=((i+1:Nat):Int):=by rw[wrap_i64 (by omega)];omega
    have sto:storeAt HH ⟨.run kb,i⟩ [.int .u8 ((twoB c i:Nat):Int)]=some (HH.set (.run kb) (.rows false 1 (rowsB (fun j=>if j < i+1 then twoB c j else 0) 16 0))):=by
     rw[storeAt_eq hg (r:=[.int .u8 (((fun j=>if j < i then twoB c j else 0) i:Nat):Int)]) (r':=[.int .u8 ((twoB c i:Nat):Int)]) (by rw[Nat.div_one,nth_eq,rowsB_get _ 16 0 i hlt,Nat.zero_add]) (by rw[Nat.mod_one];rfl),← upd_eq,Nat.div_one,rowsB_upd _ _ 16 0 i hlt]
     rw[rowsB_congr (g:=fun j=>if j < i+1 then twoB c j else 0) 16 0 (fun j h1 h2=>?_)]
     by_cases e1:j=i
     ·subst e1;simp
     ·by_cases e2:j < i
      ·simp[e1,e2,show j < i+1 by omega]
      ·simp[e1,e2,show ¬ j < i+1 by omega]
    simp only[c248_l0,p0,p1,p8,p37,p38,hlt',hle',hql,arith_mul,u1,u2,u3,lk,w4,w5,w6,w7,hsh,s1,s2,s3,s4,sto,Nat.mul_one,sy,tup,↓reduceIte,zA,zG,zC,zD,zF,zE,zB,zH,reduceCtorEq]
    rw[endD_ok (by kernel_rfl) (by kernel_rfl)]
    simp only[p0,p1,p8,p37,p38,w7,hsh,s1,s2,s3,s4,sto,hle',Nat.mul_one,sy,tup,↓reduceIte,zA,zG,zC,zD,zF,zE,zB,zH,reduceCtorEq]
    exact⟨16 - (i+1),by omega,i+1,rfl,by omega,trivial,by simp[p0],by simp[p1],by simp[p8],by simp[p37],by simp,hT.setnew (by omega) _,by rw[Heap.get_set,if_pos rfl],by simpa using hkn⟩
   ·have:i=16:=by omega
    subst this
    have hnl:decide (((16:Nat):Int) < 16)=false:=rfl
    simp only[c248_l0,p0,p1,p8,p37,p38,hnl,sy,tup,↓reduceIte,zA,zG,zC,zD,zF,zE,zB,zH,reduceCtorEq]
    refine⟨trivial,trivial,by first | trivial | exact p8,hT,?_,hkn⟩
    rw[hg,rowsB_congr (g:=twoB c) 16 0 (fun j h1 h2=>by simp[show j < 16 by omega])]
  ·show (H.add _).get (.run kb)=_
   rw[hkb,Heap.get_add,if_pos rfl,rowsB_rep 16 0]
   rfl
 simp only[c248,wd,f1,f2,f3,w1,w2,w3,q1,a16,arith_mul,mksliceF,sy,tup,↓reduceIte,zA,zG,zC,zD,zF,zE,zB,zH,reduceCtorEq]
 refine wp_ctx (F:=fun r=>seqC _ _ _ (blockC _ r)) (hloop _ ?_ ?_ ?_ ?_ ?_) ?_
 ·simp only[sy,tup,↓reduceIte,zA,zG,zC,zD,zF,zE,zB,zH,reduceCtorEq]
 ·simp only[sy,tup,↓reduceIte,zA,zG,zC,zD,zF,zE,zB,zH,reduceCtorEq]
 ·simp only[hkb,sy,tup,↓reduceIte,zA,zG,zC,zD,zF,zE,zB,zH,reduceCtorEq]
 ·simp only[sy,tup,↓reduceIte,zA,zG,zC,zD,zF,zE,zB,zH,reduceCtorEq]
  rfl
 ·simp only[sy,tup,↓reduceIte,zA,zG,zC,zD,zF,zE,zB,zH,reduceCtorEq]
 rintro x ⟨t,HH,d⟩ ⟨rfl,hd',p8,hT,hg,hn⟩
 dsimp only at hd' p8 hT hg hn
 subst hd'
 simp only[p8,sy,tup,↓reduceIte,zA,zG,zC,zD,zF,zE,zB,zH,reduceCtorEq]
 exact⟨trivial,.inr trivial,_,rfl,hT,kb,rfl,hg,hn⟩
end Go.Proofs.YtabebpemfinejaaGreat.draft
