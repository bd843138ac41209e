import Derived.Test.YtllkepkaimnodaaGreatDoorG0
import Derived.Test.YtllkepkaimnodaaGreatDoorAmList
set_option linter.unusedVariables false
set_option linter.unusedSectionVars false
set_option linter.unusedSimpArgs false
set_option maxRecDepth 10000
open Nat renaming reduceEqDiff → zA, reduceLeDiff → zB, reduceSub → zC, reduceMul → zD, reduceMod → zE, reduceDiv → zF, reduceAdd → zG
open Int renaming reduceBEq → zH
namespace Go.Proofs.YtllkepkaimnodaaGreatDoor.disk
open Go.Am
noncomputable def c26_l0:C:=.seq (.reg [
 qo 22 (.p (arF .lss (tt 21) (tt 20))) [pp 21,pp 20]]) (
 .seq (.cond (tt 22) (.skip) (.exit 0)) (
 .seq (.block 1 (.seq (.reg [
 qo 23 (.p (iaddrSF (tt 19) (tt 21) 1)) [pp 19,pp 21],
 qo 24 (.r (loadF (tt 23) 1 .sc)) [pp 23],
 mv 6 24]) (
 .seq (.reg [
 mv 26 6,
 qo 27 (.c (callF (ff 104) [(tt 26)])) [pp 26],
 mv 25 27,
 qo 28 (.p (extF (tt 25) 0)) [pp 25],
 qo 29 (.p (extF (tt 25) 1)) [pp 25],
 mv 7 28,
 mv 8 29]) (
 .seq (.seq (.reg [
 mv 30 8,
 qo 31 (.p (eqcF true false [.int .i64] (tt 30) (ii 0))) [pp 30]]) (
 .cond (tt 31) (.seq (.reg [
 mv 32 8,
 qo 2 (.p (S.get (.c (.ptr none)))) [],
 mv 3 32]) (
 .ret)) (.skip))) (
 .reg [
 mv 33 4,
 mv 34 4,
 qo 35 (.p (nilcF (tt 34))) [pp 34],
 qo 36 (.p (faddrF (tt 35) 0)) [pp 35],
 qo 37 (.r (loadF (tt 36) 1 .sc)) [pp 36],
 mv 38 7,
 qo 39 (.m (bsliceF 1 1 [.ptr none] [(0,1,(tt 38))])) [pp 38],
 qo 40 (.a (appF 1 8 (tt 37) (tt 39))) [pp 37,pp 39],
 qo 41 (.p (nilcF (tt 33))) [pp 33],
 qo 42 (.p (faddrF (tt 41) 0)) [pp 41],
 qn (.a (storeF (tt 42) (tt 40) 1)) [pp 42,pp 40]]))))) (
 .reg [
 qo 43 (.p (arF .add (tt 21) (ii 1))) [pp 21],
 mv 21 43])))
noncomputable def c26:CFn:=⟨[.tmp (pp 2),.tmp (pp 3)],
 .seq (.reg [
 qo 2 (.p (S.get (.c (.ptr none)))) [],
 qo 3 (.p (S.get (ii 0))) []]) (
 .seq (.seq (.reg [
 mv 9 0,
 qo 10 (.p (lenF (tt 9))) [pp 9],
 qo 11 (.p (arF .lss (tt 10) (ii 1))) [pp 10],
 mv 12 11,
 mg 13 0 12 false,
 qg 14 (.p (lenF (tt 13))) 12 false [pp 13],
 qg 15 (.p (arF .gtr (tt 14) (ii 17))) 12 false [pp 14],
 qo 16 (.p (pickF (tt 12) (.c (.bool true)) (tt 15))) [pp 12,pp 15]]) (
 .cond (tt 16) (.seq (.reg [
 qo 2 (.p (S.get (.c (.ptr none)))) [],
 qo 3 (.p (S.get (ii 2))) []]) (
 .ret)) (.skip))) (
 .seq (.reg [
 qo 17 (.p (buildF [.slice none 0 0 0,.int .i64 0,.int .i64 0,.bool false] .ag [])) [],
 qo 18 (.m (boxF 4 (tt 17))) [pp 17],
 mv 4 18]) (
 .seq (.seq (.reg [
 mv 19 0,
 qo 20 (.p (lenF (tt 19))) [pp 19],
 qo 21 (.p (S.get (ii 0))) []]) (
 .block 0 (.loop c26_l0))) (
 .seq (.reg [
 mv 44 4,
 mv 2 44,
 qo 3 (.p (S.get (ii 0))) []]) (
 .ret)))))⟩
theorem c26_eq:fnOf Tryz.prog 26=some c26:=by kernel_rfl
def ptrRows (l:List Dv):List (List V):=l.map fun x=>[.ptr (some ⟨x.b,0⟩)]
theorem app_ptr {H:Heap} {p:Option Ptr} {o:Nat} {l:List Dv} {x c:Bk} (h0:l=[]→p=none∧o=0) (h1:l≠[]→∃ ds,p=some ⟨ds,0⟩∧o=1∧H.get ds=some (.rows false 1 (ptrRows l))) (hx:H.get x=some (.rows false 1 [[.ptr (some ⟨c,0⟩)]])) (hmax:l.length < 1000000) :
  appendV 1 8 H (.slice p l.length l.length o) (.slice (some ⟨x,0⟩) 1 1 0)=some (.slice (some ⟨.run H.next,0⟩) (l.length+1) (l.length+1) 1,(killP H p).add (.rows false 1 (ptrRows l++[[.ptr (some ⟨c,0⟩)]]))):=by
 have he:elems H x 1 1 0=some [[.ptr (some ⟨c,0⟩)]]:=by
  simp only[elems]
  rw[loadAt_eq hx (r:=[.ptr (some ⟨c,0⟩)]) rfl]
  rfl
 by_cases hP:l=[]
 ·obtain⟨rfl,rfl⟩:=h0 hP
  subst hP
  simp only[appendV,lenOf,nbeq,nble,firstE,he]
  simp[elems,ptrRows,killP]
 ·obtain⟨d,rfl,rfl,hg⟩:=h1 hP
  have hlen:(ptrRows l).length=l.length:=by simp[ptrRows]
  simp only[appendV,lenOf,nbeq,nble,firstE,he,hg]
  have e1:(l.length+1)*8≤1099511627776:=by omega
  have e2:l.length+1≤1099511627776:=by omega
  simp[B8,B7,Ca,e1,e2,hlen,killP,Nat.mod_one]
structure Grow (H0 H:Heap) (b:Bk) (p:Option Ptr) (o:Nat) (l:List Dv) (r1 r2 r3:V):Prop where
 own:H.get b=some (.rows false 4 [[.slice p l.length l.length o,r1,r2,r3]])
 nil:l=[]→p=none∧o=0
 ptrs:l≠[]→∃ ds,p=some ⟨ds,0⟩∧o=1∧H.get ds=some (.rows false 1 (ptrRows l))∧H.Old ds∧ds≠b∧¬ H0.Old ds∧∀ x ∈ l,¬ x.foot ds
 dev:∀ x ∈ l,DevAt H x.b x.y x.D
 sep:l.Pairwise fun x z=>Sep x.b x.y x.D z.b z.y z.D
 out:∀ x ∈ l,¬ x.foot b
 old:H.Old b
 new:¬ H0.Old b
 fresh:∀ x ∈ l,Fresh H0 x.b x.y x.D
 t:Turns Z H0 H
theorem killP_turns (H:Heap) {p:Option Ptr} {X:Bk→Prop} (h:∀ q,p=some q→X q.b):Turns X H (killP H p):=by
 cases p with
 | none=>exact Turns.refl X H
 | some q=>exact Turns.set (h q rfl) _ _
theorem killP_next (H:Heap) (p:Option Ptr):(killP H p).next=H.next:=by cases p<;>rfl
theorem Grow.load {H0 H H1:Heap} {b:Bk} {p:Option Ptr} {o:Nat} {l:List Dv} {r1 r2 r3:V} (h:Grow H0 H b p o l r1 r2 r3) (t:Turns Z H H1):loadAt H1 ⟨b,0⟩ 1=some [.slice p l.length l.length o]:=by
 rw[loadAt_eq ((t.same _ h.old id).trans h.own) (r:=[.slice p l.length l.length o,r1,r2,r3]) rfl];rfl
theorem Grow.step {H0 H H1:Heap} {b:Bk} {p:Option Ptr} {o:Nat} {l:List Dv} {r1 r2 r3:V} (h:Grow H0 H b p o l r1 r2 r3) (t:Turns Z H H1) {c:Bk} {y:Lay} {D:Dev} (hD:DevAt H1 c y D) (hF:Fresh H c y D) (hmax:l.length < 1000000) :
  ∃ H3 H4 ds,appendV 1 8 (H1.add (.rows false 1 [[.ptr (some ⟨c,0⟩)]])) (.slice p l.length l.length o) (.slice (some ⟨.run H1.next,0⟩) 1 1 0)=some (.slice (some ⟨ds,0⟩) (l.length+1) (l.length+1) 1,H3) ∧
   storeAt H3 ⟨b,0⟩ [.slice (some ⟨ds,0⟩) (l.length+1) (l.length+1) 1]=some H4∧Grow H0 H4 b (some ⟨ds,0⟩) 1 (l++[⟨c,y,D⟩]) r1 r2 r3:=by
 have t2:Turns Z H (H1.add (.rows false 1 [[.ptr (some ⟨c,0⟩)]])):=t.addm _
 have hx:(H1.add (.rows false 1 [[.ptr (some ⟨c,0⟩)]])).get (.run H1.next)=some (.rows false 1 [[.ptr (some ⟨c,0⟩)]]):=by rw[Heap.get_add,if_pos rfl]
 have hD2:=hD.turns (Turns.add Z H1 (.rows false 1 [[.ptr (some ⟨c,0⟩)]])) id id (fun _=>id)
 have hn1:=t.next
 have hn2:(H1.add (.rows false 1 [[.ptr (some ⟨c,0⟩)]])).next=H1.next+1:=rfl
 generalize H1.add (.rows false 1 [[.ptr (some ⟨c,0⟩)]])=H2 at t2 hx hD2 hn2
 have ha:=app_ptr (H:=H2) (x:=.run H1.next) (c:=c) h.nil (fun e=>by
  obtain⟨ds,h1,h2,h3,h4,_⟩:=h.ptrs e
  exact⟨ds,h1,h2,(t2.same _ h4 id).trans h3⟩) hx hmax
 have hX:∀ q,p=some q→H.Old q.b∧q.b≠b∧¬ H0.Old q.b∧(∀ x ∈ l,¬ x.foot q.b):=by
  intro q hq
  by_cases e:l=[]
  ·rw[(h.nil e).1] at hq;cases hq
  ·obtain⟨ds,h1,_,_,h4,h5,h6,h7⟩:=h.ptrs e
   rw[h1] at hq;cases hq
   exact⟨h4,h5,h6,h7⟩
 have tk:Turns (fun c=>∃ q,p=some q∧c=q.b) H2 (killP H2 p):=killP_turns H2 (fun q hq=>⟨q,hq,rfl⟩)
 have hkn:=killP_next H2 p
 have t3:=tk.addm (.rows false 1 (ptrRows l++[[.ptr (some ⟨c,0⟩)]]))
 have hds:((killP H2 p).add (.rows false 1 (ptrRows l++[[.ptr (some ⟨c,0⟩)]]))).get (.run H2.next)=some (.rows false 1 (ptrRows l++[[.ptr (some ⟨c,0⟩)]])):=by rw[Heap.get_add,if_pos (by rw[hkn])]
 have hdo:((killP H2 p).add (.rows false 1 (ptrRows l++[[.ptr (some ⟨c,0⟩)]]))).Old (.run H2.next):=by show _ < _;simp[hkn]
 generalize (killP H2 p).add (.rows false 1 (ptrRows l++[[.ptr (some ⟨c,0⟩)]]))=H3 at ha t3 hds hdo
 have hb2:H2.Old b:=h.old.mono t2.next
 have hbk:¬ ∃ q,p=some q∧b=q.b:=fun⟨q,hq,e⟩=>(hX q hq).2.1 e.symm
 have hown3:H3.get b=some (.rows false 4 [[.slice p l.length l.length o,r1,r2,r3]]):=(t3.same _ hb2 hbk).trans ((t2.same _ h.old id).trans h.own)
 have hst:storeAt H3 ⟨b,0⟩ [.slice (some ⟨.run H2.next,0⟩) (l.length+1) (l.length+1) 1]=some (H3.set b (.rows false 4 [[.slice (some ⟨.run H2.next,0⟩) (l.length+1) (l.length+1) 1,r1,r2,r3]])):=storeAt_eq hown3 (r:=[.slice p l.length l.length o,r1,r2,r3]) rfl rfl
 have t4:Turns (fun x=>x=b) H3 (H3.set b (.rows false 4 [[.slice (some ⟨.run H2.next,0⟩) (l.length+1) (l.length+1) 1,r1,r2,r3]])):=Turns.set (X:=fun x=>x=b) rfl _ _
 have hno:¬ H2.Old (.run H2.next):=Heap.not_old (Nat.le_refl _)
 have hnb:(Bk.run H2.next)≠b:=fun e=>hno (by rw[e];exact hb2)
 have cold:=hD2.foot_old
 refine⟨H3,_,.run H2.next,ha,hst,⟨?_,fun e=>absurd e (by simp),fun _=>⟨.run H2.next,rfl,rfl,?_,?_,hnb,fun e=>hno (e.mono (Nat.le_trans h.t.next t2.next)),?_⟩,?_,?_,?_,?_,h.new,?_,?_⟩⟩
 ·rw[Heap.get_set,if_pos rfl];simp
 ·rw[Heap.get_set,if_neg hnb,hds];simp[ptrRows]
 ·simp only[Heap.old_set];exact hdo
 ·intro x hx hf
  rcases List.mem_append.1 hx with hx | hx
  ·exact hno ((h.dev x hx).foot_old _ hf |>.mono t2.next)
  ·rw[List.mem_singleton.1 hx] at hf;exact hno (cold _ hf)
 ·have key:∀(x:Dv),DevAt H2 x.b x.y x.D→(∀ q,p=some q→¬ x.foot q.b)→¬ x.foot b→DevAt (H3.set b (.rows false 4 [[.slice (some ⟨.run H2.next,0⟩) (l.length+1) (l.length+1) 1,r1,r2,r3]])) x.b x.y x.D:=by
   intro x hx hq hb
   have g:=hx.turns t3 (fun⟨q,hp,e⟩=>hq q hp (.inl e.symm)) (fun⟨q,hp,e⟩=>hq q hp (.inr (.inl e.symm))) (fun hl ⟨q,hp,e⟩=>hq q hp (.inr (.inr ⟨hl,e.symm⟩)))
   exact g.turns t4 (fun e=>hb (.inl e.symm)) (fun e=>hb (.inr (.inl e.symm))) (fun hl e=>hb (.inr (.inr ⟨hl,e.symm⟩)))
  intro x hx
  rcases List.mem_append.1 hx with hx | hx
  ·exact key x ((h.dev x hx).turns t2 id id (fun _=>id)) (fun q hq=>(hX q hq).2.2.2 x hx) (h.out x hx)
  ·rw[List.mem_singleton.1 hx]
   exact key _ hD2 (fun q hq hf=>hF.foot _ hf (hX q hq).1) (fun hf=>hF.foot _ hf h.old)
 ·rw[List.pairwise_append]
  refine⟨h.sep,List.pairwise_singleton _ _,fun x hx z hz=>?_⟩
  rw[List.mem_singleton.1 hz]
  exact sep_fresh (h.dev x hx) hF
 ·intro x hx
  rcases List.mem_append.1 hx with hx | hx
  ·exact h.out x hx
  ·rw[List.mem_singleton.1 hx];exact fun hf=>hF.foot _ hf h.old
 ·simp only[Heap.old_set];exact hb2.mono t3.next
 ·intro x hx
  rcases List.mem_append.1 hx with hx | hx
  ·exact h.fresh x hx
  ·rw[List.mem_singleton.1 hx]
   exact⟨fun e=>hF.b (e.mono h.t.next),fun e=>hF.s (e.mono h.t.next),fun hl e=>hF.l hl (e.mono h.t.next)⟩
 ·have ta:=Turns.after (h.t.trans t2) t3 (fun x hx ⟨q,hq,e⟩=>(hX q hq).2.2.1 (by rw[← e];exact hx))
  exact Turns.after ta t4 (fun x hx e=>h.new (by rw[← e];exact hx))
theorem Grow.rep {H0 H:Heap} {b:Bk} {p:Option Ptr} {o:Nat} {l:List Dv} {r:Bool} {B:Bn} (h:Grow H0 H b p o l (n1 r B) (n2 r B) (n3 r B)) (hl:l≠[]) (hm:l.map Dv.D=B.l):∃ ds,p=some ⟨ds,0⟩∧o=1∧Rep r H b ds 1 l B∧∀ c,BFoot b ds l c→¬ H0.Old c:=by
 obtain⟨ds,rfl,rfl,h3,h4,h5,h6,h7⟩:=h.ptrs hl
 refine⟨ds,rfl,rfl,⟨⟨h.own,h3,fun i hi=>h.dev _ (List.getElem_mem hi),?_,⟨h.old,h4⟩,fun e=>h5 e.symm,fun i hi=>⟨h.out _ (List.getElem_mem hi),h7 _ (List.getElem_mem hi)⟩⟩,hm⟩,?_⟩
 ·intro i j hi hj hij
  have hp:=List.pairwise_iff_getElem.1 h.sep
  rcases Nat.lt_or_gt_of_ne hij with e | e
  ·exact hp i j hi hj e
  ·exact(hp j i hj hi e).symm
 ·rintro c (rfl | rfl | ⟨x,hx,hc⟩)
  ·exact h.new
  ·exact h6
  ·exact(h.fresh x hx).foot c hc
theorem dnew_err (H:Heap) {n:Int} (h:n < 1∨512 < n) (lf m:Nat):callS Tryz.prog S0 lf (m+1) 104 [.int .i64 n] H=some (.v (.tuple [.ptr none,.int .i64 2]),H):=by
 obtain⟨v,H',e,rfl,rfl⟩:ret (callS Tryz.prog S0 lf (m+1) 104 [.int .i64 n] H) fun v H'=>v=.tuple [.ptr none,.int .i64 2]∧H'=H:=by
  refine ret_call rfl c104_eq ?_
  by_cases h1:n < 1
  ·simp only[c104,h1,sy,tup,↓reduceIte,zA,zG,zC,zD,zF,zE,zB,zH,reduceCtorEq]
   exact⟨trivial,.inr trivial,_,rfl,rfl,trivial⟩
  ·have h2:512 < n:=by omega
   simp only[c104,h1,h2,sy,tup,↓reduceIte,zA,zG,zC,zD,zF,zE,zB,zH,reduceCtorEq]
   exact⟨trivial,.inr trivial,_,rfl,rfl,trivial⟩
 exact e
def okSizes (P:List Int):Prop:=1≤P.length∧P.length≤17∧∀ n ∈ P,1≤n∧n≤512
def newB (P:List Int):Bn:=⟨P.map fun n=>blank n.toNat,0,0,false⟩
theorem grow0 (H:Heap) (r1 r2 r3:V):Grow H (H.add (.rows false 4 [[.slice none 0 0 0,r1,r2,r3]])) (.run H.next) none 0 [] r1 r2 r3:=
 ⟨by rw[Heap.get_add,if_pos rfl];rfl,fun _=>⟨rfl,rfl⟩,fun e=>absurd rfl e,fun x hx=>absurd hx (by simp),List.Pairwise.nil,fun x hx=>absurd hx (by simp),by show _ < _;simp,Heap.not_old (Nat.le_refl _),fun x hx=>absurd hx (by simp),Turns.add Z H _⟩
def NewedAt (r:Bool) (P:List Int) (H:Heap) (v:V) (H':Heap):Prop:=
 Turns Z H H'∧((¬ okSizes P∧v=.tuple [.ptr none,.int .i64 2])∨(okSizes P∧∃ ds l,v=.tuple [.ptr (some ⟨.run H.next,0⟩),.int .i64 0]∧Rep r H' (.run H.next) ds 1 l (newB P)∧∀ c,BFoot (.run H.next) ds l c→¬ H.Old c))
theorem bnew_at (H:Heap) {pp:Option Ptr} {P:List Int} {pc po:Nat} (hP:PicksAt H pp P Z) {lf:Nat} (hlf:1000 < lf) (m:Nat) :
  ret (callS Tryz.prog S0 lf (m+2) 26 [.slice pp P.length pc po] H) (NewedAt false P H):=by
 refine ret_call rfl c26_eq ?_
 by_cases hlen:1≤P.length∧P.length≤17
 ·obtain⟨g1,g2⟩:=hlen
  have g1':¬ ((P.length:Int) < 1):=by omega
  have g2':¬ (17 < (P.length:Int)):=by omega
  have G0:=grow0 H (.int .i64 0) (.int .i64 0) (.bool false)
  have hloop:∀ t:T,t.getP (Tr.path 4)=some (.ptr (some ⟨.run H.next,0⟩))→t.getP (Tr.path 19)=some (.slice pp P.length pc po)→t.getP (Tr.path 20)=some (.int .i64 (P.length:Int))→t.getP (Tr.path 21)=some (.int .i64 0) →
    wp (loopF (runC (callS Tryz.prog S0 lf (m+1)) lf c26_l0) lf ⟨t,H.add (.rows false 4 [[.slice none 0 0 0,.int .i64 0,.int .i64 0,.bool false]]),[]⟩) fun x s=>
     s.d=[]∧((x=.ret∧¬ okSizes P∧s.t.getP (Tr.path 2)=some (.ptr none)∧s.t.getP (Tr.path 3)=some (.int .i64 2)∧Turns Z H s.H)∨(x=.ex 0∧s.t.getP (Tr.path 4)=some (.ptr (some ⟨.run H.next,0⟩))∧okSizes P∧∃ p o l,Grow H s.H (.run H.next) p o l (.int .i64 0) (.int .i64 0) (.bool false)∧l.map Dv.D=P.map (fun n=>blank n.toNat))):=by
   intro t q4 q19 q20 q21
   refine wp_loopF (fun k s=>∃ i p o l,i+k=P.length∧s.d=[]∧s.t.getP (Tr.path 4)=some (.ptr (some ⟨.run H.next,0⟩))∧s.t.getP (Tr.path 19)=some (.slice pp P.length pc po)∧s.t.getP (Tr.path 20)=some (.int .i64 (P.length:Int))∧s.t.getP (Tr.path 21)=some (.int .i64 ((i:Nat):Int))∧Grow H s.H (.run H.next) p o l (.int .i64 0) (.int .i64 0) (.bool false)∧l.map Dv.D=(P.take i).map (fun n=>blank n.toNat)∧∀ n ∈ P.take i,1≤n∧n≤512) ?_ lf P.length _ ⟨0,none,0,[],by omega,rfl,q4,q19,q20,q21,G0,rfl,fun n hn=>absurd hn (by simp)⟩ (by omega)
   rintro k ⟨t,HH,d⟩ ⟨i,p,o,l,hi,rfl,q4,q19,q20,q21,hG,hm,hok⟩
   dsimp only at q4 q19 q20 q21 hG
   by_cases hiP:i < P.length
   ·obtain⟨x,ox,hpx,l1⟩:=(hP.turns hG.t).load hiP
    rw[hpx] at q19
    have hi1:i+1≤P.length:=hiP
    have hw:IntKind.i64.wrap ((i:Int)+1)=((i+1:Nat):Int):=by rw[wrap_i64 (by omega)];rfl
    have hw':IntKind.i64.wrap ((i:Int)+1)=(i:Int)+1:=wrap_i64 (by omega)
    by_cases hn:1≤P[i]∧P[i]≤512
    ·obtain⟨v,H1,e1,rfl,hD,t1⟩:=new_ok HH (n:=P[i].toNat) (by omega) (by omega) lf m
     rw[show ((P[i].toNat:Nat):Int)=P[i] from by omega] at e1
     have hF:Fresh HH (.run (HH.next+1)) ⟨.run HH.next,0,.run HH.next,none,0⟩ (blank P[i].toNat):=⟨Heap.not_old (by omega),Heap.not_old (Nat.le_refl _),fun e=>absurd rfl e⟩
     have hll:l.length=i:=by have:=congrArg List.length hm;simpa [Nat.min_eq_left (Nat.le_of_lt hiP)] using this
     obtain⟨H3,H4,ds,ha,hs,hG'⟩:=hG.step t1 hD hF (by omega)
     have l0:=hG.load t1
     have l0':=hG.load (t1.addm (.rows false 1 [[.ptr (some ⟨.run (HH.next+1),0⟩)]]))
     simp only[c26_l0,q4,q19,q20,q21,hiP,hi1,l1,e1,l0,l0',ha,hs,hw',Nat.mul_one,sy,tup,↓reduceIte,zA,zG,zC,zD,zF,zE,zB,zH,reduceCtorEq]
     refine⟨k - 1,by omega,i+1,_,_,_,by omega,trivial,trivial,by rw[hpx],trivial,rfl,hG',?_,?_⟩
     ·rw[List.map_append,hm,List.take_succ_eq_append_getElem hiP,List.map_append];rfl
     ·rw[List.take_succ_eq_append_getElem hiP]
      intro z hz
      rcases List.mem_append.1 hz with hz | hz
      ·exact hok z hz
      ·rw[List.mem_singleton.1 hz];exact hn
    ·have e1:=dnew_err HH (n:=P[i]) (by omega) lf m
     have hbad:¬ okSizes P:=fun h=>hn (h.2.2 _ (List.getElem_mem hiP))
     simp only[c26_l0,q4,q19,q20,q21,hiP,hi1,l1,e1,Nat.mul_one,sy,tup,↓reduceIte,zA,zG,zC,zD,zF,zE,zB,zH,reduceCtorEq]
     exact⟨trivial,.inl ⟨trivial,hbad,trivial,trivial,hG.t⟩⟩
   ·have hg:¬ (i < P.length):=hiP
    have hiL:P.take i=P:=List.take_of_length_le (by omega)
    rw[hiL] at hm hok
    simp only[c26_l0,q4,q19,q20,q21,hg,sy,tup,↓reduceIte,zA,zG,zC,zD,zF,zE,zB,zH,reduceCtorEq]
    refine⟨trivial,.inr ⟨trivial,trivial,⟨g1,g2,hok⟩,p,o,l,hG,hm⟩⟩
  simp only[c26,g1',g2',sy,tup,↓reduceIte,zA,zG,zC,zD,zF,zE,zB,zH,reduceCtorEq]
  refine wp_ctx (F:=fun r=>seqC _ _ _ (blockC _ r)) (hloop _ ?_ ?_ ?_ ?_) ?_
  ·simp only[sy,tup,↓reduceIte,zA,zG,zC,zD,zF,zE,zB,zH,reduceCtorEq]
  ·simp only[sy,tup,↓reduceIte,zA,zG,zC,zD,zF,zE,zB,zH,reduceCtorEq]
  ·simp only[sy,tup,↓reduceIte,zA,zG,zC,zD,zF,zE,zB,zH,reduceCtorEq]
  ·simp only[sy,tup,↓reduceIte,zA,zG,zC,zD,zF,zE,zB,zH,reduceCtorEq]
  rintro x ⟨t,HH,d⟩ ⟨rfl,⟨rfl,hbad,q2,q3,hT⟩ | ⟨rfl,q4,hok,p,o,l,hG,hm⟩⟩
  ·dsimp only at q2 q3 hT
   simp only[q2,q3,sy,tup,↓reduceIte,zA,zG,zC,zD,zF,zE,zB,zH,reduceCtorEq]
   exact⟨trivial,.inr trivial,_,rfl,hT,.inl ⟨hbad,rfl⟩⟩
  ·dsimp only at q4 hG
   have hl:l≠[]:=fun e=>by
    have:=congrArg List.length hm
    rw[e] at this;simp at this;omega
   obtain⟨ds,rfl,rfl,hR,hN⟩:=Grow.rep (r:=false) (B:=newB P) hG hl hm
   simp only[q4,sy,tup,↓reduceIte,zA,zG,zC,zD,zF,zE,zB,zH,reduceCtorEq]
   exact⟨trivial,.inr trivial,_,rfl,hG.t,.inr ⟨hok,ds,l,rfl,hR,hN⟩⟩
 ·have hbad:¬ okSizes P:=fun h=>hlen ⟨h.1,h.2.1⟩
  by_cases g1:(P.length:Int) < 1
  ·simp only[c26,g1,sy,tup,↓reduceIte,zA,zG,zC,zD,zF,zE,zB,zH,reduceCtorEq]
   exact⟨trivial,.inr trivial,_,rfl,Turns.refl Z H,.inl ⟨hbad,rfl⟩⟩
  ·have g2:17 < (P.length:Int):=by omega
   simp only[c26,g1,g2,sy,tup,↓reduceIte,zA,zG,zC,zD,zF,zE,zB,zH,reduceCtorEq]
   exact⟨trivial,.inr trivial,_,rfl,Turns.refl Z H,.inl ⟨hbad,rfl⟩⟩
end Go.Proofs.YtllkepkaimnodaaGreatDoor.disk
namespace Go.Proofs.YtllkepkaimnodaaGreatDoor.disk
open Go.Am
theorem tc_dev {B:Bn} {d:Int} (h:B.tc d=0):B.dev d ∈ B.l:=by
 unfold Bn.tc at h
 rcases tcode_cases B.l.length d with ⟨i,hi,rfl,_⟩ | e
 ·unfold Bn.dev
  simp only[Int.toNat_natCast,List.getD]
  rw[List.getElem?_eq_getElem hi]
  exact List.getElem_mem hi
 ·rw[e] at h;cases h
theorem lc_tc {B:Bn} {d:Int} (h:B.lc d=0):B.tc d=0:=by
 unfold Bn.lc at h
 split at h
 ·cases h
 ·exact h
theorem rc_lc {B:Bn} {d n:Int} (h:B.rc d n=0):B.lc d=0:=by
 by_cases e:B.lc d=0
 ·exact e
 ·rw[show B.rc d n=B.lc d from if_neg e] at h;exact absurd h e
end Go.Proofs.YtllkepkaimnodaaGreatDoor.disk
namespace Go.Proofs.YtllkepkaimnodaaGreatDoor.disk
open Go.Am
def dropP (pp:Option Ptr) (pc n:Nat):Option Ptr:=if pc=n then pp else pp.map fun p=>⟨p.b,p.o+n⟩
theorem PicksAt.drop {H:Heap} {pp:Option Ptr} {P:List Int} {X:Bk→Prop} (h:PicksAt H pp P X) {pc:Nat} (hc:P.length≤pc) (n:Nat):PicksAt H (dropP pp pc n) (P.drop n) X:=⟨fun e=>by
 have hn:n < P.length:=by
  by_cases hn:n < P.length
  ·exact hn
  ·exact absurd (List.drop_eq_nil_of_le (by omega)) e
 obtain⟨x,ox,ro,rows,rfl,ho,hx,hg,hr⟩:=h.has (fun e=>by rw[e] at hn;simp at hn)
 refine⟨x,ox+n,ro,rows,by unfold dropP;rw[if_neg (by omega)];rfl,ho,hx,hg,fun i hi=>?_⟩
 have hi':n+i < P.length:=by simp at hi;omega
 rw[Nat.add_assoc,hr (n+i) hi']
 simp⟩
theorem PicksAt.mono {H:Heap} {pp:Option Ptr} {P:List Int} {X Y:Bk→Prop} (h:PicksAt H pp P X) (hY:∀ c,Y c→X c):PicksAt H pp P Y:=⟨fun e=>by
 obtain⟨x,ox,ro,rows,h1,ho,hx,hg,hr⟩:=h.has e
 exact⟨x,ox,ro,rows,h1,ho,fun hc=>hx (hY _ hc),hg,hr⟩⟩
theorem RNext.trans {r:Bool} {H H1 H2:Heap} {b ds:Bk} {so:Nat} {l l1 l2:List Dv} {B1 B2:Bn} (h:RNext r H b ds so l H1 l1 B1) (k:RNext r H1 b ds so l1 H2 l2 B2):RNext r H b ds so l H2 l2 B2:=
 ⟨k.rep,Turns.after h.turns k.turns (fun c hc hx=>(h.foot c hx).elim id (fun e=>absurd hc e)),fun c hc=>by
  rcases k.foot c hc with hc | hc
  ·exact h.foot c hc
  ·exact .inr (fun o=>hc (o.mono h.turns.next))⟩
def noDev:Dev:=⟨[],[],false⟩
def pos (l:List Dev) (P:List Int):Nat→Nat
 | 0=>0
 | i+1=>pos l P i+min (l.getD i noDev).L.length (P.drop (pos l P i)).length
theorem DvsAt.turnsX {H H':Heap} {b ds:Bk} {so:Nat} {l:List Dv} {r1 r2 r3:V} (h:DvsAt H b ds so l r1 r2 r3) {X:Bk→Prop} (k:Turns X H H') (hX:∀ c,BFoot b ds l c→¬ X c):DvsAt H' b ds so l r1 r2 r3:=
 ⟨(k.same _ h.old.1 (hX _ (.inl rfl))).trans h.own,(k.same _ h.old.2 (hX _ (.inr (.inl rfl)))).trans h.ptrs,fun i hi=>(h.dev i hi).turns k (hX _ (.inr (.inr ⟨_,List.getElem_mem hi,.inl rfl⟩))) (hX _ (.inr (.inr ⟨_,List.getElem_mem hi,.inr (.inl rfl)⟩))) (fun hl=>hX _ (.inr (.inr ⟨_,List.getElem_mem hi,.inr (.inr ⟨hl,rfl⟩)⟩))),h.sep,⟨h.old.1.mono k.next,h.old.2.mono k.next⟩,h.ne,h.out⟩
theorem Rep.foot_old {r:Bool} {H:Heap} {b ds:Bk} {so:Nat} {l:List Dv} {B:Bn} (h:Rep r H b ds so l B):∀ c,BFoot b ds l c→H.Old c:=by
 rintro c (rfl | rfl | ⟨x,hx,hc⟩)
 ·exact h.row.old.1
 ·exact h.row.old.2
 ·obtain⟨i,hi,rfl⟩:=List.getElem_of_mem hx
  exact(h.row.dev i hi).foot_old _ hc
theorem Rep.turnsX {r:Bool} {H H':Heap} {b ds:Bk} {so:Nat} {l:List Dv} {B:Bn} (h:Rep r H b ds so l B) {X:Bk→Prop} (k:Turns X H H') (hX:∀ c,BFoot b ds l c→¬ X c):Rep r H' b ds so l B:=⟨h.row.turnsX k hX,h.map⟩
end Go.Proofs.YtllkepkaimnodaaGreatDoor.disk
namespace Go.Proofs.YtllkepkaimnodaaGreatDoor.disk
open Go.Am
noncomputable def c105:CFn:=⟨[.tmp (pp 2),.tmp (pp 3)],
 .seq (.reg [
 qo 2 (.p (S.get (.c (.ptr none)))) [],
 qo 3 (.p (S.get (ii 0))) []]) (
 .seq (.seq (.reg [
 mv 4 0,
 qo 5 (.p (arF .lss (tt 4) (ii 1))) [pp 4],
 mv 6 5,
 mg 7 0 6 false,
 qg 8 (.p (arF .gtr (tt 7) (ii 512))) 6 false [pp 7],
 qo 9 (.p (pickF (tt 6) (.c (.bool true)) (tt 8))) [pp 6,pp 8]]) (
 .cond (tt 9) (.seq (.reg [
 qo 2 (.p (S.get (.c (.ptr none)))) [],
 qo 3 (.p (S.get (ii 2))) []]) (
 .ret)) (.skip))) (
 .seq (.reg [
 mv 10 0,
 qo 11 (.m (mksliceF 64 64 [.blk 0] (tt 10) (tt 10))) [pp 10,pp 10],
 qo 12 (.p (buildF [.slice none 0 0 0,.slice none 0 0 0,.bool false] .ag [(0,1,(tt 11))])) [pp 11],
 qo 13 (.m (boxF 3 (tt 12))) [pp 12],
 mv 2 13,
 qo 3 (.p (S.get (ii 0))) []]) (
 .ret)))⟩
theorem c105_eq:fnOf Tryz.prog 105=some c105:=by kernel_rfl
noncomputable def c35:CFn:=⟨[.tmp (pp 4)],
 .seq (.reg [
 qo 4 (.p (S.get (ii 0))) []]) (
 .seq (.seq (.reg [
 mv 5 1,
 qo 6 (.p (arF .lss (tt 5) (ii 0))) [pp 5],
 mv 7 6,
 mg 8 1 7 false,
 mg 9 0 7 false,
 qg 10 (.p (nilcF (tt 9))) 7 false [pp 9],
 qg 11 (.p (faddrF (tt 10) 0)) 7 false [pp 10],
 qg 12 (.r (loadF (tt 11) 1 .sc)) 7 false [pp 11],
 qg 13 (.p (lenF (tt 12))) 7 false [pp 12],
 qg 14 (.p (arF .geq (tt 8) (tt 13))) 7 false [pp 8,pp 13],
 qo 15 (.p (pickF (tt 7) (.c (.bool true)) (tt 14))) [pp 7,pp 14]]) (
 .cond (tt 15) (.seq (.reg [
 qo 4 (.p (S.get (ii 2))) []]) (
 .ret)) (.skip))) (
 .seq (.seq (.reg [
 mv 16 0,
 qo 17 (.p (nilcF (tt 16))) [pp 16],
 qo 18 (.p (faddrF (tt 17) 2)) [pp 17],
 qo 19 (.r (loadF (tt 18) 1 .sc)) [pp 18]]) (
 .cond (tt 19) (.seq (.reg [
 qo 4 (.p (S.get (ii 9))) []]) (
 .ret)) (.skip))) (
 .seq (.reg [
 qo 4 (.p (S.get (ii 0))) []]) (
 .ret))))⟩
theorem c35_eq:fnOf Tryz.prog 35=some c35:=by kernel_rfl
noncomputable def c37:CFn:=⟨[.tmp (pp 6)],
 .seq (.reg [
 qo 5 (.m (boxF 64 (tt 2))) [pp 2],
 qo 6 (.p (S.get (ii 0))) []]) (
 .seq (.reg [
 mv 8 0,
 mv 9 1,
 qo 10 (.c (callF (ff 35) [(tt 8),(tt 9)])) [pp 8,pp 9],
 mv 7 10]) (
 .seq (.seq (.reg [
 mv 11 7,
 qo 12 (.p (eqcF true false [.int .i64] (tt 11) (ii 0))) [pp 11]]) (
 .cond (tt 12) (.seq (.reg [
 mv 13 7,
 mv 6 13]) (
 .ret)) (.skip))) (
 .seq (.regD [
 mv 14 0,
 mv 15 0,
 qo 16 (.p (nilcF (tt 15))) [pp 15],
 qo 17 (.p (faddrF (tt 16) 1)) [pp 16],
 qo 18 (.r (loadF (tt 17) 1 .sc)) [pp 17],
 mv 19 1,
 qo 20 (.r (loadF (tt 5) 64 .bk)) [pp 5],
 qo 21 (.p (buildF [.int .i64 0,.blk 0] .ag [(0,1,(tt 19)),(1,64,(tt 20))])) [pp 19,pp 20],
 qo 22 (.m (bsliceF 1 65 [.int .i64 0,.blk 0] [(0,65,(tt 21))])) [pp 21],
 qo 23 (.a (appF 65 72 (tt 18) (tt 22))) [pp 18,pp 22],
 qo 24 (.p (nilcF (tt 14))) [pp 14],
 qo 25 (.p (faddrF (tt 24) 1)) [pp 24],
 qn (.a (storeF (tt 25) (tt 23) 1)) [pp 25,pp 23]] [0,0,2,6,14,0,0,96,224,510,1023,2047,4095]) (
 .seq (.reg [
 qo 6 (.p (S.get (ii 0))) []]) (
 .ret)))))⟩
theorem c37_eq:fnOf Tryz.prog 37=some c37:=by kernel_rfl
noncomputable def c120_l0:C:=.seq (.seq (.reg [
 mv 23 8,
 mv 24 0,
 qo 25 (.p (nilcF (tt 24))) [pp 24],
 qo 26 (.p (faddrF (tt 25) 1)) [pp 25],
 qo 27 (.r (loadF (tt 26) 1 .sc)) [pp 26],
 qo 28 (.p (lenF (tt 27))) [pp 27],
 qo 29 (.p (arF .lss (tt 23) (tt 28))) [pp 23,pp 28]]) (
 .cond (tt 29) (.skip) (.exit 0))) (
 .seq (.block 1 (.seq (.reg [
 mv 32 0,
 qo 33 (.p (nilcF (tt 32))) [pp 32],
 qo 34 (.p (faddrF (tt 33) 1)) [pp 33],
 qo 35 (.r (loadF (tt 34) 1 .sc)) [pp 34],
 mv 36 8,
 qo 37 (.p (iaddrSF (tt 35) (tt 36) 65)) [pp 35,pp 36],
 qo 38 (.p (faddrF (tt 37) 0)) [pp 37],
 qo 39 (.r (loadF (tt 38) 1 .sc)) [pp 38],
 mv 40 1,
 qo 41 (.p (eqcF false false [.int .i64] (tt 39) (tt 40))) [pp 39,pp 40]]) (
 .cond (tt 41) (.reg [
 mv 42 0,
 qo 43 (.p (nilcF (tt 42))) [pp 42],
 qo 44 (.p (faddrF (tt 43) 1)) [pp 43],
 qo 45 (.r (loadF (tt 44) 1 .sc)) [pp 44],
 mv 46 8,
 qo 47 (.p (iaddrSF (tt 45) (tt 46) 65)) [pp 45,pp 46],
 qo 48 (.p (faddrF (tt 47) 1)) [pp 47],
 qo 49 (.r (loadF (tt 48) 64 .bk)) [pp 48],
 qn (.a (storeF (tt 7) (tt 49) 64)) [pp 7,pp 49]]) (.skip)))) (
 .reg [
 mv 30 8,
 qo 31 (.p (arF .add (tt 30) (ii 1))) [pp 30],
 mv 8 31]))
noncomputable def c120:CFn:=⟨[.cell (pp 4) 64 .bk,.tmp (pp 5)],
 .seq (.reg [
 qo 4 (.m (allocF 64 [.blk 0])) [],
 qo 5 (.p (S.get (ii 0))) []]) (
 .seq (.reg [
 mv 9 0,
 mv 10 1,
 qo 11 (.c (callF (ff 35) [(tt 9),(tt 10)])) [pp 9,pp 10],
 mv 6 11]) (
 .seq (.seq (.reg [
 mv 12 6,
 qo 13 (.p (eqcF true false [.int .i64] (tt 12) (ii 0))) [pp 12]]) (
 .cond (tt 13) (.seq (.reg [
 qo 14 (.p (buildF [.blk 0] .bk [])) [],
 mv 15 6,
 qn (.a (storeF (tt 4) (tt 14) 64)) [pp 4,pp 14],
 mv 5 15]) (
 .ret)) (.skip))) (
 .seq (.reg [
 mv 16 0,
 qo 17 (.p (nilcF (tt 16))) [pp 16],
 qo 18 (.p (faddrF (tt 17) 0)) [pp 17],
 qo 19 (.r (loadF (tt 18) 1 .sc)) [pp 18],
 mv 20 1,
 qo 21 (.p (iaddrSF (tt 19) (tt 20) 64)) [pp 19,pp 20],
 qo 22 (.r (loadF (tt 21) 64 .bk)) [pp 21],
 qo 7 (.m (allocF 64 [.blk 0])) [],
 qn (.a (storeF (tt 7) (tt 22) 64)) [pp 7,pp 22]]) (
 .seq (.seq (.reg [
 qo 8 (.p (S.get (ii 0))) []]) (
 .block 0 (.loop c120_l0))) (
 .seq (.reg [
 qo 50 (.r (loadF (tt 7) 64 .bk)) [pp 7],
 qn (.a (storeF (tt 4) (tt 50) 64)) [pp 4,pp 50],
 qo 5 (.p (S.get (ii 0))) []]) (
 .ret))))))⟩
theorem c120_eq:fnOf Tryz.prog 120=some c120:=by kernel_rfl
theorem rnew_ok (H:Heap) {n:Nat} (h1:1≤n) (h2:n≤512) (lf m:Nat):ret (callS Tryz.prog S0 lf (m+1) 105 [.int .i64 (n:Int)] H) fun v H'=>v=.tuple [.ptr (some ⟨.run (H.next+1),0⟩),.int .i64 0] ∧
  DevAt H' (.run (H.next+1)) ⟨.run H.next,0,.run H.next,none,0⟩ ⟨List.replicate n 0,[],false⟩∧Turns Z H H':=by
 have g1:¬ ((n:Int) < 1):=by omega
 have g2:¬ (512 < (n:Int)):=by omega
 have g3:n≤n:=Nat.le_refl _
 have g4:n*64≤1099511627776:=by omega
 have g4':64*n≤1099511627776:=by omega
 have g5:n≤1099511627776:=by omega
 refine ret_call rfl c105_eq ?_
 simp only[c105,g1,g2,g3,g4,g4',g5,mksliceF,sy,tup,↓reduceIte,zA,zG,zC,zD,zF,zE,zB,zH,reduceCtorEq]
 refine⟨trivial,.inr trivial,_,rfl,rfl,?_,((Turns.refl Z H).addm _).addm _⟩
 refine⟨?_,?_,fun _=>⟨rfl,rfl⟩,fun e=>absurd rfl e,⟨?_,?_,fun e=>absurd rfl e⟩,by simp,fun e=>absurd rfl e⟩
 ·rw[Heap.get_add,if_pos (by simp)];simp
 ·rw[Heap.get_add,if_neg (by simp),Heap.get_add,if_pos rfl]
  simp[sureRows]
 ·show _ < _
  first | (simp;done) | (simp;omega)
 ·show _ < _
  first | (simp;done) | (simp;omega)
theorem rnew_err (H:Heap) {n:Int} (h:n < 1∨512 < n) (lf m:Nat):callS Tryz.prog S0 lf (m+1) 105 [.int .i64 n] H=some (.v (.tuple [.ptr none,.int .i64 2]),H):=by
 obtain⟨v,H',e,rfl,rfl⟩:ret (callS Tryz.prog S0 lf (m+1) 105 [.int .i64 n] H) fun v H'=>v=.tuple [.ptr none,.int .i64 2]∧H'=H:=by
  refine ret_call rfl c105_eq ?_
  by_cases h1:n < 1
  ·simp only[c105,h1,sy,tup,↓reduceIte,zA,zG,zC,zD,zF,zE,zB,zH,reduceCtorEq]
   exact⟨trivial,.inr trivial,_,rfl,rfl,trivial⟩
  ·have h2:512 < n:=by omega
   simp only[c105,h1,h2,sy,tup,↓reduceIte,zA,zG,zC,zD,zF,zE,zB,zH,reduceCtorEq]
   exact⟨trivial,.inr trivial,_,rfl,rfl,trivial⟩
 exact e
theorem asks_code {H:Heap} {b:Bk} {y:Lay} {D:Dev} (h:DevAt H b y D) (n:Int) (lf m:Nat):ret (callS Tryz.prog S0 lf (m+1) 35 [.ptr (some ⟨b,0⟩),.int .i64 n] H) fun v H'=>v=.int .i64 (code D n)∧H'=H:=by
 have h0:=load0 h
 have h2:=load2 h
 refine ret_call rfl c35_eq ?_
 by_cases hlt:n < 0
 ·rw[code_out (.inl hlt)]
  simp only[c35,h0,h2,hlt,sy,tup,↓reduceIte,zA,zG,zC,zD,zF,zE,zB,zH,reduceCtorEq]
  simp
 ·by_cases hge:(D.S.length:Int)≤n
  ·rw[code_out (.inr hge)]
   simp only[c35,h0,h2,hlt,hge,sy,tup,↓reduceIte,zA,zG,zC,zD,zF,zE,zB,zH,reduceCtorEq]
   simp
  ·cases hd:D.dead with
   | true=>
    rw[code_dead (by omega) hd]
    simp only[c35,h0,h2,hd,hlt,hge,sy,tup,↓reduceIte,zA,zG,zC,zD,zF,zE,zB,zH,reduceCtorEq]
    simp
   | false=>
    rw[code_ok (by omega) hd]
    simp only[c35,h0,h2,hd,hlt,hge,sy,tup,↓reduceIte,zA,zG,zC,zD,zF,zE,zB,zH,reduceCtorEq]
    simp
theorem rwrite_all {H:Heap} {b:Bk} {y:Lay} {D:Dev} (h:DevAt H b y D) (hmax:D.L.length < 1000000) (n:Int) (B:Nat) (lf m:Nat) :
  ret (callS Tryz.prog S0 lf (m+2) 37 [.ptr (some ⟨b,0⟩),.int .i64 n,.blk B] H) fun v H'=>v=.int .i64 (code D n)∧∃ y',Next H b y D H' y' (D.write n B):=by
 have t1:=Turns.add Z H (.rows false 64 [[.blk B]])
 have h':=h.turns t1 id id (fun _=>id)
 have err:∀ z:Int,z=2∨z=9→code D n=z→ret (callS Tryz.prog S0 lf (m+2) 37 [.ptr (some ⟨b,0⟩),.int .i64 n,.blk B] H) fun v H'=>v=.int .i64 (code D n)∧∃ y',Next H b y D H' y' (D.write n B):=by
  intro z hz hc
  have hw:D.write n B=D:=if_neg (by rw[hc];omega)
  have hz0:(z==0)=false:=by simp;omega
  refine ret_call rfl c37_eq ?_
  obtain⟨v,H1,e,rfl,e1⟩:=asks_code h' n lf m
  subst e1
  rw[hc] at e
  simp only[c37,e,hz0,sy,tup,↓reduceIte,zA,zG,zC,zD,zF,zE,zB,zH,reduceCtorEq]
  rw[hw,hc]
  exact⟨trivial,.inr trivial,_,rfl,rfl,y,Next.idle h t1⟩
 rcases code_cases D n with ⟨k,rfl,hk,hd,hc⟩ | hc | hc
 ·rw[hc]
  have hw:D.write (k:Int) B={ D with L:=D.L++[(k,B)] }:=if_pos hc
  rw[hw]
  have t2:=t1.addm (.rows false 65 [[.int .i64 (k:Int),.blk B]])
  have h'':=h.turns t2 id id (fun _=>id)
  have l1:=load1 h'
  have hx:((H.add (.rows false 64 [[.blk B]])).add (.rows false 65 [[.int .i64 (k:Int),.blk B]])).get (.run (H.next+1))=some (.rows false 65 [[.int .i64 (k:Int),.blk B]]):=by
   rw[Heap.get_add,if_pos (by simp)]
  have ha:=app_dev h'' hmax hx
  refine ret_call rfl c37_eq ?_
  obtain⟨v,H1,e,rfl,e1⟩:=asks_code h' (k:Int) lf m
  subst e1
  rw[hc] at e
  have hst:storeAt ((killed ((H.add (.rows false 64 [[.blk B]])).add (.rows false 65 [[.int .i64 (k:Int),.blk B]])) y D).add (.rows false 65 (looseRows (D.L++[(k,B)])))) ⟨b,1⟩ [.slice (some ⟨.run (H.next+1+1),0⟩) (D.L.length+1) (D.L.length+1) 65]=some (((killed ((H.add (.rows false 64 [[.blk B]])).add (.rows false 65 [[.int .i64 (k:Int),.blk B]])) y D).add (.rows false 65 (looseRows (D.L++[(k,B)])))).set b (.rows false 3 [[.slice (some ⟨y.s,0⟩) D.S.length D.S.length y.so,.slice (some ⟨.run (H.next+1+1),0⟩) (D.L.length+1) (D.L.length+1) 65,.bool D.dead]])):=by
   have hg:((killed ((H.add (.rows false 64 [[.blk B]])).add (.rows false 65 [[.int .i64 (k:Int),.blk B]])) y D).add (.rows false 65 (looseRows (D.L++[(k,B)])))).get b=some (.rows false 3 [[.slice (some ⟨y.s,0⟩) D.S.length D.S.length y.so,.slice y.p D.L.length D.L.length y.o,.bool D.dead]]):=by
    rw[Heap.get_add,if_neg (fun e:b=_=>Heap.not_old (Nat.le_refl _) (by rw[← killed_next _ y D,← e];exact h''.old.1)),killed_get (fun hL=>(h.ne.2 hL).1),h''.own]
   exact storeAt_eq hg (r:=[.slice (some ⟨y.s,0⟩) D.S.length D.S.length y.so,.slice y.p D.L.length D.L.length y.o,.bool D.dead]) rfl (put_own _ _ _ _ rfl rfl rfl)
  simp only[c37,e,l1,ha,hst,sy,tup,↓reduceIte,zA,zG,zC,zD,zF,zE,zB,zH,reduceCtorEq]
  rw[endD_ok (by kernel_rfl) (by kernel_rfl)]
  simp only[sy,tup,↓reduceIte,zA,zG,zC,zD,zF,zE,zB,zH,reduceCtorEq]
  refine⟨trivial,.inr trivial,_,rfl,rfl,⟨y.s,y.so,.run (H.next+1+1),some ⟨.run (H.next+1+1),0⟩,65⟩,?_⟩
  have hn2:((H.add (.rows false 64 [[.blk B]])).add (.rows false 65 [[.int .i64 (k:Int),.blk B]])).next=H.next+1+1:=by simp
  have hnew:∀ c,H.Old c→c≠.run (H.next+1+1):=fun c hc e=>Heap.not_old (H:=H) (n:=H.next+1+1) (by omega) (e ▸ hc)
  obtain⟨o1,o2,o3⟩:=h.old
  refine⟨⟨?_,?_,fun hL=>absurd hL (by simp),fun _=>⟨rfl,rfl,?_⟩,⟨?_,?_,fun _=>?_⟩,h.ne.1,fun _=>⟨hnew _ o1,hnew _ o2⟩⟩,?_,rfl,fun _=>.inr (Heap.not_old (by omega))⟩
  ·rw[Heap.get_set,if_pos rfl];simp
  ·rw[Heap.get_set,if_neg (Ne.symm h.ne.1),Heap.get_add,killed_next,hn2,if_neg (hnew _ o2),killed_get (fun hL=>(h.ne.2 hL).2)]
   exact h''.sure
  ·rw[Heap.get_set,if_neg (fun e=>hnew _ o1 e.symm),Heap.get_add,killed_next,hn2,if_pos rfl]
  ·exact o1.mono (by simp[killed_next];omega)
  ·exact o2.mono (by simp[killed_next];omega)
  ·show _ < _
   simp[killed_next]
  ·exact(((t2.wide (fun c hc=>hc.elim)).trans (killed_turns _ b y D)).addm _).setm (.inl rfl) _
 ·exact err 2 (.inl rfl) hc
 ·exact err 9 (.inr rfl) hc
end Go.Proofs.YtllkepkaimnodaaGreatDoor.disk
namespace Go.Proofs.YtllkepkaimnodaaGreatDoor.disk
open Go.Am
def seen (S:List Nat) (L:List (Nat × Nat)) (n i:Nat):Nat:=match look (L.take i) n with
 | some x=>x
 | none=>S.getD n 0
theorem look_snoc:∀(l:List (Nat × Nat)) (w:Nat × Nat) (n:Nat),look (l++[w]) n=if w.1=n then some w.2 else look l n
 | [],w,n=>rfl
 | v::l,w,n=>by
  rw[List.cons_append,look_cons,look_snoc l w n,look_cons]
  by_cases h:w.1=n
  ·rw[if_pos h,if_pos h]
  ·rw[if_neg h,if_neg h]
theorem seen_succ {S:List Nat} {L:List (Nat × Nat)} {n i:Nat} (hi:i < L.length):seen S L n (i+1)=if L[i].1=n then L[i].2 else seen S L n i:=by
 unfold seen
 rw[List.take_succ_eq_append_getElem hi,look_snoc]
 by_cases h:L[i].1=n
 ·rw[if_pos h,if_pos h]
 ·rw[if_neg h,if_neg h]
theorem rread_all {H:Heap} {b:Bk} {y:Lay} {D:Dev} (h:DevAt H b y D) {lf:Nat} (hlf:D.L.length+1 < lf) (hmax:D.L.length < 1000000) (n:Int) (m:Nat) :
  ret (callS Tryz.prog S0 lf (m+2) 120 [.ptr (some ⟨b,0⟩),.int .i64 n] H) fun v H'=>v=.tuple [.blk (D.read n),.int .i64 (code D n)]∧Turns Z H H':=by
 have t1:=Turns.add Z H (.rows false 64 [[.blk 0]])
 have h':=h.turns t1 id id (fun _=>id)
 have err:∀ z:Int,z=2∨z=9→code D n=z→ret (callS Tryz.prog S0 lf (m+2) 120 [.ptr (some ⟨b,0⟩),.int .i64 n] H) fun v H'=>v=.tuple [.blk (D.read n),.int .i64 (code D n)]∧Turns Z H H':=by
  intro z hz hc
  have hw:D.read n=0:=if_neg (by rw[hc];omega)
  have hz0:(z==0)=false:=by simp;omega
  refine ret_call rfl c120_eq ?_
  obtain⟨v,H1,e,rfl,e1⟩:=asks_code h' n lf m
  subst e1
  rw[hc] at e
  simp only[c120,e,hz0,sy,tup,↓reduceIte,zA,zG,zC,zD,zF,zE,zB,zH,reduceCtorEq]
  rw[hw,hc]
  exact⟨trivial,.inr trivial,_,rfl,rfl,t1.setnew (Nat.le_refl _) _⟩
 rcases code_cases D n with ⟨k,rfl,hk,hd,hc⟩ | hc | hc
 ·have hw:D.read (k:Int)=readN D k:=if_pos hc
  rw[hc,hw]
  have h0:=load0 h'
  have hs:=loadS h' hk
  have hn1:k+1≤D.S.length:=hk
  obtain⟨v,H1,e,rfl,e1⟩:=asks_code h' (k:Int) lf m
  subst e1
  rw[hc] at e
  have hloop:∀(H2:Heap) (t:T),Turns Z H H2→H2.get (.run H.next)=some (.rows false 64 [[.blk 0]])→H2.get (.run (H.next+1))=some (.rows false 64 [[.blk D.S[k]]])→t.getP (Tr.path 0)=some (.ptr (some ⟨b,0⟩))→t.getP (Tr.path 1)=some (.int .i64 (k:Int))→t.getP (Tr.path 4)=some (.ptr (some ⟨.run H.next,0⟩))→t.getP (Tr.path 7)=some (.ptr (some ⟨.run (H.next+1),0⟩))→t.getP (Tr.path 8)=some (.int .i64 0) →
    wp (loopF (runC (callS Tryz.prog S0 lf (m+1)) lf c120_l0) lf ⟨t,H2,[]⟩) fun x s=>
     x=.ex 0∧s.d=[]∧s.t.getP (Tr.path 4)=some (.ptr (some ⟨.run H.next,0⟩))∧s.t.getP (Tr.path 7)=some (.ptr (some ⟨.run (H.next+1),0⟩))∧Turns Z H s.H∧s.H.get (.run H.next)=some (.rows false 64 [[.blk 0]])∧s.H.get (.run (H.next+1))=some (.rows false 64 [[.blk (readN D k)]]):=by
   intro H2 t hT2 g0 g1 q0 q1 q4 q7 q8
   refine wp_loopF (fun r s=>∃ i,i+r=D.L.length∧s.d=[]∧s.t.getP (Tr.path 0)=some (.ptr (some ⟨b,0⟩))∧s.t.getP (Tr.path 1)=some (.int .i64 (k:Int))∧s.t.getP (Tr.path 4)=some (.ptr (some ⟨.run H.next,0⟩))∧s.t.getP (Tr.path 7)=some (.ptr (some ⟨.run (H.next+1),0⟩))∧s.t.getP (Tr.path 8)=some (.int .i64 (i:Int))∧Turns Z H s.H∧s.H.get (.run H.next)=some (.rows false 64 [[.blk 0]])∧s.H.get (.run (H.next+1))=some (.rows false 64 [[.blk (seen D.S D.L k i)]])) ?_ lf D.L.length _ ⟨0,by simp,rfl,q0,q1,q4,q7,q8,hT2,g0,by
    have:seen D.S D.L k 0=D.S[k]:=getD_lt hk
    rw[this];exact g1⟩ (by omega)
   rintro r ⟨t,HH,d⟩ ⟨i,hi,rfl,q0,q1,q4,q7,q8,hT,g0,g1⟩
   dsimp only at q0 q1 q4 q7 q8 hT g0 g1
   have hH:=h.turns hT id id (fun _=>id)
   have h1:=load1 hH
   cases r with
   | zero=>
    have hi:i=D.L.length:=by omega
    subst hi
    have hg:¬ (D.L.length < D.L.length):=Nat.lt_irrefl _
    have hs:seen D.S D.L k D.L.length=readN D k:=by unfold seen readN;rw[List.take_length];rfl
    rw[hs] at g1
    simp only[c120_l0,q0,q1,q4,q7,q8,h1,hg,sy,tup,↓reduceIte,zA,zG,zC,zD,zF,zE,zB,zH,reduceCtorEq]
    exact⟨trivial,trivial,trivial,trivial,hT,g0,g1⟩
   | succ r=>
    have hi':i < D.L.length:=by omega
    have hi1:i+1≤D.L.length:=hi'
    have hp:=(h.loose (fun e=>by rw[e] at hi';simp at hi')).1
    have l1:=loadL1 hH hi'
    have l2:=loadL2 hH hi'
    have st:=cell_store (v:=D.L[i].2) g1
    have hw:IntKind.i64.wrap ((i:Int)+1)=((i+1:Nat):Int):=by rw[wrap_i64 (by omega)];rfl
    by_cases hx:D.L[i].1=k
    ·simp only[c120_l0,q0,q1,q4,q7,q8,h1,hp,hi',hi1,l1,l2,hx,st,hw,sy,tup,↓reduceIte,zA,zG,zC,zD,zF,zE,zB,zH,reduceCtorEq]
     refine⟨r,Nat.lt_succ_self r,i+1,by omega,trivial,trivial,trivial,trivial,trivial,rfl,hT.setnew (by omega) _,?_,?_⟩
     ·rw[Heap.get_set,if_neg (by simp)];exact g0
     ·rw[Heap.get_set,if_pos rfl,seen_succ hi',if_pos hx]
    ·have hx':(((D.L[i].1:Nat):Int)==(k:Int))=false:=by simp;omega
     simp only[c120_l0,q0,q1,q4,q7,q8,h1,hp,hi',hi1,l1,l2,hx',hw,sy,tup,↓reduceIte,zA,zG,zC,zD,zF,zE,zB,zH,reduceCtorEq]
     refine⟨r,Nat.lt_succ_self r,i+1,by omega,trivial,trivial,trivial,trivial,trivial,rfl,hT,g0,?_⟩
     rw[seen_succ hi',if_neg hx];exact g1
  have st0:storeAt ((H.add (.rows false 64 [[.blk 0]])).add (.rows false 64 [[.blk 0]])) ⟨.run (H.next+1),0⟩ [.blk D.S[k]]=_:=C9 _ _ _
  refine ret_call rfl c120_eq ?_
  simp only[c120,e,h0,hs,hn1,st0,sy,tup,↓reduceIte,zA,zG,zC,zD,zF,zE,zB,zH,reduceCtorEq]
  refine wp_ctx (F:=fun r=>seqC _ _ _ (blockC _ r)) (hloop _ _ (((t1.addm _).setnew (by omega) _)) ?_ ?_ ?_ ?_ ?_ ?_ ?_) ?_
  ·rw[Heap.get_set,if_neg (by simp),Heap.get_add,if_neg (by simp),Heap.get_add,if_pos rfl]
  ·rw[Heap.get_set,if_pos rfl]
  ·simp only[sy,tup,↓reduceIte,zA,zG,zC,zD,zF,zE,zB,zH,reduceCtorEq]
  ·simp only[sy,tup,↓reduceIte,zA,zG,zC,zD,zF,zE,zB,zH,reduceCtorEq]
  ·simp only[sy,tup,↓reduceIte,zA,zG,zC,zD,zF,zE,zB,zH,reduceCtorEq]
  ·simp only[sy,tup,↓reduceIte,zA,zG,zC,zD,zF,zE,zB,zH,reduceCtorEq]
  ·simp only[sy,tup,↓reduceIte,zA,zG,zC,zD,zF,zE,zB,zH,reduceCtorEq]
  rintro x ⟨t,HH,d⟩ ⟨rfl,rfl,q4,q7,hT,g0,g1⟩
  dsimp only at q4 q7 hT g0 g1
  have ld:=load_of g1
  have st:=cell_store (v:=readN D k) g0
  simp only[q4,q7,ld,st,sy,tup,↓reduceIte,zA,zG,zC,zD,zF,zE,zB,zH,reduceCtorEq]
  exact⟨trivial,.inr trivial,_,rfl,rfl,hT.setnew (Nat.le_refl _) _⟩
 ·exact err 2 (.inl rfl) hc
 ·exact err 9 (.inr rfl) hc
end Go.Proofs.YtllkepkaimnodaaGreatDoor.disk
namespace Go.Proofs.YtllkepkaimnodaaGreatDoor.disk
open Go.Am
noncomputable def c9:CFn:=⟨[.tmp (pp 8)],
 .seq (.reg [
 qo 7 (.m (boxF 64 (tt 3))) [pp 3],
 qo 8 (.p (S.get (ii 0))) []]) (
 .seq (.reg [
 mv 10 0,
 mv 11 1,
 qo 12 (.c (callF (ff 34) [(tt 10),(tt 11)])) [pp 10,pp 11],
 mv 9 12]) (
 .seq (.seq (.reg [
 mv 13 9,
 qo 14 (.p (eqcF true false [.int .i64] (tt 13) (ii 0))) [pp 13]]) (
 .cond (tt 14) (.seq (.reg [
 mv 15 9,
 mv 8 15]) (
 .ret)) (.skip))) (
 .seq (.reg [
 mv 16 0,
 qo 17 (.p (nilcF (tt 16))) [pp 16],
 qo 18 (.p (faddrF (tt 17) 0)) [pp 17],
 qo 19 (.r (loadF (tt 18) 1 .sc)) [pp 18],
 mv 20 1,
 qo 21 (.p (iaddrSF (tt 19) (tt 20) 1)) [pp 19,pp 20],
 qo 22 (.r (loadF (tt 21) 1 .sc)) [pp 21],
 mv 23 2,
 qo 24 (.c (callF (ff 35) [(tt 22),(tt 23)])) [pp 22,pp 23],
 mv 9 24]) (
 .seq (.seq (.reg [
 mv 25 9,
 qo 26 (.p (eqcF true false [.int .i64] (tt 25) (ii 0))) [pp 25]]) (
 .cond (tt 26) (.seq (.reg [
 mv 27 9,
 mv 8 27]) (
 .ret)) (.skip))) (
 .seq (.reg [
 mv 28 0,
 qo 29 (.c (callF (ff 36) [(tt 28)])) [pp 28],
 mv 9 29]) (
 .seq (.seq (.reg [
 mv 30 9,
 qo 31 (.p (eqcF true false [.int .i64] (tt 30) (ii 0))) [pp 30]]) (
 .cond (tt 31) (.seq (.reg [
 mv 32 9,
 mv 8 32]) (
 .ret)) (.skip))) (
 .seq (.regD [
 mv 33 0,
 qo 34 (.p (nilcF (tt 33))) [pp 33],
 qo 35 (.p (faddrF (tt 34) 0)) [pp 34],
 qo 36 (.r (loadF (tt 35) 1 .sc)) [pp 35],
 mv 37 1,
 qo 38 (.p (iaddrSF (tt 36) (tt 37) 1)) [pp 36,pp 37],
 qo 39 (.r (loadF (tt 38) 1 .sc)) [pp 38],
 mv 40 2,
 qo 41 (.r (loadF (tt 7) 64 .bk)) [pp 7],
 qo 42 (.c (callF (ff 37) [(tt 39),(tt 40),(tt 41)])) [pp 39,pp 40,pp 41],
 mv 8 42] [0,1,3,7,0,31,63,0,0,511,1023]) (
 .ret))))))))⟩
theorem c9_eq:fnOf Tryz.prog 9=some c9:=by kernel_rfl
noncomputable def c48:CFn:=⟨[.cell (pp 6) 64 .bk,.tmp (pp 7)],
 .seq (.reg [
 qo 6 (.m (allocF 64 [.blk 0])) [],
 qo 7 (.p (S.get (ii 0))) []]) (
 .seq (.reg [
 mv 9 0,
 mv 10 1,
 qo 11 (.c (callF (ff 34) [(tt 9),(tt 10)])) [pp 9,pp 10],
 mv 8 11]) (
 .seq (.seq (.reg [
 mv 12 8,
 qo 13 (.p (eqcF true false [.int .i64] (tt 12) (ii 0))) [pp 12]]) (
 .cond (tt 13) (.seq (.reg [
 qo 14 (.p (buildF [.blk 0] .bk [])) [],
 mv 15 8,
 qn (.a (storeF (tt 6) (tt 14) 64)) [pp 6,pp 14],
 mv 7 15]) (
 .ret)) (.skip))) (
 .seq (.reg [
 mv 16 0,
 qo 17 (.p (nilcF (tt 16))) [pp 16],
 qo 18 (.p (faddrF (tt 17) 0)) [pp 17],
 qo 19 (.r (loadF (tt 18) 1 .sc)) [pp 18],
 mv 20 1,
 qo 21 (.p (iaddrSF (tt 19) (tt 20) 1)) [pp 19,pp 20],
 qo 22 (.r (loadF (tt 21) 1 .sc)) [pp 21],
 mv 23 2,
 qo 24 (.c (callF (ff 120) [(tt 22),(tt 23)])) [pp 22,pp 23],
 qo 25 (.p (extF (tt 24) 0)) [pp 24],
 qo 26 (.p (extF (tt 24) 1)) [pp 24],
 qn (.a (storeF (tt 6) (tt 25) 64)) [pp 6,pp 25],
 mv 7 26]) (
 .ret))))⟩
theorem c48_eq:fnOf Tryz.prog 48=some c48:=by kernel_rfl
noncomputable def c47:CFn:=⟨[.tmp (pp 4)],
 .seq (.reg [
 qo 4 (.p (S.get (ii 0))) []]) (
 .seq (.seq (.reg [
 mv 5 0,
 mv 6 1,
 qo 7 (.c (callF (ff 46) [(tt 5),(tt 6)])) [pp 5,pp 6],
 qo 8 (.p (unF .not (tt 7))) [pp 7]]) (
 .cond (tt 8) (.seq (.reg [
 qo 4 (.p (S.get (ii 0))) []]) (
 .ret)) (.skip))) (
 .seq (.reg [
 mv 9 0,
 qo 10 (.p (nilcF (tt 9))) [pp 9],
 qo 11 (.p (faddrF (tt 10) 0)) [pp 10],
 qo 12 (.r (loadF (tt 11) 1 .sc)) [pp 11],
 mv 13 1,
 qo 14 (.p (iaddrSF (tt 12) (tt 13) 1)) [pp 12,pp 13],
 qo 15 (.r (loadF (tt 14) 1 .sc)) [pp 14],
 qo 16 (.p (nilcF (tt 15))) [pp 15],
 qo 17 (.p (faddrF (tt 16) 0)) [pp 16],
 qo 18 (.r (loadF (tt 17) 1 .sc)) [pp 17],
 qo 19 (.p (lenF (tt 18))) [pp 18],
 mv 4 19]) (
 .ret)))⟩
theorem c47_eq:fnOf Tryz.prog 47=some c47:=by kernel_rfl
noncomputable def c34:CFn:=⟨[.tmp (pp 4)],
 .seq (.reg [
 qo 4 (.p (S.get (ii 0))) []]) (
 .seq (.seq (.reg [
 mv 5 0,
 qo 6 (.p (nilcF (tt 5))) [pp 5],
 qo 7 (.p (faddrF (tt 6) 2)) [pp 6],
 qo 8 (.r (loadF (tt 7) 1 .sc)) [pp 7]]) (
 .cond (tt 8) (.seq (.reg [
 qo 4 (.p (S.get (ii 8))) []]) (
 .ret)) (.skip))) (
 .seq (.seq (.reg [
 mv 9 0,
 mv 10 1,
 qo 11 (.c (callF (ff 46) [(tt 9),(tt 10)])) [pp 9,pp 10],
 qo 12 (.p (unF .not (tt 11))) [pp 11]]) (
 .cond (tt 12) (.seq (.reg [
 qo 4 (.p (S.get (ii 2))) []]) (
 .ret)) (.skip))) (
 .seq (.reg [
 qo 4 (.p (S.get (ii 0))) []]) (
 .ret))))⟩
theorem c34_eq:fnOf Tryz.prog 34=some c34:=by kernel_rfl
noncomputable def c36:CFn:=⟨[.tmp (pp 2)],
 .seq (.reg [
 qo 2 (.p (S.get (ii 0))) []]) (
 .seq (.seq (.reg [
 mv 3 0,
 qo 4 (.p (nilcF (tt 3))) [pp 3],
 qo 5 (.p (faddrF (tt 4) 1)) [pp 4],
 qo 6 (.r (loadF (tt 5) 1 .sc)) [pp 5],
 qo 7 (.p (eqcF false false [.int .i64] (tt 6) (ii 1))) [pp 6]]) (
 .cond (tt 7) (.seq (.reg [
 mv 8 0,
 qo 9 (.p (nilcF (tt 8))) [pp 8],
 qo 10 (.p (faddrF (tt 9) 2)) [pp 9],
 qn (.a (storeF (tt 10) (.c (.bool true)) 1)) [pp 10]]) (
 .seq (.reg [
 qo 2 (.p (S.get (ii 8))) []]) (
 .ret))) (.skip))) (
 .seq (.seq (.reg [
 mv 11 0,
 qo 12 (.p (nilcF (tt 11))) [pp 11],
 qo 13 (.p (faddrF (tt 12) 1)) [pp 12],
 qo 14 (.r (loadF (tt 13) 1 .sc)) [pp 13],
 qo 15 (.p (arF .gtr (tt 14) (ii 1))) [pp 14]]) (
 .cond (tt 15) (.reg [
 mv 16 0,
 qo 17 (.p (nilcF (tt 16))) [pp 16],
 qo 18 (.p (faddrF (tt 17) 1)) [pp 17],
 qo 19 (.r (loadF (tt 18) 1 .sc)) [pp 18],
 qo 20 (.p (arF .sub (tt 19) (ii 1))) [pp 19],
 qo 21 (.p (nilcF (tt 16))) [pp 16],
 qo 22 (.p (faddrF (tt 21) 1)) [pp 21],
 qn (.a (storeF (tt 22) (tt 20) 1)) [pp 22,pp 20]]) (.skip))) (
 .seq (.reg [
 mv 23 0,
 qo 24 (.p (nilcF (tt 23))) [pp 23],
 qo 25 (.p (faddrF (tt 24) 3)) [pp 24],
 qo 26 (.r (loadF (tt 25) 1 .sc)) [pp 25],
 qo 27 (.p (arF .add (tt 26) (ii 1))) [pp 26],
 qo 28 (.p (nilcF (tt 23))) [pp 23],
 qo 29 (.p (faddrF (tt 28) 3)) [pp 28],
 qn (.a (storeF (tt 29) (tt 27) 1)) [pp 29,pp 27]]) (
 .seq (.reg [
 qo 2 (.p (S.get (ii 0))) []]) (
 .ret)))))⟩
theorem c36_eq:fnOf Tryz.prog 36=some c36:=by kernel_rfl
noncomputable def c46:CFn:=⟨[.tmp (pp 4)],
 .seq (.reg [
 qo 4 (.p (S.get (.c (.bool false)))) []]) (
 .seq (.reg [
 mv 5 1,
 qo 6 (.p (arF .geq (tt 5) (ii 0))) [pp 5],
 mv 7 6,
 mg 8 1 7 true,
 mg 9 0 7 true,
 qg 10 (.p (nilcF (tt 9))) 7 true [pp 9],
 qg 11 (.p (faddrF (tt 10) 0)) 7 true [pp 10],
 qg 12 (.r (loadF (tt 11) 1 .sc)) 7 true [pp 11],
 qg 13 (.p (lenF (tt 12))) 7 true [pp 12],
 qg 14 (.p (arF .lss (tt 8) (tt 13))) 7 true [pp 8,pp 13],
 qo 15 (.p (pickF (tt 7) (tt 14) (.c (.bool false)))) [pp 7,pp 14],
 mv 4 15]) (
 .ret))⟩
theorem c46_eq:fnOf Tryz.prog 46=some c46:=by kernel_rfl
theorem Rep.own' {H:Heap} {b ds:Bk} {so:Nat} {l:List Dv} {B:Bn} (h:Rep true H b ds so l B):H.get b=some (.rows false 4 [[.slice (some ⟨ds,0⟩) l.length l.length so,.int .i64 B.ar,.bool B.dk,.int .i64 B.st]]):=h.row.own
theorem Rep.loadPtr {r:Bool} {H:Heap} {b ds:Bk} {so:Nat} {l:List Dv} {B:Bn} (h:Rep r H b ds so l B) {i:Nat} (hi:i < l.length):loadAt H ⟨ds,i⟩ 1=some [.ptr (some ⟨l[i].b,0⟩)]:=by
 rw[loadAt_eq h.row.ptrs (r:=[.ptr (some ⟨l[i].b,0⟩)]) (nth_of (by rw[Nat.div_one];simp[hi])),Nat.mod_one]
 exact cut_hit _ _ rfl
theorem Rep.put' {H:Heap} {b ds:Bk} {so:Nat} {l:List Dv} {B:Bn} (h:Rep true H b ds so l B) (st ar:Int) (dk:Bool):RNext true H b ds so l (H.set b (.rows false 4 [[.slice (some ⟨ds,0⟩) l.length l.length so,.int .i64 ar,.bool dk,.int .i64 st]])) l ⟨B.l,st,ar,dk⟩:=
 ⟨⟨h.row.put _ _ _,h.map⟩,Turns.set (X:=BFoot b ds l) (.inl rfl) _ _,fun c hc=>.inl hc⟩
section
variable {H:Heap} {b ds:Bk} {so:Nat} {l:List Dv} {B:Bn} (h:Rep true H b ds so l B)
include h
theorem rload0:loadAt H ⟨b,0⟩ 1=some [.slice (some ⟨ds,0⟩) l.length l.length so]:=by rw[loadAt_eq h.own' (by exact rfl)];rfl
theorem rload1:loadAt H ⟨b,1⟩ 1=some [.int .i64 B.ar]:=by rw[loadAt_eq h.own' (by exact rfl)];rfl
theorem rload2:loadAt H ⟨b,2⟩ 1=some [.bool B.dk]:=by rw[loadAt_eq h.own' (by exact rfl)];rfl
theorem rload3:loadAt H ⟨b,3⟩ 1=some [.int .i64 B.st]:=by rw[loadAt_eq h.own' (by exact rfl)];rfl
theorem rstore1 (x:Int):storeAt H ⟨b,1⟩ [.int .i64 x]=some (H.set b (.rows false 4 [[.slice (some ⟨ds,0⟩) l.length l.length so,.int .i64 x,.bool B.dk,.int .i64 B.st]])):=storeAt_eq h.own' (r:=[.slice (some ⟨ds,0⟩) l.length l.length so,.int .i64 B.ar,.bool B.dk,.int .i64 B.st]) rfl rfl
theorem rstore2 (x:Bool):storeAt H ⟨b,2⟩ [.bool x]=some (H.set b (.rows false 4 [[.slice (some ⟨ds,0⟩) l.length l.length so,.int .i64 B.ar,.bool x,.int .i64 B.st]])):=storeAt_eq h.own' (r:=[.slice (some ⟨ds,0⟩) l.length l.length so,.int .i64 B.ar,.bool B.dk,.int .i64 B.st]) rfl rfl
theorem rstore3 (x:Int):storeAt H ⟨b,3⟩ [.int .i64 x]=some (H.set b (.rows false 4 [[.slice (some ⟨ds,0⟩) l.length l.length so,.int .i64 B.ar,.bool B.dk,.int .i64 x]])):=storeAt_eq h.own' (r:=[.slice (some ⟨ds,0⟩) l.length l.length so,.int .i64 B.ar,.bool B.dk,.int .i64 B.st]) rfl rfl
theorem rhas (d:Int) (lf m:Nat):callS Tryz.prog S0 lf (m+1) 46 [.ptr (some ⟨b,0⟩),.int .i64 d] H=some (.v (.bool (B.tc d==0)),H):=by
 have l0:=rload0 h
 obtain⟨v,H',e,rfl,rfl⟩:ret (callS Tryz.prog S0 lf (m+1) 46 [.ptr (some ⟨b,0⟩),.int .i64 d] H) fun v H'=>v=.bool (B.tc d==0)∧H'=H:=by
  refine ret_call rfl c46_eq ?_
  by_cases g0:0≤d
  ·by_cases g1:d < (l.length:Int)
   ·have e:B.tc d=0:=by unfold Bn.tc tcode;rw[← h.len,if_pos ⟨g0,g1⟩]
    rw[e]
    simp only[c46,l0,g0,g1,sy,tup,↓reduceIte,zA,zG,zC,zD,zF,zE,zB,zH,reduceCtorEq]
    exact⟨trivial,.inr trivial,_,rfl,rfl,trivial⟩
   ·have e:B.tc d=2:=by unfold Bn.tc tcode;rw[← h.len,if_neg (fun e=>g1 e.2)]
    rw[e]
    simp only[c46,l0,g0,g1,sy,tup,↓reduceIte,zA,zG,zC,zD,zF,zE,zB,zH,reduceCtorEq]
    exact⟨trivial,.inr trivial,_,rfl,rfl,trivial⟩
  ·have e:B.tc d=2:=by unfold Bn.tc tcode;rw[← h.len,if_neg (fun e=>g0 e.1)]
   rw[e]
   simp only[c46,l0,g0,sy,tup,↓reduceIte,zA,zG,zC,zD,zF,zE,zB,zH,reduceCtorEq]
   exact⟨trivial,.inr trivial,_,rfl,rfl,trivial⟩
 exact e
theorem rasks (d:Int) (lf m:Nat):callS Tryz.prog S0 lf (m+2) 34 [.ptr (some ⟨b,0⟩),.int .i64 d] H=some (.v (.int .i64 (B.lc d)),H):=by
 have l2:=rload2 h
 have e1:=rhas h d lf m
 obtain⟨v,H',e,rfl,rfl⟩:ret (callS Tryz.prog S0 lf (m+2) 34 [.ptr (some ⟨b,0⟩),.int .i64 d] H) fun v H'=>v=.int .i64 (B.lc d)∧H'=H:=by
  refine ret_call rfl c34_eq ?_
  cases hdk:B.dk with
  | true=>
   rw[hdk] at l2
   rw[show B.lc d=8 from if_pos hdk]
   simp only[c34,l2,sy,tup,↓reduceIte,zA,zG,zC,zD,zF,zE,zB,zH,reduceCtorEq]
   exact⟨trivial,.inr trivial,_,rfl,rfl,trivial⟩
  | false=>
   rw[hdk] at l2
   rw[show B.lc d=B.tc d from if_neg (by rw[hdk];decide)]
   rcases h.has d with ⟨i,hi,rfl,e,_⟩ | e
   ·rw[e] at e1 ⊢
    simp only[c34,l2,e1,sy,tup,↓reduceIte,zA,zG,zC,zD,zF,zE,zB,zH,reduceCtorEq]
    exact⟨trivial,.inr trivial,_,rfl,rfl,trivial⟩
   ·rw[e] at e1 ⊢
    have z:((2:Int)==0)=false:=rfl
    rw[z] at e1
    simp only[c34,l2,e1,sy,tup,↓reduceIte,zA,zG,zC,zD,zF,zE,zB,zH,reduceCtorEq]
    exact⟨trivial,.inr trivial,_,rfl,rfl,trivial⟩
 exact e
theorem rsectors (d:Int) (lf m:Nat):callS Tryz.prog S0 lf (m+2) 47 [.ptr (some ⟨b,0⟩),.int .i64 d] H=some (.v (.int .i64 (B.sectors d)),H):=by
 have e1:=rhas h d lf m
 obtain⟨v,H',e,rfl,rfl⟩:ret (callS Tryz.prog S0 lf (m+2) 47 [.ptr (some ⟨b,0⟩),.int .i64 d] H) fun v H'=>v=.int .i64 (B.sectors d)∧H'=H:=by
  refine ret_call rfl c47_eq ?_
  rcases h.has d with ⟨i,hi,rfl,e,eD⟩ | e
  ·have hw:B.sectors (i:Int)=(l[i].D.S.length:Int):=by rw[← eD];exact if_pos e
   rw[e] at e1
   rw[hw]
   have l0:=rload0 h
   have lp:=h.loadPtr hi
   have d0:=load0 (h.row.dev i hi)
   have hi1:i+1≤l.length:=hi
   simp only[c47,e1,l0,lp,d0,hi1,Nat.mul_one,sy,tup,↓reduceIte,zA,zG,zC,zD,zF,zE,zB,zH,reduceCtorEq]
   exact⟨trivial,.inr trivial,_,rfl,rfl,trivial⟩
  ·have hw:B.sectors d=0:=if_neg (by rw[e];decide)
   rw[e] at e1
   have z:((2:Int)==0)=false:=rfl
   rw[z] at e1
   rw[hw]
   simp only[c47,e1,sy,tup,↓reduceIte,zA,zG,zC,zD,zF,zE,zB,zH,reduceCtorEq]
   exact⟨trivial,.inr trivial,_,rfl,rfl,trivial⟩
 exact e
theorem rstep (ha:0≤B.ar∧B.ar≤9223372036854775807) (hs:0≤B.st∧B.st≤100000) (lf m:Nat) :
  ∃ H',callS Tryz.prog S0 lf (m+1) 36 [.ptr (some ⟨b,0⟩)] H=some (.v (.int .i64 B.sc),H')∧((B.ar=1∧RNext true H b ds so l H' l { B with dk:=true })∨(B.ar≠1∧RNext true H b ds so l H' l ⟨B.l,B.st+1,arLess B.ar,B.dk⟩)):=by
 have l1:=rload1 h
 by_cases h1:B.ar=1
 ·have e0:B.sc=8:=if_pos h1
  have s2:=rstore2 h true
  have z:(B.ar==1)=true:=by simp[h1]
  rw[e0]
  obtain⟨v,H',e,rfl,k⟩:ret (callS Tryz.prog S0 lf (m+1) 36 [.ptr (some ⟨b,0⟩)] H) fun v H'=>v=.int .i64 8∧RNext true H b ds so l H' l { B with dk:=true }:=by
   refine ret_call rfl c36_eq ?_
   simp only[c36,l1,s2,z,sy,tup,↓reduceIte,zA,zG,zC,zD,zF,zE,zB,zH,reduceCtorEq]
   exact⟨trivial,.inr trivial,_,rfl,rfl,h.put' B.st B.ar true⟩
  exact⟨H',e,.inl ⟨h1,k⟩⟩
 ·have e0:B.sc=0:=if_neg h1
  have z:(B.ar==1)=false:=by simp;exact h1
  have w1:IntKind.i64.wrap (B.st+1)=B.st+1:=wrap_i64 (by omega)
  rw[e0]
  obtain⟨v,H',e,rfl,k⟩:ret (callS Tryz.prog S0 lf (m+1) 36 [.ptr (some ⟨b,0⟩)] H) fun v H'=>v=.int .i64 0∧RNext true H b ds so l H' l ⟨B.l,B.st+1,arLess B.ar,B.dk⟩:=by
   refine ret_call rfl c36_eq ?_
   by_cases g:1 < B.ar
   ·have w2:IntKind.i64.wrap (B.ar - 1)=B.ar - 1:=wrap_i64 (by omega)
    have ea:arLess B.ar=B.ar - 1:=if_neg (by omega)
    have s1:=rstore1 h (B.ar - 1)
    have k1:=h.put' B.st (B.ar - 1) B.dk
    have l3:=rload3 k1.rep
    have s3:=rstore3 k1.rep (B.st+1)
    have k2:=k1.trans (k1.rep.put' (B.st+1) (B.ar - 1) B.dk)
    simp only[c36,l1,s1,z,g,w1,w2,l3,s3,sy,tup,↓reduceIte,zA,zG,zC,zD,zF,zE,zB,zH,reduceCtorEq]
    rw[ea]
    exact⟨trivial,.inr trivial,_,rfl,rfl,k2⟩
   ·have ea:arLess B.ar=B.ar:=by unfold arLess;split<;>omega
    have l3:=rload3 h
    have s3:=rstore3 h (B.st+1)
    have k2:=h.put' (B.st+1) B.ar B.dk
    simp only[c36,l1,z,g,w1,l3,s3,sy,tup,↓reduceIte,zA,zG,zC,zD,zF,zE,zB,zH,reduceCtorEq]
    rw[ea]
    exact⟨trivial,.inr trivial,_,rfl,rfl,k2⟩
  exact⟨H',e,.inr ⟨h1,k⟩⟩
variable (hg:∀ D ∈ B.l,Good D)
include hg
theorem rgood {i:Nat} (hi:i < l.length):Good l[i].D:=hg _ (by rw[← h.map];exact List.mem_map_of_mem (List.getElem_mem hi))
theorem rbread (d n:Int) {lf:Nat} (hlf:1000 < lf) (m:Nat) :
  ret (callS Tryz.prog S0 lf (m+3) 48 [.ptr (some ⟨b,0⟩),.int .i64 d,.int .i64 n] H) fun v H'=>v=.tuple [.blk (B.read d n),.int .i64 (B.rc d n)]∧Turns Z H H':=by
 have t1:=Turns.add Z H (.rows false 64 [[.blk 0]])
 have h':=h.turns t1
 have e1:=rasks h' d lf m
 refine ret_call rfl c48_eq ?_
 by_cases hc:B.lc d=0
 ·have hr:B.read d n=(B.dev d).read n:=if_pos hc
  have hrc:B.rc d n=code (B.dev d) n:=if_pos hc
  rw[hc] at e1
  rw[hr,hrc]
  rcases h.has d with ⟨i,hi,rfl,_,e⟩ | e
  ·rw[e]
   have g:=rgood h hg hi
   have l0:=rload0 h'
   have lp:=h'.loadPtr hi
   have hi1:i+1≤l.length:=hi
   obtain⟨v,H1,e2,rfl,t2⟩:=rread_all (h'.row.dev i hi) (lf:=lf) (by have:=g.le;omega) (by have:=g.le;omega) n m
   have g0:H1.get (.run H.next)=some (.rows false 64 [[.blk 0]]):=by
    rw[t2.same _ (by show _ < _;simp) id,Heap.get_add,if_pos rfl]
   have st:=cell_store (v:=l[i].D.read n) g0
   simp only[c48,e1,l0,lp,hi1,e2,st,Nat.mul_one,sy,tup,↓reduceIte,zA,zG,zC,zD,zF,zE,zB,zH,reduceCtorEq]
   exact⟨trivial,.inr trivial,_,rfl,rfl,(t1.trans t2).setnew (Nat.le_refl _) _⟩
  ·rw[lc_tc hc] at e;cases e
 ·have hr:B.read d n=0:=if_neg hc
  have hrc:B.rc d n=B.lc d:=if_neg hc
  have hz:(B.lc d==0)=false:=by simp;exact hc
  rw[hr,hrc]
  simp only[c48,e1,hz,sy,tup,↓reduceIte,zA,zG,zC,zD,zF,zE,zB,zH,reduceCtorEq]
  exact⟨trivial,.inr trivial,_,rfl,rfl,t1.setnew (Nat.le_refl _) _⟩
theorem rbwrite (ha:0≤B.ar∧B.ar≤9223372036854775807) (hs:0≤B.st∧B.st≤100000) (d n:Int) (x:Nat) {lf:Nat} (hlf:1000 < lf) (m:Nat) :
  ret (callS Tryz.prog S0 lf (m+3) 9 [.ptr (some ⟨b,0⟩),.int .i64 d,.int .i64 n,.blk x] H) fun v H'=>v=.int .i64 (B.wc d n)∧∃ l',RNext true H b ds so l H' l' (B.write d n x):=by
 have t1:=Turns.add Z H (.rows false 64 [[.blk x]])
 have gA:(H.add (.rows false 64 [[.blk x]])).get (.run H.next)=some (.rows false 64 [[.blk x]]):=by rw[Heap.get_add,if_pos rfl]
 have oA:(H.add (.rows false 64 [[.blk x]])).Old (.run H.next):=by show _ < _;simp
 have h':=h.turns t1
 have nb:Bk.run H.next≠b:=fun e=>Heap.not_old (Nat.le_refl _) (by rw[e];exact h.row.old.1)
 generalize hHA:H.add (.rows false 64 [[.blk x]])=HA at t1 gA oA h'
 have e1:=rasks h' d lf m
 refine ret_call rfl c9_eq ?_
 simp only[c9,sy,tup,↓reduceIte,zA,zG,zC,zD,zF,zE,zB,zH,reduceCtorEq]
 rw[hHA]
 by_cases hlc:B.lc d=0
 ·rw[hlc] at e1
  rcases h.has d with ⟨i,hi,rfl,_,eD⟩ | e
  ·have g:=rgood h hg hi
   have hrc:B.rc (i:Int) n=code l[i].D n:=by rw[← eD];exact if_pos hlc
   have l0:=rload0 h'
   have lp:=h'.loadPtr hi
   have hi1:i+1≤l.length:=hi
   obtain⟨v,_,e2,rfl,rfl⟩:=asks_code (h'.row.dev i hi) n lf (m+1)
   change callS Tryz.prog S0 lf (m+2) 35 _ _=_ at e2
   by_cases hc:code l[i].D n=0
   ·have hw:B.write (i:Int) n x=B.step (i:Int) (l[i].D.write n x):=by rw[← eD];exact if_pos (by rw[hrc];exact hc)
    have hwc:B.wc (i:Int) n=B.sc:=if_pos (by rw[hrc];exact hc)
    rw[hw,hwc]
    rw[hc] at e2
    obtain⟨K1,e3,hs3⟩:=rstep h' ha hs lf (m+1)
    change callS Tryz.prog S0 lf (m+2) 36 _ _=_ at e3
    rcases hs3 with ⟨h1,k1⟩ | ⟨h1,k1⟩
    ·rw[show B.sc=8 from if_pos h1] at e3 ⊢
     have est:B.step (i:Int) (l[i].D.write n x)={ B with dk:=true }:=if_pos h1
     rw[est]
     simp only[e1,l0,lp,hi1,e2,e3,Nat.mul_one,sy,tup,↓reduceIte,zA,zG,zC,zD,zF,zE,zB,zH,reduceCtorEq]
     exact⟨trivial,.inr trivial,_,rfl,rfl,l,RNext.before t1 k1⟩
    ·rw[show B.sc=0 from if_neg h1] at e3 ⊢
     have est:B.step (i:Int) (l[i].D.write n x)=(⟨B.l,B.st+1,arLess B.ar,B.dk⟩:Bn).setd (i:Int) (l[i].D.write n x):=if_neg h1
     rw[est]
     have l0':=rload0 k1.rep
     have lp':=k1.rep.loadPtr hi
     have ld:=load_of ((k1.turns.same _ oA (fun hc=>by
      rcases hc with hc | hc | ⟨z,hz,hc⟩
      ·exact nb hc
      ·exact Heap.not_old (Nat.le_refl _) (by rw[hc];exact h.row.old.2)
      ·obtain⟨j,hj,rfl⟩:=List.getElem_of_mem hz
       exact Heap.not_old (Nat.le_refl _) ((h.row.dev j hj).foot_old _ hc))).trans gA)
     obtain⟨v,K2,e4,rfl,y',n4⟩:=rwrite_all (k1.rep.row.dev i hi) (by have:=g.le;omega) n x lf m
     rw[hc] at e4
     simp only[e1,l0,lp,hi1,e2,e3,l0',lp',ld,e4,Nat.mul_one,sy,tup,↓reduceIte,zA,zG,zC,zD,zF,zE,zB,zH,reduceCtorEq]
     rw[endD_ok (by kernel_rfl) (by kernel_rfl)]
     simp only[sy,tup,↓reduceIte,zA,zG,zC,zD,zF,zE,zB,zH,reduceCtorEq]
     exact⟨trivial,.inr trivial,_,rfl,rfl,_,RNext.before t1 (k1.trans (k1.rep.dev hi n4))⟩
   ·have hw:B.write (i:Int) n x=B:=if_neg (by rw[hrc];exact hc)
    have hwc:B.wc (i:Int) n=code l[i].D n:=by rw[← hrc];exact if_neg (by rw[hrc];exact hc)
    have hz:(code l[i].D n==0)=false:=by simp;exact hc
    rw[hw,hwc]
    simp only[e1,l0,lp,hi1,e2,hz,Nat.mul_one,sy,tup,↓reduceIte,zA,zG,zC,zD,zF,zE,zB,zH,reduceCtorEq]
    exact⟨trivial,.inr trivial,_,rfl,rfl,l,h.idle t1⟩
  ·rw[lc_tc hlc] at e;cases e
 ·have hrc:B.rc d n=B.lc d:=if_neg hlc
  have hw:B.write d n x=B:=if_neg (by rw[hrc];exact hlc)
  have hwc:B.wc d n=B.lc d:=by rw[← hrc];exact if_neg (by rw[hrc];exact hlc)
  have hz:(B.lc d==0)=false:=by simp;exact hlc
  rw[hw,hwc]
  simp only[e1,hz,sy,tup,↓reduceIte,zA,zG,zC,zD,zF,zE,zB,zH,reduceCtorEq]
  exact⟨trivial,.inr trivial,_,rfl,rfl,l,h.idle t1⟩
end
end Go.Proofs.YtllkepkaimnodaaGreatDoor.disk
namespace Go.Proofs.YtllkepkaimnodaaGreatDoor.disk
open Go.Am
noncomputable def c27_l0:C:=.seq (.seq (.reg [
 mv 18 5,
 mv 19 0,
 qo 20 (.p (lenF (tt 19))) [pp 19],
 qo 21 (.p (arF .lss (tt 18) (tt 20))) [pp 18,pp 20]]) (
 .cond (tt 21) (.skip) (.exit 0))) (
 .seq (.block 1 (.seq (.reg [
 mv 25 0,
 mv 26 5,
 qo 27 (.p (iaddrSF (tt 25) (tt 26) 1)) [pp 25,pp 26],
 qo 28 (.r (loadF (tt 27) 1 .sc)) [pp 27],
 qo 29 (.c (callF (ff 105) [(tt 28)])) [pp 28],
 mv 24 29,
 qo 30 (.p (extF (tt 24) 0)) [pp 24],
 qo 31 (.p (extF (tt 24) 1)) [pp 24],
 mv 6 30,
 mv 7 31]) (
 .seq (.seq (.reg [
 mv 32 7,
 qo 33 (.p (eqcF true false [.int .i64] (tt 32) (ii 0))) [pp 32]]) (
 .cond (tt 33) (.seq (.reg [
 qo 2 (.p (S.get (.c (.ptr none)))) [],
 qo 3 (.p (S.get (ii 2))) []]) (
 .ret)) (.skip))) (
 .reg [
 mv 34 4,
 mv 35 4,
 qo 36 (.p (nilcF (tt 35))) [pp 35],
 qo 37 (.p (faddrF (tt 36) 0)) [pp 36],
 qo 38 (.r (loadF (tt 37) 1 .sc)) [pp 37],
 mv 39 6,
 qo 40 (.m (bsliceF 1 1 [.ptr none] [(0,1,(tt 39))])) [pp 39],
 qo 41 (.a (appF 1 8 (tt 38) (tt 40))) [pp 38,pp 40],
 qo 42 (.p (nilcF (tt 34))) [pp 34],
 qo 43 (.p (faddrF (tt 42) 0)) [pp 42],
 qn (.a (storeF (tt 43) (tt 41) 1)) [pp 43,pp 41]])))) (
 .reg [
 mv 22 5,
 qo 23 (.p (arF .add (tt 22) (ii 1))) [pp 22],
 mv 5 23]))
noncomputable def c27:CFn:=⟨[.tmp (pp 2),.tmp (pp 3)],
 .seq (.reg [
 qo 2 (.p (S.get (.c (.ptr none)))) [],
 qo 3 (.p (S.get (ii 0))) []]) (
 .seq (.seq (.reg [
 mv 8 0,
 qo 9 (.p (lenF (tt 8))) [pp 8],
 qo 10 (.p (arF .lss (tt 9) (ii 1))) [pp 9],
 mv 11 10,
 mg 12 0 11 false,
 qg 13 (.p (lenF (tt 12))) 11 false [pp 12],
 qg 14 (.p (arF .gtr (tt 13) (ii 17))) 11 false [pp 13],
 qo 15 (.p (pickF (tt 11) (.c (.bool true)) (tt 14))) [pp 11,pp 14]]) (
 .cond (tt 15) (.seq (.reg [
 qo 2 (.p (S.get (.c (.ptr none)))) [],
 qo 3 (.p (S.get (ii 2))) []]) (
 .ret)) (.skip))) (
 .seq (.reg [
 qo 16 (.p (buildF [.slice none 0 0 0,.int .i64 0,.bool false,.int .i64 0] .ag [])) [],
 qo 17 (.m (boxF 4 (tt 16))) [pp 16],
 mv 4 17]) (
 .seq (.seq (.reg [
 qo 5 (.p (S.get (ii 0))) []]) (
 .block 0 (.loop c27_l0))) (
 .seq (.reg [
 mv 44 4,
 mv 2 44,
 qo 3 (.p (S.get (ii 0))) []]) (
 .ret)))))⟩
theorem c27_eq:fnOf Tryz.prog 27=some c27:=by kernel_rfl
theorem rbnew_at (H:Heap) {pp:Option Ptr} {P:List Int} {pc po:Nat} (hP:PicksAt H pp P Z) {lf:Nat} (hlf:1000 < lf) (m:Nat) :
  ret (callS Tryz.prog S0 lf (m+2) 27 [.slice pp P.length pc po] H) (NewedAt true P H):=by
 refine ret_call rfl c27_eq ?_
 by_cases hlen:1≤P.length∧P.length≤17
 ·obtain⟨g1,g2⟩:=hlen
  have g1':¬ ((P.length:Int) < 1):=by omega
  have g2':¬ (17 < (P.length:Int)):=by omega
  have G0:=grow0 H (.int .i64 0) (.bool false) (.int .i64 0)
  have hloop:∀ t:T,t.getP (Tr.path 0)=some (.slice pp P.length pc po)→t.getP (Tr.path 4)=some (.ptr (some ⟨.run H.next,0⟩))→t.getP (Tr.path 5)=some (.int .i64 0) →
    wp (loopF (runC (callS Tryz.prog S0 lf (m+1)) lf c27_l0) lf ⟨t,H.add (.rows false 4 [[.slice none 0 0 0,.int .i64 0,.bool false,.int .i64 0]]),[]⟩) fun x s=>
     s.d=[]∧((x=.ret∧¬ okSizes P∧s.t.getP (Tr.path 2)=some (.ptr none)∧s.t.getP (Tr.path 3)=some (.int .i64 2)∧Turns Z H s.H)∨(x=.ex 0∧s.t.getP (Tr.path 4)=some (.ptr (some ⟨.run H.next,0⟩))∧okSizes P∧∃ p o l,Grow H s.H (.run H.next) p o l (.int .i64 0) (.bool false) (.int .i64 0)∧l.map Dv.D=P.map (fun n=>blank n.toNat))):=by
   intro t q0 q4 q5
   refine wp_loopF (fun k s=>∃ i p o l,i+k=P.length∧s.d=[]∧s.t.getP (Tr.path 0)=some (.slice pp P.length pc po)∧s.t.getP (Tr.path 4)=some (.ptr (some ⟨.run H.next,0⟩))∧s.t.getP (Tr.path 5)=some (.int .i64 ((i:Nat):Int))∧Grow H s.H (.run H.next) p o l (.int .i64 0) (.bool false) (.int .i64 0)∧l.map Dv.D=(P.take i).map (fun n=>blank n.toNat)∧∀ n ∈ P.take i,1≤n∧n≤512) ?_ lf P.length _ ⟨0,none,0,[],by omega,rfl,q0,q4,q5,G0,rfl,fun n hn=>absurd hn (by simp)⟩ (by omega)
   rintro k ⟨t,HH,d⟩ ⟨i,p,o,l,hi,rfl,q0,q4,q5,hG,hm,hok⟩
   dsimp only at q0 q4 q5 hG
   by_cases hiP:i < P.length
   ·obtain⟨x,ox,hpx,l1⟩:=(hP.turns hG.t).load hiP
    rw[hpx] at q0
    have hi1:i+1≤P.length:=hiP
    have hw':IntKind.i64.wrap ((i:Int)+1)=(i:Int)+1:=wrap_i64 (by omega)
    by_cases hn:1≤P[i]∧P[i]≤512
    ·obtain⟨v,H1,e1,rfl,hD,t1⟩:=rnew_ok HH (n:=P[i].toNat) (by omega) (by omega) lf m
     rw[show ((P[i].toNat:Nat):Int)=P[i] from by omega] at e1
     have hF:Fresh HH (.run (HH.next+1)) ⟨.run HH.next,0,.run HH.next,none,0⟩ (blank P[i].toNat):=⟨Heap.not_old (by omega),Heap.not_old (Nat.le_refl _),fun e=>absurd rfl e⟩
     have hll:l.length=i:=by have:=congrArg List.length hm;simpa [Nat.min_eq_left (Nat.le_of_lt hiP)] using this
     obtain⟨H3,H4,ds,ha,hs,hG'⟩:=hG.step t1 hD hF (by omega)
     have l0:=hG.load t1
     have l0':=hG.load (t1.addm (.rows false 1 [[.ptr (some ⟨.run (HH.next+1),0⟩)]]))
     simp only[c27_l0,q0,q4,q5,hiP,hi1,l1,e1,l0,l0',ha,hs,hw',Nat.mul_one,sy,tup,↓reduceIte,zA,zG,zC,zD,zF,zE,zB,zH,reduceCtorEq]
     refine⟨k - 1,by omega,i+1,_,_,_,by omega,trivial,by rw[hpx],trivial,rfl,hG',?_,?_⟩
     ·rw[List.map_append,hm,List.take_succ_eq_append_getElem hiP,List.map_append];rfl
     ·rw[List.take_succ_eq_append_getElem hiP]
      intro z hz
      rcases List.mem_append.1 hz with hz | hz
      ·exact hok z hz
      ·rw[List.mem_singleton.1 hz];exact hn
    ·have e1:=rnew_err HH (n:=P[i]) (by omega) lf m
     have hbad:¬ okSizes P:=fun h=>hn (h.2.2 _ (List.getElem_mem hiP))
     simp only[c27_l0,q0,q4,q5,hiP,hi1,l1,e1,Nat.mul_one,sy,tup,↓reduceIte,zA,zG,zC,zD,zF,zE,zB,zH,reduceCtorEq]
     exact⟨trivial,.inl ⟨trivial,hbad,trivial,trivial,hG.t⟩⟩
   ·have hg:¬ (i < P.length):=hiP
    have hiL:P.take i=P:=List.take_of_length_le (by omega)
    rw[hiL] at hm hok
    simp only[c27_l0,q0,q4,q5,hg,sy,tup,↓reduceIte,zA,zG,zC,zD,zF,zE,zB,zH,reduceCtorEq]
    refine⟨trivial,.inr ⟨trivial,trivial,⟨g1,g2,hok⟩,p,o,l,hG,hm⟩⟩
  simp only[c27,g1',g2',sy,tup,↓reduceIte,zA,zG,zC,zD,zF,zE,zB,zH,reduceCtorEq]
  refine wp_ctx (F:=fun r=>seqC _ _ _ (blockC _ r)) (hloop _ ?_ ?_ ?_) ?_
  ·simp only[sy,tup,↓reduceIte,zA,zG,zC,zD,zF,zE,zB,zH,reduceCtorEq]
  ·simp only[sy,tup,↓reduceIte,zA,zG,zC,zD,zF,zE,zB,zH,reduceCtorEq]
  ·simp only[sy,tup,↓reduceIte,zA,zG,zC,zD,zF,zE,zB,zH,reduceCtorEq]
  rintro x ⟨t,HH,d⟩ ⟨rfl,⟨rfl,hbad,q2,q3,hT⟩ | ⟨rfl,q4,hok,p,o,l,hG,hm⟩⟩
  ·dsimp only at q2 q3 hT
   simp only[q2,q3,sy,tup,↓reduceIte,zA,zG,zC,zD,zF,zE,zB,zH,reduceCtorEq]
   exact⟨trivial,.inr trivial,_,rfl,hT,.inl ⟨hbad,rfl⟩⟩
  ·dsimp only at q4 hG
   have hl:l≠[]:=fun e=>by
    have:=congrArg List.length hm
    rw[e] at this;simp at this;omega
   obtain⟨ds,rfl,rfl,hR,hN⟩:=Grow.rep (r:=true) (B:=newB P) hG hl hm
   simp only[q4,sy,tup,↓reduceIte,zA,zG,zC,zD,zF,zE,zB,zH,reduceCtorEq]
   exact⟨trivial,.inr trivial,_,rfl,hG.t,.inr ⟨hok,ds,l,rfl,hR,hN⟩⟩
 ·have hbad:¬ okSizes P:=fun h=>hlen ⟨h.1,h.2.1⟩
  by_cases g1:(P.length:Int) < 1
  ·simp only[c27,g1,sy,tup,↓reduceIte,zA,zG,zC,zD,zF,zE,zB,zH,reduceCtorEq]
   exact⟨trivial,.inr trivial,_,rfl,Turns.refl Z H,.inl ⟨hbad,rfl⟩⟩
  ·have g2:17 < (P.length:Int):=by omega
   simp only[c27,g1,g2,sy,tup,↓reduceIte,zA,zG,zC,zD,zF,zE,zB,zH,reduceCtorEq]
   exact⟨trivial,.inr trivial,_,rfl,Turns.refl Z H,.inl ⟨hbad,rfl⟩⟩
end Go.Proofs.YtllkepkaimnodaaGreatDoor.disk
namespace Go.Proofs.YtllkepkaimnodaaGreatDoor.draft
open Go.Am
def Z:Bk→Prop:=fun _=>False
noncomputable abbrev S0:CallT:=disk.S0
def inn (n lo hi:Int):Bool:=decide (lo≤n)&&decide (n≤hi)
def may (m s r:Int):Bool:=inn m 3 16&&(inn s 1 64&&inn r 40 256)
def blocks (m s r:Int):Int:=if may m s r=true then s*(m - 1) else 0
end Go.Proofs.YtllkepkaimnodaaGreatDoor.draft
namespace Go.Proofs.YtllkepkaimnodaaGreatDoor.draft
open Go.Am
def sts (S:List Nat):List V:=S.map fun x:Nat=>V.int .u8 (x:Int)
def rcells (m s r:Int) (S:List Nat) (c:Int) (g:Bool):List V:=[.int .i64 m,.int .i64 s,.int .i64 r]++(sts S++[.int .i64 c,.bool g])
structure RosAt (H:Heap) (b:Bk) (m s r:Int) (S:List Nat) (c:Int) (g:Bool):Prop where
 own:H.get b=some (.rows false 21 [rcells m s r S c g])
 len:S.length=16
section
variable {H:Heap} {b:Bk} {m s r:Int} {S:List Nat} {c:Int} {g:Bool} (h:RosAt H b m s r S c g)
include h
end
end Go.Proofs.YtllkepkaimnodaaGreatDoor.draft
namespace Go.Proofs.YtllkepkaimnodaaGreatDoor.draft
open Go.Am
def cnt (S:List Nat) (x:Nat):Nat:=(S.filter fun y=>decide (y=x)).length
end Go.Proofs.YtllkepkaimnodaaGreatDoor.draft
namespace Go.Proofs.YtllkepkaimnodaaGreatDoor.draft
open Go.Am
end Go.Proofs.YtllkepkaimnodaaGreatDoor.draft
namespace Go.Proofs.YtllkepkaimnodaaGreatDoor.draft
open Go.Am
end Go.Proofs.YtllkepkaimnodaaGreatDoor.draft
namespace Go.Proofs.YtllkepkaimnodaaGreatDoor.draft
open Go.Am
noncomputable def c117_l0:C:=.seq (.reg [
 qo 43 (.p (arF .lss (tt 42) (tt 41))) [pp 42,pp 41]]) (
 .seq (.cond (tt 43) (.skip) (.exit 1)) (
 .seq (.block 2 (.seq (.reg [
 mv 44 42,
 qo 45 (.p (iaddrSF (tt 40) (tt 42) 1)) [pp 40,pp 42],
 qo 46 (.r (loadF (tt 45) 1 .sc)) [pp 45],
 mv 9 44,
 mv 10 46]) (
 .reg [
 mv 47 8,
 mv 48 10,
 qo 49 (.p (convF .u64 (tt 48))) [pp 48],
 mv 50 9,
 qo 51 (.p (arF .mul (ii 8) (tt 50))) [pp 50],
 qo 52 (.p (arF .shl (tt 49) (tt 51))) [pp 49,pp 51],
 qo 53 (.p (arF .or (tt 47) (tt 52))) [pp 47,pp 52],
 mv 8 53]))) (
 .reg [
 qo 54 (.p (arF .add (tt 42) (ii 1))) [pp 42],
 mv 42 54])))
noncomputable def c117:CFn:=⟨[.tmp (pp 6),.tmp (pp 7)],
 .seq (.reg [
 qo 6 (.p (S.get (.c (.int .u64 0)))) [],
 qo 7 (.p (S.get (ii 0))) []]) (
 .seq (.block 0 (.seq (.reg [
 mv 12 2,
 qo 13 (.p (arF .lss (tt 12) (ii 1))) [pp 12],
 mv 14 13,
 mg 15 2 14 false,
 qg 16 (.p (arF .gtr (tt 15) (ii 8))) 14 false [pp 15],
 qo 17 (.p (pickF (tt 14) (.c (.bool true)) (tt 16))) [pp 14,pp 16],
 mv 18 17,
 mg 19 1 18 false,
 qg 20 (.p (arF .lss (tt 19) (ii 0))) 18 false [pp 19],
 qo 21 (.p (pickF (tt 18) (.c (.bool true)) (tt 20))) [pp 18,pp 20],
 mv 22 21,
 mg 23 1 22 false,
 mg 24 0 22 false,
 qg 25 (.p (lenF (tt 24))) 22 false [pp 24],
 qg 26 (.p (arF .gtr (tt 23) (tt 25))) 22 false [pp 23,pp 25],
 qo 27 (.p (pickF (tt 22) (.c (.bool true)) (tt 26))) [pp 22,pp 26],
 mv 11 27]) (
 .cond (tt 11) (.seq (.reg [
 qo 6 (.p (S.get (.c (.int .u64 0)))) [],
 qo 7 (.p (S.get (ii 2))) []]) (
 .ret)) (.seq (.reg [
 mv 29 2,
 mv 30 0,
 qo 31 (.p (lenF (tt 30))) [pp 30],
 mv 32 1,
 qo 33 (.p (arF .sub (tt 31) (tt 32))) [pp 31,pp 32],
 qo 34 (.p (arF .gtr (tt 29) (tt 33))) [pp 29,pp 33],
 mv 28 34]) (
 .cond (tt 28) (.seq (.reg [
 qo 6 (.p (S.get (.c (.int .u64 0)))) [],
 qo 7 (.p (S.get (ii 4))) []]) (
 .ret)) (.skip)))))) (
 .seq (.reg [
 qo 8 (.p (S.get (.c (.int .u64 0)))) []]) (
 .seq (.seq (.reg [
 mv 35 0,
 mv 36 1,
 mv 37 1,
 mv 38 2,
 qo 39 (.p (arF .add (tt 37) (tt 38))) [pp 37,pp 38],
 qo 40 (.p (sliceF 1 (tt 35) (some (tt 36)) (some (tt 39)) none)) [pp 35,pp 36,pp 39],
 qo 41 (.p (lenF (tt 40))) [pp 40],
 qo 42 (.p (S.get (ii 0))) []]) (
 .block 1 (.loop c117_l0))) (
 .seq (.reg [
 mv 55 8,
 mv 6 55,
 qo 7 (.p (S.get (ii 0))) []]) (
 .ret)))))⟩
theorem c117_eq:fnOf Tryz.prog 117=some c117:=by kernel_rfl
theorem wrap_u64 {n:Nat} (h:n < 18446744073709551616):IntKind.u64.wrap (n:Int)=n:=by
 show (if false&&decide ((n:Int) % (2 ^ 64:Int)≥(2 ^ (64 - 1):Int)) then(n:Int) % (2 ^ 64:Int) - (2 ^ 64:Int) else(n:Int) % (2 ^ 64:Int))=n
 rw[show (2 ^ 64:Int)=18446744073709551616 from rfl]
 simp only[Bool.false_and,Bool.false_eq_true,if_false]
 omega
theorem fits_u64 {n:Nat} (h:n < 18446744073709551616):fitsK .u64 n=true:=by
 show Nat.ble n 18446744073709551615=true
 rw[ble_iff];omega
theorem lor_lt {a b:Nat} (h:a < 18446744073709551616) (k:b < 18446744073709551616):a ||| b < 18446744073709551616:=Nat.or_lt_two_pow (n:=64) h k
theorem or_u64 {a b:Nat} (h:a < 18446744073709551616) (k:b < 18446744073709551616):arith .or (.int .u64 (a:Int)) (.int .u64 (b:Int))=some (.int .u64 ((a ||| b:Nat):Int)):=by
 have e:bitI Nat.lor (fun _ a b=>a ||| b) .u64 (a:Int) (b:Int)=((a ||| b:Nat):Int):=by
  show (match fitsK .u64 a&&fitsK .u64 b with | true=>Int.ofNat (Nat.lor a b) | false=>_)=_
  rw[fits_u64 h,fits_u64 k];rfl
 show (match decide (IntKind.u64=IntKind.u64) with | false=>none | true=>mkI .u64 (bitI Nat.lor (fun _ a b=>a ||| b) .u64 (a:Int) (b:Int)))=_
 rw[e,C0,wrap_u64 (lor_lt h k)];rfl
noncomputable def up (c i:Nat):Nat:=c*2 ^ (8*i)
theorem up_lt {c i:Nat} (hc:c < 256) (hi:i < 8):up c i < 18446744073709551616:=by
 unfold up
 have h1:2 ^ (8*i)≤2 ^ 56:=Nat.pow_le_pow_right (by decide) (by omega)
 have h2:c*2 ^ (8*i)≤255*2 ^ 56:=Nat.mul_le_mul (by omega) h1
 exact Nat.lt_of_le_of_lt h2 (by decide)
theorem shl_u64 {c i:Nat} (hc:c < 256) (hi:i < 8):arith .shl (.int .u64 (c:Int)) (.int .i64 ((8*i:Nat):Int))=some (.int .u64 ((up c i:Nat):Int)):=by
 have hm:min (8*i) 64=8*i:=by omega
 show mkI .u64 (mulI (c:Int) (.ofNat (Nat.pow 2 (min (8*i) 64))))=_
 rw[hm,C0]
 show some (V.int .u64 (IntKind.u64.wrap ((c*2 ^ (8*i):Nat):Int)))=_
 have:=up_lt hc hi
 unfold up at this
 rw[wrap_u64 this]
 rfl
noncomputable def leN (c:Nat→Nat):Nat→Nat
 | 0=>0
 | i+1=>leN c i ||| up (c i) i
theorem leN_lt {c:Nat→Nat}:∀ {n:Nat},n≤8→(∀ i,i < n→c i < 256)→leN c n < 18446744073709551616
 | 0,_,_=>by show 0 < _;decide
 | n+1,h,hc=>lor_lt (leN_lt (by omega) (fun i hi=>hc i (by omega))) (up_lt (hc n (by omega)) (by omega))
theorem bounds_ok {len cap a b:Nat} (h1:a≤b) (h2:b≤cap):bounds len cap (some (.int .i64 (a:Int))) (some (.int .i64 (b:Int))) none=some (a,b,cap):=by
 have b1:bound cap (.int .i64 (b:Int))=some b:=by
  show (match Nat.ble b cap with | true=>some b | false=>none)=_
  rw[ble_iff.2 (by omega)]
 have b2:bound b (.int .i64 (a:Int))=some a:=by
  show (match Nat.ble a b with | true=>some a | false=>none)=_
  rw[ble_iff.2 (by omega)]
 unfold bounds
 simp only[boundD,b1,b2]
theorem wrap_nat {n:Nat} (h:n < 9223372036854775808):IntKind.i64.wrap (n:Int)=n:=wrap_i64 (by omega)
end Go.Proofs.YtllkepkaimnodaaGreatDoor.draft
namespace Go.Proofs.YtllkepkaimnodaaGreatDoor.draft
open Go.Am
noncomputable def c170:CFn:=⟨[.tmp (pp 2)],
 .seq (.reg [
 qo 2 (.p (S.get (.c (.int .u32 0)))) []]) (
 .seq (.reg [
 mv 3 0,
 qo 4 (.c (callF (ff 148) [(.c (.int .u32 0)),(tt 3)])) [pp 3],
 mv 2 4]) (
 .ret))⟩
theorem c170_eq:fnOf Tryz.prog 170=some c170:=by kernel_rfl
noncomputable def c148_l0:C:=.seq (.reg [
 qo 13 (.p (arF .lss (tt 12) (tt 11))) [pp 12,pp 11]]) (
 .seq (.cond (tt 13) (.skip) (.exit 0)) (
 .seq (.block 1 (.seq (.reg [
 qo 14 (.p (iaddrSF (tt 10) (tt 12) 1)) [pp 10,pp 12],
 qo 15 (.r (loadF (tt 14) 1 .sc)) [pp 14],
 mv 7 15]) (
 .reg [
 mv 16 5,
 mv 17 7,
 qo 18 (.c (callF (ff 186) [(tt 16),(tt 17)])) [pp 16,pp 17],
 mv 5 18]))) (
 .reg [
 qo 19 (.p (arF .add (tt 12) (ii 1))) [pp 12],
 mv 12 19])))
noncomputable def c148:CFn:=⟨[.tmp (pp 4)],
 .seq (.reg [
 qo 4 (.p (S.get (.c (.int .u32 0)))) []]) (
 .seq (.reg [
 mv 8 0,
 qo 9 (.p (unF .xor (tt 8))) [pp 8],
 mv 5 9]) (
 .seq (.seq (.reg [
 mv 10 1,
 qo 11 (.p (lenF (tt 10))) [pp 10],
 qo 12 (.p (S.get (ii 0))) []]) (
 .block 0 (.loop c148_l0))) (
 .seq (.reg [
 mv 20 5,
 qo 21 (.p (unF .xor (tt 20))) [pp 20],
 mv 4 21]) (
 .ret))))⟩
theorem c148_eq:fnOf Tryz.prog 148=some c148:=by kernel_rfl
noncomputable def c171:CFn:=⟨[.tmp (pp 2)],
 .seq (.reg [
 qo 2 (.p (S.get (.c (.slice none 0 0 0)))) []]) (
 .seq (.seq (.reg [
 mv 3 0,
 qo 4 (.r (eqnF false .slice (tt 3) (.c (.slice none 0 0 0)))) [pp 3]]) (
 .cond (tt 4) (.seq (.reg [
 qo 2 (.p (S.get (.c (.slice none 0 0 0)))) []]) (
 .ret)) (.skip))) (
 .seq (.reg [
 qo 5 (.m (bsliceF 0 1 [.int .u8 0] [])) [],
 mv 6 0,
 qo 7 (.a (appF 1 1 (tt 5) (tt 6))) [pp 5,pp 6],
 mv 2 7]) (
 .ret)))⟩
theorem c171_eq:fnOf Tryz.prog 171=some c171:=by kernel_rfl
noncomputable def c116:CFn:=⟨[.tmp (pp 2),.tmp (pp 3),.tmp (pp 4)],
 .seq (.reg [
 qo 1 (.m (boxF 64 (tt 0))) [pp 0],
 qo 2 (.p (S.get (.c (.int .u64 0)))) [],
 qo 3 (.p (S.get (.c (.slice none 0 0 0)))) [],
 qo 4 (.p (S.get (ii 0))) []]) (
 .seq (.reg [
 qo 12 (.p (sliceAF 64 1 (tt 1) none none none)) [pp 1],
 qo 13 (.c (callF (ff 117) [(tt 12),(ii 0),(ii 8)])) [pp 12],
 mv 11 13,
 qo 14 (.p (extF (tt 11) 0)) [pp 11],
 qo 15 (.p (extF (tt 11) 1)) [pp 11],
 mv 5 14,
 mv 6 15]) (
 .seq (.reg [
 qo 17 (.p (sliceAF 64 1 (tt 1) none none none)) [pp 1],
 qo 18 (.c (callF (ff 117) [(tt 17),(ii 56),(ii 8)])) [pp 17],
 mv 16 18,
 qo 19 (.p (extF (tt 16) 0)) [pp 16],
 qo 20 (.p (extF (tt 16) 1)) [pp 16],
 mv 7 19,
 mv 8 20]) (
 .seq (.seq (.reg [
 mv 21 5,
 qo 22 (.p (eqcF false false [.int .u64] (tt 21) (.c (.int .u64 0)))) [pp 21],
 mv 23 22,
 mg 24 5 23 false,
 mg 25 7 23 false,
 qg 26 (.p (eqcF true false [.int .u64] (tt 24) (tt 25))) 23 false [pp 24,pp 25],
 qo 27 (.p (pickF (tt 23) (.c (.bool true)) (tt 26))) [pp 23,pp 26]]) (
 .cond (tt 27) (.seq (.reg [
 qo 2 (.p (S.get (.c (.int .u64 0)))) [],
 qo 3 (.p (S.get (.c (.slice none 0 0 0)))) [],
 qo 4 (.p (S.get (ii 5))) []]) (
 .ret)) (.skip))) (
 .seq (.seq (.reg [
 qo 29 (.p (sliceAF 64 1 (tt 1) none none none)) [pp 1],
 qo 30 (.c (callF (ff 117) [(tt 29),(ii 52),(ii 4)])) [pp 29],
 mv 28 30,
 qo 31 (.p (extF (tt 28) 0)) [pp 28],
 qo 32 (.p (extF (tt 28) 1)) [pp 28],
 mv 9 31,
 mv 10 32]) (
 .seq (.reg [
 qo 33 (.p (sliceAF 64 1 (tt 1) none (some (ii 52)) (some (ii 52)))) [pp 1],
 qo 34 (.c (callF (ff 170) [(tt 33)])) [pp 33],
 qo 35 (.p (convF .u64 (tt 34))) [pp 34],
 mv 36 9,
 qo 37 (.p (eqcF true false [.int .u64] (tt 35) (tt 36))) [pp 35,pp 36]]) (
 .cond (tt 37) (.seq (.reg [
 qo 2 (.p (S.get (.c (.int .u64 0)))) [],
 qo 3 (.p (S.get (.c (.slice none 0 0 0)))) [],
 qo 4 (.p (S.get (ii 6))) []]) (
 .ret)) (.skip)))) (
 .seq (.reg [
 mv 38 5,
 qo 39 (.p (sliceAF 64 1 (tt 1) (some (ii 8)) (some (ii 52)) (some (ii 52)))) [pp 1],
 qo 40 (.c (callF (ff 171) [(tt 39)])) [pp 39],
 mv 2 38,
 mv 3 40,
 qo 4 (.p (S.get (ii 0))) []]) (
 .ret))))))⟩
theorem c116_eq:fnOf Tryz.prog 116=some c116:=by kernel_rfl
theorem take_lt {r c:Nat} (hr:r < 4294967296) (hc:c < 256):crc.takeN r c < 4294967296:=crc.half_lt (crc.half_lt (crc.xor_lt hr (by omega)))
noncomputable def notN (r:Nat):Nat:=crc.xo 4294967295 r
theorem notN_lt {r:Nat} (hr:r < 4294967296):notN r < 4294967296:=crc.xor_lt (by decide) hr
noncomputable def crcN (c:Nat→Nat):Nat→Nat
 | 0=>4294967295
 | i+1=>crc.takeN (crcN c i) (c i)
theorem crcN_lt {c:Nat→Nat}:∀ {n:Nat},(∀ i,i < n→c i < 256)→crcN c n < 4294967296
 | 0,_=>by show 4294967295 < _;decide
 | n+1,hc=>take_lt (crcN_lt (fun i hi=>hc i (by omega))) (hc n (by omega))
theorem not_u32 {r:Nat} (hr:r < 4294967296):unary .xor (.int .u32 (r:Int))=some (.int .u32 ((notN r:Nat):Int)):=by
 have e:bitI Nat.xor (fun _ a b=>a ^^^ b) .u32 (4294967295:Int) (r:Int)=((notN r:Nat):Int):=by
  show (match fitsK .u32 4294967295&&fitsK .u32 r with | true=>Int.ofNat (Nat.xor 4294967295 r) | false=>_)=_
  rw[crc.fits_u32 hr];rfl
 show mkI .u32 (bitI Nat.xor (fun _ a b=>a ^^^ b) .u32 (4294967295:Int) (r:Int))=_
 rw[e,C0,crc.u32_wrap (notN_lt hr)]
theorem byte_lt (B i:Nat):byte B i < 256:=Nat.mod_lt _ (by decide)
theorem load_byte {H:Heap} {b:Bk} {ro:Bool} {B i:Nat} (h:H.get b=some (.rows ro 64 [[.blk B]])) (hi:i < 64):loadAt H ⟨b,i⟩ 1=some [.int .u8 (byte B i:Int)]:=by
 rw[loadAt_eq h (r:=[.blk B]) (by rw[Nat.div_eq_of_lt hi];rfl),Nat.mod_eq_of_lt hi]
 exact disk.cut_byte B i hi
def rowsB (c:Nat→Nat):Nat→Nat→List (List V)
 | 0,_=>[]
 | n+1,j=>[.int .u8 (c j:Int)]::rowsB c n (j+1)
theorem rowsB_len (c:Nat→Nat):∀ n j,(rowsB c n j).length=n
 | 0,_=>rfl
 | n+1,j=>by simp[rowsB,rowsB_len c n (j+1)]
theorem rowsB_get (c:Nat→Nat):∀ n j i,i < n→(rowsB c n j)[i]?=some [.int .u8 (c (j+i):Int)]
 | n+1,j,0,_=>rfl
 | n+1,j,i+1,h=>by
  have:=rowsB_get c n (j+1) i (by omega)
  rw[show j+1+i=j+(i+1) by omega] at this
  exact this
theorem elems_blk {H:Heap} {b:Bk} {B:Nat} (h:H.get b=some (.rows false 64 [[.blk B]])):∀(n j:Nat),j+n≤64→elems H b 1 n j=some (rowsB (byte B) n j)
 | 0,_,_=>rfl
 | n+1,j,hj=>by
  unfold elems
  rw[load_byte h (show j < 64 by omega)]
  simp only
  rw[show Nat.add j 1=j+1 from rfl,elems_blk h n (j+1) (by omega)]
  rfl
structure BodyAt (H:Heap) (k:Nat) (c:Nat→Nat) (n:Nat):Prop where
 own:H.get (.run k)=some (.rows false 1 (rowsB c n 0))
 old:k < H.next
theorem BodyAt.turns {H H':Heap} {k:Nat} {c:Nat→Nat} {n:Nat} (h:BodyAt H k c n) (t:Turns Z H H'):BodyAt H' k c n:=⟨(t.same (.run k) h.old id).trans h.own,Nat.lt_of_lt_of_le h.old t.next⟩
theorem BodyAt.load {H:Heap} {k:Nat} {c:Nat→Nat} {n i:Nat} (h:BodyAt H k c n) (hi:i < n):loadAt H ⟨.run k,i⟩ 1=some [.int .u8 (c i:Int)]:=by
 rw[loadAt_eq h.own (r:=[.int .u8 (c i:Int)]) (by rw[Nat.div_one,nth_eq,rowsB_get c n 0 i hi,Nat.zero_add]),Nat.mod_one]
 rfl
theorem rowsB_shift (c:Nat→Nat) (a:Nat):∀ n j,rowsB c n (a+j)=rowsB (fun i=>c (a+i)) n j
 | 0,_=>rfl
 | n+1,j=>by
  show _::_=_::_
  rw[show a+j+1=a+(j+1) by omega,rowsB_shift c a n (j+1)]
noncomputable def sealN (B:Nat):Nat:=leN (fun i=>byte B (0+i)) 8
noncomputable def sealE (B:Nat):Int:=
 if sealN B=0∨sealN B≠leN (fun i=>byte B (56+i)) 8 then 5
 else if notN (crcN (byte B) 52)≠leN (fun i=>byte B (52+i)) 4 then 6 else 0
end Go.Proofs.YtllkepkaimnodaaGreatDoor.draft
namespace Go.Proofs.YtllkepkaimnodaaGreatDoor.draft
open Go.Am
def scells (id me m s r:Int) (S:List Nat) (c:Int) (g:Bool):List V:=[.int .u64 id,.int .i64 me]++rcells m s r S c g
structure SupAt (H:Heap) (b:Bk) (id me m s r:Int) (S:List Nat) (c:Int) (g:Bool):Prop where
 own:H.get b=some (.rows false 23 [scells id me m s r S c g])
 len:S.length=16
section
variable {H:Heap} {b:Bk} {id me m s r:Int} {S:List Nat} {c:Int} {g:Bool} (h:SupAt H b id me m s r S c g)
include h
end
end Go.Proofs.YtllkepkaimnodaaGreatDoor.draft
namespace Go.Proofs.YtllkepkaimnodaaGreatDoor.draft
open Go.Am
noncomputable def c194_l0:C:=.seq (.reg [
 qo 9 (.p (arF .lss (tt 8) (tt 7))) [pp 8,pp 7]]) (
 .seq (.cond (tt 9) (.skip) (.exit 0)) (
 .seq (.block 1 (.seq (.reg [
 mv 10 8,
 mv 5 10]) (
 .seq (.reg [
 mv 11 1,
 mv 12 0,
 mv 13 5,
 qo 14 (.p (iaddrSF (tt 12) (tt 13) 1)) [pp 12,pp 13],
 qo 15 (.r (loadF (tt 14) 1 .sc)) [pp 14],
 qo 16 (.c (callF (tt 11) [(tt 15)])) [pp 11,pp 15]]) (
 .cond (tt 16) (.seq (.reg [
 mv 17 5,
 mv 4 17]) (
 .ret)) (.skip))))) (
 .reg [
 qo 18 (.p (arF .add (tt 8) (ii 1))) [pp 8],
 mv 8 18])))
noncomputable def c194:CFn:=⟨[.tmp (pp 4)],
 .seq (.reg [
 qo 4 (.p (S.get (ii 0))) []]) (
 .seq (.seq (.reg [
 mv 6 0,
 qo 7 (.p (lenF (tt 6))) [pp 6],
 qo 8 (.p (S.get (ii 0))) []]) (
 .block 0 (.loop c194_l0))) (
 .seq (.reg [
 qo 4 (.p (S.get (ii (-1)))) []]) (
 .ret)))⟩
theorem c194_eq:fnOf Tryz.prog 194=some c194:=by kernel_rfl
noncomputable def c168:CFn:=⟨[.tmp (pp 4)],
 .seq (.reg [
 qo 4 (.p (S.get (.c (.bool false)))) []]) (
 .seq (.reg [
 mv 5 0,
 mv 6 1,
 qo 7 (.c (callF (ff 194) [(tt 5),(tt 6)])) [pp 5,pp 6],
 qo 8 (.p (arF .geq (tt 7) (ii 0))) [pp 7],
 mv 4 8]) (
 .ret))⟩
theorem c168_eq:fnOf Tryz.prog 168=some c168:=by kernel_rfl
def zeroTo (c:Nat→Nat) (n:Nat):Prop:=∀ i,i < n→c i=0
theorem wrap_u8 {n:Nat} (h:n < 256):IntKind.u8.wrap (n:Int)=n:=by
 show (if false&&decide ((n:Int) % (2 ^ 8:Int)≥(2 ^ (8 - 1):Int)) then(n:Int) % (2 ^ 8:Int) - (2 ^ 8:Int) else(n:Int) % (2 ^ 8:Int))=n
 rw[show (2 ^ 8:Int)=256 from rfl]
 simp only[Bool.false_and,Bool.false_eq_true,if_false]
 omega
theorem quo_i64 (a b:Nat) (hb:b≠0) (ha:a < 9223372036854775808):arith .quo (.int .i64 (a:Int)) (.int .i64 (b:Int))=some (.int .i64 ((a / b:Nat):Int)):=by
 have h0:eqI (b:Int) 0=false:=by
  rw[Cy];simpa using hb
 show (match eqI (b:Int) 0 with | true=>none | false=>mkI .i64 (quoI (a:Int) (b:Int)))=_
 rw[h0]
 show mkI .i64 ((a / b:Nat):Int)=_
 rw[C0,wrap_nat (Nat.lt_of_le_of_lt (Nat.div_le_self _ _) ha)]
theorem rem_i64 (a b:Nat) (hb:b≠0):arith .rem (.int .i64 (a:Int)) (.int .i64 (b:Int))=some (.int .i64 ((a % b:Nat):Int)):=by
 have h0:eqI (b:Int) 0=false:=by
  rw[Cy];simpa using hb
 show (match eqI (b:Int) 0 with | true=>none | false=>frc (remI (a:Int) (b:Int)) fun n=>some (V.int .i64 n))=_
 rw[h0]
 show frc (((a % b:Nat)):Int) _=_
 generalize a % b=z
 cases z<;>rfl
noncomputable def twoB (c:Nat→Nat) (i:Nat):Nat:=(c (2*i / 8) / 2 ^ (2*i % 8))&&&3
theorem rowsB_congr {f g:Nat→Nat}:∀ n j,(∀ i,j≤i→i < j+n→f i=g i)→rowsB f n j=rowsB g n j
 | 0,_,_=>rfl
 | n+1,j,h=>by
  show _::_=_::_
  rw[h j (by omega) (by omega),rowsB_congr n (j+1) (fun i h1 h2=>h i (by omega) (by omega))]
theorem rowsB_upd (f:Nat→Nat) (x:Nat):∀ n j i,i < n→upd [V.int .u8 (x:Int)] (rowsB f n j) i=rowsB (fun q=>if q=j+i then x else f q) n j
 | n+1,j,0,_=>by
  show _::_=_::_
  simp only[Nat.add_zero,if_true]
  rw[rowsB_congr (g:=fun q=>if q=j then x else f q) n (j+1) (fun i h1 h2=>by rw[if_neg (by omega)])]
 | n+1,j,i+1,h=>by
  show _::upd [V.int .u8 (x:Int)] (rowsB f n (j+1)) i=_::_
  rw[rowsB_upd f x n (j+1) i (by omega),show j+1+i=j+(i+1) by omega]
  have e:(fun q=>if q=j+(i+1) then x else f q) j=f j:=if_neg (by omega)
  rw[e]
theorem rowsB_rep:∀ n j,List.replicate n [V.int .u8 0]=rowsB (fun _=>0) n j
 | 0,_=>rfl
 | n+1,j=>by
  rw[List.replicate_succ,rowsB_rep n (j+1)]
  rfl
end Go.Proofs.YtllkepkaimnodaaGreatDoor.draft
namespace Go.Proofs.YtllkepkaimnodaaGreatDoor.draft
open Go.Am
def stl (f:Nat→Nat):Nat→Nat→List Nat
 | 0,_=>[]
 | n+1,j=>f j::stl f n (j+1)
theorem stl_len (f:Nat→Nat):∀ n j,(stl f n j).length=n
 | 0,_=>rfl
 | n+1,j=>by simp[stl,stl_len f n (j+1)]
noncomputable def bc (B i:Nat):Nat:=byte B (8+i)
noncomputable def fld (B a sz:Nat):Nat:=leN (fun i=>bc B (a+i)) sz
noncomputable def gSt (B:Nat):List Nat:=stl (twoB fun i=>bc B (14+i)) 16 0
open Classical in
theorem run_ne {a b:Nat} (h:a≠b):¬ (Bk.run a=Bk.run b):=fun e=>h (by cases e;rfl)
end Go.Proofs.YtllkepkaimnodaaGreatDoor.draft
namespace Go.Proofs.YtllkepkaimnodaaGreatDoor.draft
open Go.Am
end Go.Proofs.YtllkepkaimnodaaGreatDoor.draft
namespace Go.Proofs.YtllkepkaimnodaaGreatDoor.draft
open Go.Am
end Go.Proofs.YtllkepkaimnodaaGreatDoor.draft
namespace Go.Proofs.YtllkepkaimnodaaGreatDoor.draft
open Go.Am
end Go.Proofs.YtllkepkaimnodaaGreatDoor.draft
namespace Go.Proofs.YtllkepkaimnodaaGreatDoor.disk
open Go.Am
theorem bdevs {H:Heap} {b ds:Bk} {so:Nat} {l:List Dv} {B:Bn} (h:BRep H b ds so l B) (hl:l≠[]) (lf m:Nat):callS Tryz.prog S0 lf (m+2) 100 [.ptr (some ⟨b,0⟩)] H=some (.v (.int .i64 (l.length:Int)),H):=by
 have e1:=bnone h.at' hl lf m
 have l0:=bload0 h.at'
 obtain⟨v,H',e,rfl,rfl⟩:ret (callS Tryz.prog S0 lf (m+2) 100 [.ptr (some ⟨b,0⟩)] H) fun v H'=>v=.int .i64 (l.length:Int)∧H'=H:=by
  refine ret_call rfl c100_eq ?_
  simp only[c100,e1,l0,sy,tup,↓reduceIte,zA,zG,zC,zD,zF,zE,zB,zH,reduceCtorEq]
  exact⟨trivial,.inr trivial,_,rfl,rfl,trivial⟩
 exact e
end Go.Proofs.YtllkepkaimnodaaGreatDoor.disk
namespace Go.Proofs.YtllkepkaimnodaaGreatDoor.draft
open Go.Am
end Go.Proofs.YtllkepkaimnodaaGreatDoor.draft
