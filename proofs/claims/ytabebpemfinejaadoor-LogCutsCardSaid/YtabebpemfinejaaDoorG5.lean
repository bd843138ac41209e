import Derived.Test.YtabebpemfinejaaDoorG4
import Derived.Test.YtabebpemfinejaaDoorG0
import Derived.Test.YtabebpemfinejaaDoorG1
set_option linter.unusedVariables false
set_option linter.unusedSectionVars false
set_option linter.unusedSimpArgs false
set_option maxRecDepth 10000
open Nat renaming reduceEqDiff → zA, reduceLeDiff → zB, reduceSub → zC, reduceMul → zD, reduceMod → zE, reduceDiv → zF, reduceAdd → zG
open Int renaming reduceBEq → zH
namespace Go.Proofs.YtabebpemfinejaaDoor.draft
open Go.Am
open disk (bx Fit A1 R1 Low Bn)
section
variable {lf K:Nat} (hlf:1000 < lf)
include hlf
theorem ullay_steps {G:Heap} {l:Bk} {u:Nat} (hu:G.get (.run u)=some (.rows false 1 [[.ptr (some ⟨l,0⟩)]])) (uo:u < G.next) (n:Nat):∀ t:T,t.getP (Tr.path 11)=some (.ptr (some ⟨.run u,0⟩))→t.getP (Tr.path 12)=some (.slice none 0 0 0)→t.getP (Tr.path 46)=some (.int .i64 0) →
  wp (loopF (runC (U lf K (n+1)) lf c24_l0) lf ⟨t,G,[]⟩) fun x s=>x=.ex 1∧s.d=[]∧s.t.getP (Tr.path 11)=some (.ptr (some ⟨.run u,0⟩))∧Turns Z G s.H∧∃(Vs:List V) (y:V),s.t.getP (Tr.path 12)=some y∧Lst G s.H 1 (Vs.map fun v=>[v]) y∧Vs.length=10∧(∀ j (h1:j < Vs.length),StepAt G s.H l Vs[j] (.wr j 0)):=by
 intro t q11 q12 q46
 refine wp_loopF (fun k s=>∃(i:Nat) (Vs:List V) (y:V),k=10 - i∧i≤10∧s.d=[]∧s.t.getP (Tr.path 11)=some (.ptr (some ⟨.run u,0⟩))∧s.t.getP (Tr.path 12)=some y∧s.t.getP (Tr.path 46)=some (.int .i64 (i:Int))∧Lst G s.H 1 (Vs.map fun v=>[v]) y∧Vs.length=i∧(∀ j (h1:j < Vs.length),StepAt G s.H l Vs[j] (.wr j 0))∧Turns Z G s.H)
  ?_ lf 10 _ ⟨0,[],_,rfl,Nat.zero_le _,rfl,q11,q12,q46,Lst.nil _ _ _,rfl,fun j h1=>absurd h1 (by simp),Turns.refl _ _⟩ (by omega)
 rintro k ⟨t,HH,d⟩ ⟨i,Vs,y,rfl,hi,hd,q11,q12,q46,hy,hVs,hst,hT⟩
 dsimp only at hd q11 q12 q46 hy hst hT
 subst hd
 by_cases hlt:i < 10
 ·have hlt':(i:Int) < 10:=by omega
  have w1:IntKind.i64.wrap ((i:Int)+1)=((i+1:Nat):Int):=by rw[Go.Am.wrap_i64 (by omega)];omega
  have huH:=(hT.same (.run u) uo (fun h=>h)).trans hu
  have k0:cut [V.ptr (some ⟨l,0⟩)] 0 1=some [.ptr (some ⟨l,0⟩)]:=rfl
  obtain⟨v1,H1,e1,hs1,t1⟩:=ulput hlf (K:=K) HH l i 0 n
  have hs1':=hs1
  obtain⟨b1,b2,b3,rfl,g1,g2,g3,l1,l2,l3,h1,h2,h3⟩:=hs1'
  obtain⟨pv,hpv⟩:∃ pv:V,pv=.func (.func 60) [] [.ptr (some ⟨.run b1,0⟩),.ptr (some ⟨.run b2,0⟩),.ptr (some ⟨.run b3,0⟩)]:=⟨_,rfl⟩
  rw[← hpv] at e1 hs1
  have cpv:pv.cells=some [pv]:=by rw[hpv];rfl
  have wpv:width [pv]=1:=by rw[hpv];rfl
  have hy1:=hy.turns t1 (fun _ _ h=>h)
  have hxg:(H1.add (.rows false 1 [[pv]])).get (.run H1.next)=some (.rows false 1 [[pv]]):=by rw[Heap.get_add,if_pos rfl]
  have ta:=Turns.add Z H1 (.rows false 1 [[pv]])
  obtain⟨H2,hH2⟩:∃ H2,H1.add (.rows false 1 [[pv]])=H2:=⟨_,rfl⟩
  rw[hH2] at hxg ta
  have hy2:=hy1.turns ta (fun _ _ h=>h)
  have hvl:(Vs.map fun v=>[v]).length=i:=by rw[List.length_map,hVs]
  have tt:=(hT.trans t1).trans ta
  obtain⟨H3,ea,hy3,t3,_⟩:=hy2.app1 (by':=8) tt.next hxg (by rw[hpv];rfl) (by decide) (by rw[hvl];omega) (by rw[hvl];omega)
  rw[hvl] at ea hy3
  have hf:∀ v ∈ Vs,∃ f a k,v=V.func f a k:=fun v hv=>by
   obtain⟨j,hj,rfl⟩:=List.getElem_of_mem hv
   exact(hst j hj).func
  have t3':=lst_away hy2 tt (Nat.le_refl _) t3
  have hs3:StepAt G H3 l pv (.wr i 0):=by
   have hn:=hT.next
   have h0:StepAt G H1 l pv (.wr i 0):=⟨b1,b2,b3,hpv,by omega,by omega,by omega,l1,l2,l3,h1,h2,h3⟩
   exact(h0.turns ta (fun _ _ _ h=>h)).away hy2 hf t3
  have hst3:∀ j (h1:j < Vs.length),StepAt G H3 l Vs[j] (.wr j 0):=fun j hj=>(((hst j hj).turns t1 (fun _ _ _ h=>h)).turns ta (fun _ _ _ h=>h)).away hy2 hf t3
  simp (maxDischargeDepth:=12) only[c24_l0,q11,q12,q46,hlt',w1,huH,k0,e1,cpv,wpv,hH2,ea,Nat.mul_one,hv,ldO_one,stO_one,sy,tup,↓reduceIte,zA,zG,zC,zD,zF,zE,zB,zH,reduceCtorEq]
  refine⟨10 - (i+1),by omega,i+1,Vs++[pv],_,rfl,by omega,trivial,by simp[q11],rfl,by simp,by rw[List.map_append];exact hy3,by simp[hVs],fun j hj=>?_,t3'⟩
  by_cases e:j < Vs.length
  ·rw[List.getElem_append_left e]
   exact hst3 j e
  ·have ej:j=Vs.length:=by simp at hj;omega
   subst ej
   have g1:(Vs++[pv])[Vs.length]'hj=pv:=by simp
   rw[g1,hVs]
   exact hs3
 ·have:i=10:=by omega
  subst this
  have hnl:¬ (((10:Nat):Int) < 10):=by decide
  simp (maxDischargeDepth:=12) only[c24_l0,q46,hnl,hv,ldO_one,stO_one,sy,tup,↓reduceIte,zA,zG,zC,zD,zF,zE,zB,zH,reduceCtorEq]
  exact⟨trivial,trivial,q11,hT,Vs,y,q12,hy,hVs,hst⟩
theorem ullay {G:Heap} {b:Bk} {B:Bn} (hgl:G.get (.run 0)=some (.rows true 4 (intsR [8,2,8,8]))) (h00:0 < G.next) (hb:G.get b=some (bx false B)) (bo:G.Old b) (hR:Rm 40 B) (d:Int) {id:Nat} (hid:id < 18446744073709551616) (s:Int) {T:Int} (hT:T=IntKind.i64.wrap (10+(if s < 0 then 0 else s))) (hd:roomC B d T=0→40≤s→s≤256→d=0) (n:Nat) :
  ret (U lf K (n+9) 24 [.ptr (some ⟨b,0⟩),.int .i64 d,.int .u64 (id:Int),.int .i64 s] G) fun v G'=>
   ((roomC B d T≠0∨id=0∨s < 40∨256 < s)∧v=.tuple [.ptr none,.int .i64 2]∧Turns Z G G') ∨
   ((roomC B d T=0∧id≠0∧40≤s∧s≤256)∧G'.get b=some (bx false (doneB B (layT id s.toNat)))∧Turns (fun c=>c=b) G G'∧∃ e,e=doneC B (layT id s.toNat) ∧
    ((e≠0∧v=.tuple [.ptr none,.int .i64 e])∨(e=0∧∃ l,v=.tuple [.ptr (some ⟨l,0⟩),.int .i64 0]∧LogAt G' l b id s.toNat 1 1 0 0 [] (.slice none 0 0 0)∧¬ G.Old l))):=by
 obtain⟨v1,G1,e1,rfl,t1⟩:=ulroom hlf (K:=K) hb hR.fit d T (n+6)
 refine ret_callU rfl rfl c24_eq ?_
 by_cases hc:roomC B d T=0
 rotate_left
 ·have hc2:roomC B d T=2:=by
   unfold roomC at hc ⊢
   split
   ·rfl
   ·rename_i h;rw[if_neg h] at hc;exact absurd rfl hc
  rw[hc2] at e1 ⊢
  have hb21:((2:Int)==1)=false:=rfl
  have hb20:((2:Int)==0)=false:=rfl
  simp (maxDischargeDepth:=12) only[c24,foldF,← hT,e1,hb21,hb20,hv,ldO_one,stO_one,sy,tup,↓reduceIte,zA,zG,zC,zD,zF,zE,zB,zH,reduceCtorEq]
  exact⟨trivial,.inr trivial,_,rfl,.inl ⟨.inl (by decide),rfl,t1⟩⟩
 rw[hc] at e1 ⊢
 have hb01:((0:Int)==1)=false:=rfl
 by_cases hi:id=0
 ·have hi':((id:Int)==0)=true:=by rw[hi];rfl
  simp (maxDischargeDepth:=12) only[c24,foldF,← hT,e1,hb01,hi',hv,ldO_one,stO_one,sy,tup,↓reduceIte,zA,zG,zC,zD,zF,zE,zB,zH,reduceCtorEq]
  exact⟨trivial,.inr trivial,_,rfl,.inl ⟨.inr (.inl hi),rfl,t1⟩⟩
 have hi':((id:Int)==0)=false:=by rw[beq_eq_false_iff_ne];omega
 by_cases h40:s < 40
 ·simp (maxDischargeDepth:=12) only[c24,foldF,← hT,e1,hb01,hi',h40,hv,ldO_one,stO_one,sy,tup,↓reduceIte,zA,zG,zC,zD,zF,zE,zB,zH,reduceCtorEq]
  exact⟨trivial,.inr trivial,_,rfl,.inl ⟨.inr (.inr (.inl trivial)),rfl,t1⟩⟩
 by_cases h256:256 < s
 ·simp (maxDischargeDepth:=12) only[c24,foldF,← hT,e1,hb01,hi',h40,h256,hv,ldO_one,stO_one,sy,tup,↓reduceIte,zA,zG,zC,zD,zF,zE,zB,zH,reduceCtorEq]
  exact⟨trivial,.inr trivial,_,rfl,.inl ⟨.inr (.inr (.inr trivial)),rfl,t1⟩⟩
 have hd0:=hd hc (by omega) (by omega)
 subst hd0
 obtain⟨R,hRs⟩:∃ R,R=s.toNat:=⟨_,rfl⟩
 have hsR:s=(R:Int):=by omega
 subst hsR
 rw[← hRs]
 have t2:Turns Z G1 (((G1.add (.rows false 9 [[.ptr (some ⟨b,0⟩),.int .i64 0,.int .u64 (id:Int),.int .i64 (R:Int),.int .u64 1,.int .u64 1,.int .u64 0,.int .u64 0,.slice none 0 0 0]])).add (.rows false 1 [[.ptr none]])).set (.run (G1.next+1)) (.rows false 1 [[.ptr (some ⟨.run G1.next,0⟩)]])):=Turns.setn ((Turns.add Z G1 _).addm _) _ (by omega) _
 have hl2:(((G1.add (.rows false 9 [[.ptr (some ⟨b,0⟩),.int .i64 0,.int .u64 (id:Int),.int .i64 (R:Int),.int .u64 1,.int .u64 1,.int .u64 0,.int .u64 0,.slice none 0 0 0]])).add (.rows false 1 [[.ptr none]])).set (.run (G1.next+1)) (.rows false 1 [[.ptr (some ⟨.run G1.next,0⟩)]])).get (.run G1.next)=some (.rows false 9 [[.ptr (some ⟨b,0⟩),.int .i64 0,.int .u64 (id:Int),.int .i64 (R:Int),.int .u64 1,.int .u64 1,.int .u64 0,.int .u64 0,.slice none 0 0 0]]):=by
  rw[Heap.get_set,if_neg (run_ne (by omega)),Heap.get_add,if_neg (run_ne (by simp)),Heap.get_add,if_pos rfl]
 have hx2:(((G1.add (.rows false 9 [[.ptr (some ⟨b,0⟩),.int .i64 0,.int .u64 (id:Int),.int .i64 (R:Int),.int .u64 1,.int .u64 1,.int .u64 0,.int .u64 0,.slice none 0 0 0]])).add (.rows false 1 [[.ptr none]])).set (.run (G1.next+1)) (.rows false 1 [[.ptr (some ⟨.run G1.next,0⟩)]])).get (.run (G1.next+1))=some (.rows false 1 [[.ptr (some ⟨.run G1.next,0⟩)]]):=by rw[Heap.get_set,if_pos rfl]
 obtain⟨G2,hG2⟩:∃ G2,((G1.add (.rows false 9 [[.ptr (some ⟨b,0⟩),.int .i64 0,.int .u64 (id:Int),.int .i64 (R:Int),.int .u64 1,.int .u64 1,.int .u64 0,.int .u64 0,.slice none 0 0 0]])).add (.rows false 1 [[.ptr none]])).set (.run (G1.next+1)) (.rows false 1 [[.ptr (some ⟨.run G1.next,0⟩)]])=G2:=⟨_,rfl⟩
 have n2:G2.next=G1.next+1+1:=by rw[← hG2];rfl
 rw[hG2] at t2 hl2 hx2
 have hloop:=ullay_steps hlf (K:=K) (G:=G2) (l:=.run G1.next) hx2 (by omega) (n+7)
 simp (maxDischargeDepth:=12) only[c24,foldF,← hT,e1,hb01,hi',h40,h256,hG2,hv,ldO_one,stO_one,sy,tup,↓reduceIte,zA,zG,zC,zD,zF,zE,zB,zH,reduceCtorEq]
 refine wp_ctx (F:=fun r=>seqC _ _ _ (blockC _ r)) (hloop _ ?_ ?_ ?_) ?_
 ·simp only[sy,tup,↓reduceIte,zA,zG,zC,zD,zF,zE,zB,zH,reduceCtorEq]
 ·simp only[sy,tup,↓reduceIte,zA,zG,zC,zD,zF,zE,zB,zH,reduceCtorEq]
 ·simp only[sy,tup,↓reduceIte,zA,zG,zC,zD,zF,zE,zB,zH,reduceCtorEq]
 rintro x ⟨t,G3,d⟩ ⟨rfl,hd,q11,t3,Vs,y,q12,hy,hVs,hst⟩
 dsimp only at hd q11 t3 q12 hy hst
 subst hd
 have hx3:=(t3.same (.run (G1.next+1)) (by show _ < _;omega) (fun h=>h)).trans hx2
 have hl3:=(t3.same (.run G1.next) (by show _ < _;omega) (fun h=>h)).trans hl2
 have k0:cut [V.ptr (some ⟨.run G1.next,0⟩)] 0 1=some [.ptr (some ⟨.run G1.next,0⟩)]:=rfl
 obtain⟨fv,hfv⟩:∃ fv:V,fv=.func (.func 35) [.ptr (some ⟨.run G1.next,0⟩)] []:=⟨_,rfl⟩
 obtain⟨mv',hmv⟩:∃ mv':V,mv'=.func (.func 52) [] [.ptr (some ⟨.run (G1.next+1),0⟩)]:=⟨_,rfl⟩
 have cfv:fv.cells=some [fv]:=by rw[hfv];rfl
 have cmv:mv'.cells=some [mv']:=by rw[hmv];rfl
 have wfv:width [fv]=1:=by rw[hfv];rfl
 have wmv:width [mv']=1:=by rw[hmv];rfl
 have t4:=Turns.add Z G3 (.rows false 1 [[fv],[mv']])
 have hx4:(G3.add (.rows false 1 [[fv],[mv']])).get (.run G3.next)=some (.rows false 1 [[fv],[mv']]):=by rw[Heap.get_add,if_pos rfl]
 obtain⟨G4,hG4⟩:∃ G4,G3.add (.rows false 1 [[fv],[mv']])=G4:=⟨_,rfl⟩
 rw[hG4] at t4 hx4
 have hfe:firstE G4 1 (.slice (some ⟨.run G3.next,0⟩) 2 2 0)=some [[fv],[mv']]:=by
  have l0:loadAt G4 ⟨.run G3.next,0⟩ 1=some [fv]:=by rw[loadAt_eq hx4 (r:=[fv]) rfl,hfv];rfl
  have l1:loadAt G4 ⟨.run G3.next,Nat.add 0 1⟩ 1=some [mv']:=by rw[loadAt_eq hx4 (r:=[mv']) rfl,hmv];rfl
  simp only[firstE,elems,l0,l1]
  rfl
 have hy4:=hy.turns t4 (fun _ _ h=>h)
 have hvl:(Vs.map fun v=>[v]).length=10:=by rw[List.length_map,hVs]
 have t34:=t3.trans t4
 obtain⟨G5,ea,hy5,t5,_⟩:=hy4.app (by':=8) (x:=.slice (some ⟨.run G3.next,0⟩) 2 2 0) t34.next hfe rfl (by simp) (by decide) (by rw[hvl];simp only[List.length_cons,List.length_nil];omega) (by rw[hvl];simp only[List.length_cons,List.length_nil];omega)
 rw[hvl] at ea hy5
 have hf:∀ v ∈ Vs,∃ f a k,v=V.func f a k:=fun v hv=>by
  obtain⟨j,hj,rfl⟩:=List.getElem_of_mem hv
  exact(hst j hj).func
 have t2_5:=lst_away hy4 t34 (Nat.le_refl _) t5
 have hst5:∀ j (h1:j < Vs.length),StepAt G2 G5 (.run G1.next) Vs[j] (.wr j 0):=fun j hj=>((hst j hj).turns t4 (fun _ _ _ h=>h)).away hy4 hf t5
 obtain⟨TT,hTT⟩:∃ TT:List Stp,TT=[.wr 1 (markB 1 id R 1 0),.fl]:=⟨_,rfl⟩
 obtain⟨A,hA⟩:∃ A:List Stp,A=(List.range 10).map (fun n=>Stp.wr n 0)++[.fl]:=⟨_,rfl⟩
 have hLT:layT id R=A++TT:=by rw[hA,hTT];rfl
 have hAl:A.length=11:=by rw[hA];rfl
 have hfn:=runF_app A B TT
 obtain⟨Fs,hFs⟩:∃ Fs:List (Bn→Int × Bn),Fs=(A.map fun s B=>(stepC B s,stepB B s))++[fun B=>(doneC B TT,doneB B TT)]:=⟨_,rfl⟩
 have hFl:Fs.length=12:=by rw[hFs,List.length_append,List.length_map,hAl];rfl
 have hVl:(Vs++[fv,mv']).length=12:=by rw[List.length_append,hVs];rfl
 have t15:=(t1.trans t2).trans t2_5
 have t25:=t2_5
 have hl5:=(t2_5.same (.run G1.next) (by show _ < _;omega) (fun h=>h)).trans hl2
 have hx5:=(t2_5.same (.run (G1.next+1)) (by show _ < _;omega) (fun h=>h)).trans hx2
 have hb5:=(t15.same b bo (fun h=>h)).trans hb
 have hgl5:=(t15.same (.run 0) h00 (fun h=>h)).trans hgl
 have n5:=t15.next
 have n25:=t2_5.next
 have lb:(Bk.run G1.next)≠b:=fun e=>by rw[← e] at bo;exact absurd bo (Heap.not_old t1.next)
 change G5.get (.run G1.next)=some (.rows false 9 [lcells b id R 1 1 0 0 (.slice none 0 0 0)]) at hl5
 have hm:MkOk id R 1 0:=⟨⟨hi,hid⟩,⟨by omega,by omega⟩,by decide,by decide⟩
 obtain⟨j5,hj5,hj5g,hj5a,hj5b⟩:∃ j,j=G4.next∧G5.get (.run j)=some (.rows false 1 ((Vs++[fv,mv']).map fun v=>[v]))∧G2.next≤j∧j < G5.next:=by
  rcases hy5 with ⟨e,_⟩ | ⟨j,_,e,hgj,ja,jb⟩
  ·simp at e
  ·have ej:G4.next=j:=Bk.run.inj (Ptr.mk.inj (Option.some.inj (V.slice.inj e).1)).1
   refine⟨j,ej.symm,?_,ja,jb⟩
   rw[hgj,List.map_append];rfl
 have hF1:∀ i (h:i < 11) (h2:i < Fs.length),Fs[i]=fun B=>(stepC B (A[i]'(by omega)),stepB B (A[i]'(by omega))):=fun i h h2=>by
  simp only[hFs]
  rw[List.getElem_append_left (by rw[List.length_map,hAl];exact h),List.getElem_map]
 have hF2:∀(h2:11 < Fs.length),Fs[11]=fun B=>(doneC B TT,doneB B TT):=fun h2=>by
  simp only[hFs]
  rw[List.getElem_append_right (by rw[List.length_map,hAl];decide)]
  simp only[List.length_map,hAl,Nat.sub_self,List.getElem_cons_zero]
 have nbo:∀ m,G2.next≤m→¬ (Bk.run m=b):=fun m hm e=>by
  have:=(bo.mono t1.next).mono t2.next
  rw[← e] at this
  exact absurd this (Heap.not_old hm)
 have hrun:=ulrunG hlf (K:=K) (n:=n+7) (G:=G5) (b:=b) (w:=G4.next) (c:=12) (z:=1) (Vs:=Vs++[fv,mv']) (Fs:=Fs) (fun i=>Rm (if i≤11 then 40 - i else 0)) (by omega) (by omega) (fun i h1 h2=>?_) (fun i h2 B' hp hcc=>?_) (by rw[← hj5];exact hj5g) (by show _ < _;omega) (nbo _ (by omega)) hb5 hR
 ·obtain⟨v6,G6,e6,rfl,hb6,t6⟩:=hrun
  rw[hVl] at e6
  rw[hFs,hfn,← hLT] at e6 hb6
  obtain⟨W,hW⟩:∃ W,W=doneC B (layT id R):=⟨_,rfl⟩
  simp only[← hW] at e6 ⊢
  have hx6:=(t6.same (.run (G1.next+1)) (by show _ < _;omega) (fun e=>by
   rw[← e] at bo;exact absurd bo (Heap.not_old (by have:=t1.next;omega)))).trans hx5
  have hl6:=(t6.same (.run G1.next) (by show _ < _;omega) lb).trans hl5
  have lw:10+[[fv],[mv']].length=12:=rfl
  have tF:Turns (fun c=>c=b) G G6:=(t15.wide (fun c h=>h.elim)).trans t6
  by_cases hW0:W=0
  ·have hW':(W==0)=true:=by rw[hW0];rfl
   simp (maxDischargeDepth:=12) only[q11,q12,hx3,k0,rep2,upd_at1,← hfv,← hmv,cfv,cmv,wfv,wmv,hG4,ea,lw,e6,hW',hx6,hv,ldO_one,stO_one,sy,tup,↓reduceIte,zA,zG,zC,zD,zF,zE,zB,zH,reduceCtorEq]
   refine⟨trivial,.inr trivial,_,rfl,.inr ⟨⟨trivial,hi,by omega,by omega⟩,hb6,tF,W,rfl,.inr ⟨hW0,_,rfl,⟨⟨hl6,G,Lst.nil _ _ _,tF.next⟩,by show _ < _;have:=t6.next;omega,⟨by omega,by omega⟩,⟨⟨by omega,by omega⟩,Nat.le_refl _,by decide,by omega⟩,by decide,by decide⟩,fun ho=>absurd ho (Heap.not_old t1.next)⟩⟩⟩
  ·have hW':(W==0)=false:=beq_eq_false_iff_ne.2 hW0
   simp (maxDischargeDepth:=12) only[q11,q12,hx3,k0,rep2,upd_at1,← hfv,← hmv,cfv,cmv,wfv,wmv,hG4,ea,lw,e6,hW',hx6,hv,ldO_one,stO_one,sy,tup,↓reduceIte,zA,zG,zC,zD,zF,zE,zB,zH,reduceCtorEq]
   exact⟨trivial,.inr trivial,_,rfl,.inr ⟨⟨trivial,hi,by omega,by omega⟩,hb6,tF,W,rfl,.inl ⟨hW0,rfl⟩⟩⟩
 ·by_cases hi11:i < 11
  ·rw[hF1 i hi11 h2]
   by_cases hi10:i < 10
   ·have hs:=hst5 i (by omega)
    have hAi:A[i]'(by omega)=.wr i 0:=by
     simp only[hA]
     rw[List.getElem_append_left (by rw[List.length_map,List.length_range];exact hi10),List.getElem_map,List.getElem_range]
    rw[hAi,List.getElem_append_left (by omega)]
    obtain⟨a1,a2,a3,hVi,g1,g2,g3,l1,l2,l3,h1,h2,h3⟩:=hs
    refine⟨_,_,_,hVi,fun H B' ht hb' hp=>?_⟩
    rw[if_pos (by omega)] at hp
    exact ulput1 hlf ((ht.same _ (by show _ < _;omega) lb).trans hl5) hb' hp.fit (K:=K) ((ht.same _ (by show _ < _;exact l1) (nbo _ g1)).trans h1) ((ht.same _ (by show _ < _;exact l2) (nbo _ g2)).trans h2) ((ht.same _ (by show _ < _;exact l3) (nbo _ g3)).trans h3) (n+5)
   ·have:i=10:=by omega
    subst this
    have hAi:A[10]'(by omega)=.fl:=by simp only[hA];rfl
    rw[hAi,List.getElem_append_right (by omega)]
    simp only[hVs,Nat.sub_self,List.getElem_cons_zero]
    refine⟨_,_,_,hfv,fun H B' ht hb' hp=>?_⟩
    rw[if_pos (by omega)] at hp
    exact ulflush hlf ((ht.same _ (by show _ < _;omega) lb).trans hl5) hb' hp.fit (K:=K) (n+5)
  ·have:i=11:=by omega
   subst this
   rw[hF2 h2,List.getElem_append_right (by omega)]
   simp only[hVs,show 11 - 10=1 from rfl,List.getElem_cons_succ,List.getElem_cons_zero]
   refine⟨_,_,_,hmv,fun H B' ht hb' hp=>?_⟩
   rw[if_pos (by omega)] at hp
   rw[hTT]
   exact ullay1 hlf (K:=K) ((ht.same (.run 0) (by show _ < _;omega) (fun e=>by rw[← e] at hb;rw[hgl] at hb;cases hb)).trans hgl5) (by have:=ht.next;omega) ((ht.same _ (by show _ < _;omega) (fun e=>by
    rw[← e] at bo;exact absurd bo (Heap.not_old (by have:=t1.next;omega)))).trans hx5) ((ht.same _ (by show _ < _;omega) lb).trans hl5) (by show _ < _;have:=ht.next;omega) (bo.mono (Nat.le_trans n5 ht.next)) lb hb' (hp.mono (by omega)) hm n
 ·by_cases hi11:i < 11
  ·rw[hF1 i hi11 h2]
   rw[if_pos (by omega)] at hp ⊢
   refine Rm.step ?_ _
   rw[show 40 - (i+1)+1=40 - i by omega]
   exact hp
  ·have:i=11:=by omega
   subst this
   rw[hF2 h2]
   rw[if_pos (by omega)] at hp
   rw[if_neg (by omega)]
   refine doneB_rm TT (hp.mono ?_)
   rw[hTT];show 2≤29;decide
end
end Go.Proofs.YtabebpemfinejaaDoor.draft
namespace Go.Proofs.YtabebpemfinejaaDoor.draft
open Go.Am
open disk (bx Fit A1 R1 Low Bn)
noncomputable def c6:CFn:=⟨[.tmp (pp 2),.tmp (pp 3),.tmp (pp 4)],
 .seq (.reg [
 qo 2 (.p (S.get (.c (.ptr none)))) [],
 qo 3 (.p (S.get (.c (.ptr none)))) [],
 qo 4 (.p (S.get (.c (.bool false)))) []]) (
 .seq (.reg [
 mv 9 0,
 qo 10 (.p (convF .i64 (tt 9))) [pp 9],
 qo 11 (.p (arF .rem (tt 10) (ii 216))) [pp 10],
 qo 12 (.p (arF .add (ii 40) (tt 11))) [pp 11],
 mv 5 12]) (
 .seq (.reg [
 mv 14 5,
 qo 15 (.p (arF .add (ii 10) (tt 14))) [pp 14],
 qo 16 (.m (bsliceF 1 1 [.int .i64 0] [(0,1,(tt 15))])) [pp 15],
 qo 17 (.c (callF (ff 23) [(tt 16)])) [pp 16],
 mv 13 17,
 qo 18 (.p (extF (tt 13) 0)) [pp 13],
 qo 19 (.p (extF (tt 13) 1)) [pp 13],
 mv 6 18,
 mv 7 19]) (
 .seq (.seq (.reg [
 mv 20 7,
 qo 21 (.p (eqcF true false [.int .i64] (tt 20) (ii 0))) [pp 20]]) (
 .cond (tt 21) (.seq (.reg [
 qo 2 (.p (S.get (.c (.ptr none)))) [],
 qo 3 (.p (S.get (.c (.ptr none)))) [],
 qo 4 (.p (S.get (.c (.bool false)))) []]) (
 .ret)) (.skip))) (
 .seq (.reg [
 mv 23 6,
 mv 24 5,
 qo 25 (.c (callF (ff 24) [(tt 23),(ii 0),(.c (.int .u64 7)),(tt 24)])) [pp 23,pp 24],
 mv 22 25,
 qo 26 (.p (extF (tt 22) 0)) [pp 22],
 qo 27 (.p (extF (tt 22) 1)) [pp 22],
 mv 8 26,
 mv 7 27]) (
 .seq (.reg [
 mv 28 6,
 mv 29 8,
 mv 30 7,
 qo 31 (.p (eqcF false false [.int .i64] (tt 30) (ii 0))) [pp 30],
 mv 2 28,
 mv 3 29,
 mv 4 31]) (
 .ret))))))⟩
theorem c6_eq:fnOf Tryd.prog 6=some c6:=by kernel_rfl
theorem done_fl {S:List Nat} {st:Nat} (hS:S≠[]) {l:List Stp} (hI:Inside S.length (l++[.fl])):doneC (devB S [] st) (l++[.fl])=0∧doneB (devB S [] st) (l++[.fl])=devB (stepsD (S,[]) (l++[.fl])).1 [] (st+(l++[Stp.fl]).length)∧(stepsD (S,[]) (l++[.fl])).1.length=S.length:=by
 obtain⟨e1,e2⟩:=devB_run (l++[.fl]) S [] st hS hI
 exact⟨e1,by rw[e2,stepsD_fl],stepsD_len _ _⟩
theorem mark_ok {S:List Nat} {st m x:Nat} (hm:m < 2) (hS:10≤S.length):doneC (devB S [] st) [.wr m x,.fl]=0∧∃ S',S'=S.set m x∧doneB (devB S [] st) [.wr m x,.fl]=devB S' [] (st+2)∧S'.length=S.length:=by
 have hS0:S≠[]:=fun e=>by rw[e] at hS;simp at hS
 obtain⟨e1,e2,e3⟩:=done_fl (st:=st) hS0 (l:=[.wr m x]) (by
  intro s hs i y e
  subst e
  simp only[List.cons_append,List.nil_append,List.mem_cons,Stp.wr.injEq,reduceCtorEq,List.not_mem_nil,or_false] at hs
  omega)
 exact⟨e1,_,rfl,e2,by rw[List.length_set]⟩
noncomputable def appS (S:List Nat) (R p:Nat) (A:List Nat) (N:Nt):List Nat:=(disk.flushS S (recW R p A)).set (2+N.seq % 8) (noteB N)
theorem recT_D (R p:Nat) (A:List Nat) (S:List Nat) (L:List (Nat × Nat)):stepsD (S,L) (recT R p A)=(S,L++recW R p A):=by
 unfold recT recW
 suffices h:∀(l:List Nat) (L:List (Nat × Nat)),stepsD (S,L) (l.map fun j=>Stp.wr ((p+j) % R+10) (A.getD j 0))=(S,L++l.map fun j=>((p+j) % R+10,A.getD j 0)) from h _ _
 intro l
 induction l with
 | nil=>intro L;simp[stepsD]
 | cons a l ih=>
  intro L
  rw[List.map_cons,List.map_cons]
  show stepsD (S,L++[((p+a) % R+10,A.getD a 0)]) _=_
  rw[ih,List.append_assoc];rfl
theorem stepsD_two (S:List Nat) (L:List (Nat × Nat)) (m x:Nat):stepsD (S,L) [Stp.fl,.wr m x]=(disk.flushS S L,[(m,x)]):=rfl
theorem stepsD_last (S:List Nat) (m x:Nat):stepsD (S,[(m,x)]) [Stp.fl]=(S.set m x,[]):=rfl
theorem app_ok {S:List Nat} {st R p:Nat} {A:List Nat} {N:Nt} (hR:1≤R) (hS:S.length=R+10):doneC (devB S [] st) (appT R p A N)=0∧doneB (devB S [] st) (appT R p A N)=devB (appS S R p A N) [] (st+A.length+3)∧(appS S R p A N).length=S.length:=by
 have hS0:S≠[]:=fun e=>by rw[e] at hS;simp at hS
 have eT:appT R p A N=(recT R p A++[.fl,.wr (2+N.seq % 8) (noteB N)])++[.fl]:=by unfold appT;rw[List.append_assoc];rfl
 have hl:((recT R p A++[Stp.fl,.wr (2+N.seq % 8) (noteB N)])++[Stp.fl]).length=A.length+3:=by
  unfold recT
  simp
 obtain⟨e1,e2,e3⟩:=done_fl (st:=st) hS0 (l:=recT R p A++[.fl,.wr (2+N.seq % 8) (noteB N)]) (by
  intro s hs i y e
  subst e
  rw[hS]
  rcases List.mem_append.1 hs with hs | hs
  ·rcases List.mem_append.1 hs with hs | hs
   ·unfold recT at hs
    obtain⟨j,_,e⟩:=List.mem_map.1 hs
    cases e
    have:=Nat.mod_lt (p+j) (show 0 < R by omega)
    omega
   ·simp only[List.mem_cons,Stp.wr.injEq,reduceCtorEq,List.not_mem_nil,or_false,false_or] at hs
    have:=Nat.mod_lt N.seq (show 0 < 8 by decide)
    omega
  ·simp at hs)
 have eS:(stepsD (S,[]) ((recT R p A++[Stp.fl,.wr (2+N.seq % 8) (noteB N)])++[.fl])).1=appS S R p A N:=by
  rw[stepsD_app,stepsD_app,recT_D,List.nil_append,stepsD_two,stepsD_last]
  rfl
 rw[eT,e1,e2,eS,hl]
 exact⟨rfl,by rw[Nat.add_assoc],by rw[← eS,e3]⟩
noncomputable def layS (S:List Nat) (id R:Nat):List Nat:=(stepsD (S,[]) (layT id R)).1
theorem lay_ok {S:List Nat} {st id R:Nat} (hS:10≤S.length):doneC (devB S [] st) (layT id R)=0∧doneB (devB S [] st) (layT id R)=devB (layS S id R) [] (st+13)∧(layS S id R).length=S.length:=by
 have hS0:S≠[]:=fun e=>by rw[e] at hS;simp at hS
 have eT:layT id R=((List.range 10).map (fun n=>Stp.wr n 0)++[.fl,.wr 1 (markB 1 id R 1 0)])++[.fl]:=by unfold layT;rw[List.append_assoc];rfl
 obtain⟨e1,e2,e3⟩:=done_fl (st:=st) hS0 (l:=(List.range 10).map (fun n=>Stp.wr n 0)++[.fl,.wr 1 (markB 1 id R 1 0)]) (by
  intro s hs i y e
  subst e
  rcases List.mem_append.1 hs with hs | hs
  ·rcases List.mem_append.1 hs with hs | hs
   ·obtain⟨j,hj,e⟩:=List.mem_map.1 hs
    cases e
    have:=List.mem_range.1 hj
    omega
   ·simp only[List.mem_cons,Stp.wr.injEq,reduceCtorEq,List.not_mem_nil,or_false,false_or] at hs
    omega
  ·simp at hs)
 rw[← eT] at e1 e2 e3
 exact⟨e1,e2,e3⟩
section
variable {lf K:Nat} (hlf:1000 < lf)
include hlf
end
end Go.Proofs.YtabebpemfinejaaDoor.draft
namespace Go.Proofs.YtabebpemfinejaaDoor.draft
open Go.Am
open disk (bx Fit A1 R1 Low Bn)
section
variable {lf K:Nat} (hlf:1000 < lf)
include hlf
theorem ulaid {G:Heap} (hgl:G.get (.run 0)=some (.rows true 4 (intsR [8,2,8,8]))) (h00:0 < G.next) {m:Nat} (hm:m < 256) {R:Nat} (hR:R=40+m % 216) (n:Nat):ret (U lf K (n+10) 6 [.int .u8 (m:Int)] G) fun v G'=>∃ b l,v=.tuple [.ptr (some ⟨b,0⟩),.ptr (some ⟨l,0⟩),.bool true]∧LogAt G' l b 7 R 1 1 0 0 [] (.slice none 0 0 0)∧G'.get b=some (bx false (devB (layS (List.replicate (10+R) 0) 7 R) [] 13))∧l≠b∧¬ G.Old b∧¬ G.Old l∧G'.Old b∧Turns Z G G':=by
 have hR2:40≤R∧R≤255:=by omega
 obtain⟨q,hq⟩:∃ q,q=m % 216:=⟨_,rfl⟩
 have r1:arith .rem (.int .i64 (m:Int)) (.int .i64 216)=some (.int .i64 (q:Int)):=by rw[hq];exact rem_i64 m 216 (by decide)
 have w0:IntKind.i64.wrap (m:Int)=(m:Int):=Go.Am.wrap_i64 (by omega)
 have w1:IntKind.i64.wrap (40+(q:Int))=(R:Int):=by rw[Go.Am.wrap_i64 (by omega)];omega
 obtain⟨M,hM⟩:∃ M,M=10+R:=⟨_,rfl⟩
 have w2:IntKind.i64.wrap (10+(R:Int))=(M:Int):=by rw[Go.Am.wrap_i64 (by omega)];omega
 have t1:=Turns.add Z G (.rows false 1 [[.int .i64 (M:Int)]])
 have hx1:(G.add (.rows false 1 [[.int .i64 (M:Int)]])).get (.run G.next)=some (.rows false 1 [[.int .i64 (M:Int)]]):=by rw[Heap.get_add,if_pos rfl]
 obtain⟨G1,hG1⟩:∃ G1,G.add (.rows false 1 [[.int .i64 (M:Int)]])=G1:=⟨_,rfl⟩
 have n1:G1.next=G.next+1:=by rw[← hG1];rfl
 rw[hG1] at t1 hx1
 have eN:=qNew (lf:=lf) (K:=K) (w:=n+8) (G:=G1) (pp:=some ⟨.run G.next,0⟩) (P:=[(M:Int)]) ⟨fun _=>⟨.run G.next,0,false,_,rfl,by show _ < _;omega,fun h=>h,hx1,fun i hi=>by
  have:i=0:=by simpa using hi
  subst this;rfl⟩⟩ ⟨Nat.le_refl 1,show 1≤17 by decide,fun n hn=>by
  rw[List.mem_singleton] at hn;subst hn;omega⟩ 1 0
 have hB:disk.newB [(M:Int)]=devB (List.replicate M 0) [] 0:=by
  unfold disk.newB devB disk.blank
  simp
 rw[hB] at eN
 change U lf K (n+9) 23 [.slice (some ⟨.run G.next,0⟩) 1 1 0] G1=_ at eN
 have t2:Turns Z G ((G1.add (bx false (devB (List.replicate M 0) [] 0))).skip (K+1)):=(t1.addm _).skip _
 have hb2:((G1.add (bx false (devB (List.replicate M 0) [] 0))).skip (K+1)).get (.run G1.next)=some (bx false (devB (List.replicate M 0) [] 0)):=by rw[get_skip,Heap.get_add,if_pos rfl]
 obtain⟨G2,hG2⟩:∃ G2,(G1.add (bx false (devB (List.replicate M 0) [] 0))).skip (K+1)=G2:=⟨_,rfl⟩
 have n2:G1.next < G2.next:=by rw[← hG2];show _ < _+1+_;omega
 rw[hG2] at eN t2 hb2
 have hSn:List.replicate M 0≠[]:=fun e=>by have:=congrArg List.length e;simp at this;omega
 have hroom:roomC (devB (List.replicate M 0) [] 0) 0 (M:Int)=0:=by
  unfold roomC
  rw[if_neg]
  rintro(h | h | h)
  ·exact absurd h (by decide)
  ·exact absurd h (show ¬ ((1:Nat):Int)≤0 by decide)
  ·unfold disk.Bn.sectors at h
   rw[if_pos (show disk.Bn.tc (devB (List.replicate M 0) [] 0) 0=0 from rfl)] at h
   have:(((devB (List.replicate M 0) [] 0).dev 0).S.length:Int)=(M:Int):=by
    show ((List.replicate M 0).length:Int)=_
    rw[List.length_replicate]
   omega
 obtain⟨v3,G3,e3,h3⟩:=ullay hlf (K:=K) (G:=G2) (b:=.run G1.next) ((t2.same (.run 0) h00 (fun h=>h)).trans hgl) (Nat.lt_of_lt_of_le h00 t2.next) hb2 (by show _ < _;exact n2) (devB_rm hSn (by simp;omega) (by decide) (by decide)) 0 (id:=7) (by decide) (R:Int) (T:=(M:Int)) (by rw[if_neg (by omega)];exact w2.symm) (fun _ _ _=>rfl) n
 rcases h3 with ⟨h3,_⟩ | ⟨_,hb3,t3,e,he,h3⟩
 ·rcases h3 with h | h | h | h
  ·exact absurd hroom h
  ·cases h
  ·omega
  ·omega
 obtain⟨d1,d2,d3⟩:=lay_ok (S:=List.replicate M 0) (st:=0) (id:=7) (R:=R) (by simp;omega)
 rw[Int.toNat_natCast] at he hb3 h3
 rw[d1] at he
 rw[d2] at hb3
 subst he
 rcases h3 with ⟨h,_⟩ | ⟨_,l,rfl,hl,hln⟩
 ·exact absurd rfl h
 change U lf K (n+9) 24 [.ptr (some ⟨.run G1.next,0⟩),.int .i64 0,.int .u64 7,.int .i64 (R:Int)] G2=_ at e3
 refine ret_callU rfl rfl c6_eq ?_
 simp (maxDischargeDepth:=12) only[c6,w0,r1,w1,w2,hG1,eN,e3,hv,ldO_one,stO_one,sy,tup,↓reduceIte,zA,zG,zC,zD,zF,zE,zB,zH,reduceCtorEq]
 have bo2:G2.Old (.run G1.next):=n2
 refine⟨trivial,.inr trivial,_,rfl,.run G1.next,l,rfl,hl,by rw[← hM];exact hb3,fun e=>hln (by rw[e];exact bo2),fun ho=>absurd ho (Heap.not_old t1.next),fun ho=>hln (ho.mono t2.next),bo2.mono t3.next,?_⟩
 exact t2.later t3 (fun c ho e=>by subst e;exact absurd ho (Heap.not_old t1.next))
end
end Go.Proofs.YtabebpemfinejaaDoor.draft
namespace Go.Proofs.YtabebpemfinejaaDoor.draft
open Go.Am
open disk (bx Fit A1 R1 Low Bn)
structure LS (G0 G:Heap) (l b:Bk) (R i cnt first tail head:Nat) (N:List Nt) (lv:V) (S:List Nat) (st:Nat):Prop where
 log:LogAt G l b 7 R cnt first tail head N lv
 ch:Chain first tail N head
 hb:G.get b=some (bx false (devB S [] st))
 len:S.length=R+10
 R:40≤R∧R≤255
 cnt:1≤cnt∧cnt≤1+i
 fst:1≤first∧first+N.length≤1+i
 hd:head≤34*i
 st:st≤13+40*i
 lvn:∀ c,Bof lv c→¬ G0.Old c
 bo:G.Old b
 lb:l≠b
 bn:¬ G0.Old b
 ln:¬ G0.Old l
 t:Turns Z G0 G
theorem LS.same {G0 G G':Heap} {l b:Bk} {R i cnt first tail head:Nat} {N:List Nt} {lv:V} {S:List Nat} {st:Nat} (h:LS G0 G l b R i cnt first tail head N lv S st) (t:Turns Z G G'):LS G0 G' l b R i cnt first tail head N lv S st:=by
 obtain⟨hg,G1,hN,hn⟩:=h.log.ex
 exact { h with log:=⟨⟨(t.same l h.log.old (fun h=>h)).trans hg,G1,hN.turns t (fun _ _ h=>h),Nat.le_trans hn t.next⟩,h.log.old.mono t.next,h.log.rb,h.log.rg,h.log.fn,h.log.nl⟩,hb:=(t.same b h.bo (fun h=>h)).trans h.hb,bo:=h.bo.mono t.next,t:=h.t.trans t }
theorem LS.up {G0 G:Heap} {l b:Bk} {R i cnt first tail head:Nat} {N:List Nt} {lv:V} {S:List Nat} {st:Nat} (h:LS G0 G l b R i cnt first tail head N lv S st):LS G0 G l b R (i+1) cnt first tail head N lv S st:=
 { h with cnt:=⟨h.cnt.1,by have:=h.cnt;omega⟩,fst:=⟨h.fst.1,by have:=h.fst;omega⟩,hd:=by have:=h.hd;omega,st:=by have:=h.st;omega }
section
variable {lf K:Nat} (hlf:1000 < lf)
include hlf
variable {G0 G:Heap} {l b:Bk} {R i cnt first tail head:Nat} {N:List Nt} {lv:V} {S:List Nat} {st:Nat} (h:LS G0 G l b R i cnt first tail head N lv S st) (hi:i≤45) (hgl:G0.get (.run 0)=some (.rows true 4 (intsR [8,2,8,8]))) (h00:0 < G0.next)
include h hi hgl h00
theorem LS.clear {f:Nat} (hf:first≤f∧f≤first+N.length) (n:Nat):ret (U lf K (n+7) 10 [.ptr (some ⟨l,0⟩),.int .u64 (f:Int)] G) fun v G'=>v=.int .i64 0∧tail≤posAt N head (f - first)∧∃ lv' S',LS G0 G' l b R (i+1) (cnt+1) f (posAt N head (f - first)) head (N.drop (f - first)) lv' S' (st+2):=by
 have h1:=h.len
 have h2:=h.R
 have h3:=h.cnt
 have h4:=h.fst
 have h5:=h.hd
 have h6:=h.st
 have hS0:S≠[]:=fun e=>by rw[e] at h1;simp at h1
 obtain⟨v,G',e,hr⟩:=ulclear hlf (K:=K) ((h.t.same (.run 0) h00 (fun h=>h)).trans hgl) (Nat.lt_of_lt_of_le h00 h.t.next) h.log h.ch h.bo h.lb h.hb (devB_rm hS0 (by omega) (by decide) (by omega)) (by decide) h2.1 (by omega) h4.1 (f:=f) (by omega) n
 refine⟨v,G',e,?_⟩
 rcases hr with ⟨h7,_⟩ | ⟨_,p,rfl,hb',c,hc,hr⟩
 ·omega
 obtain⟨d1,S',_,d2,d3⟩:=mark_ok (S:=S) (st:=st) (m:=(cnt+1) % 2) (x:=markB (cnt+1) 7 R f (posAt N head (f - first))) (Nat.mod_lt _ (by decide)) (by omega)
 rw[d1] at hc
 rw[d2] at hb'
 subst hc
 rcases hr with ⟨h7,_⟩ | ⟨_,rfl,ht,lv',hL,hlv⟩
 ·exact absurd rfl h7
 obtain⟨hd1,hd2⟩:=h.ch.drop (f - first) (by omega)
 refine⟨rfl,hd2,lv',S',⟨hL,?_,hb',by omega,h2,⟨by omega,by omega⟩,⟨by omega,by rw[List.length_drop];omega⟩,by omega,by omega,fun c hc ho=>hlv c hc (ho.mono h.t.next),h.bo.mono ht.next,h.lb,h.bn,h.ln,?_⟩⟩
 ·rw[show first+(f - first)=f by omega] at hd1
  exact hd1
 ·exact h.t.later ht (fun c ho hc=>by
   rcases hc with rfl | rfl | hc
   ·exact absurd ho h.bn
   ·exact absurd ho h.ln
   ·exact absurd ho (h.lvn c hc))
theorem LS.append {pp:Option Ptr} {cs:List Cl} {pc po:Nat} (hc:CellsAt G pp cs) (h1c:1≤cs.length) (h32:cs.length≤32) (n:Nat):ret (U lf K (n+6) 11 [.ptr (some ⟨l,0⟩),.slice pp cs.length pc po] G) fun v G'=>Turns (LX b l lv) G G'∧(
  (v=.tuple [.int .u64 0,.int .i64 2]∧LS G0 G' l b R (i+1) cnt first tail head N lv S st) ∨
  (roomN R tail head N cs=false∧v=.tuple [.int .u64 0,.int .i64 10]∧LS G0 G' l b R (i+1) cnt first tail head N lv S st) ∨
  (roomN R tail head N cs=true∧v=.tuple [.int .u64 ((first+N.length:Nat):Int),.int .i64 0]∧∃ lv' S' st',LS G0 G' l b R (i+1) cnt first tail (head+recS cs.length) (N++[ntOf first head N cs]) lv' S' st')):=by
 have h1:=h.len
 have h2:=h.R
 have h3:=h.cnt
 have h4:=h.fst
 have h5:=h.hd
 have h6:=h.st
 have hS0:S≠[]:=fun e=>by rw[e] at h1;simp at h1
 obtain⟨v,G',e,hr⟩:=ulappend hlf (K:=K) h.log h.bo h.lb h.hb (devB_rm hS0 (by omega) (by decide) (by omega)) hc (by omega) (by omega) (pc:=pc) (po:=po) h4.1 (by omega) n
 refine⟨v,G',e,?_⟩
 rcases hr with ⟨c,hc0,rfl,ht,⟨hp,rfl⟩ | ⟨hp,hr,rfl⟩⟩ | ⟨hp,hr,hb',c,hcc,hx⟩
 ·refine⟨ht.wide (fun c h=>h.elim),.inl ⟨?_,(h.same ht).up⟩⟩
  have:pcode cs=2:=by
   unfold pcode at hp ⊢
   rw[if_neg (fun e=>by rw[e] at h1c;simp at h1c)] at hp ⊢
   split
   ·rfl
   ·rename_i h7
    rw[if_neg h7,if_neg (by omega)] at hp
    exact absurd rfl hp
  rw[this]
 ·exact⟨ht.wide (fun c h=>h.elim),.inr (.inl ⟨hr,rfl,(h.same ht).up⟩)⟩
 ·obtain⟨d1,d2,d3⟩:=app_ok (S:=S) (st:=st) (R:=R) (p:=head) (A:=recL cs) (N:=ntOf first head N cs) (by omega) h1
  rw[d1] at hcc
  rw[d2,recL_len] at hb'
  subst hcc
  rcases hx with ⟨h7,_⟩ | ⟨_,rfl,ht,lv',hL,hlv⟩
  ·exact absurd rfl h7
  have hk:recS cs.length≤34:=by unfold recS;omega
  refine⟨ht,.inr (.inr ⟨hr,rfl,lv',_,_,⟨hL,?_,hb',by omega,h2,⟨by omega,by omega⟩,⟨by omega,by rw[List.length_append,List.length_singleton];omega⟩,by omega,by omega,fun c hc ho=>hlv c hc (ho.mono h.t.next),h.bo.mono ht.next,h.lb,h.bn,h.ln,?_⟩⟩)⟩
  ·exact h.ch.app rfl rfl ⟨h1c,h32⟩ (sumB_lt _)
  ·exact h.t.later ht (fun c ho hc=>by
    rcases hc with rfl | rfl | hc
    ·exact absurd ho h.bn
    ·exact absurd ho h.ln
    ·exact absurd ho (h.lvn c hc))
omit h hi hgl h00 in
theorem pcode_ok {cs:List Cl} (hp:pcode cs=0):1≤cs.length∧cs.length≤32∧cs.all mayC=true:=by
 unfold pcode at hp
 split at hp
 ·cases hp
 ·rename_i h1
  split at hp
  ·cases hp
  ·rename_i h2
   split at hp
   ·cases hp
   ·rename_i h3
    have:=List.length_pos_iff.2 h1
    exact⟨by omega,by omega,by simpa using h2⟩
end
end Go.Proofs.YtabebpemfinejaaDoor.draft
namespace Go.Proofs.YtabebpemfinejaaDoor.draft
open Go.Am
open disk (bx Fit A1 R1 Low Bn)
noncomputable def c3_l0:C:=.seq (.seq (.reg [
 mv 34 8,
 mv 35 1,
 qo 36 (.p (lenF (tt 35))) [pp 35],
 qo 37 (.p (arF .lss (tt 34) (tt 36))) [pp 34,pp 36],
 mv 38 37,
 mg 39 8 38 true,
 qg 40 (.p (arF .lss (tt 39) (ii 40))) 38 true [pp 39],
 qo 41 (.p (pickF (tt 38) (tt 40) (.c (.bool false)))) [pp 38,pp 40]]) (
 .cond (tt 41) (.skip) (.exit 0))) (
 .seq (.block 1 (.seq (.reg [
 mv 44 1,
 mv 45 8,
 qo 46 (.p (iaddrSF (tt 44) (tt 45) 3)) [pp 44,pp 45],
 qo 47 (.r (loadF (tt 46) 3 .ag)) [pp 46],
 qo 9 (.m (allocF 3 [.bool false,.int .u8 0,.slice none 0 0 0])) [],
 qn (.a (storeF (tt 9) (tt 47) 3)) [pp 9,pp 47]]) (
 .seq (.reg [
 mv 49 6,
 qo 50 (.c (callF (ff 9) [(tt 49)])) [pp 49],
 mv 48 50,
 qo 51 (.p (extF (tt 48) 0)) [pp 48],
 qo 52 (.p (extF (tt 48) 1)) [pp 48],
 mv 10 51,
 mv 11 52]) (
 .seq (.reg [
 mv 53 6,
 qo 54 (.c (callF (ff 7) [(tt 53)])) [pp 53],
 mv 12 54]) (
 .seq (.seq (.reg [
 qo 55 (.p (faddrF (tt 9) 0)) [pp 9],
 qo 56 (.r (loadF (tt 55) 1 .sc)) [pp 55]]) (
 .cond (tt 56) (.seq (.seq (.reg [
 mv 57 11,
 mv 58 10,
 qo 59 (.p (arF .lss (tt 57) (tt 58))) [pp 57,pp 58],
 mv 60 59,
 mg 61 6 60 false,
 mg 62 10 60 false,
 qg 63 (.p (faddrF (tt 9) 1)) 60 false [pp 9],
 qg 64 (.r (loadF (tt 63) 1 .sc)) 60 false [pp 63],
 qg 65 (.p (convF .u64 (tt 64))) 60 false [pp 64],
 mg 66 11 60 false,
 mg 67 10 60 false,
 qg 68 (.p (arF .sub (tt 66) (tt 67))) 60 false [pp 66,pp 67],
 qg 69 (.p (arF .add (tt 68) (.c (.int .u64 1)))) 60 false [pp 68],
 qg 70 (.p (arF .rem (tt 65) (tt 69))) 60 false [pp 65,pp 69],
 qg 71 (.p (arF .add (tt 62) (tt 70))) 60 false [pp 62,pp 70],
 qg 72 (.c (callF (ff 10) [(tt 61),(tt 71)])) 60 false [pp 61,pp 71],
 qg 73 (.p (eqcF true false [.int .i64] (tt 72) (ii 0))) 60 false [pp 72],
 qo 74 (.p (pickF (tt 60) (.c (.bool true)) (tt 73))) [pp 60,pp 73],
 mv 75 74,
 mg 76 6 75 false,
 qg 77 (.c (callF (ff 7) [(tt 76)])) 75 false [pp 76],
 mg 78 12 75 false,
 qg 79 (.p (arF .lss (tt 77) (tt 78))) 75 false [pp 77,pp 78],
 qo 80 (.p (pickF (tt 75) (.c (.bool true)) (tt 79))) [pp 75,pp 79]]) (
 .cond (tt 80) (.seq (.reg [
 qo 4 (.p (S.get (.c (.bool false)))) []]) (
 .ret)) (.skip))) (
 .exit 1)) (.skip))) (
 .seq (.seq (.reg [
 qo 81 (.p (faddrF (tt 9) 2)) [pp 9],
 qo 82 (.r (loadF (tt 81) 1 .sc)) [pp 81],
 qo 83 (.p (lenF (tt 82))) [pp 82],
 qo 84 (.p (eqcF false false [.int .i64] (tt 83) (ii 0))) [pp 83],
 mv 85 84,
 qg 86 (.p (faddrF (tt 9) 2)) 85 false [pp 9],
 qg 87 (.r (loadF (tt 86) 1 .sc)) 85 false [pp 86],
 qg 88 (.p (lenF (tt 87))) 85 false [pp 87],
 qg 89 (.p (arF .gtr (tt 88) (ii 32))) 85 false [pp 88],
 qo 90 (.p (pickF (tt 85) (.c (.bool true)) (tt 89))) [pp 85,pp 89]]) (
 .cond (tt 90) (.exit 1) (.skip))) (
 .seq (.reg [
 mv 92 6,
 qo 93 (.p (faddrF (tt 9) 2)) [pp 9],
 qo 94 (.r (loadF (tt 93) 1 .sc)) [pp 93],
 qo 95 (.c (callF (ff 11) [(tt 92),(tt 94)])) [pp 92,pp 94],
 mv 91 95,
 qo 96 (.p (extF (tt 91) 0)) [pp 91],
 qo 97 (.p (extF (tt 91) 1)) [pp 91],
 mv 13 96,
 mv 14 97]) (
 .seq (.seq (.reg [
 mv 98 14,
 qo 99 (.p (eqcF false false [.int .i64] (tt 98) (ii 2))) [pp 98]]) (
 .cond (tt 99) (.exit 1) (.skip))) (
 .seq (.reg [
 qo 100 (.p (faddrF (tt 9) 2)) [pp 9],
 qo 101 (.r (loadF (tt 100) 1 .sc)) [pp 100],
 qo 102 (.p (lenF (tt 101))) [pp 101],
 qo 103 (.c (callF (ff 12) [(tt 102)])) [pp 102],
 mv 15 103]) (
 .seq (.reg [
 mv 104 15,
 mv 105 12,
 qo 106 (.p (arF .leq (tt 104) (tt 105))) [pp 104,pp 105],
 mv 107 106,
 mg 108 11 107 true,
 mg 109 10 107 true,
 qg 110 (.p (arF .sub (tt 108) (tt 109))) 107 true [pp 108,pp 109],
 qg 111 (.p (arF .lss (tt 110) (.c (.int .u64 8)))) 107 true [pp 110],
 qo 112 (.p (pickF (tt 107) (tt 111) (.c (.bool false)))) [pp 107,pp 111],
 mv 16 112]) (
 .seq (.reg [
 mv 113 16,
 mv 114 14,
 qo 115 (.p (eqcF false false [.int .i64] (tt 114) (ii 0))) [pp 114],
 qo 116 (.p (eqcF true false [.bool] (tt 113) (tt 115))) [pp 113,pp 115],
 mv 117 116,
 mg 118 16 117 false,
 qg 119 (.p (unF .not (tt 118))) 117 false [pp 118],
 mg 120 119 117 false,
 mg 121 14 120 true,
 qg 122 (.p (eqcF true false [.int .i64] (tt 121) (ii 10))) 120 true [pp 121],
 qg 123 (.p (pickF (tt 120) (tt 122) (.c (.bool false)))) 117 false [pp 120,pp 122],
 qo 124 (.p (pickF (tt 117) (.c (.bool true)) (tt 123))) [pp 117,pp 123],
 mv 125 124,
 mg 126 16 125 false,
 mg 127 126 125 false,
 mg 128 13 127 true,
 mg 129 11 127 true,
 qg 130 (.p (eqcF true false [.int .u64] (tt 128) (tt 129))) 127 true [pp 128,pp 129],
 mg 131 130 127 true,
 mg 132 6 131 false,
 qg 133 (.c (callF (ff 7) [(tt 132)])) 131 false [pp 132],
 mg 134 12 131 false,
 mg 135 15 131 false,
 qg 136 (.p (arF .sub (tt 134) (tt 135))) 131 false [pp 134,pp 135],
 qg 137 (.p (eqcF true false [.int .i64] (tt 133) (tt 136))) 131 false [pp 133,pp 136],
 qg 138 (.p (pickF (tt 131) (.c (.bool true)) (tt 137))) 127 true [pp 131,pp 137],
 qg 139 (.p (pickF (tt 127) (tt 138) (.c (.bool false)))) 125 false [pp 127,pp 138],
 qo 140 (.p (pickF (tt 125) (.c (.bool true)) (tt 139))) [pp 125,pp 139],
 mv 141 140,
 mg 142 16 141 false,
 qg 143 (.p (unF .not (tt 142))) 141 false [pp 142],
 mg 144 143 141 false,
 mg 145 6 144 true,
 qg 146 (.c (callF (ff 7) [(tt 145)])) 144 true [pp 145],
 mg 147 12 144 true,
 qg 148 (.p (eqcF true false [.int .i64] (tt 146) (tt 147))) 144 true [pp 146,pp 147],
 qg 149 (.p (pickF (tt 144) (tt 148) (.c (.bool false)))) 141 false [pp 144,pp 148],
 qo 150 (.p (pickF (tt 141) (.c (.bool true)) (tt 149))) [pp 141,pp 149]]) (
 .cond (tt 150) (.seq (.reg [
 qo 4 (.p (S.get (.c (.bool false)))) []]) (
 .ret)) (.skip))))))))))))) (
 .reg [
 mv 42 8,
 qo 43 (.p (arF .add (tt 42) (ii 1))) [pp 42],
 mv 8 43]))
noncomputable def c3:CFn:=⟨[.tmp (pp 4)],
 .seq (.reg [
 qo 4 (.p (S.get (.c (.bool false)))) []]) (
 .seq (.reg [
 mv 20 0,
 qo 21 (.c (callF (ff 6) [(tt 20)])) [pp 20],
 mv 19 21,
 qo 22 (.p (extF (tt 19) 0)) [pp 19],
 qo 23 (.p (extF (tt 19) 1)) [pp 19],
 qo 24 (.p (extF (tt 19) 2)) [pp 19],
 mv 5 22,
 mv 6 23,
 mv 7 24]) (
 .seq (.seq (.reg [
 mv 25 7,
 qo 26 (.p (unF .not (tt 25))) [pp 25],
 mv 27 26,
 mg 28 6 27 false,
 qg 29 (.c (callF (ff 7) [(tt 28)])) 27 false [pp 28],
 mg 30 6 27 false,
 qg 31 (.c (callF (ff 8) [(tt 30)])) 27 false [pp 30],
 qg 32 (.p (eqcF true false [.int .i64] (tt 29) (tt 31))) 27 false [pp 29,pp 31],
 qo 33 (.p (pickF (tt 27) (.c (.bool true)) (tt 32))) [pp 27,pp 32]]) (
 .cond (tt 33) (.seq (.reg [
 qo 4 (.p (S.get (.c (.bool false)))) []]) (
 .ret)) (.skip))) (
 .seq (.seq (.reg [
 qo 8 (.p (S.get (ii 0))) []]) (
 .block 0 (.loop c3_l0))) (
 .seq (.reg [
 mv 152 6,
 qo 153 (.c (callF (ff 9) [(tt 152)])) [pp 152],
 mv 151 153,
 qo 154 (.p (extF (tt 151) 0)) [pp 151],
 qo 155 (.p (extF (tt 151) 1)) [pp 151],
 mv 17 154,
 mv 18 155]) (
 .seq (.seq (.reg [
 mv 156 18,
 mv 157 17,
 qo 158 (.p (arF .lss (tt 156) (tt 157))) [pp 156,pp 157],
 mv 159 158,
 mg 160 6 159 false,
 mg 161 18 159 false,
 qg 162 (.c (callF (ff 10) [(tt 160),(tt 161)])) 159 false [pp 160,pp 161],
 qg 163 (.p (eqcF true false [.int .i64] (tt 162) (ii 0))) 159 false [pp 162],
 qo 164 (.p (pickF (tt 159) (.c (.bool true)) (tt 163))) [pp 159,pp 163],
 mv 165 164,
 mg 166 6 165 false,
 qg 167 (.c (callF (ff 7) [(tt 166)])) 165 false [pp 166],
 mg 168 6 165 false,
 qg 169 (.c (callF (ff 8) [(tt 168)])) 165 false [pp 168],
 qg 170 (.p (eqcF true false [.int .i64] (tt 167) (tt 169))) 165 false [pp 167,pp 169],
 qo 171 (.p (pickF (tt 165) (.c (.bool true)) (tt 170))) [pp 165,pp 170]]) (
 .cond (tt 171) (.seq (.reg [
 qo 4 (.p (S.get (.c (.bool false)))) []]) (
 .ret)) (.skip))) (
 .seq (.reg [
 mv 172 6,
 mv 173 18,
 qo 174 (.p (arF .add (tt 173) (.c (.int .u64 1)))) [pp 173],
 qo 175 (.c (callF (ff 10) [(tt 172),(tt 174)])) [pp 172,pp 174],
 qo 176 (.p (eqcF false false [.int .i64] (tt 175) (ii 2))) [pp 175],
 mv 177 176,
 mg 178 6 177 true,
 mg 179 18 177 true,
 qg 180 (.p (arF .sub (tt 179) (.c (.int .u64 1)))) 177 true [pp 179],
 qg 181 (.c (callF (ff 10) [(tt 178),(tt 180)])) 177 true [pp 178,pp 180],
 qg 182 (.p (eqcF false false [.int .i64] (tt 181) (ii 2))) 177 true [pp 181],
 qo 183 (.p (pickF (tt 177) (tt 182) (.c (.bool false)))) [pp 177,pp 182],
 mv 184 183,
 qg 185 (.c (callF (ff 13) [])) 184 true [],
 qo 186 (.p (pickF (tt 184) (tt 185) (.c (.bool false)))) [pp 184,pp 185],
 mv 4 186]) (
 .ret)))))))⟩
structure Sp where
 cl:Bool
 n:Nat
 pp:Option Ptr
 cs:List Cl
 pc:Nat
 po:Nat
def Sp.row (s:Sp):List V:=[.bool s.cl,.int .u8 (s.n:Int),.slice s.pp s.cs.length s.pc s.po]
structure SpsAt (H:Heap) (pp:Option Ptr) (L:List Sp):Prop where
 has:L≠[]→∃ x ox ro rows,pp=some ⟨x,ox*3⟩∧H.Old x∧H.get x=some (.rows ro 3 rows)∧∀ i,(hi:i < L.length)→rows[ox+i]?=some L[i].row
 cells:∀ s ∈ L,CellsAt H s.pp s.cs
 n:∀ s ∈ L,s.n < 256
theorem SpsAt.turns {H H':Heap} {pp:Option Ptr} {L:List Sp} (h:SpsAt H pp L) (k:Turns Z H H'):SpsAt H' pp L:=⟨fun e=>by
 obtain⟨x,ox,ro,rows,hp,ho,hg,hr⟩:=h.has e
 exact⟨x,ox,ro,rows,hp,ho.mono k.next,(k.same x ho (fun h=>h)).trans hg,hr⟩,fun s hs=>(h.cells s hs).turnsZ k,h.n⟩
theorem SpsAt.load {H:Heap} {pp:Option Ptr} {L:List Sp} (h:SpsAt H pp L) {i:Nat} (hi:i < L.length):∃ x ox,pp=some ⟨x,ox*3⟩∧ldO (H.get x) (ox*3+i*3) 3=some L[i].row:=by
 obtain⟨x,ox,ro,rows,hp,ho,hg,hr⟩:=h.has (fun e=>by rw[e] at hi;simp at hi)
 refine⟨x,ox,hp,?_⟩
 show loadAt H ⟨x,ox*3+i*3⟩ 3=_
 have e1:(ox*3+i*3) / 3=ox+i:=by omega
 have e2:(ox*3+i*3) % 3=0:=by omega
 rw[loadAt_eq hg (r:=L[i].row) (nth_of (by rw[e1];exact hr i hi)),e2]
 rfl
section
variable {lf K:Nat} (hlf:1000 < lf)
include hlf
end
end Go.Proofs.YtabebpemfinejaaDoor.draft
namespace Go.Proofs.YtabebpemfinejaaDoor.disk
open Go.Am
theorem wf_u8 {n:Int} (h:(Lit.int .u8 n).wf=true):∃ s:Nat,s < 256∧n=(s:Int):=by
 have h:(decide (IntKind.u8.min≤n)&&decide (n≤IntKind.u8.max))=true:=h
 simp only[Bool.and_eq_true,decide_eq_true_eq] at h
 have h1:(0:Int)≤n:=h.1
 have h2:n≤255:=h.2
 exact⟨n.toNat,by omega,(Int.toNat_of_nonneg h1).symm⟩
theorem u8_of {a:Nat→Option Am.Obj} {u:V} (h:FitsV a (.int .u8) u):∃ s:Nat,s < 256∧u=.int .u8 (s:Int):=by
 obtain⟨C,⟨n,hw,rfl⟩,hu⟩:=h
 cases hu
 obtain⟨s,hs,rfl⟩:=wf_u8 hw
 exact⟨s,hs,rfl⟩
def intOf:List V→Int
 | [.int _ n]=>n
 | _=>0
end Go.Proofs.YtabebpemfinejaaDoor.disk
namespace Go.Proofs.YtabebpemfinejaaDoor.draft
open Go.Am
def cellSh:Sh:=.seq (.seq (.int .i64) (.seq (.int .i64) .nil)) (.seq .blk .nil)
def stepSh:Sh:=.seq .bool (.seq (.int .u8) (.seq (.slice 66 cellSh) .nil))
section
variable {a:Nat→Option Am.Obj} {H:Heap} (hH:∀ n,H.get (.arg n)=a n)
include hH
theorem cell_of {r:List V} (h:Fits a cellSh r):∃ c:Cl,r=rowC c∧c.x < 256 ^ 64:=by
 obtain⟨_,_,rfl,⟨_,_,rfl,⟨s,_,rfl⟩,_,_,rfl,⟨m,_,rfl⟩,rfl⟩,_,_,rfl,⟨B,hB,rfl⟩,rfl⟩:=h
 exact⟨⟨s,m,B⟩,rfl,hB⟩
theorem cells_list:∀(R:List (List V)),(∀ r ∈ R,Fits a cellSh r)→∃ l:List Cl,l.map rowC=R∧∀ c ∈ l,c.x < 256 ^ 64
 | [],_=>⟨[],rfl,fun c h=>by cases h⟩
 | r::R,h=>by
  obtain⟨c,e,hc⟩:=cell_of hH (h r (List.mem_cons_self ..))
  obtain⟨l,el,hl⟩:=cells_list R (fun r hr=>h r (List.mem_cons_of_mem _ hr))
  refine⟨c::l,by rw[List.map_cons,e,el],fun x hx=>?_⟩
  rcases List.mem_cons.1 hx with rfl | hx
  ·exact hc
  ·exact hl x hx
theorem cells_of {C:List V} (h:Fits a (.slice 66 cellSh) C):∃ p lc l,C=[.slice p (List.length l) lc 0]∧CellsAt H p l∧(∀ c ∈ l,c.x < 256 ^ 64)∧l.length≤maxLen:=by
 rcases h with rfl | ⟨b,len,rows,rfl,hb,hl,hm,hr⟩
 ·exact⟨none,0,[],rfl,⟨fun e=>absurd rfl e⟩,fun c h=>(by cases h),Nat.zero_le _⟩
 ·obtain⟨l,el,hc⟩:=cells_list hH rows hr
  have hll:l.length=rows.length:=by rw[← el,List.length_map]
  refine⟨some ⟨.arg b,0⟩,rows.length,l.take len,by rw[List.length_take,Nat.min_eq_left (by omega)],⟨fun _=>⟨.arg b,0,true,rows,rfl,trivial,(hH b).trans hb,fun i hi=>?_⟩⟩,fun c h=>hc c (List.mem_of_mem_take h),by rw[List.length_take];omega⟩
  rw[List.length_take] at hi
  rw[Nat.zero_add,← el,List.getElem?_map,List.getElem?_eq_getElem (by omega),List.getElem_take]
  rfl
end
end Go.Proofs.YtabebpemfinejaaDoor.draft
namespace Go.Proofs.YtabebpemfinejaaDoor.draft
open Go.Am
noncomputable def sumD (c:Nat→Nat):Nat→Nat
 | 0=>0
 | i+1=>sumD c i+c i*256 ^ i
theorem sumD_lt {c:Nat→Nat}:∀ {n:Nat},(∀ i,i < n→c i < 256)→sumD c n < 256 ^ n
 | 0,_=>by show 0 < 1;decide
 | n+1,h=>by
  have a:=sumD_lt (c:=c) (n:=n) (fun i hi=>h i (by omega))
  have b:=h n (by omega)
  show sumD c n+c n*256 ^ n < 256 ^ (n+1)
  rw[Nat.pow_succ]
  have:c n*256 ^ n≤255*256 ^ n:=Nat.mul_le_mul_right _ (by omega)
  omega
theorem leN_sumD {c:Nat→Nat}:∀ {n:Nat},(∀ i,i < n→c i < 256)→leN c n=sumD c n
 | 0,_=>rfl
 | n+1,h=>by
  have a:=sumD_lt (c:=c) (n:=n) (fun i hi=>h i (by omega))
  have ih:=leN_sumD (c:=c) (n:=n) (fun i hi=>h i (by omega))
  show leN c n ||| up (c n) n=sumD c n+c n*256 ^ n
  rw[ih]
  unfold up
  have e:(256:Nat) ^ n=2 ^ (8*n):=by rw[Nat.pow_mul]
  rw[e] at a ⊢
  rw[Nat.or_comm,Nat.mul_comm,← Nat.two_pow_add_eq_or_of_lt a,Nat.add_comm]
theorem sumD_dig (x:Nat):∀ n,sumD (dig x) n=x % 256 ^ n
 | 0=>by show 0=x % 1;omega
 | n+1=>by
  show sumD (dig x) n+dig x n*256 ^ n=_
  rw[sumD_dig x n,Nat.mod_pow_succ]
  unfold dig
  rw[Nat.mul_comm]
theorem leN_congr {f g:Nat→Nat}:∀ {n:Nat},(∀ i,i < n→f i=g i)→leN f n=leN g n
 | 0,_=>rfl
 | n+1,h=>by
  show leN f n ||| up (f n) n=leN g n ||| up (g n) n
  rw[leN_congr (fun i hi=>h i (by omega)),h n (by omega)]
theorem leN_dig {x n:Nat} (hx:x < 256 ^ n) {c:Nat→Nat} (hc:∀ i,i < n→c i=dig x i):leN c n=x:=by
 rw[leN_congr hc,leN_sumD (fun i _=>dig_lt x i),sumD_dig,Nat.mod_eq_of_lt hx]
end Go.Proofs.YtabebpemfinejaaDoor.draft
namespace Go.Proofs.YtabebpemfinejaaDoor.draft
open Go.Am
section
variable {K:Nat}
theorem u_nget_ok {H:Heap} {p:Ptr} {len cap loose a sz:Nat} {c:Nat→Nat} (hs:1≤sz∧sz≤8) (ha:a+sz≤len) (hc:len≤cap) (hm:cap < 1000000) (hl:loose=0∨loose=1) (hb:∀ i,i < sz→c i < 256) (hd:∀ i,i < sz→loadAt H ⟨p.b,p.o+a+i⟩ 1=some [.int .u8 (c i:Int)]) (lf n:Nat) (hlf:9 < lf) :
  U lf K (n+1) 78 [.slice (some p) len cap loose,.int .i64 (a:Int),.int .i64 (sz:Int)] H=some (.v (.tuple [.int .u64 ((leN c sz:Nat):Int),.int .i64 0]),H):=by
 obtain⟨v,H',e,rfl,rfl⟩:ret (U lf K (n+1) 78 [.slice (some p) len cap loose,.int .i64 (a:Int),.int .i64 (sz:Int)] H) fun v H'=>v=.tuple [.int .u64 ((leN c sz:Nat):Int),.int .i64 0]∧H'=H:=by
  refine ret_callU rfl rfl c78_eq ?_
  have f1:¬ ((sz:Int) < 1):=by omega
  have f2:¬ ((8:Int) < (sz:Int)):=by omega
  have f3:¬ ((a:Int) < 0):=by omega
  have f4:¬ ((len:Int) < (a:Int)):=by omega
  have w1:IntKind.i64.wrap ((len:Int) - (a:Int))=((len - a:Nat):Int):=by rw[wrap_i64 (by omega)];omega
  have f5:¬ (((len - a:Nat):Int) < (sz:Int)):=by omega
  obtain⟨e,he⟩:∃ e,e=a+sz:=⟨_,rfl⟩
  have w2:IntKind.i64.wrap ((a:Int)+(sz:Int))=(e:Int):=by rw[wrap_i64 (by omega)];omega
  have bb:bounds len cap (some (.int .i64 (a:Int))) (some (.int .i64 (e:Int))) none=some (a,e,cap):=bounds_ok (by omega) (by omega)
  have hsz:e - a=sz:=by omega
  have ne:¬ (cap=a):=by omega
  have le:a+1≤cap:=by omega
  have hloop:∀ t:T,t.getP (Tr.path 8)=some (.int .u64 0)→t.getP (Tr.path 40)=some (.slice (some ⟨p.b,p.o+a⟩) sz (cap - a) loose)→t.getP (Tr.path 41)=some (.int .i64 (sz:Int))→t.getP (Tr.path 42)=some (.int .i64 0) →
    wp (loopF (runC (U lf K n) lf c78_l0) lf ⟨t,H,[]⟩) fun x s=>x=.ex 1∧s.d=[]∧s.H=H∧s.t.getP (Tr.path 8)=some (.int .u64 ((leN c sz:Nat):Int)):=by
   intro t q8 q40 q41 q42
   refine wp_loopF (fun k s=>∃ i:Nat,k=sz - i∧i≤sz∧s.d=[]∧s.H=H∧s.t.getP (Tr.path 8)=some (.int .u64 ((leN c i:Nat):Int))∧s.t.getP (Tr.path 40)=some (.slice (some ⟨p.b,p.o+a⟩) sz (cap - a) loose)∧s.t.getP (Tr.path 41)=some (.int .i64 (sz:Int))∧s.t.getP (Tr.path 42)=some (.int .i64 (i:Int))) ?_ lf sz _ ⟨0,rfl,by omega,rfl,rfl,q8,q40,q41,q42⟩ (by omega)
   rintro k ⟨t,HH,d⟩ ⟨i,rfl,hi,hd',hH,q8,q40,q41,q42⟩
   dsimp only at hd' hH q8 q40 q41 q42
   subst hd';subst hH
   by_cases hlt:i < sz
   ·have hlt':(i:Int) < (sz:Int):=by omega
    have hle':i+1≤sz:=hlt
    have lk:=hd i hlt
    have w3:IntKind.i64.wrap ((i:Int)+1)=((i+1:Nat):Int):=by rw[wrap_i64 (by omega)];omega
    have w4:IntKind.i64.wrap (8*(i:Int))=((8*i:Nat):Int):=by rw[wrap_i64 (by omega)];omega
    have w5:IntKind.u64.wrap (c i:Int)=(c i:Int):=wrap_u64 (by have:=hb i hlt;omega)
    have hsh:=shl_u64 (hb i hlt) (show i < 8 by omega)
    have hor:=or_u64 (leN_lt (c:=c) (n:=i) (by omega) (fun j hj=>hb j (by omega))) (up_lt (hb i hlt) (show i < 8 by omega))
    change _=some (V.int .u64 ((leN c (i+1):Nat):Int)) at hor
    simp only[c78_l0,q8,q40,q41,q42,hlt',hle',w3,w4,w5,lk,arith_mul,hsh,hor,Nat.mul_one,sy,tup,↓reduceIte,zA,zG,zC,zD,zF,zE,zB,zH,reduceCtorEq]
    exact⟨sz - (i+1),by omega,i+1,rfl,by omega,trivial,trivial,rfl,trivial,trivial,by simp⟩
   ·have:i=sz:=by omega
    subst this
    simp only[c78_l0,q8,q40,q41,q42,Nat.lt_irrefl,Int.lt_irrefl,sy,tup,↓reduceIte,zA,zG,zC,zD,zF,zE,zB,zH,reduceCtorEq]
    exact⟨trivial,trivial,trivial,trivial⟩
  rcases hl with rfl | rfl
  ·simp only[c78,f1,f2,f3,f4,f5,w1,w2,bb,hsz,ne,le,Nat.mul_one,sy,tup,↓reduceIte,zA,zG,zC,zD,zF,zE,zB,zH,reduceCtorEq]
   refine wp_ctx (F:=fun r=>seqC _ _ _ (blockC _ r)) (hloop _ ?_ ?_ ?_ ?_) ?_
   ·simp only[sy,tup,↓reduceIte,zA,zG,zC,zD,zF,zE,zB,zH,reduceCtorEq]
   ·simp only[sy,tup,↓reduceIte,zA,zG,zC,zD,zF,zE,zB,zH,reduceCtorEq]
   ·simp only[sy,tup,↓reduceIte,zA,zG,zC,zD,zF,zE,zB,zH,reduceCtorEq]
   ·simp only[sy,tup,↓reduceIte,zA,zG,zC,zD,zF,zE,zB,zH,reduceCtorEq]
   rintro x ⟨t,HH,d⟩ ⟨rfl,hd',hH,q8⟩
   dsimp only at hd' hH q8
   subst hd';subst hH
   simp only[q8,sy,tup,↓reduceIte,zA,zG,zC,zD,zF,zE,zB,zH,reduceCtorEq]
   simp
  ·simp only[c78,f1,f2,f3,f4,f5,w1,w2,bb,hsz,ne,le,Nat.mul_one,sy,tup,↓reduceIte,zA,zG,zC,zD,zF,zE,zB,zH,reduceCtorEq]
   refine wp_ctx (F:=fun r=>seqC _ _ _ (blockC _ r)) (hloop _ ?_ ?_ ?_ ?_) ?_
   ·simp only[sy,tup,↓reduceIte,zA,zG,zC,zD,zF,zE,zB,zH,reduceCtorEq]
   ·simp only[sy,tup,↓reduceIte,zA,zG,zC,zD,zF,zE,zB,zH,reduceCtorEq]
   ·simp only[sy,tup,↓reduceIte,zA,zG,zC,zD,zF,zE,zB,zH,reduceCtorEq]
   ·simp only[sy,tup,↓reduceIte,zA,zG,zC,zD,zF,zE,zB,zH,reduceCtorEq]
   rintro x ⟨t,HH,d⟩ ⟨rfl,hd',hH,q8⟩
   dsimp only at hd' hH q8
   subst hd';subst hH
   simp only[q8,sy,tup,↓reduceIte,zA,zG,zC,zD,zF,zE,zB,zH,reduceCtorEq]
   simp
 exact e
theorem u_clone_ok {H:Heap} {b:Bk} {B:Nat} (h:H.get b=some (.rows false 64 [[.blk B]])) (ho:H.Old b) (lf n:Nat):ret (U lf K (n+1) 90 [.slice (some ⟨b,8⟩) 44 44 0] H) fun v H'=>
  Turns Z H H'∧∃ k,v=.slice (some ⟨.run k,0⟩) 44 44 1∧BodyAt H' k (fun i=>byte B (8+i)) 44∧H.next≤k:=by
 have h1:(H.add (.rows false 1 [])).get b=some (.rows false 64 [[.blk B]]):=((Turns.add Z H (.rows false 1 [])).same b ho id).trans h
 have he:=elems_blk h1 44 8 (by omega)
 have ha:appendV 1 1 (H.add (.rows false 1 [])) (.slice (some ⟨.run H.next,0⟩) 0 0 0) (.slice (some ⟨b,8⟩) 44 44 0)=some (.slice (some ⟨.run (H.next+1),0⟩) 44 44 1,(H.add (.rows false 1 [])).add (.rows false 1 (rowsB (byte B) 44 8))):=by
  have e0:elems (H.add (.rows false 1 [])) (.run H.next) 1 0 0=some []:=rfl
  unfold appendV
  simp only[lenOf,firstE,he,e0]
  rfl
 have hq:eqSl (.slice (some ⟨b,8⟩) 44 44 0) (.slice none 0 0 0)=some false:=rfl
 refine ret_callU rfl rfl c90_eq ?_
 simp only[c90,hq,ha,List.replicate_zero,sy,tup,↓reduceIte,zA,zG,zC,zD,zF,zE,zB,zH,reduceCtorEq]
 refine⟨trivial,.inr trivial,_,rfl,(Turns.add Z H _).addm _,H.next+1,rfl,⟨?_,?_⟩,by omega⟩
 ·rw[Heap.get_add,if_pos (by simp)]
  rw[rowsB_shift (byte B) 8 44 0]
 ·show _ < _
  simp
theorem u_sget_ok (H:Heap) (B:Nat) {lf:Nat} (hlf:60 < lf) (n:Nat):ret (U lf K (n+4) 77 [.blk B] H) fun v H'=>Turns Z H H' ∧
  ((sealE B≠0∧v=.tuple [.int .u64 0,.slice none 0 0 0,.int .i64 (sealE B)])∨(sealE B=0∧∃ k,v=.tuple [.int .u64 ((sealN B:Nat):Int),.slice (some ⟨.run k,0⟩) 44 44 1,.int .i64 0]∧BodyAt H' k (fun i=>byte B (8+i)) 44∧H.next≤k)):=by
 have t1:=Turns.add Z H (.rows false 64 [[.blk B]])
 have hg:(H.add (.rows false 64 [[.blk B]])).get (.run H.next)=some (.rows false 64 [[.blk B]]):=by rw[Heap.get_add,if_pos rfl]
 have ho:(H.add (.rows false 64 [[.blk B]])).Old (.run H.next):=by show _ < _;simp
 generalize hH1:H.add (.rows false 64 [[.blk B]])=H1 at *
 have g1:U lf K (n+3) 78 [.slice (some ⟨.run H.next,0⟩) 64 64 0,.int .i64 0,.int .i64 8] H1=some (.v (.tuple [.int .u64 ((leN (fun i=>byte B (0+i)) 8:Nat):Int),.int .i64 0]),H1):=u_nget_ok (H:=H1) (p:=⟨.run H.next,0⟩) (len:=64) (cap:=64) (loose:=0) (a:=0) (sz:=8) (c:=fun i=>byte B (0+i)) (by omega) (by omega) (by omega) (by omega) (.inl rfl) (fun i _=>byte_lt _ _) (fun i hi=>by simpa using load_byte hg (i:=0+i) (by omega)) lf (n+2) (by omega)
 have g2:U lf K (n+3) 78 [.slice (some ⟨.run H.next,0⟩) 64 64 0,.int .i64 56,.int .i64 8] H1=some (.v (.tuple [.int .u64 ((leN (fun i=>byte B (56+i)) 8:Nat):Int),.int .i64 0]),H1):=u_nget_ok (H:=H1) (p:=⟨.run H.next,0⟩) (len:=64) (cap:=64) (loose:=0) (a:=56) (sz:=8) (c:=fun i=>byte B (56+i)) (by omega) (by omega) (by omega) (by omega) (.inl rfl) (fun i _=>byte_lt _ _) (fun i hi=>by simpa using load_byte hg (i:=56+i) (by omega)) lf (n+2) (by omega)
 have g3:U lf K (n+3) 78 [.slice (some ⟨.run H.next,0⟩) 64 64 0,.int .i64 52,.int .i64 4] H1=some (.v (.tuple [.int .u64 ((leN (fun i=>byte B (52+i)) 4:Nat):Int),.int .i64 0]),H1):=u_nget_ok (H:=H1) (p:=⟨.run H.next,0⟩) (len:=64) (cap:=64) (loose:=0) (a:=52) (sz:=4) (c:=fun i=>byte B (52+i)) (by omega) (by omega) (by omega) (by omega) (.inl rfl) (fun i _=>byte_lt _ _) (fun i hi=>by simpa using load_byte hg (i:=52+i) (by omega)) lf (n+2) (by omega)
 have g4:=u_of_ok (K:=K) (H:=H1) (p:=⟨.run H.next,0⟩) (len:=52) (cap:=52) (loose:=0) (c:=byte B) (by omega) (fun i _=>byte_lt _ _) (fun i hi=>by simpa using load_byte hg (i:=i) (by omega)) lf n (by omega)
 obtain⟨vb,H2,e2,t2,k,rfl,hb,hk⟩:=u_clone_ok hg ho lf (n+2)
 have hk':H.next≤k:=Nat.le_trans t1.next hk
 change U lf K (n+3) 90 _ _=_ at e2
 have l1:leN (fun i=>byte B (0+i)) 8=sealN B:=rfl
 rw[l1] at g1
 generalize hN2:leN (fun i=>byte B (56+i)) 8=n2 at *
 generalize hN3:leN (fun i=>byte B (52+i)) 4=n3 at *
 have hcl:notN (crcN (byte B) 52) < 4294967296:=notN_lt (crcN_lt (fun i _=>byte_lt _ _))
 generalize hN4:notN (crcN (byte B) 52)=n4 at *
 have w4:IntKind.u64.wrap (n4:Int)=(n4:Int):=wrap_u64 (by omega)
 have hE:sealE B=if sealN B=0∨sealN B≠n2 then 5 else if n4≠n3 then 6 else 0:=by unfold sealE;rw[hN2,hN3,hN4]
 rw[hE]
 generalize sealN B=n1 at *
 refine ret_callU rfl rfl c77_eq ?_
 by_cases h0:n1=0
 ·subst h0
  have z0:(((0:Nat):Int)==0)=true:=rfl
  simp only[c77,hH1,g1,g2,g3,g4,z0,sliceAF,oget,bounds,boundD,sy,tup,↓reduceIte,zA,zG,zC,zD,zF,zE,zB,zH,reduceCtorEq]
  refine⟨trivial,.inr trivial,_,rfl,t1,.inl ⟨by simp,by simp⟩⟩
 ·have z0:((n1:Int)==0)=false:=by simpa using h0
  by_cases h1:n1=n2
  ·subst h1
   by_cases h2:n4=n3
   ·subst h2
    have b1:bound 52 (.int .i64 52)=some 52:=rfl
    have b2:bound 64 (.int .i64 52)=some 52:=rfl
    have b3:bound 52 (.int .i64 8)=some 8:=rfl
    have m1:Nat.beq 52 0=false:=rfl
    have m2:Nat.beq 52 8=false:=rfl
    simp only[c77,hH1,g1,g2,g3,g4,z0,w4,e2,b1,b2,b3,m1,m2,sliceAF,oget,bounds,boundD,bne_self_eq_false,sy,tup,↓reduceIte,zA,zG,zC,zD,zF,zE,zB,zH,reduceCtorEq]
    refine⟨trivial,.inr trivial,_,rfl,t1.trans t2,.inr ⟨by simp[h0],k,rfl,hb,hk'⟩⟩
   ·have z2:((n4:Int)==(n3:Int))=false:=by simpa using (fun e=>h2 (Int.ofNat.inj e))
    have b1:bound 52 (.int .i64 52)=some 52:=rfl
    have b2:bound 64 (.int .i64 52)=some 52:=rfl
    simp only[c77,hH1,g1,g2,g3,g4,z0,z2,w4,b1,b2,sliceAF,oget,bounds,boundD,sy,tup,↓reduceIte,zA,zG,zC,zD,zF,zE,zB,zH,reduceCtorEq]
    refine⟨trivial,.inr trivial,_,rfl,t1,.inl ⟨by simp[h0,h2],by simp[h0,h2]⟩⟩
  ·have z1:((n1:Int)==(n2:Int))=false:=by simpa using (fun e=>h1 (Int.ofNat.inj e))
   simp only[c77,hH1,g1,g2,g3,g4,z0,z1,sliceAF,oget,bounds,boundD,sy,tup,↓reduceIte,zA,zG,zC,zD,zF,zE,zB,zH,reduceCtorEq]
   refine⟨trivial,.inr trivial,_,rfl,t1,.inl ⟨by simp[h1],by simp[h1]⟩⟩
end
end Go.Proofs.YtabebpemfinejaaDoor.draft
namespace Go.Proofs.YtabebpemfinejaaDoor.draft
open Go.Am
noncomputable def c72:CFn:=⟨[.cell (pp 4) 2 .ag,.tmp (pp 5)],
 .seq (.reg [
 qo 4 (.m (allocF 2 [.int .i64 0,.int .i64 0])) [],
 qo 5 (.p (S.get (.c (.bool false)))) []]) (
 .seq (.reg [
 mv 10 0,
 mv 11 1,
 qo 12 (.p (arF .quo (tt 11) (ii 16))) [pp 11],
 qo 13 (.p (iaddrSF (tt 10) (tt 12) 64)) [pp 10,pp 12],
 mv 14 1,
 qo 15 (.p (arF .rem (tt 14) (ii 16))) [pp 14],
 qo 16 (.p (arF .mul (tt 15) (ii 4))) [pp 15],
 qo 17 (.p (sliceAF 64 1 (tt 13) (some (tt 16)) none none)) [pp 13,pp 16],
 qo 18 (.p (sliceF 1 (tt 17) none (some (ii 4)) none)) [pp 17],
 mv 6 18]) (
 .seq (.reg [
 mv 20 6,
 qo 21 (.c (callF (ff 78) [(tt 20),(ii 0),(ii 2)])) [pp 20],
 mv 19 21,
 qo 22 (.p (extF (tt 19) 0)) [pp 19],
 qo 23 (.p (extF (tt 19) 1)) [pp 19],
 mv 7 22,
 mv 8 23]) (
 .seq (.reg [
 mv 24 7,
 qo 25 (.p (convF .i64 (tt 24))) [pp 24],
 mv 26 6,
 qo 27 (.p (iaddrSF (tt 26) (ii 2) 1)) [pp 26],
 qo 28 (.r (loadF (tt 27) 1 .sc)) [pp 27],
 qo 29 (.p (convF .i64 (tt 28))) [pp 28],
 qo 30 (.p (buildF [.int .i64 0,.int .i64 0] .ag [(0,1,(tt 25)),(1,1,(tt 29))])) [pp 25,pp 29],
 qo 9 (.m (allocF 2 [.int .i64 0,.int .i64 0])) [],
 qn (.a (storeF (tt 9) (tt 30) 2)) [pp 9,pp 30]]) (
 .seq (.regD [
 qo 31 (.r (loadF (tt 9) 2 .ag)) [pp 9],
 qo 32 (.r (loadF (tt 9) 2 .ag)) [pp 9],
 qo 33 (.c (callF (ff 56) [(tt 32)])) [pp 32],
 mv 34 33,
 mg 35 6 34 true,
 qg 36 (.p (iaddrSF (tt 35) (ii 3) 1)) 34 true [pp 35],
 qg 37 (.r (loadF (tt 36) 1 .sc)) 34 true [pp 36],
 qg 38 (.p (eqcF false false [.int .u8] (tt 37) (.c (.int .u8 0)))) 34 true [pp 37],
 qo 39 (.p (pickF (tt 34) (tt 38) (.c (.bool false)))) [pp 34,pp 38],
 qn (.a (storeF (tt 4) (tt 31) 2)) [pp 4,pp 31],
 mv 5 39] [0,0,2,6,14,30,62,126,254,15,1023]) (
 .ret)))))⟩
theorem c72_eq:fnOf Tryd.prog 72=some c72:=by kernel_rfl
noncomputable def c44_l0:C:=.seq (.seq (.reg [
 mv 55 12,
 mv 56 7,
 qo 57 (.p (arF .mul (tt 56) (ii 16))) [pp 56],
 qo 58 (.p (arF .lss (tt 55) (tt 57))) [pp 55,pp 57]]) (
 .cond (tt 58) (.skip) (.exit 3))) (
 .seq (.block 4 (.seq (.reg [
 mv 61 0,
 mv 62 12,
 qo 63 (.p (arF .quo (tt 62) (ii 16))) [pp 62],
 qo 64 (.p (iaddrSF (tt 61) (tt 63) 64)) [pp 61,pp 63],
 mv 65 12,
 qo 66 (.p (arF .rem (tt 65) (ii 16))) [pp 65],
 qo 67 (.p (arF .mul (tt 66) (ii 4))) [pp 66],
 qo 68 (.p (sliceAF 64 1 (tt 64) (some (tt 67)) none none)) [pp 64,pp 67],
 qo 69 (.p (sliceF 1 (tt 68) none (some (ii 4)) none)) [pp 68],
 qo 70 (.p (s2apF 4 (tt 69))) [pp 69],
 qo 71 (.r (loadF (tt 70) 4 .ag)) [pp 70],
 qo 72 (.p (buildF [.int .u8 0,.int .u8 0,.int .u8 0,.int .u8 0] .ag [])) [],
 qo 73 (.p (eqcF true true [.int .u8,.int .u8,.int .u8,.int .u8] (tt 71) (tt 72))) [pp 71,pp 72]]) (
 .cond (tt 73) (.seq (.reg [
 qo 4 (.p (S.get (.c (.slice none 0 0 0)))) [],
 qo 5 (.p (S.get (ii 5))) []]) (
 .ret)) (.skip)))) (
 .reg [
 mv 59 12,
 qo 60 (.p (arF .add (tt 59) (ii 1))) [pp 59],
 mv 12 60]))
noncomputable def c44_l1:C:=.seq (.reg [
 qo 32 (.p (arF .lss (tt 31) (tt 30))) [pp 31,pp 30]]) (
 .seq (.cond (tt 32) (.skip) (.exit 1)) (
 .seq (.block 2 (.seq (.reg [
 mv 33 31,
 mv 9 33]) (
 .seq (.reg [
 mv 35 0,
 mv 36 9,
 qo 37 (.c (callF (ff 72) [(tt 35),(tt 36)])) [pp 35,pp 36],
 mv 34 37,
 qo 38 (.p (extF (tt 34) 0)) [pp 34],
 qo 39 (.p (extF (tt 34) 1)) [pp 34],
 qo 10 (.m (allocF 2 [.int .i64 0,.int .i64 0])) [],
 qn (.a (storeF (tt 10) (tt 38) 2)) [pp 10,pp 38],
 mv 11 39]) (
 .seq (.seq (.reg [
 mv 40 11,
 qo 41 (.p (unF .not (tt 40))) [pp 40]]) (
 .cond (tt 41) (.seq (.reg [
 qo 4 (.p (S.get (.c (.slice none 0 0 0)))) [],
 qo 5 (.p (S.get (ii 5))) []]) (
 .ret)) (.skip))) (
 .regD [
 mv 42 8,
 qo 43 (.r (loadF (tt 10) 2 .ag)) [pp 10],
 mv 44 0,
 mv 45 7,
 mv 46 9,
 qo 47 (.p (arF .add (tt 45) (tt 46))) [pp 45,pp 46],
 qo 48 (.p (iaddrSF (tt 44) (tt 47) 64)) [pp 44,pp 47],
 qo 49 (.r (loadF (tt 48) 64 .bk)) [pp 48],
 qo 50 (.p (buildF [.int .i64 0,.int .i64 0,.blk 0] .ag [(0,2,(tt 43)),(2,64,(tt 49))])) [pp 43,pp 49],
 qo 51 (.m (bsliceF 1 66 [.int .i64 0,.int .i64 0,.blk 0] [(0,66,(tt 50))])) [pp 50],
 qo 52 (.a (appF 66 80 (tt 42) (tt 51))) [pp 42,pp 51],
 mv 8 52] [0,0,0,0,0,24,60,124,254,510,1023,2047]))))) (
 .reg [
 qo 53 (.p (arF .add (tt 31) (ii 1))) [pp 31],
 mv 31 53])))
noncomputable def c44:CFn:=⟨[.tmp (pp 4),.tmp (pp 5)],
 .seq (.reg [
 qo 4 (.p (S.get (.c (.slice none 0 0 0)))) [],
 qo 5 (.p (S.get (ii 0))) []]) (
 .seq (.seq (.reg [
 mv 13 1,
 qo 14 (.c (callF (ff 42) [(tt 13)])) [pp 13],
 mv 6 14]) (
 .block 0 (.seq (.reg [
 mv 16 6,
 qo 17 (.p (eqcF false false [.int .i64] (tt 16) (ii 0))) [pp 16],
 mv 15 17]) (
 .cond (tt 15) (.seq (.reg [
 qo 4 (.p (S.get (.c (.slice none 0 0 0)))) [],
 qo 5 (.p (S.get (ii 2))) []]) (
 .ret)) (.seq (.reg [
 mv 19 0,
 qo 20 (.p (lenF (tt 19))) [pp 19],
 mv 21 6,
 qo 22 (.p (arF .lss (tt 20) (tt 21))) [pp 20,pp 21],
 mv 18 22]) (
 .cond (tt 18) (.seq (.reg [
 qo 4 (.p (S.get (.c (.slice none 0 0 0)))) [],
 qo 5 (.p (S.get (ii 4))) []]) (
 .ret)) (.seq (.reg [
 mv 24 0,
 qo 25 (.p (lenF (tt 24))) [pp 24],
 mv 26 6,
 qo 27 (.p (arF .gtr (tt 25) (tt 26))) [pp 25,pp 26],
 mv 23 27]) (
 .cond (tt 23) (.seq (.reg [
 qo 4 (.p (S.get (.c (.slice none 0 0 0)))) [],
 qo 5 (.p (S.get (ii 5))) []]) (
 .ret)) (.skip))))))))) (
 .seq (.reg [
 mv 28 1,
 qo 29 (.c (callF (ff 57) [(tt 28)])) [pp 28],
 mv 7 29]) (
 .seq (.reg [
 qo 8 (.p (S.get (.c (.slice none 0 0 0)))) []]) (
 .seq (.seq (.reg [
 mv 30 1,
 qo 31 (.p (S.get (ii 0))) []]) (
 .block 1 (.loop c44_l1))) (
 .seq (.seq (.reg [
 mv 54 1,
 mv 12 54]) (
 .block 3 (.loop c44_l0))) (
 .seq (.reg [
 mv 74 8,
 mv 4 74,
 qo 5 (.p (S.get (ii 0))) []]) (
 .ret)))))))⟩
theorem c44_eq:fnOf Tryd.prog 44=some c44:=by kernel_rfl
theorem ldK_byte {ro:Bool} {A:List Nat} {q j:Nat} (hq:q < A.length) (hj:j < 64):ldO (some (.rows ro 64 (rowsK A))) (q*64+j) 1=some [.int .u8 (byte (A.getD q 0) j:Int)]:=by
 have h0:Nat.div (q*64+j) 64=q:=by show (q*64+j) / 64=q;omega
 have h1:nth (rowsK A) q=some [.blk (A.getD q 0)]:=nth_of (by rw[rowsK_get hq,getD_get hq])
 have h2:Nat.mod (q*64+j) 64=j:=by show (q*64+j) % 64=j;omega
 unfold ldO
 simp only[h0,h1,h2]
 exact disk.cut_byte _ j hj
theorem cut_four (B o:Nat) (ho:o+4≤64):cut [.blk B] o 4=some [.int .u8 (byte B o:Int),.int .u8 (byte B (o+1):Int),.int .u8 (byte B (o+2):Int),.int .u8 (byte B (o+3):Int)]:=by
 have h1:Nat.ble 64 o=false:=by
  cases he:Nat.ble 64 o with
  | false=>rfl
  | true=>exact absurd (ble_iff.1 he) (by omega)
 have h2:(o.beq 0&&Nat.ble 64 4)=false:=by rw[show Nat.ble 64 4=false from rfl,Bool.and_false]
 have h3:min 4 (64 - o)=4:=by omega
 unfold cut
 simp only[show Nat.beq 4 0=false from rfl,V.asBlk,h1,h2,h3]
 rfl
theorem ldK_four {ro:Bool} {A:List Nat} {q o:Nat} (hq:q < A.length) (ho:o+4≤64):ldO (some (.rows ro 64 (rowsK A))) (q*64+o) 4=some [.int .u8 (byte (A.getD q 0) o:Int),.int .u8 (byte (A.getD q 0) (o+1):Int),.int .u8 (byte (A.getD q 0) (o+2):Int),.int .u8 (byte (A.getD q 0) (o+3):Int)]:=by
 have h0:Nat.div (q*64+o) 64=q:=by show (q*64+o) / 64=q;omega
 have h1:nth (rowsK A) q=some [.blk (A.getD q 0)]:=nth_of (by rw[rowsK_get hq,getD_get hq])
 have h2:Nat.mod (q*64+o) 64=o:=by show (q*64+o) % 64=o;omega
 unfold ldO
 simp only[h0,h1,h2]
 exact cut_four _ o ho
def plB (A:List Nat) (i:Nat):Nat→Nat:=fun j=>byte (A.getD (i / 16) 0) (i % 16*4+j)
noncomputable def plS (A:List Nat) (i:Nat):Nat:=leN (plB A i) 2
noncomputable def plOk (A:List Nat) (i:Nat):Bool:=mayP (plS A i:Int) (plB A i 2:Int)&&decide (plB A i 3=0)
def plZ (A:List Nat) (i:Nat):Bool:=decide (plB A i 0=0)&&decide (plB A i 1=0)&&decide (plB A i 2=0)&&decide (plB A i 3=0)
noncomputable def cellA (A:List Nat) (k i:Nat):Cl:=⟨(plS A i:Int),(plB A i 2:Int),A.getD (k+i) 0⟩
noncomputable def getOk (A:List Nat) (n:Nat):Bool:=(List.range n).all (plOk A)&&(List.range (headsN n*16 - n)).all fun j=>plZ A (n+j)
noncomputable def getL (A:List Nat) (n:Nat):List Cl:=(List.range n).map (cellA A (headsN n))
section
variable {lf K:Nat} (hlf:1000 < lf)
include hlf
theorem plS_lt (A:List Nat) (i:Nat):plS A i < 65536:=by
 have e:plS A i=sumD (plB A i) 2:=leN_sumD (fun i _=>byte_lt _ _)
 rw[e]
 have:=sumD_lt (c:=plB A i) (n:=2) (fun i _=>byte_lt _ _)
 exact Nat.lt_of_lt_of_le this (by decide)
theorem ucread {G:Heap} {w c z L:Nat} {A:List Nat} (hw:G.get (.run w)=some (.rows false 64 (rowsK A))) (wo:w < G.next) (hL:A.length=L) {i:Nat} (hi:i / 16 < L) (hi2:i < 1000) (n:Nat):ret (U lf K (n+2) 72 [.slice (some ⟨.run w,0⟩) L c z,.int .i64 (i:Int)] G) fun v G'=>v=.tuple [.agg [.int .i64 (plS A i:Int),.int .i64 (plB A i 2:Int)],.bool (plOk A i)]∧Turns Z G G':=by
 subst hL
 obtain⟨q,hqe⟩:∃ q,q=i / 16:=⟨_,rfl⟩
 obtain⟨r,hre⟩:∃ r,r=i % 16:=⟨_,rfl⟩
 have hr16:r < 16:=by rw[hre];exact Nat.mod_lt _ (by decide)
 have aq:arith .quo (.int .i64 (i:Int)) (.int .i64 16)=some (.int .i64 (q:Int)):=by rw[hqe];exact quo_i64 i 16 (by decide) (by omega)
 have ar:arith .rem (.int .i64 (i:Int)) (.int .i64 16)=some (.int .i64 (r:Int)):=by rw[hre];exact rem_i64 i 16 (by decide)
 obtain⟨off,hoff⟩:∃ off,off=r*4:=⟨_,rfl⟩
 have hpl:∀ j,plB A i j=byte (A.getD q 0) (off+j):=fun j=>by unfold plB;rw[hoff,hre,hqe]
 have hS:plS A i=leN (fun j=>byte (A.getD q 0) (off+j)) 2:=leN_congr (fun j _=>hpl j)
 have hSl:=plS_lt hlf A i
 unfold plOk
 rw[hpl 2,hpl 3]
 obtain⟨S,hSe⟩:∃ S,S=plS A i:=⟨_,rfl⟩
 rw[← hSe] at hS hSl ⊢
 rw[← hqe] at hi
 have wm:IntKind.i64.wrap ((r:Int)*4)=(off:Int):=by rw[Go.Am.wrap_i64 (by omega)];omega
 have offle:off≤60:=by omega
 have b1:bounds 64 64 (some (.int .i64 (off:Int))) none none=some (off,64,64):=by
  simp only[bounds,boundD,bound,C5,nble]
  simp[show off≤64 by omega]
 have b2:bounds (64 - off) (64 - off) none (some (.int .i64 4)) none=some (0,4,64 - off):=by
  simp only[bounds,boundD,bound,nble]
  rw[show asNat (.int .i64 4)=some 4 from rfl]
  simp[show 4≤64 - off by omega]
 have f1:¬ (64=off):=by omega
 have f2:¬ (64 - off=0):=by omega
 have hq1:q+1≤A.length:=hi
 have as2:asNat (.int .i64 2)=some 2:=rfl
 have as3:asNat (.int .i64 3)=some 3:=rfl
 obtain⟨B,hB⟩:∃ B,B=A.getD q 0:=⟨_,rfl⟩
 have ld:∀ {H:Heap},Turns Z G H→∀ j,off+j < 64→ldO (H.get (.run w)) (q*64+off+j) 1=some [.int .u8 (byte B (off+j):Int)]:=fun tH j hj=>by
  rw[(tH.same (.run w) wo (fun h=>h)).trans hw,Nat.add_assoc,hB]
  exact ldK_byte hi hj
 rw[← hB] at hS ⊢
 have t1:=Turns.add Z G (.rows false 2 [[.int .i64 0,.int .i64 0]])
 have hg1:(G.add (.rows false 2 [[.int .i64 0,.int .i64 0]])).get (.run G.next)=some (.rows false 2 [[.int .i64 0,.int .i64 0]]):=by rw[Heap.get_add,if_pos rfl]
 obtain⟨H1,hH1⟩:∃ H1,G.add (.rows false 2 [[.int .i64 0,.int .i64 0]])=H1:=⟨_,rfl⟩
 have n1:H1.next=G.next+1:=by rw[← hH1];rfl
 rw[hH1] at t1 hg1
 have eg:=u_nget_ok (K:=K) (H:=H1) (p:=⟨.run w,q*64+off⟩) (len:=4) (cap:=64 - off) (loose:=0) (a:=0) (sz:=2) (c:=fun j=>byte B (off+j)) (by omega) (by omega) (by omega) (by omega) (.inl rfl) (fun _ _=>byte_lt _ _) (fun j hj=>by
  rw[ld_get,Nat.add_zero]
  exact ld t1 j (by omega)) lf (n:=n) (by omega)
 rw[← hS] at eg
 change U lf K (n+1) 78 [.slice (some ⟨.run w,q*64+off⟩) 4 (64 - off) 0,.int .i64 0,.int .i64 2] H1=_ at eg
 have ws:IntKind.i64.wrap (S:Int)=(S:Int):=Go.Am.wrap_i64 (by omega)
 have ld2:=ld t1 2 (by omega)
 have hm2:=byte_lt B (off+2)
 have hm3:=byte_lt B (off+3)
 obtain⟨M,hM⟩:∃ M,M=byte B (off+2):=⟨_,rfl⟩
 rw[← hM] at ld2 hm2 ⊢
 have w2:IntKind.i64.wrap (M:Int)=(M:Int):=Go.Am.wrap_i64 (by omega)
 have wid2:width [V.int .i64 (S:Int),.int .i64 (M:Int)]=2:=rfl
 have put2:put [V.int .i64 0,.int .i64 0] 0 [.int .i64 (S:Int),.int .i64 (M:Int)]=some [.int .i64 (S:Int),.int .i64 (M:Int)]:=rfl
 have cut2:cut [V.int .i64 (S:Int),.int .i64 (M:Int)] 0 2=some [.int .i64 (S:Int),.int .i64 (M:Int)]:=rfl
 have t2:Turns Z H1 ((H1.add (.rows false 2 [[.int .i64 0,.int .i64 0]])).set (.run H1.next) (.rows false 2 [[.int .i64 (S:Int),.int .i64 (M:Int)]])):=by repeat (first | exact Turns.refl _ _ | apply Turns.skip | apply Turns.addm | apply Turns.setb | apply Turns.setl | apply Turns.setr | refine Turns.setn ?_ _ (by omega) _ | refine Turns.trans ?_ (tF _))
 have hg2:((H1.add (.rows false 2 [[.int .i64 0,.int .i64 0]])).set (.run H1.next) (.rows false 2 [[.int .i64 (S:Int),.int .i64 (M:Int)]])).get (.run H1.next)=some (.rows false 2 [[.int .i64 (S:Int),.int .i64 (M:Int)]]):=by rw[Heap.get_set,if_pos rfl]
 obtain⟨H2,hH2⟩:∃ H2,(H1.add (.rows false 2 [[.int .i64 0,.int .i64 0]])).set (.run H1.next) (.rows false 2 [[.int .i64 (S:Int),.int .i64 (M:Int)]])=H2:=⟨_,rfl⟩
 have n2:H2.next=H1.next+1:=by rw[← hH2];rfl
 rw[hH2] at t2 hg2
 have hr2:=(t2.same (.run G.next) (by show _ < _;omega) (fun h=>h)).trans hg1
 obtain⟨v3,H3,e3,rfl,t3⟩:=ucmay hlf (K:=K) H2 (S:Int) (M:Int) n
 have hg3:=(t3.same (.run H1.next) (by show _ < _;omega) (fun h=>h)).trans hg2
 have hr3:=(t3.same (.run G.next) (by show _ < _;omega) (fun h=>h)).trans hr2
 have t13:=(t1.trans t2).trans t3
 have ld3:=ld t13 3 (by omega)
 obtain⟨N3,hN3⟩:∃ N3,N3=byte B (off+3):=⟨_,rfl⟩
 rw[← hN3] at ld3 hm3 ⊢
 obtain⟨b,hb⟩:∃ b,b=mayP (S:Int) (M:Int):=⟨_,rfl⟩
 rw[← hb] at e3 ⊢
 have e0:((N3:Int)==0)=decide (N3=0):=by
  by_cases h:N3=0
  ·subst h;rfl
  ·rw[decide_eq_false h,beq_eq_false_iff_ne];omega
 obtain⟨Q,hQ⟩:∃ Q:List (Option V × Option V),Q=[(loadF (.t (Tr.path 9)) 2 .ag (Tr.setP (Tr.path 9) (.ptr (some ⟨.run H1.next,0⟩)) .e) H2,some (.agg [.int .i64 (S:Int),.int .i64 (M:Int)])),(loadF (.t (Tr.path 9)) 2 .ag (Tr.setP (Tr.path 9) (.ptr (some ⟨.run H1.next,0⟩)) .e) H3,some (.agg [.int .i64 (S:Int),.int .i64 (M:Int)]))]:=⟨_,rfl⟩
 have hQ':∀ x ∈ Q,x.1=x.2:=by
  rw[hQ]
  intro x hx
  simp only[List.mem_cons,List.not_mem_nil,or_false] at hx
  rcases hx with rfl | rfl<;>simp (maxDischargeDepth:=12) only[hg2,hg3,cut2,hv,ldO_one,stO_one,sy,tup,↓reduceIte,zA,zG,zC,zD,zF,zE,zB,zH,reduceCtorEq]
 obtain⟨H4,hH4⟩:∃ H4,H3.set (.run G.next) (.rows false 2 [[.int .i64 (S:Int),.int .i64 (M:Int)]])=H4:=⟨_,rfl⟩
 have hr4:H4.get (.run G.next)=some (.rows false 2 [[.int .i64 (S:Int),.int .i64 (M:Int)]]):=by rw[← hH4,Heap.get_set,if_pos rfl]
 have t14:Turns Z G H4:=by rw[← hH4];exact t13.setn _ (Nat.le_refl _) _
 have ld4:=ld t14 3 (by omega)
 rw[← hN3] at ld4
 obtain⟨Q2,hQ2⟩:∃ Q2:List (Option V × Option V),Q2=Q++[(loadF (.t (Tr.path 36)) 1 .sc (Tr.setP (Tr.path 36) (.ptr (some ⟨.run w,q*64+off+3⟩)) .e) H3,some (.int .u8 (N3:Int))),(loadF (.t (Tr.path 36)) 1 .sc (Tr.setP (Tr.path 36) (.ptr (some ⟨.run w,q*64+off+3⟩)) .e) H4,some (.int .u8 (N3:Int)))]:=⟨_,rfl⟩
 have hQ2':∀ x ∈ Q2,x.1=x.2:=by
  rw[hQ2]
  intro x hx
  rcases List.mem_append.1 hx with hx | hx
  ·exact hQ' x hx
  ·simp only[List.mem_cons,List.not_mem_nil,or_false] at hx
   rcases hx with rfl | rfl<;>simp (maxDischargeDepth:=12) only[ld3,ld4,hv,ldO_one,stO_one,sy,tup,↓reduceIte,zA,zG,zC,zD,zF,zE,zB,zH,reduceCtorEq]
 refine ret_callU rfl rfl c72_eq ?_
 cases b with
 | true=>
  simp (maxDischargeDepth:=12) only[c72,hH1,aq,hq1,ar,arith_mul,wm,b1,f1,b2,f2,eg,ws,as2,as3,ld2,w2,wid2,put2,hH2,hg2,cut2,e3,ld3,e0,hr3,hH4,Nat.mul_one,Nat.sub_zero,hv,ldO_one,stO_one,sy,tup,↓reduceIte,zA,zG,zC,zD,zF,zE,zB,zH,reduceCtorEq]
  rw[endD_q (q:=Q2) (by kernel_rfl) (by rw[hQ2,hQ];kernel_rfl)]
  simp (maxDischargeDepth:=12) only[hr4,cut2,hv,ldO_one,stO_one,sy,tup,↓reduceIte,zA,zG,zC,zD,zF,zE,zB,zH,reduceCtorEq]
  exact⟨trivial,.inr trivial,_,rfl,rfl,t14.owe hQ2'⟩
 | false=>
  simp (maxDischargeDepth:=12) only[c72,hH1,aq,hq1,ar,arith_mul,wm,b1,f1,b2,f2,eg,ws,as2,as3,ld2,w2,wid2,put2,hH2,hg2,cut2,e3,ld3,e0,hr3,hH4,Nat.mul_one,Nat.sub_zero,hv,ldO_one,stO_one,sy,tup,↓reduceIte,zA,zG,zC,zD,zF,zE,zB,zH,reduceCtorEq]
  rw[endD_q (q:=Q) (by kernel_rfl) (by rw[hQ];kernel_rfl)]
  simp (maxDischargeDepth:=12) only[hr4,cut2,hv,ldO_one,stO_one,sy,tup,↓reduceIte,zA,zG,zC,zD,zF,zE,zB,zH,reduceCtorEq]
  exact⟨trivial,.inr trivial,_,rfl,rfl,t14.owe hQ'⟩
end
end Go.Proofs.YtabebpemfinejaaDoor.draft
namespace Go.Proofs.YtabebpemfinejaaDoor.draft
open Go.Am
def rowsC (l:List Cl):List (List V):=l.map rowC
theorem rowsC_len (l:List Cl):(rowsC l).length=l.length:=by unfold rowsC;rw[List.length_map]
section
variable {lf K:Nat} (hlf:1000 < lf)
include hlf
theorem ucget_cells {G:Heap} {w c z n:Nat} {A:List Nat} (hw:G.get (.run w)=some (.rows false 64 (rowsK A))) (wo:w < G.next) (h1:1≤n∧n≤32) (hA:A.length=recS n) {v1:V} (d:Nat):∀ t:T,t.getP (Tr.path 0)=some (.slice (some ⟨.run w,0⟩) (recS n) c z)→t.getP (Tr.path 1)=some v1→t.getP (Tr.path 7)=some (.int .i64 (headsN n:Int))→t.getP (Tr.path 8)=some (.slice none 0 0 0)→t.getP (Tr.path 30)=some (.int .i64 (n:Int))→t.getP (Tr.path 31)=some (.int .i64 0) →
  wp (loopF (runC (U lf K (d+2)) lf c44_l1) lf ⟨t,G,[]⟩) fun x s=>s.d=[]∧Turns Z G s.H∧((x=.ex 1∧(List.range n).all (plOk A)=true∧s.t.getP (Tr.path 0)=some (.slice (some ⟨.run w,0⟩) (recS n) c z)∧s.t.getP (Tr.path 1)=some v1∧s.t.getP (Tr.path 7)=some (.int .i64 (headsN n:Int))∧∃ y,s.t.getP (Tr.path 8)=some y∧Lst G s.H 66 (rowsC (getL A n)) y)∨(x=.ret∧(List.range n).all (plOk A)=false∧s.t.getP (Tr.path 4)=some (.slice none 0 0 0)∧s.t.getP (Tr.path 5)=some (.int .i64 5))):=by
 intro t q0 q1 q7 q8 q30 q31
 have hAr:A.length=headsN n+n:=hA
 have hh:headsN n=(n+15) / 16:=rfl
 refine wp_loopF (fun u s=>∃(i:Nat) (y:V),u=n - i∧i≤n∧s.d=[]∧s.t.getP (Tr.path 0)=some (.slice (some ⟨.run w,0⟩) (recS n) c z)∧s.t.getP (Tr.path 1)=some v1∧s.t.getP (Tr.path 7)=some (.int .i64 (headsN n:Int))∧s.t.getP (Tr.path 8)=some y∧s.t.getP (Tr.path 30)=some (.int .i64 (n:Int))∧s.t.getP (Tr.path 31)=some (.int .i64 (i:Int))∧Lst G s.H 66 (rowsC ((List.range i).map (cellA A (headsN n)))) y∧(List.range i).all (plOk A)=true∧Turns Z G s.H)
  ?_ lf n _ ⟨0,_,rfl,Nat.zero_le _,rfl,q0,q1,q7,q8,q30,q31,Lst.nil _ _ _,rfl,Turns.refl _ _⟩ (by omega)
 rintro u ⟨t,HH,dd⟩ ⟨i,y,rfl,hi,hd,q0,q1,q7,q8,q30,q31,hy,hok,hT⟩
 dsimp only at hd q0 q1 q7 q8 q30 q31 hy hT
 subst hd
 by_cases hlt:i < n
 rotate_left
 ·have:i=n:=by omega
  subst this
  simp (maxDischargeDepth:=12) only[c44_l1,q0,q30,q31,Int.lt_irrefl,Nat.lt_irrefl,hv,ldO_one,stO_one,sy,tup,↓reduceIte,zA,zG,zC,zD,zF,zE,zB,zH,reduceCtorEq]
  exact⟨trivial,hT,.inl ⟨trivial,hok,by simp[q0],by simp[q1],by simp[q7],y,by simp[q8],hy⟩⟩
 have hlt':(i:Int) < (n:Int):=by omega
 have w1:IntKind.i64.wrap ((i:Int)+1)=((i+1:Nat):Int):=by rw[Go.Am.wrap_i64 (by omega)];omega
 have hwH:=(hT.same (.run w) wo (fun h=>h)).trans hw
 have woH:w < HH.next:=Nat.lt_of_lt_of_le wo hT.next
 obtain⟨v2,H2,e2,rfl,t2⟩:=ucread hlf (K:=K) (c:=c) (z:=z) hwH woH hA (i:=i) (by rw[← hA,hAr];omega) (by omega) d
 have hall:(List.range (i+1)).all (plOk A)=plOk A i:=by rw[List.range_succ,List.all_append,hok,Bool.true_and];simp
 obtain⟨S,hS⟩:∃ S,S=plS A i:=⟨_,rfl⟩
 obtain⟨M,hM⟩:∃ M,M=plB A i 2:=⟨_,rfl⟩
 rw[← hS,← hM] at e2
 have wid2:width [V.int .i64 (S:Int),.int .i64 (M:Int)]=2:=rfl
 have put2:put [V.int .i64 0,.int .i64 0] 0 [.int .i64 (S:Int),.int .i64 (M:Int)]=some [.int .i64 (S:Int),.int .i64 (M:Int)]:=rfl
 have cut2:cut [V.int .i64 (S:Int),.int .i64 (M:Int)] 0 2=some [.int .i64 (S:Int),.int .i64 (M:Int)]:=rfl
 have t3:Turns Z H2 ((H2.add (.rows false 2 [[.int .i64 0,.int .i64 0]])).set (.run H2.next) (.rows false 2 [[.int .i64 (S:Int),.int .i64 (M:Int)]])):=by repeat (first | exact Turns.refl _ _ | apply Turns.skip | apply Turns.addm | apply Turns.setb | apply Turns.setl | apply Turns.setr | refine Turns.setn ?_ _ (by omega) _ | refine Turns.trans ?_ (tF _))
 have hg3:((H2.add (.rows false 2 [[.int .i64 0,.int .i64 0]])).set (.run H2.next) (.rows false 2 [[.int .i64 (S:Int),.int .i64 (M:Int)]])).get (.run H2.next)=some (.rows false 2 [[.int .i64 (S:Int),.int .i64 (M:Int)]]):=by rw[Heap.get_set,if_pos rfl]
 obtain⟨H3,hH3⟩:∃ H3,(H2.add (.rows false 2 [[.int .i64 0,.int .i64 0]])).set (.run H2.next) (.rows false 2 [[.int .i64 (S:Int),.int .i64 (M:Int)]])=H3:=⟨_,rfl⟩
 rw[hH3] at t3 hg3
 by_cases hpo:plOk A i=true
 rotate_left
 ·rw[Bool.not_eq_true] at hpo
  rw[hpo] at e2
  simp (maxDischargeDepth:=12) only[c44_l1,q0,q30,q31,hlt',hlt,e2,wid2,put2,hH3,hv,ldO_one,stO_one,sy,tup,↓reduceIte,zA,zG,zC,zD,zF,zE,zB,zH,reduceCtorEq]
  refine⟨trivial,(hT.trans t2).trans t3,.inr ⟨trivial,?_,trivial,trivial⟩⟩
  rw[List.all_eq_false]
  exact⟨i,List.mem_range.2 hlt,by rw[hpo];decide⟩
 rw[hpo] at e2
 obtain⟨q,hq⟩:∃ q,q=headsN n+i:=⟨_,rfl⟩
 have wq:IntKind.i64.wrap ((headsN n:Int)+(i:Int))=(q:Int):=by rw[Go.Am.wrap_i64 (by omega)];omega
 have hqA:q < A.length:=by omega
 have hq1:q+1≤recS n:=by rw[← hA];exact hqA
 have hw3:=((t2.trans t3).same (.run w) woH (fun h=>h)).trans hwH
 have ld:=ldK (ro:=false) hqA
 rw[← getD_get hqA] at ld
 obtain⟨X,hX⟩:∃ X,X=A.getD q 0:=⟨_,rfl⟩
 rw[← hX] at ld
 have hce:rowC (cellA A (headsN n) i)=[.int .i64 (S:Int),.int .i64 (M:Int),.blk X]:=by
  unfold cellA rowC
  rw[hS,hM,hX,hq]
 have hy3:=(hy.turns t2 (fun _ _ h=>h)).turns t3 (fun _ _ h=>h)
 have t4:=Turns.add Z H3 (.rows false 66 [[.int .i64 (S:Int),.int .i64 (M:Int),.blk X]])
 have hg4:(H3.add (.rows false 66 [[.int .i64 (S:Int),.int .i64 (M:Int),.blk X]])).get (.run H3.next)=some (.rows false 66 [[.int .i64 (S:Int),.int .i64 (M:Int),.blk X]]):=by rw[Heap.get_add,if_pos rfl]
 obtain⟨H4,hH4⟩:∃ H4,H3.add (.rows false 66 [[.int .i64 (S:Int),.int .i64 (M:Int),.blk X]])=H4:=⟨_,rfl⟩
 rw[hH4] at t4 hg4
 have hy4:=hy3.turns t4 (fun _ _ h=>h)
 have tt:=((hT.trans t2).trans t3).trans t4
 have hrl:(rowsC ((List.range i).map (cellA A (headsN n)))).length=i:=by rw[rowsC_len,List.length_map,List.length_range]
 obtain⟨H5,ea,hy5,t5,_⟩:=hy4.app1 (by':=80) tt.next hg4 rfl (by decide) (by rw[hrl];omega) (by rw[hrl];omega)
 rw[hrl] at ea hy5
 have t5':=lst_away hy4 tt (Nat.le_refl _) t5
 have pA:put [V.int .i64 0,.int .i64 0,.blk 0] 0 [.int .i64 (S:Int),.int .i64 (M:Int)]=some [.int .i64 (S:Int),.int .i64 (M:Int),.blk 0]:=rfl
 have pB:put [V.int .i64 (S:Int),.int .i64 (M:Int),.blk 0] 2 [.blk X]=some [.int .i64 (S:Int),.int .i64 (M:Int),.blk X]:=rfl
 have wid66:width [V.int .i64 (S:Int),.int .i64 (M:Int),.blk X]=66:=rfl
 simp (maxDischargeDepth:=12) only[c44_l1,q0,q7,q8,q30,q31,hlt',hlt,e2,wid2,put2,hH3,hg3,cut2,wq,hq1,hw3,ld,pA,pB,wid66,hH4,ea,Nat.mul_one,hv,ldO_one,stO_one,sy,tup,↓reduceIte,zA,zG,zC,zD,zF,zE,zB,zH,reduceCtorEq]
 rw[endD_ok (by kernel_rfl) (by kernel_rfl)]
 simp (maxDischargeDepth:=12) only[w1,q31,hv,ldO_one,stO_one,sy,tup,↓reduceIte,zA,zG,zC,zD,zF,zE,zB,zH,reduceCtorEq]
 refine⟨n - (i+1),by omega,i+1,_,rfl,by omega,trivial,by simp[q0],by simp[q1],by simp[q7],rfl,by simp[q30],by simp,?_,by rw[hall,hpo],t5'⟩
 have er:rowsC ((List.range (i+1)).map (cellA A (headsN n)))=rowsC ((List.range i).map (cellA A (headsN n)))++[[.int .i64 (S:Int),.int .i64 (M:Int),.blk X]]:=by
  rw[List.range_succ,List.map_append]
  unfold rowsC
  rw[List.map_append,← hce];rfl
 rw[er]
 exact hy5
theorem ucget_tail {G:Heap} {w c z n:Nat} {A:List Nat} (hw:G.get (.run w)=some (.rows false 64 (rowsK A))) (wo:w < G.next) (h1:1≤n∧n≤32) (hA:A.length=recS n) {y:V} (d:Nat):∀ t:T,t.getP (Tr.path 0)=some (.slice (some ⟨.run w,0⟩) (recS n) c z)→t.getP (Tr.path 7)=some (.int .i64 (headsN n:Int))→t.getP (Tr.path 8)=some y→t.getP (Tr.path 12)=some (.int .i64 (n:Int)) →
  wp (loopF (runC (U lf K (d+2)) lf c44_l0) lf ⟨t,G,[]⟩) fun x s=>s.d=[]∧s.H=G∧((x=.ex 3∧((List.range (headsN n*16 - n)).all fun j=>plZ A (n+j))=true∧s.t.getP (Tr.path 8)=some y)∨(x=.ret∧((List.range (headsN n*16 - n)).all fun j=>plZ A (n+j))=false∧s.t.getP (Tr.path 4)=some (.slice none 0 0 0)∧s.t.getP (Tr.path 5)=some (.int .i64 5))):=by
 intro t q0 q7 q8 q12
 have hAr:A.length=headsN n+n:=hA
 have hh:headsN n=(n+15) / 16:=rfl
 obtain⟨E,hE⟩:∃ E,E=headsN n*16:=⟨_,rfl⟩
 have hEi:(E:Int)=(headsN n:Int)*16:=by rw[hE];exact Int.natCast_mul _ _
 have wE:IntKind.i64.wrap ((headsN n:Int)*16)=(E:Int):=by rw[Go.Am.wrap_i64 (by omega)];omega
 rw[← hE]
 refine wp_loopF (fun u s=>∃(i:Nat),u=E - i∧n≤i∧i≤E∧s.d=[]∧s.H=G∧s.t.getP (Tr.path 0)=some (.slice (some ⟨.run w,0⟩) (recS n) c z)∧s.t.getP (Tr.path 7)=some (.int .i64 (headsN n:Int))∧s.t.getP (Tr.path 8)=some y∧s.t.getP (Tr.path 12)=some (.int .i64 (i:Int))∧((List.range (i - n)).all fun j=>plZ A (n+j))=true)
  ?_ lf (E - n) _ ⟨n,rfl,Nat.le_refl _,by omega,rfl,rfl,q0,q7,q8,q12,by rw[Nat.sub_self];rfl⟩ (by omega)
 rintro u ⟨t,HH,dd⟩ ⟨i,rfl,hni,hi,hd,hH,q0,q7,q8,q12,hok⟩
 dsimp only at hd hH q0 q7 q8 q12
 subst hd;subst hH
 by_cases hlt:i < E
 rotate_left
 ·have:i=E:=by omega
  subst this
  simp (maxDischargeDepth:=12) only[c44_l0,q7,q12,arith_mul,wE,Int.lt_irrefl,Nat.lt_irrefl,hv,ldO_one,stO_one,sy,tup,↓reduceIte,zA,zG,zC,zD,zF,zE,zB,zH,reduceCtorEq]
  exact⟨trivial,trivial,.inl ⟨trivial,hok,by simp[q8]⟩⟩
 have hlt':(i:Int) < (E:Int):=by omega
 have w1:IntKind.i64.wrap ((i:Int)+1)=((i+1:Nat):Int):=by rw[Go.Am.wrap_i64 (by omega)];omega
 obtain⟨q,hqe⟩:∃ q,q=i / 16:=⟨_,rfl⟩
 obtain⟨r,hre⟩:∃ r,r=i % 16:=⟨_,rfl⟩
 have hr16:r < 16:=by rw[hre];exact Nat.mod_lt _ (by decide)
 have aq:arith .quo (.int .i64 (i:Int)) (.int .i64 16)=some (.int .i64 (q:Int)):=by rw[hqe];exact quo_i64 i 16 (by decide) (by omega)
 have ar:arith .rem (.int .i64 (i:Int)) (.int .i64 16)=some (.int .i64 (r:Int)):=by rw[hre];exact rem_i64 i 16 (by decide)
 obtain⟨off,hoff⟩:∃ off,off=r*4:=⟨_,rfl⟩
 have hpl:∀ j,plB A i j=byte (A.getD q 0) (off+j):=fun j=>by unfold plB;rw[hoff,hre,hqe]
 have wm:IntKind.i64.wrap ((r:Int)*4)=(off:Int):=by rw[Go.Am.wrap_i64 (by omega)];omega
 have offle:off≤60:=by omega
 have b1:bounds 64 64 (some (.int .i64 (off:Int))) none none=some (off,64,64):=by
  simp only[bounds,boundD,bound,C5,nble]
  simp[show off≤64 by omega]
 have b2:bounds (64 - off) (64 - off) none (some (.int .i64 4)) none=some (0,4,64 - off):=by
  simp only[bounds,boundD,bound,nble]
  rw[show asNat (.int .i64 4)=some 4 from rfl]
  simp[show 4≤64 - off by omega]
 have f1:¬ (64=off):=by omega
 have f2:¬ (64 - off=0):=by omega
 have hq1:q+1≤recS n:=by rw[← hA,hAr];omega
 have ld:=ldK_four (ro:=false) (A:=A) (q:=q) (o:=off) (by omega) (by omega)
 rw[← hw] at ld
 have hall:((List.range (i+1 - n)).all fun j=>plZ A (n+j))=plZ A i:=by
  rw[show i+1 - n=(i - n)+1 by omega,List.range_succ,List.all_append,hok,Bool.true_and]
  simp only[List.all_cons,List.all_nil,Bool.and_true]
  rw[show n+(i - n)=i by omega]
 have hz:plZ A i=(decide (byte (A.getD q 0) off=0)&&decide (byte (A.getD q 0) (off+1)=0)&&decide (byte (A.getD q 0) (off+2)=0)&&decide (byte (A.getD q 0) (off+3)=0)):=by
  unfold plZ
  rw[hpl 0,hpl 1,hpl 2,hpl 3,Nat.add_zero]
 rw[hz] at hall
 generalize byte (A.getD q 0) off=y0 at ld hall hz
 generalize byte (A.getD q 0) (off+1)=y1 at ld hall hz
 generalize byte (A.getD q 0) (off+2)=y2 at ld hall hz
 generalize byte (A.getD q 0) (off+3)=y3 at ld hall hz
 have e0:∀ x:Nat,((x:Int)==0)=decide (x=0):=fun x=>by
  by_cases h:x=0
  ·subst h;rfl
  ·rw[decide_eq_false h,beq_eq_false_iff_ne];omega
 have hzb:∃ zb,zb=(decide (y0=0)&&(decide (y1=0)&&(decide (y2=0)&&decide (y3=0)))):=⟨_,rfl⟩
 obtain⟨zb,hzb⟩:=hzb
 rw[Bool.and_assoc,Bool.and_assoc,← hzb] at hall hz
 cases zb with
 | true=>
  simp (maxDischargeDepth:=12) only[c44_l0,q0,q7,q12,arith_mul,wE,hlt',hlt,aq,hq1,ar,wm,b1,f1,b2,f2,ld,e0,← hzb,s2apF,w1,Nat.mul_one,Nat.sub_zero,hv,ldO_one,stO_one,sy,tup,↓reduceIte,zA,zG,zC,zD,zF,zE,zB,zH,reduceCtorEq]
  exact⟨E - (i+1),by omega,i+1,rfl,by omega,by omega,trivial,trivial,by simp[q0],by simp[q7],by simp[q8],by simp,hall⟩
 | false=>
  simp (maxDischargeDepth:=12) only[c44_l0,q0,q7,q12,arith_mul,wE,hlt',hlt,aq,hq1,ar,wm,b1,f1,b2,f2,ld,e0,← hzb,s2apF,w1,Nat.mul_one,Nat.sub_zero,hv,ldO_one,stO_one,sy,tup,↓reduceIte,zA,zG,zC,zD,zF,zE,zB,zH,reduceCtorEq]
  refine⟨trivial,trivial,.inr ⟨trivial,?_,trivial,trivial⟩⟩
  rw[List.all_eq_false]
  exact⟨i - n,List.mem_range.2 (by omega),by rw[show n+(i - n)=i by omega,hz];decide⟩
theorem ucget {G:Heap} {w c z n:Nat} {A:List Nat} (hw:G.get (.run w)=some (.rows false 64 (rowsK A))) (wo:w < G.next) (h1:1≤n∧n≤32) (hA:A.length=recS n) (d:Nat):ret (U lf K (d+3) 44 [.slice (some ⟨.run w,0⟩) (recS n) c z,.int .i64 (n:Int)] G) fun v G'=>Turns Z G G'∧((getOk A n=true∧∃ y,v=.tuple [y,.int .i64 0]∧Lst G G' 66 (rowsC (getL A n)) y)∨(getOk A n=false∧v=.tuple [.slice none 0 0 0,.int .i64 5])):=by
 have e1:=usize hlf (K:=K) G (k:=n) (by omega) d
 have es:szR n=recS n:=szR_rec hlf h1.1 h1.2
 rw[es] at e1
 have e2:=uheads hlf (K:=K) G (k:=n) (by omega) (d+1)
 change U lf K (d+2) 57 [.int .i64 (n:Int)] G=some (.v (.int .i64 ((headsN n:Nat):Int)),G) at e2
 have hz:((recS n:Int)==0)=false:=by rw[beq_eq_false_iff_ne];unfold recS;omega
 have hl1:=ucget_cells hlf (K:=K) (c:=c) (z:=z) hw wo h1 hA (v1:=.int .i64 (n:Int)) d
 have hl2:=fun {G2:Heap} (t:Turns Z G G2) (y:V)=>ucget_tail hlf (K:=K) (c:=c) (z:=z) (y:=y) ((t.same (.run w) wo (fun h=>h)).trans hw) (Nat.lt_of_lt_of_le wo t.next) h1 hA d
 generalize recS n=RS at e1 hz hl1 hl2 ⊢
 refine ret_callU rfl rfl c44_eq ?_
 have hgo:getOk A n=((List.range n).all (plOk A)&&(List.range (headsN n*16 - n)).all fun j=>plZ A (n+j)):=rfl
 simp (maxDischargeDepth:=12) only[c44,e1,hz,e2,Int.lt_irrefl,Nat.lt_irrefl,hv,ldO_one,stO_one,sy,tup,↓reduceIte,zA,zG,zC,zD,zF,zE,zB,zH,reduceCtorEq]
 refine wp_ctx (F:=fun r=>seqC _ _ _ (blockC _ r)) (hl1 _ ?_ ?_ ?_ ?_ ?_ ?_) ?_
 ·simp only[sy,tup,↓reduceIte,zA,zG,zC,zD,zF,zE,zB,zH,reduceCtorEq]
 ·simp only[sy,tup,↓reduceIte,zA,zG,zC,zD,zF,zE,zB,zH,reduceCtorEq]
 ·simp only[sy,tup,↓reduceIte,zA,zG,zC,zD,zF,zE,zB,zH,reduceCtorEq]
 ·simp only[sy,tup,↓reduceIte,zA,zG,zC,zD,zF,zE,zB,zH,reduceCtorEq]
 ·simp only[sy,tup,↓reduceIte,zA,zG,zC,zD,zF,zE,zB,zH,reduceCtorEq]
 ·simp only[sy,tup,↓reduceIte,zA,zG,zC,zD,zF,zE,zB,zH,reduceCtorEq]
 rintro x ⟨t,G2,dd⟩ ⟨hd,tT,⟨rfl,hok,q0,q1,q7,y,q8,hy⟩ | ⟨rfl,hok,q4,q5⟩⟩
 ·dsimp only at hd tT q0 q1 q7 q8 hy
  subst hd
  simp (maxDischargeDepth:=12) only[q1,hv,ldO_one,stO_one,sy,tup,↓reduceIte,zA,zG,zC,zD,zF,zE,zB,zH,reduceCtorEq]
  refine wp_ctx (F:=fun r=>seqC _ _ _ (blockC _ r)) (hl2 tT y _ ?_ ?_ ?_ ?_) ?_
  ·simp only[q0,sy,tup,↓reduceIte,zA,zG,zC,zD,zF,zE,zB,zH,reduceCtorEq]
  ·simp only[q7,sy,tup,↓reduceIte,zA,zG,zC,zD,zF,zE,zB,zH,reduceCtorEq]
  ·simp only[q8,sy,tup,↓reduceIte,zA,zG,zC,zD,zF,zE,zB,zH,reduceCtorEq]
  ·simp only[sy,tup,↓reduceIte,zA,zG,zC,zD,zF,zE,zB,zH,reduceCtorEq]
  rintro x ⟨t,G3,dd⟩ ⟨hd,hG,⟨rfl,hok2,q8⟩ | ⟨rfl,hok2,q4,q5⟩⟩
  ·dsimp only at hd hG q8
   subst hd;subst hG
   simp (maxDischargeDepth:=12) only[q8,hv,ldO_one,stO_one,sy,tup,↓reduceIte,zA,zG,zC,zD,zF,zE,zB,zH,reduceCtorEq]
   exact⟨trivial,.inr trivial,_,rfl,tT,.inl ⟨by rw[hgo,hok,hok2];rfl,y,rfl,hy⟩⟩
  ·dsimp only at hd hG q4 q5
   subst hd;subst hG
   simp (maxDischargeDepth:=12) only[q4,q5,hv,ldO_one,stO_one,sy,tup,↓reduceIte,zA,zG,zC,zD,zF,zE,zB,zH,reduceCtorEq]
   exact⟨trivial,.inr trivial,_,rfl,tT,.inr ⟨by rw[hgo,hok2,Bool.and_false],rfl⟩⟩
 ·dsimp only at hd tT q4 q5
  subst hd
  simp (maxDischargeDepth:=12) only[q4,q5,hv,ldO_one,stO_one,sy,tup,↓reduceIte,zA,zG,zC,zD,zF,zE,zB,zH,reduceCtorEq]
  exact⟨trivial,.inr trivial,_,rfl,tT,.inr ⟨by rw[hgo,hok,Bool.false_and],rfl⟩⟩
end
end Go.Proofs.YtabebpemfinejaaDoor.draft
namespace Go.Proofs.YtabebpemfinejaaDoor.draft
open Go.Am
open disk (bx Fit A1 R1 Low Bn)
noncomputable def c16_l0:C:=.seq (.reg [
 qo 49 (.p (arF .lss (tt 48) (tt 47))) [pp 48,pp 47]]) (
 .seq (.cond (tt 49) (.skip) (.exit 1)) (
 .seq (.block 2 (.seq (.reg [
 qo 50 (.p (iaddrSF (tt 46) (tt 48) 1)) [pp 46,pp 48],
 qo 51 (.r (loadF (tt 50) 1 .sc)) [pp 50],
 mv 9 51]) (
 .seq (.regD [
 mv 53 0,
 qo 54 (.p (nilcF (tt 53))) [pp 53],
 qo 55 (.p (faddrF (tt 54) 0)) [pp 54],
 qo 56 (.r (loadF (tt 55) 1 .sc)) [pp 55],
 mv 57 0,
 qo 58 (.p (nilcF (tt 57))) [pp 57],
 qo 59 (.p (faddrF (tt 58) 1)) [pp 58],
 qo 60 (.r (loadF (tt 59) 1 .sc)) [pp 59],
 mv 61 9,
 qo 62 (.c (callF (ff 43) [(tt 56),(tt 60),(tt 61)])) [pp 56,pp 60,pp 61],
 mv 52 62,
 qo 63 (.p (extF (tt 52) 0)) [pp 52],
 qo 64 (.p (extF (tt 52) 1)) [pp 52],
 qo 10 (.m (allocF 64 [.blk 0])) [],
 qn (.a (storeF (tt 10) (tt 63) 64)) [pp 10,pp 63],
 mv 11 64] [0,1,3,7,0,16,48,112,0,511,1023,2047,2047,0,12287,32767]) (
 .seq (.seq (.reg [
 mv 65 11,
 qo 66 (.p (eqcF true false [.int .i64] (tt 65) (ii 0))) [pp 65]]) (
 .cond (tt 66) (.seq (.reg [
 mv 67 11,
 qo 4 (.p (S.get (.c (.slice none 0 0 0)))) [],
 mv 5 67]) (
 .ret)) (.skip))) (
 .reg [
 mv 68 7,
 qo 69 (.r (loadF (tt 10) 64 .bk)) [pp 10],
 qo 70 (.m (bsliceF 1 64 [.blk 0] [(0,64,(tt 69))])) [pp 69],
 qo 71 (.a (appF 64 64 (tt 68) (tt 70))) [pp 68,pp 70],
 mv 7 71]))))) (
 .reg [
 qo 72 (.p (arF .add (tt 48) (ii 1))) [pp 48],
 mv 48 72])))
noncomputable def c16:CFn:=⟨[.tmp (pp 4),.tmp (pp 5)],
 .seq (.reg [
 qo 4 (.p (S.get (.c (.slice none 0 0 0)))) [],
 qo 5 (.p (S.get (ii 0))) []]) (
 .seq (.block 0 (.seq (.reg [
 mv 13 0,
 qo 14 (.c (callF (ff 25) [(tt 13)])) [pp 13],
 mv 12 14]) (
 .cond (tt 12) (.seq (.reg [
 qo 4 (.p (S.get (.c (.slice none 0 0 0)))) [],
 qo 5 (.p (S.get (ii 1))) []]) (
 .ret)) (.seq (.reg [
 mv 16 1,
 mv 17 0,
 qo 18 (.p (nilcF (tt 17))) [pp 17],
 qo 19 (.p (faddrF (tt 18) 5)) [pp 18],
 qo 20 (.r (loadF (tt 19) 1 .sc)) [pp 19],
 qo 21 (.p (arF .lss (tt 16) (tt 20))) [pp 16,pp 20],
 mv 22 21,
 mg 23 1 22 false,
 mg 24 0 22 false,
 qg 25 (.c (callF (ff 27) [(tt 24)])) 22 false [pp 24],
 qg 26 (.p (arF .geq (tt 23) (tt 25))) 22 false [pp 23,pp 25],
 qo 27 (.p (pickF (tt 22) (.c (.bool true)) (tt 26))) [pp 22,pp 26],
 mv 15 27]) (
 .cond (tt 15) (.seq (.reg [
 qo 4 (.p (S.get (.c (.slice none 0 0 0)))) [],
 qo 5 (.p (S.get (ii 7))) []]) (
 .ret)) (.skip)))))) (
 .seq (.regD [
 mv 28 0,
 qo 29 (.p (nilcF (tt 28))) [pp 28],
 qo 30 (.p (faddrF (tt 29) 8)) [pp 29],
 qo 31 (.r (loadF (tt 30) 1 .sc)) [pp 30],
 mv 32 1,
 mv 33 0,
 qo 34 (.p (nilcF (tt 33))) [pp 33],
 qo 35 (.p (faddrF (tt 34) 5)) [pp 34],
 qo 36 (.r (loadF (tt 35) 1 .sc)) [pp 35],
 qo 37 (.p (arF .sub (tt 32) (tt 36))) [pp 32,pp 36],
 qo 38 (.p (iaddrSF (tt 31) (tt 37) 4)) [pp 31,pp 37],
 qo 39 (.r (loadF (tt 38) 4 .ag)) [pp 38],
 qo 6 (.m (allocF 4 [.int .u64 0,.int .u64 0,.int .i64 0,.int .u32 0])) [],
 qn (.a (storeF (tt 6) (tt 39) 4)) [pp 6,pp 39]] [0,1,3,7,0,0,32,96,224,496,1023,2047,0,8191]) (
 .seq (.reg [
 qo 7 (.p (S.get (.c (.slice none 0 0 0)))) []]) (
 .seq (.seq (.regD [
 mv 40 0,
 qo 41 (.p (faddrF (tt 6) 1)) [pp 6],
 qo 42 (.r (loadF (tt 41) 1 .sc)) [pp 41],
 qo 43 (.p (faddrF (tt 6) 2)) [pp 6],
 qo 44 (.r (loadF (tt 43) 1 .sc)) [pp 43],
 qo 45 (.c (callF (ff 42) [(tt 44)])) [pp 44],
 qo 46 (.c (callF (ff 31) [(tt 40),(tt 42),(tt 45)])) [pp 40,pp 42,pp 45],
 qo 47 (.p (lenF (tt 46))) [pp 46],
 qo 48 (.p (S.get (ii 0))) []] [0,0,2,0,8,24,63,127,0]) (
 .block 1 (.loop c16_l0))) (
 .seq (.seq (.regD [
 mv 73 7,
 qo 74 (.c (callF (ff 33) [(tt 73)])) [pp 73],
 qo 75 (.p (faddrF (tt 6) 3)) [pp 6],
 qo 76 (.r (loadF (tt 75) 1 .sc)) [pp 75],
 qo 77 (.p (eqcF true false [.int .u32] (tt 74) (tt 76))) [pp 74,pp 76]] [0,1,0,4,15]) (
 .cond (tt 77) (.seq (.reg [
 qo 4 (.p (S.get (.c (.slice none 0 0 0)))) [],
 qo 5 (.p (S.get (ii 6))) []]) (
 .ret)) (.skip))) (
 .seq (.reg [
 mv 78 7,
 qo 79 (.p (faddrF (tt 6) 2)) [pp 6],
 qo 80 (.r (loadF (tt 79) 1 .sc)) [pp 79],
 qo 81 (.c (callF (ff 44) [(tt 78),(tt 80)])) [pp 78,pp 80],
 qo 82 (.p (extF (tt 81) 0)) [pp 81],
 qo 83 (.p (extF (tt 81) 1)) [pp 81],
 mv 4 82,
 mv 5 83]) (
 .ret)))))))⟩
theorem c16_eq:fnOf Tryd.prog 16=some c16:=by kernel_rfl
noncomputable def recR (B:Bn) (R p k:Nat):List Nat:=(List.range k).map fun j=>B.read 0 (((p+j) % R+10:Nat):Int)
theorem recR_len (B:Bn) (R p k:Nat):(recR B R p k).length=k:=by unfold recR;rw[List.length_map,List.length_range]
section
variable {lf K:Nat} (hlf:1000 < lf)
include hlf
theorem ulrecord_read {G:Heap} {l b:Bk} {id R cnt first tail head:Nat} {lv:V} (hg:G.get l=some (.rows false 9 [lcells b id R cnt first tail head lv])) (ho:G.Old l) {B:Bn} (hb:G.get b=some (bx false B)) (bo:G.Old b) (hf:Fit B) {u p k:Nat} (hu:G.get (.run u)=some (.rows false 1 (rowsI (secs R p k)))) (uo:u < G.next) (hk:k≤100) (hR:1≤R∧R≤256) {c:Int} (hrc:∀ j,j < k→B.rc 0 (((p+j) % R+10:Nat):Int)=c) {t6:V} (n:Nat):∀ t:T,t.getP (Tr.path 0)=some (.ptr (some ⟨l,0⟩))→t.getP (Tr.path 6)=some t6→t.getP (Tr.path 7)=some (.slice none 0 0 0)→t.getP (Tr.path 46)=some (.slice (some ⟨.run u,0⟩) k k 0)→t.getP (Tr.path 47)=some (.int .i64 (k:Int))→t.getP (Tr.path 48)=some (.int .i64 0) →
  wp (loopF (runC (U lf K (n+1)) lf c16_l0) lf ⟨t,G,[]⟩) fun x s=>s.d=[]∧Turns Z G s.H∧((x=.ex 1∧(k=0∨c=0)∧s.t.getP (Tr.path 6)=some t6∧∃ y,s.t.getP (Tr.path 7)=some y∧Lst G s.H 64 (rowsK (recR B R p k)) y)∨(x=.ret∧c≠0∧s.t.getP (Tr.path 4)=some (.slice none 0 0 0)∧s.t.getP (Tr.path 5)=some (.int .i64 c))):=by
 intro t q0 q6 q7 q46 q47 q48
 refine wp_loopF (fun m s=>∃(i:Nat) (y:V),m=k - i∧i≤k∧s.d=[]∧s.t.getP (Tr.path 0)=some (.ptr (some ⟨l,0⟩))∧s.t.getP (Tr.path 6)=some t6∧s.t.getP (Tr.path 7)=some y∧s.t.getP (Tr.path 46)=some (.slice (some ⟨.run u,0⟩) k k 0)∧s.t.getP (Tr.path 47)=some (.int .i64 (k:Int))∧s.t.getP (Tr.path 48)=some (.int .i64 (i:Int))∧Lst G s.H 64 (rowsK (recR B R p i)) y∧(i=0∨c=0)∧Turns Z G s.H)
  ?_ lf k _ ⟨0,_,rfl,Nat.zero_le _,rfl,q0,q6,q7,q46,q47,q48,Lst.nil _ _ _,.inl rfl,Turns.refl _ _⟩ (by omega)
 rintro m ⟨t,HH,dd⟩ ⟨i,y,rfl,hi,hd,q0,q6,q7,q46,q47,q48,hy,hc0,hT⟩
 dsimp only at hd q0 q6 q7 q46 q47 q48 hy hT
 subst hd
 by_cases hlt:i < k
 rotate_left
 ·have:i=k:=by omega
  subst this
  simp (maxDischargeDepth:=12) only[c16_l0,q47,q48,Int.lt_irrefl,Nat.lt_irrefl,hv,ldO_one,stO_one,sy,tup,↓reduceIte,zA,zG,zC,zD,zF,zE,zB,zH,reduceCtorEq]
  exact⟨trivial,hT,.inl ⟨trivial,hc0,by simp[q6],y,by simp[q7],hy⟩⟩
 have hlt':(i:Int) < (k:Int):=by omega
 have hle:i+1≤k:=hlt
 have w1:IntKind.i64.wrap ((i:Int)+1)=((i+1:Nat):Int):=by rw[Go.Am.wrap_i64 (by omega)];omega
 have huH:=(hT.same (.run u) uo (fun h=>h)).trans hu
 have hgH:=(hT.same l ho (fun h=>h)).trans hg
 have hbH:=(hT.same b bo (fun h=>h)).trans hb
 have k0:cut (lcells b id R cnt first tail head lv) 0 1=some [.ptr (some ⟨b,0⟩)]:=rfl
 have k1:cut (lcells b id R cnt first tail head lv) 1 1=some [.int .i64 0]:=rfl
 have hsl:(secs R p k).length=k:=by unfold secs;simp
 have ld1:=ldI (ro:=false) (A:=secs R p k) (i:=i) (by omega)
 have hsi:(secs R p k)[i]'(by omega)=(((p+i) % R+10:Nat):Int):=by unfold secs;rw[List.getElem_map,List.getElem_range]
 rw[hsi] at ld1
 have hrc1:=hrc i hlt
 have hre:recR B R p (i+1)=recR B R p i++[B.read 0 (((p+i) % R+10:Nat):Int)]:=by unfold recR;rw[List.range_succ,List.map_append];rfl
 obtain⟨m,hm⟩:∃ m:Int,m=(((p+i) % R+10:Nat):Int):=⟨_,rfl⟩
 rw[← hm] at ld1 hrc1 hre
 have eR:=qRead (lf:=lf) (K:=K) (w:=n) hbH hf 0 m
 rw[hrc1] at eR
 obtain⟨X,hX⟩:∃ X,X=B.read 0 m:=⟨_,rfl⟩
 rw[← hX] at eR hre
 have t2:Turns Z HH (((HH.skip (K+2)).add (.rows false 64 [[.blk 0]])).set (.run (HH.next+(K+2))) (.rows false 64 [[.blk X]])):=by
  refine Turns.setn ?_ _ (by omega) _
  exact((Turns.refl Z HH).skip _).addm _
 have hx2:(((HH.skip (K+2)).add (.rows false 64 [[.blk 0]])).set (.run (HH.next+(K+2))) (.rows false 64 [[.blk X]])).get (.run (HH.next+(K+2)))=some (.rows false 64 [[.blk X]]):=by rw[Heap.get_set,if_pos rfl]
 obtain⟨H2,hH2⟩:∃ H2,((HH.skip (K+2)).add (.rows false 64 [[.blk 0]])).set (.run (HH.next+(K+2))) (.rows false 64 [[.blk X]])=H2:=⟨_,rfl⟩
 rw[hH2] at t2 hx2
 by_cases hcz:c=0
 rotate_left
 ·have hcz':(c==0)=false:=beq_eq_false_iff_ne.2 hcz
  simp (maxDischargeDepth:=12) only[c16_l0,q0,q46,q47,q48,hlt',hlt,hle,huH,ld1,hgH,k0,k1,eR,hcz',hH2,Nat.mul_one,hv,ldO_one,stO_one,sy,tup,↓reduceIte,zA,zG,zC,zD,zF,zE,zB,zH,reduceCtorEq]
  rw[endD_ok (by kernel_rfl) (by kernel_rfl)]
  simp (maxDischargeDepth:=12) only[hcz',hv,ldO_one,stO_one,sy,tup,↓reduceIte,zA,zG,zC,zD,zF,zE,zB,zH,reduceCtorEq]
  exact⟨trivial,hT.trans t2,.inr ⟨trivial,hcz,trivial,trivial⟩⟩
 have hcz':(c==0)=true:=by rw[hcz];rfl
 have hy2:=hy.turns t2 (fun _ _ h=>h)
 have t3:=Turns.add Z H2 (.rows false 64 [[.blk X]])
 have hg3:(H2.add (.rows false 64 [[.blk X]])).get (.run H2.next)=some (.rows false 64 [[.blk X]]):=by rw[Heap.get_add,if_pos rfl]
 obtain⟨H3,hH3⟩:∃ H3,H2.add (.rows false 64 [[.blk X]])=H3:=⟨_,rfl⟩
 rw[hH3] at t3 hg3
 have hy3:=hy2.turns t3 (fun _ _ h=>h)
 have tt:=(hT.trans t2).trans t3
 have hrl:(rowsK (recR B R p i)).length=i:=by rw[rowsK_len,recR_len]
 obtain⟨H4,ea,hy4,t4,_⟩:=hy3.app1 (by':=64) tt.next hg3 (Dj _ _) (by decide) (by rw[hrl];omega) (by rw[hrl];omega)
 rw[hrl] at ea hy4
 have t4':=lst_away hy3 tt (Nat.le_refl _) t4
 simp (maxDischargeDepth:=12) only[c16_l0,q0,q46,q47,q48,hlt',hlt,hle,huH,ld1,hgH,k0,k1,eR,hcz',hH2,Nat.mul_one,hv,ldO_one,stO_one,sy,tup,↓reduceIte,zA,zG,zC,zD,zF,zE,zB,zH,reduceCtorEq]
 rw[endD_ok (by kernel_rfl) (by kernel_rfl)]
 simp (maxDischargeDepth:=12) only[hcz',q7,hx2,hH3,ea,w1,q48,hv,ldO_one,stO_one,sy,tup,↓reduceIte,zA,zG,zC,zD,zF,zE,zB,zH,reduceCtorEq]
 refine⟨k - (i+1),by omega,i+1,_,rfl,by omega,trivial,by simp[q0],by simp[q6],rfl,by simp[q46],by simp[q47],by simp,?_,.inr hcz,t4'⟩
 rw[hre]
 unfold rowsK
 rw[List.map_append]
 exact hy4
end
end Go.Proofs.YtabebpemfinejaaDoor.draft
