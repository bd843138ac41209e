import Derived.Test.YtllkepkaimnodaaGreatDoorG5
import Derived.Test.YtllkepkaimnodaaGreatDoorG7
import Derived.Test.YtllkepkaimnodaaGreatDoorG0
set_option linter.unusedVariables false
set_option linter.unusedSectionVars false
set_option linter.unusedSimpArgs false
set_option maxRecDepth 10000
open Nat renaming reduceEqDiff → zA, reduceLeDiff → zB, reduceSub → zC, reduceMul → zD, reduceMod → zE, reduceDiv → zF, reduceAdd → zG
open Int renaming reduceBEq → zH
namespace Go.Proofs.YtllkepkaimnodaaGreatDoor.draft
open Go.Am
open disk (bx Fit A1 R1 Low Bn)
noncomputable def openX (B:Bn):Option Nat:=match newM (B.read 0 0) (B.read 0 1) with
 | none=>none
 | some X=>if((mkG X).R:Int)≤B.sectors 0 - 10∧sealN X≤2305843009213693952∧(mkG X).first≤2305843009213693952∧(mkG X).pos≤2305843009213693952 then some X else none
theorem foldV_max3 (a b c:Int):∃ m:Int,foldV max2 (.int .u64 a) [.int .u64 b,.int .u64 c]=some (.int .u64 m)∧(m≤2305843009213693952↔a≤2305843009213693952∧b≤2305843009213693952∧c≤2305843009213693952):=by
 simp only[foldV,max2,ltI_eq]
 by_cases h1:a < b<;>simp only[h1,decide_true,decide_false]
 ·by_cases h2:b < c<;>simp only[h2,decide_true,decide_false]
  ·exact⟨c,rfl,by omega⟩
  ·exact⟨b,rfl,by omega⟩
 ·by_cases h2:a < c<;>simp only[h2,decide_true,decide_false]
  ·exact⟨c,rfl,by omega⟩
  ·exact⟨a,rfl,by omega⟩
section
variable {lf K:Nat} (hlf:1000 < lf)
include hlf
def arr2 (X Y:Nat):Nat→List V
 | 0=>[.blk 0,.blk 0]
 | 1=>[.blk X,.blk 0]
 | _=>[.blk X,.blk Y]
theorem ulopen_reads {G0:Heap} {b:Bk} {q:Nat} {B:Bn} (bo:G0.Old b) (hf:Fit B) (hq:G0.next≤q) (hrc:∀ j:Nat,j < 10→B.rc 0 (j:Int)=0) (n:Nat):∀(t:T) (G1:Heap),G1.get b=some (bx false B)→Turns Z G0 G1→q < G1.next→G1.get (.run q)=some (.rows false 128 [arr2 (B.read 0 0) (B.read 0 1) 0])→t.getP (Tr.path 0)=some (.ptr (some ⟨b,0⟩))→t.getP (Tr.path 1)=some (.int .i64 0)→t.getP (Tr.path 4)=some (.ptr none)→t.getP (Tr.path 5)=some (.int .i64 0)→t.getP (Tr.path 7)=some (.ptr (some ⟨.run q,0⟩))→t.getP (Tr.path 24)=some (.int .i64 0) →
  wp (loopF (runC (U lf K (n+1)) lf c10_l1) lf ⟨t,G1,[]⟩) fun x s=>x=.ex 0∧s.d=[]∧s.H.get (.run q)=some (.rows false 128 [arr2 (B.read 0 0) (B.read 0 1) 2])∧s.H.get b=some (bx false B)∧Turns Z G0 s.H∧s.t.getP (Tr.path 0)=some (.ptr (some ⟨b,0⟩))∧s.t.getP (Tr.path 1)=some (.int .i64 0)∧s.t.getP (Tr.path 4)=some (.ptr none)∧s.t.getP (Tr.path 5)=some (.int .i64 0)∧s.t.getP (Tr.path 7)=some (.ptr (some ⟨.run q,0⟩)):=by
 intro t G1 hb1 hT1 hq1 hg1 q0 q1 q4 q5 q7 q24
 have qb:¬ (b=Bk.run q):=fun e=>by rw[e] at bo;exact absurd bo (Heap.not_old hq)
 refine wp_loopF (fun m s=>∃(i:Nat),m=2 - i∧i≤2∧s.d=[]∧s.H.get (.run q)=some (.rows false 128 [arr2 (B.read 0 0) (B.read 0 1) i])∧q < s.H.next∧s.H.get b=some (bx false B)∧Turns Z G0 s.H∧s.t.getP (Tr.path 0)=some (.ptr (some ⟨b,0⟩))∧s.t.getP (Tr.path 1)=some (.int .i64 0)∧s.t.getP (Tr.path 4)=some (.ptr none)∧s.t.getP (Tr.path 5)=some (.int .i64 0)∧s.t.getP (Tr.path 7)=some (.ptr (some ⟨.run q,0⟩))∧s.t.getP (Tr.path 24)=some (.int .i64 (i:Int)))
  ?_ lf 2 _ ⟨0,rfl,Nat.zero_le _,rfl,hg1,hq1,hb1,hT1,q0,q1,q4,q5,q7,q24⟩ (by omega)
 rintro m ⟨t,H,dd⟩ ⟨i,rfl,hi,hd,hg,hqn,hb,hT,q0,q1,q4,q5,q7,q24⟩
 dsimp only at hd hg hqn hb hT q0 q1 q4 q5 q7 q24
 subst hd
 by_cases hlt:i < 2
 rotate_left
 ·have:i=2:=by omega
  subst this
  have hnl:¬ (((2:Nat):Int) < 2):=by decide
  simp (maxDischargeDepth:=12) only[c10_l1,q24,hnl,hv,ldO_one,stO_one,sy,tup,↓reduceIte,zA,zG,zC,zD,zF,zE,zB,zH,reduceCtorEq]
  exact⟨trivial,trivial,hg,hb,hT,q0,q1,q4,q5,q7⟩
 have hlt':(i:Int) < 2:=by omega
 have hle:i≤1:=by omega
 have w1:IntKind.i64.wrap ((i:Int)+1)=((i+1:Nat):Int):=by rw[Go.Am.wrap_i64 (by omega)];omega
 have hrc1:=hrc i (by omega)
 obtain⟨m,hm⟩:∃ m:Int,m=(i:Int):=⟨_,rfl⟩
 have eR:=qRead (lf:=lf) (K:=K) (w:=n) hb hf 0 (i:Int)
 rw[hrc1] at eR
 obtain⟨X,hX⟩:∃ X,X=B.read 0 (i:Int):=⟨_,rfl⟩
 rw[← hX] at eR
 have b00:((0:Int)==0)=true:=rfl
 have hgs:(H.skip (K+2)).get (.run q)=some (.rows false 128 [arr2 (B.read 0 0) (B.read 0 1) i]):=by rw[get_skip];exact hg
 have hput:stO (some (.rows false 128 [arr2 (B.read 0 0) (B.read 0 1) i])) (i*64) [.blk X]=some (.rows false 128 [arr2 (B.read 0 0) (B.read 0 1) (i+1)]):=by
  have:i=0∨i=1:=by omega
  rw[hX]
  rcases this with rfl | rfl<;>rfl
 have ts:Turns Z H (H.skip (K+2)):=(Turns.refl Z H).skip _
 simp (maxDischargeDepth:=12) only[c10_l1,q0,q1,q4,q5,q7,q24,hlt',hle,eR,hg,hput,w1,b00,iaddrAF,idxAF,hv,ldO_one,stO_one,sy,tup,↓reduceIte,zA,zG,zC,zD,zF,zE,zB,zH,reduceCtorEq]
 refine⟨2 - (i+1),by omega,i+1,rfl,by omega,trivial,?_,?_,?_,?_,by simp[q0],by simp[q1],by simp[q4],by simp[q5],by simp[q7],by simp⟩
 ·first | rfl | (rw[Heap.get_set,if_pos rfl])
 ·show q < H.next+(K+2);omega
 ·rw[if_neg qb];exact hb
 ·exact(hT.trans ts).setn _ hq _
theorem newM_ok {A B X:Nat} (h:newM A B=some X):mkMay (mkG X)=true:=by
 have key:∀ Y,markOk Y=true→mkMay (mkG Y)=true:=fun Y h=>by
  unfold markOk at h
  simp only[Bool.and_eq_true] at h
  exact h.1.2
 unfold newM at h
 split at h
 ·cases h
 ·rename_i h2
  cases h;exact key _ h2
 ·rename_i h1 h2
  cases h;exact key _ h1
 ·rename_i h1 h2
  split at h
  ·cases h;exact key _ h2
  ·cases h;exact key _ h1
theorem ulopen {G:Heap} (hgl:G.get (.run 0)=some (.rows true 4 (intsR [8,2,8,8]))) (h00:0 < G.next) {b:Bk} (bo:G.Old b) {B:Bn} (hb:G.get b=some (bx false B)) (hf:Fit B) (hrc:roomC B 0 50=0→∀ j:Nat,j < 10→B.rc 0 (j:Int)=0) (hs:B.sectors 0≤1000000) (n:Nat) :
    ret (U lf K (n+8) 10 [.ptr (some ⟨b,0⟩),.int .i64 0] G) fun v G'=>G'.get b=some (bx false B)∧Turns Z G G' ∧
      ((roomC B 0 50≠0∧v=.tuple [.ptr none,.int .i64 (roomC B 0 50)]) ∨
       (roomC B 0 50=0∧openX B=none∧v=.tuple [.ptr none,.int .i64 5]) ∨
       (roomC B 0 50=0∧∃ X l lv,openX B=some X∧v=.tuple [.ptr (some ⟨l,0⟩),.int .i64 0]∧¬ G.Old l∧(∀ c,Bof lv c→¬ G.Old c)∧LogAt G' l b (mkG X).id (mkG X).R (sealN X) (mkG X).first (mkG X).pos (goN (fun j=>B.read 0 (j:Int)) (mkG X).R (mkG X).first (mkG X).pos 8 [] (mkG X).pos).2 (goN (fun j=>B.read 0 (j:Int)) (mkG X).R (mkG X).first (mkG X).pos 8 [] (mkG X).pos).1 lv)):=by
  obtain⟨v1,G1,e1,rfl,t1⟩:=ulroom hlf (K:=K) hb hf 0 50 (n+5)
  have hb1:=(t1.same b bo (fun h=>h)).trans hb
  refine ret_callU rfl rfl c10_eq ?_
  by_cases hc:roomC B 0 50=0
  rotate_left
  · have hc':(roomC B 0 50==0)=false:=beq_eq_false_iff_ne.2 hc
    generalize roomC B 0 50=c at *
    simp (maxDischargeDepth:=12) only[c10,e1,hc',hv,ldO_one,stO_one,sy,tup,↓reduceIte,zA,zG,zC,zD,zF,zE,zB,zH,reduceCtorEq]
    exact⟨trivial,.inr trivial,_,rfl,hb1,t1,.inl ⟨hc,rfl⟩⟩
  have hrc:=hrc hc
  rw[hc] at e1 ⊢
  have b00:((0:Int)==0)=true:=rfl
  have o1:=t1.next
  have t2:=Turns.add Z G1 (.rows false 128 [[.blk 0,.blk 0]])
  have hg2:(G1.add (.rows false 128 [[.blk 0,.blk 0]])).get (.run G1.next)=some (.rows false 128 [arr2 (B.read 0 0) (B.read 0 1) 0]):=by rw[Heap.get_add,if_pos rfl];rfl
  obtain⟨G2,hG2⟩:∃ G2,G1.add (.rows false 128 [[.blk 0,.blk 0]])=G2:=⟨_,rfl⟩
  have n2:G2.next=G1.next+1:=by rw[← hG2];rfl
  rw[hG2] at t2 hg2
  have hb2:=(t2.same b (bo.mono o1) (fun h=>h)).trans hb1
  have hloop:=ulopen_reads hlf (K:=K) (G0:=G) (b:=b) (q:=G1.next) (B:=B) bo hf o1 hrc (n+6)
  simp (maxDischargeDepth:=12) only[c10,e1,b00,hG2,hv,ldO_one,stO_one,sy,tup,↓reduceIte,zA,zG,zC,zD,zF,zE,zB,zH,reduceCtorEq]
  refine wp_ctx (F:=fun r=>seqC _ _ _ (blockC _ r)) (hloop _ _ hb2 (t1.trans t2) (by omega) hg2 ?_ ?_ ?_ ?_ ?_ ?_) ?_
  · simp only[sy,tup,↓reduceIte,zA,zG,zC,zD,zF,zE,zB,zH,reduceCtorEq]
  · simp only[sy,tup,↓reduceIte,zA,zG,zC,zD,zF,zE,zB,zH,reduceCtorEq]
  · simp only[sy,tup,↓reduceIte,zA,zG,zC,zD,zF,zE,zB,zH,reduceCtorEq]
  · simp only[sy,tup,↓reduceIte,zA,zG,zC,zD,zF,zE,zB,zH,reduceCtorEq]
  · simp only[sy,tup,↓reduceIte,zA,zG,zC,zD,zF,zE,zB,zH,reduceCtorEq]
  · simp only[sy,tup,↓reduceIte,zA,zG,zC,zD,zF,zE,zB,zH,reduceCtorEq]
  rintro x ⟨t,G3,d⟩ ⟨rfl,hd,hg3,hb3,t3,q0,q1,q4,q5,q7⟩
  dsimp only at hd hg3 hb3 t3 q0 q1 q4 q5 q7
  subst hd
  obtain⟨X0,hX0⟩:∃ X0,X0=B.read 0 0:=⟨_,rfl⟩
  obtain⟨X1,hX1⟩:∃ X1,X1=B.read 0 1:=⟨_,rfl⟩
  rw[← hX0,← hX1] at hg3
  have l0:ldO (some (.rows false 128 [arr2 X0 X1 2])) 0 64=some [.blk X0]:=rfl
  have l1:ldO (some (.rows false 128 [arr2 X0 X1 2])) 64 64=some [.blk X1]:=rfl
  have hgl3:=(t3.same (.run 0) h00 (fun h=>h)).trans hgl
  have nn3:=t3.next
  obtain⟨v4,G4,e4,t4,h4⟩:=umnewest hlf hgl3 (by omega) X0 X1 (K:=K) n
  have nn4:=t4.next
  have hox:openX B=match newM X0 X1 with
    | none=>none
    | some X=>if((mkG X).R:Int)≤B.sectors 0 - 10∧sealN X≤2305843009213693952∧(mkG X).first≤2305843009213693952∧(mkG X).pos≤2305843009213693952 then some X else none:=by unfold openX;rw[← hX0,← hX1]
  have b70:((7:Int)==0)=false:=rfl
  have z4:put [V.int .u64 0,.int .i64 0,.int .u64 0,.int .u64 0] 0 (mkV 0 0 0 0)=some (mkV 0 0 0 0):=rfl
  have w4:width (mkV 0 0 0 0)=4:=rfl
  rcases h4 with ⟨hX,rfl⟩ | ⟨X,hX,rfl⟩
  · rw[hX] at hox
    have t5:Turns Z G4 ((G4.add (.rows false 4 [[.int .u64 0,.int .i64 0,.int .u64 0,.int .u64 0]])).set (.run G4.next) (.rows false 4 [mkV 0 0 0 0])):=by repeat (first | exact Turns.refl _ _ | apply Turns.skip | apply Turns.addm | apply Turns.setb | apply Turns.setl | apply Turns.setr | refine Turns.setn ?_ _ (by omega) _ | refine Turns.trans ?_ (tF _))
    obtain⟨G5,hG5⟩:∃ G5,(G4.add (.rows false 4 [[.int .u64 0,.int .i64 0,.int .u64 0,.int .u64 0]])).set (.run G4.next) (.rows false 4 [mkV 0 0 0 0])=G5:=⟨_,rfl⟩
    rw[hG5] at t5
    simp (maxDischargeDepth:=12) only[q0,q1,q4,q5,q7,hg3,l0,l1,e4,z4,w4,hG5,b70,iaddrAF,idxAF,hv,ldO_one,stO_one,sy,tup,↓reduceIte,zA,zG,zC,zD,zF,zE,zB,zH,reduceCtorEq]
    rw[endD_ok (by kernel_rfl) (by kernel_rfl)]
    simp (maxDischargeDepth:=12) only[hv,ldO_one,stO_one,sy,tup,↓reduceIte,zA,zG,zC,zD,zF,zE,zB,zH,reduceCtorEq]
    have tt:=(t3.trans t4).trans t5
    exact⟨trivial,.inr trivial,_,rfl,(tt.same b bo (fun h=>h)).trans hb,tt,.inr (.inl ⟨trivial,hox,rfl⟩)⟩
  rw[hX] at hox
  obtain⟨M,hM⟩:∃ M,M=mkG X:=⟨_,rfl⟩
  obtain⟨cnt,hcnt⟩:∃ cnt,cnt=sealN X:=⟨_,rfl⟩
  rw[← hM,← hcnt] at e4
  have wM:width M.V=4:=rfl
  have pM:put [V.int .u64 0,.int .i64 0,.int .u64 0,.int .u64 0] 0 M.V=some M.V:=rfl
  have c0:cut M.V 0 1=some [.int .u64 (M.id:Int)]:=rfl
  have c1:cut M.V 1 1=some [.int .i64 (M.R:Int)]:=rfl
  have c2:cut M.V 2 1=some [.int .u64 (M.first:Int)]:=rfl
  have c3:cut M.V 3 1=some [.int .u64 (M.pos:Int)]:=rfl
  have t5:Turns Z G4 ((G4.add (.rows false 4 [[.int .u64 0,.int .i64 0,.int .u64 0,.int .u64 0]])).set (.run G4.next) (.rows false 4 [M.V])):=by repeat (first | exact Turns.refl _ _ | apply Turns.skip | apply Turns.addm | apply Turns.setb | apply Turns.setl | apply Turns.setr | refine Turns.setn ?_ _ (by omega) _ | refine Turns.trans ?_ (tF _))
  have h5:((G4.add (.rows false 4 [[.int .u64 0,.int .i64 0,.int .u64 0,.int .u64 0]])).set (.run G4.next) (.rows false 4 [M.V])).get (.run G4.next)=some (.rows false 4 [M.V]):=by rw[Heap.get_set,if_pos rfl]
  obtain⟨G5,hG5⟩:∃ G5,(G4.add (.rows false 4 [[.int .u64 0,.int .i64 0,.int .u64 0,.int .u64 0]])).set (.run G4.next) (.rows false 4 [M.V])=G5:=⟨_,rfl⟩
  have nn5:G5.next=G4.next+1:=by rw[← hG5];rfl
  rw[hG5] at t5 h5
  have tG5:=(t3.trans t4).trans t5
  have hb5:=(tG5.same b bo (fun h=>h)).trans hb
  have eS:=qSectors (lf:=lf) (K:=K) (w:=n+6) hb5 hf 0
  obtain⟨S,hS⟩:∃ S,S=B.sectors 0:=⟨_,rfl⟩
  rw[← hS] at eS hox hs
  have hS50:50≤S:=by
    rw[hS]
    unfold roomC at hc
    split at hc
    · cases hc
    · rename_i h;omega
  have wS:IntKind.i64.wrap (S - 10)=S - 10:=Go.Am.wrap_i64 (by omega)
  have h5s:(G5.skip (K+2)).get (.run G4.next)=some (.rows false 4 [M.V]):=by rw[get_skip];exact h5
  obtain⟨Q,hQ⟩:∃ Q:List (Option V × Option V),Q=[(loadF (.t (Tr.path 52)) 1 .sc (Tr.setP (Tr.path 52) (.ptr (some ⟨.run G4.next,1⟩)) .e) G5,some (.int .i64 (M.R:Int))),(loadF (.t (Tr.path 52)) 1 .sc (Tr.setP (Tr.path 52) (.ptr (some ⟨.run G4.next,1⟩)) .e) (G5.skip (K+2)),some (.int .i64 (M.R:Int)))]:=⟨_,rfl⟩
  have hQ':∀ x ∈ Q,x.1=x.2:=by
    rw[hQ]
    intro x hx
    simp only[List.mem_cons,List.not_mem_nil,or_false] at hx
    rcases hx with rfl | rfl<;>simp (maxDischargeDepth:=12) only[h5,h5s,c1,hv,ldO_one,stO_one,sy,tup,↓reduceIte,zA,zG,zC,zD,zF,zE,zB,zH,reduceCtorEq]
  have ts:Turns Z G5 (G5.skip (K+2)):=(Turns.refl Z G5).skip _
  have t6:Turns Z G ((G5.skip (K+2)).owe Q):=(tG5.trans ts).owe hQ'
  have h6:((G5.skip (K+2)).owe Q).get (.run G4.next)=some (.rows false 4 [M.V]):=by rw[get_owe];exact h5s
  obtain⟨mx,hmx,hmxL⟩:=foldV_max3 (cnt:Int) (M.first:Int) (M.pos:Int)
  obtain⟨G6,hG6⟩:∃ G6,(G5.skip (K+2)).owe Q=G6:=⟨_,rfl⟩
  have nn6:G6.next=G5.next+(K+2):=by rw[← hG6];rfl
  rw[hG6] at t6 h6
  have hb6:=(t6.same b bo (fun h=>h)).trans hb
  dsimp only at hox
  rw[← hM,← hcnt] at hox
  by_cases hRs:S - 10 < (M.R:Int)
  · have hno:openX B=none:=hox.trans (if_neg (fun h=>by omega))
    simp (maxDischargeDepth:=12) only[q0,q1,q4,q5,q7,hg3,l0,l1,e4,pM,wM,hG5,b00,h5,c1,eS,wS,hRs,iaddrAF,idxAF,hv,ldO_one,stO_one,sy,tup,↓reduceIte,zA,zG,zC,zD,zF,zE,zB,zH,reduceCtorEq]
    rw[endD_q (q:=Q) (by kernel_rfl) (by rw[hQ];kernel_rfl),hG6]
    simp (maxDischargeDepth:=12) only[hv,ldO_one,stO_one,sy,tup,↓reduceIte,zA,zG,zC,zD,zF,zE,zB,zH,reduceCtorEq]
    exact⟨trivial,.inr trivial,_,rfl,hb6,t6,.inr (.inl ⟨trivial,hno,rfl⟩)⟩
  by_cases hML:2305843009213693952 < mx
  · have hno:openX B=none:=hox.trans (if_neg (fun h=>by omega))
    simp (maxDischargeDepth:=12) only[q0,q1,q4,q5,q7,hg3,l0,l1,e4,pM,wM,hG5,b00,h5,h5s,c1,c2,c3,eS,wS,hRs,hmx,hML,foldF,iaddrAF,idxAF,hv,ldO_one,stO_one,sy,tup,↓reduceIte,zA,zG,zC,zD,zF,zE,zB,zH,reduceCtorEq]
    rw[endD_q (q:=Q) (by kernel_rfl) (by rw[hQ];kernel_rfl),hG6]
    simp (maxDischargeDepth:=12) only[hv,ldO_one,stO_one,sy,tup,↓reduceIte,zA,zG,zC,zD,zF,zE,zB,zH,reduceCtorEq]
    exact⟨trivial,.inr trivial,_,rfl,hb6,t6,.inr (.inl ⟨trivial,hno,rfl⟩)⟩
  have hyes:openX B=some X:=hox.trans (if_pos (by omega))
  have hmayM:(40≤M.R∧M.R≤256)∧M.id≠0∧1≤M.first:=by
    have:=newM_ok hlf hX
    rw[← hM] at this
    have:=of_decide_eq_true this
    omega
  have hbl:M.id < 18446744073709551616∧M.R < 65536:=by rw[hM];exact⟨bd_lt X 0,bd_lt X 8⟩
  have t7:Turns Z G6 (G6.add (.rows false 9 [lcells b M.id M.R cnt M.first M.pos M.pos (.slice none 0 0 0)])):=by repeat (first | exact Turns.refl _ _ | apply Turns.skip | apply Turns.addm | apply Turns.setb | apply Turns.setl | apply Turns.setr | refine Turns.setn ?_ _ (by omega) _ | refine Turns.trans ?_ (tF _))
  have h7:(G6.add (.rows false 9 [lcells b M.id M.R cnt M.first M.pos M.pos (.slice none 0 0 0)])).get (.run G6.next)=some (.rows false 9 [lcells b M.id M.R cnt M.first M.pos M.pos (.slice none 0 0 0)]):=by rw[Heap.get_add,if_pos rfl]
  obtain⟨G7,hG7⟩:∃ G7,G6.add (.rows false 9 [[.ptr (some ⟨b,0⟩),.int .i64 0,.int .u64 (M.id:Int),.int .i64 (M.R:Int),.int .u64 (cnt:Int),.int .u64 (M.first:Int),.int .u64 (M.pos:Int),.int .u64 (M.pos:Int),.slice none 0 0 0]])=G7:=⟨_,rfl⟩
  change Turns Z G6 (G6.add (.rows false 9 [[.ptr (some ⟨b,0⟩),.int .i64 0,.int .u64 (M.id:Int),.int .i64 (M.R:Int),.int .u64 (cnt:Int),.int .u64 (M.first:Int),.int .u64 (M.pos:Int),.int .u64 (M.pos:Int),.slice none 0 0 0]])) at t7
  change (G6.add (.rows false 9 [[.ptr (some ⟨b,0⟩),.int .i64 0,.int .u64 (M.id:Int),.int .i64 (M.R:Int),.int .u64 (cnt:Int),.int .u64 (M.first:Int),.int .u64 (M.pos:Int),.int .u64 (M.pos:Int),.slice none 0 0 0]])).get _=_ at h7
  have nn7:G7.next=G6.next+1:=by rw[← hG7];rfl
  rw[hG7] at t7 h7
  have hb7:=(t7.same b (bo.mono t6.next) (fun h=>h)).trans hb6
  have c0':cut M.V 0 1=some [.int .u64 (M.id:Int)]:=rfl
  have hloop:=ulopen_loop hlf (K:=K) (G0:=G) (l:=.run G6.next) (b:=b) (lx:=G6.next) rfl t6.next (id:=M.id) (R:=M.R) (cnt:=cnt) (first:=M.first) (tail:=M.pos) (B:=B) hf bo (by omega) (by omega) (by omega) hrc n
  simp (maxDischargeDepth:=12) only[q0,q1,q4,q5,q7,hg3,l0,l1,e4,pM,wM,hG5,b00,h5,h5s,c1,c2,c3,eS,wS,hRs,hmx,hML,foldF,iaddrAF,idxAF,hv,ldO_one,stO_one,sy,tup,↓reduceIte,zA,zG,zC,zD,zF,zE,zB,zH,reduceCtorEq]
  rw[endD_q (q:=Q) (by kernel_rfl) (by rw[hQ];kernel_rfl),hG6]
  simp (maxDischargeDepth:=12) only[q0,q1,q4,q5,h6,c0,c1,c2,c3,hG7,hv,ldO_one,stO_one,sy,tup,↓reduceIte,zA,zG,zC,zD,zF,zE,zB,zH,reduceCtorEq]
  refine wp_ctx (F:=fun r=>seqC _ _ _ (blockC _ r)) (hloop _ _ h7 (by show _ < _;omega) hb7 (t6.trans t7) ?_ ?_ ?_ ?_) ?_
  · simp (maxDischargeDepth:=12) only[q0,hv,ldO_one,stO_one,sy,tup,↓reduceIte,zA,zG,zC,zD,zF,zE,zB,zH,reduceCtorEq]
  · simp (maxDischargeDepth:=12) only[q1,hv,ldO_one,stO_one,sy,tup,↓reduceIte,zA,zG,zC,zD,zF,zE,zB,zH,reduceCtorEq]
  · simp only[sy,tup,↓reduceIte,zA,zG,zC,zD,zF,zE,zB,zH,reduceCtorEq]
  · simp only[sy,tup,↓reduceIte,zA,zG,zC,zD,zF,zE,zB,zH,reduceCtorEq]
  rintro x ⟨t,G8,d⟩ ⟨rfl,hd,q13,hb8,t8,lv,hL,hbof⟩
  dsimp only at hd q13 hb8 t8 hL
  subst hd
  simp (maxDischargeDepth:=12) only[q13,hv,ldO_one,stO_one,sy,tup,↓reduceIte,zA,zG,zC,zD,zF,zE,zB,zH,reduceCtorEq]
  rw[hM,hcnt] at hL
  exact⟨trivial,.inr trivial,_,rfl,hb8,t8,.inr (.inr ⟨trivial,X,_,lv,hyes,rfl,Heap.not_old t6.next,hbof,hL⟩)⟩
end
end Go.Proofs.YtllkepkaimnodaaGreatDoor.draft
namespace Go.Proofs.YtllkepkaimnodaaGreatDoor.draft
open Go.Am
open disk (bx Fit A1 R1 Low Bn)
section
variable {lf K:Nat} (hlf:1000 < lf)
include hlf
theorem dlopen {G:Heap} {b:Bk} (bo:G.Old b) {B:Bn} (hb:G.get b=some (bx true B)) (hf:Fit B) (htc:B.tc 0=0) (hrc:50≤B.sectors 0→∀ j:Nat,j < 10→B.rc 0 (j:Int)=0) (hs:B.sectors 0≤1000000) (hlt:∀ j:Nat,B.read 0 (j:Int) < 256 ^ 64) (n:Nat) :
    ret (U lf K (n+5) 11 [.ptr (some ⟨b,0⟩),.int .i64 0] G) fun v G'=>G'.get b=some (bx true B)∧Turns Z G G' ∧
      ((B.sectors 0 < 50∧v=.tuple [.ptr none,.int .i64 2]) ∨
       (50≤B.sectors 0∧openX B=none∧v=.tuple [.ptr none,.int .i64 5]) ∨
       (50≤B.sectors 0∧∃ X l lv,openX B=some X∧v=.tuple [.ptr (some ⟨l,0⟩),.int .i64 0]∧¬ G.Old l∧(∀ c,Bof lv c→¬ G.Old c)∧DLogAt G' l b (mkG X).id (mkG X).R (sealN X) (mkG X).first (mkG X).pos (goN (fun j=>B.read 0 (j:Int)) (mkG X).R (mkG X).first (mkG X).pos 8 [] (mkG X).pos).1 lv∧headN (mkG X).pos (goN (fun j=>B.read 0 (j:Int)) (mkG X).R (mkG X).first (mkG X).pos 8 [] (mkG X).pos).1=(goN (fun j=>B.read 0 (j:Int)) (mkG X).R (mkG X).first (mkG X).pos 8 [] (mkG X).pos).2)):=by
  have eH:=qRHas (lf:=lf) (K:=K) (w:=n+3) hb hf 0
  rw[htc] at eH
  have eS:=fun {J:Heap} (hJ:J.get b=some (bx true B))=>qRSectors (lf:=lf) (K:=K) (w:=n+3) hJ hf 0
  have eS1:=eS (J:=G.skip (K+2)) (by rw[get_skip];exact hb)
  refine ret_callU rfl rfl c11_eq ?_
  have t1:Turns Z G ((G.skip (K+2)).skip (K+2)):=by repeat (first | exact Turns.refl _ _ | apply Turns.skip | apply Turns.addm | apply Turns.setb | apply Turns.setl | apply Turns.setr | refine Turns.setn ?_ _ (by omega) _ | refine Turns.trans ?_ (tF _))
  by_cases h50:B.sectors 0 < 50
  · generalize B.sectors 0=S at *
    simp (maxDischargeDepth:=12) (disch:=omega) only[c11,eH,eS1,om,hv,ldO_one,stO_one,sy,tup,↓reduceIte,zA,zG,zC,zD,zF,zE,zB,zH,reduceCtorEq]
    exact⟨trivial,.inr trivial,_,rfl,hb,t1,.inl ⟨h50,rfl⟩⟩
  have hrc:=hrc (by omega)
  have eR:=fun {J:Heap} (hJ:J.get b=some (bx true B)) (m:Nat) (hm:m < 10)=>(hrc m hm) ▸ qRRead (lf:=lf) (K:=K) (w:=n+3) hJ hf 0 (m:Int)
  obtain⟨G1,hG1⟩:∃ X,(G.skip (K+2)).skip (K+2)=X:=⟨_,rfl⟩
  have n1:G1.next=G.next+(K+2)+(K+2):=by rw[← hG1];rfl
  rw[hG1] at t1
  have hb1:=(t1.same b bo (fun h=>h)).trans hb
  have e1:U lf K (n+4) 48 [.ptr (some ⟨b,0⟩),.int .i64 0,.int .i64 0] G1=some (.v (.tuple [.blk (B.read 0 0),.int .i64 0]),G1.skip (K+2)):=eR hb1 0 (by omega)
  obtain⟨X0,hX0⟩:∃ X0,X0=B.read 0 0:=⟨_,rfl⟩
  obtain⟨X1,hX1⟩:∃ X1,X1=B.read 0 1:=⟨_,rfl⟩
  rw[← hX0] at e1
  obtain⟨p6,hp6⟩:∃ p,p=G1.next+(K+2):=⟨_,rfl⟩
  have t2:Turns Z G1 (((G1.skip (K+2)).add (.rows false 64 [[.blk 0]])).set (.run p6) (.rows false 64 [[.blk X0]])):=by rw[hp6];repeat (first | exact Turns.refl _ _ | apply Turns.skip | apply Turns.addm | apply Turns.setb | apply Turns.setl | apply Turns.setr | refine Turns.setn ?_ _ (by omega) _ | refine Turns.trans ?_ (tF _))
  have h2:(((G1.skip (K+2)).add (.rows false 64 [[.blk 0]])).set (.run p6) (.rows false 64 [[.blk X0]])).get (.run p6)=some (.rows false 64 [[.blk X0]]):=by rw[Heap.get_set,if_pos rfl]
  obtain⟨G2,hG2⟩:∃ X,((G1.skip (K+2)).add (.rows false 64 [[.blk 0]])).set (.run p6) (.rows false 64 [[.blk X0]])=X:=⟨_,rfl⟩
  have n2:G2.next=p6+1:=by rw[← hG2,hp6];rfl
  rw[hG2] at t2 h2
  have hb2:=((t1.trans t2).same b bo (fun h=>h)).trans hb
  have e2:U lf K (n+4) 48 [.ptr (some ⟨b,0⟩),.int .i64 0,.int .i64 1] G2=some (.v (.tuple [.blk (B.read 0 1),.int .i64 0]),G2.skip (K+2)):=eR hb2 1 (by omega)
  rw[← hX1] at e2
  obtain⟨p8,hp8⟩:∃ p,p=G2.next+(K+2):=⟨_,rfl⟩
  have t3:Turns Z G2 (((G2.skip (K+2)).add (.rows false 64 [[.blk 0]])).set (.run p8) (.rows false 64 [[.blk X1]])):=by rw[hp8];repeat (first | exact Turns.refl _ _ | apply Turns.skip | apply Turns.addm | apply Turns.setb | apply Turns.setl | apply Turns.setr | refine Turns.setn ?_ _ (by omega) _ | refine Turns.trans ?_ (tF _))
  have h3:(((G2.skip (K+2)).add (.rows false 64 [[.blk 0]])).set (.run p8) (.rows false 64 [[.blk X1]])).get (.run p8)=some (.rows false 64 [[.blk X1]]):=by rw[Heap.get_set,if_pos rfl]
  obtain⟨G3,hG3⟩:∃ X,((G2.skip (K+2)).add (.rows false 64 [[.blk 0]])).set (.run p8) (.rows false 64 [[.blk X1]])=X:=⟨_,rfl⟩
  rw[hG3] at t3 h3
  have h23:=(t3.same (.run p6) (by show _ < _;omega) (fun h=>h)).trans h2
  have nn3:=t3.next
  obtain⟨v4,G4,e4,t4,h4⟩:=dunewest hlf G3 X0 X1 (K:=K) (n+2)
  have tG4:=((t1.trans t2).trans t3).trans t4
  have hox:openX B=match newM X0 X1 with
    | none=>none
    | some X=>if((mkG X).R:Int)≤B.sectors 0 - 10∧sealN X≤2305843009213693952∧(mkG X).first≤2305843009213693952∧(mkG X).pos≤2305843009213693952 then some X else none:=by unfold openX;first | (rw[← hX0,← hX1];done) | (rw[← hX0,← hX1];rfl)
  have w0:width mk0=4:=rfl
  have z0:put mk0 0 mk0=some mk0:=rfl
  obtain⟨p10,hp10⟩:∃ p,p=G4.next:=⟨_,rfl⟩
  rcases h4 with ⟨hX,rfl⟩ | ⟨X,hX,rfl⟩
  · rw[hX] at hox
    have t5:Turns Z G4 ((G4.add (.rows false 4 [mk0])).set (.run p10) (.rows false 4 [mk0])):=by rw[hp10];repeat (first | exact Turns.refl _ _ | apply Turns.skip | apply Turns.addm | apply Turns.setb | apply Turns.setl | apply Turns.setr | refine Turns.setn ?_ _ (by omega) _ | refine Turns.trans ?_ (tF _))
    obtain⟨G5,hG5⟩:∃ X,(G4.add (.rows false 4 [mk0])).set (.run p10) (.rows false 4 [mk0])=X:=⟨_,rfl⟩
    rw[hG5] at t5
    have tG5:=tG4.trans t5
    have hb5:=(tG5.same b bo (fun h=>h)).trans hb
    generalize B.sectors 0=S at *
    simp (maxDischargeDepth:=12) (disch:=omega) only[c11,eH,eS1,hG1,e1,← hp6,hG2,e2,← hp8,hG3,h23,h3,Dh,e4,w0,z0,← hp10,hG5,om,hv,ldO_one,stO_one,sy,tup,↓reduceIte,zA,zG,zC,zD,zF,zE,zB,zH,reduceCtorEq]
    rw[endD_ok (by kernel_rfl) (by kernel_rfl)]
    simp (maxDischargeDepth:=12) (disch:=omega) only[om,hv,ldO_one,stO_one,sy,tup,↓reduceIte,zA,zG,zC,zD,zF,zE,zB,zH,reduceCtorEq]
    exact⟨trivial,.inr trivial,_,rfl,hb5,tG5,.inr (.inl ⟨by omega,hox,rfl⟩)⟩
  rw[hX] at hox
  dsimp only at hox
  have hmayM:(40≤(mkG X).R∧(mkG X).R≤256)∧(mkG X).id≠0∧1≤(mkG X).first:=by
    have:=of_decide_eq_true (newM_ok hlf hX)
    omega
  obtain⟨M,hM⟩:∃ M,M=mkG X:=⟨_,rfl⟩
  obtain⟨cnt,hcnt⟩:∃ cnt,cnt=sealN X:=⟨_,rfl⟩
  rw[← hM] at hmayM
  rw[← hM,← hcnt] at e4 hox
  have wM:width M.V=4:=rfl
  have pM:put mk0 0 M.V=some M.V:=rfl
  have c0:cut M.V 0 1=some [.int .u64 (M.id:Int)]:=rfl
  have c1:cut M.V 1 1=some [.int .i64 (M.R:Int)]:=rfl
  have c2:cut M.V 2 1=some [.int .u64 (M.first:Int)]:=rfl
  have c3:cut M.V 3 1=some [.int .u64 (M.pos:Int)]:=rfl
  have t5:Turns Z G4 ((G4.add (.rows false 4 [mk0])).set (.run p10) (.rows false 4 [M.V])):=by rw[hp10];repeat (first | exact Turns.refl _ _ | apply Turns.skip | apply Turns.addm | apply Turns.setb | apply Turns.setl | apply Turns.setr | refine Turns.setn ?_ _ (by omega) _ | refine Turns.trans ?_ (tF _))
  have h5:((G4.add (.rows false 4 [mk0])).set (.run p10) (.rows false 4 [M.V])).get (.run p10)=some (.rows false 4 [M.V]):=by rw[Heap.get_set,if_pos rfl]
  obtain⟨G5,hG5⟩:∃ X,(G4.add (.rows false 4 [mk0])).set (.run p10) (.rows false 4 [M.V])=X:=⟨_,rfl⟩
  rw[hG5] at t5 h5
  have tG5:=tG4.trans t5
  have hb5:=(tG5.same b bo (fun h=>h)).trans hb
  have eS5:=eS hb5
  obtain⟨S,hS⟩:∃ S,S=B.sectors 0:=⟨_,rfl⟩
  rw[← hS] at eS1 eS5 hox hs h50 ⊢
  have hQ:∀ x ∈ [lq 53 ⟨.run p10,1⟩ (.int .i64 (M.R:Int)) G5,lq 53 ⟨.run p10,1⟩ (.int .i64 (M.R:Int)) (G5.skip (K+2))],x.1=x.2:=by
    intro x hx
    simp only[List.mem_cons,List.not_mem_nil,or_false] at hx
    rcases hx with rfl | rfl<;>refine lq_ok ?_ rfl<;>simp (maxDischargeDepth:=12) (disch:=omega) only[h5,c1,om,hv,ldO_one,stO_one,sy,tup,↓reduceIte,zA,zG,zC,zD,zF,zE,zB,zH,reduceCtorEq]
  obtain⟨G6,hG6⟩:∃ X,(G5.skip (K+2)).owe [lq 53 ⟨.run p10,1⟩ (.int .i64 (M.R:Int)) G5,lq 53 ⟨.run p10,1⟩ (.int .i64 (M.R:Int)) (G5.skip (K+2))]=X:=⟨_,rfl⟩
  have t6:Turns Z G G6:=by rw[← hG6];exact(tG5.trans ((Turns.refl Z G5).skip _)).owe hQ
  have h6:G6.get (.run p10)=some (.rows false 4 [M.V]):=by rw[← hG6,get_owe,get_skip];exact h5
  have hb6:=(t6.same b bo (fun h=>h)).trans hb
  by_cases hall:(M.R:Int)≤S - 10∧cnt≤2305843009213693952∧M.first≤2305843009213693952∧M.pos≤2305843009213693952
  rotate_left
  · have hno:openX B=none:=hox.trans (if_neg hall)
    have hc:¬ (M.R:Int)≤S - 10∨((M.R:Int)≤S - 10∧(¬ cnt≤2305843009213693952∨(cnt≤2305843009213693952∧(¬ M.first≤2305843009213693952∨(M.first≤2305843009213693952∧¬ M.pos≤2305843009213693952))))):=by omega
    rcases hc with hc | ⟨ha,hc | ⟨ha2,hc | ⟨ha3,hc⟩⟩⟩
    all_goals
      simp (maxDischargeDepth:=12) (disch:=omega) only[c11,eH,eS1,hG1,e1,← hp6,hG2,e2,← hp8,hG3,h23,h3,Dh,e4,wM,pM,← hp10,hG5,h5,c1,c2,c3,eS5,om,hv,ldO_one,stO_one,sy,tup,↓reduceIte,zA,zG,zC,zD,zF,zE,zB,zH,reduceCtorEq]
      rw[endD_q (q:=[lq 53 ⟨.run p10,1⟩ (.int .i64 (M.R:Int)) G5,lq 53 ⟨.run p10,1⟩ (.int .i64 (M.R:Int)) (G5.skip (K+2))]) (by kernel_rfl) (by kernel_rfl),hG6]
      simp (maxDischargeDepth:=12) (disch:=omega) only[om,hv,ldO_one,stO_one,sy,tup,↓reduceIte,zA,zG,zC,zD,zF,zE,zB,zH,reduceCtorEq]
      exact⟨trivial,.inr trivial,_,rfl,hb6,t6,.inr (.inl ⟨by omega,hno,rfl⟩)⟩
  have hyes:openX B=some X:=hox.trans (if_pos hall)
  obtain⟨ha1,ha2,ha3,ha4⟩:=hall
  obtain⟨p11,hp11⟩:∃ p,p=G6.next:=⟨_,rfl⟩
  have t7:Turns Z G6 (G6.add (.rows false 8 [dcells b M.id M.R cnt M.first M.pos (.slice none 0 0 0)])):=by repeat (first | exact Turns.refl _ _ | apply Turns.skip | apply Turns.addm | apply Turns.setb | apply Turns.setl | apply Turns.setr | refine Turns.setn ?_ _ (by omega) _ | refine Turns.trans ?_ (tF _))
  have h7:(G6.add (.rows false 8 [dcells b M.id M.R cnt M.first M.pos (.slice none 0 0 0)])).get (.run p11)=some (.rows false 8 [dcells b M.id M.R cnt M.first M.pos (.slice none 0 0 0)]):=by rw[hp11,Heap.get_add,if_pos rfl]
  obtain⟨G7,hG7⟩:∃ X,G6.add (.rows false 8 [dcells b M.id M.R cnt M.first M.pos (.slice none 0 0 0)])=X:=⟨_,rfl⟩
  have n7:G7.next=p11+1:=by rw[← hG7,hp11];rfl
  rw[hG7] at t7 h7
  have hb7:=(t7.same b (bo.mono t6.next) (fun h=>h)).trans hb6
  have hloop:=dlopen_loop hlf (K:=K) (G0:=G) (l:=.run p11) (b:=b) (lx:=p11) rfl (by rw[hp11];exact t6.next) (id:=M.id) (R:=M.R) (cnt:=cnt) (first:=M.first) (tail:=M.pos) (B:=B) hf bo (by omega) (by omega) (by omega) hrc hlt n
  simp (maxDischargeDepth:=12) (disch:=omega) only[c11,eH,eS1,hG1,e1,← hp6,hG2,e2,← hp8,hG3,h23,h3,Dh,e4,wM,pM,← hp10,hG5,h5,c1,c2,c3,eS5,om,hv,ldO_one,stO_one,sy,tup,↓reduceIte,zA,zG,zC,zD,zF,zE,zB,zH,reduceCtorEq]
  rw[endD_q (q:=[lq 53 ⟨.run p10,1⟩ (.int .i64 (M.R:Int)) G5,lq 53 ⟨.run p10,1⟩ (.int .i64 (M.R:Int)) (G5.skip (K+2))]) (by kernel_rfl) (by kernel_rfl),hG6]
  simp (maxDischargeDepth:=12) (disch:=omega) only[h6,c0,c1,c2,c3,← hp11,hG7,om,hv,ldO_one,stO_one,sy,tup,↓reduceIte,zA,zG,zC,zD,zF,zE,zB,zH,reduceCtorEq]
  refine wp_ctx (F:=fun r=>seqC _ _ _ (blockC _ r)) (hloop _ _ h7 (by show _ < _;omega) hb7 (t6.trans t7) ?_ ?_ ?_) ?_
  · simp only[sy,tup,↓reduceIte,zA,zG,zC,zD,zF,zE,zB,zH,reduceCtorEq]
  · simp only[sy,tup,↓reduceIte,zA,zG,zC,zD,zF,zE,zB,zH,reduceCtorEq]
  · simp only[sy,tup,↓reduceIte,zA,zG,zC,zD,zF,zE,zB,zH,reduceCtorEq]
  rintro x ⟨t,G8,d⟩ ⟨hd,hx,hb8,t8,lv,hL,hh,hbof⟩
  dsimp only at hd hx hb8 t8 hL
  subst hd
  have hres:G8.get b=some (bx true B)∧Turns Z G G8∧((S < 50∧V.tuple [.ptr (some ⟨.run p11,0⟩),.int .i64 0]=.tuple [.ptr none,.int .i64 2])∨(50≤S∧openX B=none∧V.tuple [.ptr (some ⟨.run p11,0⟩),.int .i64 0]=.tuple [.ptr none,.int .i64 5])∨(50≤S∧∃ X l lv,openX B=some X∧V.tuple [.ptr (some ⟨.run p11,0⟩),.int .i64 0]=.tuple [.ptr (some ⟨l,0⟩),.int .i64 0]∧¬ G.Old l∧(∀ c,Bof lv c→¬ G.Old c)∧DLogAt G8 l b (mkG X).id (mkG X).R (sealN X) (mkG X).first (mkG X).pos (goN (fun j=>B.read 0 (j:Int)) (mkG X).R (mkG X).first (mkG X).pos 8 [] (mkG X).pos).1 lv∧headN (mkG X).pos (goN (fun j=>B.read 0 (j:Int)) (mkG X).R (mkG X).first (mkG X).pos 8 [] (mkG X).pos).1=(goN (fun j=>B.read 0 (j:Int)) (mkG X).R (mkG X).first (mkG X).pos 8 [] (mkG X).pos).2)):=by
    rw[hM,hcnt] at hL
    rw[hM] at hh
    exact⟨hb8,t8,.inr (.inr ⟨by omega,X,_,lv,hyes,rfl,Heap.not_old (by rw[hp11];exact t6.next),hbof,hL,hh⟩)⟩
  rcases hx with ⟨rfl,q11⟩ | ⟨rfl,q4,q5⟩
  · simp (maxDischargeDepth:=12) (disch:=omega) only[q11,om,hv,ldO_one,stO_one,sy,tup,↓reduceIte,zA,zG,zC,zD,zF,zE,zB,zH,reduceCtorEq]
    exact⟨trivial,.inr trivial,_,rfl,hres⟩
  · simp (maxDischargeDepth:=12) (disch:=omega) only[q4,q5,om,hv,ldO_one,stO_one,sy,tup,↓reduceIte,zA,zG,zC,zD,zF,zE,zB,zH,reduceCtorEq]
    exact⟨trivial,.inr trivial,_,rfl,hres⟩
end
end Go.Proofs.YtllkepkaimnodaaGreatDoor.draft
namespace Go.Proofs.YtllkepkaimnodaaGreatDoor.draft
open Go.Am
open disk (bx Fit A1 R1 Low Bn)
noncomputable def c3_l0:C:=.seq (.seq (.reg [
 mv 83 15,
 qo 84 (.p (arF .lss (tt 83) (ii 10))) [pp 83]]) (
 .cond (tt 84) (.skip) (.exit 2))) (
 .seq (.block 3 (.seq (.reg [
 mv 87 14,
 mv 88 15,
 qo 89 (.p (convF .u64 (tt 88))) [pp 88],
 qo 90 (.p (buildF [.int .i64 0,.int .i64 0,.slice none 0 0 0,.int .u64 0,.bool false,.int .i64 0,.int .i64 0,.int .u8 0,.slice none 0 0 0] .ag [(0,1,(ii 1)),(3,1,(tt 89)),(4,1,(.c (.bool true)))])) [pp 89],
 qo 91 (.c (callF (ff 13) [(tt 87),(tt 90)])) [pp 87,pp 90],
 qo 92 (.p (unF .not (tt 91))) [pp 91]]) (
 .cond (tt 92) (.seq (.reg [
 qo 4 (.p (S.get (.c (.bool false)))) []]) (
 .ret)) (.skip)))) (
 .reg [
 mv 85 15,
 qo 86 (.p (arF .add (tt 85) (ii 1))) [pp 85],
 mv 15 86]))
noncomputable def c3_l1:C:=.seq (.seq (.reg [
 mv 27 8,
 mv 28 1,
 qo 29 (.p (lenF (tt 28))) [pp 28],
 qo 30 (.p (arF .lss (tt 27) (tt 29))) [pp 27,pp 29],
 mv 31 30,
 mg 32 8 31 true,
 qg 33 (.p (arF .lss (tt 32) (ii 60))) 31 true [pp 32],
 qo 34 (.p (pickF (tt 31) (tt 33) (.c (.bool false)))) [pp 31,pp 33]]) (
 .cond (tt 34) (.skip) (.exit 0))) (
 .seq (.block 1 (.seq (.reg [
 mv 37 1,
 mv 38 8,
 qo 39 (.p (iaddrSF (tt 37) (tt 38) 75)) [pp 37,pp 38],
 qo 40 (.r (loadF (tt 39) 75 .ag)) [pp 39],
 qo 41 (.c (callF (ff 7) [(tt 40)])) [pp 40],
 qo 9 (.m (allocF 64 [.blk 0])) [],
 qn (.a (storeF (tt 9) (tt 41) 64)) [pp 9,pp 41]]) (
 .seq (.regD [
 mv 42 5,
 mv 43 1,
 mv 44 8,
 qo 45 (.p (iaddrSF (tt 43) (tt 44) 75)) [pp 43,pp 44],
 qo 46 (.p (faddrF (tt 45) 1)) [pp 45],
 qo 47 (.r (loadF (tt 46) 1 .sc)) [pp 46],
 qo 48 (.r (loadF (tt 9) 64 .bk)) [pp 9],
 qo 49 (.c (callF (ff 8) [(tt 42),(ii 0),(tt 47),(tt 48)])) [pp 42,pp 47,pp 48],
 mv 50 6,
 mv 51 1,
 mv 52 8,
 qo 53 (.p (iaddrSF (tt 51) (tt 52) 75)) [pp 51,pp 52],
 qo 54 (.p (faddrF (tt 53) 1)) [pp 53],
 qo 55 (.r (loadF (tt 54) 1 .sc)) [pp 54],
 qo 56 (.r (loadF (tt 9) 64 .bk)) [pp 9],
 qo 57 (.c (callF (ff 9) [(tt 50),(ii 0),(tt 55),(tt 56)])) [pp 50,pp 55,pp 56],
 qo 58 (.p (eqcF true false [.int .i64] (tt 49) (tt 57))) [pp 49,pp 57]] [0,0,0,6,14,30,0,127,0,0,0,1536,3584,7680,0,32767,65535]) (
 .cond (tt 58) (.seq (.reg [
 qo 4 (.p (S.get (.c (.bool false)))) []]) (
 .ret)) (.skip))))) (
 .reg [
 mv 35 8,
 qo 36 (.p (arF .add (tt 35) (ii 1))) [pp 35],
 mv 8 36]))
noncomputable def c3:CFn:=⟨[.tmp (pp 4)],
 .seq (.reg [
 qo 4 (.p (S.get (.c (.bool false)))) []]) (
 .seq (.reg [
 mv 17 0,
 qo 18 (.p (arF .rem (tt 17) (.c (.int .u16 320)))) [pp 17],
 qo 19 (.p (convF .i64 (tt 18))) [pp 18],
 qo 20 (.p (arF .add (ii 1) (tt 19))) [pp 19],
 qo 21 (.c (callF (ff 6) [(tt 20)])) [pp 20],
 mv 16 21,
 qo 22 (.p (extF (tt 16) 0)) [pp 16],
 qo 23 (.p (extF (tt 16) 1)) [pp 16],
 qo 24 (.p (extF (tt 16) 2)) [pp 16],
 mv 5 22,
 mv 6 23,
 mv 7 24]) (
 .seq (.seq (.reg [
 mv 25 7,
 qo 26 (.p (unF .not (tt 25))) [pp 25]]) (
 .cond (tt 26) (.seq (.reg [
 qo 4 (.p (S.get (.c (.bool false)))) []]) (
 .ret)) (.skip))) (
 .seq (.seq (.reg [
 qo 8 (.p (S.get (ii 0))) []]) (
 .block 0 (.loop c3_l1))) (
 .seq (.reg [
 mv 60 5,
 qo 61 (.c (callF (ff 10) [(tt 60),(ii 0)])) [pp 60],
 mv 59 61,
 qo 62 (.p (extF (tt 59) 0)) [pp 59],
 qo 63 (.p (extF (tt 59) 1)) [pp 59],
 mv 10 62,
 mv 11 63]) (
 .seq (.reg [
 mv 65 6,
 qo 66 (.c (callF (ff 11) [(tt 65),(ii 0)])) [pp 65],
 mv 64 66,
 qo 67 (.p (extF (tt 64) 0)) [pp 64],
 qo 68 (.p (extF (tt 64) 1)) [pp 64],
 mv 12 67,
 mv 13 68]) (
 .seq (.reg [
 mv 69 5,
 mv 70 6,
 mv 71 10,
 mv 72 12,
 qo 73 (.p (buildF [.ptr none,.ptr none,.ptr none,.ptr none] .ag [(0,1,(tt 69)),(1,1,(tt 70)),(2,1,(tt 71)),(3,1,(tt 72))])) [pp 69,pp 70,pp 71,pp 72],
 qo 74 (.m (boxF 4 (tt 73))) [pp 73],
 mv 14 74]) (
 .seq (.seq (.reg [
 mv 75 11,
 mv 76 13,
 qo 77 (.p (eqcF true false [.int .i64] (tt 75) (tt 76))) [pp 75,pp 76],
 mv 78 77,
 mg 79 14 78 false,
 qg 80 (.c (callF (ff 12) [(tt 79)])) 78 false [pp 79],
 qg 81 (.p (unF .not (tt 80))) 78 false [pp 80],
 qo 82 (.p (pickF (tt 78) (.c (.bool true)) (tt 81))) [pp 78,pp 81]]) (
 .cond (tt 82) (.seq (.reg [
 qo 4 (.p (S.get (.c (.bool false)))) []]) (
 .ret)) (.skip))) (
 .seq (.seq (.reg [
 qo 15 (.p (S.get (ii 0))) []]) (
 .block 2 (.loop c3_l0))) (
 .seq (.reg [
 qo 93 (.c (callF (ff 14) [])) [],
 mv 4 93]) (
 .ret))))))))))⟩
theorem c3_eq:fnOf Tryz.prog 3=some c3:=by kernel_rfl
noncomputable def lqb (i:Nat) (p:Ptr) (x:Nat) (H:Heap):Option V × Option V:=(loadF (.t (Tr.path i)) 64 .bk (Tr.setP (Tr.path i) (.ptr (some p)) .e) H,some (.blk x))
theorem lqb_ok {i:Nat} {p:Ptr} {x:Nat} {H:Heap} (h:loadAt H p 64=some [.blk x]):(lqb i p x H).1=(lqb i p x H).2:=by
 show loadF (.t (Tr.path i)) 64 .bk (Tr.setP (Tr.path i) (.ptr (some p)) .e) H=some (.blk x)
 have e:(S.t (Tr.path i)).get (Tr.setP (Tr.path i) (V.ptr (some p)) .e)=some (.ptr (some p)):=by rw[Bt,Bv,if_pos rfl]
 unfold loadF
 rw[e]
 show (loadAt H p 64).bind _=_
 rw[h]
 rfl
structure SptsAt (H:Heap) (pp:Option Ptr) (L:List Spt):Prop where
 has:L≠[]→∃ x ox ro rows,pp=some ⟨x,ox*75⟩∧H.Old x∧H.get x=some (.rows ro 75 rows)∧∀ i,(hi:i < L.length)→rows[ox+i]?=some L[i].row
 ok:∀ s ∈ L,s.ok
theorem SptsAt.turns {H H':Heap} {pp:Option Ptr} {L:List Spt} (h:SptsAt H pp L) (k:Turns Z H H'):SptsAt H' pp L:=⟨fun e=>by
 obtain⟨x,ox,ro,rows,hp,ho,hg,hr⟩:=h.has e
 exact⟨x,ox,ro,rows,hp,ho.mono k.next,(k.same x ho (fun h=>h)).trans hg,hr⟩,h.ok⟩
theorem SptsAt.load {H:Heap} {pp:Option Ptr} {L:List Spt} (h:SptsAt H pp L) {i:Nat} (hi:i < L.length):∃ x ox,pp=some ⟨x,ox*75⟩∧H.Old x∧∀ {J:Heap},Turns Z H J→ldO (J.get x) (ox*75+i*75) 75=some L[i].row∧ldO (J.get x) (ox*75+i*75+1) 1=some [.int .i64 L[i].n]:=by
 obtain⟨x,ox,ro,rows,hp,ho,hg,hr⟩:=h.has (fun e=>by rw[e] at hi;simp at hi)
 refine⟨x,ox,hp,ho,fun {J} k=>?_⟩
 have hg:=(k.same x ho (fun h=>h)).trans hg
 constructor
 ·show loadAt J ⟨x,ox*75+i*75⟩ 75=_
  have e1:(ox*75+i*75) / 75=ox+i:=by omega
  have e2:(ox*75+i*75) % 75=0:=by omega
  rw[loadAt_eq hg (r:=L[i].row) (nth_of (by rw[e1];exact hr i hi)),e2]
  rfl
 ·show loadAt J ⟨x,ox*75+i*75+1⟩ 1=_
  have e1:(ox*75+i*75+1) / 75=ox+i:=by omega
  have e2:(ox*75+i*75+1) % 75=1:=by omega
  rw[loadAt_eq hg (r:=L[i].row) (nth_of (by rw[e1];exact hr i hi)),e2]
  rfl
section
variable {lf K:Nat} (hlf:1000 < lf)
include hlf
theorem dopens_writes {G0:Heap} {pp:Option Ptr} {L:List Spt} {pc po:Nat} (hL:SptsAt G0 pp L) {b r:Bk} (bn:¬ G0.Old b) (rn:¬ G0.Old r) (br:b≠r) {s:Nat} (n:Nat):∀(t:T) (G:Heap) (B:Bn),TB s 900 B→G.get b=some (bx false B)→G.get r=some (bx true B)→G.Old b→G.Old r→Turns Z G0 G→t.getP (Tr.path 1)=some (.slice pp L.length pc po)→t.getP (Tr.path 5)=some (.ptr (some ⟨b,0⟩))→t.getP (Tr.path 6)=some (.ptr (some ⟨r,0⟩))→t.getP (Tr.path 8)=some (.int .i64 0) →
  wp (loopF (runC (U lf K (n+2)) lf c3_l1) lf ⟨t,G,[]⟩) fun x u=>x=.ex 0∧u.d=[]∧u.t.getP (Tr.path 5)=some (.ptr (some ⟨b,0⟩))∧u.t.getP (Tr.path 6)=some (.ptr (some ⟨r,0⟩))∧∃ B,TB s 840 B∧u.H.get b=some (bx false B)∧u.H.get r=some (bx true B)∧u.H.Old b∧u.H.Old r∧Turns Z G0 u.H:=by
 intro t G B hB hb hr ob or' hT q1 q5 q6 q8
 refine wp_loopF (fun m u=>∃(i:Nat) (B:Bn),m=60 - i∧i≤60∧u.d=[]∧TB s (900 - i) B∧u.H.get b=some (bx false B)∧u.H.get r=some (bx true B)∧u.H.Old b∧u.H.Old r∧Turns Z G0 u.H∧u.t.getP (Tr.path 1)=some (.slice pp L.length pc po)∧u.t.getP (Tr.path 5)=some (.ptr (some ⟨b,0⟩))∧u.t.getP (Tr.path 6)=some (.ptr (some ⟨r,0⟩))∧u.t.getP (Tr.path 8)=some (.int .i64 (i:Int)))
  ?_ lf 60 _ ⟨0,B,rfl,by omega,rfl,hB,hb,hr,ob,or',hT,q1,q5,q6,q8⟩ (by omega)
 rintro m ⟨t,H,d⟩ ⟨i,B,rfl,hi,hd,hB,hb,hr,ob,or',hT,q1,q5,q6,q8⟩
 dsimp only at hd hb hr ob or' hT q1 q5 q6 q8
 subst hd
 by_cases h1:i < L.length
 rotate_left
 ·simp (maxDischargeDepth:=12) (disch:=omega) only[c3_l1,q1,q8,om,hv,ldO_one,stO_one,sy,tup,↓reduceIte,zA,zG,zC,zD,zF,zE,zB,zH,reduceCtorEq]
  exact⟨trivial,trivial,by simp[q5],by simp[q6],B,hB.mono (by omega),hb,hr,ob,or',hT⟩
 by_cases h2:i < 60
 rotate_left
 ·simp (maxDischargeDepth:=12) (disch:=omega) only[c3_l1,q1,q8,om,hv,ldO_one,stO_one,sy,tup,↓reduceIte,zA,zG,zC,zD,zF,zE,zB,zH,reduceCtorEq]
  exact⟨trivial,trivial,by simp[q5],by simp[q6],B,hB.mono (by omega),hb,hr,ob,or',hT⟩
 obtain⟨x,ox,rfl,xo,hx⟩:=hL.load h1
 obtain⟨e75,_⟩:=hx hT
 have hsp:=hL.ok L[i] (List.getElem_mem h1)
 obtain⟨v1,H1,e1,rfl,t1⟩:=dspot hlf (K:=K) H hsp n
 have hbl:=Spt.blk_lt hlf hsp
 obtain⟨X,hX⟩:∃ X,X=L[i].blk:=⟨_,rfl⟩
 rw[← hX] at e1 hbl
 obtain⟨a,ha⟩:∃ a,a=ox*75+i*75:=⟨_,rfl⟩
 have hx2:∀ {J:Heap},Turns Z G0 J→ldO (J.get x) (a+1) 1=some [.int .i64 L[i].n]:=fun {J} k=>by rw[ha];exact(hx k).2
 rw[← ha] at e75
 generalize L[i].row=row at *
 generalize L[i].n=nn at *
 obtain⟨p9,hp9⟩:∃ p,p=H1.next:=⟨_,rfl⟩
 have t2:Turns Z H1 ((H1.add (.rows false 64 [[.blk 0]])).set (.run p9) (.rows false 64 [[.blk X]])):=by rw[hp9];repeat (first | exact Turns.refl _ _ | apply Turns.skip | apply Turns.addm | apply Turns.setb | apply Turns.setl | apply Turns.setr | refine Turns.setn ?_ _ (by omega) _ | refine Turns.trans ?_ (tF _))
 have g2:((H1.add (.rows false 64 [[.blk 0]])).set (.run p9) (.rows false 64 [[.blk X]])).get (.run p9)=some (.rows false 64 [[.blk X]]):=by rw[Heap.get_set,if_pos rfl]
 obtain⟨H2,hH2⟩:∃ Y,(H1.add (.rows false 64 [[.blk 0]])).set (.run p9) (.rows false 64 [[.blk X]])=Y:=⟨_,rfl⟩
 have n2:H2.next=p9+1:=by rw[← hH2,hp9];rfl
 rw[hH2] at t2 g2
 have t12:=t1.trans t2
 have hb2:=(t12.same b ob (fun h=>h)).trans hb
 have hr2:=(t12.same r or' (fun h=>h)).trans hr
 have hf:=(hB.mono (j:=0) (by omega)).rm.fit
 have hB':TB s (900 - (i+1)) (B.write 0 nn X):=(show TB s ((900 - (i+1))+1) B from hB.mono (by omega)).write nn hbl
 have eW:=qWrite (lf:=lf) (K:=K) (w:=n+1) hb2 hf 0 nn X
 obtain⟨B',hBd⟩:∃ B',B'=B.write 0 nn X:=⟨_,rfl⟩
 rw[← hBd] at eW hB'
 have pb:¬ (b=.run p9):=fun e=>by rw[e] at ob;have:p9 < H.next:=ob;have:=t1.next;omega
 have pr:¬ (r=.run p9):=fun e=>by rw[e] at or';have:p9 < H.next:=or';have:=t1.next;omega
 have tG2:=hT.trans t12
 have t3:Turns Z G0 ((H2.set b (bx false B')).skip (K+2)):=(tG2.put (.inr bn) _).skip _
 have gb3:((H2.set b (bx false B')).skip (K+2)).get b=some (bx false B'):=by rw[get_skip,Heap.get_set,if_pos rfl]
 have gr3:((H2.set b (bx false B')).skip (K+2)).get r=some (bx true B):=by rw[get_skip,Heap.get_set,if_neg (fun e=>br e.symm)];exact hr2
 have g3:((H2.set b (bx false B')).skip (K+2)).get (.run p9)=some (.rows false 64 [[.blk X]]):=by rw[get_skip,Heap.get_set,if_neg (fun e=>pb e.symm)];exact g2
 have nx3:H2.next≤((H2.set b (bx false B')).skip (K+2)).next:=by show H2.next≤H2.next+(K+2);omega
 obtain⟨H3,hH3⟩:∃ Y,(H2.set b (bx false B')).skip (K+2)=Y:=⟨_,rfl⟩
 rw[hH3] at eW t3 gb3 gr3 g3 nx3
 have eR:=qRWrite (lf:=lf) (K:=K) (w:=n+1) gr3 hf 0 nn X
 rw[← hBd] at eR
 have t4:Turns Z G0 ((H3.set r (bx true B')).skip (K+2)):=(t3.put (.inr rn) _).skip _
 have gr4:((H3.set r (bx true B')).skip (K+2)).get r=some (bx true B'):=by rw[get_skip,Heap.get_set,if_pos rfl]
 have gb4:((H3.set r (bx true B')).skip (K+2)).get b=some (bx false B'):=by rw[get_skip,Heap.get_set,if_neg br];exact gb3
 have nx4:H3.next≤((H3.set r (bx true B')).skip (K+2)).next:=by show H3.next≤H3.next+(K+2);omega
 obtain⟨H4,hH4⟩:∃ Y,(H3.set r (bx true B')).skip (K+2)=Y:=⟨_,rfl⟩
 rw[hH4] at eR t4 gr4 gb4 nx4
 have x2:=hx2 tG2
 have x3:=hx2 t3
 have hQ:∀ y ∈ [lq 54 ⟨x,a+1⟩ (.int .i64 nn) H2,lq 54 ⟨x,a+1⟩ (.int .i64 nn) H3,lqb 9 ⟨.run p9,0⟩ X H2,lqb 9 ⟨.run p9,0⟩ X H3],y.1=y.2:=by
  intro y hy
  simp only[List.mem_cons,List.not_mem_nil,or_false] at hy
  rcases hy with rfl | rfl | rfl | rfl
  ·refine lq_ok ?_ rfl;exact x2
  ·refine lq_ok ?_ rfl;exact x3
  ·refine lqb_ok ?_;rw[ld_get,g2,ldO_one (by decide)];exact Dh _ _
  ·refine lqb_ok ?_;rw[ld_get,g3,ldO_one (by decide)];exact Dh _ _
 generalize hwc:B.wc 0 nn=wc at *
 simp (maxDischargeDepth:=12) (disch:=omega) only[c3_l1,q1,q5,q6,q8,← ha,e75,e1,← hp9,hH2,x2,g2,Dh,eW,x3,g3,eR,om,hv,ldO_one,stO_one,sy,tup,↓reduceIte,zA,zG,zC,zD,zF,zE,zB,zH,reduceCtorEq]
 rw[endD_q (q:=[lq 54 ⟨x,a+1⟩ (.int .i64 nn) H2,lq 54 ⟨x,a+1⟩ (.int .i64 nn) H3,lqb 9 ⟨.run p9,0⟩ X H2,lqb 9 ⟨.run p9,0⟩ X H3]) (by kernel_rfl) (by kernel_rfl)]
 simp (maxDischargeDepth:=12) (disch:=omega) only[q8,om,hv,ldO_one,stO_one,sy,tup,↓reduceIte,zA,zG,zC,zD,zF,zE,zB,zH,reduceCtorEq]
 refine⟨60 - (i+1),by omega,i+1,B',rfl,by omega,trivial,hB',?_,?_,?_,?_,t4.owe hQ,by simp[q1],by simp[q5],by simp[q6],by simp⟩
 ·first | exact gb4 | (rw[get_owe];exact gb4)
 ·first | exact gr4 | (rw[get_owe];exact gr4)
 ·exact(ob.mono (Nat.le_trans t12.next (Nat.le_trans nx3 nx4)))
 ·exact(or'.mono (Nat.le_trans t12.next (Nat.le_trans nx3 nx4)))
end
end Go.Proofs.YtllkepkaimnodaaGreatDoor.draft
namespace Go.Proofs.YtllkepkaimnodaaGreatDoor.draft
open Go.Am
open disk (bx Fit A1 R1 Low Bn)
theorem rem_u16 (a b:Nat) (hb:b≠0):arith .rem (.int .u16 (a:Int)) (.int .u16 (b:Int))=some (.int .u16 ((a % b:Nat):Int)):=by
 have h0:eqI (b:Int) 0=false:=by
  rw[Cy];simpa using hb
 show (match eqI (b:Int) 0 with | true=>none | false=>frc (remI (a:Int) (b:Int)) fun n=>some (V.int .u16 n))=_
 rw[h0]
 show frc (((a % b:Nat)):Int) _=_
 generalize a % b=z
 cases z<;>rfl
def NP (R:Nat) (n:Nt):Prop:=(1≤n.cells∧n.cells≤32)∧n.sum < 4294967296∧recS n.cells≤R∧n.pos+recS n.cells≤4611686018427387904
theorem goN_ok {rd:Nat→Nat} {R first tail:Nat}:∀(k:Nat) (N:List Nt) (h:Nat),(∀ n ∈ N,NP R n)→∀ n ∈ (goN rd R first tail k N h).1,NP R n
 | 0,N,h,hN=>hN
 | k+1,N,h,hN=>by
  rw[goN]
  cases e:nextOk R first tail N.length h (rd (2+(first+N.length) % 8)) with
  | false=>exact hN
  | true=>
   simp only
   refine goN_ok k _ _ fun n hn=>?_
   rcases List.mem_append.1 hn with hn | hn
   ·exact hN n hn
   ·rw[List.mem_singleton.1 hn]
    obtain⟨X,hX⟩:∃ X,X=rd (2+(first+N.length) % 8):=⟨_,rfl⟩
    rw[← hX] at e ⊢
    unfold nextOk at e
    simp only[Bool.and_eq_true,decide_eq_true_eq] at e
    obtain⟨⟨⟨e1,e2⟩,e3⟩,e4⟩:=e
    unfold noteOk at e1
    simp only[Bool.and_eq_true] at e1
    have hm:=ntMay_ok e1.1.2 (bd_lt X 10)
    have hc:=hm.cells
    unfold roomR at e4
    simp only[Bool.and_eq_true,decide_eq_true_eq] at e4
    have hr:1≤recS (ntG X).cells:=by unfold recS;omega
    exact⟨hc,hm.sum,by omega,by omega⟩
section
variable {lf K:Nat} (hlf:1000 < lf)
include hlf
theorem dopens_asks {G:Heap} {p:Bk} {n:Nat} (h:∀ {J:Heap},Turns Z G J→∀ i,i < 10→ret (U lf K (n+5) 13 [.ptr (some ⟨p,0⟩),.agg (act1 i)] J) fun v J'=>v=.bool true∧Turns Z J J'):∀ t:T,t.getP (Tr.path 14)=some (.ptr (some ⟨p,0⟩))→t.getP (Tr.path 15)=some (.int .i64 0) →
  wp (loopF (runC (U lf K (n+5)) lf c3_l0) lf ⟨t,G,[]⟩) fun x s=>x=.ex 2∧s.d=[]∧Turns Z G s.H:=by
 intro t q14 q15
 refine wp_loopF (fun m s=>∃ i:Nat,m=10 - i∧i≤10∧s.d=[]∧Turns Z G s.H∧s.t.getP (Tr.path 14)=some (.ptr (some ⟨p,0⟩))∧s.t.getP (Tr.path 15)=some (.int .i64 (i:Int))) ?_ lf 10 _ ⟨0,rfl,by omega,rfl,Turns.refl _ _,q14,q15⟩ (by omega)
 rintro m ⟨t,HH,d⟩ ⟨i,rfl,hi,hd,hT,q14,q15⟩
 dsimp only at hd hT q14 q15
 subst hd
 by_cases hlt:i < 10
 ·obtain⟨v1,H1,e1,rfl,t1⟩:=h hT i hlt
  have pA:put [V.int .i64 0,.int .i64 0,.slice none 0 0 0,.int .u64 0,.bool false,.int .i64 0,.int .i64 0,.int .u8 0,.slice none 0 0 0] 0 [.int .i64 1]=some [V.int .i64 1,.int .i64 0,.slice none 0 0 0,.int .u64 0,.bool false,.int .i64 0,.int .i64 0,.int .u8 0,.slice none 0 0 0]:=rfl
  have pB:put [V.int .i64 1,.int .i64 0,.slice none 0 0 0,.int .u64 0,.bool false,.int .i64 0,.int .i64 0,.int .u8 0,.slice none 0 0 0] 3 [.int .u64 (i:Int)]=some [V.int .i64 1,.int .i64 0,.slice none 0 0 0,.int .u64 (i:Int),.bool false,.int .i64 0,.int .i64 0,.int .u8 0,.slice none 0 0 0]:=rfl
  have pC:put [V.int .i64 1,.int .i64 0,.slice none 0 0 0,.int .u64 (i:Int),.bool false,.int .i64 0,.int .i64 0,.int .u8 0,.slice none 0 0 0] 4 [.bool true]=some (act1 i):=rfl
  have cA:((V.agg (act1 i)).cells:Option (List V))=some (act1 i):=rfl
  simp (maxDischargeDepth:=12) (disch:=omega) only[c3_l0,q14,q15,pA,pB,pC,e1,om,hv,ldO_one,stO_one,sy,tup,↓reduceIte,zA,zG,zC,zD,zF,zE,zB,zH,reduceCtorEq]
  exact⟨10 - (i+1),by omega,i+1,rfl,by omega,trivial,hT.trans t1,by simp[q14],by simp⟩
 ·simp (maxDischargeDepth:=12) (disch:=omega) only[c3_l0,q14,q15,om,hv,ldO_one,stO_one,sy,tup,↓reduceIte,zA,zG,zC,zD,zF,zE,zB,zH,reduceCtorEq]
  exact⟨trivial,trivial,hT⟩
theorem logopens_run (G:Heap) (hgl:G.get (.run 0)=some (.rows true 4 (intsR [8,2,8,8]))) (h00:0 < G.next) {s0:Nat} (hs0:s0 < 65536) {pp:Option Ptr} {L:List Spt} {pc po:Nat} (hL:SptsAt G pp L) (n:Nat):ret (U lf K (n+9) 3 [.int .u16 (s0:Int),.slice pp L.length pc po] G) fun v G'=>v=.bool true∧Turns Z G G':=by
 have r1:arith .rem (.int .u16 (s0:Int)) (.int .u16 320)=some (.int .u16 ((s0 % 320:Nat):Int)):=rem_u16 s0 320 (by decide)
 have hz:s0 % 320 < 320:=Nat.mod_lt _ (by decide)
 obtain⟨s,hs⟩:∃ s,s=1+s0 % 320:=⟨_,rfl⟩
 have w1:IntKind.i64.wrap (1+((s0 % 320:Nat):Int))=(s:Int):=by rw[Go.Am.wrap_i64 (by omega)];omega
 have hs1:1≤s∧s≤320:=by omega
 obtain⟨v1,G1,e1,b,r,rfl,hb1,hr1,bn,rn,ob1,or1,br,t1⟩:=dtable hlf (K:=K) G hs1 (n+6)
 have hloop:=dopens_writes hlf (K:=K) (pc:=pc) (po:=po) hL bn rn br (s:=s) (n+6)
 generalize s0 % 320=z at *
 refine ret_callU rfl rfl c3_eq ?_
 simp (maxDischargeDepth:=12) (disch:=omega) only[c3,r1,w1,e1,om,hv,ldO_one,stO_one,sy,tup,↓reduceIte,zA,zG,zC,zD,zF,zE,zB,zH,reduceCtorEq]
 refine wp_ctx (F:=fun r=>seqC _ _ _ (blockC _ r)) (hloop _ _ _ (TB.new hs1) hb1 hr1 ob1 or1 t1 ?_ ?_ ?_ ?_) ?_
 ·simp only[sy,tup,↓reduceIte,zA,zG,zC,zD,zF,zE,zB,zH,reduceCtorEq]
 ·simp only[sy,tup,↓reduceIte,zA,zG,zC,zD,zF,zE,zB,zH,reduceCtorEq]
 ·simp only[sy,tup,↓reduceIte,zA,zG,zC,zD,zF,zE,zB,zH,reduceCtorEq]
 ·simp only[sy,tup,↓reduceIte,zA,zG,zC,zD,zF,zE,zB,zH,reduceCtorEq]
 rintro x ⟨t,G2,d⟩ ⟨rfl,hd,q5,q6,B,hB,hb2,hr2,ob2,or2,t2⟩
 dsimp only at hd q5 q6 hb2 hr2 ob2 or2 t2
 subst hd
 have hf:=(hB.mono (j:=0) (by omega)).rm.fit
 have hsec:=hB.sec
 have hgl2:=(t2.same (.run 0) h00 (fun h=>h)).trans hgl
 have hroom:roomC B 0 50=if(s:Int) < 50 then 2 else 0:=by
  unfold roomC
  rw[hsec,hB.len]
  by_cases h:(s:Int) < 50
  ·rw[if_pos h,if_pos (.inr (.inr h))]
  ·rw[if_neg h,if_neg (by rintro(h1 | h1 | h1)<;>omega)]
 obtain⟨v3,G3,e3,hb3,t3,h3⟩:=ulopen hlf (K:=K) hgl2 (Nat.lt_of_lt_of_le h00 t2.next) ob2 hb2 hf (fun h j hj=>hB.rc (by
  rw[hroom] at h
  split at h
  ·cases h
  ·omega)) (by rw[hsec];omega) n
 have hr3:=(t3.same r or2 (fun h=>h)).trans hr2
 obtain⟨v4,G4,e4,hr4,t4,h4⟩:=dlopen hlf (K:=K) (or2.mono t3.next) hr3 hf hB.tc (fun h j hj=>hB.rc (by rw[hsec] at h;omega)) (by rw[hsec];omega) (fun j=>hB.read (j:Int)) (n+3)
 rw[hsec] at h4
 have ob4:=ob2.mono (Nat.le_trans t3.next t4.next)
 have or4:=or2.mono (Nat.le_trans t3.next t4.next)
 have hb4:=(t4.same b (ob2.mono t3.next) (fun h=>h)).trans hb3
 have t24:=(t2.trans t3).trans t4
 suffices hk:∃(x y:Option Ptr) (E:Int),v3=.tuple [.ptr x,.int .i64 E]∧v4=.tuple [.ptr y,.int .i64 E]∧(∀ {J:Heap} {p:Bk},Turns Z G4 J→J.Old p→J.get p=some (.rows false 4 [desk4 b r (.ptr x) (.ptr y)])→ret (U lf K (n+8) 12 [.ptr (some ⟨p,0⟩)] J) fun v J'=>v=.bool true∧Turns Z J J')∧(∀ {J:Heap} {p:Bk},Turns Z G4 J→J.Old p→J.get p=some (.rows false 4 [desk4 b r (.ptr x) (.ptr y)])→∀ i,i < 10→ret (U lf K (n+8) 13 [.ptr (some ⟨p,0⟩),.agg (act1 i)] J) fun v J'=>v=.bool true∧Turns Z J J') by
  obtain⟨x,y,E,rfl,rfl,hal,hon⟩:=hk
  have t5:=Turns.add Z G4 (.rows false 4 [desk4 b r (.ptr x) (.ptr y)])
  obtain⟨p5,hp5⟩:∃ p,p=G4.next:=⟨_,rfl⟩
  have g5:(G4.add (.rows false 4 [desk4 b r (.ptr x) (.ptr y)])).get (.run p5)=some (.rows false 4 [desk4 b r (.ptr x) (.ptr y)]):=by rw[hp5,Heap.get_add,if_pos rfl]
  obtain⟨G5,hG5⟩:∃ X,G4.add (.rows false 4 [desk4 b r (.ptr x) (.ptr y)])=X:=⟨_,rfl⟩
  have n5:G5.next=p5+1:=by rw[← hG5,hp5];rfl
  rw[hG5] at t5 g5
  have o5:G5.Old (.run p5):=by show _ < _;omega
  obtain⟨v6,G6,e6,rfl,t6⟩:=hal t5 o5 g5
  have g6:=(t6.same _ o5 (fun h=>h)).trans g5
  have hasks:=dopens_asks hlf (K:=K) (G:=G6) (p:=.run p5) (n:=n+3) (fun {J} tJ i hi=>hon ((t5.trans t6).trans tJ) ((o5.mono t6.next).mono tJ.next) ((tJ.same _ (o5.mono t6.next) (fun h=>h)).trans g6) i hi)
  have t26:=(t24.trans t5).trans t6
  simp (maxDischargeDepth:=12) (disch:=omega) only[q5,q6,e3,e4,← hp5,hG5,e6,om,hv,ldO_one,stO_one,sy,tup,↓reduceIte,zA,zG,zC,zD,zF,zE,zB,zH,reduceCtorEq]
  refine wp_ctx (F:=fun r=>seqC _ _ _ (blockC _ r)) (hasks _ ?_ ?_) ?_
  ·simp only[sy,tup,↓reduceIte,zA,zG,zC,zD,zF,zE,zB,zH,reduceCtorEq]
  ·simp only[sy,tup,↓reduceIte,zA,zG,zC,zD,zF,zE,zB,zH,reduceCtorEq]
  rintro x ⟨t,G7,d⟩ ⟨rfl,hd,t7⟩
  dsimp only at hd t7
  subst hd
  have t27:=t26.trans t7
  have eL:=qLives (lf:=lf) (K:=K) (w:=n+7) ((t27.same (.run 0) h00 (fun h=>h)).trans hgl)
  simp (maxDischargeDepth:=12) (disch:=omega) only[eL,om,hv,ldO_one,stO_one,sy,tup,↓reduceIte,zA,zG,zC,zD,zF,zE,zB,zH,reduceCtorEq]
  exact⟨trivial,.inr trivial,_,rfl,rfl,t27.skip _⟩
 have hnone:(∀ {J:Heap} {p:Bk},Turns Z G4 J→J.Old p→J.get p=some (.rows false 4 [desk4 b r (.ptr none) (.ptr none)])→ret (U lf K (n+8) 12 [.ptr (some ⟨p,0⟩)] J) fun v J'=>v=.bool true∧Turns Z J J')∧(∀ {J:Heap} {p:Bk},Turns Z G4 J→J.Old p→J.get p=some (.rows false 4 [desk4 b r (.ptr none) (.ptr none)])→∀ i,i < 10→ret (U lf K (n+8) 13 [.ptr (some ⟨p,0⟩),.agg (act1 i)] J) fun v J'=>v=.bool true∧Turns Z J J'):=
  ⟨fun {J p} tJ oJ gJ=>dalike_nil hlf gJ (n+7),fun {J p} tJ oJ gJ i hi=>donlog_nil hlf (x:=.nilFunc) gJ oJ i (n+7)⟩
 rw[hroom] at h3
 by_cases h50:(s:Int) < 50
 ·rw[if_pos h50] at h3
  rcases h3 with ⟨_,rfl⟩ | ⟨h,_⟩ | ⟨h,_⟩
  rotate_left
  ·cases h
  ·cases h
  rcases h4 with ⟨_,rfl⟩ | ⟨h,_⟩ | ⟨h,_⟩
  rotate_left
  ·omega
  ·omega
  exact⟨none,none,2,rfl,rfl,hnone.1,hnone.2⟩
 rw[if_neg h50] at h3
 rcases h3 with ⟨h,_⟩ | ⟨_,hx,rfl⟩ | ⟨_,X,l,lv,hx,rfl,_,_,hl⟩
 ·exact absurd rfl h
 ·rcases h4 with ⟨h,_⟩ | ⟨_,hx',rfl⟩ | ⟨_,X,l,lv,hx',_⟩
  ·omega
  ·exact⟨none,none,5,rfl,rfl,hnone.1,hnone.2⟩
  ·rw[hx] at hx';cases hx'
 rcases h4 with ⟨h,_⟩ | ⟨_,hx',_⟩ | ⟨_,X',m,mv,hx',rfl,_,_,hm,hh⟩
 ·omega
 ·rw[hx] at hx';cases hx'
 rw[hx] at hx'
 cases hx'
 obtain⟨hR1,hR2,hfi⟩:40≤(mkG X).R∧(mkG X).R+10≤s∧1≤(mkG X).first:=by
  unfold openX at hx
  split at hx
  ·cases hx
  ·rename_i Y hY
   split at hx
   ·rename_i hc
    cases hx
    have:=of_decide_eq_true (newM_ok hlf hY)
    rw[hsec] at hc
    omega
   ·cases hx
 have hnt:=goN_ok (rd:=fun j=>B.read 0 (j:Int)) (R:=(mkG X).R) (first:=(mkG X).first) (tail:=(mkG X).pos) 8 [] (mkG X).pos (fun _ h=>by cases h)
 generalize goN (fun j=>B.read 0 (j:Int)) (mkG X).R (mkG X).first (mkG X).pos 8 [] (mkG X).pos=W at *
 refine⟨some ⟨l,0⟩,some ⟨m,0⟩,0,rfl,rfl,fun {J p} tJ oJ gJ=>dalike hlf gJ oJ (hl.turns (t4.trans tJ)) (hm.turns tJ) hh.symm (n+3),fun {J p} tJ oJ gJ i hi=>donlog hlf gJ oJ (hl.turns (t4.trans tJ)) (hm.turns tJ) hfi hf (ob4.mono tJ.next) ((tJ.same b ob4 (fun h=>h)).trans hb4) (or4.mono tJ.next) ((tJ.same r or4 (fun h=>h)).trans hr4) (fun i hi=>hnt _ (List.getElem_mem hi)) (by omega) (c:=0) (fun i hi j hj=>hB.rc (by
  have:=Nat.mod_lt (W.1[i].pos+j) (show (mkG X).R > 0 by omega)
  omega)) (n+3)⟩
end
end Go.Proofs.YtllkepkaimnodaaGreatDoor.draft
namespace Go.Proofs.YtllkepkaimnodaaGreatDoor.disk
open Go.Am
end Go.Proofs.YtllkepkaimnodaaGreatDoor.disk
namespace Go.Proofs.YtllkepkaimnodaaGreatDoor.draft
open Go.Am
def spotSh:Sh:=.seq (.int .i64) (.seq (.int .i64) (.seq .blk (.seq (.int .u64) (.seq (.seq (.int .u64) (.seq (.int .i64) (.seq (.int .u64) (.seq (.int .u64) .nil)))) (.seq (.seq (.int .u64) (.seq (.int .u64) (.seq (.int .i64) (.seq (.int .u32) .nil)))) .nil)))))
theorem u64b {n:Int} (h:(Lit.int .u64 n).wf=true):0≤n∧n < 18446744073709551616:=by
 have h:(decide (0≤n)&&decide (n≤18446744073709551615))=true:=h
 simp only[Bool.and_eq_true,decide_eq_true_eq] at h
 omega
theorem u32b {n:Int} (h:(Lit.int .u32 n).wf=true):0≤n∧n < 4294967296:=by
 have h:(decide (0≤n)&&decide (n≤4294967295))=true:=h
 simp only[Bool.and_eq_true,decide_eq_true_eq] at h
 omega
section
variable {a:Nat→Option Am.Obj} {H:Heap} (hH:∀ n,H.get (.arg n)=a n)
include hH
theorem spot_of {r:List V} (h:Fits a spotSh r):∃ s:Spt,r=s.row∧s.ok:=by
 obtain⟨_,_,rfl,⟨kd,_,rfl⟩,_,_,rfl,⟨n,_,rfl⟩,_,_,rfl,⟨x,hx,rfl⟩,_,_,rfl,⟨c,hc,rfl⟩,_,_,rfl,⟨_,_,rfl,⟨id,hid,rfl⟩,_,_,rfl,⟨R,_,rfl⟩,_,_,rfl,⟨f,hf,rfl⟩,_,_,rfl,⟨p,hp,rfl⟩,rfl⟩,_,_,rfl,⟨_,_,rfl,⟨sq,hsq,rfl⟩,_,_,rfl,⟨ps,hps,rfl⟩,_,_,rfl,⟨cl,_,rfl⟩,_,_,rfl,⟨sm,hsm,rfl⟩,rfl⟩,rfl⟩:=h
 have hc:=u64b hc
 have hid:=u64b hid
 have hf:=u64b hf
 have hp:=u64b hp
 have hsq:=u64b hsq
 have hps:=u64b hps
 have hsm:=u32b hsm
 refine⟨⟨kd,n,x,c.toNat,id.toNat,R,f.toNat,p.toNat,sq.toNat,ps.toNat,cl,sm.toNat⟩,?_,⟨hx,?_,?_,?_,?_,?_,?_,?_⟩⟩
 ·show _=[V.int .i64 kd,.int .i64 n,.blk x,.int .u64 (c.toNat:Int),.int .u64 (id.toNat:Int),.int .i64 R,.int .u64 (f.toNat:Int),.int .u64 (p.toNat:Int),.int .u64 (sq.toNat:Int),.int .u64 (ps.toNat:Int),.int .i64 cl,.int .u32 (sm.toNat:Int)]
  rw[Int.toNat_of_nonneg hc.1,Int.toNat_of_nonneg hid.1,Int.toNat_of_nonneg hf.1,Int.toNat_of_nonneg hp.1,Int.toNat_of_nonneg hsq.1,Int.toNat_of_nonneg hps.1,Int.toNat_of_nonneg hsm.1]
  rfl
 all_goals dsimp only
 all_goals omega
theorem spots_list:∀(R:List (List V)),(∀ r ∈ R,Fits a spotSh r)→∃ l:List Spt,l.map Spt.row=R∧∀ s ∈ l,s.ok
 | [],_=>⟨[],rfl,fun c h=>by cases h⟩
 | r::R,h=>by
  obtain⟨c,e,hc⟩:=spot_of hH (h r (List.mem_cons_self ..))
  obtain⟨l,el,hl⟩:=spots_list R (fun r hr=>h r (List.mem_cons_of_mem _ hr))
  refine⟨c::l,by rw[List.map_cons,e,el],fun x hx=>?_⟩
  rcases List.mem_cons.1 hx with rfl | hx
  ·exact hc
  ·exact hl x hx
theorem spots_of {u:V} (h:FitsV a (.slice 75 spotSh) u):∃ p lc L,u=.slice p (List.length L) lc 0∧SptsAt H p L:=by
 obtain⟨C,hf,hu⟩:=h
 rcases hf with rfl | ⟨b,len,rows,rfl,hb,hl,hm,hr⟩
 ·cases hu
  exact⟨none,0,[],rfl,⟨fun e=>absurd rfl e,fun s h=>(by cases h)⟩⟩
 ·cases hu
  obtain⟨l,el,hc⟩:=spots_list hH rows hr
  have hll:l.length=rows.length:=by rw[← el,List.length_map]
  refine⟨some ⟨.arg b,0⟩,rows.length,l.take len,by rw[List.length_take,Nat.min_eq_left (by omega)],⟨fun _=>⟨.arg b,0,true,rows,by rw[Nat.zero_mul],trivial,(hH b).trans hb,fun i hi=>?_⟩,fun s hs=>hc s (List.mem_of_mem_take hs)⟩⟩
  rw[List.length_take] at hi
  rw[Nat.zero_add,← el,List.getElem?_map,List.getElem?_eq_getElem (by omega),List.getElem_take]
  rfl
end
theorem u16_of {a:Nat→Option Am.Obj} {u:V} (h:FitsV a (.int .u16) u):∃ s:Nat,s < 65536∧u=.int .u16 (s:Int):=by
 obtain⟨C,⟨n,h,rfl⟩,hu⟩:=h
 cases hu
 have h:(decide (0≤n)&&decide (n≤65535))=true:=h
 simp only[Bool.and_eq_true,decide_eq_true_eq] at h
 exact⟨n.toNat,by omega,by rw[Int.toNat_of_nonneg h.1]⟩
end Go.Proofs.YtllkepkaimnodaaGreatDoor.draft
