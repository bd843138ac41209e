import Derived.Test.YtabebpemfinejaaGreatG5
import Derived.Test.YtabebpemfinejaaGreatG3
import Derived.Test.YtabebpemfinejaaGreatG4
import Derived.Test.YtabebpemfinejaaGreatAmList
set_option linter.unusedVariables false
set_option linter.unusedSectionVars false
set_option linter.unusedSimpArgs false
set_option maxRecDepth 10000
open Nat renaming reduceEqDiff → zA, reduceLeDiff → zB, reduceSub → zC, reduceMul → zD, reduceMod → zE, reduceDiv → zF, reduceAdd → zG
open Int renaming reduceBEq → zH
namespace Go.Proofs.YtabebpemfinejaaGreat.draft
open Go.Am
open disk (bx Fit A1 R1 Low)
structure Pre (M k N E ID:Nat) (s r:Int) (S:List Nat) (c:Int) (B:disk.Bn):Prop where
 calm:Calm M k B
 hk:k≤850
 hE:E=N+1
 hN:N+1≤4611686018427387904
 hI:ID < 18446744073709551616
 I0:ID≠0
 fine:fine (M:Int) s r S c
 upto:∀ j,j < M→∀ t,t < 2→upto N (sect B j t)
theorem Pre.evt {M k N E ID:Nat} {s r:Int} {S:List Nat} {c:Int} {B:disk.Bn} (h:Pre M k N E ID s r S c B):evt (E:Int)=true:=by
 have:=h.hN
 have:=h.hE
 unfold draft.evt
 rw[decide_eq_true (by omega),decide_eq_true (by omega)]
 rfl
theorem Pre.may {M k N E ID:Nat} {s r:Int} {S:List Nat} {c:Int} {B:disk.Bn} (h:Pre M k N E ID s r S c B) {i:Nat} (hi:i < M):smay (ID:Int) (i:Int) (M:Int) s r S c:=by
 have:=h.I0
 exact⟨by omega,by omega,by omega,h.fine⟩
theorem Pre.small {M k N E ID:Nat} {s r:Int} {S:List Nat} {c:Int} {B:disk.Bn} (h:Pre M k N E ID s r S c B) (hS:S.length=16) (g:Bool) {i:Nat} (hi:i < M):supBlk E ID i M s r S c g < 256 ^ 64:=by
 have e:=h.evt
 exact(sup_back e h.hI h.calm.le (h.may hi) hS g rfl).2.2.2.2.2.2.2.2.2.2
section
variable {lf K:Nat} (hlf:1000 < lf)
include hlf
variable {G:Heap} {h b:Bk} {M k N E ID:Nat} {s r:Int} {S:List Nat} {c:Int} {g:Bool} {B:disk.Bn} (hh:HB G h b (ID:Int) (E:Int) (M:Int) s r S c g B) {p q:Bk} {z:Bool} (hc:Caught G h p q z) (hp:Pre M k N E ID s r S c B)
include hh hc hp
def Eached (h b q:Bk) (M k N E ID:Nat) (s r:Int) (S:List Nat) (c:Int) (g:Bool) (B:disk.Bn) (G:Heap) (v:V) (G':Heap):Prop:=
 (v=.int .i64 0∧∃ B',Round M k N ID s r S c g B B' M∧G'.get b=some (bx false B')∧Turns (fun c=>c=b) G G') ∨
 (v=.int .i64 9∧∃ B' i,i < M∧S.getD i 0≠1∧dead B i=true∧Round M k N ID s r S c g B B' i∧G'.get b=some (bx false B') ∧
  G'.get h=some (.rows false 24 [hcells b (ID:Int) (E:Int) (M:Int) s r (S.set i 1) (loseC S c i) g])∧G'.get q=some (.rows false 1 [[.bool true]])∧Turns (fun c=>c=b∨c=h∨c=q) G G')
theorem ueach (n:Nat):ret (U lf K (n+6) 52 [.ptr (some ⟨h,0⟩),.func (.func 53) [] [.ptr (some ⟨p,0⟩),.ptr (some ⟨q,0⟩)]] G) (Eached h b q M k N E ID s r S c g B G):=by
 have hS:=hh.hull.len
 have hM:=hp.calm.le
 have hloop:∀ t:T,t.getP (Tr.path 0)=some (.ptr (some ⟨h,0⟩))→t.getP (Tr.path 1)=some (.func (.func 53) [] [.ptr (some ⟨p,0⟩),.ptr (some ⟨q,0⟩)])→t.getP (Tr.path 12)=some (.int .i64 (M:Int))→t.getP (Tr.path 13)=some (.int .i64 0) →
   wp (loopF (runC (U lf K (n+5)) lf c52_l0) lf ⟨t,G,[]⟩) fun x s'=>s'.d=[]∧((x=.ex 0∧Eached h b q M k N E ID s r S c g B G (.int .i64 0) s'.H)∨(x=.ret∧s'.t.getP (Tr.path 4)=some (.int .i64 9)∧Eached h b q M k N E ID s r S c g B G (.int .i64 9) s'.H)):=by
  intro t q0 q1 q12 q13
  refine wp_loopF (fun u s'=>∃ i B',u=M - i∧i≤M∧s'.d=[]∧s'.t.getP (Tr.path 0)=some (.ptr (some ⟨h,0⟩))∧s'.t.getP (Tr.path 1)=some (.func (.func 53) [] [.ptr (some ⟨p,0⟩),.ptr (some ⟨q,0⟩)])∧s'.t.getP (Tr.path 12)=some (.int .i64 (M:Int))∧s'.t.getP (Tr.path 13)=some (.int .i64 (i:Int))∧Round M k N ID s r S c g B B' i∧s'.H.get b=some (bx false B')∧Turns (fun c=>c=b) G s'.H)
   ?_ lf M _ ⟨0,B,rfl,Nat.zero_le _,rfl,q0,q1,q12,q13,⟨by simpa using hp.calm,fun _ _=>rfl,fun j hj=>absurd hj (by omega),fun _ _ _=>rfl,fun _ _=>rfl⟩,hh.bench,Turns.refl _ _⟩ (by omega)
  rintro u ⟨t,G1,d⟩ ⟨i,B',rfl,hi,hd,q0,q1,q12,q13,hR,hb1,ht⟩
  dsimp only at hd q0 q1 q12 q13 hb1 ht
  subst hd
  by_cases hlt:i < M
  ·have hlt':(i:Int) < (M:Int):=by omega
   have w1:IntKind.i64.wrap ((i:Int)+1)=((i+1:Nat):Int):=by rw[wrap_i64 (by omega)];omega
   have hf':Fit B':=hR.calm.fit (by have:=hp.hk;omega)
   have hh1:=hh.step ht hb1 hf'
   have hc1:=hc.step hh.bench ht
   have hst:=hl_st hS (i:=i) (by omega) b (ID:Int) (E:Int) (M:Int) s r c g
   have hle:i+1≤16:=by omega
   have hle2:6+i+1≤24:=by omega
   have own:=hh1.hull.own
   by_cases hl:S.getD i 0=1
   ·rw[hl] at hst
    simp (maxDischargeDepth:=12) only[c52_l0,q0,q1,q12,q13,hlt',own,iaddrAF,hle,hle2,hst,one_cast,w1,Nat.mul_one,hv,ldO_one,stO_one,sy,tup,↓reduceIte,zA,zG,zC,zD,zF,zE,zB,zH,reduceCtorEq]
    exact⟨M - (i+1),by omega,i+1,B',rfl,by omega,trivial,trivial,trivial,trivial,by simp,hR.skip hl,hb1,ht⟩
   ·have hl':((((S.getD i 0:Nat):Int))==1)=false:=by rw[beq_eq_false_iff_ne];intro e;exact hl (by omega)
    cases hdd:dead B i with
    | true=>
     have r9:B'.rc (i:Int) 0=9:=by rw[show (0:Int)=((0:Nat):Int) from rfl,hR.calm.rc hlt (by decide),hR.dd i hlt,hdd];rfl
     obtain⟨v,G2,e2,rfl,h1,h2,h3⟩:=usv_dead hlf hh1 hc1 (i:=i) hlt' hp.fine r9 n (K:=K)
     simp (maxDischargeDepth:=12) only[c52_l0,q0,q1,q12,q13,hlt',own,iaddrAF,hle,hle2,hst,hl',e2,Nat.mul_one,hv,ldO_one,stO_one,sy,tup,↓reduceIte,zA,zG,zC,zD,zF,zE,zB,zH,reduceCtorEq]
     refine⟨trivial,.inr ⟨trivial,trivial,.inr ⟨rfl,B',i,hlt,hl,hdd,hR,?_,h1,h2,?_⟩⟩⟩
     ·rw[h3.same b hh1.old (fun e=>?_),hb1]
      have n1:=hh1.ne
      have n2:=ne_of_get hc1.z hb1 (by intro e;cases e)
      rcases e with e | e
      ·have e':=e.symm;rw[n1] at e';exact e'
      ·have e':=e.symm;rw[n2] at e';exact e'
     ·exact(ht.wide (fun c hc=>.inl hc)).trans (h3.wide (fun c hc=>.inr hc))
    | false=>
     have hdB:dead B' i=false:=(hR.dd i hlt).trans hdd
     obtain⟨v,G2,e2,rfl,h1,h2⟩:=usv_ok hlf hh1 hc1 (M:=M) (N:=E) (ID:=ID) rfl rfl rfl (by have:=hp.hE;have:=hp.hN;omega) hp.hI hp.evt (hp.may hlt) hR.calm (by have:=hp.hk;omega) hlt hdB rfl (hp.small hS g hlt) n (K:=K)
     simp (maxDischargeDepth:=12) only[c52_l0,q0,q1,q12,q13,hlt',own,iaddrAF,hle,hle2,hst,hl',e2,w1,Nat.mul_one,hv,ldO_one,stO_one,sy,tup,↓reduceIte,zA,zG,zC,zD,zF,zE,zB,zH,reduceCtorEq]
     refine⟨M - (i+1),by omega,i+1,_,rfl,by omega,trivial,trivial,trivial,trivial,by simp,?_,h1,ht.trans h2⟩
     have hE:=hp.hE
     have hsm:=hp.small hS g hlt
     subst hE
     exact hR.put hlt hl hdd hsm hp.upto
  ·have:i=M:=by omega
   subst this
   simp (maxDischargeDepth:=12) only[c52_l0,q0,q1,q12,q13,Int.lt_irrefl,hv,ldO_one,stO_one,sy,tup,↓reduceIte,zA,zG,zC,zD,zF,zE,zB,zH,reduceCtorEq]
   exact⟨trivial,.inl ⟨trivial,.inl ⟨rfl,B',hR,hb1,ht⟩⟩⟩
 have l3:=hl_r hh.hull
 have lm:cut (hcells b (ID:Int) (E:Int) (M:Int) s r S c g) 3 1=some [.int .i64 (M:Int)]:=rfl
 have own:=hh.hull.own
 refine ret_callU rfl rfl c52_eq ?_
 simp (maxDischargeDepth:=12) only[c52,own,lm,hv,ldO_one,stO_one,sy,tup,↓reduceIte,zA,zG,zC,zD,zF,zE,zB,zH,reduceCtorEq]
 refine wp_ctx (F:=fun r=>seqC _ _ _ (blockC _ r)) (hloop _ ?_ ?_ ?_ ?_) ?_
 ·simp only[sy,tup,↓reduceIte,zA,zG,zC,zD,zF,zE,zB,zH,reduceCtorEq]
 ·simp only[sy,tup,↓reduceIte,zA,zG,zC,zD,zF,zE,zB,zH,reduceCtorEq]
 ·simp only[sy,tup,↓reduceIte,zA,zG,zC,zD,zF,zE,zB,zH,reduceCtorEq]
 ·simp only[sy,tup,↓reduceIte,zA,zG,zC,zD,zF,zE,zB,zH,reduceCtorEq]
 rintro x ⟨t,G1,d⟩ ⟨rfl,⟨rfl,he⟩ | ⟨rfl,q4,he⟩⟩
 ·dsimp only at he
  simp only[sy,tup,↓reduceIte,zA,zG,zC,zD,zF,zE,zB,zH,reduceCtorEq]
  exact⟨trivial,.inr trivial,_,rfl,he⟩
 ·dsimp only at q4 he
  simp only[q4,sy,tup,↓reduceIte,zA,zG,zC,zD,zF,zE,zB,zH,reduceCtorEq]
  exact⟨trivial,.inr trivial,_,rfl,he⟩
end
end Go.Proofs.YtabebpemfinejaaGreat.draft
namespace Go.Proofs.YtabebpemfinejaaGreat.draft
open Go.Am
open disk (bx Fit A1 R1 Low)
def mu (B:disk.Bn) (S:List Nat):Nat→Nat
 | 0=>0
 | n+1=>mu B S n+if dead B n=true∧S.getD n 0≠1 then 1 else 0
theorem mu_le (B:disk.Bn) (S:List Nat):∀ n,mu B S n≤n
 | 0=>Nat.le_refl _
 | n+1=>by
  have:=mu_le B S n
  unfold mu
  split<;>omega
theorem mu_congr {B B':disk.Bn} {S:List Nat}:∀ {n:Nat},(∀ j,j < n→dead B' j=dead B j)→mu B' S n=mu B S n
 | 0,_=>rfl
 | n+1,h=>by
  unfold mu
  rw[mu_congr (fun j hj=>h j (by omega)),h n (by omega)]
theorem getD_set {S:List Nat} {i:Nat} (hi:i < S.length) (j x:Nat):(S.set i x).getD j 0=if j=i then x else S.getD j 0:=by
 simp only[List.getD]
 by_cases e:j=i
 ·subst e;rw[List.getElem?_set_self hi,if_pos rfl];rfl
 ·rw[List.getElem?_set_ne (Ne.symm e),if_neg e]
theorem mu_set {B:disk.Bn} {S:List Nat} {i:Nat} (hi:i < S.length) (hd:dead B i=true) (hs:S.getD i 0≠1):∀ n,mu B (S.set i 1) n+(if i < n then 1 else 0)=mu B S n
 | 0=>rfl
 | n+1=>by
  have ih:=mu_set hi hd hs n
  unfold mu
  rw[getD_set hi]
  by_cases e:n=i
  ·subst e
   rw[if_neg (Nat.lt_irrefl _)] at ih
   rw[if_pos rfl,if_neg (fun h=>h.2 rfl),if_pos (by omega),if_pos ⟨hd,hs⟩]
   omega
  ·rw[if_neg e]
   generalize (if dead B n=true∧S.getD n 0≠1 then(1:Nat) else 0)=w
   by_cases hlt:i < n
   ·rw[if_pos hlt] at ih
    rw[if_pos (by omega)]
    omega
   ·rw[if_neg hlt] at ih
    rw[if_neg (by omega)]
    omega
structure Ready (M k E ID:Nat) (s r:Int) (S:List Nat) (c:Int) (B:disk.Bn):Prop where
 calm:Calm M k B
 hk:k+32*mu B S M≤800
 hE:E+mu B S M+1≤4611686018427387904
 hI:ID < 18446744073709551616
 I0:ID≠0
 fine:fine (M:Int) s r S c
 upto:∀ j,j < M→∀ t,t < 2→upto E (sect B j t)
theorem Ready.pre {M k E ID:Nat} {s r:Int} {S:List Nat} {c:Int} {B:disk.Bn} (h:Ready M k E ID s r S c B):Pre M k E (E+1) ID s r S c B:=
 ⟨h.calm,by have:=h.hk;omega,rfl,by have:=h.hE;omega,h.hI,h.I0,h.fine,h.upto⟩
structure Saved (M E ID:Nat) (s r:Int) (S:List Nat) (g:Bool) (B:disk.Bn) (E':Nat) (S':List Nat) (c':Int) (B':disk.Bn):Prop where
 calm:∃ k,k≤850∧Calm M k B'
 ev:E < E'∧E'≤E+mu B S M+1
 fine:fine (M:Int) s r S' c'
 len:S'.length=16
 st:∀ j,S'.getD j 0=S.getD j 0∨(S'.getD j 0=1∧j < M∧dead B j=true)
 has:∀ j,j < M→S'.getD j 0≠1→dead B j=false∧hasX B' j (E' - 1) (supBlk E' ID j M s r S' c' g)
 dd:∀ j,j < M→dead B' j=dead B j
 sz:∀ j:Nat,j < M+1→(B'.dev (j:Int)).S.length=(B.dev (j:Int)).S.length
structure Mid (M E ID:Nat) (s r:Int) (S:List Nat) (B:disk.Bn) (k1 E1:Nat) (S1:List Nat) (c1:Int) (B1:disk.Bn):Prop where
 ready:Ready M k1 E1 ID s r S1 c1 B1
 ev:E≤E1∧E1+mu B1 S1 M≤E+mu B S M
 len:S1.length=16
 st:∀ j,S1.getD j 0=S.getD j 0∨(S1.getD j 0=1∧j < M∧dead B j=true)
 dd:∀ j,j < M→dead B1 j=dead B j
 sz:∀ j:Nat,j < M+1→(B1.dev (j:Int)).S.length=(B.dev (j:Int)).S.length
theorem sup_num {M k E ID:Nat} {s r:Int} {S:List Nat} {c:Int} {B:disk.Bn} (h:Pre M k E (E+1) ID s r S c B) (hS:S.length=16) (g:Bool) {j:Nat} (hj:j < M):sealN (supBlk (E+1) ID j M s r S c g)=E+1∧getE (supBlk (E+1) ID j M s r S c g)=0:=by
 have:=sup_back h.evt h.hI h.calm.le (h.may hj) hS g rfl
 exact⟨this.2.1,this.1⟩
theorem Mid.lose {M E ID k1 E1:Nat} {s r:Int} {S S1:List Nat} {c1:Int} {B B1 B2:disk.Bn} {g:Bool} (h:Mid M E ID s r S B k1 E1 S1 c1 B1) {i:Nat} (hi:i < M) (hs:S1.getD i 0≠1) (hd:dead B1 i=true) (hR:Round M k1 E1 ID s r S1 c1 g B1 B2 i) :
  Mid M E ID s r S B (k1+2*i) (E1+1) (S1.set i 1) (loseC S1 c1 i) B2:=by
 have hM:=h.ready.calm.le
 have hl:=h.len
 have hmu:=mu_set (B:=B1) (i:=i) (S:=S1) (by omega) hd hs M
 rw[if_pos hi] at hmu
 have hmc:=mu_congr (B:=B1) (B':=B2) (S:=S1.set i 1) hR.dd
 have hev:=h.ev
 have hk:=h.ready.hk
 have hE:=h.ready.hE
 refine⟨⟨hR.calm,by omega,by omega,h.ready.hI,h.ready.I0,lose_fine hl h.ready.fine (by omega),?_⟩,by omega,by simpa using hl,fun j=>?_,fun j hj=>(hR.dd j hj).trans (h.dd j hj),fun j hj=>(hR.len j hj).trans (h.sz j hj)⟩
 ·exact hR.upto h.ready.upto (fun j hj=>(sup_num h.ready.pre hl g hj).1)
 ·rw[getD_set (by omega)]
  by_cases e:j=i
  ·rw[if_pos e]
   exact .inr ⟨rfl,by omega,by rw[e,← h.dd i hi];exact hd⟩
  ·rw[if_neg e];exact h.st j
theorem Mid.done {M E ID k1 E1:Nat} {s r:Int} {S S1:List Nat} {c1:Int} {B B1 B2:disk.Bn} {g:Bool} (h:Mid M E ID s r S B k1 E1 S1 c1 B1) (hR:Round M k1 E1 ID s r S1 c1 g B1 B2 M):Saved M E ID s r S g B (E1+1) S1 c1 B2:=by
 have hev:=h.ev
 have hk:=h.ready.hk
 have hM:=h.ready.calm.le
 refine⟨⟨_,by omega,hR.calm⟩,by omega,h.ready.fine,h.len,h.st,fun j hj hs=>?_,fun j hj=>(hR.dd j hj).trans (h.dd j hj),fun j hj=>(hR.len j hj).trans (h.sz j hj)⟩
 obtain⟨h1,h2⟩:=hR.done j hj hs
 exact⟨by rw[← h.dd j hj];exact h1,h2⟩
theorem Turns.drop {X:Bk→Prop} {q:Bk} {H G G':Heap} (h:Turns X H G) (k:Turns (fun c=>X c∨c=q) G G') (hq:¬ H.Old q):Turns X H G':=
 ⟨Nat.le_trans h.next k.next,fun c hc hx=>(k.same c (hc.mono h.next) (fun e=>by
  rcases e with e | e
  ·exact hx e
  ·exact hq (by rw[← e];exact hc))).trans (h.same c hc hx),fun q=>k.q (h.q q)⟩
theorem Caught.again {G:Heap} {h p q:Bk} {z:Bool} (x:Caught G h p q z) (z':Bool):Caught ((G.add (.rows false 1 [[.bool false]])).set (.run G.next) (.rows false 1 [[.bool z']])) h p (.run G.next) z'∧Turns Z G ((G.add (.rows false 1 [[.bool false]])).set (.run G.next) (.rows false 1 [[.bool z']])):=by
 have t:Turns Z G ((G.add (.rows false 1 [[.bool false]])).set (.run G.next) (.rows false 1 [[.bool z']])):=(Turns.add Z G _).setnew (Nat.le_refl _) _
 exact⟨⟨(t.same p x.op (fun h=>h)).trans x.h,by rw[Heap.get_set,if_pos rfl],x.op.mono t.next,by show _ < _;simp⟩,t⟩
section
variable {lf K:Nat} (hlf:1000 < lf)
include hlf
theorem unone {G:Heap} {h b:Bk} {id ev m s r:Int} {S:List Nat} {c:Int} {g:Bool} {B:disk.Bn} (hh:HB G h b id ev m s r S c g B) (n:Nat):U lf K (n+1) 51 [.ptr (some ⟨h,0⟩)] G=some (.v (.bool false),G):=by
 have l:=hl_b hh.hull
 obtain⟨v,H',e,rfl,rfl⟩:ret (U lf K (n+1) 51 [.ptr (some ⟨h,0⟩)] G) fun v H'=>v=.bool false∧H'=G:=by
  refine ret_callU rfl rfl c51_eq ?_
  simp only[c51,l,sy,tup,↓reduceIte,zA,zG,zC,zD,zF,zE,zB,zH,reduceCtorEq]
  simp
 exact e
theorem usave {G:Heap} {h b:Bk} {M k E ID:Nat} {s r:Int} {S:List Nat} {c:Int} {g:Bool} {B:disk.Bn} (hh:HB G h b (ID:Int) (E:Int) (M:Int) s r S c g B) (hp:Ready M k E ID s r S c B) (hM:1≤M) (hlf2:100 < lf) (n:Nat) :
  ret (U lf K (n+7) 14 [.ptr (some ⟨h,0⟩)] G) fun v G'=>v=.int .i64 0∧∃ E' S' c' B',Saved M E ID s r S g B E' S' c' B'∧HB G' h b (ID:Int) (E':Int) (M:Int) s r S' c' g B'∧Turns (fun c=>c=b∨c=h) G G':=by
 have en:∀ H:Heap,HB H h b (ID:Int) (E:Int) (M:Int) s r S c g B→U lf K (n+6) 51 [.ptr (some ⟨h,0⟩)] H=some (.v (.bool false),H):=fun H x=>unone hlf x (n+5)
 have t1:=Turns.add Z G (.rows false 1 [[.ptr (some ⟨h,0⟩)]])
 have hh1:=hh.turns t1
 have en1:=en _ hh1
 refine ret_callU rfl rfl c14_eq ?_
 simp (maxDischargeDepth:=12) only[c14,en1,hv,ldO_one,stO_one,sy,tup,↓reduceIte,zA,zG,zC,zD,zF,zE,zB,zH,reduceCtorEq]
 have hloop:∀(t:T) (G1:Heap) (nq:Nat),t.getP (Tr.path 1)=some (.ptr (some ⟨.run G.next,0⟩))→t.getP (Tr.path 3)=some (.ptr (some ⟨.run nq,0⟩))→G.next+1≤nq→Caught G1 h (.run G.next) (.run nq) true→HB G1 h b (ID:Int) (E:Int) (M:Int) s r S c g B→Turns (fun c=>c=b∨c=h) G G1 →
   wp (loopF (runC (U lf K (n+6)) lf c14_l0) lf ⟨t,G1,[]⟩) fun x s'=>x=.ex 0∧s'.d=[]∧∃ E' S' c' B',Saved M E ID s r S g B E' S' c' B'∧HB s'.H h b (ID:Int) (E':Int) (M:Int) s r S' c' g B'∧Turns (fun c=>c=b∨c=h) G s'.H:=by
  intro t G1 nq q1 q3 hq hc hh1 ht
  have hmuM:=mu_le B S M
  refine wp_loopF (fun u s'=>s'.d=[]∧s'.t.getP (Tr.path 1)=some (.ptr (some ⟨.run G.next,0⟩))∧∃ nq z,s'.t.getP (Tr.path 3)=some (.ptr (some ⟨.run nq,0⟩))∧G.next+1≤nq∧Caught s'.H h (.run G.next) (.run nq) z∧Turns (fun c=>c=b∨c=h) G s'.H ∧
    ((z=true∧∃ k1 E1 S1 c1 B1,u=mu B1 S1 M+1∧Mid M E ID s r S B k1 E1 S1 c1 B1∧HB s'.H h b (ID:Int) (E1:Int) (M:Int) s r S1 c1 g B1) ∨
     (z=false∧u=0∧∃ E' S' c' B',Saved M E ID s r S g B E' S' c' B'∧HB s'.H h b (ID:Int) (E':Int) (M:Int) s r S' c' g B')))
   ?_ lf (mu B S M+1) _ ⟨rfl,q1,nq,true,q3,hq,hc,ht,.inl ⟨rfl,k,E,S,c,B,rfl,⟨hp,by omega,hh.hull.len,fun j=>.inl rfl,fun _ _=>rfl,fun _ _=>rfl⟩,hh1⟩⟩ (by have:=hp.calm.le;omega)
  rintro u ⟨t,G2,d⟩ ⟨hd,q1,nq,z,q3,hq,hc,ht,⟨rfl,k1,E1,S1,c1,B1,rfl,hM1,hh2⟩ | ⟨rfl,rfl,hsaved⟩⟩
  ·dsimp only at hd q1 q3 hc ht hh2
   subst hd
   have hcz:=hc.z
   have hch:=hc.h
   have own:=hh2.hull.own
   have n1:=ne_of_get hc.h own (by simp)
   have n2:=ne_of_get hc.z own (by simp)
   have n3:=ne_of_get own hc.z (by simp)
   have n4:=ne_of_get own hc.h (by simp)
   have n5:=ne_of_get hc.h hh2.bench (by intro e;cases e)
   have n6:=ne_of_get hc.z hh2.bench (by intro e;cases e)
   have n7:(G.next=nq)=False:=by simp;omega
   have n8:(nq=G.next)=False:=by simp;omega
   obtain⟨E2,hE2⟩:∃ e,e=E1+1:=⟨_,rfl⟩
   have lev:cut (hcells b (ID:Int) (E1:Int) (M:Int) s r S1 c1 g) 2 1=some [.int .u64 (E1:Int)]:=rfl
   have pev:=put_hev (S:=S1) b (ID:Int) (E1:Int) (E2:Int) (M:Int) s r c1 g
   have hlim:=hM1.ready.hE
   have wev:IntKind.u64.wrap ((E1:Int)+1)=(E2:Int):=by
    rw[show (E1:Int)+1=(E2:Int) by omega]
    exact wrap_u64 (by omega)
   have hpre:Pre M k1 E1 E2 ID s r S1 c1 B1:=by rw[hE2];exact hM1.ready.pre
   have gA:∀ x:Bk,((G2.set (.run nq) (.rows false 1 [[.bool false]])).set h (.rows false 24 [hcells b (ID:Int) (E2:Int) (M:Int) s r S1 c1 g])).get x=if x=h then some (.rows false 24 [hcells b (ID:Int) (E2:Int) (M:Int) s r S1 c1 g]) else if x=.run nq then some (.rows false 1 [[.bool false]]) else G2.get x:=fun x=>by rw[Heap.get_set,Heap.get_set]
   have hbA:HB ((G2.set (.run nq) (.rows false 1 [[.bool false]])).set h (.rows false 24 [hcells b (ID:Int) (E2:Int) (M:Int) s r S1 c1 g])) h b (ID:Int) (E2:Int) (M:Int) s r S1 c1 g B1:=by
    refine⟨⟨by rw[gA,if_pos rfl],hM1.len,by simpa using hh2.hull.old⟩,?_,by simpa using hh2.old,hh2.fit⟩
    have m1:=hh2.ne
    rw[gA,if_neg (fun e=>by have e':=e.symm;rw[m1] at e';exact e'),if_neg (fun e=>by have e':=e.symm;rw[n6] at e';exact e')]
    exact hh2.bench
   have hcA:Caught ((G2.set (.run nq) (.rows false 1 [[.bool false]])).set h (.rows false 24 [hcells b (ID:Int) (E2:Int) (M:Int) s r S1 c1 g])) h (.run G.next) (.run nq) false:=by
    refine⟨?_,?_,by simpa using hc.op,by simpa using hc.oq⟩
    ·rw[gA,if_neg (fun e=>by rw[n1] at e;exact e),if_neg (by simp;omega)];exact hc.h
    ·rw[gA,if_neg (fun e=>by rw[n2] at e;exact e),if_pos rfl]
   have tA:Turns (fun c=>c=b∨c=h) G ((G2.set (.run nq) (.rows false 1 [[.bool false]])).set h (.rows false 24 [hcells b (ID:Int) (E2:Int) (M:Int) s r S1 c1 g])):=by
    refine Turns.setr (Turns.setn ht nq (by omega) _) _
   obtain⟨v,G3,e3,he⟩:=ueach hlf hbA hcA hpre n (K:=K)
   rcases he with ⟨rfl,B2,hR,hb3,ht3⟩ | ⟨rfl,B2,i,hi,hs,hdd,hR,hb3,hown3,hz3,ht3⟩
   ·have hf3:Fit B2:=hR.calm.fit (by have:=hM1.ready.hk;have:=hM1.ready.calm.le;omega)
    have hh3:=hbA.step ht3 hb3 hf3
    have hc3:=hcA.step hbA.bench ht3
    simp (maxDischargeDepth:=12) only[c14_l0,mkfnF,q1,q3,hcz,hch,own,n1,n2,n3,n4,n7,n8,lev,pev,wev,e3,hc3.h,hc3.z,hv,ldO_one,stO_one,sy,tup,↓reduceIte,zA,zG,zC,zD,zF,zE,zB,zH,reduceCtorEq]
    obtain⟨ca,ta⟩:=hc3.again false
    refine⟨0,by omega,trivial,trivial,G3.next,false,rfl,?_,ca,?_,.inr ⟨rfl,rfl,E2,S1,c1,B2,?_,hh3.turns ta⟩⟩
    ·have:=tA.next;have:=ht3.next;have:=hc3.op;have h':G.next < G3.next:=this;omega
    ·exact(tA.trans (ht3.wide (fun c hc=>.inl hc))).trans (ta.wide (fun c hc=>hc.elim))
    ·rw[hE2];exact hM1.done hR
   ·have hf3:Fit B2:=hR.calm.fit (by have:=hM1.ready.hk;have:=hM1.ready.calm.le;omega)
    have tq:Turns (fun c=>c=b∨c=h) G G3:=Turns.drop (q:=.run nq) tA (ht3.wide (fun c hc=>by
     rcases hc with hc | hc | hc
     ·exact .inl (.inl hc)
     ·exact .inl (.inr hc)
     ·exact .inr hc)) (Heap.not_old (by omega))
    have hopG:(.run G.next:Bk)≠b∧(.run G.next:Bk)≠h∧(.run G.next:Bk)≠.run nq:=⟨fun e=>by rw[n5] at e;exact e,fun e=>by rw[n1] at e;exact e,by simp;omega⟩
    have hcp:G3.get (.run G.next)=some (.rows false 1 [[.ptr (some ⟨h,0⟩)]]):=(ht3.same _ hcA.op (fun e=>by
     rcases e with e | e | e
     ·exact hopG.1 e
     ·exact hopG.2.1 e
     ·exact hopG.2.2 e)).trans hcA.h
    have hc3:Caught G3 h (.run G.next) (.run nq) true:=⟨hcp,hz3,hcA.op.mono ht3.next,hcA.oq.mono ht3.next⟩
    have hh3:HB G3 h b (ID:Int) (E2:Int) (M:Int) s r (S1.set i 1) (loseC S1 c1 i) g B2:=⟨⟨hown3,by simp[hM1.len],hbA.hull.old.mono ht3.next⟩,hb3,hbA.old.mono ht3.next,hf3⟩
    simp (maxDischargeDepth:=12) only[c14_l0,mkfnF,q1,q3,hcz,hch,own,n1,n2,n3,n4,n7,n8,lev,pev,wev,e3,hc3.h,hc3.z,hv,ldO_one,stO_one,sy,tup,↓reduceIte,zA,zG,zC,zD,zF,zE,zB,zH,reduceCtorEq]
    obtain⟨ca,ta⟩:=hc3.again true
    have hmid:=hM1.lose hi hs hdd hR
    rw[← hE2] at hmid
    have hmu:=mu_set (B:=B1) (i:=i) (S:=S1) (by have:=hM1.len;have:=hM1.ready.calm.le;omega) hdd hs M
    rw[if_pos hi] at hmu
    have hmc:=mu_congr (B:=B1) (B':=B2) (S:=S1.set i 1) hR.dd
    refine⟨mu B2 (S1.set i 1) M+1,by omega,trivial,trivial,G3.next,true,rfl,?_,ca,tq.trans (ta.wide (fun c hc=>hc.elim)),.inl ⟨rfl,_,E2,_,_,B2,rfl,hmid,hh3.turns ta⟩⟩
    have:=hc3.op;have h':G.next < G3.next:=this;omega
  ·dsimp only at hd q1 q3 hc ht hsaved
   subst hd
   have hcz:=hc.z
   simp (maxDischargeDepth:=12) only[c14_l0,q1,q3,hcz,hv,ldO_one,stO_one,sy,tup,↓reduceIte,zA,zG,zC,zD,zF,zE,zB,zH,reduceCtorEq]
   exact⟨trivial,trivial,hsaved.imp fun E' h=>h.imp fun S' h=>h.imp fun c' h=>h.imp fun B' h=>⟨h.1,h.2,ht⟩⟩
 have hcS:Caught (((G.add (.rows false 1 [[.ptr (some ⟨h,0⟩)]])).add (.rows false 1 [[.bool false]])).set (.run (G.next+1)) (.rows false 1 [[.bool true]])) h (.run G.next) (.run (G.next+1)) true:=by
  refine⟨?_,by rw[Heap.get_set,if_pos rfl],by show _ < _;simp;omega,by show _ < _;simp⟩
  rw[Heap.get_set,if_neg (by simp),Heap.get_add,if_neg (by simp),Heap.get_add,if_pos rfl]
 have t2:Turns Z G (((G.add (.rows false 1 [[.ptr (some ⟨h,0⟩)]])).add (.rows false 1 [[.bool false]])).set (.run (G.next+1)) (.rows false 1 [[.bool true]])):=by
  refine Turns.setn ?_ _ (by omega) _
  repeat (first | exact Turns.refl _ _ | apply Turns.skip | apply Turns.addm | apply Turns.setb | apply Turns.setl | apply Turns.setr | refine Turns.setn ?_ _ (by omega) _ | refine Turns.trans ?_ (tF _))
 refine wp_ctx (F:=fun r=>seqC _ _ _ (blockC _ r)) (hloop _ _ (G.next+1) ?_ ?_ (Nat.le_refl _) hcS (hh.turns t2) (t2.wide (fun c hc=>hc.elim))) ?_
 ·simp only[sy,tup,↓reduceIte,zA,zG,zC,zD,zF,zE,zB,zH,reduceCtorEq]
 ·simp only[sy,tup,↓reduceIte,zA,zG,zC,zD,zF,zE,zB,zH,reduceCtorEq]
 rintro x ⟨t,G1,d⟩ ⟨rfl,hd,hs⟩
 dsimp only at hd hs
 subst hd
 simp only[sy,tup,↓reduceIte,zA,zG,zC,zD,zF,zE,zB,zH,reduceCtorEq]
 exact⟨trivial,.inr trivial,_,rfl,rfl,hs⟩
end
end Go.Proofs.YtabebpemfinejaaGreat.draft
namespace Go.Proofs.YtabebpemfinejaaGreat.draft
open Go.Am
section
variable {m s r c:Int} {g:Bool} {S:List Nat} (hS:S.length=16) (hf:fine m s r S c)
include hS hf
end
end Go.Proofs.YtabebpemfinejaaGreat.draft
namespace Go.Proofs.YtabebpemfinejaaGreat.draft
open Go.Am
section
variable {m s r c:Int} {g:Bool} {S:List Nat} (hS:S.length=16) (hf:fine m s r S c)
include hS hf
end
end Go.Proofs.YtabebpemfinejaaGreat.draft
namespace Go.Proofs.YtabebpemfinejaaGreat.draft
open Go.Am
open disk (bx Fit A1 R1 Low)
noncomputable def c11:CFn:=⟨[.cell (pp 2) 21 .ag,.tmp (pp 3)],
 .seq (.reg [
 qo 1 (.m (boxF 3 (tt 0))) [pp 0],
 qo 2 (.m (allocF 21 [.int .i64 0,.int .i64 0,.int .i64 0,.int .u8 0,.int .u8 0,.int .u8 0,.int .u8 0,.int .u8 0,.int .u8 0,.int .u8 0,.int .u8 0,.int .u8 0,.int .u8 0,.int .u8 0,.int .u8 0,.int .u8 0,.int .u8 0,.int .u8 0,.int .u8 0,.int .i64 0,.bool false])) [],
 qo 3 (.p (S.get (ii 0))) []]) (
 .seq (.reg [
 qo 5 (.r (loadF (tt 1) 3 .ag)) [pp 1],
 qo 6 (.p (buildF [.int .i64 0,.int .i64 0,.int .i64 0,.int .u8 0,.int .u8 0,.int .u8 0,.int .u8 0,.int .u8 0,.int .u8 0,.int .u8 0,.int .u8 0,.int .u8 0,.int .u8 0,.int .u8 0,.int .u8 0,.int .u8 0,.int .u8 0,.int .u8 0,.int .u8 0,.int .i64 0,.bool false] .ag [(0,3,(tt 5))])) [pp 5],
 qo 4 (.m (allocF 21 [.int .i64 0,.int .i64 0,.int .i64 0,.int .u8 0,.int .u8 0,.int .u8 0,.int .u8 0,.int .u8 0,.int .u8 0,.int .u8 0,.int .u8 0,.int .u8 0,.int .u8 0,.int .u8 0,.int .u8 0,.int .u8 0,.int .u8 0,.int .u8 0,.int .u8 0,.int .i64 0,.bool false])) [],
 qn (.a (storeF (tt 4) (tt 6) 21)) [pp 4,pp 6]]) (
 .seq (.seq (.reg [
 qo 7 (.r (loadF (tt 4) 21 .ag)) [pp 4],
 qo 8 (.c (callF (ff 45) [(tt 7)])) [pp 7],
 qo 9 (.p (unF .not (tt 8))) [pp 8]]) (
 .cond (tt 9) (.seq (.reg [
 qo 10 (.p (buildF [.int .i64 0,.int .i64 0,.int .i64 0,.int .u8 0,.int .u8 0,.int .u8 0,.int .u8 0,.int .u8 0,.int .u8 0,.int .u8 0,.int .u8 0,.int .u8 0,.int .u8 0,.int .u8 0,.int .u8 0,.int .u8 0,.int .u8 0,.int .u8 0,.int .u8 0,.int .i64 0,.bool false] .ag [])) [],
 qn (.a (storeF (tt 2) (tt 10) 21)) [pp 2,pp 10],
 qo 3 (.p (S.get (ii 2))) []]) (
 .ret)) (.skip))) (
 .seq (.reg [
 qo 11 (.r (loadF (tt 4) 21 .ag)) [pp 4],
 qn (.a (storeF (tt 2) (tt 11) 21)) [pp 2,pp 11],
 qo 3 (.p (S.get (ii 0))) []]) (
 .ret))))⟩
theorem c11_eq:fnOf Tryz.prog 11=some c11:=by kernel_rfl
theorem put_zg (m s r:Int):Go.Am.put zros 0 [.int .i64 m,.int .i64 s,.int .i64 r]=some (rcells m s r (List.replicate 16 0) 0 false):=rfl
section
variable {lf K:Nat} (hlf:1000 < lf)
include hlf
theorem ufine {m s r c:Int} {g:Bool} {S:List Nat} (hS:S.length=16) (hf:fine m s r S c) (H:Heap) (n:Nat):U lf K (n+1) 45 [ros m s r S c g] H=some (.v (.bool true),H.skip (K+2)):=qp_ashlarref08_Fine (fun H=>by
 obtain⟨v,H',e,⟨z,rfl,hz⟩,t⟩:=fine_ok H (m:=m) (s:=s) (r:=r) (c:=c) (g:=g) hS lf 58 (by omega)
 exact⟨_,H',e,by rw[hz.2 hf],t⟩)
theorem umay {m s r c:Int} {g:Bool} {S:List Nat} (hS:S.length=16) (hf:fine m s r S c) (H:Heap) (n:Nat):U lf K (n+1) 47 [ros m s r S c g] H=some (.v (.bool true),H.skip (K+2)):=qp_roster_May (fun H=>by
 obtain⟨v,H',e,⟨z,rfl,hz⟩,t⟩:=pmay_ok H (m:=m) (s:=s) (r:=r) (c:=c) (g:=g) hS lf 57 (by omega)
 exact⟨_,H',e,by rw[hz.2 hf],t⟩)
theorem unew10 {m s r:Int} (hf:fine m s r (List.replicate 16 0) 0) (G:Heap) (n:Nat):ret (U lf K (n+2) 11 [geo m s r] G) fun v G'=>v=.tuple [ros m s r (List.replicate 16 0) 0 false,.int .i64 0]∧Turns Z G G':=by
 have e:∀ H:Heap,U lf K (n+1) 45 _ H=_:=fun H=>ufine hlf (g:=false) (by simp) hf H n
 have hz:=put_zg m s r
 have hw:=r_width (S:=List.replicate 16 0) (by simp) m s r 0 false
 have hp:Go.Am.put zros 0 (rcells m s r (List.replicate 16 0) 0 false)=some (rcells m s r (List.replicate 16 0) 0 false):=put_r (by simp)
 have hc:cut (rcells m s r (List.replicate 16 0) 0 false) 0 21=some (rcells m s r (List.replicate 16 0) 0 false):=by
  rw[cut_thin (r_thin _ _ _ _ _ _) (by rw[r_len (by simp)];exact Nat.le_refl _)]
  rw[List.drop_zero,List.take_of_length_le (by rw[r_len (by simp)];exact Nat.le_refl _)]
 have hg:cut [V.int .i64 m,V.int .i64 s,V.int .i64 r] 0 3=some [V.int .i64 m,V.int .i64 s,V.int .i64 r]:=rfl
 unfold zros at hz hp
 unfold ros at e ⊢
 unfold geo
 refine ret_callU rfl rfl c11_eq ?_
 simp (maxDischargeDepth:=12) only[c11,e,hz,hw,hp,hc,hg,hv,ldO_one,stO_one,sy,tup,↓reduceIte,zA,zG,zC,zD,zF,zE,zB,zH,reduceCtorEq]
 refine⟨trivial,.inr trivial,_,rfl,rfl,?_⟩
 repeat (first | exact Turns.refl _ _ | apply Turns.skip | apply Turns.addm | apply Turns.setb | apply Turns.setl | apply Turns.setr | refine Turns.setn ?_ _ (by omega) _ | refine Turns.trans ?_ (tF _))
theorem uhnew {G:Heap} {b:Bk} {B:disk.Bn} (hb:G.get b=some (bx false B)) (hf:Fit B) (bo:G.Old b) {id ev m s r c:Int} {g:Bool} {S:List Nat} (hS:S.length=16) (hid0:id≠0) (hev:ev≤2305843009213693952) (hfn:fine m s r S c) (hm:(B.l.length:Int)=m+1)
  (hsec:∀ d,0≤d∧d < m→s+2≤B.sectors d) (n:Nat):ret (U lf K (n+3) 12 [.ptr (some ⟨b,0⟩),.int .u64 id,.int .u64 ev,ros m s r S c g] G) fun v G'=>∃ h,v=.tuple [.ptr (some ⟨h,0⟩),.int .i64 0]∧HB G' h b id ev m s r S c g B∧¬ G.Old h∧Turns Z G G':=by
 have e1:∀ H:Heap,H.get b=some (bx false B)→U lf K (n+2) 46 [.ptr (some ⟨b,0⟩)] H=_:=fun H h=>qDevices h hf
 have e2:∀(H:Heap) (d:Int),H.get b=some (bx false B)→U lf K (n+2) 48 [.ptr (some ⟨b,0⟩),.int .i64 d] H=_:=fun H d h=>qSectors h hf d
 have e3:∀ H:Heap,U lf K (n+2) 47 _ H=_:=fun H=>umay hlf (g:=g) hS hfn H (n+1)
 rw[hm] at e1
 have hw:=r_width hS m s r c g
 have hw24:=h_width hS b id ev m s r c g
 have pf:=put_h (b:=b) (id:=id) (ev:=ev) (m:=m) (s:=s) (r:=r) (c:=c) (g:=g) hS
 have lc0:cut (rcells m s r S c g) 0 1=some [.int .i64 m]:=rfl
 have lc1:cut (rcells m s r S c g) 1 1=some [.int .i64 s]:=rfl
 have hc:cut (rcells m s r S c g) 0 21=some (rcells m s r S c g):=by
  rw[cut_thin (r_thin _ _ _ _ _ _) (by rw[r_len hS];exact Nat.le_refl _)]
  rw[List.drop_zero,List.take_of_length_le (by rw[r_len hS];exact Nat.le_refl _)]
 obtain⟨bm,bs,br⟩:=may_t hfn.1
 have b0:(m+1==0)=false:=by simp;omega
 have b1:(id==0)=false:=by simp[hid0]
 have b2:¬ (2305843009213693952 < ev):=by omega
 have wm:IntKind.i64.wrap (m+1)=m+1:=wrap_i64 (by omega)
 have ws:IntKind.i64.wrap (2+s)=2+s:=wrap_i64 (by omega)
 have hloop:∀(t:T) (G1:Heap),t.getP (Tr.path 0)=some (.ptr (some ⟨b,0⟩))→t.getP (Tr.path 1)=some (.int .u64 id)→t.getP (Tr.path 2)=some (.int .u64 ev)→t.getP (Tr.path 7)=some (.ptr (some ⟨.run G.next,0⟩))→t.getP (Tr.path 36)=some (.int .i64 m)→t.getP (Tr.path 37)=some (.int .i64 0)→G1.get (.run G.next)=some (.rows false 21 [rcells m s r S c g])→G.next < G1.next→Turns Z G G1 →
   wp (loopF (runC (U lf K (n+2)) lf c12_l0) lf ⟨t,G1,[]⟩) fun x s'=>x=.ex 0∧s'.d=[]∧s'.t.getP (Tr.path 0)=some (.ptr (some ⟨b,0⟩))∧s'.t.getP (Tr.path 1)=some (.int .u64 id)∧s'.t.getP (Tr.path 2)=some (.int .u64 ev)∧s'.t.getP (Tr.path 7)=some (.ptr (some ⟨.run G.next,0⟩))∧s'.H.get (.run G.next)=some (.rows false 21 [rcells m s r S c g])∧Turns Z G s'.H:=by
  intro t G1 q0 q1 q2 q7 q36 q37 hg hn ht
  refine wp_loopF (fun j s'=>∃ i:Nat,(j:Int)=m - i∧(i:Int)≤m∧s'.d=[]∧s'.t.getP (Tr.path 0)=some (.ptr (some ⟨b,0⟩))∧s'.t.getP (Tr.path 1)=some (.int .u64 id)∧s'.t.getP (Tr.path 2)=some (.int .u64 ev)∧s'.t.getP (Tr.path 7)=some (.ptr (some ⟨.run G.next,0⟩))∧s'.t.getP (Tr.path 36)=some (.int .i64 m)∧s'.t.getP (Tr.path 37)=some (.int .i64 (i:Int))∧s'.H.get (.run G.next)=some (.rows false 21 [rcells m s r S c g])∧G.next < s'.H.next∧Turns Z G s'.H)
   ?_ lf m.toNat _ ⟨0,by omega,by omega,rfl,q0,q1,q2,q7,q36,q37,hg,hn,ht⟩ (by omega)
  rintro j ⟨t,G2,dd⟩ ⟨i,hj,hi,hd,q0,q1,q2,q7,q36,q37,hg,hn,ht⟩
  dsimp only at hd q0 q1 q2 q7 q36 q37 hg hn ht
  subst hd
  have hB:G2.get b=some (bx false B):=(ht.same b bo (fun h=>h)).trans hb
  by_cases hlt:(i:Int) < m
  ·have w1:IntKind.i64.wrap ((i:Int)+1)=((i+1:Nat):Int):=by rw[wrap_i64 (by omega)];omega
   have hs2:=hsec (i:Int) ⟨by omega,hlt⟩
   have b3:¬ (B.sectors (i:Int) < 2+s):=by omega
   obtain⟨Q,hQ⟩:∃ Q:List (Option V × Option V),Q=[(loadF (.t (Tr.path 44)) 1 .sc (Tr.setP (Tr.path 44) (.ptr (some ⟨.run G.next,1⟩)) .e) G2,some (.int .i64 s)),(loadF (.t (Tr.path 44)) 1 .sc (Tr.setP (Tr.path 44) (.ptr (some ⟨.run G.next,1⟩)) .e) (G2.skip (K+2)),some (.int .i64 s))]:=⟨_,rfl⟩
   have hQ':∀ x ∈ Q,x.1=x.2:=by
    rw[hQ]
    intro x hx
    simp only[List.mem_cons,List.not_mem_nil,or_false] at hx
    rcases hx with rfl | rfl<;>simp (maxDischargeDepth:=12) only[hg,lc1,hv,ldO_one,stO_one,sy,tup,↓reduceIte,zA,zG,zC,zD,zF,zE,zB,zH,reduceCtorEq]
   simp (maxDischargeDepth:=12) only[c12_l0,q0,q1,q2,q7,q36,q37,hlt,e2,hB,hg,lc1,ws,b3,hv,ldO_one,stO_one,sy,tup,↓reduceIte,zA,zG,zC,zD,zF,zE,zB,zH,reduceCtorEq]
   rw[endD_q (q:=Q) (by kernel_rfl) (by rw[hQ];kernel_rfl)]
   simp (maxDischargeDepth:=12) only[q0,q1,q2,q7,q36,q37,w1,hv,ldO_one,stO_one,sy,tup,↓reduceIte,zA,zG,zC,zD,zF,zE,zB,zH,reduceCtorEq]
   refine⟨j - 1,by omega,i+1,by omega,by omega,trivial,trivial,trivial,trivial,trivial,trivial,by simp,hg,?_,(ht.skip _).owe hQ'⟩
   omega
  ·simp (maxDischargeDepth:=12) only[c12_l0,q0,q1,q2,q7,q36,q37,hlt,hv,ldO_one,stO_one,sy,tup,↓reduceIte,zA,zG,zC,zD,zF,zE,zB,zH,reduceCtorEq]
   exact⟨trivial,trivial,trivial,trivial,trivial,trivial,hg,ht⟩
 refine ret_callU rfl rfl c12_eq ?_
 unfold ros at e3 ⊢
 simp (maxDischargeDepth:=12) only[c12,e1,e3,hb,bo.ne,b0,b1,b2,wm,hw,lc0,hc,beq_self_eq_true,hv,ldO_one,stO_one,sy,tup,↓reduceIte,zA,zG,zC,zD,zF,zE,zB,zH,reduceCtorEq]
 obtain⟨Q,hQ⟩:∃ Q:List (Option V × Option V),Q=[(loadF (.t (Tr.path 29)) 1 .sc (Tr.setP (Tr.path 29) (.ptr (some ⟨.run G.next,0⟩)) .e) (((G.add (.rows false 21 [rcells m s r S c g])).skip (K+2)).skip (K+2)),some (.int .i64 m)),(loadF (.t (Tr.path 29)) 1 .sc (Tr.setP (Tr.path 29) (.ptr (some ⟨.run G.next,0⟩)) .e) ((((G.add (.rows false 21 [rcells m s r S c g])).skip (K+2)).skip (K+2)).skip (K+2)),some (.int .i64 m))]:=⟨_,rfl⟩
 rw[endD_q (q:=Q) (by kernel_rfl) (by rw[hQ];kernel_rfl)]
 have hQ':∀ x ∈ Q,x.1=x.2:=by
  rw[hQ]
  intro x hx
  simp only[List.mem_cons,List.not_mem_nil,or_false] at hx
  rcases hx with rfl | rfl<;>simp (maxDischargeDepth:=12) only[lc0,hv,ldO_one,stO_one,sy,tup,↓reduceIte,zA,zG,zC,zD,zF,zE,zB,zH,reduceCtorEq]
 simp (maxDischargeDepth:=12) only[lc0,hv,ldO_one,stO_one,sy,tup,↓reduceIte,zA,zG,zC,zD,zF,zE,zB,zH,reduceCtorEq]
 refine wp_ctx (F:=fun r=>seqC _ _ _ (blockC _ r)) (hloop _ _ ?_ ?_ ?_ ?_ ?_ ?_ ?_ ?_ ?_) ?_
 ·simp only[sy,tup,↓reduceIte,zA,zG,zC,zD,zF,zE,zB,zH,reduceCtorEq]
 ·simp only[sy,tup,↓reduceIte,zA,zG,zC,zD,zF,zE,zB,zH,reduceCtorEq]
 ·simp only[sy,tup,↓reduceIte,zA,zG,zC,zD,zF,zE,zB,zH,reduceCtorEq]
 ·simp only[sy,tup,↓reduceIte,zA,zG,zC,zD,zF,zE,zB,zH,reduceCtorEq]
 ·simp only[sy,tup,↓reduceIte,zA,zG,zC,zD,zF,zE,zB,zH,reduceCtorEq]
 ·simp only[sy,tup,↓reduceIte,zA,zG,zC,zD,zF,zE,zB,zH,reduceCtorEq]
 ·simp (maxDischargeDepth:=12) only[hv,ldO_one,stO_one,sy,tup,↓reduceIte,zA,zG,zC,zD,zF,zE,zB,zH,reduceCtorEq]
 ·show G.next < G.next+1+(K+2)+(K+2)+(K+2);omega
 ·refine Turns.owe ?_ hQ'
  repeat (first | exact Turns.refl _ _ | apply Turns.skip | apply Turns.addm | apply Turns.setb | apply Turns.setl | apply Turns.setr | refine Turns.setn ?_ _ (by omega) _ | refine Turns.trans ?_ (tF _))
 rintro x ⟨t,G2,d⟩ ⟨rfl,hd,q0,q1,q2,q7,hg,ht⟩
 dsimp only at hd q0 q1 q2 q7 hg ht
 subst hd
 simp (maxDischargeDepth:=12) only[q0,q1,q2,q7,hg,hc,hw,pf,hw24,hv,ldO_one,stO_one,sy,tup,↓reduceIte,zA,zG,zC,zD,zF,zE,zB,zH,reduceCtorEq]
 refine⟨trivial,.inr trivial,_,rfl,.run G2.next,rfl,⟨⟨by rw[Heap.get_add,if_pos rfl],hS,by show _ < _;simp⟩,?_,(bo.mono ht.next).mono (by simp),hf⟩,Heap.not_old ht.next,ht.addm _⟩
 rw[Heap.get_add,if_neg (fun e=>by have:=(bo.mono ht.next).ne G2.next (Nat.le_refl _);rw[this] at e;exact e)]
 exact(ht.same b bo (fun h=>h)).trans hb
theorem uhroster {G:Heap} {h b:Bk} {id ev m s r:Int} {S:List Nat} {c:Int} {g:Bool} {B:disk.Bn} (hh:HB G h b id ev m s r S c g B) (n:Nat):ret (U lf K (n+2) 16 [.ptr (some ⟨h,0⟩)] G) fun v G'=>v=ros m s r S c g∧Turns Z G G':=by
 have hS:=hh.hull.len
 have own:=hh.hull.own
 have ho:=hh.hull.old
 have lr:cut (hcells b id ev m s r S c g) 3 21=some (rcells m s r S c g):=by
  have:=hl_r hh.hull
  rw[ld_get,own,ldO_one (by omega)] at this
  exact this
 have hw:=r_width hS m s r c g
 have hp:=put_r (m:=m) (s:=s) (r:=r) (c:=c) (g:=g) hS
 have hc:cut (rcells m s r S c g) 0 21=some (rcells m s r S c g):=by
  rw[cut_thin (r_thin _ _ _ _ _ _) (by rw[r_len hS];exact Nat.le_refl _)]
  rw[List.drop_zero,List.take_of_length_le (by rw[r_len hS];exact Nat.le_refl _)]
 have e1:=unone hlf (hh.turns (Turns.add Z G (.rows false 21 [zros]))) n (K:=K)
 unfold zros at hp e1
 refine ret_callU rfl rfl c16_eq ?_
 unfold ros
 simp (maxDischargeDepth:=12) only[c16,e1,own,ho.ne,lr,hw,hp,hc,hv,ldO_one,stO_one,sy,tup,↓reduceIte,zA,zG,zC,zD,zF,zE,zB,zH,reduceCtorEq]
 refine⟨trivial,.inr trivial,_,rfl,rfl,?_⟩
 repeat (first | exact Turns.refl _ _ | apply Turns.skip | apply Turns.addm | apply Turns.setb | apply Turns.setl | apply Turns.setr | refine Turns.setn ?_ _ (by omega) _ | refine Turns.trans ?_ (tF _))
theorem uhevent {G:Heap} {h b:Bk} {id ev m s r:Int} {S:List Nat} {c:Int} {g:Bool} {B:disk.Bn} (hh:HB G h b id ev m s r S c g B) (n:Nat):U lf K (n+2) 15 [.ptr (some ⟨h,0⟩)] G=some (.v (.int .u64 ev),G):=by
 have l:=hl_ev hh.hull
 have e1:=unone hlf hh n (K:=K)
 obtain⟨v,H',e,rfl,rfl⟩:ret (U lf K (n+2) 15 [.ptr (some ⟨h,0⟩)] G) fun v H'=>v=.int .u64 ev∧H'=G:=by
  refine ret_callU rfl rfl c15_eq ?_
  simp only[c15,e1,l,sy,tup,↓reduceIte,zA,zG,zC,zD,zF,zE,zB,zH,reduceCtorEq]
  simp
 exact e
end
end Go.Proofs.YtabebpemfinejaaGreat.draft
namespace Go.Proofs.YtabebpemfinejaaGreat.disk
open Go.Am
structure Same (B C:Bn):Prop where
 len:C.l.length=B.l.length
 sec:∀ d,C.sectors d=B.sectors d
 dk:B.ar=0→B.dk=false→C.ar=0∧C.dk=false
theorem Same.trans {A B C:Bn} (h:Same A B) (k:Same B C):Same A C:=⟨k.len.trans h.len,fun d=>(k.sec d).trans (h.sec d),fun a b=>k.dk (h.dk a b).1 (h.dk a b).2⟩
theorem Same.refl (B:Bn):Same B B:=⟨rfl,fun _=>rfl,fun a b=>⟨a,b⟩⟩
end Go.Proofs.YtabebpemfinejaaGreat.disk
namespace Go.Proofs.YtabebpemfinejaaGreat.draft
open Go.Am
def sizes (k:Nat):List Int:=List.replicate k 6++[50]
def rowsI (l:List Int):List (List V):=l.map fun n:Int=>[V.int .i64 n]
theorem rowsI_len (l:List Int):(rowsI l).length=l.length:=by unfold rowsI;simp
theorem appI {H1 HH:Heap} {ks:List Int} {y:V} (hy:Lst H1 HH 1 (rowsI ks) y) (tz:Turns Z H1 HH) (hl:ks.length≤16) (u:Int):∃ H',appendV 1 8 (HH.add (.rows false 1 [[.int .i64 u]])) y (.slice (some ⟨.run HH.next,0⟩) 1 1 0)=some (.slice (some ⟨.run (HH.next+1),0⟩) (ks.length+1) (ks.length+1) 1,H')∧Lst H1 H' 1 (rowsI (ks++[u])) (.slice (some ⟨.run (HH.next+1),0⟩) (ks.length+1) (ks.length+1) 1)∧Turns Z H1 H':=by
 have ta:=Turns.add Z HH (.rows false 1 [[.int .i64 u]])
 have hxg:(HH.add (.rows false 1 [[.int .i64 u]])).get (.run HH.next)=some (.rows false 1 [[.int .i64 u]]):=by rw[Heap.get_add,if_pos rfl]
 have hya:=hy.turns ta (fun _ _=>id)
 have hl':=rowsI_len ks
 obtain⟨H',ea,hv',ta',_⟩:=hya.app1 (by':=8) (Nat.le_trans tz.next ta.next) hxg rfl (by decide) (by rw[hl'];omega) (by rw[hl'];omega)
 rw[hl',Heap.next_add] at ea hv'
 have hR:rowsI ks++[[.int .i64 u]]=rowsI (ks++[u]):=by unfold rowsI;simp
 rw[hR] at hv'
 exact⟨H',ea,hv',lst_away hya (tz.trans ta) (Nat.le_refl _) ta'⟩
theorem picks_lst {H0 H:Heap} {P:List Int} {v:V} (h:Lst H0 H 1 (rowsI P) v) (hP:P≠[]):∃ p,v=.slice p P.length P.length 1∧disk.PicksAt H p P disk.Z:=by
 rcases h with ⟨e,_⟩ | ⟨k,_,rfl,hg,h1,h2⟩
 ·cases P with
  | nil=>exact absurd rfl hP
  | cons=>cases e
 ·rw[rowsI_len]
  refine⟨_,rfl,⟨fun _=>⟨.run k,0,false,_,rfl,h2,fun h=>h,hg,fun i hi=>?_⟩⟩⟩
  unfold rowsI
  rw[Nat.zero_add,List.getElem?_map,List.getElem?_eq_getElem hi];rfl
end Go.Proofs.YtabebpemfinejaaGreat.draft
namespace Go.Proofs.YtabebpemfinejaaGreat.draft
open Go.Am
open disk (Fit Bok Dev Bn Good)
theorem Calm.fail {m k:Nat} {B:Bn} (h:Calm m k B) {i:Nat} (hi:i < m):B.tc (i:Int)=0∧Calm m (k+1) (B.fail (i:Int))∧∀ j:Nat,j < m+1→(B.fail (i:Int)).dev (j:Int)=if j=i then(B.dev (i:Int)).fail else B.dev (j:Int):=by
 have htc:=h.tc hi
 have hlen:=h.len
 have e:B.fail (i:Int)=⟨B.l.set i (B.dev (i:Int)).fail,B.st,B.ar,B.dk⟩:=by
  unfold Bn.fail
  rw[if_pos htc]
  rfl
 have dv:∀ j:Nat,j < m+1→(B.fail (i:Int)).dev (j:Int)=if j=i then(B.dev (i:Int)).fail else B.dev (j:Int):=fun j hj=>by
  rw[e];exact dev_set (by omega) _ _ _ _
 refine⟨htc,⟨h.ok.fail _,by rw[e];exact h.ar,by rw[e];exact h.dk,by rw[e];simpa using hlen,h.le,fun j hj=>?_,fun j hj=>?_,fun j t hj ht=>?_⟩,dv⟩
 ·rw[dv j (by omega)]
  by_cases e:j=i
  ·rw[if_pos e];exact h.sz i hi
  ·rw[if_neg e];exact h.sz j hj
 ·rw[dv j (by omega)]
  by_cases e:j=i
  ·rw[if_pos e];rfl
  ·rw[if_neg e];exact h.lo j hj
 ·unfold sect
  rw[dv j (by omega)]
  by_cases e:j=i
  ·rw[if_pos e];exact h.sm i t hi ht
  ·rw[if_neg e];exact h.sm j t hj ht
def aBit (a d:Nat):Bool:=decide ((a / 2 ^ d)&&&1=1)
def failL (B:Bn) (a:Nat):Nat→Bn
 | 0=>B
 | i+1=>if aBit a i=true then(failL B a i).fail (i:Int) else failL B a i
structure FailedTo (m k:Nat) (B:Bn) (a i:Nat):Prop where
 calm:Calm m (k+i) (failL B a i)
 S:∀ j:Nat,j < m+1→((failL B a i).dev (j:Int)).S=(B.dev (j:Int)).S
 dd:∀ j,j < m→dead (failL B a i) j=(dead B j || (decide (j < i)&&aBit a j))
theorem failed {m k:Nat} {B:Bn} (h:Calm m k B) (a:Nat):∀ i,i≤m→FailedTo m k B a i
 | 0,_=>⟨h,fun _ _=>rfl,fun j _=>by simp[failL]⟩
 | i+1,hi=>by
  have ih:=failed h a i (by omega)
  by_cases hb:aBit a i=true
  ·have e:failL B a (i+1)=(failL B a i).fail (i:Int):=if_pos hb
   obtain⟨_,hc,dv⟩:=ih.calm.fail (i:=i) (by omega)
   refine⟨by rw[e];exact hc,fun j hj=>?_,fun j hj=>?_⟩
   ·rw[e,dv j hj]
    by_cases e':j=i
    ·rw[if_pos e',e'];exact ih.S i (by omega)
    ·rw[if_neg e'];exact ih.S j hj
   ·unfold dead
    rw[e,dv j (by omega)]
    by_cases e':j=i
    ·subst e'
     rw[if_pos rfl,hb]
     simp[Dev.fail]
    ·rw[if_neg e']
     have:=ih.dd j hj
     unfold dead at this
     rw[this]
     have e2:decide (j < i+1)=decide (j < i):=by rw[decide_eq_decide];omega
     rw[e2]
  ·have e:failL B a (i+1)=failL B a i:=if_neg hb
   refine⟨by rw[e];have:=ih.calm;exact⟨this.ok.mono,this.ar,this.dk,this.len,this.le,this.sz,this.lo,this.sm⟩,fun j hj=>by rw[e];exact ih.S j hj,fun j hj=>?_⟩
   rw[e,ih.dd j hj]
   by_cases e':j=i
   ·subst e'
    have:aBit a j=false:=by simpa using hb
    rw[this];simp
   ·have e2:decide (j < i+1)=decide (j < i):=by rw[decide_eq_decide];omega
    rw[e2]
section
variable {M k E:Nat} {B:Bn} {S:List Nat} (hC:Calm M k B) (h6:∀ j:Nat,j < M→(B.dev (j:Int)).S.length=6) (h50:(B.dev (M:Int)).S.length=50) (hM:3≤M∧M≤6)
 (hE:1≤E∧E≤2305843009213693952) (hf:fine (M:Int) 4 40 S 0) (hS:S.length=16)
 (hX:∀ j:Nat,j < M→dead B j=false→hasX B j (E - 1) (supBlk E 9 j M 4 40 S 0 false))
include hC h6 h50 hM hE hf hS hX
theorem gC_dead {j:Nat} (hj:j < M) (hd:dead B j=true):gC B (M+1) (j:Int)=none:=by
 have r0:=hC.rc (j:=0) hj (by decide)
 rw[hd] at r0
 unfold gC
 rw[if_neg (by omega),if_pos (.inl (by rw[show (0:Int)=((0:Nat):Int) from rfl,r0];decide))]
theorem best_none:∀ d,d≤M→(∀ j,j < d→dead B j=true)→bestC B (M+1) d=none
 | 0,_,_=>rfl
 | d+1,h,hd=>by
  unfold bestC
  rw[gC_dead hC h6 h50 hM hE hf hS hX (by omega) (hd d (by omega))]
  exact best_none d (by omega) (fun j hj=>hd j (by omega))
theorem look_none (hd:∀ j,j < M→dead B j=true):lookV B=.tuple [.agg zf,.int .i64 7]:=by
 unfold lookV
 have:=hC.len
 rw[show B.l.length=M+1 from this,show M+1 - 1=M from rfl,best_none hC h6 h50 hM hE hf hS hX M (Nat.le_refl _) hd]
end
end Go.Proofs.YtabebpemfinejaaGreat.draft
namespace Go.Proofs.YtabebpemfinejaaGreat.draft
open Go.Am
open disk (bx Fit A1 R1 Low Bn Bok)
theorem okSizes_k {k:Nat} (hk:1≤k∧k≤6):disk.okSizes (sizes k):=by
 refine⟨?_,?_,?_⟩
 ·unfold sizes;simp
 ·unfold sizes;simp;omega
 ·intro x hx
  unfold sizes at hx
  simp at hx
  rcases hx with ⟨_,rfl⟩ | rfl<;>omega
theorem HB.failed {G:Heap} {h b:Bk} {id ev m s r:Int} {S:List Nat} {c:Int} {g:Bool} {B:disk.Bn} (x:HB G h b id ev m s r S c g B) {B':disk.Bn} (hf:Fit B') (k:Nat):HB ((G.set b (bx false B')).skip k) h b id ev m s r S c g B':=
 x.step (by repeat (first | exact Turns.refl _ _ | apply Turns.skip | apply Turns.addm | apply Turns.setb | apply Turns.setl | apply Turns.setr | refine Turns.setn ?_ _ (by omega) _ | refine Turns.trans ?_ (tF _))) (by rw[get_skip,Heap.get_set,if_pos rfl]) hf
theorem zero_calm {M:Nat} (hM:3≤M∧M≤6):Calm M 0 (disk.newB (sizes M))∧(∀ j:Nat,j < M→(disk.newB (sizes M)).dev (j:Int)=disk.blank 6)∧(disk.newB (sizes M)).dev (M:Int)=disk.blank 50∧(disk.newB (sizes M)).l.length=M+1:=by
 have hlen:(disk.newB (sizes M)).l.length=M+1:=by unfold disk.newB sizes;simp
 have dv:∀ j:Nat,j < M→(disk.newB (sizes M)).dev (j:Int)=disk.blank 6:=fun j hj=>by
  rw[dev_at (by omega)]
  unfold disk.newB sizes
  simp only[List.getElem_map]
  rw[List.getElem_append_left (by simpa using hj)]
  simp
 refine⟨⟨disk.okNew (okSizes_k (by omega)),rfl,rfl,hlen,by omega,fun j hj=>?_,fun j hj=>?_,fun j t hj ht=>?_⟩,dv,?_,hlen⟩
 ·rw[dv j hj];decide
 ·rw[dv j hj];rfl
 ·unfold sect
  rw[dv j hj]
  have:t=0∨t=1:=by omega
  rcases this with rfl | rfl<;>decide
 ·rw[dev_at (by omega)]
  unfold disk.newB sizes
  simp only[List.getElem_map]
  rw[List.getElem_append_right (by simp)]
  simp
theorem seal_zero:sealN 0=0:=by
 unfold sealN leN
 rfl
theorem shr_u16w {a m:Nat} (hm:m < 16):arith .shr (.int .u16 (a:Int)) (.int .u64 (m:Int))=some (.int .u16 ((a / 2 ^ m:Nat):Int)):=by
 have:min m 16=m:=by omega
 show some (V.int .u16 (.ofNat (Nat.div a (Nat.pow 2 (min m 16)))))=_
 rw[this];rfl
theorem zeros_fine {M:Nat} (hM:3≤M∧M≤6):fine (M:Int) 4 40 (List.replicate 16 0) 0:=by
 refine⟨?_,fun j hj x hx=>?_,by decide,by decide,by decide,.inr rfl⟩
 ·unfold may inn
  simp only[Bool.and_eq_true,decide_eq_true_eq]
  omega
 ·rw[List.getElem?_replicate] at hx
  split at hx
  all_goals first | (cases hx;done) | (cases hx;exact⟨by decide,fun _=>rfl⟩)
theorem zeros_ready {M k E:Nat} {B:Bn} (hC:Calm M k B) (hM:3≤M∧M≤6) (hk:k≤10) (hE:E < 4294967296) (h0:∀ j t:Nat,j < M→t < 2→sect B j t=0):Ready M k E 9 4 40 (List.replicate 16 0) 0 B:=by
 have:=mu_le B (List.replicate 16 0) M
 exact⟨hC,by omega,by omega,by decide,by decide,zeros_fine hM,fun j hj t ht=>.inr (by rw[h0 j t hj ht,seal_zero];omega)⟩
theorem bit_and (y:Nat):(((y&&&1:Nat):Int)==1)=decide (y&&&1=1):=by
 by_cases h:y&&&1=1
 ·rw[h];rfl
 ·rw[beq_eq_false_iff_ne.2 (fun e=>h (by omega)),decide_eq_false h]
end Go.Proofs.YtabebpemfinejaaGreat.draft
namespace Go.Proofs.YtabebpemfinejaaGreat.draft
open Go.Am
noncomputable def c120_l0:C:=.seq (.seq (.reg [
 mv 34 9,
 qo 35 (.p (arF .geq (tt 34) (ii 0))) [pp 34]]) (
 .cond (tt 35) (.skip) (.exit 0))) (
 .seq (.block 1 (.reg [
 mv 38 8,
 qo 39 (.p (arF .mul (.c (.int .u64 256)) (tt 38))) [pp 38],
 mv 40 0,
 mv 41 1,
 mv 42 9,
 qo 43 (.p (arF .add (tt 41) (tt 42))) [pp 41,pp 42],
 qo 44 (.p (iaddrSF (tt 40) (tt 43) 1)) [pp 40,pp 43],
 qo 45 (.r (loadF (tt 44) 1 .sc)) [pp 44],
 qo 46 (.p (convF .u64 (tt 45))) [pp 45],
 qo 47 (.p (arF .add (tt 39) (tt 46))) [pp 39,pp 46],
 mv 8 47])) (
 .reg [
 mv 36 9,
 qo 37 (.p (arF .sub (tt 36) (ii 1))) [pp 36],
 mv 9 37]))
noncomputable def c120:CFn:=⟨[.tmp (pp 6),.tmp (pp 7)],
 .seq (.reg [
 qo 6 (.p (S.get (.c (.int .u64 0)))) [],
 qo 7 (.p (S.get (ii 0))) []]) (
 .seq (.seq (.reg [
 mv 10 2,
 qo 11 (.p (arF .lss (tt 10) (ii 1))) [pp 10],
 mv 12 11,
 mg 13 2 12 false,
 qg 14 (.p (arF .gtr (tt 13) (ii 8))) 12 false [pp 13],
 qo 15 (.p (pickF (tt 12) (.c (.bool true)) (tt 14))) [pp 12,pp 14],
 mv 16 15,
 mg 17 1 16 false,
 qg 18 (.p (arF .lss (tt 17) (ii 0))) 16 false [pp 17],
 qo 19 (.p (pickF (tt 16) (.c (.bool true)) (tt 18))) [pp 16,pp 18],
 mv 20 19,
 mg 21 1 20 false,
 mg 22 0 20 false,
 qg 23 (.p (lenF (tt 22))) 20 false [pp 22],
 qg 24 (.p (arF .gtr (tt 21) (tt 23))) 20 false [pp 21,pp 23],
 qo 25 (.p (pickF (tt 20) (.c (.bool true)) (tt 24))) [pp 20,pp 24]]) (
 .cond (tt 25) (.seq (.reg [
 qo 6 (.p (S.get (.c (.int .u64 0)))) [],
 qo 7 (.p (S.get (ii 2))) []]) (
 .ret)) (.skip))) (
 .seq (.seq (.reg [
 mv 26 0,
 qo 27 (.p (lenF (tt 26))) [pp 26],
 mv 28 1,
 qo 29 (.p (arF .sub (tt 27) (tt 28))) [pp 27,pp 28],
 mv 30 2,
 qo 31 (.p (arF .lss (tt 29) (tt 30))) [pp 29,pp 30]]) (
 .cond (tt 31) (.seq (.reg [
 qo 6 (.p (S.get (.c (.int .u64 0)))) [],
 qo 7 (.p (S.get (ii 4))) []]) (
 .ret)) (.skip))) (
 .seq (.reg [
 qo 8 (.p (S.get (.c (.int .u64 0)))) []]) (
 .seq (.seq (.reg [
 mv 32 2,
 qo 33 (.p (arF .sub (tt 32) (ii 1))) [pp 32],
 mv 9 33]) (
 .block 0 (.loop c120_l0))) (
 .seq (.reg [
 mv 48 8,
 mv 6 48,
 qo 7 (.p (S.get (ii 0))) []]) (
 .ret))))))⟩
theorem c120_eq:fnOf Tryz.prog 120=some c120:=by kernel_rfl
noncomputable def c121:CFn:=⟨[.tmp (pp 6)],
 .seq (.reg [
 qo 6 (.p (S.get (ii 0))) []]) (
 .seq (.reg [
 mv 10 0,
 mv 11 1,
 mv 12 2,
 qo 13 (.c (callF (ff 120) [(tt 10),(tt 11),(tt 12)])) [pp 10,pp 11,pp 12],
 mv 9 13,
 qo 14 (.p (extF (tt 9) 0)) [pp 9],
 qo 15 (.p (extF (tt 9) 1)) [pp 9],
 mv 7 14,
 mv 8 15]) (
 .seq (.reg [
 mv 16 7,
 qo 17 (.p (convF .i64 (tt 16))) [pp 16],
 mv 6 17]) (
 .ret)))⟩
theorem c121_eq:fnOf Tryz.prog 121=some c121:=by kernel_rfl
noncomputable def c122_l0:C:=.seq (.seq (.reg [
 mv 41 11,
 qo 42 (.p (arF .geq (tt 41) (ii 0))) [pp 41]]) (
 .cond (tt 42) (.skip) (.exit 2))) (
 .seq (.block 3 (.seq (.reg [
 mv 45 9,
 mv 46 1,
 qo 47 (.p (arF .mul (tt 45) (tt 46))) [pp 45,pp 46],
 mv 48 11,
 qo 49 (.p (arF .add (tt 47) (tt 48))) [pp 47,pp 48],
 mv 12 49]) (
 .reg [
 mv 50 10,
 qo 51 (.p (arF .mul (.c (.int .u8 2)) (tt 50))) [pp 50],
 mv 52 0,
 mv 53 12,
 qo 54 (.p (arF .quo (tt 53) (ii 8))) [pp 53],
 qo 55 (.p (iaddrSF (tt 52) (tt 54) 1)) [pp 52,pp 54],
 qo 56 (.r (loadF (tt 55) 1 .sc)) [pp 55],
 mv 57 12,
 qo 58 (.p (arF .rem (tt 57) (ii 8))) [pp 57],
 qo 59 (.p (convF .u64 (tt 58))) [pp 58],
 qo 60 (.p (arF .shr (tt 56) (tt 59))) [pp 56,pp 59],
 qo 61 (.p (arF .rem (tt 60) (.c (.int .u8 2)))) [pp 60],
 qo 62 (.p (arF .add (tt 51) (tt 61))) [pp 51,pp 61],
 mv 10 62]))) (
 .reg [
 mv 43 11,
 qo 44 (.p (arF .sub (tt 43) (ii 1))) [pp 43],
 mv 11 44]))
noncomputable def c122_l1:C:=.seq (.seq (.reg [
 mv 34 9,
 mv 35 2,
 qo 36 (.p (arF .lss (tt 34) (tt 35))) [pp 34,pp 35]]) (
 .cond (tt 36) (.skip) (.exit 0))) (
 .seq (.block 1 (.seq (.reg [
 qo 10 (.p (S.get (.c (.int .u8 0)))) []]) (
 .seq (.seq (.reg [
 mv 39 1,
 qo 40 (.p (arF .sub (tt 39) (ii 1))) [pp 39],
 mv 11 40]) (
 .block 2 (.loop c122_l0))) (
 .reg [
 mv 63 8,
 mv 64 10,
 qo 65 (.m (bsliceF 1 1 [.int .u8 0] [(0,1,(tt 64))])) [pp 64],
 qo 66 (.a (appF 1 1 (tt 63) (tt 65))) [pp 63,pp 65],
 mv 8 66])))) (
 .reg [
 mv 37 9,
 qo 38 (.p (arF .add (tt 37) (ii 1))) [pp 37],
 mv 9 38]))
noncomputable def c122:CFn:=⟨[.tmp (pp 6),.tmp (pp 7)],
 .seq (.reg [
 qo 6 (.p (S.get (.c (.slice none 0 0 0)))) [],
 qo 7 (.p (S.get (ii 0))) []]) (
 .seq (.seq (.reg [
 mv 13 1,
 qo 14 (.p (arF .lss (tt 13) (ii 1))) [pp 13],
 mv 15 14,
 mg 16 1 15 false,
 qg 17 (.p (arF .gtr (tt 16) (ii 8))) 15 false [pp 16],
 qo 18 (.p (pickF (tt 15) (.c (.bool true)) (tt 17))) [pp 15,pp 17],
 mv 19 18,
 mg 20 2 19 false,
 qg 21 (.p (arF .lss (tt 20) (ii 0))) 19 false [pp 20],
 qo 22 (.p (pickF (tt 19) (.c (.bool true)) (tt 21))) [pp 19,pp 21],
 mv 23 22,
 mg 24 2 23 false,
 qg 25 (.p (arF .gtr (tt 24) (ii 1048576))) 23 false [pp 24],
 qo 26 (.p (pickF (tt 23) (.c (.bool true)) (tt 25))) [pp 23,pp 25]]) (
 .cond (tt 26) (.seq (.reg [
 qo 6 (.p (S.get (.c (.slice none 0 0 0)))) [],
 qo 7 (.p (S.get (ii 2))) []]) (
 .ret)) (.skip))) (
 .seq (.seq (.reg [
 mv 27 0,
 qo 28 (.p (lenF (tt 27))) [pp 27],
 qo 29 (.p (arF .mul (ii 8) (tt 28))) [pp 28],
 mv 30 1,
 mv 31 2,
 qo 32 (.p (arF .mul (tt 30) (tt 31))) [pp 30,pp 31],
 qo 33 (.p (arF .lss (tt 29) (tt 32))) [pp 29,pp 32]]) (
 .cond (tt 33) (.seq (.reg [
 qo 6 (.p (S.get (.c (.slice none 0 0 0)))) [],
 qo 7 (.p (S.get (ii 4))) []]) (
 .ret)) (.skip))) (
 .seq (.reg [
 qo 8 (.p (S.get (.c (.slice none 0 0 0)))) []]) (
 .seq (.seq (.reg [
 qo 9 (.p (S.get (ii 0))) []]) (
 .block 0 (.loop c122_l1))) (
 .seq (.reg [
 mv 67 8,
 mv 6 67,
 qo 7 (.p (S.get (ii 0))) []]) (
 .ret))))))⟩
theorem c122_eq:fnOf Tryz.prog 122=some c122:=by kernel_rfl
noncomputable def sumB (c:Nat→Nat):Nat→Nat
 | 0=>0
 | i+1=>sumB c i+c i*256 ^ i
theorem sumB_lt {c:Nat→Nat}:∀ {n:Nat},(∀ i,i < n→c i < 256)→sumB c n < 256 ^ n
 | 0,_=>by show 0 < 1;decide
 | n+1,h=>by
  have a:=sumB_lt (c:=c) (n:=n) (fun i hi=>h i (by omega))
  have b:=h n (by omega)
  show sumB c n+c n*256 ^ n < 256 ^ (n+1)
  rw[Nat.pow_succ]
  have:c n*256 ^ n≤255*256 ^ n:=Nat.mul_le_mul_right _ (by omega)
  omega
theorem leN_sum {c:Nat→Nat}:∀ {n:Nat},(∀ i,i < n→c i < 256)→leN c n=sumB c n
 | 0,_=>rfl
 | n+1,h=>by
  have a:=sumB_lt (c:=c) (n:=n) (fun i hi=>h i (by omega))
  have ih:=leN_sum (c:=c) (n:=n) (fun i hi=>h i (by omega))
  show leN c n ||| up (c n) n=sumB c n+c n*256 ^ n
  rw[ih]
  unfold up
  have e:(256:Nat) ^ n=2 ^ (8*n):=by rw[Nat.pow_mul]
  rw[e] at a ⊢
  rw[Nat.or_comm,Nat.mul_comm,← Nat.two_pow_add_eq_or_of_lt a,Nat.add_comm]
noncomputable def valN (c:Nat→Nat) (s:Nat):Nat→Nat
 | 0=>0
 | m+1=>256*valN c s m+c (s - 1 - m)
theorem valN_lt {c:Nat→Nat} {s:Nat} (h:∀ i,i < s→c i < 256):∀ m,m≤s→valN c s m < 256 ^ m
 | 0,_=>by show 0 < 1;decide
 | m+1,hm=>by
  have a:=valN_lt h m (by omega)
  have b:=h (s - 1 - m) (by omega)
  show 256*valN c s m+c (s - 1 - m) < 256 ^ (m+1)
  rw[Nat.pow_succ]
  omega
theorem valN_sum (c:Nat→Nat) (s:Nat):∀ m,m≤s→sumB c s=valN c s m*256 ^ (s - m)+sumB c (s - m)
 | 0,_=>by simp[valN]
 | m+1,hm=>by
  have ih:=valN_sum c s m (by omega)
  rw[ih]
  have e:s - m=(s - (m+1))+1:=by omega
  rw[e]
  show _+(sumB c (s - (m+1))+c (s - (m+1))*256 ^ (s - (m+1)))=(256*valN c s m+c (s - 1 - m))*256 ^ (s - (m+1))+_
  rw[show s - 1 - m=s - (m+1) by omega,Nat.pow_succ,Nat.add_mul,Nat.mul_comm (256 ^ (s - (m+1))) 256,← Nat.mul_assoc,Nat.mul_comm (valN c s m) 256]
  omega
theorem valN_le {c:Nat→Nat} {s:Nat} (h:∀ i,i < s→c i < 256):valN c s s=leN c s:=by
 rw[leN_sum h,valN_sum c s s (Nat.le_refl _)]
 simp[sumB]
theorem rnum_ok {H:Heap} {p:Ptr} {len cap loose a sz:Nat} {c:Nat→Nat} (hs:1≤sz∧sz≤8) (ha:a+sz≤len) (hm:len < 1000000) (hb:∀ i,i < sz→c i < 256) (hd:∀ i,i < sz→loadAt H ⟨p.b,p.o+(a+i)⟩ 1=some [.int .u8 (c i:Int)]) (lf n:Nat) (hlf:17 < lf) :
  callS Tryz.prog S0 lf (n+1) 120 [.slice (some p) len cap loose,.int .i64 (a:Int),.int .i64 (sz:Int)] H=some (.v (.tuple [.int .u64 ((leN c sz:Nat):Int),.int .i64 0]),H):=by
 obtain⟨v,H',e,rfl,rfl⟩:ret (callS Tryz.prog S0 lf (n+1) 120 [.slice (some p) len cap loose,.int .i64 (a:Int),.int .i64 (sz:Int)] H) fun v H'=>v=.tuple [.int .u64 ((leN c sz:Nat):Int),.int .i64 0]∧H'=H:=by
  refine ret_call rfl c120_eq ?_
  have f1:¬ ((sz:Int) < 1):=by omega
  have f2:¬ ((8:Int) < (sz:Int)):=by omega
  have f3:¬ ((a:Int) < 0):=by omega
  have f4:¬ ((len:Int) < (a:Int)):=by omega
  have w1:IntKind.i64.wrap ((len:Int) - (a:Int))=((len - a:Nat):Int):=by rw[wrap_i64 (by omega)];omega
  have f5:¬ (((len - a:Nat):Int) < (sz:Int)):=by omega
  have w2:IntKind.i64.wrap ((sz:Int) - 1)=(sz:Int) - 1:=wrap_i64 (by omega)
  have hloop:∀ t:T,t.getP (Tr.path 0)=some (.slice (some p) len cap loose)→t.getP (Tr.path 1)=some (.int .i64 (a:Int))→t.getP (Tr.path 8)=some (.int .u64 0)→t.getP (Tr.path 9)=some (.int .i64 ((sz:Int) - 1)) →
    wp (loopF (runC (callS Tryz.prog S0 lf n) lf c120_l0) lf ⟨t,H,[]⟩) fun x s=>x=.ex 0∧s.d=[]∧s.H=H∧s.t.getP (Tr.path 8)=some (.int .u64 ((leN c sz:Nat):Int)):=by
   intro t q0 q1 q8 q9
   refine wp_loopF (fun k s=>∃ m:Nat,k=sz - m∧m≤sz∧s.d=[]∧s.H=H∧s.t.getP (Tr.path 0)=some (.slice (some p) len cap loose)∧s.t.getP (Tr.path 1)=some (.int .i64 (a:Int))∧s.t.getP (Tr.path 8)=some (.int .u64 ((valN c sz m:Nat):Int))∧s.t.getP (Tr.path 9)=some (.int .i64 ((sz:Int) - 1 - (m:Int)))) ?_ lf sz _ ⟨0,rfl,by omega,rfl,rfl,q0,q1,q8,by rw[q9];simp⟩ (by omega)
   rintro k ⟨t,HH,d⟩ ⟨m,rfl,hi,hd',hH,q0,q1,q8,q9⟩
   dsimp only at hd' hH q0 q1 q8 q9
   subst hd';subst hH
   by_cases hlt:m < sz
   ·have g0:(0:Int)≤(sz:Int) - 1 - (m:Int):=by omega
    obtain⟨i,hi'⟩:∃ i,i=sz - 1 - m:=⟨_,rfl⟩
    have ei:(sz:Int) - 1 - (m:Int)=(i:Int):=by omega
    rw[ei] at q9
    have k0:(0:Int)≤(i:Int):=by omega
    have hval:valN c sz (m+1)=256*valN c sz m+c i:=by rw[valN,hi']
    have vl:=valN_lt hb m (by omega)
    have vl':=valN_lt hb (m+1) (by omega)
    rw[hval] at vl'
    have p8:256 ^ (m+1)≤256 ^ 8:=Nat.pow_le_pow_right (by decide) (by omega)
    rw[show (256:Nat) ^ 8=18446744073709551616 by decide +kernel] at p8
    have lk:=hd i (by omega)
    have hcb:=hb i (by omega)
    obtain⟨e,he⟩:∃ e,e=a+i:=⟨_,rfl⟩
    rw[← he] at lk
    have hle:e+1≤len:=by omega
    have w3:IntKind.i64.wrap ((a:Int)+(i:Int))=(e:Int):=by rw[wrap_i64 (by omega)];omega
    have w4:IntKind.i64.wrap ((i:Int) - 1)=(sz:Int) - 1 - ((m+1:Nat):Int):=by rw[wrap_i64 (by omega)];omega
    generalize hv:valN c sz m=v at *
    generalize c i=ci at *
    have w5:IntKind.u64.wrap (256*(v:Int))=((256*v:Nat):Int):=by rw[show (256*(v:Int))=((256*v:Nat):Int) by omega];exact wrap_u64 (by omega)
    have w6:IntKind.u64.wrap (ci:Int)=(ci:Int):=wrap_u64 (by omega)
    obtain⟨v2,hv2⟩:∃ z,z=256*v:=⟨_,rfl⟩
    rw[← hv2] at w5 vl' hval
    have w7:IntKind.u64.wrap ((v2:Int)+(ci:Int))=((v2+ci:Nat):Int):=by rw[show ((v2:Int)+(ci:Int))=((v2+ci:Nat):Int) by omega];exact wrap_u64 (by omega)
    rw[← hval] at w7
    simp only[c120_l0,q0,q1,q8,q9,k0,hle,w3,w4,w5,w6,w7,lk,arith_mul,Nat.mul_one,sy,tup,↓reduceIte,zA,zG,zC,zD,zF,zE,zB,zH,reduceCtorEq]
    exact⟨sz - (m+1),by omega,m+1,rfl,by omega,trivial,trivial,trivial,trivial,rfl,by simp⟩
   ·have:m=sz:=by omega
    subst this
    have g0:¬ ((0:Int)≤(m:Int) - 1 - (m:Int)):=by omega
    simp only[c120_l0,q0,q1,q8,q9,g0,sy,tup,↓reduceIte,zA,zG,zC,zD,zF,zE,zB,zH,reduceCtorEq]
    exact⟨trivial,trivial,trivial,by rw[valN_le hb]⟩
  simp only[c120,f1,f2,f3,f4,f5,w1,w2,sy,tup,↓reduceIte,zA,zG,zC,zD,zF,zE,zB,zH,reduceCtorEq]
  refine wp_ctx (F:=fun r=>seqC _ _ _ (blockC _ r)) (hloop _ ?_ ?_ ?_ ?_) ?_
  ·simp only[sy,tup,↓reduceIte,zA,zG,zC,zD,zF,zE,zB,zH,reduceCtorEq]
  ·simp only[sy,tup,↓reduceIte,zA,zG,zC,zD,zF,zE,zB,zH,reduceCtorEq]
  ·simp only[sy,tup,↓reduceIte,zA,zG,zC,zD,zF,zE,zB,zH,reduceCtorEq]
  ·simp only[sy,tup,↓reduceIte,zA,zG,zC,zD,zF,zE,zB,zH,reduceCtorEq]
  rintro x ⟨t,HH,d⟩ ⟨rfl,hd',hH,q8⟩
  dsimp only at hd' hH q8
  subst hd';subst hH
  simp only[q8,sy,tup,↓reduceIte,zA,zG,zC,zD,zF,zE,zB,zH,reduceCtorEq]
  simp
 exact e
theorem rnumber_ok {H:Heap} {p:Ptr} {len cap loose a sz:Nat} {c:Nat→Nat} (hs:1≤sz∧sz≤2) (ha:a+sz≤len) (hm:len < 1000000) (hb:∀ i,c i < 256) (hd:∀ i,i < sz→loadAt H ⟨p.b,p.o+(a+i)⟩ 1=some [.int .u8 (c i:Int)]) (lf n:Nat) (hlf:17 < lf) :
  callS Tryz.prog S0 lf (n+2) 121 [.slice (some p) len cap loose,.int .i64 (a:Int),.int .i64 (sz:Int)] H=some (.v (.int .i64 ((leN c sz:Nat):Int)),H):=by
 have e1:=rnum_ok (H:=H) (p:=p) (len:=len) (cap:=cap) (loose:=loose) (a:=a) (sz:=sz) (c:=c) (by omega) ha hm (fun i _=>hb i) hd lf n hlf
 have hlt:leN c sz < 65536:=Nat.lt_of_lt_of_le (leN_lt' hb sz) (Nat.le_trans (Nat.pow_le_pow_right (by decide) (show 8*sz≤16 by omega)) (by decide))
 have w1:IntKind.i64.wrap ((leN c sz:Nat):Int)=((leN c sz:Nat):Int):=wrap_i64 (by omega)
 obtain⟨v,H',e,rfl,rfl⟩:ret (callS Tryz.prog S0 lf (n+2) 121 [.slice (some p) len cap loose,.int .i64 (a:Int),.int .i64 (sz:Int)] H) fun v H'=>v=.int .i64 ((leN c sz:Nat):Int)∧H'=H:=by
  refine ret_call rfl c121_eq ?_
  simp only[c121,e1,w1,sy,tup,↓reduceIte,zA,zG,zC,zD,zF,zE,zB,zH,reduceCtorEq]
  simp
 exact e
noncomputable def twos (c:Nat→Nat):Nat→List Nat
 | 0=>[]
 | i+1=>twos c i++[twoB c i]
theorem twos_len (c:Nat→Nat):∀ i,(twos c i).length=i
 | 0=>rfl
 | i+1=>by simp[twos,twos_len c i]
def bitC (c:Nat→Nat) (j:Nat):Nat:=c (j / 8) / 2 ^ (j % 8) % 2
theorem bitC_lt (c:Nat→Nat) (j:Nat):bitC c j < 2:=Nat.mod_lt _ (by decide)
noncomputable def accB (c:Nat→Nat) (i:Nat):Nat→Nat
 | 0=>0
 | m+1=>2*accB c i m+bitC c (2*i+(1 - m))
theorem accB_two (c:Nat→Nat) (i:Nat):accB c i 2=twoB c i:=by
 show 2*(2*0+bitC c (2*i+1))+bitC c (2*i+0)=_
 unfold bitC twoB
 have e1:(2*i+1) / 8=2*i / 8:=by omega
 have e2:(2*i+1) % 8=2*i % 8+1:=by omega
 rw[e1,e2,Nat.add_zero,Nat.pow_succ,← Nat.div_div_eq_div_mul]
 generalize c (2*i / 8) / 2 ^ (2*i % 8)=x
 have:x&&&3=x % 4:=Nat.and_two_pow_sub_one_eq_mod x 2
 rw[this]
 omega
theorem shr_u8 {a m:Nat} (hm:m < 8):arith .shr (.int .u8 (a:Int)) (.int .u64 (m:Int))=some (.int .u8 ((a / 2 ^ m:Nat):Int)):=by
 have:min m 8=m:=by omega
 show some (V.int .u8 (.ofNat (Nat.div a (Nat.pow 2 (min m 8)))))=_
 rw[this];rfl
theorem runbits_ok {H:Heap} {p:Ptr} {cap loose:Nat} {c:Nat→Nat} (hc:∀ i,c i < 256) (hd:∀ {H':Heap},Turns Z H H'→∀ i,i < 4→loadAt H' ⟨p.b,p.o+i⟩ 1=some [.int .u8 (c i:Int)]) (lf n:Nat) (hlf:17 < lf) :
  ret (callS Tryz.prog S0 lf (n+1) 122 [.slice (some p) 4 cap loose,.int .i64 2,.int .i64 16] H) fun v H'=>Turns Z H H'∧∃ y,v=.tuple [y,.int .i64 0]∧Lst H H' 1 (rowsN (twos c 16)) y:=by
 have g1:¬ ((2:Int) < 1):=by omega
 have g2:¬ ((8:Int) < 2):=by omega
 have g3:¬ ((16:Int) < 0):=by omega
 have g4:¬ ((1048576:Int) < 16):=by omega
 have w1:IntKind.i64.wrap (8*((4:Nat):Int))=32:=by kernel_rfl
 have w2:IntKind.i64.wrap (2*16)=32:=by kernel_rfl
 refine ret_call rfl c122_eq ?_
 simp only[c122,g1,g2,g3,g4,w1,w2,arith_mul,Int.lt_irrefl,sy,tup,↓reduceIte,zA,zG,zC,zD,zF,zE,zB,zH,reduceCtorEq]
 have hloop:∀ t:T,t.getP (Tr.path 0)=some (.slice (some p) 4 cap loose)→t.getP (Tr.path 1)=some (.int .i64 2)→t.getP (Tr.path 2)=some (.int .i64 16)→t.getP (Tr.path 8)=some (.slice none 0 0 0)→t.getP (Tr.path 9)=some (.int .i64 0) →
   wp (loopF (runC (callS Tryz.prog S0 lf n) lf c122_l1) lf ⟨t,H,[]⟩) fun x s'=>x=.ex 0∧s'.d=[]∧∃ y,s'.t.getP (Tr.path 8)=some y∧Lst H s'.H 1 (rowsN (twos c 16)) y∧Turns Z H s'.H:=by
  intro t q0 q1 q2 q8 q9
  refine wp_loopF (fun j s'=>∃ i:Nat,j=16 - i∧i≤16∧s'.d=[]∧s'.t.getP (Tr.path 0)=some (.slice (some p) 4 cap loose)∧s'.t.getP (Tr.path 1)=some (.int .i64 2)∧s'.t.getP (Tr.path 2)=some (.int .i64 16)∧s'.t.getP (Tr.path 9)=some (.int .i64 (i:Int))∧∃ y,s'.t.getP (Tr.path 8)=some y∧Lst H s'.H 1 (rowsN (twos c i)) y∧Turns Z H s'.H) ?_ lf 16 _ ⟨0,rfl,by omega,rfl,q0,q1,q2,q9,_,q8,Lst.nil _ _ _,Turns.refl _ _⟩ (by omega)
  rintro j ⟨t,HH,d⟩ ⟨i,rfl,hi,hd',q0,q1,q2,q9,y,q8,hy,tz⟩
  dsimp only at hd' q0 q1 q2 q9 q8 hy tz
  subst hd'
  by_cases hlt:i < 16
  ·have hlt':(i:Int) < 16:=by omega
   have w2:IntKind.i64.wrap ((i:Int)+1)=((i+1:Nat):Int):=by rw[wrap_i64 (by omega)];omega
   have w3:IntKind.i64.wrap (2 - 1)=1:=by kernel_rfl
   have hin:∀ t:T,t.getP (Tr.path 0)=some (.slice (some p) 4 cap loose)→t.getP (Tr.path 1)=some (.int .i64 2)→t.getP (Tr.path 2)=some (.int .i64 16)→t.getP (Tr.path 8)=some y→t.getP (Tr.path 9)=some (.int .i64 (i:Int))→t.getP (Tr.path 10)=some (.int .u8 0)→t.getP (Tr.path 11)=some (.int .i64 1) →
     wp (loopF (runC (callS Tryz.prog S0 lf n) lf c122_l0) lf ⟨t,HH,[]⟩) fun x s'=>x=.ex 2∧s'.d=[]∧s'.H=HH∧s'.t.getP (Tr.path 0)=some (.slice (some p) 4 cap loose)∧s'.t.getP (Tr.path 1)=some (.int .i64 2)∧s'.t.getP (Tr.path 2)=some (.int .i64 16)∧s'.t.getP (Tr.path 8)=some y∧s'.t.getP (Tr.path 9)=some (.int .i64 (i:Int))∧s'.t.getP (Tr.path 10)=some (.int .u8 ((twoB c i:Nat):Int)):=by
    intro t q0 q1 q2 q8 q9 q10 q11
    refine wp_loopF (fun j s'=>∃ m:Nat,j=2 - m∧m≤2∧s'.d=[]∧s'.H=HH∧s'.t.getP (Tr.path 0)=some (.slice (some p) 4 cap loose)∧s'.t.getP (Tr.path 1)=some (.int .i64 2)∧s'.t.getP (Tr.path 2)=some (.int .i64 16)∧s'.t.getP (Tr.path 8)=some y∧s'.t.getP (Tr.path 9)=some (.int .i64 (i:Int))∧s'.t.getP (Tr.path 10)=some (.int .u8 ((accB c i m:Nat):Int))∧s'.t.getP (Tr.path 11)=some (.int .i64 (1 - (m:Int)))) ?_ lf 2 _ ⟨0,rfl,by omega,rfl,rfl,q0,q1,q2,q8,q9,q10,q11⟩ (by omega)
    rintro j ⟨t,HX,d⟩ ⟨m,rfl,hm,hd',hX,q0,q1,q2,q8,q9,q10,q11⟩
    dsimp only at hd' hX q0 q1 q2 q8 q9 q10 q11
    subst hd';subst hX
    by_cases hlt:m < 2
    ·obtain⟨k,hk⟩:∃ k,k=1 - m:=⟨_,rfl⟩
     have ek:(1:Int) - (m:Int)=(k:Int):=by omega
     rw[ek] at q11
     have k0:(0:Int)≤(k:Int):=by omega
     obtain⟨i2,hi2⟩:∃ a,a=2*i:=⟨_,rfl⟩
     obtain⟨a,ha⟩:∃ a,a=i2+k:=⟨_,rfl⟩
     have u1:IntKind.i64.wrap ((i:Int)*2)=(i2:Int):=by rw[wrap_i64 (by omega)];omega
     have u2:IntKind.i64.wrap ((i2:Int)+(k:Int))=(a:Int):=by rw[wrap_i64 (by omega)];omega
     have u3:arith .quo (.int .i64 (a:Int)) (.int .i64 8)=some (.int .i64 ((a / 8:Nat):Int)):=quo_i64 a 8 (by decide) (by omega)
     have u4:arith .rem (.int .i64 (a:Int)) (.int .i64 8)=some (.int .i64 ((a % 8:Nat):Int)):=rem_i64 a 8 (by decide)
     have hq4:a / 8 < 4:=by omega
     have hm8:a % 8 < 8:=Nat.mod_lt _ (by decide)
     have lk:=hd tz (a / 8) hq4
     have hql:a / 8+1≤4:=hq4
     have hcx:=hc (a / 8)
     have hbit:bitC c a=c (a / 8) / 2 ^ (a % 8) % 2:=rfl
     have hacc:accB c i (m+1)=2*accB c i m+bitC c a:=by rw[accB,ha,hi2,hk]
     have hb2:=bitC_lt c a
     rw[hbit] at hacc hb2
     generalize a / 8=q at *
     generalize a % 8=mm at *
     have u5:IntKind.u64.wrap (mm:Int)=(mm:Int):=wrap_u64 (by omega)
     have u6:arith .shr (.int .u8 (c q:Int)) (.int .u64 (mm:Int))=some (.int .u8 ((c q / 2 ^ mm:Nat):Int)):=shr_u8 hm8
     have u7:arith .rem (.int .u8 ((c q / 2 ^ mm:Nat):Int)) (.int .u8 2)=some (.int .u8 ((c q / 2 ^ mm % 2:Nat):Int)):=rem_u8 _ 2 (by decide)
     have ha1:accB c i m < 4:=by
      have:m=0∨m=1:=by omega
      rcases this with rfl | rfl
      ·show 0 < 4;decide
      ·show 2*0+bitC c (2*i+(1 - 0)) < 4
       have:=bitC_lt c (2*i+(1 - 0));omega
     generalize c q=cx at *
     generalize cx / 2 ^ mm=cy at *
     generalize cy % 2=cz at *
     generalize accB c i m=ac at *
     have u8:IntKind.u8.wrap (2*(ac:Int))=((2*ac:Nat):Int):=by rw[show (2*(ac:Int))=((2*ac:Nat):Int) by omega];exact wrap_u8 (by omega)
     obtain⟨a2,ha2⟩:∃ z,z=2*ac:=⟨_,rfl⟩
     rw[← ha2] at u8 hacc
     have u9:IntKind.u8.wrap ((a2:Int)+(cz:Int))=((a2+cz:Nat):Int):=by rw[show ((a2:Int)+(cz:Int))=((a2+cz:Nat):Int) by omega];exact wrap_u8 (by omega)
     rw[← hacc] at u9
     have u10:IntKind.i64.wrap ((k:Int) - 1)=1 - ((m+1:Nat):Int):=by rw[wrap_i64 (by omega)];omega
     simp only[c122_l0,q0,q1,q2,q8,q9,q10,q11,k0,hql,u1,u2,u3,u4,u5,u6,u7,u8,u9,u10,lk,arith_mul,Nat.mul_one,sy,tup,↓reduceIte,zA,zG,zC,zD,zF,zE,zB,zH,reduceCtorEq]
     exact⟨2 - (m+1),by omega,m+1,rfl,by omega,trivial,trivial,trivial,trivial,trivial,trivial,trivial,rfl,by simp⟩
    ·have:m=2:=by omega
     subst this
     have g0:¬ ((0:Int)≤1 - ((2:Nat):Int)):=by omega
     simp only[c122_l0,q0,q1,q2,q8,q9,q10,q11,g0,sy,tup,↓reduceIte,zA,zG,zC,zD,zF,zE,zB,zH,reduceCtorEq]
     refine⟨trivial,trivial,trivial,trivial,trivial,trivial,trivial,trivial,by rw[accB_two]⟩
   simp only[c122_l1,q0,q1,q2,q8,q9,hlt',w2,w3,Nat.mul_one,sy,tup,↓reduceIte,zA,zG,zC,zD,zF,zE,zB,zH,reduceCtorEq]
   refine wp_ctx (F:=fun r=>seqC _ _ _ (blockC _ (seqC _ _ _ (blockC _ r)))) (hin _ ?_ ?_ ?_ ?_ ?_ ?_ ?_) ?_
   ·simp only[q0,sy,tup,↓reduceIte,zA,zG,zC,zD,zF,zE,zB,zH,reduceCtorEq]
   ·simp only[q1,sy,tup,↓reduceIte,zA,zG,zC,zD,zF,zE,zB,zH,reduceCtorEq]
   ·simp only[q2,sy,tup,↓reduceIte,zA,zG,zC,zD,zF,zE,zB,zH,reduceCtorEq]
   ·simp only[q8,sy,tup,↓reduceIte,zA,zG,zC,zD,zF,zE,zB,zH,reduceCtorEq]
   ·simp only[q9,sy,tup,↓reduceIte,zA,zG,zC,zD,zF,zE,zB,zH,reduceCtorEq]
   ·simp only[sy,tup,↓reduceIte,zA,zG,zC,zD,zF,zE,zB,zH,reduceCtorEq]
   ·simp only[sy,tup,↓reduceIte,zA,zG,zC,zD,zF,zE,zB,zH,reduceCtorEq]
   rintro x ⟨t,HK,d⟩ ⟨rfl,hd',hX,q0,q1,q2,q8,q9,q10⟩
   dsimp only at hd' hX q0 q1 q2 q8 q9 q10
   subst hd';subst hX
   obtain⟨H',ea,hv',ta⟩:=appB hy tz.next (by rw[rowsN_len,twos_len];omega) (twoB c i)
   have tz':=lst_away hy tz (Nat.le_refl _) ta
   have hdg:rowsN (twos c (i+1))=rowsN (twos c i)++[[.int .u8 ((twoB c i:Nat):Int)]]:=by rw[twos,rowsN_app];rfl
   rw[← hdg] at hv'
   simp only[q0,q1,q2,q8,q9,q10,ea,w2,sy,tup,↓reduceIte,zA,zG,zC,zD,zF,zE,zB,zH,reduceCtorEq]
   exact⟨16 - (i+1),by omega,i+1,rfl,by omega,trivial,trivial,trivial,trivial,by simp,_,rfl,hv',tz'⟩
  ·have:i=16:=by omega
   subst this
   have hnl:decide (((16:Nat):Int) < 16)=false:=rfl
   simp only[c122_l1,q0,q1,q2,q8,q9,hnl,sy,tup,↓reduceIte,zA,zG,zC,zD,zF,zE,zB,zH,reduceCtorEq]
   exact⟨trivial,trivial,y,by first | rfl | exact q8,hy,tz⟩
 refine wp_ctx (F:=fun r=>seqC _ _ _ (blockC _ r)) (hloop _ ?_ ?_ ?_ ?_ ?_) ?_
 ·simp only[sy,tup,↓reduceIte,zA,zG,zC,zD,zF,zE,zB,zH,reduceCtorEq]
 ·simp only[sy,tup,↓reduceIte,zA,zG,zC,zD,zF,zE,zB,zH,reduceCtorEq]
 ·simp only[sy,tup,↓reduceIte,zA,zG,zC,zD,zF,zE,zB,zH,reduceCtorEq]
 ·simp only[sy,tup,↓reduceIte,zA,zG,zC,zD,zF,zE,zB,zH,reduceCtorEq]
 ·simp only[sy,tup,↓reduceIte,zA,zG,zC,zD,zF,zE,zB,zH,reduceCtorEq]
 rintro x ⟨t,HB,d⟩ ⟨rfl,hd',y,q8,hy,tz⟩
 dsimp only at hd' q8 hy tz
 subst hd'
 simp only[q8,sy,tup,↓reduceIte,zA,zG,zC,zD,zF,zE,zB,zH,reduceCtorEq]
 exact⟨trivial,.inr trivial,_,rfl,tz,y,rfl,hy⟩
end Go.Proofs.YtabebpemfinejaaGreat.draft
namespace Go.Proofs.YtabebpemfinejaaGreat.draft
open Go.Am
noncomputable def c119:CFn:=⟨[.tmp (pp 2),.tmp (pp 3),.tmp (pp 4)],
 .seq (.reg [
 qo 1 (.m (boxF 64 (tt 0))) [pp 0],
 qo 2 (.p (S.get (.c (.int .u64 0)))) [],
 qo 3 (.p (S.get (.c (.slice none 0 0 0)))) [],
 qo 4 (.p (S.get (ii 0))) []]) (
 .seq (.reg [
 qo 12 (.p (sliceAF 64 1 (tt 1) none none none)) [pp 1],
 qo 13 (.c (callF (ff 185) [(tt 12)])) [pp 12],
 mv 5 13]) (
 .seq (.reg [
 mv 15 5,
 qo 16 (.c (callF (ff 120) [(tt 15),(ii 0),(ii 8)])) [pp 15],
 mv 14 16,
 qo 17 (.p (extF (tt 14) 0)) [pp 14],
 qo 18 (.p (extF (tt 14) 1)) [pp 14],
 mv 6 17,
 mv 7 18]) (
 .seq (.reg [
 mv 20 5,
 qo 21 (.c (callF (ff 120) [(tt 20),(ii 56),(ii 8)])) [pp 20],
 mv 19 21,
 qo 22 (.p (extF (tt 19) 0)) [pp 19],
 qo 23 (.p (extF (tt 19) 1)) [pp 19],
 mv 8 22,
 mv 9 23]) (
 .seq (.seq (.reg [
 mv 24 6,
 qo 25 (.p (eqcF false false [.int .u64] (tt 24) (.c (.int .u64 0)))) [pp 24],
 mv 26 25,
 mg 27 6 26 false,
 mg 28 8 26 false,
 qg 29 (.p (eqcF true false [.int .u64] (tt 27) (tt 28))) 26 false [pp 27,pp 28],
 qo 30 (.p (pickF (tt 26) (.c (.bool true)) (tt 29))) [pp 26,pp 29]]) (
 .cond (tt 30) (.seq (.reg [
 qo 2 (.p (S.get (.c (.int .u64 0)))) [],
 qo 3 (.p (S.get (.c (.slice none 0 0 0)))) [],
 qo 4 (.p (S.get (ii 5))) []]) (
 .ret)) (.skip))) (
 .seq (.reg [
 mv 32 5,
 qo 33 (.c (callF (ff 120) [(tt 32),(ii 52),(ii 4)])) [pp 32],
 mv 31 33,
 qo 34 (.p (extF (tt 31) 0)) [pp 31],
 qo 35 (.p (extF (tt 31) 1)) [pp 31],
 mv 10 34,
 mv 11 35]) (
 .seq (.seq (.reg [
 mv 36 5,
 qo 37 (.p (sliceF 1 (tt 36) none (some (ii 52)) none)) [pp 36],
 qo 38 (.c (callF (ff 186) [(tt 37)])) [pp 37],
 qo 39 (.p (convF .u64 (tt 38))) [pp 38],
 mv 40 10,
 qo 41 (.p (eqcF true false [.int .u64] (tt 39) (tt 40))) [pp 39,pp 40]]) (
 .cond (tt 41) (.seq (.reg [
 qo 2 (.p (S.get (.c (.int .u64 0)))) [],
 qo 3 (.p (S.get (.c (.slice none 0 0 0)))) [],
 qo 4 (.p (S.get (ii 6))) []]) (
 .ret)) (.skip))) (
 .seq (.reg [
 mv 42 6,
 mv 43 5,
 qo 44 (.p (sliceF 1 (tt 43) (some (ii 8)) (some (ii 52)) none)) [pp 43],
 qo 45 (.c (callF (ff 185) [(tt 44)])) [pp 44],
 mv 2 42,
 mv 3 45,
 qo 4 (.p (S.get (ii 0))) []]) (
 .ret))))))))⟩
theorem c119_eq:fnOf Tryz.prog 119=some c119:=by kernel_rfl
theorem rcopyE {H:Heap} {p:Ptr} {m cap loose:Nat} {f:Nat→Nat} (hm:0 < m∧m≤1000) (he:elems H p.b 1 m p.o=some (rowsB f m 0)) (lf n:Nat):ret (callS Tryz.prog S0 lf (n+1) 185 [.slice (some p) m cap loose] H) fun v H'=>Turns Z H H'∧∃ k,v=.slice (some ⟨.run k,0⟩) m m 1∧BodyAt H' k f m∧H.next≤k:=by
 have hl:=rowsB_len f m 0
 have hne:rowsB f m 0≠[]:=fun e=>by rw[e] at hl;simp at hl;omega
 obtain⟨H',ea,hw,ta,hn⟩:=(Lst.nil H H 1).app (by':=1) (x:=.slice (some p) m cap loose) (new:=rowsB f m 0) (Nat.le_refl _) (by show elems H p.b 1 m p.o=_;exact he) (by show some m=_;rw[hl]) hne (by decide) (by simp[hl];omega) (by simp[hl];omega)
 have tz:Turns Z H H':=lst_away (Lst.nil H H 1) (Turns.refl _ _) (Nat.le_refl _) ta
 simp only[List.length_nil,hl,Nat.zero_add,List.nil_append] at ea hw
 refine ret_call rfl c185_eq ?_
 simp only[c185,ea,sy,tup,↓reduceIte,zA,zG,zC,zD,zF,zE,zB,zH,reduceCtorEq]
 refine⟨trivial,.inr trivial,_,rfl,tz,H.next,rfl,?_,Nat.le_refl _⟩
 rcases hw with ⟨e,_⟩ | ⟨k,_,e,hg,_,h2⟩
 ·exact absurd e hne
 ·have e':=(V.slice.inj e).1
  cases e'
  exact⟨hg,h2⟩
theorem elems_body {H:Heap} {k:Nat} {c:Nat→Nat} {N:Nat} (h:BodyAt H k c N) (a:Nat):∀ n j,a+j+n≤N→elems H (.run k) 1 n (a+j)=some (rowsB (fun i=>c (a+i)) n j)
 | 0,_,_=>rfl
 | n+1,j,hj=>by
  unfold elems
  rw[h.load (show a+j < N by omega)]
  simp only
  rw[show Nat.add (a+j) 1=a+(j+1) from rfl,elems_body h a n (j+1) (by omega)]
  rfl
theorem rget7_ok (H:Heap) (B:Nat) {lf:Nat} (hlf:90 < lf) (n:Nat):ret (callS Tryz.prog S0 lf (n+5) 119 [.blk B] H) fun v H'=>Turns Z H H' ∧
  ((sealE B≠0∧v=.tuple [.int .u64 0,.slice none 0 0 0,.int .i64 (sealE B)])∨(sealE B=0∧∃ k,v=.tuple [.int .u64 ((sealN B:Nat):Int),.slice (some ⟨.run k,0⟩) 44 44 1,.int .i64 0]∧BodyAt H' k (fun i=>byte B (8+i)) 44∧H.next≤k)):=by
 have t1:=Turns.add Z H (.rows false 64 [[.blk B]])
 have hg:(H.add (.rows false 64 [[.blk B]])).get (.run H.next)=some (.rows false 64 [[.blk B]]):=by rw[Heap.get_add,if_pos rfl]
 generalize hH1:H.add (.rows false 64 [[.blk B]])=H1 at *
 obtain⟨vr,H2,e2,t2,k,rfl,hr,hk⟩:=rcopyE (p:=⟨.run H.next,0⟩) (cap:=64) (loose:=0) (f:=byte B) (by omega) (elems_blk hg 64 0 (by omega)) lf (n+3)
 change callS Tryz.prog S0 lf (n+4) _ _ _=_ at e2
 have g1:callS Tryz.prog S0 lf (n+4) 120 [.slice (some ⟨.run k,0⟩) 64 64 1,.int .i64 0,.int .i64 8] H2=some (.v (.tuple [.int .u64 ((leN (fun i=>byte B (0+i)) 8:Nat):Int),.int .i64 0]),H2):=rnum_ok (a:=0) (sz:=8) (c:=fun i=>byte B (0+i)) (by omega) (by omega) (by omega) (fun i _=>byte_lt _ _) (fun i hi=>by simpa using hr.load (i:=0+i) (by omega)) lf (n+3) (by omega)
 have g2:callS Tryz.prog S0 lf (n+4) 120 [.slice (some ⟨.run k,0⟩) 64 64 1,.int .i64 56,.int .i64 8] H2=some (.v (.tuple [.int .u64 ((leN (fun i=>byte B (56+i)) 8:Nat):Int),.int .i64 0]),H2):=rnum_ok (a:=56) (sz:=8) (c:=fun i=>byte B (56+i)) (by omega) (by omega) (by omega) (fun i _=>byte_lt _ _) (fun i hi=>by simpa using hr.load (i:=56+i) (by omega)) lf (n+3) (by omega)
 have g3:callS Tryz.prog S0 lf (n+4) 120 [.slice (some ⟨.run k,0⟩) 64 64 1,.int .i64 52,.int .i64 4] H2=some (.v (.tuple [.int .u64 ((leN (fun i=>byte B (52+i)) 4:Nat):Int),.int .i64 0]),H2):=rnum_ok (a:=52) (sz:=4) (c:=fun i=>byte B (52+i)) (by omega) (by omega) (by omega) (fun i _=>byte_lt _ _) (fun i hi=>by simpa using hr.load (i:=52+i) (by omega)) lf (n+3) (by omega)
 have g4:∀ cap loose,callS Tryz.prog S0 lf (n+4) 186 [.slice (some ⟨.run k,0⟩) 52 cap loose] H2=_:=fun cap loose=>rof_ok (H:=H2) (p:=⟨.run k,0⟩) (len:=52) (cap:=cap) (loose:=loose) (c:=byte B) (by omega) (fun i _=>byte_lt _ _) (fun i hi=>by simpa using hr.load (i:=i) (by omega)) lf n (by omega)
 have t12:=t1.trans t2
 have hk':H.next≤k:=Nat.le_trans t1.next hk
 have l1:leN (fun i=>byte B (0+i)) 8=sealN B:=rfl
 rw[l1] at g1
 generalize hN2:leN (fun i=>byte B (56+i)) 8=n2 at *
 generalize hN3:leN (fun i=>byte B (52+i)) 4=n3 at *
 have hcl:notN (crcN (byte B) 52) < 4294967296:=notN_lt (crcN_lt (fun i _=>byte_lt _ _))
 have hE:sealE B=if sealN B=0∨sealN B≠n2 then 5 else if notN (crcN (byte B) 52)≠n3 then 6 else 0:=by unfold sealE;rw[hN2,hN3]
 generalize hN4:notN (crcN (byte B) 52)=n4 at *
 have w4:IntKind.u64.wrap (n4:Int)=(n4:Int):=wrap_u64 (by omega)
 have b1:bound 52 (.int .i64 52)=some 52:=rfl
 have b2:bound 64 (.int .i64 52)=some 52:=rfl
 have b3:bound 52 (.int .i64 8)=some 8:=rfl
 have m1:Nat.beq 52 0=false:=rfl
 have m2:Nat.beq 64 8=false:=rfl
 have m3:Nat.beq 52 8=false:=rfl
 have m4:Nat.beq 64 0=false:=rfl
 rw[hE]
 obtain⟨n1,hn1⟩:∃ z,z=sealN B:=⟨_,rfl⟩
 rw[← hn1] at g1 ⊢
 refine ret_call rfl c119_eq ?_
 by_cases h0:n1=0
 ·rw[h0] at g1 ⊢
  have z0:(((0:Nat):Int)==0)=true:=rfl
  simp only[c119,hH1,e2,g1,g2,g3,g4,z0,sliceAF,oget,bounds,boundD,sy,tup,↓reduceIte,zA,zG,zC,zD,zF,zE,zB,zH,reduceCtorEq]
  exact⟨trivial,.inr trivial,_,rfl,t12,.inl ⟨by simp,by simp⟩⟩
 ·have z0:((n1:Int)==0)=false:=by simpa using h0
  by_cases h1:n1=n2
  ·rw[← h1] at g2 ⊢
   by_cases h2:n4=n3
   ·rw[← h2] at g3 ⊢
    obtain⟨vb,H3,e3,t3,k3,rfl,hb3,hk3⟩:ret (callS Tryz.prog S0 lf (n+4) 185 [.slice (some ⟨.run k,8⟩) 44 56 1] H2) _:=rcopyE (p:=⟨.run k,8⟩) (cap:=56) (loose:=1) (f:=fun i=>byte B (8+i)) (by omega) (by simpa using elems_body hr 8 44 0 (by omega)) lf (n+3)
    simp only[c119,hH1,e2,g1,g2,g3,g4,z0,w4,e3,b1,b2,b3,m1,m2,m3,m4,sliceF,sliceAF,oget,bounds,boundD,bne_self_eq_false,sy,tup,↓reduceIte,zA,zG,zC,zD,zF,zE,zB,zH,reduceCtorEq]
    exact⟨trivial,.inr trivial,_,rfl,t12.trans t3,.inr ⟨by simp[h0],k3,rfl,hb3,Nat.le_trans t12.next hk3⟩⟩
   ·have z2:((n4:Int)==(n3:Int))=false:=by simpa using (fun e=>h2 (Int.ofNat.inj e))
    simp only[c119,hH1,e2,g1,g2,g3,g4,z0,z2,w4,b1,b2,m1,m2,m3,m4,sliceAF,oget,bounds,boundD,sy,tup,↓reduceIte,zA,zG,zC,zD,zF,zE,zB,zH,reduceCtorEq]
    exact⟨trivial,.inr trivial,_,rfl,t12,.inl ⟨by simp[h0,h2],by simp[h0,h2]⟩⟩
  ·have z1:((n1:Int)==(n2:Int))=false:=by simpa using (fun e=>h1 (Int.ofNat.inj e))
   simp only[c119,hH1,e2,g1,g2,g3,g4,z0,z1,sliceAF,oget,bounds,boundD,sy,tup,↓reduceIte,zA,zG,zC,zD,zF,zE,zB,zH,reduceCtorEq]
   exact⟨trivial,.inr trivial,_,rfl,t12,.inl ⟨by simp[h1],by simp[h1]⟩⟩
end Go.Proofs.YtabebpemfinejaaGreat.draft
namespace Go.Proofs.YtabebpemfinejaaGreat.draft
open Go.Am
theorem sumB_split (c:Nat→Nat) (i:Nat):∀ m,sumB c (i+m)=sumB c i+256 ^ i*sumB (fun j=>c (i+j)) m
 | 0=>by simp[sumB]
 | m+1=>by
  have ih:=sumB_split c i m
  show sumB c (i+m)+c (i+m)*256 ^ (i+m)=sumB c i+256 ^ i*(sumB (fun j=>c (i+j)) m+c (i+m)*256 ^ m)
  rw[ih,Nat.mul_add,Nat.pow_add,← Nat.mul_assoc,← Nat.mul_assoc,Nat.mul_comm (c (i+m)) (256 ^ i)]
  omega
theorem sumB_digit {c:Nat→Nat} {n i:Nat} (h:∀ j,j < n→c j < 256) (hi:i < n):sumB c n / 256 ^ i % 256=c i:=by
 have e:n=i+(1+(n - i - 1)):=by omega
 have a:=sumB_split c i (1+(n - i - 1))
 rw[← e] at a
 have b:=sumB_split (fun j=>c (i+j)) 1 (n - i - 1)
 have l:=sumB_lt (c:=c) (n:=i) (fun j hj=>h j (by omega))
 have hp:0 < 256 ^ i:=Nat.pow_pos (by decide)
 rw[a,Nat.add_mul_div_left _ _ hp,Nat.div_eq_of_lt l,Nat.zero_add,b]
 have:sumB (fun j=>c (i+j)) 1=c i:=by simp[sumB]
 rw[this,show 256 ^ 1=256 from rfl,Nat.add_mul_mod_self_left]
 exact Nat.mod_eq_of_lt (h i hi)
theorem stl_snoc (f:Nat→Nat):∀ n j,stl f (n+1) j=stl f n j++[f (j+n)]
 | 0,j=>rfl
 | n+1,j=>by
  show f j::stl f (n+1) (j+1)=(f j::stl f n (j+1))++[f (j+(n+1))]
  rw[stl_snoc f n (j+1),List.cons_append,show j+1+n=j+(n+1) by omega]
theorem stl_app (f:Nat→Nat) (n:Nat):∀ m j,stl f n j++stl f m (j+n)=stl f (n+m) j
 | 0,j=>by simp[stl]
 | m+1,j=>by
  rw[stl_snoc f m (j+n),← List.append_assoc,stl_app f n m j,← Nat.add_assoc,stl_snoc f (n+m) j,show j+n+m=j+(n+m) by omega]
theorem stl_shift (f:Nat→Nat) (a:Nat):∀ n j,stl (fun i=>f (a+i)) n j=stl f n (a+j)
 | 0,_=>rfl
 | n+1,j=>by
  show _::_=_::_
  rw[stl_shift f a n (j+1),show a+(j+1)=a+j+1 by omega]
theorem stl_congr {f g:Nat→Nat}:∀ n j,(∀ i,j≤i→i < j+n→f i=g i)→stl f n j=stl g n j
 | 0,_,_=>rfl
 | n+1,j,h=>by
  show _::_=_::_
  rw[h j (Nat.le_refl _) (by omega),stl_congr n (j+1) (fun i a b=>h i (by omega) (by omega))]
theorem stl_get (f:Nat→Nat):∀ n j i,i < n→(stl f n j)[i]?=some (f (j+i))
 | n+1,j,0,_=>rfl
 | n+1,j,i+1,h=>by
  show (stl f n (j+1))[i]?=_
  rw[stl_get f n (j+1) i (by omega),show j+1+i=j+(i+1) by omega]
theorem stl_getD {f:Nat→Nat} {n j i:Nat} (h:i < n):(stl f n j).getD i 0=f (j+i):=by
 rw[List.getD_eq_getElem?_getD,stl_get f n j i h];rfl
theorem digs_le {c:Nat→Nat} {n:Nat} (h:∀ j,j < n→c j < 256):∀ i,i≤n→digs (leN c n) i=stl c i 0
 | 0,_=>rfl
 | i+1,hi=>by
  rw[digs,digs_le h i (by omega),stl_snoc,leN_sum h,sumB_digit h (by omega),Nat.zero_add]
theorem putB_le' {c:Nat→Nat} {n:Nat} (h:∀ j,j < n→c j < 256):putB (leN c n) n=stl c n 0:=by
 unfold putB
 have l:=sumB_lt h
 rw[if_pos (by rw[leN_sum h];exact Nat.div_eq_of_lt l),digs_le h n (Nat.le_refl _)]
theorem eight (x:Nat) (h:x < 256):2*(2*(2*(2*(2*(2*(2*(2*0+x / 64 % 4 / 2 % 2)+x / 64 % 4 / 1 % 2)+x / 16 % 4 / 2 % 2)+x / 16 % 4 / 1 % 2)+x / 4 % 4 / 2 % 2)+x / 4 % 4 / 1 % 2)+x / 1 % 4 / 2 % 2)+x / 1 % 4 / 1 % 2=x:=by
 omega
theorem and3 (x:Nat):x&&&3=x % 4:=Nat.and_two_pow_sub_one_eq_mod x 2
theorem outB_two {c:Nat→Nat} {S:Nat→Nat} (hS:∀ i,i < 16→S i=twoB c i) (hc:∀ i,c i < 256) {q:Nat} (hq:q < 4):outB S q=c q:=by
 have t:∀ h,h < 4→S (4*q+h)=c q / 4 ^ h % 4:=fun h hh=>by
  rw[hS _ (by omega)]
  unfold twoB
  rw[show 2*(4*q+h) / 8=q by omega,show 2*(4*q+h) % 8=2*h by omega,and3,Nat.pow_mul]
 have b:∀ k,k < 8→bitOf S (8*q+k)=c q / 4 ^ (k / 2) % 4 / 2 ^ (k % 2) % 2:=fun k hk=>by
  unfold bitOf
  rw[show (8*q+k) / 2=4*q+k / 2 by omega,show (8*q+k) % 2=k % 2 by omega,t _ (by omega)]
 unfold outB
 show 2*(2*(2*(2*(2*(2*(2*(2*0+bitOf S (8*q+7))+bitOf S (8*q+6))+bitOf S (8*q+5))+bitOf S (8*q+4))+bitOf S (8*q+3))+bitOf S (8*q+2))+bitOf S (8*q+1))+bitOf S (8*q+0)=c q
 rw[b 7 (by omega),b 6 (by omega),b 5 (by omega),b 4 (by omega),b 3 (by omega),b 2 (by omega),b 1 (by omega),b 0 (by omega)]
 exact eight (c q) (hc q)
theorem outs_two {c:Nat→Nat} {S:Nat→Nat} (hS:∀ i,i < 16→S i=twoB c i) (hc:∀ i,c i < 256):∀ q,q≤4→outs S q=stl c q 0
 | 0,_=>rfl
 | q+1,hq=>by rw[outs,outs_two hS hc q (by omega),stl_snoc,outB_two hS hc (by omega),Nat.zero_add]
theorem fld_b (B a sz:Nat):putB (fld B a sz) sz=stl (byte B) sz (8+a):=by
 show putB (leN (fun i=>bc B (a+i)) sz) sz=_
 rw[putB_le' (c:=fun i=>bc B (a+i)) (fun j _=>bc_lt B _),stl_congr (g:=fun i=>byte B ((8+a)+i)) sz 0 (fun i _ _=>by show byte B (8+(a+i))=byte B (8+a+i);rw[Nat.add_assoc]),stl_shift (byte B) (8+a) sz 0,Nat.add_zero]
theorem fld_one (B a:Nat):fld B a 1=byte B (8+a):=by
 show leN (fun i=>bc B (a+i)) 1=_
 rw[leN_sum (fun i _=>bc_lt B _)]
 simp[sumB,bc]
noncomputable def againN (B:Nat):Nat:=if((((fld B 20 1:Nat):Int)==1):Bool)=true then 1 else 0
theorem body_again (B:Nat):bodyN (fld B 0 8) (fld B 13 1) (fld B 8 1) (fld B 9 2) (fld B 11 2) (gSt B) (fld B 18 2) (((fld B 20 1:Nat):Int)==1)=stl (byte B) 20 8++[againN B]:=by
 have hS:∀ i,i < 16→(gSt B).getD i 0=twoB (fun i=>bc B (14+i)) i:=fun i hi=>by
  unfold gSt
  rw[stl_getD hi,Nat.zero_add]
 unfold bodyN
 rw[fld_b,fld_b,fld_b,fld_b,fld_b,fld_b,outs_two (S:=fun i=>(gSt B).getD i 0) hS (fun i=>bc_lt B _) 4 (Nat.le_refl _)]
 have e:stl (fun i=>bc B (14+i)) 4 0=stl (byte B) 4 22:=by
  rw[stl_congr (g:=fun i=>byte B (22+i)) 4 0 (fun i _ _=>by show byte B (8+(14+i))=_;rw[show 8+(14+i)=22+i by omega]),stl_shift (byte B) 22 4 0]
 rw[e]
 show ((((((stl (byte B) 8 8++stl (byte B) 1 (8+8))++stl (byte B) 2 (8+9))++stl (byte B) 2 (8+11))++stl (byte B) 1 (8+13))++stl (byte B) 4 (8+14))++stl (byte B) 2 (8+18))++[againN B]=_
 rw[stl_app,stl_app,stl_app,stl_app,stl_app,stl_app]
theorem seal_num {B:Nat} (h:sealE B=0):digs (sealN B) 8=stl (byte B) 8 0∧digs (sealN B) 8=stl (byte B) 8 56∧digs (notN (crcN (byte B) 52)) 4=stl (byte B) 4 52:=by
 unfold sealE at h
 have hb:∀ a sz:Nat,∀ j,j < sz→byte B (a+j) < 256:=fun a sz j _=>byte_lt _ _
 split at h
 ·cases h
 ·rename_i h1
  split at h
  ·cases h
  ·rename_i h2
   have h1':sealN B=leN (fun i=>byte B (56+i)) 8:=by
    apply Classical.byContradiction
    intro e;exact h1 (.inr e)
   have h2':notN (crcN (byte B) 52)=leN (fun i=>byte B (52+i)) 4:=by
    apply Classical.byContradiction
    intro e;exact h2 e
   refine⟨?_,?_,?_⟩
   ·unfold sealN
    rw[digs_le (hb 0 8) 8 (Nat.le_refl _),stl_shift (byte B) 0 8 0]
   ·rw[h1',digs_le (hb 56 8) 8 (Nat.le_refl _),stl_shift (byte B) 56 8 0]
   ·rw[h2',digs_le (hb 52 4) 4 (Nat.le_refl _),stl_shift (byte B) 52 4 0]
theorem crcN_congr {f g:Nat→Nat}:∀ {n:Nat},(∀ i,i < n→f i=g i)→crcN f n=crcN g n
 | 0,_=>rfl
 | n+1,h=>by
  show crc.takeN (crcN f n) (f n)=crc.takeN (crcN g n) (g n)
  rw[crcN_congr (fun i hi=>h i (by omega)),h n (by omega)]
noncomputable def again (B:Nat):Nat:=blkOf (sealN B) (bodyN (fld B 0 8) (fld B 13 1) (fld B 8 1) (fld B 9 2) (fld B 11 2) (gSt B) (fld B 18 2) (((fld B 20 1:Nat):Int)==1))
theorem again_ok {B:Nat} (hB:B < 256 ^ 64) (h:sealE B=0):again B=B↔fld B 20 1≤1∧zeroTo (fun i=>bc B (21+i)) 23:=by
 obtain⟨d1,d2,d3⟩:=seal_num h
 have hlen:(stl (byte B) 20 8++[againN B]).length=21:=by rw[List.length_append,stl_len];rfl
 have hhead:headOf (sealN B) (stl (byte B) 20 8++[againN B])=stl (byte B) 8 0++((stl (byte B) 20 8++[againN B])++List.replicate 23 0):=by
  unfold headOf
  rw[hlen,d1]
 have hx1:againN B≤1:=by unfold againN;split<;>omega
 have hxl:∀ x ∈ stl (byte B) 20 8++[againN B],x < 256:=by
  intro x hx
  rw[← body_again] at hx
  exact bodyN_lt _ _ _ _ _ _ _ _ x hx
 have hb:∀ j,j < 64→byte (again B) j=(rowOf (sealN B) (stl (byte B) 20 8++[againN B])).getD j 0:=fun j hj=>by
  unfold again blkOf
  rw[body_again,byte_fillN (fun i=>getD_lt (l:=rowOf (sealN B) (stl (byte B) 20 8++[againN B])) (row_lt hxl) i),if_pos hj]
 constructor
 ·intro e
  rw[e] at hb
  have hrow:∀ j,j < 52→(rowOf (sealN B) (stl (byte B) 20 8++[againN B])).getD j 0=(stl (byte B) 8 0++((stl (byte B) 20 8++[againN B])++List.replicate 23 0)).getD j 0:=fun j hj=>by
   unfold rowOf
   have hl:(headOf (sealN B) (stl (byte B) 20 8++[againN B])).length=52:=head_len (by omega)
   rw[List.getD_eq_getElem?_getD,List.getD_eq_getElem?_getD,List.append_assoc,List.getElem?_append_left (by omega),hhead]
  constructor
  ·rw[fld_one]
   have:=hb 28 (by omega)
   rw[hrow 28 (by omega),List.getD_eq_getElem?_getD,List.getElem?_append_right (by rw[stl_len];omega),stl_len,List.getElem?_append_left (by rw[hlen];omega),List.getElem?_append_right (by rw[stl_len];omega),stl_len] at this
   rw[this];exact hx1
  ·intro i hi
   have:=hb (29+i) (by omega)
   rw[hrow (29+i) (by omega),List.getD_eq_getElem?_getD,List.getElem?_append_right (by rw[stl_len];omega),stl_len,List.getElem?_append_right (by rw[hlen];omega),hlen,List.getElem?_replicate,if_pos (by omega)] at this
   show byte B (8+(21+i))=0
   rw[show 8+(21+i)=29+i by omega,this];rfl
 ·rintro⟨g1,g2⟩
  have hx:[againN B]=stl (byte B) 1 28:=by
   show [againN B]=[byte B 28]
   have:againN B=byte B 28:=by
    rw[fld_one] at g1
    have e:=fld_one B 20
    unfold againN
    rw[e]
    have:byte B (8+20)=0∨byte B (8+20)=1:=by omega
    rcases this with h | h
    ·rw[h];simp[h]
    ·rw[h];simp[h]
   rw[this]
  have hz:List.replicate 23 0=stl (byte B) 23 29:=by
   apply List.ext_getElem?
   intro i
   by_cases hi:i < 23
   ·rw[List.getElem?_replicate,if_pos hi,stl_get _ _ _ _ hi]
    have:=g2 i hi
    have:byte B (8+(21+i))=0:=this
    rw[show 29+i=8+(21+i) by omega,this]
   ·rw[List.getElem?_replicate,if_neg hi,List.getElem?_eq_none (by rw[stl_len];omega)]
  have hh:headOf (sealN B) (stl (byte B) 20 8++[againN B])=stl (byte B) 52 0:=by
   rw[hhead,hx,hz,stl_app (byte B) 20 1 8,stl_app (byte B) 21 23 8,stl_app (byte B) 8 44 0]
  have hs:sumOf (sealN B) (stl (byte B) 20 8++[againN B])=notN (crcN (byte B) 52):=by
   unfold sumOf
   rw[hh,crcN_congr (g:=byte B) (fun i hi=>by rw[stl_getD hi,Nat.zero_add])]
  have hr:rowOf (sealN B) (stl (byte B) 20 8++[againN B])=stl (byte B) 64 0:=by
   unfold rowOf
   rw[hs,hh,d3,d2,stl_app (byte B) 52 4 0,stl_app (byte B) 56 8 0]
  refine disk.eq_of_bytes ?_ hB (fun j hj=>?_)
  ·unfold again blkOf
   rw[body_again]
   exact fillN_lt (fun i=>getD_lt (l:=rowOf (sealN B) (stl (byte B) 20 8++[againN B])) (row_lt hxl) i) 64 (Nat.le_refl _)
  ·rw[hb j hj,hr,stl_getD hj,Nat.zero_add]
end Go.Proofs.YtabebpemfinejaaGreat.draft
