import Derived.Test.YtabebpemfinejaaGreatG6
import Derived.Test.YtabebpemfinejaaGreatG0
set_option linter.unusedVariables false
set_option linter.unusedSectionVars false
set_option linter.unusedSimpArgs false
set_option maxRecDepth 10000
open Nat renaming reduceEqDiff → zA, reduceLeDiff → zB, reduceSub → zC, reduceMul → zD, reduceMod → zE, reduceDiv → zF, reduceAdd → zG
open Int renaming reduceBEq → zH
namespace Go.Proofs.YtabebpemfinejaaGreat.draft
open Go.Am
open disk (bx Fit A1 R1 Low Bn Bok xorB)
theorem ldK {ro:Bool} {A:List Nat} {i:Nat} (hi:i < A.length):ldO (some (.rows ro 64 (rowsK A))) (i*64) 64=some [.blk A[i]]:=by
 have h1:nth (rowsK A) (Nat.div (i*64) 64)=some [.blk A[i]]:=nth_of (by
  rw[show Nat.div (i*64) 64=i from Nat.mul_div_cancel i (by decide)]
  unfold rowsK
  rw[List.getElem?_map,List.getElem?_eq_getElem hi];rfl)
 have h2:Nat.mod (i*64) 64=0:=Nat.mul_mod_left i 64
 unfold ldO
 simp only[h1,h2]
 rfl
theorem stK {A:List Nat} {i:Nat} (hi:i < A.length) (x:Nat):stO (some (.rows false 64 (rowsK A))) (i*64) [.blk x]=some (.rows false 64 (rowsK (A.set i x))):=by
 have h0:Nat.div (i*64) 64=i:=Nat.mul_div_cancel i (by decide)
 have h1:nth (rowsK A) (Nat.div (i*64) 64)=some [.blk A[i]]:=nth_of (by
  rw[h0]
  unfold rowsK
  rw[List.getElem?_map,List.getElem?_eq_getElem hi];rfl)
 have h2:Nat.mod (i*64) 64=0:=Nat.mul_mod_left i 64
 have h3:put [.blk A[i]] 0 [.blk x]=some [.blk x]:=Dn _ _ _
 rw[h0] at h1
 unfold stO
 simp only[h0,h1,h2,h3,upd_eq]
 unfold rowsK
 rw[List.map_set]
def BlksIn (G:Heap) (lp:Option Ptr) (L:List Nat):Prop:=L≠[]→∃ b rows,lp=some ⟨.arg b,0⟩∧G.get (.arg b)=some (.rows true 64 rows)∧∀ i (h:i < L.length),rows[i]?=some [.blk L[i]]
theorem BlksIn.turns {G G':Heap} {lp:Option Ptr} {L:List Nat} (h:BlksIn G lp L) (t:Turns Z G G'):BlksIn G' lp L:=fun hL=>by
 obtain⟨b,rows,e,hg,hr⟩:=h hL
 exact⟨b,rows,e,(t.same (.arg b) trivial (fun h=>h)).trans hg,hr⟩
theorem BlksIn.ld {G:Heap} {lp:Option Ptr} {L:List Nat} (h:BlksIn G lp L) {i:Nat} (hi:i < L.length):∃ b,lp=some ⟨.arg b,0⟩∧ldO (G.get (.arg b)) (i*64) 64=some [.blk L[i]]:=by
 obtain⟨b,rows,e,hg,hr⟩:=h (fun e=>by rw[e] at hi;cases hi)
 refine⟨b,e,?_⟩
 rw[hg]
 have h1:nth rows (Nat.div (i*64) 64)=some [.blk L[i]]:=nth_of (by
  rw[show Nat.div (i*64) 64=i from Nat.mul_div_cancel i (by decide)]
  exact hr i hi)
 have h2:Nat.mod (i*64) 64=0:=Nat.mul_mod_left i 64
 unfold ldO
 simp only[h1,h2]
 rfl
structure Wr19 (M q:Nat) (A:List Nat) (i:Nat) (B:Bn):Prop where
 calm:Calm M i B
 S:∀ j:Nat,j < M→(B.dev (j:Int)).S.length=6
 sec:∀ j t:Nat,j < M→t < 2→sect B j t=0
 dd:∀ j,j < M→dead B j=false
 cnt:∀ j,j < i→cont B j q=A.getD j 0
theorem wr19_zero {M q:Nat} (hM:3≤M∧M≤6) (A:List Nat):Wr19 M q A 0 (disk.newB (sizes M)):=by
 obtain⟨cC,cd,_,_⟩:=zero_calm hM
 refine⟨cC,fun j hj=>by rw[cd j hj];rfl,fun j t hj ht=>?_,fun j hj=>by unfold dead;rw[cd j hj];rfl,fun j hj=>absurd hj (by omega)⟩
 unfold sect
 rw[cd j hj]
 have:t=0∨t=1:=by omega
 rcases this with rfl | rfl<;>rfl
theorem Wr19.next {M q:Nat} {A:List Nat} {i:Nat} {B:Bn} (h:Wr19 M q A i B) (hi:i < M) (hq:2≤q∧q < 6):Data M i B i q (A.getD i 0) (B.write (i:Int) (q:Int) (A.getD i 0))∧Wr19 M q A (i+1) (B.write (i:Int) (q:Int) (A.getD i 0)):=by
 have hD:=h.calm.data (x:=A.getD i 0) hi (h.dd i hi) (q:=q) ⟨hq.1,by rw[h.S i hi];exact hq.2⟩
 refine⟨hD,hD.calm,fun j hj=>?_,fun j t hj ht=>?_,fun j hj=>?_,fun j hj=>?_⟩
 ·by_cases e:j=i
  ·rw[e,hD.S];exact h.S i hi
  ·rw[hD.oth j (by omega) e];exact h.S j hj
 ·have:=h.sec j t hj ht
  unfold sect at this ⊢
  by_cases e:j=i
  ·subst e;rw[hD.S];exact this
  ·rw[hD.oth j (by omega) e];exact this
 ·by_cases e:j=i
  ·rw[e];exact hD.dd
  ·unfold dead;rw[hD.oth j (by omega) e];exact h.dd j hj
 ·by_cases e:j=i
  ·rw[e];exact hD.cnt
  ·unfold cont;rw[hD.oth j (by omega) e];exact h.cnt j (by omega)
theorem zeros_get (j:Nat):(List.replicate 16 0).getD j 0=0:=by
 rw[List.getD,List.getElem?_replicate]
 split<;>rfl
structure Fell19 (M st:Nat) (X:Nat→Nat) (d:Nat) (B B2:Bn):Prop where
 tc:B.tc (d:Int)=0
 fit:Fit B2
 ready:Ready M (M+1) 0 9 4 40 ((List.replicate 16 0).set d 1) (loseC (List.replicate 16 0) 0 d) B2
 gone:B2.rc (d:Int) (2+(st:Int))=9
 cells:∀ i,i < M→i≠d→Cell M (List.replicate 16 0) 0 B2 (st:Int) X i
 behind:∀ E' S' c' B',Saved M 0 9 4 40 ((List.replicate 16 0).set d 1) false B2 E' S' c' B'→Behind M 4 40 false (st:Int) X d S' c' B'
theorem cells19 {M st:Nat} {A:List Nat} {B:Bn} (hM:3≤M∧M≤6) (hst:st < 4) (hW:Wr19 M (2+st) A M B):∀ i,i < M→Cell M (List.replicate 16 0) 0 B (st:Int) (fun i=>A.getD i 0) i:=fun i hi=>by
 obtain⟨h1,h2⟩:=hW.calm.cell hi (hW.dd i hi) (q:=2+st) (by rw[hW.S i hi];omega)
 have hq:((2+st:Nat):Int)=2+(st:Int):=by omega
 rw[hq] at h1 h2
 refine⟨?_,h1,h2.trans (hW.cnt i hi)⟩
 unfold hasN
 rw[if_pos (zeros_get i)]
theorem fell19 {M st:Nat} {A:List Nat} {B:Bn} (hM:3≤M∧M≤6) (hst:st < 4) (hW:Wr19 M (2+st) A M B) {d:Nat} (hd:d < M):Fell19 M st (fun i=>A.getD i 0) d B (B.fail (d:Int)):=by
 obtain⟨htc,hC,dv⟩:=hW.calm.fail hd
 have hdd:dead (B.fail (d:Int)) d=true:=by unfold dead;rw[dv d (by omega),if_pos rfl];rfl
 have oth:∀ i,i < M→i≠d→(B.fail (d:Int)).dev (i:Int)=B.dev (i:Int):=fun i hi hne=>by rw[dv i (by omega),if_neg hne]
 have doth:∀ i,i < M→i≠d→dead (B.fail (d:Int)) i=false:=fun i hi hne=>by unfold dead;rw[oth i hi hne];exact hW.dd i hi
 have hS:∀ i:Nat,i < M→((B.fail (d:Int)).dev (i:Int)).S.length=6:=fun i hi=>by
  by_cases e:i=d
  ·rw[e,dv d (by omega),if_pos rfl];exact hW.S d hd
  ·rw[oth i hi e];exact hW.S i hi
 have hsec:∀ j t:Nat,j < M→t < 2→sect (B.fail (d:Int)) j t=0:=fun j t hj ht=>by
  unfold sect
  by_cases e:j=d
  ·rw[e,dv d (by omega),if_pos rfl];have:=hW.sec d t hd ht;exact this
  ·rw[oth j hj e];exact hW.sec j t hj ht
 have hmu:=mu_le (B.fail (d:Int)) ((List.replicate 16 0).set d 1) M
 have hq:((2+st:Nat):Int)=2+(st:Int):=by omega
 refine⟨htc,hC.fit (by omega),⟨hC,by omega,by omega,by decide,by decide,lose_fine (by simp) (zeros_fine hM) (by omega),fun j hj t ht=>.inr (by rw[hsec j t hj ht,seal_zero];omega)⟩,?_,fun i hi hne=>?_,fun E' S' c' B' hs=>?_⟩
 ·have:=hC.gone hd hdd (q:=2+st) (by rw[hS d hd];omega)
  rw[hq] at this;exact this
 ·obtain⟨h1,h2⟩:=hC.cell hi (doth i hi hne) (q:=2+st) (by rw[hS i hi];omega)
  rw[hq] at h1 h2
  refine⟨?_,h1,?_⟩
  ·unfold hasN
   rw[if_pos (zeros_get i)]
  ·rw[h2]
   unfold cont
   rw[oth i hi hne]
   exact hW.cnt i hi
 ·have hst':∀ j,S'.getD j 0=if j=d then 1 else 0:=fun j=>by
   have hg:((List.replicate 16 0).set d 1).getD j 0=if j=d then 1 else 0:=by
    rw[getD_set (by rw[List.length_replicate];omega),zeros_get]
   rcases hs.st j with h | ⟨h1,h2,h3⟩
   ·exact h.trans hg
   ·by_cases e:j=d
    ·rw[if_pos e];exact h1
    ·rw[doth j h2 e] at h3;cases h3
  have hSe:S'=(List.replicate 16 0).set d 1:=by
   apply List.ext_getElem
   ·rw[hs.len];simp
   ·intro j h1 h2
    have:=hst' j
    rw[List.getD,List.getElem?_eq_getElem h1] at this
    have h3:((List.replicate 16 0).set d 1).getD j 0=if j=d then 1 else 0:=by
     rw[getD_set (by rw[List.length_replicate];omega),zeros_get]
    rw[List.getD,List.getElem?_eq_getElem h2] at h3
    exact this.trans h3.symm
  refine⟨?_,fun i hi hne=>?_⟩
  ·rw[hSe]
   have:d=0∨d=1∨d=2∨d=3∨d=4∨d=5:=by omega
   rcases this with rfl | rfl | rfl | rfl | rfl | rfl<;>decide
  ·obtain⟨k',hk',hC'⟩:=hs.calm
   obtain⟨h1,h2⟩:=hC'.cell hi ((hs.dd i hi).trans (doth i hi hne)) (q:=2+st) (by rw[hs.sz i (by omega),hS i hi];omega)
   rw[hq] at h1 h2
   refine⟨?_,h1,?_⟩
   ·unfold hasN
    rw[if_pos (by rw[hst' i,if_neg hne])]
   ·rw[h2,hs.cnt i hi (2+st) (by omega)]
    unfold cont
    rw[oth i hi hne]
    exact hW.cnt i hi
section
variable {lf K:Nat} (hlf:1000 < lf)
include hlf
theorem u19loop1 {G G1:Heap} {lp:Option Ptr} {lc z w M:Nat} {L:List Nat} (hL:BlksIn G lp L) (hs:∀ x ∈ L,x < 256 ^ 64) (hM:3≤M∧M≤6) (t1:Turns Z G G1) (hw:G1.get (.run w)=some (.rows false 64 (rowsK (List.replicate M 0)))) (wo:w < G1.next) {V0 V9 V10 V3 V13:V} (n:Nat):∀ t:T,t.getP (Tr.path 1)=some (.slice lp L.length lc z)→t.getP (Tr.path 12)=some (.int .i64 (M:Int))→t.getP (Tr.path 14)=some (.slice (some ⟨.run w,0⟩) M M 0)→t.getP (Tr.path 15)=some (.int .i64 0)→t.getP (Tr.path 3)=some V3→t.getP (Tr.path 9)=some V9→t.getP (Tr.path 10)=some V10→t.getP (Tr.path 13)=some V13 →
  wp (loopF (runC (U lf K (n+1)) lf c4_l1) lf ⟨t,G1,[]⟩) fun x s'=>x=.ex 0∧s'.d=[]∧s'.t.getP (Tr.path 12)=some (.int .i64 (M:Int))∧s'.t.getP (Tr.path 14)=some (.slice (some ⟨.run w,0⟩) M M 0)∧s'.t.getP (Tr.path 3)=some V3∧s'.t.getP (Tr.path 9)=some V9∧s'.t.getP (Tr.path 10)=some V10∧s'.t.getP (Tr.path 13)=some V13∧∃ A,A.length=M∧(∀ x ∈ A,x < 256 ^ 64)∧s'.H.get (.run w)=some (.rows false 64 (rowsK A))∧Turns (fun c=>c=.run w) G1 s'.H:=by
 intro t q1 q12 q14 q15 q3 q9 q10 q13
 refine wp_loopF (fun u s'=>∃ i:Nat,u=M - i∧i≤M∧s'.d=[]∧s'.t.getP (Tr.path 1)=some (.slice lp L.length lc z)∧s'.t.getP (Tr.path 12)=some (.int .i64 (M:Int))∧s'.t.getP (Tr.path 14)=some (.slice (some ⟨.run w,0⟩) M M 0)∧s'.t.getP (Tr.path 15)=some (.int .i64 (i:Int))∧s'.t.getP (Tr.path 3)=some V3∧s'.t.getP (Tr.path 9)=some V9∧s'.t.getP (Tr.path 10)=some V10∧s'.t.getP (Tr.path 13)=some V13∧∃ A,A.length=M∧(∀ x ∈ A,x < 256 ^ 64)∧s'.H.get (.run w)=some (.rows false 64 (rowsK A))∧Turns (fun c=>c=.run w) G1 s'.H)
  ?_ lf M _ ⟨0,rfl,Nat.zero_le _,rfl,q1,q12,q14,q15,q3,q9,q10,q13,_,List.length_replicate,fun x hx=>by rw[List.mem_replicate] at hx;rw[hx.2];decide,hw,Turns.refl _ _⟩ (by omega)
 rintro u ⟨t,G2,d⟩ ⟨i,rfl,hi,hd,q1,q12,q14,q15,q3,q9,q10,q13,A,hA,hAs,hg,ht⟩
 dsimp only at hd q1 q12 q14 q15 q3 q9 q10 q13 hg ht
 subst hd
 have w0:IntKind.i64.wrap ((M:Int) - 1)=(M:Int) - 1:=Go.Am.wrap_i64 (by omega)
 have w1:IntKind.i64.wrap ((i:Int)+1)=((i+1:Nat):Int):=by rw[Go.Am.wrap_i64 (by omega)];omega
 by_cases h1:(i:Int) < (M:Int) - 1
 ·by_cases h2:i < L.length
  ·have h2':(i:Int) < (L.length:Int):=by omega
   have hle:i+1≤L.length:=h2
   have hle2:i+1≤M:=by omega
   obtain⟨ab,rfl,hld⟩:=(hL.turns t1).ld h2
   have hld2:ldO (G2.get (.arg ab)) (i*64) 64=some [.blk L[i]]:=by rw[ht.same (.arg ab) trivial (fun e=>by cases e)];exact hld
   have hst:=stK (A:=A) (i:=i) (by omega) L[i]
   simp (maxDischargeDepth:=12) only[c4_l1,q1,q12,q14,q15,w0,w1,h1,h2',hle,hle2,hld2,hst,hg,hv,ldO_one,stO_one,sy,tup,↓reduceIte,zA,zG,zC,zD,zF,zE,zB,zH,reduceCtorEq]
   refine⟨M - (i+1),by omega,i+1,rfl,by omega,trivial,by simp[q1],by simp[q12],by simp[q14],by simp,by simp[q3],by simp[q9],by simp[q10],by simp[q13],A.set i L[i],by simpa using hA,fun x hx=>?_,by trivial,Turns.setb ht _⟩
   rcases List.mem_or_eq_of_mem_set hx with hx | rfl
   ·exact hAs x hx
   ·exact hs _ (List.getElem_mem _)
  ·have h2':¬ (i:Int) < (L.length:Int):=by omega
   simp (maxDischargeDepth:=12) only[c4_l1,q1,q12,q14,q15,w0,w1,h1,h2',hv,ldO_one,stO_one,sy,tup,↓reduceIte,zA,zG,zC,zD,zF,zE,zB,zH,reduceCtorEq]
   exact⟨trivial,trivial,trivial,trivial,by simp[q3],by simp[q9],by simp[q10],by simp[q13],A,hA,hAs,hg,ht⟩
 ·simp (maxDischargeDepth:=12) only[c4_l1,q1,q12,q14,q15,w0,w1,h1,hv,ldO_one,stO_one,sy,tup,↓reduceIte,zA,zG,zC,zD,zF,zE,zB,zH,reduceCtorEq]
  exact⟨trivial,trivial,trivial,trivial,by simp[q3],by simp[q9],by simp[q10],by simp[q13],A,hA,hAs,hg,ht⟩
theorem u19loop2 {G1:Heap} {h b:Bk} {w M st:Nat} {A:List Nat} (hM:3≤M∧M≤6) (hst:st < 4) (hA:A.length=M) (hh:HB G1 h b 9 0 (M:Int) 4 40 (List.replicate 16 0) 0 false (disk.newB (sizes M))) (hw:G1.get (.run w)=some (.rows false 64 (rowsK A))) (wo:w < G1.next) {V3 V10 V14:V} (n:Nat):∀ t:T,t.getP (Tr.path 9)=some (.ptr (some ⟨h,0⟩))→t.getP (Tr.path 12)=some (.int .i64 (M:Int))→t.getP (Tr.path 13)=some (.int .i64 (st:Int))→t.getP (Tr.path 14)=some (.slice (some ⟨.run w,0⟩) M M 0)→t.getP (Tr.path 16)=some (.int .i64 0)→t.getP (Tr.path 3)=some V3→t.getP (Tr.path 10)=some V10 →
  wp (loopF (runC (U lf K (n+5)) lf c4_l0) lf ⟨t,G1,[]⟩) fun x s'=>x=.ex 2∧s'.d=[]∧s'.t.getP (Tr.path 9)=some (.ptr (some ⟨h,0⟩))∧s'.t.getP (Tr.path 12)=some (.int .i64 (M:Int))∧s'.t.getP (Tr.path 13)=some (.int .i64 (st:Int))∧s'.t.getP (Tr.path 14)=some (.slice (some ⟨.run w,0⟩) M M 0)∧s'.t.getP (Tr.path 3)=some V3∧s'.t.getP (Tr.path 10)=some V10∧∃ B,Wr19 M (2+st) A M B∧HB s'.H h b 9 0 (M:Int) 4 40 (List.replicate 16 0) 0 false B∧Turns (fun c=>c=b) G1 s'.H:=by
 intro t q9 q12 q13 q14 q16 q3 q10
 have hz:=zeros_fine hM
 have hok:stateOf (List.replicate 16 0) false≠5:=by decide
 refine wp_loopF (fun u s'=>∃(i:Nat) (B:Bn),u=M - i∧i≤M∧s'.d=[]∧s'.t.getP (Tr.path 9)=some (.ptr (some ⟨h,0⟩))∧s'.t.getP (Tr.path 12)=some (.int .i64 (M:Int))∧s'.t.getP (Tr.path 13)=some (.int .i64 (st:Int))∧s'.t.getP (Tr.path 14)=some (.slice (some ⟨.run w,0⟩) M M 0)∧s'.t.getP (Tr.path 16)=some (.int .i64 (i:Int))∧s'.t.getP (Tr.path 3)=some V3∧s'.t.getP (Tr.path 10)=some V10∧Wr19 M (2+st) A i B∧HB s'.H h b 9 0 (M:Int) 4 40 (List.replicate 16 0) 0 false B∧Turns (fun c=>c=b) G1 s'.H)
  ?_ lf M _ ⟨0,_,rfl,Nat.zero_le _,rfl,q9,q12,q13,q14,q16,q3,q10,wr19_zero hM A,hh,Turns.refl _ _⟩ (by omega)
 rintro u ⟨t,G2,d⟩ ⟨i,B,rfl,hi,hd,q9,q12,q13,q14,q16,q3,q10,hW,hh2,ht⟩
 dsimp only at hd q9 q12 q13 q14 q16 q3 q10 hh2 ht
 subst hd
 by_cases hlt:i < M
 ·have hlt':(i:Int) < (M:Int):=by omega
  have w1:IntKind.i64.wrap ((i:Int)+1)=((i+1:Nat):Int):=by rw[Go.Am.wrap_i64 (by omega)];omega
  obtain⟨hD,hW'⟩:=hW.next hlt ⟨by omega,by omega⟩
  have hq:((2+st:Nat):Int)=2+(st:Int):=by omega
  rw[hq] at hD hW'
  have hwc:=hD.wc
  rw[hq] at hwc
  obtain⟨v3,G3,e3,rfl,hh3,t3⟩:=uhwrite_ok hlf hh2 (K:=K) hz hok (st:=(st:Int)) (i:=i) (by omega) hlt' (by unfold hasN;rw[if_pos (by rw[List.getD,List.getElem?_replicate];split<;>rfl)]) hwc (hD.calm.fit (by omega)) (n+1)
  have nb:=ne_of_get hw hh.bench (by intro e;cases e)
  have hw2:G2.get (.run w)=some (.rows false 64 (rowsK A)):=(ht.same (.run w) wo (fun e=>by rw[nb] at e;exact e)).trans hw
  have hld:=ldK (ro:=false) (A:=A) (i:=i) (by omega)
  have hgA:A[i]'(by omega)=A.getD i 0:=by simp[List.getD,show i < A.length by omega]
  rw[hgA] at hld
  have hle:i+1≤M:=hlt
  unfold plc at e3
  simp (maxDischargeDepth:=12) only[c4_l0,q9,q12,q13,q14,q16,hlt',hle,hw2,hld,e3,w1,hv,ldO_one,stO_one,sy,tup,↓reduceIte,zA,zG,zC,zD,zF,zE,zB,zH,reduceCtorEq]
  exact⟨M - (i+1),by omega,i+1,_,rfl,by omega,trivial,by simp[q9],by simp[q12],by simp[q13],by simp[q14],by simp,by simp[q3],by simp[q10],hW',hh3,ht.trans t3⟩
 ·have:i=M:=by omega
  subst this
  simp (maxDischargeDepth:=12) only[c4_l0,q9,q12,q13,q14,q16,Int.lt_irrefl,hv,ldO_one,stO_one,sy,tup,↓reduceIte,zA,zG,zC,zD,zF,zE,zB,zH,reduceCtorEq]
  exact⟨trivial,trivial,trivial,trivial,trivial,trivial,by simp[q3],by simp[q10],B,hW,hh2,ht⟩
theorem ulives19 (H:Heap) (n:Nat):U lf K (n+1) 27 [] H=some (.v (.bool true),H):=callU_told rfl
theorem fetchsame_run (G:Heap) {u st dd:Nat} {lp:Option Ptr} {lc z:Nat} {L:List Nat} (hu:u < 256) (hst:st < 256) (hdd:dd < 256) (hL:BlksIn G lp L) (hs:∀ x ∈ L,x < 256 ^ 64) (n:Nat) :
  ret (U lf K (n+14) 4 [.int .u8 (u:Int),.slice lp L.length lc z,.int .u8 (st:Int),.int .u8 (dd:Int)] G) fun v G'=>v=.bool true∧(QOk G→QOk G'):=by
 obtain⟨N,hN⟩:∃ N,N=2+u % 4:=⟨_,rfl⟩
 obtain⟨M,hM⟩:∃ M,M=N+1:=⟨_,rfl⟩
 have hM6:3≤M∧M≤6:=by omega
 obtain⟨v1,G1,e1,h,b,y,rfl,hm⟩:=uboth19 hlf (K:=K) G (M:=M) hu (by omega) (n+9)
 obtain⟨yc,hy⟩:=hm.yg
 have cy:cut (hcells yc 9 0 (M:Int) 4 40 (List.replicate 16 0) 0 false) 3 1=some [.int .i64 (M:Int)]:=rfl
 have r4:arith .rem (.int .u8 (st:Int)) (.int .u8 4)=some (.int .u8 ((st % 4:Nat):Int)):=rem_u8 st 4 (by decide)
 have hs4:st % 4 < 4:=Nat.mod_lt _ (by decide)
 generalize st % 4=s at r4 hs4
 have w1:IntKind.i64.wrap (s:Int)=(s:Int):=Go.Am.wrap_i64 (by omega)
 have w2:IntKind.i64.wrap ((M:Int) - 1)=(N:Int):=by rw[Go.Am.wrap_i64 (by omega)];omega
 have m1:64*M≤1099511627776:=by omega
 have m2:M≤1099511627776:=by omega
 have ez:List.replicate M [V.blk 0]=rowsK (List.replicate M 0):=by unfold rowsK;rw[List.map_replicate]
 obtain⟨G2,hG2⟩:∃ G2,G1.add (.rows false 64 (rowsK (List.replicate M 0)))=G2:=⟨_,rfl⟩
 have t2:Turns Z G1 G2:=by rw[← hG2];exact Turns.add Z G1 _
 have hw2:G2.get (.run G1.next)=some (.rows false 64 (rowsK (List.replicate M 0))):=by rw[← hG2,Heap.get_add,if_pos rfl]
 have wo2:G1.next < G2.next:=by rw[← hG2];show _ < _+1;exact Nat.lt_succ_self _
 refine ret_callU rfl rfl c4_eq ?_
 simp (maxDischargeDepth:=12) only[c4,e1,hy,cy,r4,w1,mksliceF,m1,m2,ez,hG2,hv,ldO_one,stO_one,sy,tup,↓reduceIte,zA,zG,zC,zD,zF,zE,zB,zH,reduceCtorEq]
 refine wp_ctx (F:=fun r=>seqC _ _ _ (blockC _ r)) (u19loop1 hlf (n:=n+12) (lc:=lc) (z:=z) hL hs hM6 (hm.t.trans t2) hw2 wo2 (V0:=.bool false) (V9:=.ptr (some ⟨h,0⟩)) (V10:=.ptr (some ⟨b,0⟩)) (V3:=.int .u8 (dd:Int)) (V13:=.int .i64 (s:Int)) _ ?_ ?_ ?_ ?_ ?_ ?_ ?_ ?_) ?_
 ·simp only[sy,tup,↓reduceIte,zA,zG,zC,zD,zF,zE,zB,zH,reduceCtorEq]
 ·simp only[sy,tup,↓reduceIte,zA,zG,zC,zD,zF,zE,zB,zH,reduceCtorEq]
 ·simp only[sy,tup,↓reduceIte,zA,zG,zC,zD,zF,zE,zB,zH,reduceCtorEq]
 ·simp only[sy,tup,↓reduceIte,zA,zG,zC,zD,zF,zE,zB,zH,reduceCtorEq]
 ·simp only[sy,tup,↓reduceIte,zA,zG,zC,zD,zF,zE,zB,zH,reduceCtorEq]
 ·simp only[sy,tup,↓reduceIte,zA,zG,zC,zD,zF,zE,zB,zH,reduceCtorEq]
 ·simp only[sy,tup,↓reduceIte,zA,zG,zC,zD,zF,zE,zB,zH,reduceCtorEq]
 ·simp only[sy,tup,↓reduceIte,zA,zG,zC,zD,zF,zE,zB,zH,reduceCtorEq]
 rintro x ⟨t,G3,d⟩ ⟨rfl,hd,p12,p14,p3,p9,p10,p13,A,hA,hAs,hg3,t3⟩
 dsimp only at hd p12 p14 p3 p9 p10 p13 hg3 t3
 subst hd
 have wo3:G1.next < G3.next:=Nat.lt_of_lt_of_le wo2 t3.next
 have t13:Turns Z G1 G3:=t2.later t3 (fun c hc e=>by
  subst e;exact absurd hc (Heap.not_old (Nat.le_refl _)))
 obtain⟨F,hF⟩:∃ F,F=foldB (A.take N):=⟨_,rfl⟩
 have hFl:F < 256 ^ 64:=by rw[hF];exact foldB_lt _
 have tl:(A.take N).length=N:=by rw[List.length_take];omega
 have hblk:∀ H,Turns Z G3 H→BlksAt H (.slice (some ⟨.run G1.next,0⟩) N M 0) (A.take N):=fun H t=>by
  have hg:=(t.same (.run G1.next) wo3 (fun h=>h)).trans hg3
  refine⟨⟨_,_,_,by rw[tl]⟩,fun i hi=>⟨G1.next,0,M,0,by rw[tl],?_⟩⟩
  rw[tl] at hi
  rw[ld_get,hg,Nat.zero_add,ldK (by omega)]
  simp
 obtain⟨v4,G4,e4,rfl,t4⟩:=urfold hlf (K:=K) hblk (by omega) (n+11)
 rw[← hF] at e4
 have hg4:=(t4.same (.run G1.next) wo3 (fun h=>h)).trans hg3
 have hst4:=stK (A:=A) (i:=N) (by omega) F
 obtain⟨A',hA'⟩:∃ A',A'=A.set N F:=⟨_,rfl⟩
 rw[← hA'] at hst4
 have lA':A'.length=M:=by rw[hA'];simpa using hA
 obtain⟨G5,hG5⟩:∃ G5,G4.set (.run G1.next) (.rows false 64 (rowsK A'))=G5:=⟨_,rfl⟩
 have hw5:G5.get (.run G1.next)=some (.rows false 64 (rowsK A')):=by rw[← hG5,Heap.get_set,if_pos rfl]
 have t15:Turns Z G1 G5:=by
  rw[← hG5]
  exact(t13.trans t4).setn _ (Nat.le_refl _) _
 have wo5:G1.next < G5.next:=by rw[← hG5];exact Nat.lt_of_lt_of_le wo3 t4.next
 have hh5:=hm.hb.turns t15
 have hle:N+1≤M:=by omega
 have hle0:N≤M:=by omega
 have bd:bounds M M none (some (.int .i64 (N:Int))) none=some (0,N,M):=by
  have b1:bound M (.int .i64 (N:Int))=some N:=by
   unfold bound
   simp only[Da,nble,hle0,decide_true]
  unfold bounds boundD
  simp only[b1]
 have mz:(M=0)=False:=by simp;omega
 simp (maxDischargeDepth:=12) only[p12,p14,p3,p9,p10,p13,w2,bd,mz,Nat.sub_zero,e4,hg4,hst4,hle,hG5,hv,ldO_one,stO_one,sy,tup,↓reduceIte,zA,zG,zC,zD,zF,zE,zB,zH,reduceCtorEq]
 refine wp_ctx (F:=fun r=>seqC _ _ _ (blockC _ r)) (u19loop2 hlf (n:=n+8) (V14:=.bool false) hM6 hs4 lA' hh5 hw5 wo5 (V3:=.int .u8 (dd:Int)) (V10:=.ptr (some ⟨b,0⟩)) _ ?_ ?_ ?_ ?_ ?_ ?_ ?_) ?_
 ·simp only[p9,sy,tup,↓reduceIte,zA,zG,zC,zD,zF,zE,zB,zH,reduceCtorEq]
 ·simp only[p12,sy,tup,↓reduceIte,zA,zG,zC,zD,zF,zE,zB,zH,reduceCtorEq]
 ·simp only[p13,sy,tup,↓reduceIte,zA,zG,zC,zD,zF,zE,zB,zH,reduceCtorEq]
 ·simp only[p14,sy,tup,↓reduceIte,zA,zG,zC,zD,zF,zE,zB,zH,reduceCtorEq]
 ·simp only[sy,tup,↓reduceIte,zA,zG,zC,zD,zF,zE,zB,zH,reduceCtorEq]
 ·simp only[p3,sy,tup,↓reduceIte,zA,zG,zC,zD,zF,zE,zB,zH,reduceCtorEq]
 ·simp only[p10,sy,tup,↓reduceIte,zA,zG,zC,zD,zF,zE,zB,zH,reduceCtorEq]
 rintro x ⟨t,G6,d⟩ ⟨rfl,hd,p9,p12,p13,p14,p3,p10,B,hW,hh6,t6⟩
 dsimp only at hd p9 p12 p13 p14 p3 p10 hh6 t6
 subst hd
 obtain⟨X,hX⟩:∃ X:Nat→Nat,X=fun i=>A'.getD i 0:=⟨_,rfl⟩
 have hz:=zeros_fine hM6
 have hok:stateOf (List.replicate 16 0) false≠5:=by decide
 have hXA:(List.range M).map X=A':=by
  apply List.ext_getElem
  ·simp[lA']
  ·intro i h1 h2
   rw[List.getElem_map,List.getElem_range,hX]
   simp[List.getD,h2]
 have hXs:∀ i,i < N+1→X i < 256 ^ 64:=fun i hi=>by
  have h2:i < A'.length:=by omega
  rw[hX]
  show A'.getD i 0 < _
  rw[List.getD,List.getElem?_eq_getElem h2]
  have hm':A'[i] ∈ A':=List.getElem_mem h2
  have:∀ x ∈ A',x < 256 ^ 64:=fun x hx=>by
   rw[hA'] at hx
   rcases List.mem_or_eq_of_mem_set hx with hx | rfl
   ·exact hAs x hx
   ·exact hFl
  exact this _ hm'
 have hXN:X N=foldB ((List.range N).map X):=by
  have e1:X N=F:=by
   rw[hX,hA']
   simp[List.getD,show N < A.length by omega]
  have e2:(List.range N).map X=A.take N:=by
   apply List.ext_getElem
   ·simp;omega
   ·intro i h1 h2
    simp at h1
    rw[List.getElem_map,List.getElem_range,List.getElem_take,hX,hA']
    simp only[List.getD]
    rw[List.getElem?_set_ne (by omega),List.getElem?_eq_getElem (by omega)]
    rfl
  rw[e1,e2,hF]
 have cells:∀ i,i < M→Cell M (List.replicate 16 0) 0 B (s:Int) X i:=by
  rw[hX];exact cells19 hM6 hs4 hW
 obtain⟨v7,G7,e7,rfl,t7⟩:=usound hlf (K:=K) (ID:=9) (E:=0) hh6 hz hok (st:=(s:Int)) (by omega) (by decide) cells (n+7)
 rw[hM,stripe_zero hXN] at e7
 have hh7:=hh6.turns t7
 obtain⟨q,hq⟩:∃ q,q=dd % M:=⟨_,rfl⟩
 have hqM:q < M:=by rw[hq];exact Nat.mod_lt _ (by omega)
 have rm:arith .rem (.int .i64 (dd:Int)) (.int .i64 (M:Int))=some (.int .i64 (q:Int)):=by rw[hq];exact rem_i64 dd M (by omega)
 have wd:IntKind.i64.wrap (dd:Int)=(dd:Int):=Go.Am.wrap_i64 (by omega)
 have fl:=fell19 hM6 hs4 hW hqM
 rw[← hX] at fl
 have eF:=qFail hh7.bench hh7.fit (q:Int) (lf:=lf) (K:=K) (w:=n+12)
 rw[fl.tc] at eF
 obtain⟨G8,hG8⟩:∃ G8,(G7.set b (bx false (B.fail (q:Int)))).skip (K+2)=G8:=⟨_,rfl⟩
 have hh8:=hh7.failed (B':=B.fail (q:Int)) fl.fit (K+2)
 have t8:Turns (fun c=>c=b) G7 ((G7.set b (bx false (B.fail (q:Int)))).skip (K+2)):=by repeat (first | exact Turns.refl _ _ | apply Turns.skip | apply Turns.addm | apply Turns.setb | apply Turns.setl | apply Turns.setr | refine Turns.setn ?_ _ (by omega) _ | refine Turns.trans ?_ (tF _))
 rw[hG8] at hh8 eF t8
 obtain⟨v9,G9,e9,yy,rfl,hy9,t9⟩:=ustripe hlf (K:=K) (ID:=9) (E:=0) hh8 hz hok (st:=(s:Int)) (by omega) (by decide) hqM fl.ready (by unfold hasN;rw[if_pos (zeros_get q)]) fl.gone fl.cells fl.behind (by rw[hM];exact stripe_but hXs hXN (by omega)) (n+1)
 have nb:∀ {G':Heap},HB G' h b 9 0 (M:Int) 4 40 (List.replicate 16 0) 0 false B→G'.get (.run G1.next)=some (.rows false 64 (rowsK A'))→True:=fun _ _=>trivial
 have hbw:b≠.run G1.next:=fun e=>by
  have:=hm.hb.old
  rw[e] at this
  exact absurd this (Heap.not_old (Nat.le_refl _))
 have hhw:h≠.run G1.next:=fun e=>by
  have:=hm.hb.hull.old
  rw[e] at this
  exact absurd this (Heap.not_old (Nat.le_refl _))
 have t58:Turns (fun c=>c=b) G5 G8:=(t6.trans (t7.wide (fun c hc=>hc.elim))).trans t8
 have t59:Turns (fun c=>c=b∨c=h) G5 G9:=(t58.wide (fun c hc=>.inl hc)).trans t9
 have hw9:G9.get (.run G1.next)=some (.rows false 64 (rowsK A')):=(t59.same (.run G1.next) wo5 (by
  rintro(e | e)
  ·exact hbw e.symm
  ·exact hhw e.symm)).trans hw5
 rw[hXA] at hy9
 have bA:BlksAt G9 (.slice (some ⟨.run G1.next,0⟩) M M 0) A':=by
  refine⟨⟨_,_,_,by rw[lA']⟩,fun i hi=>⟨G1.next,0,M,0,by rw[lA'],?_⟩⟩
  rw[ld_get,hw9,Nat.zero_add,ldK hi]
 obtain⟨v10,G10,e10,rfl,t10⟩:=ublocks hlf (K:=K) (blks_lst hy9) bA (by omega) (n+12)
 have eV:=fun H:Heap=>ulives19 hlf (K:=K) H (n+12)
 simp (maxDischargeDepth:=12) only[p9,p10,p12,p13,p14,p3,e7,wd,rm,eF,hG8,e9,e10,eV,hv,ldO_one,stO_one,sy,tup,↓reduceIte,zA,zG,zC,zD,zF,zE,zB,zH,reduceCtorEq]
 refine⟨trivial,.inr trivial,_,rfl,rfl,fun q=>?_⟩
 have t05:=hm.t.trans t15
 have:=((t05.wide (fun c hc=>hc.elim)).trans t59).trans (t10.wide (fun c hc=>hc.elim))
 exact this.q q
end
end Go.Proofs.YtabebpemfinejaaGreat.draft
namespace Go.Proofs.YtabebpemfinejaaGreat.disk
open Go.Am
theorem wf_u8 {n:Int} (h:(Lit.int .u8 n).wf=true):∃ s:Nat,s < 256∧n=(s:Int):=by
 have h:(decide (IntKind.u8.min≤n)&&decide (n≤IntKind.u8.max))=true:=h
 simp only[Bool.and_eq_true,decide_eq_true_eq] at h
 have h1:(0:Int)≤n:=h.1
 have h2:n≤255:=h.2
 exact⟨n.toNat,by omega,(Int.toNat_of_nonneg h1).symm⟩
theorem u8_of {a:Nat→Option Am.Obj} {u:V} (h:FitsV a (.int .u8) u):∃ s:Nat,s < 256∧u=.int .u8 (s:Int):=by
 obtain⟨C,⟨n,hw,rfl⟩,hu⟩:=h
 cases hu
 obtain⟨s,hs,rfl⟩:=wf_u8 hw
 exact⟨s,hs,rfl⟩
end Go.Proofs.YtabebpemfinejaaGreat.disk
