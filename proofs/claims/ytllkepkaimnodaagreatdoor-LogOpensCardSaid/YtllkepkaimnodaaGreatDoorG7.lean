import Derived.Test.YtllkepkaimnodaaGreatDoorG6
import Derived.Test.YtllkepkaimnodaaGreatDoorG5
import Derived.Test.YtllkepkaimnodaaGreatDoorG4
import Derived.Test.YtllkepkaimnodaaGreatDoorG3
import Derived.Test.YtllkepkaimnodaaGreatDoorG2
set_option linter.unusedVariables false
set_option linter.unusedSectionVars false
set_option linter.unusedSimpArgs false
set_option maxRecDepth 10000
open Nat renaming reduceEqDiff → zA, reduceLeDiff → zB, reduceSub → zC, reduceMul → zD, reduceMod → zE, reduceDiv → zF, reduceAdd → zG
open Int renaming reduceBEq → zH
namespace Go.Proofs.YtllkepkaimnodaaGreatDoor.draft
open Go.Am
theorem plZ_iff (A:List Nat) (i:Nat):plZ A i=true↔∀ c,c < 4→byte (A.getD ((4*i+c) / 64) 0) ((4*i+c) % 64)=0:=by
 unfold plZ
 simp only[Bool.and_eq_true,decide_eq_true_eq]
 constructor
 ·rintro⟨⟨⟨h0,h1⟩,h2⟩,h3⟩ c hc
  rw[plB_at A i c hc]
  have:c=0∨c=1∨c=2∨c=3:=by omega
  rcases this with rfl | rfl | rfl | rfl<;>assumption
 ·intro h
  have g:=fun c hc=>(plB_at A i c hc).symm.trans (h c hc)
  exact⟨⟨⟨g 0 (by decide),g 1 (by decide)⟩,g 2 (by decide)⟩,g 3 (by decide)⟩
theorem tail_iff (A:List Nat) (n k:Nat) (h:n≤k*16):((List.range (k*16 - n)).all fun j=>plZ A (n+j))=true↔∀ a,4*n≤a→a < 64*k→byte (A.getD (a / 64) 0) (a % 64)=0:=by
 rw[List.all_eq_true]
 constructor
 ·intro g a h1 h2
  have:=(plZ_iff A (n+(a / 4 - n))).1 (g (a / 4 - n) (List.mem_range.2 (by omega))) (a % 4) (by omega)
  rwa [show 4*(n+(a / 4 - n))+a % 4=a by omega] at this
 ·intro g j hj
  have:=List.mem_range.1 hj
  exact(plZ_iff A (n+j)).2 fun c hc=>g _ (by omega) (by omega)
section
variable {lf K:Nat} (hlf:1000 < lf)
include hlf
theorem dget_tail {G:Heap} {n:Nat} {A:List Nat} (h1:1≤n∧n≤32) {y:V} {G0:Heap} (hy:Lst G0 G 1 (rowsN (rowA A (headsN n))) y) {o:V} (d:Nat):∀ t:T,t.getP (Tr.path 7)=some y→t.getP (Tr.path 9)=some o→t.getP (Tr.path 12)=some (.int .i64 ((4*n:Nat):Int)) →
  wp (loopF (runC (U lf K d) lf c130_l0) lf ⟨t,G,[]⟩) fun x s=>s.d=[]∧s.H=G∧((x=.ex 4∧((List.range (headsN n*16 - n)).all fun j=>plZ A (n+j))=true∧s.t.getP (Tr.path 9)=some o)∨(x=.ret∧((List.range (headsN n*16 - n)).all fun j=>plZ A (n+j))=false∧s.t.getP (Tr.path 4)=some (.slice none 0 0 0)∧s.t.getP (Tr.path 5)=some (.int .i64 5))):=by
 intro t q7 q9 q12
 have hh:headsN n=(n+15) / 16:=rfl
 have hti:=tail_iff A n (headsN n) (by omega)
 generalize ((List.range (headsN n*16 - n)).all fun j=>plZ A (n+j))=z at *
 obtain⟨k,hk⟩:∃ k,k=headsN n:=⟨_,rfl⟩
 rw[← hk] at hy hh hti
 obtain⟨m,rfl,mo,hld⟩:=rowA_ld hy (by omega)
 obtain⟨e,he⟩:∃ e,e=64*k:=⟨_,rfl⟩
 rw[← he] at hld hti q7
 refine wp_loopF (fun u s=>∃ a:Nat,u=e - a∧4*n≤a∧a≤e∧s.d=[]∧s.H=G∧s.t.getP (Tr.path 7)=some (.slice (some ⟨.run m,0⟩) e e 1)∧s.t.getP (Tr.path 9)=some o∧s.t.getP (Tr.path 12)=some (.int .i64 (a:Int))∧∀ b,4*n≤b→b < a→byte (A.getD (b / 64) 0) (b % 64)=0)
  ?_ lf (e - 4*n) _ ⟨4*n,rfl,Nat.le_refl _,by omega,rfl,rfl,q7,q9,q12,fun b h1 h2=>by omega⟩ (by omega)
 rintro u ⟨t,HH,dd⟩ ⟨a,rfl,ha1,ha2,hd,hH,q7,q9,q12,hz⟩
 dsimp only at hd hH q7 q9 q12
 subst hd;subst hH
 by_cases hlt:a < e
 ·have lk:=hld a hlt
  obtain⟨b,hb⟩:∃ b,b=byte (A.getD (a / 64) 0) (a % 64):=⟨_,rfl⟩
  rw[← hb] at lk
  by_cases h0:b=0
  ·simp (maxDischargeDepth:=12) (disch:=omega) only[c130_l0,q7,q12,lk,Nat.mul_one,om,hv,ldO_one,stO_one,sy,tup,↓reduceIte,zA,zG,zC,zD,zF,zE,zB,zH,reduceCtorEq]
   refine⟨e - (a+1),by omega,a+1,rfl,by omega,by omega,trivial,trivial,by simp[q7],by simp[q9],by simp,fun c h1 h2=>?_⟩
   by_cases e:c=a
   ·rw[e,← hb,h0]
   ·exact hz c h1 (by omega)
  ·simp (maxDischargeDepth:=12) (disch:=omega) only[c130_l0,q7,q12,lk,Nat.mul_one,om,hv,ldO_one,stO_one,sy,tup,↓reduceIte,zA,zG,zC,zD,zF,zE,zB,zH,reduceCtorEq]
   exact⟨trivial,trivial,.inr ⟨trivial,Bool.eq_false_iff.2 fun h=>h0 (by rw[hb];exact hti.1 h a ha1 hlt),trivial,trivial⟩⟩
 ·simp (maxDischargeDepth:=12) (disch:=omega) only[c130_l0,q7,q12,om,hv,ldO_one,stO_one,sy,tup,↓reduceIte,zA,zG,zC,zD,zF,zE,zB,zH,reduceCtorEq]
  exact⟨trivial,trivial,.inl ⟨trivial,hti.2 fun b h1 h2=>hz b h1 (by omega),by simp[q9]⟩⟩
theorem dget {G:Heap} {w cp z n:Nat} {A:List Nat} (hw:G.get (.run w)=some (.rows false 64 (rowsK A))) (wo:w < G.next) (h1:1≤n∧n≤32) (hA:A.length=recS n) (d:Nat):ret (U lf K (d+3) 130 [.slice (some ⟨.run w,0⟩) (recS n) cp z,.int .i64 (n:Int)] G) fun v G'=>Turns Z G G'∧((getOk A n=true∧∃ y,v=.tuple [y,.int .i64 0]∧Lst G G' 66 (rowsC (getL A n)) y)∨(getOk A n=false∧v=.tuple [.slice none 0 0 0,.int .i64 5])):=by
 have hRS:recS n=headsN n+n:=rfl
 have hh:headsN n=(n+15) / 16:=rfl
 have e1:=dsize hlf (K:=K) G (k:=n) (by omega) d
 rw[szR_rec hlf h1.1 h1.2] at e1
 have e2:=dplaces hlf (K:=K) G (k:=n) (by omega) (d+1)
 change U lf K (d+2) 124 [.int .i64 (n:Int)] G=some (.v (.int .i64 ((headsN n:Nat):Int)),G) at e2
 have hl1:=dget_row hlf (K:=K) (cp:=cp) (z:=z) hw wo hA (k:=headsN n) (by omega) (by omega) (v1:=.int .i64 (n:Int)) (d+1)
 have hl2:=fun {G2:Heap} (t:Turns Z G G2) {y:V} (hy:Lst G G2 1 (rowsN (rowA A (headsN n))) y)=>dget_cells hlf (K:=K) (cp:=cp) (z:=z) ((t.same (.run w) wo (fun h=>h)).trans hw) (Nat.lt_of_lt_of_le wo t.next) h1 hA hy (d+1)
 have hl3:=fun {G2 G3:Heap} {y:V} (hy:Lst G G2 1 (rowsN (rowA A (headsN n))) y) (t:Turns Z G2 G3) (o:V)=>dget_tail hlf (K:=K) h1 (hy.turns t (fun _ _ h=>h)) (o:=o) (d+2)
 have hgo:getOk A n=((List.range n).all (plOk A)&&(List.range (headsN n*16 - n)).all fun j=>plZ A (n+j)):=rfl
 have hn:1≤recS n∧recS n≤34:=by omega
 have hhd:headsN n≤2:=by omega
 generalize hRSx:recS n=RS at *
 refine ret_callU rfl rfl c130_eq ?_
 simp (maxDischargeDepth:=12) (disch:=omega) only[c130,e1,e2,om,hv,ldO_one,stO_one,sy,tup,↓reduceIte,zA,zG,zC,zD,zF,zE,zB,zH,reduceCtorEq]
 refine wp_ctx (F:=fun r=>seqC _ _ _ (blockC _ r)) (hl1 _ ?_ ?_ ?_ ?_ ?_) ?_
 ·simp only[sy,tup,↓reduceIte,zA,zG,zC,zD,zF,zE,zB,zH,reduceCtorEq]
 ·simp only[sy,tup,↓reduceIte,zA,zG,zC,zD,zF,zE,zB,zH,reduceCtorEq]
 ·simp only[sy,tup,↓reduceIte,zA,zG,zC,zD,zF,zE,zB,zH,reduceCtorEq]
 ·simp only[sy,tup,↓reduceIte,zA,zG,zC,zD,zF,zE,zB,zH,reduceCtorEq]
 ·simp only[sy,tup,↓reduceIte,zA,zG,zC,zD,zF,zE,zB,zH,reduceCtorEq]
 rintro x ⟨t,G2,dd⟩ ⟨rfl,hd,t2,q0,q1,q6,y,q7,hy⟩
 dsimp only at hd t2 q0 q1 q6 q7 hy
 subst hd
 simp (maxDischargeDepth:=12) (disch:=omega) only[om,hv,ldO_one,stO_one,sy,tup,↓reduceIte,zA,zG,zC,zD,zF,zE,zB,zH,reduceCtorEq]
 refine wp_ctx (F:=fun r=>seqC _ _ _ (blockC _ r)) (hl2 t2 hy _ ?_ ?_ ?_ ?_ ?_ ?_) ?_
 ·simp only[q0,sy,tup,↓reduceIte,zA,zG,zC,zD,zF,zE,zB,zH,reduceCtorEq]
 ·simp only[q1,sy,tup,↓reduceIte,zA,zG,zC,zD,zF,zE,zB,zH,reduceCtorEq]
 ·simp only[q6,sy,tup,↓reduceIte,zA,zG,zC,zD,zF,zE,zB,zH,reduceCtorEq]
 ·simp only[q7,sy,tup,↓reduceIte,zA,zG,zC,zD,zF,zE,zB,zH,reduceCtorEq]
 ·simp only[sy,tup,↓reduceIte,zA,zG,zC,zD,zF,zE,zB,zH,reduceCtorEq]
 ·simp only[sy,tup,↓reduceIte,zA,zG,zC,zD,zF,zE,zB,zH,reduceCtorEq]
 rintro x ⟨t,G3,dd⟩ ⟨hd,t3,⟨rfl,hok,q1,q7,o,q9,ho⟩ | ⟨rfl,hok,q4,q5⟩⟩
 rotate_left
 ·dsimp only at hd t3 q4 q5
  subst hd
  simp (maxDischargeDepth:=12) (disch:=omega) only[q4,q5,om,hv,ldO_one,stO_one,sy,tup,↓reduceIte,zA,zG,zC,zD,zF,zE,zB,zH,reduceCtorEq]
  exact⟨trivial,.inr trivial,_,rfl,t2.trans t3,.inr ⟨by rw[hgo,hok,Bool.false_and],rfl⟩⟩
 dsimp only at hd t3 q1 q7 q9 ho
 subst hd
 have w4:IntKind.i64.wrap (4*(n:Int))=((4*n:Nat):Int):=by rw[Go.Am.wrap_i64 (by omega)];omega
 obtain⟨n4,hn4⟩:∃ n4,n4=4*n:=⟨_,rfl⟩
 rw[← hn4] at w4 hl3
 simp (maxDischargeDepth:=12) (disch:=omega) only[q1,arith_mul,w4,om,hv,ldO_one,stO_one,sy,tup,↓reduceIte,zA,zG,zC,zD,zF,zE,zB,zH,reduceCtorEq]
 refine wp_ctx (F:=fun r=>seqC _ _ _ (blockC _ r)) (hl3 hy t3 o _ ?_ ?_ ?_) ?_
 ·simp only[q7,sy,tup,↓reduceIte,zA,zG,zC,zD,zF,zE,zB,zH,reduceCtorEq]
 ·simp only[q9,sy,tup,↓reduceIte,zA,zG,zC,zD,zF,zE,zB,zH,reduceCtorEq]
 ·simp only[sy,tup,↓reduceIte,zA,zG,zC,zD,zF,zE,zB,zH,reduceCtorEq]
 rintro x ⟨t,G4,dd⟩ ⟨hd,hG,⟨rfl,hok2,q9⟩ | ⟨rfl,hok2,q4,q5⟩⟩
 ·dsimp only at hd hG q9
  subst hd;subst hG
  simp (maxDischargeDepth:=12) (disch:=omega) only[q9,om,hv,ldO_one,stO_one,sy,tup,↓reduceIte,zA,zG,zC,zD,zF,zE,zB,zH,reduceCtorEq]
  refine⟨trivial,.inr trivial,_,rfl,t2.trans t3,.inl ⟨by rw[hgo,hok,hok2];rfl,o,rfl,?_⟩⟩
  rcases ho with ho | ⟨a,b1,b2,b3,b4,b5⟩
  ·exact .inl ho
  ·exact .inr ⟨a,b1,b2,b3,Nat.le_trans t2.next b4,b5⟩
 ·dsimp only at hd hG q4 q5
  subst hd;subst hG
  simp (maxDischargeDepth:=12) (disch:=omega) only[q4,q5,om,hv,ldO_one,stO_one,sy,tup,↓reduceIte,zA,zG,zC,zD,zF,zE,zB,zH,reduceCtorEq]
  exact⟨trivial,.inr trivial,_,rfl,t2.trans t3,.inr ⟨by rw[hgo,hok2,Bool.and_false],rfl⟩⟩
end
end Go.Proofs.YtllkepkaimnodaaGreatDoor.draft
namespace Go.Proofs.YtllkepkaimnodaaGreatDoor.draft
open Go.Am
noncomputable def c175:CFn:=⟨[.tmp (pp 6)],
 .seq (.reg [
 qo 6 (.p (S.get (.c (.bool false)))) []]) (
 .seq (.reg [
 mv 7 0,
 qo 8 (.p (arF .geq (tt 7) (ii 1))) [pp 7],
 mv 9 8,
 mg 10 0 9 true,
 qg 11 (.p (arF .leq (tt 10) (ii 256))) 9 true [pp 10],
 qo 12 (.p (pickF (tt 9) (tt 11) (.c (.bool false)))) [pp 9,pp 11],
 mv 13 12,
 mg 14 1 13 true,
 mg 15 2 13 true,
 qg 16 (.p (arF .leq (tt 14) (tt 15))) 13 true [pp 14,pp 15],
 qo 17 (.p (pickF (tt 13) (tt 16) (.c (.bool false)))) [pp 13,pp 16],
 mv 18 17,
 mg 19 2 18 true,
 qg 20 (.p (arF .leq (tt 19) (.c (.int .u64 4611686018427387904)))) 18 true [pp 19],
 qo 21 (.p (pickF (tt 18) (tt 20) (.c (.bool false)))) [pp 18,pp 20],
 mv 22 21,
 mg 23 2 22 true,
 mg 24 1 22 true,
 qg 25 (.p (arF .sub (tt 23) (tt 24))) 22 true [pp 23,pp 24],
 mg 26 0 22 true,
 qg 27 (.p (convF .u64 (tt 26))) 22 true [pp 26],
 qg 28 (.p (arF .leq (tt 25) (tt 27))) 22 true [pp 25,pp 27],
 qo 29 (.p (pickF (tt 22) (tt 28) (.c (.bool false)))) [pp 22,pp 28],
 mv 6 29]) (
 .ret))⟩
theorem c175_eq:fnOf Tryz.prog 175=some c175:=by kernel_rfl
noncomputable def c176:CFn:=⟨[.tmp (pp 4),.tmp (pp 5)],
 .seq (.reg [
 qo 4 (.p (S.get (ii 0))) [],
 qo 5 (.p (S.get (ii 0))) []]) (
 .seq (.seq (.reg [
 mv 6 0,
 mv 7 1,
 mv 8 1,
 qo 9 (.c (callF (ff 175) [(tt 6),(tt 7),(tt 8)])) [pp 6,pp 7,pp 8],
 qo 10 (.p (unF .not (tt 9))) [pp 9]]) (
 .cond (tt 10) (.seq (.reg [
 qo 4 (.p (S.get (ii 0))) [],
 qo 5 (.p (S.get (ii 2))) []]) (
 .ret)) (.skip))) (
 .seq (.reg [
 mv 11 1,
 mv 12 0,
 qo 13 (.p (convF .u64 (tt 12))) [pp 12],
 qo 14 (.p (arF .rem (tt 11) (tt 13))) [pp 11,pp 13],
 qo 15 (.p (convF .i64 (tt 14))) [pp 14],
 mv 4 15,
 qo 5 (.p (S.get (ii 0))) []]) (
 .ret)))⟩
theorem c176_eq:fnOf Tryz.prog 176=some c176:=by kernel_rfl
noncomputable def c126_l0:C:=.seq (.seq (.reg [
 mv 38 9,
 mv 39 2,
 qo 40 (.p (arF .lss (tt 38) (tt 39))) [pp 38,pp 39]]) (
 .cond (tt 40) (.skip) (.exit 0))) (
 .seq (.block 1 (.seq (.reg [
 mv 44 0,
 mv 45 1,
 mv 46 9,
 qo 47 (.p (convF .u64 (tt 46))) [pp 46],
 qo 48 (.p (arF .add (tt 45) (tt 47))) [pp 45,pp 47],
 qo 49 (.c (callF (ff 176) [(tt 44),(tt 48)])) [pp 44,pp 48],
 mv 43 49,
 qo 50 (.p (extF (tt 43) 0)) [pp 43],
 qo 51 (.p (extF (tt 43) 1)) [pp 43],
 mv 10 50,
 mv 11 51]) (
 .reg [
 mv 52 8,
 mv 53 10,
 qo 54 (.m (bsliceF 1 1 [.int .i64 0] [(0,1,(tt 53))])) [pp 53],
 qo 55 (.a (appF 1 8 (tt 52) (tt 54))) [pp 52,pp 54],
 mv 8 55]))) (
 .reg [
 mv 41 9,
 qo 42 (.p (arF .add (tt 41) (ii 1))) [pp 41],
 mv 9 42]))
noncomputable def c126:CFn:=⟨[.tmp (pp 6),.tmp (pp 7)],
 .seq (.reg [
 qo 6 (.p (S.get (.c (.slice none 0 0 0)))) [],
 qo 7 (.p (S.get (ii 0))) []]) (
 .seq (.seq (.reg [
 mv 12 0,
 mv 13 1,
 mv 14 1,
 qo 15 (.c (callF (ff 175) [(tt 12),(tt 13),(tt 14)])) [pp 12,pp 13,pp 14],
 qo 16 (.p (unF .not (tt 15))) [pp 15],
 mv 17 16,
 mg 18 2 17 false,
 qg 19 (.p (arF .lss (tt 18) (ii 0))) 17 false [pp 18],
 qo 20 (.p (pickF (tt 17) (.c (.bool true)) (tt 19))) [pp 17,pp 19],
 mv 21 20,
 mg 22 2 21 false,
 mg 23 0 21 false,
 qg 24 (.p (arF .gtr (tt 22) (tt 23))) 21 false [pp 22,pp 23],
 qo 25 (.p (pickF (tt 21) (.c (.bool true)) (tt 24))) [pp 21,pp 24],
 mv 26 25,
 mg 27 2 26 false,
 qg 28 (.p (arF .gtr (tt 27) (ii 0))) 26 false [pp 27],
 mg 29 28 26 false,
 mg 30 1 29 true,
 mg 31 2 29 true,
 qg 32 (.p (arF .sub (tt 31) (ii 1))) 29 true [pp 31],
 qg 33 (.p (convF .u64 (tt 32))) 29 true [pp 32],
 qg 34 (.p (arF .add (tt 30) (tt 33))) 29 true [pp 30,pp 33],
 qg 35 (.p (arF .gtr (tt 34) (.c (.int .u64 4611686018427387904)))) 29 true [pp 34],
 qg 36 (.p (pickF (tt 29) (tt 35) (.c (.bool false)))) 26 false [pp 29,pp 35],
 qo 37 (.p (pickF (tt 26) (.c (.bool true)) (tt 36))) [pp 26,pp 36]]) (
 .cond (tt 37) (.seq (.reg [
 qo 6 (.p (S.get (.c (.slice none 0 0 0)))) [],
 qo 7 (.p (S.get (ii 2))) []]) (
 .ret)) (.skip))) (
 .seq (.reg [
 qo 8 (.p (S.get (.c (.slice none 0 0 0)))) []]) (
 .seq (.seq (.reg [
 qo 9 (.p (S.get (ii 0))) []]) (
 .block 0 (.loop c126_l0))) (
 .seq (.reg [
 mv 56 8,
 mv 6 56,
 qo 7 (.p (S.get (ii 0))) []]) (
 .ret)))))⟩
theorem c126_eq:fnOf Tryz.prog 126=some c126:=by kernel_rfl
def posL (R p k:Nat):List Int:=(List.range k).map fun j=>(((p+j) % R:Nat):Int)
theorem posL_len (R p k:Nat):(posL R p k).length=k:=by unfold posL;simp
theorem posL_succ (R p k:Nat):posL R p (k+1)=posL R p k++[(((p+k) % R:Nat):Int)]:=by unfold posL;rw[List.range_succ,List.map_append];rfl
section
variable {lf K:Nat} (hlf:1000 < lf)
include hlf
theorem drmay (G:Heap) {R t:Nat} (hR:1≤R∧R≤256) (ht:t≤4611686018427387904) (n:Nat):U lf K (n+1) 175 [.int .i64 (R:Int),.int .u64 (t:Int),.int .u64 (t:Int)] G=some (.v (.bool true),G):=by
 obtain⟨v,H',e',rfl,rfl⟩:ret (U lf K (n+1) 175 [.int .i64 (R:Int),.int .u64 (t:Int),.int .u64 (t:Int)] G) fun v H'=>v=.bool true∧H'=G:=by
  refine ret_callU rfl rfl c175_eq ?_
  simp (maxDischargeDepth:=12) (disch:=omega) only[c175,om,hv,ldO_one,stO_one,sy,tup,↓reduceIte,zA,zG,zC,zD,zF,zE,zB,zH,reduceCtorEq]
  exact⟨trivial,.inr trivial,_,rfl,rfl,trivial⟩
 exact e'
theorem drsector (G:Heap) {R t:Nat} (hR:1≤R∧R≤256) (ht:t≤4611686018427387904) (n:Nat):U lf K (n+2) 176 [.int .i64 (R:Int),.int .u64 (t:Int)] G=some (.v (.tuple [.int .i64 ((t % R:Nat):Int),.int .i64 0]),G):=by
 have e1:=drmay hlf (K:=K) G hR ht n
 have e2:arith .rem (.int .u64 (t:Int)) (.int .u64 (R:Int))=some (.int .u64 ((t % R:Nat):Int)):=rem_u64 t R (by omega)
 have hz:t % R < R:=Nat.mod_lt _ (by omega)
 obtain⟨v,H',e',rfl,rfl⟩:ret (U lf K (n+2) 176 [.int .i64 (R:Int),.int .u64 (t:Int)] G) fun v H'=>v=.tuple [.int .i64 ((t % R:Nat):Int),.int .i64 0]∧H'=G:=by
  refine ret_callU rfl rfl c176_eq ?_
  generalize t % R=z at *
  simp (maxDischargeDepth:=12) (disch:=omega) only[c176,e1,e2,om,hv,ldO_one,stO_one,sy,tup,↓reduceIte,zA,zG,zC,zD,zF,zE,zB,zH,reduceCtorEq]
  exact⟨trivial,.inr trivial,_,rfl,rfl,trivial⟩
 exact e'
theorem drlist (G:Heap) {R p k:Nat} (hR:1≤R∧R≤256) (hp:p+k≤4611686018427387904) (hk:1≤k∧k≤R) (n:Nat):ret (U lf K (n+3) 126 [.int .i64 (R:Int),.int .u64 (p:Int),.int .i64 (k:Int)] G) fun v G'=>∃ w,v=.tuple [.slice (some ⟨.run w,0⟩) k k 1,.int .i64 0]∧G.next≤w∧w < G'.next∧G'.get (.run w)=some (.rows false 1 (rowsI (posL R p k)))∧Turns Z G G':=by
 have e1:=drmay hlf (K:=K) G hR (show p≤_ by omega) (n+1)
 have hloop:∀ t:T,t.getP (Tr.path 0)=some (.int .i64 (R:Int))→t.getP (Tr.path 1)=some (.int .u64 (p:Int))→t.getP (Tr.path 2)=some (.int .i64 (k:Int))→t.getP (Tr.path 8)=some (.slice none 0 0 0)→t.getP (Tr.path 9)=some (.int .i64 0) →
   wp (loopF (runC (U lf K (n+2)) lf c126_l0) lf ⟨t,G,[]⟩) fun x s=>x=.ex 0∧s.d=[]∧(∃ y,s.t.getP (Tr.path 8)=some y∧Lst G s.H 1 (rowsI (posL R p k)) y)∧Turns Z G s.H:=by
  intro t q0 q1 q2 q8 q9
  refine wp_loopF (fun m s=>∃(i:Nat) (y:V),m=k - i∧i≤k∧s.d=[]∧s.t.getP (Tr.path 0)=some (.int .i64 (R:Int))∧s.t.getP (Tr.path 1)=some (.int .u64 (p:Int))∧s.t.getP (Tr.path 2)=some (.int .i64 (k:Int))∧s.t.getP (Tr.path 8)=some y∧s.t.getP (Tr.path 9)=some (.int .i64 (i:Int))∧Lst G s.H 1 (rowsI (posL R p i)) y∧Turns Z G s.H) ?_ lf k _ ⟨0,_,rfl,by omega,rfl,q0,q1,q2,q8,q9,Lst.nil _ _ _,Turns.refl _ _⟩ (by omega)
  rintro m ⟨t,HH,d⟩ ⟨i,y,rfl,hi,hd,q0,q1,q2,q8,q9,hy,hT⟩
  dsimp only at hd q0 q1 q2 q8 q9 hy hT
  subst hd
  by_cases hlt:i < k
  ·obtain⟨a,ha⟩:∃ a,a=p+i:=⟨_,rfl⟩
   have w1:IntKind.u64.wrap ((p:Int)+(i:Int))=(a:Int):=by rw[Go.Am.wrap_u64 (by omega)];omega
   have eS:=drsector hlf (K:=K) HH hR (show a≤_ by omega) n
   have hs:=posL_succ R p i
   rw[← ha] at hs
   obtain⟨z,hz⟩:∃ z,z=a % R:=⟨_,rfl⟩
   rw[← hz] at eS hs
   have tx:=Turns.add Z HH (.rows false 1 [[.int .i64 (z:Int)]])
   have gx:(HH.add (.rows false 1 [[.int .i64 (z:Int)]])).get (.run HH.next)=some (.rows false 1 [[.int .i64 (z:Int)]]):=by rw[Heap.get_add,if_pos rfl]
   obtain⟨H1,hH1⟩:∃ X,HH.add (.rows false 1 [[.int .i64 (z:Int)]])=X:=⟨_,rfl⟩
   rw[hH1] at tx gx
   have hy1:=hy.turns tx (fun _ _ h=>h)
   have hl:(rowsI (posL R p i)).length=i:=by rw[rowsI_len,posL_len]
   obtain⟨H2,ea,hy2,t2,_⟩:=hy1.app1 (by':=8) (hT.trans tx).next gx rfl (by decide) (by rw[hl];omega) (by rw[hl];omega)
   have t2':=lst_away hy1 (hT.trans tx) (Nat.le_refl _) t2
   simp (maxDischargeDepth:=12) (disch:=omega) only[c126_l0,q0,q1,q2,q8,q9,w1,eS,hH1,ea,om,hv,ldO_one,stO_one,sy,tup,↓reduceIte,zA,zG,zC,zD,zF,zE,zB,zH,reduceCtorEq]
   refine⟨k - (i+1),by omega,i+1,_,rfl,by omega,trivial,by simp[q0],by simp[q1],by simp[q2],by simp;rfl,by simp,?_,t2'⟩
   rw[hs,rowsI_app]
   exact hy2
  ·have:i=k:=by omega
   subst this
   simp (maxDischargeDepth:=12) (disch:=omega) only[c126_l0,q2,q9,om,hv,ldO_one,stO_one,sy,tup,↓reduceIte,zA,zG,zC,zD,zF,zE,zB,zH,reduceCtorEq]
   exact⟨trivial,trivial,⟨y,by simp[q8],hy⟩,hT⟩
 refine ret_callU rfl rfl c126_eq ?_
 simp (maxDischargeDepth:=12) (disch:=omega) only[c126,e1,om,hv,ldO_one,stO_one,sy,tup,↓reduceIte,zA,zG,zC,zD,zF,zE,zB,zH,reduceCtorEq]
 refine wp_ctx (F:=fun r=>seqC _ _ _ (blockC _ r)) (hloop _ ?_ ?_ ?_ ?_ ?_) ?_
 ·simp only[sy,tup,↓reduceIte,zA,zG,zC,zD,zF,zE,zB,zH,reduceCtorEq]
 ·simp only[sy,tup,↓reduceIte,zA,zG,zC,zD,zF,zE,zB,zH,reduceCtorEq]
 ·simp only[sy,tup,↓reduceIte,zA,zG,zC,zD,zF,zE,zB,zH,reduceCtorEq]
 ·simp only[sy,tup,↓reduceIte,zA,zG,zC,zD,zF,zE,zB,zH,reduceCtorEq]
 ·simp only[sy,tup,↓reduceIte,zA,zG,zC,zD,zF,zE,zB,zH,reduceCtorEq]
 rintro x ⟨t,G1,d⟩ ⟨rfl,hd,⟨y,q8,hy⟩,tG⟩
 dsimp only at hd q8 hy tG
 subst hd
 simp (maxDischargeDepth:=12) (disch:=omega) only[q8,om,hv,ldO_one,stO_one,sy,tup,↓reduceIte,zA,zG,zC,zD,zF,zE,zB,zH,reduceCtorEq]
 rcases hy with ⟨e,_⟩ | ⟨w,_,rfl,hg,h1,h2⟩
 ·have:=congrArg List.length e
  rw[rowsI_len,posL_len] at this
  simp at this;omega
 ·rw[rowsI_len,posL_len]
  exact⟨trivial,.inr trivial,_,rfl,w,rfl,h1,h2,hg,tG⟩
end
end Go.Proofs.YtllkepkaimnodaaGreatDoor.draft
namespace Go.Proofs.YtllkepkaimnodaaGreatDoor.draft
open Go.Am
open disk (bx Fit A1 R1 Low Bn)
noncomputable def c66_l0:C:=.seq (.seq (.reg [
 mv 51 10,
 mv 52 7,
 qo 53 (.p (lenF (tt 52))) [pp 52],
 qo 54 (.p (arF .lss (tt 51) (tt 53))) [pp 51,pp 53]]) (
 .cond (tt 54) (.skip) (.exit 0))) (
 .seq (.block 1 (.seq (.regD [
 mv 58 0,
 qo 59 (.p (nilcF (tt 58))) [pp 58],
 qo 60 (.p (faddrF (tt 59) 0)) [pp 59],
 qo 61 (.r (loadF (tt 60) 1 .sc)) [pp 60],
 mv 62 0,
 qo 63 (.p (nilcF (tt 62))) [pp 62],
 qo 64 (.p (faddrF (tt 63) 1)) [pp 63],
 qo 65 (.r (loadF (tt 64) 1 .sc)) [pp 64],
 mv 66 7,
 mv 67 10,
 qo 68 (.p (iaddrSF (tt 66) (tt 67) 1)) [pp 66,pp 67],
 qo 69 (.r (loadF (tt 68) 1 .sc)) [pp 68],
 qo 70 (.p (arF .add (ii 10) (tt 69))) [pp 69],
 qo 71 (.c (callF (ff 48) [(tt 61),(tt 65),(tt 70)])) [pp 61,pp 65,pp 70],
 mv 57 71,
 qo 72 (.p (extF (tt 57) 0)) [pp 57],
 qo 73 (.p (extF (tt 57) 1)) [pp 57],
 qo 11 (.m (allocF 64 [.blk 0])) [],
 qn (.a (storeF (tt 11) (tt 72) 64)) [pp 11,pp 72],
 mv 12 73] [0,1,3,7,0,16,48,112,0,0,768,1792,3840,8191,16383,32767,32767,0,196607,524287]) (
 .seq (.seq (.reg [
 mv 74 12,
 qo 75 (.p (eqcF true false [.int .i64] (tt 74) (ii 0))) [pp 74]]) (
 .cond (tt 75) (.seq (.reg [
 mv 76 12,
 qo 4 (.p (S.get (.c (.slice none 0 0 0)))) [],
 mv 5 76]) (
 .ret)) (.skip))) (
 .reg [
 mv 77 9,
 qo 78 (.r (loadF (tt 11) 64 .bk)) [pp 11],
 qo 79 (.m (bsliceF 1 64 [.blk 0] [(0,64,(tt 78))])) [pp 78],
 qo 80 (.a (appF 64 64 (tt 77) (tt 79))) [pp 77,pp 79],
 mv 9 80])))) (
 .reg [
 mv 55 10,
 qo 56 (.p (arF .add (tt 55) (ii 1))) [pp 55],
 mv 10 56]))
noncomputable def c66:CFn:=⟨[.tmp (pp 4),.tmp (pp 5)],
 .seq (.reg [
 qo 4 (.p (S.get (.c (.slice none 0 0 0)))) [],
 qo 5 (.p (S.get (ii 0))) []]) (
 .seq (.seq (.reg [
 mv 13 1,
 mv 14 0,
 qo 15 (.p (nilcF (tt 14))) [pp 14],
 qo 16 (.p (faddrF (tt 15) 5)) [pp 15],
 qo 17 (.r (loadF (tt 16) 1 .sc)) [pp 16],
 qo 18 (.p (arF .lss (tt 13) (tt 17))) [pp 13,pp 17],
 mv 19 18,
 mg 20 1 19 false,
 mg 21 0 19 false,
 qg 22 (.c (callF (ff 51) [(tt 21)])) 19 false [pp 21],
 qg 23 (.p (arF .geq (tt 20) (tt 22))) 19 false [pp 20,pp 22],
 qo 24 (.p (pickF (tt 19) (.c (.bool true)) (tt 23))) [pp 19,pp 23]]) (
 .cond (tt 24) (.seq (.reg [
 qo 4 (.p (S.get (.c (.slice none 0 0 0)))) [],
 qo 5 (.p (S.get (ii 7))) []]) (
 .ret)) (.skip))) (
 .seq (.regD [
 mv 25 0,
 qo 26 (.p (nilcF (tt 25))) [pp 25],
 qo 27 (.p (faddrF (tt 26) 7)) [pp 26],
 qo 28 (.r (loadF (tt 27) 1 .sc)) [pp 27],
 mv 29 1,
 mv 30 0,
 qo 31 (.p (nilcF (tt 30))) [pp 30],
 qo 32 (.p (faddrF (tt 31) 5)) [pp 31],
 qo 33 (.r (loadF (tt 32) 1 .sc)) [pp 32],
 qo 34 (.p (arF .sub (tt 29) (tt 33))) [pp 29,pp 33],
 qo 35 (.p (convF .i64 (tt 34))) [pp 34],
 qo 36 (.p (iaddrSF (tt 28) (tt 35) 4)) [pp 28,pp 35],
 qo 37 (.r (loadF (tt 36) 4 .ag)) [pp 36],
 qo 6 (.m (allocF 4 [.int .u64 0,.int .u64 0,.int .i64 0,.int .u32 0])) [],
 qn (.a (storeF (tt 6) (tt 37) 4)) [pp 6,pp 37]] [0,1,3,7,0,0,32,96,224,496,1008,2047,4095,0,16383]) (
 .seq (.regD [
 mv 39 0,
 qo 40 (.p (nilcF (tt 39))) [pp 39],
 qo 41 (.p (faddrF (tt 40) 3)) [pp 40],
 qo 42 (.r (loadF (tt 41) 1 .sc)) [pp 41],
 qo 43 (.p (faddrF (tt 6) 1)) [pp 6],
 qo 44 (.r (loadF (tt 43) 1 .sc)) [pp 43],
 qo 45 (.p (faddrF (tt 6) 2)) [pp 6],
 qo 46 (.r (loadF (tt 45) 1 .sc)) [pp 45],
 qo 47 (.c (callF (ff 54) [(tt 46)])) [pp 46],
 qo 48 (.c (callF (ff 126) [(tt 42),(tt 44),(tt 47)])) [pp 42,pp 44,pp 47],
 mv 38 48,
 qo 49 (.p (extF (tt 38) 0)) [pp 38],
 qo 50 (.p (extF (tt 38) 1)) [pp 38],
 mv 7 49,
 mv 8 50] [0,1,3,7,0,16,0,64,192,511,1023,2047,2047,4095,16383]) (
 .seq (.reg [
 qo 9 (.p (S.get (.c (.slice none 0 0 0)))) []]) (
 .seq (.seq (.reg [
 qo 10 (.p (S.get (ii 0))) []]) (
 .block 0 (.loop c66_l0))) (
 .seq (.seq (.regD [
 mv 81 9,
 qo 82 (.c (callF (ff 128) [(tt 81)])) [pp 81],
 qo 83 (.p (faddrF (tt 6) 3)) [pp 6],
 qo 84 (.r (loadF (tt 83) 1 .sc)) [pp 83],
 qo 85 (.p (eqcF true false [.int .u32] (tt 82) (tt 84))) [pp 82,pp 84]] [0,1,0,4,15]) (
 .cond (tt 85) (.seq (.reg [
 qo 4 (.p (S.get (.c (.slice none 0 0 0)))) [],
 qo 5 (.p (S.get (ii 6))) []]) (
 .ret)) (.skip))) (
 .seq (.reg [
 mv 86 9,
 qo 87 (.p (faddrF (tt 6) 2)) [pp 6],
 qo 88 (.r (loadF (tt 87) 1 .sc)) [pp 87],
 qo 89 (.c (callF (ff 130) [(tt 86),(tt 88)])) [pp 86,pp 88],
 qo 90 (.p (extF (tt 89) 0)) [pp 89],
 qo 91 (.p (extF (tt 89) 1)) [pp 89],
 mv 4 90,
 mv 5 91]) (
 .ret))))))))⟩
theorem c66_eq:fnOf Tryz.prog 66=some c66:=by kernel_rfl
theorem recR_succ (B:Bn) (R p i:Nat):recR B R p (i+1)=recR B R p i++[B.read 0 (((p+i) % R+10:Nat):Int)]:=by unfold recR;rw[List.range_succ,List.map_append];rfl
section
variable {lf K:Nat} (hlf:1000 < lf)
include hlf
theorem dlrecord_read {G:Heap} {l b:Bk} {id R cnt first tail:Nat} {lv:V} (hg:G.get l=some (.rows false 8 [dcells b id R cnt first tail lv])) (ho:G.Old l) {B:Bn} (hb:G.get b=some (bx true B)) (bo:G.Old b) (hf:Fit B) {u p k:Nat} (hu:G.get (.run u)=some (.rows false 1 (rowsI (posL R p k)))) (uo:u < G.next) (hk:k≤100) (hR:1≤R∧R≤256) {c:Int} (hrc:∀ j,j < k→B.rc 0 (((p+j) % R+10:Nat):Int)=c) {t6:V} (n:Nat):∀ t:T,t.getP (Tr.path 0)=some (.ptr (some ⟨l,0⟩))→t.getP (Tr.path 6)=some t6→t.getP (Tr.path 7)=some (.slice (some ⟨.run u,0⟩) k k 1)→t.getP (Tr.path 9)=some (.slice none 0 0 0)→t.getP (Tr.path 10)=some (.int .i64 0) →
  wp (loopF (runC (U lf K (n+1)) lf c66_l0) lf ⟨t,G,[]⟩) fun x s=>s.d=[]∧Turns Z G s.H∧((x=.ex 0∧(k=0∨c=0)∧s.t.getP (Tr.path 6)=some t6∧∃ y,s.t.getP (Tr.path 9)=some y∧Lst G s.H 64 (rowsK (recR B R p k)) y)∨(x=.ret∧c≠0∧s.t.getP (Tr.path 4)=some (.slice none 0 0 0)∧s.t.getP (Tr.path 5)=some (.int .i64 c))):=by
 intro t q0 q6 q7 q9 q10
 refine wp_loopF (fun m s=>∃(i:Nat) (y:V),m=k - i∧i≤k∧s.d=[]∧s.t.getP (Tr.path 0)=some (.ptr (some ⟨l,0⟩))∧s.t.getP (Tr.path 6)=some t6∧s.t.getP (Tr.path 7)=some (.slice (some ⟨.run u,0⟩) k k 1)∧s.t.getP (Tr.path 9)=some y∧s.t.getP (Tr.path 10)=some (.int .i64 (i:Int))∧Lst G s.H 64 (rowsK (recR B R p i)) y∧(i=0∨c=0)∧Turns Z G s.H)
  ?_ lf k _ ⟨0,_,rfl,Nat.zero_le _,rfl,q0,q6,q7,q9,q10,Lst.nil _ _ _,.inl rfl,Turns.refl _ _⟩ (by omega)
 rintro m ⟨t,HH,dd⟩ ⟨i,y,rfl,hi,hd,q0,q6,q7,q9,q10,hy,hc0,hT⟩
 dsimp only at hd q0 q6 q7 q9 q10 hy hT
 subst hd
 by_cases hlt:i < k
 rotate_left
 ·have:i=k:=by omega
  subst this
  simp (maxDischargeDepth:=12) (disch:=omega) only[c66_l0,q7,q10,om,hv,ldO_one,stO_one,sy,tup,↓reduceIte,zA,zG,zC,zD,zF,zE,zB,zH,reduceCtorEq]
  exact⟨trivial,hT,.inl ⟨trivial,hc0,by simp[q6],y,by simp[q9],hy⟩⟩
 have huH:=(hT.same (.run u) uo (fun h=>h)).trans hu
 have hgH:=(hT.same l ho (fun h=>h)).trans hg
 have hbH:=(hT.same b bo (fun h=>h)).trans hb
 have k0:cut (dcells b id R cnt first tail lv) 0 1=some [.ptr (some ⟨b,0⟩)]:=rfl
 have k1:cut (dcells b id R cnt first tail lv) 1 1=some [.int .i64 0]:=rfl
 have hsl:=posL_len R p k
 have ld1:=ldI (ro:=false) (A:=posL R p k) (i:=i) (by omega)
 have hsi:(posL R p k)[i]'(by omega)=(((p+i) % R:Nat):Int):=by unfold posL;rw[List.getElem_map,List.getElem_range]
 rw[hsi] at ld1
 have hm:(p+i) % R < R:=Nat.mod_lt _ (by omega)
 have hrc1:=hrc i hlt
 have hre:=recR_succ B R p i
 obtain⟨z,hz⟩:∃ z,z=(p+i) % R:=⟨_,rfl⟩
 rw[← hz] at ld1 hrc1 hre hm
 obtain⟨m,hm'⟩:∃ m:Int,m=((z+10:Nat):Int):=⟨_,rfl⟩
 rw[← hm'] at hrc1 hre
 have wm:IntKind.i64.wrap (10+(z:Int))=m:=by rw[Go.Am.wrap_i64 (by omega)];omega
 have eR:=qRRead (lf:=lf) (K:=K) (w:=n) hbH hf 0 m
 rw[hrc1] at eR
 obtain⟨X,hX⟩:∃ X,X=B.read 0 m:=⟨_,rfl⟩
 rw[← hX] at eR hre
 obtain⟨p2,hp2⟩:∃ x,x=HH.next+(K+2):=⟨_,rfl⟩
 have t2:Turns Z HH (((HH.skip (K+2)).add (.rows false 64 [[.blk 0]])).set (.run p2) (.rows false 64 [[.blk X]])):=by rw[hp2];repeat (first | exact Turns.refl _ _ | apply Turns.skip | apply Turns.addm | apply Turns.setb | apply Turns.setl | apply Turns.setr | refine Turns.setn ?_ _ (by omega) _ | refine Turns.trans ?_ (tF _))
 have hx2:(((HH.skip (K+2)).add (.rows false 64 [[.blk 0]])).set (.run p2) (.rows false 64 [[.blk X]])).get (.run p2)=some (.rows false 64 [[.blk X]]):=by rw[Heap.get_set,if_pos rfl]
 obtain⟨H2,hH2⟩:∃ H2,((HH.skip (K+2)).add (.rows false 64 [[.blk 0]])).set (.run p2) (.rows false 64 [[.blk X]])=H2:=⟨_,rfl⟩
 rw[hH2] at t2 hx2
 by_cases hcz:c=0
 rotate_left
 ·simp (maxDischargeDepth:=12) (disch:=omega) only[c66_l0,q0,q7,q10,huH,ld1,hgH,k0,k1,wm,eR,← hp2,hH2,Nat.mul_one,om,hv,ldO_one,stO_one,sy,tup,↓reduceIte,zA,zG,zC,zD,zF,zE,zB,zH,reduceCtorEq]
  rw[endD_ok (by kernel_rfl) (by kernel_rfl)]
  simp (maxDischargeDepth:=12) (disch:=omega) only[om,hv,ldO_one,stO_one,sy,tup,↓reduceIte,zA,zG,zC,zD,zF,zE,zB,zH,reduceCtorEq]
  exact⟨trivial,hT.trans t2,.inr ⟨trivial,hcz,trivial,trivial⟩⟩
 have hy2:=hy.turns t2 (fun _ _ h=>h)
 have t3:=Turns.add Z H2 (.rows false 64 [[.blk X]])
 have hg3:(H2.add (.rows false 64 [[.blk X]])).get (.run H2.next)=some (.rows false 64 [[.blk X]]):=by rw[Heap.get_add,if_pos rfl]
 obtain⟨H3,hH3⟩:∃ H3,H2.add (.rows false 64 [[.blk X]])=H3:=⟨_,rfl⟩
 rw[hH3] at t3 hg3
 have hy3:=hy2.turns t3 (fun _ _ h=>h)
 have tt:=(hT.trans t2).trans t3
 have hrl:(rowsK (recR B R p i)).length=i:=by rw[rowsK_len,recR_len]
 obtain⟨H4,ea,hy4,t4,_⟩:=hy3.app1 (by':=64) tt.next hg3 (Dh _ _) (by decide) (by rw[hrl];omega) (by rw[hrl];omega)
 rw[hrl] at ea hy4
 have t4':=lst_away hy3 tt (Nat.le_refl _) t4
 simp (maxDischargeDepth:=12) (disch:=omega) only[c66_l0,q0,q7,q10,huH,ld1,hgH,k0,k1,wm,eR,← hp2,hH2,Nat.mul_one,om,hv,ldO_one,stO_one,sy,tup,↓reduceIte,zA,zG,zC,zD,zF,zE,zB,zH,reduceCtorEq]
 rw[endD_ok (by kernel_rfl) (by kernel_rfl)]
 simp (maxDischargeDepth:=12) (disch:=omega) only[q9,hx2,Dh,hH3,ea,q10,om,hv,ldO_one,stO_one,sy,tup,↓reduceIte,zA,zG,zC,zD,zF,zE,zB,zH,reduceCtorEq]
 refine⟨k - (i+1),by omega,i+1,_,rfl,by omega,trivial,by simp[q0],by simp[q6],by simp[q7],rfl,by simp,?_,.inr hcz,t4'⟩
 rw[hre]
 unfold rowsK
 rw[List.map_append]
 exact hy4
theorem dlrecord {G:Heap} {l b:Bk} {id R cnt first tail:Nat} {N:List Nt} {lv:V} (h:DLogAt G l b id R cnt first tail N lv) (bo:G.Old b) {B:Bn} (hb:G.get b=some (bx true B)) (hf:Fit B) {q:Nat} (hq:q < 18446744073709551616) (hnt:∀ i (hi:i < N.length),(1≤N[i].cells∧N[i].cells≤32)∧N[i].sum < 4294967296∧recS N[i].cells≤R∧N[i].pos+recS N[i].cells≤4611686018427387904) {c:Int} (hrc:∀ i (hi:i < N.length),first+i=q→∀ j,j < recS N[i].cells→B.rc 0 (((N[i].pos+j) % R+10:Nat):Int)=c) (n:Nat) :
    ret (U lf K (n+4) 66 [.ptr (some ⟨l,0⟩),.int .u64 (q:Int)] G) fun v G'=>Turns Z G G' ∧
      (((q < first∨first+N.length≤q)∧v=.tuple [.slice none 0 0 0,.int .i64 7]) ∨
       (∃(i:Nat) (hi:i < N.length),first+i=q∧((recC B R N[i] c≠0∧v=.tuple [.slice none 0 0 0,.int .i64 (recC B R N[i] c)])∨(recC B R N[i] c=0∧∃ y,v=.tuple [y,.int .i64 0]∧Lst G G' 66 (rowsC (getL (recR B R N[i].pos (recS N[i].cells)) N[i].cells)) y)))):=by
  have eN:=dlnext hlf h (K:=K) (n+2)
  obtain⟨hg,G0,hN,hG0⟩:=h.ex
  have hfn:=h.fn
  have hnl:=h.nl
  have hRb:=h.rb
  have hrl:=rowsT_len N
  obtain⟨lp,lc,lo,rfl⟩:=hN.val
  rw[hrl] at hg hN
  have k3:cut (dcells b id R cnt first tail (.slice lp N.length lc lo)) 3 1=some [.int .i64 (R:Int)]:=rfl
  have k5:cut (dcells b id R cnt first tail (.slice lp N.length lc lo)) 5 1=some [.int .u64 (first:Int)]:=rfl
  have k7:cut (dcells b id R cnt first tail (.slice lp N.length lc lo)) 7 1=some [.slice lp N.length lc lo]:=rfl
  obtain⟨nx,hnx⟩:∃ nx,nx=first+N.length:=⟨_,rfl⟩
  rw[← hnx] at eN ⊢
  obtain⟨PB,hPB⟩:∃ PB:Prop,PB=(q < first∨nx≤q):=⟨_,rfl⟩
  rw[← hPB]
  refine ret_callU rfl rfl c66_eq ?_
  by_cases h1:q < first
  · simp (maxDischargeDepth:=12) (disch:=omega) only[c66,hg,k5,om,hv,ldO_one,stO_one,sy,tup,↓reduceIte,zA,zG,zC,zD,zF,zE,zB,zH,reduceCtorEq]
    exact⟨trivial,.inr trivial,_,rfl,Turns.refl _ _,.inl ⟨by rw[hPB];exact .inl h1,rfl⟩⟩
  by_cases h2:nx≤q
  · simp (maxDischargeDepth:=12) (disch:=omega) only[c66,hg,k5,eN,om,hv,ldO_one,stO_one,sy,tup,↓reduceIte,zA,zG,zC,zD,zF,zE,zB,zH,reduceCtorEq]
    exact⟨trivial,.inr trivial,_,rfl,Turns.refl _ _,.inl ⟨by rw[hPB];exact .inr h2,rfl⟩⟩
  obtain⟨i,hiq⟩:∃ i,i=q - first:=⟨_,rfl⟩
  have hi:i < N.length:=by omega
  have hqi:first+i=q:=by omega
  have w1:IntKind.u64.wrap ((q:Int) - (first:Int))=(i:Int):=by rw[Go.Am.wrap_u64 (by omega)];omega
  obtain⟨m,em,hld⟩:=hN.load (i:=i) (o:=0) (k:=4) (r:=ntV N[i]) (rowsT_get hi) (by decide)
  rw[ld_get,Nat.add_zero,show cut (ntV N[i]) 0 4=some (ntV N[i]) from rfl] at hld
  have elp:lp=some ⟨.run m,0⟩:=(V.slice.inj em).1
  subst elp
  obtain⟨⟨hc1,hc2⟩,hsum,hkR,hpk⟩:=hnt i hi
  have hrci:=hrc i hi hqi
  have hsel:∀(v:V) (G':Heap),(((recC B R N[i] c≠0∧v=.tuple [.slice none 0 0 0,.int .i64 (recC B R N[i] c)])∨(recC B R N[i] c=0∧∃ y,v=.tuple [y,.int .i64 0]∧Lst G G' 66 (rowsC (getL (recR B R N[i].pos (recS N[i].cells)) N[i].cells)) y)))→((PB∧v=.tuple [.slice none 0 0 0,.int .i64 7])∨(∃(i:Nat) (hi:i < N.length),first+i=q∧((recC B R N[i] c≠0∧v=.tuple [.slice none 0 0 0,.int .i64 (recC B R N[i] c)])∨(recC B R N[i] c=0∧∃ y,v=.tuple [y,.int .i64 0]∧Lst G G' 66 (rowsC (getL (recR B R N[i].pos (recS N[i].cells)) N[i].cells)) y)))):=fun v G' hx=>.inr ⟨i,hi,hqi,hx⟩
  have hcc:recC B R N[i] c=if c≠0 then c else if sumB (recR B R N[i].pos (recS N[i].cells))≠N[i].sum then 6 else if getOk (recR B R N[i].pos (recS N[i].cells)) N[i].cells=false then 5 else 0:=rfl
  generalize N[i]=nt at hld hc1 hc2 hsum hkR hpk hrci hsel hcc
  obtain⟨sq,pos,cl,sm⟩:=nt
  dsimp only at hc1 hc2 hsum hkR hpk hrci hsel hcc
  have eV:ntV ⟨sq,pos,cl,sm⟩=ntW sq pos cl sm:=rfl
  rw[eV] at hld
  have wid4:width (ntW sq pos cl sm)=4:=rfl
  have put4:put nt0 0 (ntW sq pos cl sm)=some (ntW sq pos cl sm):=rfl
  have c1:cut (ntW sq pos cl sm) 1 1=some [.int .u64 (pos:Int)]:=rfl
  have c2:cut (ntW sq pos cl sm) 2 1=some [.int .i64 (cl:Int)]:=rfl
  have c3:cut (ntW sq pos cl sm) 3 1=some [.int .u32 (sm:Int)]:=rfl
  obtain⟨p1,hp1⟩:∃ x,x=G.next:=⟨_,rfl⟩
  have t1:Turns Z G ((G.add (.rows false 4 [nt0])).set (.run p1) (.rows false 4 [ntW sq pos cl sm])):=by rw[hp1];repeat (first | exact Turns.refl _ _ | apply Turns.skip | apply Turns.addm | apply Turns.setb | apply Turns.setl | apply Turns.setr | refine Turns.setn ?_ _ (by omega) _ | refine Turns.trans ?_ (tF _))
  have hn1:((G.add (.rows false 4 [nt0])).set (.run p1) (.rows false 4 [ntW sq pos cl sm])).get (.run p1)=some (.rows false 4 [ntW sq pos cl sm]):=by rw[Heap.get_set,if_pos rfl]
  obtain⟨G1,hG1⟩:∃ G1,(G.add (.rows false 4 [nt0])).set (.run p1) (.rows false 4 [ntW sq pos cl sm])=G1:=⟨_,rfl⟩
  have n1:G1.next=p1+1:=by rw[← hG1,hp1];rfl
  rw[hG1] at t1 hn1
  have eZ:=dsize hlf (K:=K) G1 (k:=cl) (by omega) (n+1)
  rw[szR_rec hlf hc1 hc2] at eZ
  have hk1:1≤recS cl:=by unfold recS;omega
  have hk34:recS cl≤34:=by unfold recS;omega
  have hg1:=(t1.same l h.old (fun h=>h)).trans hg
  have hQ:∀ x ∈ [lq 41 ⟨l,3⟩ (.int .i64 (R:Int)) G1,lq 41 ⟨l,3⟩ (.int .i64 (R:Int)) G1,lq 43 ⟨.run p1,1⟩ (.int .u64 (pos:Int)) G1,lq 43 ⟨.run p1,1⟩ (.int .u64 (pos:Int)) G1],x.1=x.2:=by
    intro x hx
    simp only[List.mem_cons,List.not_mem_nil,or_false] at hx
    rcases hx with rfl | rfl | rfl | rfl<;>refine lq_ok ?_ rfl<;>simp (maxDischargeDepth:=12) (disch:=omega) only[hg1,k3,hn1,c1,om,hv,ldO_one,stO_one,sy,tup,↓reduceIte,zA,zG,zC,zD,zF,zE,zB,zH,reduceCtorEq]
  obtain⟨v2,G2,e2,u,rfl,hu0,hu1,hu,t2⟩:=drlist hlf (K:=K) G1 hRb (p:=pos) (k:=recS cl) hpk ⟨hk1,hkR⟩ n
  obtain⟨k,hk⟩:∃ k,k=recS cl:=⟨_,rfl⟩
  rw[← hk] at eZ hkR hpk hrci hk1 hk34 e2 hu
  simp (maxDischargeDepth:=12) (disch:=omega) only[c66,hg,k5,k7,eN,w1,hld,wid4,put4,← hp1,hG1,Nat.mul_one,om,hv,ldO_one,stO_one,sy,tup,↓reduceIte,zA,zG,zC,zD,zF,zE,zB,zH,reduceCtorEq]
  rw[endD_ok (by kernel_rfl) (by kernel_rfl)]
  simp (maxDischargeDepth:=12) (disch:=omega) only[hg1,k3,hn1,c1,c2,eZ,e2,om,hv,ldO_one,stO_one,sy,tup,↓reduceIte,zA,zG,zC,zD,zF,zE,zB,zH,reduceCtorEq]
  rw[endD_q (q:=[lq 41 ⟨l,3⟩ (.int .i64 (R:Int)) G1,lq 41 ⟨l,3⟩ (.int .i64 (R:Int)) G1,lq 43 ⟨.run p1,1⟩ (.int .u64 (pos:Int)) G1,lq 43 ⟨.run p1,1⟩ (.int .u64 (pos:Int)) G1]) (by kernel_rfl) (by kernel_rfl)]
  obtain⟨G3,hG3⟩:∃ X,G2.owe [lq 41 ⟨l,3⟩ (.int .i64 (R:Int)) G1,lq 41 ⟨l,3⟩ (.int .i64 (R:Int)) G1,lq 43 ⟨.run p1,1⟩ (.int .u64 (pos:Int)) G1,lq 43 ⟨.run p1,1⟩ (.int .u64 (pos:Int)) G1]=X:=⟨_,rfl⟩
  have t2':Turns Z G1 G3:=by rw[← hG3];exact t2.owe hQ
  have hu':G3.get (.run u)=some (.rows false 1 (rowsI (posL R pos k))):=by rw[← hG3,get_owe];exact hu
  have hu1':u < G3.next:=by rw[← hG3];exact hu1
  rw[hG3]
  have t13:=t1.trans t2'
  have hg3:=(t13.same l h.old (fun h=>h)).trans hg
  have hb3:=(t13.same b bo (fun h=>h)).trans hb
  have hn3:=(t2'.same (.run p1) (by show _ < _;omega) (fun h=>h)).trans hn1
  have o3:p1 < G3.next:=by have:=t2'.next;omega
  have hloop:=dlrecord_read hlf (K:=K) hg3 (h.old.mono t13.next) hb3 (bo.mono t13.next) hf hu' hu1' (by omega) hRb hrci (t6:=.ptr (some ⟨.run p1,0⟩)) (n+2)
  simp (maxDischargeDepth:=12) (disch:=omega) only[om,hv,ldO_one,stO_one,sy,tup,↓reduceIte,zA,zG,zC,zD,zF,zE,zB,zH,reduceCtorEq]
  refine wp_ctx (F:=fun r=>seqC _ _ _ (blockC _ r)) (hloop _ ?_ ?_ ?_ ?_ ?_) ?_
  · simp only[sy,tup,↓reduceIte,zA,zG,zC,zD,zF,zE,zB,zH,reduceCtorEq]
  · simp only[sy,tup,↓reduceIte,zA,zG,zC,zD,zF,zE,zB,zH,reduceCtorEq]
  · simp only[sy,tup,↓reduceIte,zA,zG,zC,zD,zF,zE,zB,zH,reduceCtorEq]
  · simp only[sy,tup,↓reduceIte,zA,zG,zC,zD,zF,zE,zB,zH,reduceCtorEq]
  · simp only[sy,tup,↓reduceIte,zA,zG,zC,zD,zF,zE,zB,zH,reduceCtorEq]
  rintro x ⟨t,G4,d⟩ ⟨hd,t4,⟨rfl,hcz,q6,y,q9,hy⟩ | ⟨rfl,hcz,q4,q5⟩⟩
  rotate_left
  · dsimp only at hd t4 q4 q5
    subst hd
    rw[if_pos hcz] at hcc
    simp (maxDischargeDepth:=12) (disch:=omega) only[q4,q5,om,hv,ldO_one,stO_one,sy,tup,↓reduceIte,zA,zG,zC,zD,zF,zE,zB,zH,reduceCtorEq]
    exact⟨trivial,.inr trivial,_,rfl,t13.trans t4,hsel _ _ (.inl ⟨by rw[hcc];exact hcz,by rw[hcc]⟩)⟩
  dsimp only at hd t4 q6 q9 hy
  subst hd
  have hcz:c=0:=hcz.resolve_left (by omega)
  rw[if_neg (fun h=>h hcz),← hk] at hcc
  have hrA:=recR_len B R pos k
  obtain⟨A,hA⟩:∃ A,A=recR B R pos k:=⟨_,rfl⟩
  rw[← hA] at hy hcc hrA
  rcases hy with ⟨e,_⟩ | ⟨w,_,rfl,hw,w1',w2'⟩
  · have:=congrArg List.length e
    rw[rowsK_len,hrA] at this
    simp at this;omega
  rw[rowsK_len,hrA] at q9
  have hn4:=(t4.same (.run p1) o3 (fun h=>h)).trans hn3
  obtain⟨v5,G5,e5,rfl,t5⟩:=dsum hlf (K:=K) (cp:=k) (z:=64) hw w2' hrA (by omega) n
  have hn5:=(t5.same (.run p1) (Nat.lt_of_lt_of_le o3 t4.next) (fun h=>h)).trans hn4
  have hQ5:∀ x ∈ [lq 83 ⟨.run p1,3⟩ (.int .u32 (sm:Int)) G4,lq 83 ⟨.run p1,3⟩ (.int .u32 (sm:Int)) G5],x.1=x.2:=by
    intro x hx
    simp only[List.mem_cons,List.not_mem_nil,or_false] at hx
    rcases hx with rfl | rfl<;>refine lq_ok ?_ rfl<;>simp (maxDischargeDepth:=12) (disch:=omega) only[hn4,hn5,c3,om,hv,ldO_one,stO_one,sy,tup,↓reduceIte,zA,zG,zC,zD,zF,zE,zB,zH,reduceCtorEq]
  obtain⟨G6,hG6⟩:∃ X,G5.owe [lq 83 ⟨.run p1,3⟩ (.int .u32 (sm:Int)) G4,lq 83 ⟨.run p1,3⟩ (.int .u32 (sm:Int)) G5]=X:=⟨_,rfl⟩
  have t6:Turns Z G4 G6:=by rw[← hG6];exact t5.owe hQ5
  have hn6:G6.get (.run p1)=some (.rows false 4 [ntW sq pos cl sm]):=by rw[← hG6,get_owe];exact hn5
  have hw6:=(t6.same (.run w) w2' (fun h=>h)).trans hw
  have tG6:=(t13.trans t4).trans t6
  by_cases hsm:sumB A=sm
  rotate_left
  · rw[if_pos hsm] at hcc
    generalize sumB A=sA at *
    simp (maxDischargeDepth:=12) (disch:=omega) only[q6,q9,e5,hn5,c3,om,hv,ldO_one,stO_one,sy,tup,↓reduceIte,zA,zG,zC,zD,zF,zE,zB,zH,reduceCtorEq]
    rw[endD_q (q:=[lq 83 ⟨.run p1,3⟩ (.int .u32 (sm:Int)) G4,lq 83 ⟨.run p1,3⟩ (.int .u32 (sm:Int)) G5]) (by kernel_rfl) (by kernel_rfl),hG6]
    simp (maxDischargeDepth:=12) (disch:=omega) only[om,hv,ldO_one,stO_one,sy,tup,↓reduceIte,zA,zG,zC,zD,zF,zE,zB,zH,reduceCtorEq]
    exact⟨trivial,.inr trivial,_,rfl,tG6,hsel _ _ (.inl ⟨by rw[hcc];decide,by rw[hcc]⟩)⟩
  rw[if_neg (fun h=>h hsm)] at hcc
  obtain⟨v7,G7,e7,t7,h7⟩:=dget hlf (K:=K) (cp:=k) (z:=64) hw6 (Nat.lt_of_lt_of_le w2' t6.next) ⟨hc1,hc2⟩ (by rw[hrA,hk]) n
  rw[← hk] at e7
  rw[hsm] at e5
  simp (maxDischargeDepth:=12) (disch:=omega) only[q6,q9,e5,hn5,c3,om,hv,ldO_one,stO_one,sy,tup,↓reduceIte,zA,zG,zC,zD,zF,zE,zB,zH,reduceCtorEq]
  rw[endD_q (q:=[lq 83 ⟨.run p1,3⟩ (.int .u32 (sm:Int)) G4,lq 83 ⟨.run p1,3⟩ (.int .u32 (sm:Int)) G5]) (by kernel_rfl) (by kernel_rfl),hG6]
  have tG7:=tG6.trans t7
  rcases h7 with ⟨hok,o,rfl,ho⟩ | ⟨hok,rfl⟩
  · rw[hok,if_neg (by decide)] at hcc
    simp (maxDischargeDepth:=12) (disch:=omega) only[q6,q9,hn6,c2,e7,om,hv,ldO_one,stO_one,sy,tup,↓reduceIte,zA,zG,zC,zD,zF,zE,zB,zH,reduceCtorEq]
    refine⟨trivial,.inr trivial,_,rfl,tG7,hsel _ _ (.inr ⟨hcc,o,rfl,?_⟩)⟩
    rw[← hk,← hA]
    rcases ho with ho | ⟨a,b1,b2,b3,b4,b5⟩
    · exact .inl ho
    · exact .inr ⟨a,b1,b2,b3,Nat.le_trans tG6.next b4,b5⟩
  · rw[hok,if_pos rfl] at hcc
    simp (maxDischargeDepth:=12) (disch:=omega) only[q6,q9,hn6,c2,e7,om,hv,ldO_one,stO_one,sy,tup,↓reduceIte,zA,zG,zC,zD,zF,zE,zB,zH,reduceCtorEq]
    exact⟨trivial,.inr trivial,_,rfl,tG7,hsel _ _ (.inl ⟨by rw[hcc];decide,by rw[hcc]⟩)⟩
end
end Go.Proofs.YtllkepkaimnodaaGreatDoor.draft
namespace Go.Proofs.YtllkepkaimnodaaGreatDoor.draft
open Go.Am
noncomputable def c63_l0:C:=.seq (.seq (.reg [
 mv 11 5,
 mv 12 0,
 qo 13 (.p (lenF (tt 12))) [pp 12],
 qo 14 (.p (arF .lss (tt 11) (tt 13))) [pp 11,pp 13]]) (
 .cond (tt 14) (.skip) (.exit 0))) (
 .seq (.block 1 (.seq (.regD [
 mv 17 0,
 mv 18 5,
 qo 19 (.p (iaddrSF (tt 17) (tt 18) 66)) [pp 17,pp 18],
 qo 20 (.r (loadF (tt 19) 66 .ag)) [pp 19],
 mv 21 1,
 mv 22 5,
 qo 23 (.p (iaddrSF (tt 21) (tt 22) 66)) [pp 21,pp 22],
 qo 24 (.r (loadF (tt 23) 66 .ag)) [pp 23],
 qo 25 (.p (eqcF true true [.int .i64,.int .i64,.blk] (tt 20) (tt 24))) [pp 20,pp 24]] [0,0,3,7,0,0,48,112,255]) (
 .cond (tt 25) (.seq (.reg [
 qo 4 (.p (S.get (.c (.bool false)))) []]) (
 .ret)) (.skip)))) (
 .reg [
 mv 15 5,
 qo 16 (.p (arF .add (tt 15) (ii 1))) [pp 15],
 mv 5 16]))
noncomputable def c63:CFn:=⟨[.tmp (pp 4)],
 .seq (.reg [
 qo 4 (.p (S.get (.c (.bool false)))) []]) (
 .seq (.seq (.reg [
 mv 6 0,
 qo 7 (.p (lenF (tt 6))) [pp 6],
 mv 8 1,
 qo 9 (.p (lenF (tt 8))) [pp 8],
 qo 10 (.p (eqcF true false [.int .i64] (tt 7) (tt 9))) [pp 7,pp 9]]) (
 .cond (tt 10) (.seq (.reg [
 qo 4 (.p (S.get (.c (.bool false)))) []]) (
 .ret)) (.skip))) (
 .seq (.seq (.reg [
 qo 5 (.p (S.get (ii 0))) []]) (
 .block 0 (.loop c63_l0))) (
 .seq (.reg [
 qo 4 (.p (S.get (.c (.bool true)))) []]) (
 .ret))))⟩
theorem c63_eq:fnOf Tryz.prog 63=some c63:=by kernel_rfl
structure ClsAt (H:Heap) (v:V) (l:List Cl):Prop where
 ex:∃ p c z,v=.slice p l.length c z
 get:∀(i:Nat) (hi:i < l.length),∃ x o c z,v=.slice (some ⟨x,o⟩) l.length c z∧ldO (H.get x) (o+i*66) 66=some (rowC l[i])
theorem rowsC_get {l:List Cl} {i:Nat} (hi:i < l.length):(rowsC l)[i]?=some (rowC l[i]):=by unfold rowsC;rw[List.getElem?_map,List.getElem?_eq_getElem hi];rfl
theorem cls_lst {H0 H:Heap} {v:V} {l:List Cl} (h:Lst H0 H 66 (rowsC l) v):ClsAt H v l:=by
 refine⟨?_,fun i hi=>?_⟩
 ·obtain⟨p,c,o,e⟩:=h.val
  rw[rowsC_len] at e
  exact⟨p,c,o,e⟩
 ·obtain⟨n,e,hl⟩:=h.load (i:=i) (o:=0) (k:=66) (r:=rowC l[i]) (rowsC_get hi) (by decide)
  rw[rowsC_len] at e
  refine⟨.run n,0,_,_,e,?_⟩
  rw[Nat.zero_add]
  have hl:loadAt H ⟨.run n,i*66+0⟩ 66=_:=hl
  rw[Nat.add_zero,ld_get] at hl
  exact hl
section
variable {lf K:Nat} (hlf:1000 < lf)
include hlf
theorem ucells {G:Heap} {a b:V} {l:List Cl} (ha:ClsAt G a l) (hb:ClsAt G b l) (hl:l.length≤1000) (hf:l.length+1 < lf) (n:Nat):U lf K (n+1) 63 [a,b] G=some (.v (.bool true),G):=by
 obtain⟨v,H',e',rfl,rfl⟩:ret (U lf K (n+1) 63 [a,b] G) fun v H'=>v=.bool true∧H'=G:=by
  have hloop:∀ t:T,t.getP (Tr.path 0)=some a→t.getP (Tr.path 1)=some b→t.getP (Tr.path 5)=some (.int .i64 0)→wp (loopF (runC (U lf K n) lf c63_l0) lf ⟨t,G,[]⟩) fun x s=>x=.ex 0∧s.d=[]∧s.H=G:=by
   intro t q0 q1 q5
   refine wp_loopF (fun u s=>∃ i:Nat,u=l.length - i∧i≤l.length∧s.d=[]∧s.H=G∧s.t.getP (Tr.path 0)=some a∧s.t.getP (Tr.path 1)=some b∧s.t.getP (Tr.path 5)=some (.int .i64 (i:Int))) ?_ lf l.length _ ⟨0,rfl,by omega,rfl,rfl,q0,q1,q5⟩ (by omega)
   rintro u ⟨t,HH,d⟩ ⟨i,rfl,hi,hd,hH,q0,q1,q5⟩
   dsimp only at hd hH q0 q1 q5
   subst hd;subst hH
   by_cases hlt:i < l.length
   ·have hlt':(i:Int) < (l.length:Int):=by omega
    have hle:i+1≤l.length:=hlt
    have w1:IntKind.i64.wrap ((i:Int)+1)=((i+1:Nat):Int):=by rw[Go.Am.wrap_i64 (by omega)];omega
    obtain⟨x,o,c,z,rfl,lx⟩:=ha.get i hlt
    obtain⟨x',o',c',z',rfl,lx'⟩:=hb.get i hlt
    unfold rowC at lx lx'
    have bs:(l[i].s==l[i].s)=true:=beq_self_eq_true _
    have bm:(l[i].m==l[i].m)=true:=beq_self_eq_true _
    have bx:(l[i].x==l[i].x)=true:=beq_self_eq_true _
    simp (maxDischargeDepth:=12) only[c63_l0,q0,q1,q5,hlt',hlt,hle,lx,lx',hv,ldO_one,stO_one,sy,tup,↓reduceIte,zA,zG,zC,zD,zF,zE,zB,zH,reduceCtorEq]
    rw[endD_ok (by kernel_rfl) (by kernel_rfl)]
    simp (maxDischargeDepth:=12) only[q5,bs,bm,bx,w1,hv,ldO_one,stO_one,sy,tup,↓reduceIte,zA,zG,zC,zD,zF,zE,zB,zH,reduceCtorEq]
    exact⟨l.length - (i+1),by omega,i+1,rfl,hlt,trivial,trivial,q0,q1,by simp⟩
   ·have:i=l.length:=by omega
    subst this
    obtain⟨p,c,z,rfl⟩:=ha.ex
    simp (maxDischargeDepth:=12) only[c63_l0,q0,q1,q5,Int.lt_irrefl,Nat.lt_irrefl,hv,ldO_one,stO_one,sy,tup,↓reduceIte,zA,zG,zC,zD,zF,zE,zB,zH,reduceCtorEq]
    exact⟨trivial,trivial,trivial⟩
  obtain⟨p,c,z,rfl⟩:=ha.ex
  obtain⟨p',c',z',rfl⟩:=hb.ex
  have bl:((l.length:Int)==(l.length:Int))=true:=beq_self_eq_true _
  refine ret_callU rfl rfl c63_eq ?_
  simp (maxDischargeDepth:=12) only[c63,bl,hv,ldO_one,stO_one,sy,tup,↓reduceIte,zA,zG,zC,zD,zF,zE,zB,zH,reduceCtorEq]
  refine wp_ctx (F:=fun r=>seqC _ _ _ (blockC _ r)) (hloop _ ?_ ?_ ?_) ?_
  ·simp only[sy,tup,↓reduceIte,zA,zG,zC,zD,zF,zE,zB,zH,reduceCtorEq]
  ·simp only[sy,tup,↓reduceIte,zA,zG,zC,zD,zF,zE,zB,zH,reduceCtorEq]
  ·simp only[sy,tup,↓reduceIte,zA,zG,zC,zD,zF,zE,zB,zH,reduceCtorEq]
  rintro x ⟨t,HH,d⟩ ⟨rfl,hd,hH⟩
  dsimp only at hd hH
  subst hd;subst hH
  simp (maxDischargeDepth:=12) only[hv,ldO_one,stO_one,sy,tup,↓reduceIte,zA,zG,zC,zD,zF,zE,zB,zH,reduceCtorEq]
  simp
 exact e'
end
end Go.Proofs.YtllkepkaimnodaaGreatDoor.draft
namespace Go.Proofs.YtllkepkaimnodaaGreatDoor.draft
open Go.Am
open disk (bx Fit A1 R1 Low Bn)
noncomputable def c65:CFn:=⟨[.tmp (pp 4)],
 .seq (.reg [
 qo 3 (.m (boxF 9 (tt 1))) [pp 1],
 qo 4 (.p (S.get (.c (.int .u64 0)))) []]) (
 .seq (.seq (.reg [
 qo 5 (.p (faddrF (tt 3) 4)) [pp 3],
 qo 6 (.r (loadF (tt 5) 1 .sc)) [pp 5],
 qo 7 (.p (unF .not (tt 6))) [pp 6]]) (
 .cond (tt 7) (.seq (.reg [
 qo 8 (.p (faddrF (tt 3) 3)) [pp 3],
 qo 9 (.r (loadF (tt 8) 1 .sc)) [pp 8],
 mv 4 9]) (
 .ret)) (.skip))) (
 .seq (.regD [
 mv 10 0,
 qo 11 (.p (nilcF (tt 10))) [pp 10],
 qo 12 (.p (faddrF (tt 11) 3)) [pp 11],
 qo 13 (.r (loadF (tt 12) 1 .sc)) [pp 12],
 qo 14 (.p (nilcF (tt 13))) [pp 13],
 qo 15 (.p (faddrF (tt 14) 5)) [pp 14],
 qo 16 (.r (loadF (tt 15) 1 .sc)) [pp 15],
 qo 17 (.p (faddrF (tt 3) 3)) [pp 3],
 qo 18 (.r (loadF (tt 17) 1 .sc)) [pp 17],
 qo 19 (.p (arF .rem (tt 18) (.c (.int .u64 11)))) [pp 18],
 qo 20 (.p (arF .add (tt 16) (tt 19))) [pp 16,pp 19],
 qo 21 (.p (arF .sub (tt 20) (.c (.int .u64 1)))) [pp 20],
 mv 4 21] [0,1,3,7,15,31,63,0,128,384,1023,2047,4095]) (
 .ret)))⟩
theorem c65_eq:fnOf Tryz.prog 65=some c65:=by kernel_rfl
noncomputable def c13:CFn:=⟨[.tmp (pp 4)],
 .seq (.reg [
 qo 3 (.m (boxF 9 (tt 1))) [pp 1],
 qo 4 (.p (S.get (.c (.bool false)))) []]) (
 .seq (.seq (.reg [
 mv 15 0,
 qo 16 (.p (nilcF (tt 15))) [pp 15],
 qo 17 (.p (faddrF (tt 16) 3)) [pp 16],
 qo 18 (.r (loadF (tt 17) 1 .sc)) [pp 17],
 qo 19 (.r (eqnF false .ptr (tt 18) (.c (.ptr none)))) [pp 18]]) (
 .cond (tt 19) (.seq (.reg [
 qo 4 (.p (S.get (.c (.bool true)))) []]) (
 .ret)) (.skip))) (
 .seq (.seq (.reg [
 qo 20 (.p (faddrF (tt 3) 0)) [pp 3],
 qo 21 (.r (loadF (tt 20) 1 .sc)) [pp 20]]) (
 .block 0 (.seq (.reg [
 qo 23 (.p (eqcF false false [.int .i64] (tt 21) (ii 0))) [pp 21],
 mv 22 23]) (
 .cond (tt 22) (.seq (.seq (.reg [
 qo 24 (.p (faddrF (tt 3) 2)) [pp 3],
 qo 25 (.r (loadF (tt 24) 1 .sc)) [pp 24],
 qo 26 (.c (callF (ff 60) [(tt 25)])) [pp 25]]) (
 .cond (tt 26) (.seq (.reg [
 qo 4 (.p (S.get (.c (.bool true)))) []]) (
 .ret)) (.skip))) (
 .seq (.reg [
 qo 27 (.p (faddrF (tt 3) 2)) [pp 3],
 qo 28 (.r (loadF (tt 27) 1 .sc)) [pp 27],
 qo 29 (.c (callF (ff 61) [(tt 28)])) [pp 28],
 mv 5 29]) (
 .seq (.reg [
 mv 31 0,
 qo 32 (.p (nilcF (tt 31))) [pp 31],
 qo 33 (.p (faddrF (tt 32) 2)) [pp 32],
 qo 34 (.r (loadF (tt 33) 1 .sc)) [pp 33],
 mv 35 5,
 qo 36 (.c (callF (ff 19) [(tt 34),(tt 35)])) [pp 34,pp 35],
 mv 30 36,
 qo 37 (.p (extF (tt 30) 0)) [pp 30],
 qo 38 (.p (extF (tt 30) 1)) [pp 30],
 mv 6 37,
 mv 7 38]) (
 .seq (.regD [
 mv 40 0,
 qo 41 (.p (nilcF (tt 40))) [pp 40],
 qo 42 (.p (faddrF (tt 41) 3)) [pp 41],
 qo 43 (.r (loadF (tt 42) 1 .sc)) [pp 42],
 qo 44 (.p (faddrF (tt 3) 2)) [pp 3],
 qo 45 (.r (loadF (tt 44) 1 .sc)) [pp 44],
 qo 46 (.c (callF (ff 62) [(tt 43),(tt 45)])) [pp 43,pp 45],
 mv 39 46,
 qo 47 (.p (extF (tt 39) 0)) [pp 39],
 qo 48 (.p (extF (tt 39) 1)) [pp 39],
 mv 8 47,
 mv 9 48] [0,1,3,7,0,16,63,127,255,255,511,2047]) (
 .seq (.reg [
 mv 49 6,
 mv 50 8,
 qo 51 (.p (eqcF false false [.int .u64] (tt 49) (tt 50))) [pp 49,pp 50],
 mv 52 51,
 mg 53 7 52 true,
 mg 54 9 52 true,
 qg 55 (.p (eqcF false false [.int .i64] (tt 53) (tt 54))) 52 true [pp 53,pp 54],
 qo 56 (.p (pickF (tt 52) (tt 55) (.c (.bool false)))) [pp 52,pp 55],
 mv 57 56,
 mg 58 5 57 true,
 qg 59 (.p (faddrF (tt 3) 2)) 57 true [pp 3],
 qg 60 (.r (loadF (tt 59) 1 .sc)) 57 true [pp 59],
 qg 61 (.c (callF (ff 63) [(tt 58),(tt 60)])) 57 true [pp 58,pp 60],
 qo 62 (.p (pickF (tt 57) (tt 61) (.c (.bool false)))) [pp 57,pp 61],
 mv 4 62]) (
 .ret)))))) (.seq (.reg [
 qo 64 (.p (eqcF false false [.int .i64] (tt 21) (ii 1))) [pp 21],
 mv 63 64]) (
 .cond (tt 63) (.seq (.regD [
 mv 66 0,
 qo 67 (.p (nilcF (tt 66))) [pp 66],
 qo 68 (.p (faddrF (tt 67) 2)) [pp 67],
 qo 69 (.r (loadF (tt 68) 1 .sc)) [pp 68],
 mv 70 0,
 qo 71 (.r (loadF (tt 3) 9 .ag)) [pp 3],
 qo 72 (.c (callF (ff 65) [(tt 70),(tt 71)])) [pp 70,pp 71],
 qo 73 (.c (callF (ff 64) [(tt 69),(tt 72)])) [pp 69,pp 72],
 mv 65 73,
 qo 74 (.p (extF (tt 65) 0)) [pp 65],
 qo 75 (.p (extF (tt 65) 1)) [pp 65],
 mv 10 74,
 mv 11 75] [0,1,3,7,0,0,48,127,255,511,511,1023,4095]) (
 .seq (.regD [
 mv 77 0,
 qo 78 (.p (nilcF (tt 77))) [pp 77],
 qo 79 (.p (faddrF (tt 78) 3)) [pp 78],
 qo 80 (.r (loadF (tt 79) 1 .sc)) [pp 79],
 mv 81 0,
 qo 82 (.r (loadF (tt 3) 9 .ag)) [pp 3],
 qo 83 (.c (callF (ff 65) [(tt 81),(tt 82)])) [pp 81,pp 82],
 qo 84 (.c (callF (ff 66) [(tt 80),(tt 83)])) [pp 80,pp 83],
 mv 76 84,
 qo 85 (.p (extF (tt 76) 0)) [pp 76],
 qo 86 (.p (extF (tt 76) 1)) [pp 76],
 mv 12 85,
 mv 13 86] [0,1,3,7,0,0,48,127,255,511,511,1023,4095]) (
 .seq (.reg [
 mv 87 10,
 mv 88 12,
 qo 89 (.c (callF (ff 63) [(tt 87),(tt 88)])) [pp 87,pp 88],
 mv 90 89,
 mg 91 11 90 true,
 mg 92 13 90 true,
 qg 93 (.p (eqcF false false [.int .i64] (tt 91) (tt 92))) 90 true [pp 91,pp 92],
 qo 94 (.p (pickF (tt 90) (tt 93) (.c (.bool false)))) [pp 90,pp 93],
 mv 4 94]) (
 .ret)))) (.skip))))))) (
 .seq (.reg [
 mv 95 0,
 qo 96 (.r (loadF (tt 3) 9 .ag)) [pp 3],
 qo 97 (.c (callF (ff 65) [(tt 95),(tt 96)])) [pp 95,pp 96],
 mv 14 97]) (
 .seq (.regD [
 mv 98 0,
 qo 99 (.p (nilcF (tt 98))) [pp 98],
 qo 100 (.p (faddrF (tt 99) 2)) [pp 99],
 qo 101 (.r (loadF (tt 100) 1 .sc)) [pp 100],
 mv 102 14,
 qo 103 (.c (callF (ff 67) [(tt 101),(tt 102)])) [pp 101,pp 102],
 mv 104 0,
 qo 105 (.p (nilcF (tt 104))) [pp 104],
 qo 106 (.p (faddrF (tt 105) 3)) [pp 105],
 qo 107 (.r (loadF (tt 106) 1 .sc)) [pp 106],
 mv 108 14,
 qo 109 (.c (callF (ff 68) [(tt 107),(tt 108)])) [pp 107,pp 108],
 qo 110 (.p (eqcF false false [.int .i64] (tt 103) (tt 109))) [pp 103,pp 109],
 mv 4 110] [0,1,3,7,0,31,0,64,192,448,0,2047,4095,8191]) (
 .ret)))))⟩
theorem c13_eq:fnOf Tryz.prog 13=some c13:=by kernel_rfl
noncomputable def ansE (B:Bn) (R first:Nat) (N:List Nt) (q:Nat) (c:Int):Int:=if q < first∨first+N.length≤q then 7 else recC B R (N.getD (q - first) ⟨0,0,0,0⟩) c
noncomputable def ansL (B:Bn) (R first:Nat) (N:List Nt) (q:Nat) (c:Int):List Cl:=if q < first∨first+N.length≤q then [] else if recC B R (N.getD (q - first) ⟨0,0,0,0⟩) c≠0 then [] else getL (recR B R (N.getD (q - first) ⟨0,0,0,0⟩).pos (recS (N.getD (q - first) ⟨0,0,0,0⟩).cells)) (N.getD (q - first) ⟨0,0,0,0⟩).cells
theorem rec_ans {G G':Heap} {v:V} {B:Bn} {R first:Nat} {N:List Nt} {q:Nat} {c:Int} (h:((q < first∨first+N.length≤q)∧v=.tuple [.slice none 0 0 0,.int .i64 7])∨(∃(i:Nat) (hi:i < N.length),first+i=q∧((recC B R N[i] c≠0∧v=.tuple [.slice none 0 0 0,.int .i64 (recC B R N[i] c)])∨(recC B R N[i] c=0∧∃ y,v=.tuple [y,.int .i64 0]∧Lst G G' 66 (rowsC (getL (recR B R N[i].pos (recS N[i].cells)) N[i].cells)) y)))):∃ y,v=.tuple [y,.int .i64 (ansE B R first N q c)]∧Lst G G' 66 (rowsC (ansL B R first N q c)) y:=by
 unfold ansE ansL
 rcases h with ⟨h,rfl⟩ | ⟨i,hi,rfl,h⟩
 ·rw[if_pos h,if_pos h]
  exact⟨_,rfl,Lst.nil _ _ _⟩
 ·have hn:¬ (first+i < first∨first+N.length≤first+i):=by omega
  have hg:N.getD (first+i - first) ⟨0,0,0,0⟩=N[i]:=by rw[Nat.add_sub_cancel_left,List.getD_eq_getElem?_getD,List.getElem?_eq_getElem hi];rfl
  rw[if_neg hn,if_neg hn,hg]
  rcases h with ⟨h,rfl⟩ | ⟨h,y,rfl,hy⟩
  ·rw[if_pos h]
   exact⟨_,rfl,Lst.nil _ _ _⟩
  ·rw[if_neg (fun e=>e h),h]
   exact⟨y,rfl,hy⟩
theorem ansL_len (B:Bn) (R first:Nat) (N:List Nt) (q:Nat) (c:Int) (h:∀ n ∈ N,n.cells≤32):(ansL B R first N q c).length≤32:=by
 unfold ansL
 split
 ·exact Nat.zero_le _
 ·split
  ·exact Nat.zero_le _
  ·unfold getL
   rw[List.length_map,List.length_range,List.getD_eq_getElem?_getD]
   cases e:N[q - first]? with
   | none=>exact Nat.zero_le _
   | some x=>exact h x (List.mem_of_getElem? e)
abbrev actR (dO d:Int) (cv:V) (N:Nat) (near:Bool) (size at':Int) (by':Nat) (pv:V):List V:=[.int .i64 dO,.int .i64 d,cv,.int .u64 (N:Int),.bool near,.int .i64 size,.int .i64 at',.int .u8 (by':Int),pv]
section
variable {lf K:Nat} (hlf:1000 < lf)
include hlf
theorem dnumber {G:Heap} {p b r m:Bk} {lv':Option Ptr} (hd:G.get p=some (.rows false 4 [desk4 b r (.ptr lv') (.ptr (some ⟨m,0⟩))])) (po:G.Old p) {id R cnt first tail:Nat} {N:List Nt} {mv:V} (k:DLogAt G m r id R cnt first tail N mv) (h1:1≤first) {dO d:Int} {cv:V} {q:Nat} {size at':Int} {by':Nat} {pv:V} (hw:width (actR dO d cv q true size at' by' pv)=9) (k4:cut (actR dO d cv q true size at' by' pv) 4 1=some [.bool true]) (k3:cut (actR dO d cv q true size at' by' pv) 3 1=some [.int .u64 (q:Int)]) (n:Nat):ret (U lf K (n+1) 65 [.ptr (some ⟨p,0⟩),.agg (actR dO d cv q true size at' by' pv)] G) fun v G'=>v=.int .u64 ((first+q % 11 - 1:Nat):Int)∧Turns Z G G':=by
 have c3:cut (desk4 b r (.ptr lv') (.ptr (some ⟨m,0⟩))) 3 1=some [.ptr (some ⟨m,0⟩)]:=rfl
 have d5:cut (dcells r id R cnt first tail mv) 5 1=some [.int .u64 (first:Int)]:=rfl
 have hfn:=k.fn
 have eq:arith .rem (.int .u64 (q:Int)) (.int .u64 11)=some (.int .u64 ((q % 11:Nat):Int)):=rem_u64 q 11 (by decide)
 have hq:q % 11 < 11:=Nat.mod_lt _ (by decide)
 generalize actR dO d cv q true size at' by' pv=row at *
 generalize q % 11=z at *
 have t1:=Turns.add Z G (.rows false 9 [row])
 have g1:(G.add (.rows false 9 [row])).get (.run G.next)=some (.rows false 9 [row]):=by rw[Heap.get_add,if_pos rfl]
 obtain⟨p1,hp1⟩:∃ x,x=G.next:=⟨_,rfl⟩
 rw[← hp1] at g1
 obtain⟨G1,hG1⟩:∃ X,G.add (.rows false 9 [row])=X:=⟨_,rfl⟩
 rw[hG1] at t1 g1
 have hd1:=(t1.same p po (fun h=>h)).trans hd
 have hm:=(k.turns t1).ex.1
 refine ret_callU rfl rfl c65_eq ?_
 simp (maxDischargeDepth:=12) (disch:=omega) only[c65,hw,← hp1,hG1,g1,k3,k4,hd1,c3,hm,d5,eq,om,hv,ldO_one,stO_one,sy,tup,↓reduceIte,zA,zG,zC,zD,zF,zE,zB,zH,reduceCtorEq]
 rw[endD_ok (by kernel_rfl) (by kernel_rfl)]
 simp (maxDischargeDepth:=12) (disch:=omega) only[om,hv,ldO_one,stO_one,sy,tup,↓reduceIte,zA,zG,zC,zD,zF,zE,zB,zH,reduceCtorEq]
 exact⟨trivial,.inr trivial,_,rfl,by rw[show ((first+z - 1:Nat):Int)=(first:Int)+z - 1 by omega],t1⟩
abbrev act1 (i:Nat):List V:=actR 1 0 (.slice none 0 0 0) i true 0 0 0 (.slice none 0 0 0)
theorem donlog_nil {G:Heap} {p b r:Bk} {x:V} (hd:G.get p=some (.rows false 4 [desk4 b r (.ptr none) (.ptr none)])) (po:G.Old p) (i n:Nat):ret (U lf K (n+1) 13 [.ptr (some ⟨p,0⟩),.agg (act1 i)] G) fun v G'=>v=.bool true∧Turns Z G G':=by
 have hw:width (act1 i)=9:=rfl
 have c3:cut (desk4 b r (.ptr none) (.ptr none)) 3 1=some [.ptr none]:=rfl
 generalize act1 i=row at *
 have t1:=Turns.add Z G (.rows false 9 [row])
 obtain⟨G1,hG1⟩:∃ X,G.add (.rows false 9 [row])=X:=⟨_,rfl⟩
 rw[hG1] at t1
 have hd1:=(t1.same p po (fun h=>h)).trans hd
 refine ret_callU rfl rfl c13_eq ?_
 simp (maxDischargeDepth:=12) (disch:=omega) only[c13,hw,hG1,hd1,c3,om,hv,ldO_one,stO_one,sy,tup,↓reduceIte,zA,zG,zC,zD,zF,zE,zB,zH,reduceCtorEq]
 exact⟨trivial,.inr trivial,_,rfl,rfl,t1⟩
theorem donlog {G:Heap} {p b r l m:Bk} (hd:G.get p=some (.rows false 4 [desk4 b r (.ptr (some ⟨l,0⟩)) (.ptr (some ⟨m,0⟩))])) (po:G.Old p) {id R cnt cnt' first tail head:Nat} {N:List Nt} {lv mv:V} (h:LogAt G l b id R cnt first tail head N lv) (k:DLogAt G m r id R cnt' first tail N mv) (h1:1≤first) {B:Bn} (hf:Fit B) (bo:G.Old b) (hb:G.get b=some (bx false B)) (ro:G.Old r) (hr:G.get r=some (bx true B)) (hnt:∀ i (hi:i < N.length),(1≤N[i].cells∧N[i].cells≤32)∧N[i].sum < 4294967296∧recS N[i].cells≤R∧N[i].pos+recS N[i].cells≤4611686018427387904) {i:Nat} (hi:i < 18446744073709551616) {c:Int} (hrc:∀ i (hi:i < N.length),∀ j,j < recS N[i].cells→B.rc 0 (((N[i].pos+j) % R+10:Nat):Int)=c) (n:Nat):ret (U lf K (n+5) 13 [.ptr (some ⟨p,0⟩),.agg (act1 i)] G) fun v G'=>v=.bool true∧Turns Z G G':=by
 have hfn:=h.fn
 have hw:width (act1 i)=9:=rfl
 have k0:cut (act1 i) 0 1=some [.int .i64 1]:=rfl
 have k3:cut (act1 i) 3 1=some [.int .u64 (i:Int)]:=rfl
 have k4:cut (act1 i) 4 1=some [.bool true]:=rfl
 have k9:cut (act1 i) 0 9=some (act1 i):=rfl
 have c2:cut (desk4 b r (.ptr (some ⟨l,0⟩)) (.ptr (some ⟨m,0⟩))) 2 1=some [.ptr (some ⟨l,0⟩)]:=rfl
 have c3:cut (desk4 b r (.ptr (some ⟨l,0⟩)) (.ptr (some ⟨m,0⟩))) 3 1=some [.ptr (some ⟨m,0⟩)]:=rfl
 have hnum:=fun {J:Heap} (hJ:J.get p=some (.rows false 4 [desk4 b r (.ptr (some ⟨l,0⟩)) (.ptr (some ⟨m,0⟩))])) (oJ:J.Old p) (kJ:DLogAt J m r id R cnt' first tail N mv)=>dnumber hlf (K:=K) (G:=J) hJ oJ kJ h1 hw k4 k3 (n+3)
 change ∀ {J:Heap},_→_→_→ret (U lf K (n+3+1) 65 [.ptr (some ⟨p,0⟩),.agg (act1 i)] J) _ at hnum
 obtain⟨q,hq⟩:∃ q,q=first+i % 11 - 1:=⟨_,rfl⟩
 have hq64:q < 18446744073709551616:=by have:=Nat.mod_lt i (show 11 > 0 by decide);omega
 rw[← hq] at hnum
 generalize act1 i=row at *
 have t1:=Turns.add Z G (.rows false 9 [row])
 have g1:(G.add (.rows false 9 [row])).get (.run G.next)=some (.rows false 9 [row]):=by rw[Heap.get_add,if_pos rfl]
 obtain⟨p1,hp1⟩:∃ x,x=G.next:=⟨_,rfl⟩
 rw[← hp1] at g1
 obtain⟨G1,hG1⟩:∃ X,G.add (.rows false 9 [row])=X:=⟨_,rfl⟩
 have n1:G1.next=p1+1:=by rw[← hG1,hp1];rfl
 rw[hG1] at t1 g1
 have o1:G1.Old (.run p1):=by show _ < _;omega
 have hdt:=fun {J:Heap} (t:Turns Z G J)=>(t.same p po (fun h=>h)).trans hd
 obtain⟨v2,G2,e2,rfl,t2⟩:=hnum (hdt t1) (po.mono t1.next) (k.turns t1)
 have t12:=t1.trans t2
 obtain⟨v3,G3,e3,t3,h3⟩:=ulrecord hlf (K:=K) (h.turns t12) (bo.mono t12.next) ((t12.same b bo (fun h=>h)).trans hb) hf hq64 hnt (c:=c) (fun i hi _=>hrc i hi) n
 obtain⟨y3,rfl,l3⟩:=rec_ans h3
 have t13:=t12.trans t3
 have hQ1:∀ x ∈ [lq 68 ⟨p,2⟩ (.ptr (some ⟨l,0⟩)) G1,lq 68 ⟨p,2⟩ (.ptr (some ⟨l,0⟩)) G2],x.1=x.2:=by
  have d1:=hdt t1
  have d2:=hdt t12
  intro x hx
  simp only[List.mem_cons,List.not_mem_nil,or_false] at hx
  rcases hx with rfl | rfl<;>refine lq_ok ?_ rfl<;>simp (maxDischargeDepth:=12) (disch:=omega) only[d1,d2,c2,om,hv,ldO_one,stO_one,sy,tup,↓reduceIte,zA,zG,zC,zD,zF,zE,zB,zH,reduceCtorEq]
 obtain⟨G4,hG4⟩:∃ X,G3.owe [lq 68 ⟨p,2⟩ (.ptr (some ⟨l,0⟩)) G1,lq 68 ⟨p,2⟩ (.ptr (some ⟨l,0⟩)) G2]=X:=⟨_,rfl⟩
 have t4:Turns Z G G4:=by rw[← hG4];exact t13.owe hQ1
 have t24:Turns Z G2 G4:=by rw[← hG4];exact t3.owe hQ1
 have t14:Turns Z G1 G4:=t2.trans t24
 have g4:=(t14.same (.run p1) o1 (fun h=>h)).trans g1
 have l4:Lst G2 G4 66 (rowsC (ansL B R first N q c)) y3:=by rw[← hG4];exact l3.turns (Turns.owe (Turns.refl Z G3) hQ1) (fun _ _ h=>h)
 obtain⟨v5,G5,e5,rfl,t5⟩:=hnum (hdt t4) (po.mono t4.next) (k.turns t4)
 have t45:=t4.trans t5
 obtain⟨v6,G6,e6,t6,h6⟩:=dlrecord hlf (K:=K) (k.turns t45) (ro.mono t45.next) ((t45.same r ro (fun h=>h)).trans hr) hf hq64 hnt (c:=c) (fun i hi _=>hrc i hi) n
 obtain⟨y6,rfl,l6⟩:=rec_ans h6
 have hQ2:∀ x ∈ [lq 79 ⟨p,3⟩ (.ptr (some ⟨m,0⟩)) G4,lq 79 ⟨p,3⟩ (.ptr (some ⟨m,0⟩)) G5],x.1=x.2:=by
  have d1:=hdt t4
  have d2:=hdt t45
  intro x hx
  simp only[List.mem_cons,List.not_mem_nil,or_false] at hx
  rcases hx with rfl | rfl<;>refine lq_ok ?_ rfl<;>simp (maxDischargeDepth:=12) (disch:=omega) only[d1,d2,c3,om,hv,ldO_one,stO_one,sy,tup,↓reduceIte,zA,zG,zC,zD,zF,zE,zB,zH,reduceCtorEq]
 obtain⟨G7,hG7⟩:∃ X,G6.owe [lq 79 ⟨p,3⟩ (.ptr (some ⟨m,0⟩)) G4,lq 79 ⟨p,3⟩ (.ptr (some ⟨m,0⟩)) G5]=X:=⟨_,rfl⟩
 have t57:Turns Z G5 G7:=by rw[← hG7];exact t6.owe hQ2
 have l7:Lst G5 G7 66 (rowsC (ansL B R first N q c)) y6:=by rw[← hG7];exact l6.turns (Turns.owe (Turns.refl Z G6) hQ2) (fun _ _ h=>h)
 have l7':=l4.turns (t5.trans t57) (fun _ _ h=>h)
 have hll:=ansL_len B R first N q c (fun x hx=>(k.nc x hx).2)
 have eC:=ucells hlf (K:=K) (cls_lst l7') (cls_lst l7) (by omega) (by omega) (n+3)
 generalize ansE B R first N q c=E at *
 have hm1:=hdt t1
 have hm4:=hdt t4
 have t47:=t5.trans t57
 change U lf K (n+4) _ _ _=_ at e2 e3 e5 e6 eC
 refine ret_callU rfl rfl c13_eq ?_
 simp (maxDischargeDepth:=12) (disch:=omega) only[c13,hw,← hp1,hG1,g1,k0,k9,hm1,c2,c3,e2,e3,om,hv,ldO_one,stO_one,sy,tup,↓reduceIte,zA,zG,zC,zD,zF,zE,zB,zH,reduceCtorEq]
 rw[endD_q (q:=[lq 68 ⟨p,2⟩ (.ptr (some ⟨l,0⟩)) G1,lq 68 ⟨p,2⟩ (.ptr (some ⟨l,0⟩)) G2]) (by kernel_rfl) (by kernel_rfl),hG4]
 simp (maxDischargeDepth:=12) (disch:=omega) only[hm4,c3,g4,k9,e5,e6,om,hv,ldO_one,stO_one,sy,tup,↓reduceIte,zA,zG,zC,zD,zF,zE,zB,zH,reduceCtorEq]
 rw[endD_q (q:=[lq 79 ⟨p,3⟩ (.ptr (some ⟨m,0⟩)) G4,lq 79 ⟨p,3⟩ (.ptr (some ⟨m,0⟩)) G5]) (by kernel_rfl) (by kernel_rfl),hG7]
 simp (maxDischargeDepth:=12) (disch:=omega) only[eC,om,hv,ldO_one,stO_one,sy,tup,↓reduceIte,zA,zG,zC,zD,zF,zE,zB,zH,reduceCtorEq]
 exact⟨trivial,.inr trivial,_,rfl,rfl,t4.trans t47⟩
end
end Go.Proofs.YtllkepkaimnodaaGreatDoor.draft
namespace Go.Proofs.YtllkepkaimnodaaGreatDoor.disk
open Go.Am
structure SmallD (D:Dev):Prop where
 s:Small D.S
 l:SmallL D.L
def SmallB (B:Bn):Prop:=∀ D ∈ B.l,SmallD D
theorem SmallB.new (P:List Int):SmallB (newB P):=fun D hD=>by
 obtain⟨n,_,rfl⟩:=List.mem_map.1 hD
 refine⟨fun x hx=>?_,fun w hw=>by cases hw⟩
 rw[(List.mem_replicate.1 hx).2]
 exact Nat.pow_pos (by decide)
theorem SmallB.set {B:Bn} (h:SmallB B) (d:Int) {D:Dev} (hD:SmallD D) {st ar:Int} {dk:Bool}:SmallB ⟨B.l.set d.toNat D,st,ar,dk⟩:=fun E hE=>by
 rcases List.mem_or_eq_of_mem_set hE with hE | rfl
 ·exact h E hE
 ·exact hD
theorem SmallB.step {B:Bn} (h:SmallB B) (d:Int) {D:Dev} (hD:SmallD D):SmallB (B.step d D):=by
 unfold Bn.step
 split
 ·exact h
 ·exact h.set d hD
theorem SmallB.write {B:Bn} (h:SmallB B) (d n:Int) {x:Nat} (hx:x < 256 ^ 64):SmallB (B.write d n x):=by
 unfold Bn.write
 split
 ·rename_i hc
  have hd:=h _ (tc_dev (lc_tc (rc_lc hc)))
  refine h.step d ?_
  unfold Dev.write
  split
  ·refine⟨hd.s,fun w hw=>?_⟩
   rcases List.mem_append.1 hw with hw | hw
   ·exact hd.l w hw
   ·rw[List.mem_singleton.1 hw];exact hx
  ·exact hd
 ·exact h
theorem SmallB.flush {B:Bn} (h:SmallB B) (d:Int):SmallB (B.flush d):=by
 unfold Bn.flush
 split
 ·rename_i hc
  have hd:=h _ (tc_dev (lc_tc (rc_lc hc)))
  refine h.step d ?_
  unfold Dev.flush
  split
  ·exact hd
  ·exact⟨Small.flush hd.s hd.l,fun w hw=>absurd hw (List.not_mem_nil)⟩
 ·exact h
theorem SmallB.read {B:Bn} (h:SmallB B) (hg:∀ D ∈ B.l,Good D) (d n:Int):B.read d n < 256 ^ 64:=by
 have h0:0 < 256 ^ 64:=Nat.pow_pos (by decide)
 unfold Bn.read
 split
 ·rename_i hc
  have hm:=tc_dev (lc_tc hc)
  have hd:=h _ hm
  unfold Dev.read
  split
  ·rw[read_flush (hg _ hm).ok]
   exact(Small.flush hd.s hd.l).getD _
  ·exact h0
 ·exact h0
end Go.Proofs.YtllkepkaimnodaaGreatDoor.disk
namespace Go.Proofs.YtllkepkaimnodaaGreatDoor.draft
open Go.Am
open disk (Bn SmallB newB)
theorem blkOf_lt {N:Nat} {l:List Nat} (h:∀ x ∈ l,x < 256):blkOf N l < 256 ^ 64:=fillN_lt (fun i=>getD_lt (l:=rowOf N l) (row_lt h) i) 64 (Nat.le_refl _)
structure TB (s k:Nat) (B:Bn):Prop where
 rm:Rm k B
 sm:SmallB B
 sec:B.sectors 0=(s:Int)
 len:B.l.length=2
 nd:B.ar=0∧B.dk=false
 al:(B.dev 0).dead=false
theorem TB.mono {s k j:Nat} {B:Bn} (h:TB s k B) (hj:j≤k):TB s j B:=⟨h.rm.mono hj,h.sm,h.sec,h.len,h.nd,h.al⟩
theorem TB.tc {s k:Nat} {B:Bn} (h:TB s k B):B.tc 0=0:=by unfold disk.Bn.tc disk.tcode;rw[h.len];rfl
theorem TB.rc {s k:Nat} {B:Bn} (h:TB s k B) {j:Nat} (hj:j < s):B.rc 0 (j:Int)=0:=by
 have h1:=h.sec
 unfold disk.Bn.sectors at h1
 rw[if_pos h.tc] at h1
 unfold disk.Bn.rc disk.Bn.lc
 rw[h.nd.2,h.tc,if_pos (if_neg (by decide))]
 unfold disk.code
 rw[if_neg (by omega),h.al,if_neg (by decide)]
theorem TB.read {s k:Nat} {B:Bn} (h:TB s k B) (n:Int):B.read 0 n < 256 ^ 64:=h.sm.read h.rm.fit.good 0 n
theorem TB.write {s k:Nat} {B:Bn} (h:TB s (k+1) B) (n:Int) {x:Nat} (hx:x < 256 ^ 64):TB s k (B.write 0 n x):=by
 obtain⟨h1,h2,h3⟩:=disk.same_write B 0 n x
 refine⟨h.rm.write 0 n x,h.sm.write 0 n hx,(h2 0).trans h.sec,h1.trans h.len,h3 h.nd.1 h.nd.2,?_⟩
 unfold disk.Bn.write
 split
 ·unfold disk.Bn.step
  split
  ·exact h.al
  ·unfold disk.Bn.dev disk.Dev.write
   show ((B.l.set 0 _).getD 0 _).dead=false
   have hl:=h.len
   rw[List.getD_eq_getElem?_getD,List.getElem?_set_self (by omega)]
   split
   ·exact h.al
   ·exact h.al
 ·exact h.al
theorem TB.new {s:Nat} (hs:1≤s∧s≤320):TB s 900 (newB [(s:Int),12]):=by
 have hne:∀ n:Nat,1≤n→List.replicate n 0≠[]:=fun n hn e=>by
  have:=congrArg List.length e
  rw[List.length_replicate] at this
  simp at this;omega
 refine⟨⟨by simp[newB],by simp[newB],fun D hD=>?_,by simp[newB],by simp[newB]⟩,SmallB.new _,?_,rfl,⟨rfl,rfl⟩,rfl⟩
 ·unfold newB disk.blank at hD
  simp at hD
  rcases hD with rfl | rfl
  ·exact⟨hne s hs.1,by simp,by simp;omega,by simp⟩
  ·exact⟨hne 12 (by decide),by simp,by simp,by simp⟩
 ·unfold disk.Bn.sectors
  rw[if_pos (by rfl)]
  show (((List.replicate (s:Int).toNat 0).length:Nat):Int)=_
  rw[List.length_replicate,Int.toNat_natCast]
theorem TB.okSizes {s:Nat} (hs:1≤s∧s≤320):disk.okSizes [(s:Int),12]:=by
 refine⟨by simp,by simp,fun x hx=>?_⟩
 simp at hx
 rcases hx with rfl | rfl<;>omega
end Go.Proofs.YtllkepkaimnodaaGreatDoor.draft
namespace Go.Proofs.YtllkepkaimnodaaGreatDoor.draft
open Go.Am
open disk (bx Fit A1 R1 Low Bn)
noncomputable def c7:CFn:=⟨[.cell (pp 2) 64 .bk],
 .seq (.reg [
 qo 1 (.m (boxF 75 (tt 0))) [pp 0],
 qo 2 (.m (allocF 64 [.blk 0])) []]) (
 .seq (.reg [
 qo 4 (.p (faddrF (tt 1) 2)) [pp 1],
 qo 5 (.r (loadF (tt 4) 64 .bk)) [pp 4],
 qo 3 (.m (allocF 64 [.blk 0])) [],
 qn (.a (storeF (tt 3) (tt 5) 64)) [pp 3,pp 5]]) (
 .seq (.seq (.reg [
 qo 6 (.p (faddrF (tt 1) 0)) [pp 1],
 qo 7 (.r (loadF (tt 6) 1 .sc)) [pp 6],
 qo 8 (.p (eqcF false false [.int .i64] (tt 7) (ii 1))) [pp 7]]) (
 .cond (tt 8) (.reg [
 qo 10 (.p (faddrF (tt 1) 66)) [pp 1],
 qo 11 (.r (loadF (tt 10) 1 .sc)) [pp 10],
 qo 12 (.p (faddrF (tt 1) 67)) [pp 1],
 qo 13 (.r (loadF (tt 12) 4 .ag)) [pp 12],
 qo 14 (.c (callF (ff 28) [(tt 11),(tt 13)])) [pp 11,pp 13],
 mv 9 14,
 qo 15 (.p (extF (tt 9) 0)) [pp 9],
 qo 16 (.p (extF (tt 9) 1)) [pp 9],
 qn (.a (storeF (tt 3) (tt 15) 64)) [pp 3,pp 15]]) (.skip))) (
 .seq (.seq (.reg [
 qo 17 (.p (faddrF (tt 1) 0)) [pp 1],
 qo 18 (.r (loadF (tt 17) 1 .sc)) [pp 17],
 qo 19 (.p (eqcF false false [.int .i64] (tt 18) (ii 2))) [pp 18]]) (
 .cond (tt 19) (.reg [
 qo 21 (.p (faddrF (tt 1) 71)) [pp 1],
 qo 22 (.r (loadF (tt 21) 4 .ag)) [pp 21],
 qo 23 (.c (callF (ff 29) [(tt 22)])) [pp 22],
 mv 20 23,
 qo 24 (.p (extF (tt 20) 0)) [pp 20],
 qo 25 (.p (extF (tt 20) 1)) [pp 20],
 qn (.a (storeF (tt 3) (tt 24) 64)) [pp 3,pp 24]]) (.skip))) (
 .seq (.reg [
 qo 26 (.r (loadF (tt 3) 64 .bk)) [pp 3],
 qn (.a (storeF (tt 2) (tt 26) 64)) [pp 2,pp 26]]) (
 .ret)))))⟩
theorem c7_eq:fnOf Tryz.prog 7=some c7:=by kernel_rfl
noncomputable def c6:CFn:=⟨[.tmp (pp 2),.tmp (pp 3),.tmp (pp 4)],
 .seq (.reg [
 qo 2 (.p (S.get (.c (.ptr none)))) [],
 qo 3 (.p (S.get (.c (.ptr none)))) [],
 qo 4 (.p (S.get (.c (.bool false)))) []]) (
 .seq (.reg [
 mv 10 0,
 qo 11 (.m (bsliceF 2 1 [.int .i64 0] [(0,1,(tt 10)),(1,1,(ii 12))])) [pp 10],
 qo 12 (.c (callF (ff 26) [(tt 11)])) [pp 11],
 mv 9 12,
 qo 13 (.p (extF (tt 9) 0)) [pp 9],
 qo 14 (.p (extF (tt 9) 1)) [pp 9],
 mv 5 13,
 mv 6 14]) (
 .seq (.reg [
 mv 16 0,
 qo 17 (.m (bsliceF 2 1 [.int .i64 0] [(0,1,(tt 16)),(1,1,(ii 12))])) [pp 16],
 qo 18 (.c (callF (ff 27) [(tt 17)])) [pp 17],
 mv 15 18,
 qo 19 (.p (extF (tt 15) 0)) [pp 15],
 qo 20 (.p (extF (tt 15) 1)) [pp 15],
 mv 7 19,
 mv 8 20]) (
 .seq (.reg [
 mv 21 5,
 mv 22 7,
 mv 23 6,
 qo 24 (.p (eqcF false false [.int .i64] (tt 23) (ii 0))) [pp 23],
 mv 25 24,
 mg 26 8 25 true,
 qg 27 (.p (eqcF false false [.int .i64] (tt 26) (ii 0))) 25 true [pp 26],
 qo 28 (.p (pickF (tt 25) (tt 27) (.c (.bool false)))) [pp 25,pp 27],
 mv 2 21,
 mv 3 22,
 mv 4 28]) (
 .ret))))⟩
theorem c6_eq:fnOf Tryz.prog 6=some c6:=by kernel_rfl
structure Spt where
 kd:Int
 n:Int
 x:Nat
 c:Nat
 id:Nat
 R:Int
 f:Nat
 p:Nat
 sq:Nat
 ps:Nat
 cl:Int
 sm:Nat
abbrev Spt.row (s:Spt):List V:=[.int .i64 s.kd,.int .i64 s.n,.blk s.x,.int .u64 (s.c:Int),.int .u64 (s.id:Int),.int .i64 s.R,.int .u64 (s.f:Int),.int .u64 (s.p:Int),.int .u64 (s.sq:Int),.int .u64 (s.ps:Int),.int .i64 s.cl,.int .u32 (s.sm:Int)]
structure Spt.ok (s:Spt):Prop where
 x:s.x < 256 ^ 64
 c:s.c < 18446744073709551616
 id:s.id < 18446744073709551616
 f:s.f < 18446744073709551616
 p:s.p < 18446744073709551616
 sq:s.sq < 18446744073709551616
 ps:s.ps < 18446744073709551616
 sm:s.sm < 4294967296
noncomputable def Spt.blk (s:Spt):Nat:=if s.kd=1 then dmPut s.c s.id s.R s.f s.p else if s.kd=2 then dnPut s.sq s.ps s.cl s.sm else s.x
theorem Spt.blk_lt {lf:Nat} (hlf:1000 < lf) {s:Spt} (h:s.ok):s.blk < 256 ^ 64:=by
 have h0:0 < 256 ^ 64:=Nat.pow_pos (by decide)
 unfold Spt.blk
 split
 ·unfold dmPut
  split
  ·exact blkOf_lt (markL_lt hlf _ _ _ _ 4)
  ·exact h0
 ·split
  ·unfold dnPut
   split
   ·exact blkOf_lt (noteL_lt hlf _)
   ·exact h0
  ·exact h.x
section
variable {lf K:Nat} (hlf:1000 < lf)
include hlf
theorem dspot (G:Heap) {s:Spt} (h:s.ok) (n:Nat):ret (U lf K (n+2) 7 [.agg s.row] G) fun v G'=>v=.blk s.blk∧Turns Z G G':=by
 have eM:=fun G=>qp_ashlarref09_Put (lf:=lf) (K:=K) (w:=n) (G:=G) (fun H=>dmput hlf H s.R h.c h.id h.f h.p 54)
 have eN:=fun G=>qp_ashlarref13_Put (lf:=lf) (K:=K) (w:=n) (G:=G) (fun H=>dnput hlf H s.cl h.sq h.ps h.sm 54)
 have hb:s.blk=if s.kd=1 then dmPut s.c s.id s.R s.f s.p else if s.kd=2 then dnPut s.sq s.ps s.cl s.sm else s.x:=rfl
 rw[hb]
 generalize dmPut s.c s.id s.R s.f s.p=bm at *
 generalize dmPutC s.c s.id s.R s.f s.p=cm at *
 generalize dnPut s.sq s.ps s.cl s.sm=bn at *
 generalize dnPutC s.sq s.ps s.cl=cn at *
 have w75:width s.row=75:=rfl
 have k0:cut s.row 0 1=some [.int .i64 s.kd]:=rfl
 have k2:cut s.row 2 64=some [.blk s.x]:=rfl
 have k66:cut s.row 66 1=some [.int .u64 (s.c:Int)]:=rfl
 have k67:cut s.row 67 4=some (mkW s.id s.R s.f s.p):=rfl
 have k71:cut s.row 71 4=some (ntW s.sq s.ps s.cl s.sm):=rfl
 obtain⟨row,hrow⟩:∃ r,r=s.row:=⟨_,rfl⟩
 have hz:Obj.rows false 75 [s.row]=.rows false 75 [row]:=by rw[hrow]
 have hrw:V.agg s.row=.agg row:=by rw[hrow]
 rw[← hrow] at w75 k0 k2 k66 k67 k71
 rw[hrw]
 refine ret_callU rfl rfl c7_eq ?_
 by_cases h1:s.kd=1
 ·rw[if_pos h1]
  simp (maxDischargeDepth:=12) (disch:=omega) only[c7,w75,k0,k2,k66,k67,eM,Dh,om,hv,ldO_one,stO_one,sy,tup,↓reduceIte,zA,zG,zC,zD,zF,zE,zB,zH,reduceCtorEq]
  exact⟨trivial,.inr trivial,_,rfl,rfl,by repeat (first | exact Turns.refl _ _ | apply Turns.skip | apply Turns.addm | apply Turns.setb | apply Turns.setl | apply Turns.setr | refine Turns.setn ?_ _ (by omega) _ | refine Turns.trans ?_ (tF _))⟩
 rw[if_neg h1]
 by_cases h2:s.kd=2
 ·rw[if_pos h2]
  simp (maxDischargeDepth:=12) (disch:=omega) only[c7,w75,k0,k2,k71,eN,Dh,om,hv,ldO_one,stO_one,sy,tup,↓reduceIte,zA,zG,zC,zD,zF,zE,zB,zH,reduceCtorEq]
  exact⟨trivial,.inr trivial,_,rfl,rfl,by repeat (first | exact Turns.refl _ _ | apply Turns.skip | apply Turns.addm | apply Turns.setb | apply Turns.setl | apply Turns.setr | refine Turns.setn ?_ _ (by omega) _ | refine Turns.trans ?_ (tF _))⟩
 rw[if_neg h2]
 simp (maxDischargeDepth:=12) (disch:=omega) only[c7,w75,k0,k2,Dh,om,hv,ldO_one,stO_one,sy,tup,↓reduceIte,zA,zG,zC,zD,zF,zE,zB,zH,reduceCtorEq]
 exact⟨trivial,.inr trivial,_,rfl,rfl,by repeat (first | exact Turns.refl _ _ | apply Turns.skip | apply Turns.addm | apply Turns.setb | apply Turns.setl | apply Turns.setr | refine Turns.setn ?_ _ (by omega) _ | refine Turns.trans ?_ (tF _))⟩
theorem dtable (G:Heap) {s:Nat} (hs:1≤s∧s≤320) (n:Nat):ret (U lf K (n+2) 6 [.int .i64 (s:Int)] G) fun v G'=>∃ b r,v=.tuple [.ptr (some ⟨b,0⟩),.ptr (some ⟨r,0⟩),.bool true]∧G'.get b=some (bx false (disk.newB [(s:Int),12]))∧G'.get r=some (bx true (disk.newB [(s:Int),12]))∧¬ G.Old b∧¬ G.Old r∧G'.Old b∧G'.Old r∧b≠r∧Turns Z G G':=by
 have hok:=TB.okSizes hs
 have hP:∀ {J:Heap} {q:Nat},J.get (.run q)=some (.rows false 1 [[.int .i64 (s:Int)],[.int .i64 12]])→q < J.next→disk.PicksAt J (some ⟨.run q,0⟩) [(s:Int),12] disk.Z:=fun {J q} h1 h2=>⟨fun _=>⟨.run q,0,false,_,rfl,h2,(fun h=>h),h1,fun i hi=>by
  have:i=0∨i=1:=by simp at hi;omega
  rcases this with rfl | rfl<;>rfl⟩⟩
 have g1:(G.add (.rows false 1 [[.int .i64 (s:Int)],[.int .i64 12]])).get (.run G.next)=some (.rows false 1 [[.int .i64 (s:Int)],[.int .i64 12]]):=by rw[Heap.get_add,if_pos rfl]
 have t1:=Turns.add Z G (.rows false 1 [[.int .i64 (s:Int)],[.int .i64 12]])
 obtain⟨G1,hG1⟩:∃ X,G.add (.rows false 1 [[.int .i64 (s:Int)],[.int .i64 12]])=X:=⟨_,rfl⟩
 have n1:G1.next=G.next+1:=by rw[← hG1];rfl
 rw[hG1] at g1 t1
 have e1:U lf K (n+1) 26 [.slice (some ⟨.run G.next,0⟩) 2 2 0] G1=_:=qNew (lf:=lf) (K:=K) (w:=n) (hP g1 (by omega)) hok 2 0
 obtain⟨bB,hbB⟩:∃ x,x=disk.newB [(s:Int),12]:=⟨_,rfl⟩
 rw[← hbB] at e1 ⊢
 have t2:Turns Z G1 ((G1.add (bx false bB)).skip (K+1)):=by repeat (first | exact Turns.refl _ _ | apply Turns.skip | apply Turns.addm | apply Turns.setb | apply Turns.setl | apply Turns.setr | refine Turns.setn ?_ _ (by omega) _ | refine Turns.trans ?_ (tF _))
 have gb2:((G1.add (bx false bB)).skip (K+1)).get (.run G1.next)=some (bx false bB):=by rw[get_skip,Heap.get_add,if_pos rfl]
 obtain⟨G2,hG2⟩:∃ X,(G1.add (bx false bB)).skip (K+1)=X:=⟨_,rfl⟩
 have n2:G2.next=G1.next+1+(K+1):=by rw[← hG2];rfl
 rw[hG2] at e1 t2 gb2
 have g3:(G2.add (.rows false 1 [[.int .i64 (s:Int)],[.int .i64 12]])).get (.run G2.next)=some (.rows false 1 [[.int .i64 (s:Int)],[.int .i64 12]]):=by rw[Heap.get_add,if_pos rfl]
 have t3:=Turns.add Z G2 (.rows false 1 [[.int .i64 (s:Int)],[.int .i64 12]])
 obtain⟨G3,hG3⟩:∃ X,G2.add (.rows false 1 [[.int .i64 (s:Int)],[.int .i64 12]])=X:=⟨_,rfl⟩
 have n3:G3.next=G2.next+1:=by rw[← hG3];rfl
 rw[hG3] at g3 t3
 have e2:U lf K (n+1) 27 [.slice (some ⟨.run G2.next,0⟩) 2 2 0] G3=_:=qRNew (lf:=lf) (K:=K) (w:=n) (hP g3 (by omega)) hok 2 0
 rw[← hbB] at e2
 have t4:Turns Z G3 ((G3.add (bx true bB)).skip (K+1)):=by repeat (first | exact Turns.refl _ _ | apply Turns.skip | apply Turns.addm | apply Turns.setb | apply Turns.setl | apply Turns.setr | refine Turns.setn ?_ _ (by omega) _ | refine Turns.trans ?_ (tF _))
 have gb4:((G3.add (bx true bB)).skip (K+1)).get (.run G3.next)=some (bx true bB):=by rw[get_skip,Heap.get_add,if_pos rfl]
 obtain⟨G4,hG4⟩:∃ X,(G3.add (bx true bB)).skip (K+1)=X:=⟨_,rfl⟩
 have n4:G4.next=G3.next+1+(K+1):=by rw[← hG4];rfl
 rw[hG4] at e2 t4 gb4
 refine ret_callU rfl rfl c6_eq ?_
 simp (maxDischargeDepth:=12) (disch:=omega) only[c6,hG1,e1,hG3,e2,rep2,upd_at1,om,hv,ldO_one,stO_one,sy,tup,↓reduceIte,zA,zG,zC,zD,zF,zE,zB,zH,reduceCtorEq]
 refine⟨trivial,.inr trivial,_,rfl,_,_,rfl,?_,gb4,Heap.not_old (by omega),Heap.not_old (by omega),by show _ < _;omega,by show _ < _;omega,fun e=>?_,((t1.trans t2).trans t3).trans t4⟩
 ·exact((t3.trans t4).same (.run G1.next) (by show _ < _;omega) (fun h=>h)).trans gb2
 ·have:=Bk.run.inj e;omega
end
end Go.Proofs.YtllkepkaimnodaaGreatDoor.draft
namespace Go.Proofs.YtllkepkaimnodaaGreatDoor.draft
open Go.Am
open disk (bx Fit A1 R1 Low Bn)
noncomputable def c11_l0:C:=.seq (.seq (.reg [
 mv 88 11,
 qo 89 (.p (nilcF (tt 88))) [pp 88],
 qo 90 (.p (faddrF (tt 89) 7)) [pp 89],
 qo 91 (.r (loadF (tt 90) 1 .sc)) [pp 90],
 qo 92 (.p (lenF (tt 91))) [pp 91],
 qo 93 (.p (arF .lss (tt 92) (ii 8))) [pp 92]]) (
 .cond (tt 93) (.skip) (.exit 0))) (
 .block 1 (.seq (.reg [
 mv 95 0,
 mv 96 1,
 mv 97 11,
 qo 98 (.c (callF (ff 51) [(tt 97)])) [pp 97],
 qo 99 (.c (callF (ff 50) [(tt 98)])) [pp 98],
 qo 100 (.p (arF .add (ii 2) (tt 99))) [pp 99],
 qo 101 (.c (callF (ff 48) [(tt 95),(tt 96),(tt 100)])) [pp 95,pp 96,pp 100],
 mv 94 101,
 qo 102 (.p (extF (tt 94) 0)) [pp 94],
 qo 103 (.p (extF (tt 94) 1)) [pp 94],
 qo 12 (.m (allocF 64 [.blk 0])) [],
 qn (.a (storeF (tt 12) (tt 102) 64)) [pp 12,pp 102],
 mv 13 103]) (
 .seq (.seq (.reg [
 mv 104 13,
 qo 105 (.p (eqcF true false [.int .i64] (tt 104) (ii 0))) [pp 104]]) (
 .cond (tt 105) (.seq (.reg [
 mv 106 13,
 qo 4 (.p (S.get (.c (.ptr none)))) [],
 mv 5 106]) (
 .ret)) (.skip))) (
 .seq (.reg [
 qo 108 (.r (loadF (tt 12) 64 .bk)) [pp 12],
 qo 109 (.c (callF (ff 52) [(tt 108)])) [pp 108],
 mv 107 109,
 qo 110 (.p (extF (tt 107) 0)) [pp 107],
 qo 111 (.p (extF (tt 107) 1)) [pp 107],
 qo 14 (.m (allocF 4 [.int .u64 0,.int .u64 0,.int .i64 0,.int .u32 0])) [],
 qn (.a (storeF (tt 14) (tt 110) 4)) [pp 14,pp 110],
 mv 13 111]) (
 .seq (.seq (.regD [
 mv 112 13,
 qo 113 (.p (eqcF true false [.int .i64] (tt 112) (ii 0))) [pp 112],
 mv 114 113,
 qg 115 (.p (faddrF (tt 14) 0)) 114 false [pp 14],
 qg 116 (.r (loadF (tt 115) 1 .sc)) 114 false [pp 115],
 mg 117 11 114 false,
 qg 118 (.c (callF (ff 51) [(tt 117)])) 114 false [pp 117],
 qg 119 (.p (eqcF true false [.int .u64] (tt 116) (tt 118))) 114 false [pp 116,pp 118],
 qo 120 (.p (pickF (tt 114) (.c (.bool true)) (tt 119))) [pp 114,pp 119],
 mv 121 120,
 qg 122 (.p (faddrF (tt 14) 1)) 121 false [pp 14],
 qg 123 (.r (loadF (tt 122) 1 .sc)) 121 false [pp 122],
 mg 124 11 121 false,
 qg 125 (.c (callF (ff 53) [(tt 124)])) 121 false [pp 124],
 qg 126 (.p (eqcF true false [.int .u64] (tt 123) (tt 125))) 121 false [pp 123,pp 125],
 qo 127 (.p (pickF (tt 121) (.c (.bool true)) (tt 126))) [pp 121,pp 126],
 mv 128 127,
 qg 129 (.p (faddrF (tt 14) 2)) 128 false [pp 14],
 qg 130 (.r (loadF (tt 129) 1 .sc)) 128 false [pp 129],
 qg 131 (.c (callF (ff 54) [(tt 130)])) 128 false [pp 130],
 mg 132 11 128 false,
 qg 133 (.c (callF (ff 55) [(tt 132)])) 128 false [pp 132],
 qg 134 (.p (arF .gtr (tt 131) (tt 133))) 128 false [pp 131,pp 133],
 qo 135 (.p (pickF (tt 128) (.c (.bool true)) (tt 134))) [pp 128,pp 134]] [0,1,3,7,15,7,39,127,255,511,1023,2047,1023,5119,16383,32767,65535,131071,262143,524287,131071,2097151,4194303,8388607]) (
 .cond (tt 135) (.seq (.reg [
 mv 136 11,
 mv 4 136,
 qo 5 (.p (S.get (ii 0))) []]) (
 .ret)) (.skip))) (
 .regD [
 mv 137 11,
 mv 138 11,
 qo 139 (.p (nilcF (tt 138))) [pp 138],
 qo 140 (.p (faddrF (tt 139) 7)) [pp 139],
 qo 141 (.r (loadF (tt 140) 1 .sc)) [pp 140],
 qo 142 (.r (loadF (tt 14) 4 .ag)) [pp 14],
 qo 143 (.m (bsliceF 1 4 [.int .u64 0,.int .u64 0,.int .i64 0,.int .u32 0] [(0,4,(tt 142))])) [pp 142],
 qo 144 (.a (appF 4 32 (tt 141) (tt 143))) [pp 141,pp 143],
 qo 145 (.p (nilcF (tt 137))) [pp 137],
 qo 146 (.p (faddrF (tt 145) 7)) [pp 145],
 qn (.a (storeF (tt 146) (tt 144) 1)) [pp 146,pp 144]] [0,0,2,6,14,0,32,126,255,511,1023]))))))
noncomputable def c11:CFn:=⟨[.tmp (pp 4),.tmp (pp 5)],
 .seq (.reg [
 qo 4 (.p (S.get (.c (.ptr none)))) [],
 qo 5 (.p (S.get (ii 0))) []]) (
 .seq (.seq (.reg [
 mv 15 0,
 mv 16 1,
 qo 17 (.c (callF (ff 46) [(tt 15),(tt 16)])) [pp 15,pp 16],
 qo 18 (.p (unF .not (tt 17))) [pp 17],
 mv 19 18,
 mg 20 0 19 false,
 mg 21 1 19 false,
 qg 22 (.c (callF (ff 47) [(tt 20),(tt 21)])) 19 false [pp 20,pp 21],
 qg 23 (.p (arF .lss (tt 22) (ii 50))) 19 false [pp 22],
 qo 24 (.p (pickF (tt 19) (.c (.bool true)) (tt 23))) [pp 19,pp 23]]) (
 .cond (tt 24) (.seq (.reg [
 qo 4 (.p (S.get (.c (.ptr none)))) [],
 qo 5 (.p (S.get (ii 2))) []]) (
 .ret)) (.skip))) (
 .seq (.reg [
 mv 26 0,
 mv 27 1,
 qo 28 (.c (callF (ff 48) [(tt 26),(tt 27),(ii 0)])) [pp 26,pp 27],
 mv 25 28,
 qo 29 (.p (extF (tt 25) 0)) [pp 25],
 qo 30 (.p (extF (tt 25) 1)) [pp 25],
 qo 6 (.m (allocF 64 [.blk 0])) [],
 qn (.a (storeF (tt 6) (tt 29) 64)) [pp 6,pp 29],
 mv 7 30]) (
 .seq (.seq (.reg [
 mv 31 7,
 qo 32 (.p (eqcF true false [.int .i64] (tt 31) (ii 0))) [pp 31]]) (
 .cond (tt 32) (.seq (.reg [
 mv 33 7,
 qo 4 (.p (S.get (.c (.ptr none)))) [],
 mv 5 33]) (
 .ret)) (.skip))) (
 .seq (.reg [
 mv 35 0,
 mv 36 1,
 qo 37 (.c (callF (ff 48) [(tt 35),(tt 36),(ii 1)])) [pp 35,pp 36],
 mv 34 37,
 qo 38 (.p (extF (tt 34) 0)) [pp 34],
 qo 39 (.p (extF (tt 34) 1)) [pp 34],
 qo 8 (.m (allocF 64 [.blk 0])) [],
 qn (.a (storeF (tt 8) (tt 38) 64)) [pp 8,pp 38],
 mv 7 39]) (
 .seq (.seq (.reg [
 mv 40 7,
 qo 41 (.p (eqcF true false [.int .i64] (tt 40) (ii 0))) [pp 40]]) (
 .cond (tt 41) (.seq (.reg [
 mv 42 7,
 qo 4 (.p (S.get (.c (.ptr none)))) [],
 mv 5 42]) (
 .ret)) (.skip))) (
 .seq (.reg [
 qo 44 (.r (loadF (tt 6) 64 .bk)) [pp 6],
 qo 45 (.r (loadF (tt 8) 64 .bk)) [pp 8],
 qo 46 (.c (callF (ff 49) [(tt 44),(tt 45)])) [pp 44,pp 45],
 mv 43 46,
 qo 47 (.p (extF (tt 43) 0)) [pp 43],
 qo 48 (.p (extF (tt 43) 1)) [pp 43],
 qo 49 (.p (extF (tt 43) 2)) [pp 43],
 qo 10 (.m (allocF 4 [.int .u64 0,.int .i64 0,.int .u64 0,.int .u64 0])) [],
 mv 9 47,
 qn (.a (storeF (tt 10) (tt 48) 4)) [pp 10,pp 48],
 mv 7 49]) (
 .seq (.seq (.regD [
 mv 50 7,
 qo 51 (.p (eqcF true false [.int .i64] (tt 50) (ii 0))) [pp 50],
 mv 52 51,
 qg 53 (.p (faddrF (tt 10) 1)) 52 false [pp 10],
 qg 54 (.r (loadF (tt 53) 1 .sc)) 52 false [pp 53],
 mg 55 0 52 false,
 mg 56 1 52 false,
 qg 57 (.c (callF (ff 47) [(tt 55),(tt 56)])) 52 false [pp 55,pp 56],
 qg 58 (.p (arF .sub (tt 57) (ii 10))) 52 false [pp 57],
 qg 59 (.p (arF .gtr (tt 54) (tt 58))) 52 false [pp 54,pp 58],
 qo 60 (.p (pickF (tt 52) (.c (.bool true)) (tt 59))) [pp 52,pp 59],
 mv 61 60,
 mg 62 9 61 false,
 qg 63 (.p (arF .gtr (tt 62) (.c (.int .u64 2305843009213693952)))) 61 false [pp 62],
 qo 64 (.p (pickF (tt 61) (.c (.bool true)) (tt 63))) [pp 61,pp 63],
 mv 65 64,
 qg 66 (.p (faddrF (tt 10) 2)) 65 false [pp 10],
 qg 67 (.r (loadF (tt 66) 1 .sc)) 65 false [pp 66],
 qg 68 (.p (arF .gtr (tt 67) (.c (.int .u64 2305843009213693952)))) 65 false [pp 67],
 qo 69 (.p (pickF (tt 65) (.c (.bool true)) (tt 68))) [pp 65,pp 68],
 mv 70 69,
 qg 71 (.p (faddrF (tt 10) 3)) 70 false [pp 10],
 qg 72 (.r (loadF (tt 71) 1 .sc)) 70 false [pp 71],
 qg 73 (.p (arF .gtr (tt 72) (.c (.int .u64 2305843009213693952)))) 70 false [pp 72],
 qo 74 (.p (pickF (tt 70) (.c (.bool true)) (tt 73))) [pp 70,pp 73]] [0,1,3,7,15,7,7,103,231,511,1023,2047,4095,8191,16383,32767,65535,131071,262143,524287,1048575,2097151,4194303,8388607,16777215]) (
 .cond (tt 74) (.seq (.reg [
 qo 4 (.p (S.get (.c (.ptr none)))) [],
 qo 5 (.p (S.get (ii 5))) []]) (
 .ret)) (.skip))) (
 .seq (.reg [
 mv 75 0,
 mv 76 1,
 qo 77 (.p (faddrF (tt 10) 0)) [pp 10],
 qo 78 (.r (loadF (tt 77) 1 .sc)) [pp 77],
 qo 79 (.p (faddrF (tt 10) 1)) [pp 10],
 qo 80 (.r (loadF (tt 79) 1 .sc)) [pp 79],
 mv 81 9,
 qo 82 (.p (faddrF (tt 10) 2)) [pp 10],
 qo 83 (.r (loadF (tt 82) 1 .sc)) [pp 82],
 qo 84 (.p (faddrF (tt 10) 3)) [pp 10],
 qo 85 (.r (loadF (tt 84) 1 .sc)) [pp 84],
 qo 86 (.p (buildF [.ptr none,.int .i64 0,.int .u64 0,.int .i64 0,.int .u64 0,.int .u64 0,.int .u64 0,.slice none 0 0 0] .ag [(0,1,(tt 75)),(1,1,(tt 76)),(2,1,(tt 78)),(3,1,(tt 80)),(4,1,(tt 81)),(5,1,(tt 83)),(6,1,(tt 85))])) [pp 75,pp 76,pp 78,pp 80,pp 81,pp 83,pp 85],
 qo 87 (.m (boxF 8 (tt 86))) [pp 86],
 mv 11 87]) (
 .seq (.block 0 (.loop c11_l0)) (
 .seq (.reg [
 mv 147 11,
 mv 4 147,
 qo 5 (.p (S.get (ii 0))) []]) (
 .ret)))))))))))⟩
theorem c11_eq:fnOf Tryz.prog 11=some c11:=by kernel_rfl
section
variable {lf K:Nat} (hlf:1000 < lf)
include hlf
theorem dlopen_loop {G0:Heap} {l b:Bk} {lx:Nat} (hlx:l=.run lx) (lxo:G0.next≤lx) {id R cnt first tail:Nat} {B:Bn} (hf:Fit B) (bo:G0.Old b) (hR:1≤R∧R≤256) (hfirst:first≤2305843009213693952) (ht:tail≤2305843009213693952) (hrc:∀ j:Nat,j < 10→B.rc 0 (j:Int)=0) (hX:∀ j:Nat,B.read 0 (j:Int) < 256 ^ 64) (n:Nat):∀(t:T) (G1:Heap),G1.get l=some (.rows false 8 [dcells b id R cnt first tail (.slice none 0 0 0)])→G1.Old l→G1.get b=some (bx true B)→Turns Z G0 G1→t.getP (Tr.path 0)=some (.ptr (some ⟨b,0⟩))→t.getP (Tr.path 1)=some (.int .i64 0)→t.getP (Tr.path 11)=some (.ptr (some ⟨l,0⟩)) →
  wp (loopF (runC (U lf K (n+4)) lf c11_l0) lf ⟨t,G1,[]⟩) fun x s=>s.d=[]∧((x=.ex 0∧s.t.getP (Tr.path 11)=some (.ptr (some ⟨l,0⟩)))∨(x=.ret∧s.t.getP (Tr.path 4)=some (.ptr (some ⟨l,0⟩))∧s.t.getP (Tr.path 5)=some (.int .i64 0)))∧s.H.get b=some (bx true B)∧Turns Z G0 s.H∧∃ lv,DLogAt s.H l b id R cnt first tail (goN (fun j=>B.read 0 (j:Int)) R first tail 8 [] tail).1 lv∧headN tail (goN (fun j=>B.read 0 (j:Int)) R first tail 8 [] tail).1=(goN (fun j=>B.read 0 (j:Int)) R first tail 8 [] tail).2∧∀ c,Bof lv c→¬ G0.Old c:=by
 intro t G1 hl1 ho1 hb1 hT1 q0 q1 q11
 have lo:¬ G0.Old l:=by rw[hlx];exact Heap.not_old lxo
 have lb:l≠b:=fun e=>lo (e ▸ bo)
 obtain⟨W,hW⟩:∃ W,W=goN (fun j=>B.read 0 (j:Int)) R first tail 8 [] tail:=⟨_,rfl⟩
 rw[← hW]
 refine wp_loopF (fun m s=>∃(i:Nat) (N:List Nt) (lv:V),m=8 - i∧i≤8∧N.length=i∧s.d=[]∧goN (fun j=>B.read 0 (j:Int)) R first tail (8 - i) N (headN tail N)=W∧Rg R tail (headN tail N)∧(∀ n ∈ N,1≤n.cells∧n.cells≤32)∧s.H.get l=some (.rows false 8 [dcells b id R cnt first tail lv])∧s.H.Old l∧Lst G0 s.H 4 (rowsT N) lv∧s.H.get b=some (bx true B)∧Turns Z G0 s.H∧s.t.getP (Tr.path 0)=some (.ptr (some ⟨b,0⟩))∧s.t.getP (Tr.path 1)=some (.int .i64 0)∧s.t.getP (Tr.path 11)=some (.ptr (some ⟨l,0⟩)))
  ?_ lf 8 _ ⟨0,[],_,rfl,Nat.zero_le _,rfl,rfl,hW.symm,⟨hR,Nat.le_refl _,by show tail≤_;omega,by show tail - tail≤_;omega⟩,fun _ h=>(by cases h),hl1,ho1,Lst.nil _ _ _,hb1,hT1,q0,q1,q11⟩ (by omega)
 rintro m ⟨t,H,dd⟩ ⟨i,N,lv,rfl,hi,hNl,hd,hW2,hrg,hnc,hl,ho,hN,hb,hT,q0,q1,q11⟩
 dsimp only at hd hl ho hN hb hT q0 q1 q11
 subst hd
 have hLog:DLogAt H l b id R cnt first tail N lv:=⟨⟨hl,G0,hN,hT.next⟩,ho,hR,hrg,by omega,by omega,hnc⟩
 have hfin:∀ {H':Heap},Turns Z H H'→W=(N,headN tail N)→(H'.get b=some (bx true B)∧Turns Z G0 H'∧∃ lv,DLogAt H' l b id R cnt first tail W.1 lv∧headN tail W.1=W.2∧∀ c,Bof lv c→¬ G0.Old c):=by
  intro H' tt e
  rw[e]
  refine⟨(tt.same b (bo.mono hT.next) (fun h=>h)).trans hb,hT.trans tt,lv,hLog.turns tt,rfl,fun c hc=>?_⟩
  obtain⟨q,rfl,hq,_⟩:=hN.bof hc
  exact Heap.not_old hq
 have hrl:=rowsT_len N
 obtain⟨lp,lc,lo',rfl⟩:=hN.val
 rw[hrl] at hl hN
 have k7:cut (dcells b id R cnt first tail (.slice lp N.length lc lo')) 7 1=some [.slice lp N.length lc lo']:=rfl
 by_cases hlt:i < 8
 rotate_left
 ·have:i=8:=by omega
  subst this
  have:=hfin (Turns.refl Z H) hW2.symm
  simp (maxDischargeDepth:=12) (disch:=omega) only[c11_l0,q11,hl,k7,om,hv,ldO_one,stO_one,sy,tup,↓reduceIte,zA,zG,zC,zD,zF,zE,zB,zH,reduceCtorEq]
  exact⟨trivial,.inl ⟨trivial,by simp[q11]⟩,this⟩
 obtain⟨sq,hsq⟩:∃ sq,sq=first+N.length:=⟨_,rfl⟩
 have e1:=dlnext hlf hLog (K:=K) (n+3)
 rw[← hsq] at e1
 obtain⟨z8,hz8⟩:∃ z,z=sq % 8:=⟨_,rfl⟩
 have hz8':z8 < 8:=by rw[hz8];exact Nat.mod_lt _ (by decide)
 have eS:=fun H=>dslot hlf (K:=K) H sq (n+3)
 rw[← hz8] at eS
 obtain⟨m,hm⟩:∃ m:Int,m=((2+z8:Nat):Int):=⟨_,rfl⟩
 have wm:IntKind.i64.wrap (2+(z8:Int))=m:=by rw[Go.Am.wrap_i64 (by omega)];omega
 have hrc1:=hrc (2+z8) (by omega)
 have hX1:=hX (2+z8)
 rw[← hm] at hrc1 hX1
 have eR:=qRRead (lf:=lf) (K:=K) (w:=n+3) hb hf 0 m
 rw[hrc1] at eR
 obtain⟨X,hXd⟩:∃ X,X=B.read 0 m:=⟨_,rfl⟩
 rw[← hXd] at eR hX1
 have hstep:goN (fun j=>B.read 0 (j:Int)) R first tail (8 - i) N (headN tail N)=match nextOk R first tail N.length (headN tail N) X with
  | true=>goN (fun j=>B.read 0 (j:Int)) R first tail (8 - (i+1)) (N++[ntG X]) (headN tail N+recS (ntG X).cells)
  | false=>(N,headN tail N):=by
  first | (rw[show 8 - i=(8 - (i+1))+1 by omega,goN,hXd,hm,hz8,hsq];done) | (rw[show 8 - i=(8 - (i+1))+1 by omega,goN,hXd,hm,hz8,hsq];rfl)
 rw[hW2] at hstep
 have t2:Turns Z H (((H.skip (K+2)).add (.rows false 64 [[.blk 0]])).set (.run (H.next+(K+2))) (.rows false 64 [[.blk X]])):=by
  refine Turns.setn ?_ _ (by omega) _
  exact((Turns.refl Z H).skip _).addm _
 have hx2:(((H.skip (K+2)).add (.rows false 64 [[.blk 0]])).set (.run (H.next+(K+2))) (.rows false 64 [[.blk X]])).get (.run (H.next+(K+2)))=some (.rows false 64 [[.blk X]]):=by rw[Heap.get_set,if_pos rfl]
 obtain⟨H2,hH2⟩:∃ H2,((H.skip (K+2)).add (.rows false 64 [[.blk 0]])).set (.run (H.next+(K+2))) (.rows false 64 [[.blk X]])=H2:=⟨_,rfl⟩
 rw[hH2] at t2 hx2
 have e3:=fun G=>qp_ashlarref13_Get (lf:=lf) (K:=K) (w:=n+3) (G:=G) (fun H=>dnget hlf H hX1 54)
 have p4:∀(a b c d a' b' c' d':Nat),put [V.int .u64 (a:Int),.int .u64 (b:Int),.int .i64 (c:Int),.int .u32 (d:Int)] 0 (ntW a' b' c' d')=some (ntW a' b' c' d'):=fun _ _ _ _ _ _ _ _=>rfl
 cases hok:noteOk X
 ·obtain⟨E,hE,eE⟩:∃ E:Int,E≠0∧dnG X=.tuple [.agg nt0,.int .i64 E]:=by
   unfold dnG
   rw[hok]
   refine⟨_,?_,if_neg (by decide)⟩
   by_cases hs:sealE X=0
   ·rw[if_pos hs];decide
   ·rw[if_neg hs];exact hs
  rw[eE] at e3
  have hno:nextOk R first tail N.length (headN tail N) X=false:=by unfold nextOk;rw[hok];rfl
  rw[hno] at hstep
  have w4:width nt0=4:=rfl
  have pz:put nt0 0 nt0=some nt0:=rfl
  have t4:Turns Z H2 (((H2.skip (K+2)).add (.rows false 4 [nt0])).set (.run (H2.next+(K+2))) (.rows false 4 [nt0])):=by repeat (first | exact Turns.refl _ _ | apply Turns.skip | apply Turns.addm | apply Turns.setb | apply Turns.setl | apply Turns.setr | refine Turns.setn ?_ _ (by omega) _ | refine Turns.trans ?_ (tF _))
  obtain⟨H4,hH4⟩:∃ X,((H2.skip (K+2)).add (.rows false 4 [nt0])).set (.run (H2.next+(K+2))) (.rows false 4 [nt0])=X:=⟨_,rfl⟩
  rw[hH4] at t4
  simp (maxDischargeDepth:=12) (disch:=omega) only[c11_l0,q0,q1,q11,hl,k7,e1,eS,wm,eR,hH2,hx2,Dh,e3,w4,pz,hH4,om,hv,ldO_one,stO_one,sy,tup,↓reduceIte,zA,zG,zC,zD,zF,zE,zB,zH,reduceCtorEq]
  rw[endD_ok (by kernel_rfl) (by kernel_rfl)]
  simp (maxDischargeDepth:=12) (disch:=omega) only[q11,om,hv,ldO_one,stO_one,sy,tup,↓reduceIte,zA,zG,zC,zD,zF,zE,zB,zH,reduceCtorEq]
  exact⟨trivial,.inr ⟨trivial,trivial,trivial⟩,hfin (t2.trans t4) hstep⟩
 obtain⟨nt,hnt⟩:∃ nt,nt=ntG X:=⟨_,rfl⟩
 have eE:dnG X=.tuple [.agg (ntV nt),.int .i64 0]:=by unfold dnG;rw[if_pos hok,hnt]
 rw[eE] at e3
 have hno:nextOk R first tail N.length (headN tail N) X=(decide (nt.seq=sq)&&decide (nt.pos=headN tail N)&&roomR R tail (headN tail N) (recS nt.cells)):=by unfold nextOk;rw[hok,← hnt,hsq,Bool.true_and]
 rw[hno,← hnt] at hstep
 have hmay:NtOk nt:=by
  unfold noteOk at hok
  simp only[Bool.and_eq_true] at hok
  rw[hnt]
  exact ntMay_ok hok.1.2 (bd_lt X 10)
 have hcl:=hmay.cells
 have n0:cut (ntV nt) 0 1=some [.int .u64 (nt.seq:Int)]:=rfl
 have n1:cut (ntV nt) 1 1=some [.int .u64 (nt.pos:Int)]:=rfl
 have n2:cut (ntV nt) 2 1=some [.int .i64 (nt.cells:Int)]:=rfl
 have n4:cut (ntV nt) 0 4=some (ntV nt):=rfl
 have pn:put nt0 0 (ntV nt)=some (ntV nt):=rfl
 have wn:width (ntV nt)=4:=rfl
 have t4:Turns Z H2 (((H2.skip (K+2)).add (.rows false 4 [nt0])).set (.run (H2.next+(K+2))) (.rows false 4 [ntV nt])):=by repeat (first | exact Turns.refl _ _ | apply Turns.skip | apply Turns.addm | apply Turns.setb | apply Turns.setl | apply Turns.setr | refine Turns.setn ?_ _ (by omega) _ | refine Turns.trans ?_ (tF _))
 have h4:(((H2.skip (K+2)).add (.rows false 4 [nt0])).set (.run (H2.next+(K+2))) (.rows false 4 [ntV nt])).get (.run (H2.next+(K+2)))=some (.rows false 4 [ntV nt]):=by rw[Heap.get_set,if_pos rfl]
 obtain⟨k4,hk4⟩:∃ k,k=H2.next+(K+2):=⟨_,rfl⟩
 obtain⟨H4,hH4⟩:∃ X,((H2.skip (K+2)).add (.rows false 4 [nt0])).set (.run (H2.next+(K+2))) (.rows false 4 [ntV nt])=X:=⟨_,rfl⟩
 rw[hH4,← hk4] at h4
 rw[hH4] at t4
 rw[← hk4] at hH4
 have tH4:=t2.trans t4
 have hLog4:=hLog.turns tH4
 have e5:=dlnext hlf hLog4 (K:=K) (n+3)
 have e6:=dlhead hlf hLog4 (K:=K) (n+1)
 obtain⟨v7,H7,e7,rfl,g7,nx7,t7⟩:=dlfree hlf hLog4 (K:=K) n
 rw[← hsq] at e5
 obtain⟨hd,hhd⟩:∃ hd,hd=headN tail N:=⟨_,rfl⟩
 rw[← hhd] at e6 e7 hstep hrg
 have eZ:=dsize hlf (K:=K) H4 (k:=nt.cells) (by omega) (n+2)
 rw[szR_rec hlf hcl.1 hcl.2] at eZ
 obtain⟨k,hk⟩:∃ k,k=recS nt.cells:=⟨_,rfl⟩
 have hk34:1≤k∧k≤34:=by rw[hk];unfold recS;omega
 rw[← hk] at eZ hstep
 have hQ:∀ x ∈ [lq 115 ⟨.run k4,0⟩ (.int .u64 (nt.seq:Int)) H4,lq 115 ⟨.run k4,0⟩ (.int .u64 (nt.seq:Int)) H4,lq 122 ⟨.run k4,1⟩ (.int .u64 (nt.pos:Int)) H4,lq 122 ⟨.run k4,1⟩ (.int .u64 (nt.pos:Int)) H4],x.1=x.2:=by
  intro x hx
  simp only[List.mem_cons,List.not_mem_nil,or_false] at hx
  rcases hx with rfl | rfl | rfl | rfl<;>refine lq_ok ?_ rfl<;>simp (maxDischargeDepth:=12) (disch:=omega) only[h4,n0,n1,om,hv,ldO_one,stO_one,sy,tup,↓reduceIte,zA,zG,zC,zD,zF,zE,zB,zH,reduceCtorEq]
 have hl4:=(tH4.same l ho (fun h=>h)).trans hl
 have hQ2:=fun x hx=>hQ x (List.mem_of_mem_take (i:=2) hx)
 by_cases h1:nt.seq=sq
 rotate_left
 ·rw[decide_eq_false h1,Bool.false_and,Bool.false_and] at hstep
  simp (maxDischargeDepth:=12) (disch:=omega) only[c11_l0,q0,q1,q11,hl,k7,e1,eS,wm,eR,hH2,hx2,Dh,e3,wn,pn,← hk4,hH4,h4,n0,e5,om,hv,ldO_one,stO_one,sy,tup,↓reduceIte,zA,zG,zC,zD,zF,zE,zB,zH,reduceCtorEq]
  rw[endD_q (q:=[lq 115 ⟨.run k4,0⟩ (.int .u64 (nt.seq:Int)) H4,lq 115 ⟨.run k4,0⟩ (.int .u64 (nt.seq:Int)) H4]) (by kernel_rfl) (by kernel_rfl)]
  have:=hfin (tH4.owe hQ2) (by rw[hstep,hhd])
  simp (maxDischargeDepth:=12) (disch:=omega) only[q11,om,hv,ldO_one,stO_one,sy,tup,↓reduceIte,zA,zG,zC,zD,zF,zE,zB,zH,reduceCtorEq]
  exact⟨trivial,.inr ⟨trivial,trivial,trivial⟩,this⟩
 by_cases h2:nt.pos=hd
 rotate_left
 ·rw[decide_eq_false h2,Bool.and_false,Bool.false_and] at hstep
  simp (maxDischargeDepth:=12) (disch:=omega) only[c11_l0,q0,q1,q11,hl,k7,e1,eS,wm,eR,hH2,hx2,Dh,e3,wn,pn,← hk4,hH4,h4,n0,n1,e5,e6,om,hv,ldO_one,stO_one,sy,tup,↓reduceIte,zA,zG,zC,zD,zF,zE,zB,zH,reduceCtorEq]
  rw[endD_q (q:=[lq 115 ⟨.run k4,0⟩ (.int .u64 (nt.seq:Int)) H4,lq 115 ⟨.run k4,0⟩ (.int .u64 (nt.seq:Int)) H4,lq 122 ⟨.run k4,1⟩ (.int .u64 (nt.pos:Int)) H4,lq 122 ⟨.run k4,1⟩ (.int .u64 (nt.pos:Int)) H4]) (by kernel_rfl) (by kernel_rfl)]
  have:=hfin (tH4.owe hQ) (by rw[hstep,hhd])
  simp (maxDischargeDepth:=12) (disch:=omega) only[q11,om,hv,ldO_one,stO_one,sy,tup,↓reduceIte,zA,zG,zC,zD,zF,zE,zB,zH,reduceCtorEq]
  exact⟨trivial,.inr ⟨trivial,trivial,trivial⟩,this⟩
 rw[decide_eq_true h1,decide_eq_true h2,Bool.true_and,Bool.true_and] at hstep
 obtain⟨_,r1,r2,r3⟩:=hrg
 obtain⟨fr,hfr,hfr'⟩:∃ fr:Int,fr=(R:Int) - ((hd - tail:Nat):Int)∧(roomR R tail hd k=true↔(k:Int)≤fr):=⟨_,rfl,by
  unfold roomR
  simp only[Bool.and_eq_true,decide_eq_true_eq]
  omega⟩
 rw[← hfr] at e7
 have t47:=tH4.trans t7
 obtain⟨H8,hH8⟩:∃ X,H7.owe [lq 115 ⟨.run k4,0⟩ (.int .u64 (nt.seq:Int)) H4,lq 115 ⟨.run k4,0⟩ (.int .u64 (nt.seq:Int)) H4,lq 122 ⟨.run k4,1⟩ (.int .u64 (nt.pos:Int)) H4,lq 122 ⟨.run k4,1⟩ (.int .u64 (nt.pos:Int)) H4]=X:=⟨_,rfl⟩
 have t8:Turns Z H H8:=by rw[← hH8];exact t47.owe hQ
 have g8:∀ c,H8.get c=H4.get c:=fun c=>by rw[← hH8,get_owe,g7]
 cases hroom:roomR R tail hd k
 ·rw[hroom] at hstep hfr'
  have hfr2:¬ (k:Int)≤fr:=fun h=>by cases hfr'.2 h
  have:=hfin t8 (by rw[hstep,hhd])
  simp (maxDischargeDepth:=12) (disch:=omega) only[c11_l0,q0,q1,q11,hl,k7,e1,eS,wm,eR,hH2,hx2,Dh,e3,wn,pn,← hk4,hH4,h4,n0,n1,n2,e5,e6,eZ,e7,om,hv,ldO_one,stO_one,sy,tup,↓reduceIte,zA,zG,zC,zD,zF,zE,zB,zH,reduceCtorEq]
  rw[endD_q (q:=[lq 115 ⟨.run k4,0⟩ (.int .u64 (nt.seq:Int)) H4,lq 115 ⟨.run k4,0⟩ (.int .u64 (nt.seq:Int)) H4,lq 122 ⟨.run k4,1⟩ (.int .u64 (nt.pos:Int)) H4,lq 122 ⟨.run k4,1⟩ (.int .u64 (nt.pos:Int)) H4]) (by kernel_rfl) (by kernel_rfl),hH8]
  simp (maxDischargeDepth:=12) (disch:=omega) only[q11,om,hv,ldO_one,stO_one,sy,tup,↓reduceIte,zA,zG,zC,zD,zF,zE,zB,zH,reduceCtorEq]
  exact⟨trivial,.inr ⟨trivial,trivial,trivial⟩,this⟩
 rw[hroom] at hstep hfr'
 have hfr2:(k:Int)≤fr:=hfr'.1 rfl
 have hl8:=(g8 l).trans hl4
 have h8:=(g8 _).trans h4
 have c4:cut (ntV nt) 0 4=some (ntV nt):=rfl
 have t9:=Turns.add Z H8 (.rows false 4 [ntV nt])
 have hx9:(H8.add (.rows false 4 [ntV nt])).get (.run H8.next)=some (.rows false 4 [ntV nt]):=by rw[Heap.get_add,if_pos rfl]
 obtain⟨H9,hH9⟩:∃ X,H8.add (.rows false 4 [ntV nt])=X:=⟨_,rfl⟩
 rw[hH9] at t9 hx9
 have tH9:=t8.trans t9
 have hN9:=hN.turns tH9 (fun _ _ h=>h)
 have tG9:=hT.trans tH9
 obtain⟨H10,ea,hN10,t10,nx10⟩:=hN9.app1 (by':=32) tG9.next hx9 c4 (by decide) (by rw[hrl];omega) (by rw[hrl];omega)
 rw[hrl] at ea hN10
 have hl9:=(t9.same l (ho.mono t8.next) (fun h=>h)).trans hl8
 have lnB:¬ Bof (.slice lp N.length lc lo') l:=fun hB=>by
  obtain⟨_,_,_,_,hgB⟩:=hN9.bof hB
  rw[hl9] at hgB;cases hgB
 have hl10:=(t10.same l (ho.mono tH9.next) lnB).trans hl9
 have p10:put (dcells b id R cnt first tail (.slice lp N.length lc lo')) 7 [.slice (some ⟨.run H9.next,0⟩) (N.length+1) (N.length+1) 4]=some (dcells b id R cnt first tail (.slice (some ⟨.run H9.next,0⟩) (N.length+1) (N.length+1) 4)):=rfl
 have cnt4:(V.agg (ntV nt)).cells=some (ntV nt):=rfl
 have t10':=lst_away hN9 tG9 (Nat.le_refl _) t10
 have hbG:G0.get b=some (bx true B):=((hT.same b bo (fun h=>h)).symm).trans hb
 have hb10:=(t10'.same b bo (fun h=>h)).trans hbG
 have lnew:¬ (Bk.run H9.next=l):=fun e=>by
  have:=ho
  rw[← e] at this
  exact absurd this (Heap.not_old tH9.next)
 simp (maxDischargeDepth:=12) (disch:=omega) only[c11_l0,q0,q1,q11,hl,k7,e1,eS,wm,eR,hH2,hx2,Dh,e3,wn,pn,← hk4,hH4,h4,n0,n1,n2,e5,e6,eZ,e7,om,hv,ldO_one,stO_one,sy,tup,↓reduceIte,zA,zG,zC,zD,zF,zE,zB,zH,reduceCtorEq]
 rw[endD_q (q:=[lq 115 ⟨.run k4,0⟩ (.int .u64 (nt.seq:Int)) H4,lq 115 ⟨.run k4,0⟩ (.int .u64 (nt.seq:Int)) H4,lq 122 ⟨.run k4,1⟩ (.int .u64 (nt.pos:Int)) H4,lq 122 ⟨.run k4,1⟩ (.int .u64 (nt.pos:Int)) H4]) (by kernel_rfl) (by kernel_rfl),hH8]
 simp (maxDischargeDepth:=12) (disch:=omega) only[q0,q1,q11,hl8,k7,h8,c4,wn,cnt4,hH9,ea,hl10,p10,om,hv,ldO_one,stO_one,sy,tup,↓reduceIte,zA,zG,zC,zD,zF,zE,zB,zH,reduceCtorEq]
 rw[endD_ok (by kernel_rfl) (by kernel_rfl)]
 simp (maxDischargeDepth:=12) (disch:=omega) only[q0,q1,q11,om,hv,ldO_one,stO_one,sy,tup,↓reduceIte,zA,zG,zC,zD,zF,zE,zB,zH,reduceCtorEq]
 have er:rowsT (N++[nt])=rowsT N++[ntV nt]:=by
  unfold rowsT
  rw[List.map_append];rfl
 refine⟨8 - (i+1),by omega,i+1,N++[nt],.slice (some ⟨.run H9.next,0⟩) (N.length+1) (N.length+1) 4,rfl,by omega,by simp[hNl],trivial,?_,?_,fun x hx=>?_,?_,?_,?_,?_,?_,by simp[q0],by simp[q1],by simp[q11]⟩
 ·rw[headN_app,← hhd,← hk];exact hstep.symm
 ·rw[headN_app,← hhd,← hk];exact⟨hR,by omega,by omega,by omega⟩
 ·rcases List.mem_append.1 hx with hx | hx
  ·exact hnc x hx
  ·rw[List.mem_singleton.1 hx];exact hcl
 ·rfl
 ·exact ho.mono (Nat.le_trans tH9.next t10.next)
 ·rw[er]
  exact hN10.turns (Turns.set (X:=fun c=>c=l) rfl H10 _) (fun c hc e=>by
   obtain⟨p,_,_,_,e1,e2⟩:=hc
   cases e1
   exact lnew (e2.symm.trans e))
 ·rw[if_neg (fun e=>lb e.symm)];exact hb10
 ·rw[hlx];exact t10'.setn _ lxo _
end
end Go.Proofs.YtllkepkaimnodaaGreatDoor.draft
