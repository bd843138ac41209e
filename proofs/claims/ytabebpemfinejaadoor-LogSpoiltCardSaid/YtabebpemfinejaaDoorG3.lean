import Derived.Test.YtabebpemfinejaaDoorG2
set_option linter.unusedVariables false
set_option linter.unusedSectionVars false
set_option linter.unusedSimpArgs false
set_option maxRecDepth 10000
open Nat renaming reduceEqDiff → zA, reduceLeDiff → zB, reduceSub → zC, reduceMul → zD, reduceMod → zE, reduceDiv → zF, reduceAdd → zG
open Int renaming reduceBEq → zH
namespace Go.Proofs.YtabebpemfinejaaDoor.draft
open Go.Am
noncomputable def c33_l0:C:=.seq (.reg [
 qo 9 (.p (arF .lss (tt 8) (tt 7))) [pp 8,pp 7]]) (
 .seq (.cond (tt 9) (.skip) (.exit 0)) (
 .seq (.block 1 (.seq (.reg [
 qo 10 (.p (iaddrSF (tt 6) (tt 8) 64)) [pp 6,pp 8],
 qo 11 (.r (loadF (tt 10) 64 .bk)) [pp 10],
 qo 5 (.m (allocF 64 [.blk 0])) [],
 qn (.a (storeF (tt 5) (tt 11) 64)) [pp 5,pp 11]]) (
 .reg [
 mv 12 3,
 qo 13 (.p (sliceAF 64 1 (tt 5) none none none)) [pp 5],
 qo 14 (.c (callF (ff 62) [(tt 12),(tt 13)])) [pp 12,pp 13],
 mv 3 14]))) (
 .reg [
 qo 15 (.p (arF .add (tt 8) (ii 1))) [pp 8],
 mv 8 15])))
noncomputable def c33:CFn:=⟨[.tmp (pp 2)],
 .seq (.reg [
 qo 2 (.p (S.get (.c (.int .u32 0)))) []]) (
 .seq (.reg [
 qo 3 (.p (S.get (.c (.int .u32 0)))) []]) (
 .seq (.seq (.reg [
 mv 6 0,
 qo 7 (.p (lenF (tt 6))) [pp 6],
 qo 8 (.p (S.get (ii 0))) []]) (
 .block 0 (.loop c33_l0))) (
 .seq (.reg [
 mv 16 3,
 mv 2 16]) (
 .ret))))⟩
theorem c33_eq:fnOf Tryd.prog 33=some c33:=by kernel_rfl
noncomputable def crcZ (z:Nat) (c:Nat→Nat):Nat→Nat
 | 0=>z
 | i+1=>crc.takeN (crcZ z c i) (c i)
theorem crcZ_lt {z:Nat} {c:Nat→Nat} (hz:z < 4294967296):∀ {n:Nat},(∀ i,i < n→c i < 256)→crcZ z c n < 4294967296
 | 0,_=>hz
 | n+1,hc=>take_lt (crcZ_lt hz (fun i hi=>hc i (by omega))) (hc n (by omega))
def rowsK (l:List Nat):List (List V):=l.map fun x:Nat=>[V.blk x]
theorem rowsK_len (l:List Nat):(rowsK l).length=l.length:=by unfold rowsK;simp
structure BlksAt (H:Heap) (v:V) (l:List Nat):Prop where
 ex:∃ p c o,v=.slice p l.length c o
 get:∀(i:Nat) (hi:i < l.length),∃ n o c z,v=.slice (some ⟨.run n,o⟩) l.length c z∧loadAt H ⟨.run n,o+i*64⟩ 64=some [.blk l[i]]
theorem blks_lst {H0 H:Heap} {l:List Nat} {v:V} (h:Lst H0 H 64 (rowsK l) v):BlksAt H v l:=by
 refine⟨?_,fun i hi=>?_⟩
 ·obtain⟨p,c,o,e⟩:=h.val
  rw[rowsK_len] at e
  exact⟨p,c,o,e⟩
 ·obtain⟨n,e,hl⟩:=h.load (i:=i) (o:=0) (k:=64) (r:=[.blk l[i]]) (by unfold rowsK;rw[List.getElem?_map,List.getElem?_eq_getElem hi];rfl) (by decide)
  rw[rowsK_len] at e
  exact⟨n,0,_,_,e,by have:=hl;rw[Nat.zero_add];exact this⟩
section
variable {K:Nat}
theorem umore {r:Nat} (hr0:r < 4294967296) {H:Heap} {p:Ptr} {len cap loose:Nat} {c:Nat→Nat} (hm:len < 1000000) (hb:∀ i,i < len→c i < 256) (hd:∀ i,i < len→loadAt H ⟨p.b,p.o+i⟩ 1=some [.int .u8 (c i:Int)]) (lf n:Nat) (hlf:len+1 < lf) :
  U lf K (n+2) 62 [.int .u32 (r:Int),.slice (some p) len cap loose] H=some (.v (.int .u32 ((notN (crcZ (notN r) c len):Nat):Int)),H):=by
 obtain⟨v,H',e,rfl,rfl⟩:ret (U lf K (n+2) 62 [.int .u32 (r:Int),.slice (some p) len cap loose] H) fun v H'=>v=.int .u32 ((notN (crcZ (notN r) c len):Nat):Int)∧H'=H:=by
  refine ret_callU rfl rfl c62_eq ?_
  have u0:=not_u32 hr0
  have hz:=notN_lt hr0
  have hloop:∀ t:T,t.getP (Tr.path 5)=some (.int .u32 ((notN r:Nat):Int))→t.getP (Tr.path 10)=some (.slice (some p) len cap loose)→t.getP (Tr.path 11)=some (.int .i64 (len:Int))→t.getP (Tr.path 12)=some (.int .i64 0) →
    wp (loopF (runC (U lf K (n+1)) lf c62_l0) lf ⟨t,H,[]⟩) fun x s=>x=.ex 0∧s.d=[]∧s.H=H∧s.t.getP (Tr.path 5)=some (.int .u32 ((crcZ (notN r) c len:Nat):Int)):=by
   intro t q5 q10 q11 q12
   refine wp_loopF (fun k s=>∃ i:Nat,k=len - i∧i≤len∧s.d=[]∧s.H=H∧s.t.getP (Tr.path 5)=some (.int .u32 ((crcZ (notN r) c i:Nat):Int))∧s.t.getP (Tr.path 10)=some (.slice (some p) len cap loose)∧s.t.getP (Tr.path 11)=some (.int .i64 (len:Int))∧s.t.getP (Tr.path 12)=some (.int .i64 (i:Int))) ?_ lf len _ ⟨0,rfl,by omega,rfl,rfl,q5,q10,q11,q12⟩ (by omega)
   rintro k ⟨t,HH,d⟩ ⟨i,rfl,hi,hd',hH,q5,q10,q11,q12⟩
   dsimp only at hd' hH q5 q10 q11 q12
   subst hd';subst hH
   by_cases hlt:i < len
   ·have hlt':(i:Int) < (len:Int):=by omega
    have hle':i+1≤len:=hlt
    have lk:=hd i hlt
    have w3:IntKind.i64.wrap ((i:Int)+1)=((i+1:Nat):Int):=by rw[wrap_i64 (by omega)];omega
    have tk:=u_take_ok (K:=K) HH (crcZ_lt (c:=c) (n:=i) hz (fun j hj=>hb j (by omega))) (hb i hlt) lf n
    simp only[c62_l0,q5,q10,q11,q12,hlt',hle',w3,lk,tk,Nat.mul_one,sy,tup,↓reduceIte,zA,zG,zC,zD,zF,zE,zB,zH,reduceCtorEq]
    exact⟨len - (i+1),by omega,i+1,rfl,by omega,trivial,trivial,rfl,trivial,trivial,by simp⟩
   ·have:i=len:=by omega
    subst this
    simp only[c62_l0,q5,q10,q11,q12,Nat.lt_irrefl,Int.lt_irrefl,sy,tup,↓reduceIte,zA,zG,zC,zD,zF,zE,zB,zH,reduceCtorEq]
    exact⟨trivial,trivial,trivial,trivial⟩
  have un:=not_u32 (crcZ_lt hz hb)
  simp only[c62,u0,sy,tup,↓reduceIte,zA,zG,zC,zD,zF,zE,zB,zH,reduceCtorEq]
  refine wp_ctx (F:=fun r=>seqC _ _ _ (blockC _ r)) (hloop _ ?_ ?_ ?_ ?_) ?_
  ·simp only[sy,tup,↓reduceIte,zA,zG,zC,zD,zF,zE,zB,zH,reduceCtorEq]
  ·simp only[sy,tup,↓reduceIte,zA,zG,zC,zD,zF,zE,zB,zH,reduceCtorEq]
  ·simp only[sy,tup,↓reduceIte,zA,zG,zC,zD,zF,zE,zB,zH,reduceCtorEq]
  ·simp only[sy,tup,↓reduceIte,zA,zG,zC,zD,zF,zE,zB,zH,reduceCtorEq]
  rintro x ⟨t,HH,d⟩ ⟨rfl,hd',hH,q5⟩
  dsimp only at hd' hH q5
  subst hd';subst hH
  simp only[q5,un,sy,tup,↓reduceIte,zA,zG,zC,zD,zF,zE,zB,zH,reduceCtorEq]
  simp
 exact e
noncomputable def sumB (l:List Nat):Nat:=l.foldl (fun r x=>notN (crcZ (notN r) (byte x) 64)) 0
theorem sumB_app (l:List Nat) (x:Nat):sumB (l++[x])=notN (crcZ (notN (sumB l)) (byte x) 64):=by unfold sumB;rw[List.foldl_append,List.foldl_cons,List.foldl_nil]
theorem sumB_lt (l:List Nat):sumB l < 4294967296:=by
 unfold sumB
 suffices h:∀(l:List Nat) (r:Nat),r < 4294967296→l.foldl (fun r x=>notN (crcZ (notN r) (byte x) 64)) r < 4294967296 from h l 0 (by decide)
 intro l
 induction l with
 | nil=>intro r h;rw[List.foldl_nil];exact h
 | cons x l ih=>intro r h;rw[List.foldl_cons];exact ih _ (notN_lt (crcZ_lt (notN_lt h) (fun i _=>byte_lt _ _)))
theorem usum {lf:Nat} (hlf:1000 < lf) {G:Heap} {v:V} {l:List Nat} (hl:∀ H,Turns Z G H→BlksAt H v l) (hs:l.length≤900) (n:Nat):ret (U lf K (n+3) 33 [v] G) fun v G'=>v=.int .u32 (sumB l:Int)∧Turns Z G G':=by
 have hloop:∀(t:T),t.getP (Tr.path 3)=some (.int .u32 0)→t.getP (Tr.path 6)=some v→t.getP (Tr.path 7)=some (.int .i64 (l.length:Int))→t.getP (Tr.path 8)=some (.int .i64 0) →
   wp (loopF (runC (U lf K (n+2)) lf c33_l0) lf ⟨t,G,[]⟩) fun x s=>x=.ex 0∧s.d=[]∧s.t.getP (Tr.path 3)=some (.int .u32 (sumB l:Int))∧Turns Z G s.H:=by
  intro t q3 q6 q7 q8
  refine wp_loopF (fun k s=>∃ i,k=l.length - i∧i≤l.length∧s.d=[]∧s.t.getP (Tr.path 3)=some (.int .u32 (sumB (l.take i):Int))∧s.t.getP (Tr.path 6)=some v∧s.t.getP (Tr.path 7)=some (.int .i64 (l.length:Int))∧s.t.getP (Tr.path 8)=some (.int .i64 (i:Int))∧Turns Z G s.H) ?_ lf l.length _ ⟨0,rfl,Nat.zero_le _,rfl,q3,q6,q7,q8,Turns.refl _ _⟩ (by omega)
  rintro k ⟨t,HH,d⟩ ⟨i,rfl,hi,rfl,q3,q6,q7,q8,hT⟩
  dsimp only at q3 q6 q7 q8 hT
  by_cases hlt:i < l.length
  ·have hlt':(i:Int) < (l.length:Int):=by omega
   obtain⟨nn,o,c,z,rfl,hld⟩:=(hl HH hT).get i hlt
   rw[ld_get] at hld
   have hsum:sumB (l.take (i+1))=notN (crcZ (notN (sumB (l.take i))) (byte l[i]) 64):=by rw[List.take_succ_eq_append_getElem hlt,sumB_app]
   have hw:IntKind.i64.wrap ((i:Int)+1)=((i+1:Nat):Int):=by rw[Go.Am.wrap_i64 (by omega)];rfl
   have hle:i+1≤l.length:=hlt
   obtain⟨H1,hH1⟩:∃ H1,(HH.add (.rows false 64 [[.blk 0]])).set (.run HH.next) (.rows false 64 [[.blk l[i]]])=H1:=⟨_,rfl⟩
   have hg1:H1.get (.run HH.next)=some (.rows false 64 [[.blk l[i]]]):=by rw[← hH1,Heap.get_set,if_pos rfl]
   have t1:Turns Z HH H1:=by rw[← hH1];repeat (first | exact Turns.refl _ _ | apply Turns.skip | apply Turns.addm | apply Turns.setb | apply Turns.setl | apply Turns.setr | refine Turns.setn ?_ _ (by omega) _ | refine Turns.trans ?_ (tF _))
   have em:=umore (K:=K) (sumB_lt (l.take i)) (H:=H1) (p:=⟨.run HH.next,0⟩) (len:=64) (cap:=64) (loose:=0) (c:=byte l[i]) (by decide) (fun j _=>byte_lt _ _) (fun j hj=>by rw[Nat.zero_add];exact load_byte hg1 hj) lf n (by omega)
   rw[← hsum] at em
   simp (maxDischargeDepth:=12) only[c33_l0,q3,q6,q7,q8,hlt',hle,hld,hH1,em,hw,sliceAF,bounds,boundD,oget,hv,ldO_one,stO_one,sy,tup,↓reduceIte,zA,zG,zC,zD,zF,zE,zB,zH,reduceCtorEq]
   exact⟨l.length - (i+1),by omega,i+1,rfl,hlt,trivial,by simp,by simp[q6],by simp[q7],by simp,hT.trans t1⟩
  ·have:i=l.length:=by omega
   subst this
   rw[List.take_length] at q3
   simp (maxDischargeDepth:=12) only[c33_l0,q3,q6,q7,q8,Int.lt_irrefl,hv,ldO_one,stO_one,sy,tup,↓reduceIte,zA,zG,zC,zD,zF,zE,zB,zH,reduceCtorEq]
   exact⟨trivial,trivial,trivial,hT⟩
 obtain⟨p,c,z,rfl⟩:=(hl G (Turns.refl Z G)).ex
 refine ret_callU rfl rfl c33_eq ?_
 simp (maxDischargeDepth:=12) only[c33,hv,ldO_one,stO_one,sy,tup,↓reduceIte,zA,zG,zC,zD,zF,zE,zB,zH,reduceCtorEq]
 refine wp_ctx (F:=fun r=>seqC _ _ _ (blockC _ r)) (hloop _ ?_ ?_ ?_ ?_) ?_
 ·simp only[sy,tup,↓reduceIte,zA,zG,zC,zD,zF,zE,zB,zH,reduceCtorEq]
 ·simp only[sy,tup,↓reduceIte,zA,zG,zC,zD,zF,zE,zB,zH,reduceCtorEq]
 ·simp only[sy,tup,↓reduceIte,zA,zG,zC,zD,zF,zE,zB,zH,reduceCtorEq]
 ·simp only[sy,tup,↓reduceIte,zA,zG,zC,zD,zF,zE,zB,zH,reduceCtorEq]
 rintro x ⟨t,HH,d⟩ ⟨rfl,rfl,q3,hT⟩
 dsimp only at q3 hT
 simp (maxDischargeDepth:=12) only[q3,hv,ldO_one,stO_one,sy,tup,↓reduceIte,zA,zG,zC,zD,zF,zE,zB,zH,reduceCtorEq]
 exact⟨trivial,.inr trivial,_,rfl,rfl,hT⟩
end
end Go.Proofs.YtabebpemfinejaaDoor.draft
namespace Go.Proofs.YtabebpemfinejaaDoor.draft
open Go.Am
noncomputable def c79:CFn:=⟨[.tmp (pp 2)],
 .seq (.reg [
 qo 1 (.m (boxF 4 (tt 0))) [pp 0],
 qo 2 (.p (S.get (.c (.bool false)))) []]) (
 .seq (.reg [
 qo 3 (.p (faddrF (tt 1) 0)) [pp 1],
 qo 4 (.r (loadF (tt 3) 1 .sc)) [pp 3],
 qo 5 (.p (eqcF true false [.int .u64] (tt 4) (.c (.int .u64 0)))) [pp 4],
 mv 6 5,
 qg 7 (.p (faddrF (tt 1) 1)) 6 true [pp 1],
 qg 8 (.r (loadF (tt 7) 1 .sc)) 6 true [pp 7],
 qg 9 (.p (arF .geq (tt 8) (ii 40))) 6 true [pp 8],
 qo 10 (.p (pickF (tt 6) (tt 9) (.c (.bool false)))) [pp 6,pp 9],
 mv 11 10,
 qg 12 (.p (faddrF (tt 1) 1)) 11 true [pp 1],
 qg 13 (.r (loadF (tt 12) 1 .sc)) 11 true [pp 12],
 qg 14 (.p (arF .leq (tt 13) (ii 256))) 11 true [pp 13],
 qo 15 (.p (pickF (tt 11) (tt 14) (.c (.bool false)))) [pp 11,pp 14],
 mv 16 15,
 qg 17 (.p (faddrF (tt 1) 2)) 16 true [pp 1],
 qg 18 (.r (loadF (tt 17) 1 .sc)) 16 true [pp 17],
 qg 19 (.p (arF .geq (tt 18) (.c (.int .u64 1)))) 16 true [pp 18],
 qo 20 (.p (pickF (tt 16) (tt 19) (.c (.bool false)))) [pp 16,pp 19],
 mv 21 20,
 qg 22 (.p (faddrF (tt 1) 2)) 21 true [pp 1],
 qg 23 (.r (loadF (tt 22) 1 .sc)) 21 true [pp 22],
 qg 24 (.p (arF .leq (tt 23) (.c (.int .u64 4611686018427387904)))) 21 true [pp 23],
 qo 25 (.p (pickF (tt 21) (tt 24) (.c (.bool false)))) [pp 21,pp 24],
 mv 26 25,
 qg 27 (.p (faddrF (tt 1) 3)) 26 true [pp 1],
 qg 28 (.r (loadF (tt 27) 1 .sc)) 26 true [pp 27],
 qg 29 (.p (arF .leq (tt 28) (.c (.int .u64 4611686018427387904)))) 26 true [pp 28],
 qo 30 (.p (pickF (tt 26) (tt 29) (.c (.bool false)))) [pp 26,pp 29],
 mv 2 30]) (
 .ret))⟩
theorem c79_eq:fnOf Tryd.prog 79=some c79:=by kernel_rfl
def mkV (id R first pos:Nat):List V:=[.int .u64 (id:Int),.int .i64 (R:Int),.int .u64 (first:Int),.int .u64 (pos:Int)]
structure MkOk (id R first pos:Nat):Prop where
 id:id≠0∧id < 18446744073709551616
 R:40≤R∧R≤256
 first:1≤first∧first≤4611686018427387904
 pos:pos≤4611686018427387904
section
variable {lf K:Nat} (hlf:1000 < lf)
include hlf
theorem unslot (G:Heap) {q:Nat} (n:Nat):U lf K (n+1) 36 [.int .u64 (q:Int)] G=some (.v (.int .i64 ((q % 8:Nat):Int)),G):=by
 have r1:arith .rem (.int .u64 (q:Int)) (.int .u64 8)=some (.int .u64 ((q % 8:Nat):Int)):=rem_u64 q 8 (by decide)
 have hlt:q % 8 < 8:=Nat.mod_lt _ (by decide)
 generalize q % 8=z at *
 have w2:IntKind.i64.wrap (z:Int)=(z:Int):=Go.Am.wrap_i64 (by omega)
 obtain⟨v,H',e',rfl,rfl⟩:ret (U lf K (n+1) 36 [.int .u64 (q:Int)] G) fun v H'=>v=.int .i64 (z:Int)∧H'=G:=by
  refine ret_callU rfl rfl c36_eq ?_
  simp only[c36,r1,w2,sy,tup,↓reduceIte,zA,zG,zC,zD,zF,zE,zB,zH,reduceCtorEq]
  simp
 exact e'
theorem umslot (G:Heap) {q:Nat} (n:Nat):U lf K (n+1) 55 [.int .u64 (q:Int)] G=some (.v (.int .i64 ((q % 2:Nat):Int)),G):=by
 have r1:arith .rem (.int .u64 (q:Int)) (.int .u64 2)=some (.int .u64 ((q % 2:Nat):Int)):=rem_u64 q 2 (by decide)
 have hlt:q % 2 < 2:=Nat.mod_lt _ (by decide)
 generalize q % 2=z at *
 have w2:IntKind.i64.wrap (z:Int)=(z:Int):=Go.Am.wrap_i64 (by omega)
 obtain⟨v,H',e',rfl,rfl⟩:ret (U lf K (n+1) 55 [.int .u64 (q:Int)] G) fun v H'=>v=.int .i64 (z:Int)∧H'=G:=by
  refine ret_callU rfl rfl c55_eq ?_
  simp only[c55,r1,w2,sy,tup,↓reduceIte,zA,zG,zC,zD,zF,zE,zB,zH,reduceCtorEq]
  simp
 exact e'
theorem ummay (G:Heap) {id R first pos:Nat} (h:MkOk id R first pos) (n:Nat):ret (U lf K (n+1) 79 [.agg (mkV id R first pos)] G) fun v G'=>v=.bool true∧Turns Z G G':=by
 obtain⟨⟨i1,_⟩,⟨r1,r2⟩,⟨f1,f2⟩,p1⟩:=h
 have k0:cut (mkV id R first pos) 0 1=some [.int .u64 (id:Int)]:=rfl
 have k1:cut (mkV id R first pos) 1 1=some [.int .i64 (R:Int)]:=rfl
 have k2:cut (mkV id R first pos) 2 1=some [.int .u64 (first:Int)]:=rfl
 have k3:cut (mkV id R first pos) 3 1=some [.int .u64 (pos:Int)]:=rfl
 have hw:width (mkV id R first pos)=4:=rfl
 have b0:((id:Int)==0)=false:=by rw[beq_eq_false_iff_ne];omega
 have g1:(40:Int)≤(R:Int):=by omega
 have g2:(R:Int)≤256:=by omega
 have g3:(1:Int)≤(first:Int):=by omega
 have g4:(first:Int)≤4611686018427387904:=by omega
 have g5:(pos:Int)≤4611686018427387904:=by omega
 refine ret_callU rfl rfl c79_eq ?_
 simp (maxDischargeDepth:=12) only[c79,hw,k0,k1,k2,k3,b0,g1,g2,g3,g4,g5,r1,r2,f1,f2,p1,hv,ldO_one,stO_one,sy,tup,↓reduceIte,zA,zG,zC,zD,zF,zE,zB,zH,reduceCtorEq]
 exact⟨trivial,.inr trivial,_,rfl,rfl,Turns.add Z G _⟩
end
end Go.Proofs.YtabebpemfinejaaDoor.draft
namespace Go.Proofs.YtabebpemfinejaaDoor.draft
open Go.Am
noncomputable def c54_l0:C:=.seq (.reg [
 qo 34 (.p (arF .lss (tt 33) (ii 4))) [pp 33]]) (
 .seq (.cond (tt 34) (.skip) (.exit 0)) (
 .seq (.block 1 (.seq (.reg [
 mv 35 33,
 qo 36 (.p (idxAF (tt 32) (tt 33) 4 1 .sc)) [pp 32,pp 33],
 mv 7 35,
 mv 8 36]) (
 .seq (.reg [
 mv 38 8,
 mv 39 7,
 qo 40 (.p (iaddrAF (.c (.ptr (some ⟨.run 0,0⟩))) (tt 39) 4 1)) [pp 39],
 qo 41 (.r (loadF (tt 40) 1 .sc)) [pp 40],
 qo 42 (.c (callF (ff 58) [(tt 38),(tt 41)])) [pp 38,pp 41],
 mv 37 42,
 qo 43 (.p (extF (tt 37) 0)) [pp 37],
 qo 44 (.p (extF (tt 37) 1)) [pp 37],
 mv 9 43,
 mv 10 44]) (
 .reg [
 mv 45 6,
 mv 46 9,
 qo 47 (.a (appF 1 1 (tt 45) (tt 46))) [pp 45,pp 46],
 mv 6 47])))) (
 .reg [
 qo 48 (.p (arF .add (tt 33) (ii 1))) [pp 33],
 mv 33 48])))
noncomputable def c54:CFn:=⟨[.cell (pp 4) 64 .bk,.tmp (pp 5)],
 .seq (.reg [
 qo 3 (.m (boxF 4 (tt 1))) [pp 1],
 qo 4 (.m (allocF 64 [.blk 0])) [],
 qo 5 (.p (S.get (ii 0))) []]) (
 .seq (.seq (.reg [
 mv 11 0,
 qo 12 (.p (arF .lss (tt 11) (.c (.int .u64 1)))) [pp 11],
 mv 13 12,
 mg 14 0 13 false,
 qg 15 (.p (arF .gtr (tt 14) (.c (.int .u64 4611686018427387904)))) 13 false [pp 14],
 qo 16 (.p (pickF (tt 13) (.c (.bool true)) (tt 15))) [pp 13,pp 15],
 mv 17 16,
 qg 18 (.r (loadF (tt 3) 4 .ag)) 17 false [pp 3],
 qg 19 (.c (callF (ff 79) [(tt 18)])) 17 false [pp 18],
 qg 20 (.p (unF .not (tt 19))) 17 false [pp 19],
 qo 21 (.p (pickF (tt 17) (.c (.bool true)) (tt 20))) [pp 17,pp 20]]) (
 .cond (tt 21) (.seq (.reg [
 qo 22 (.p (buildF [.blk 0] .bk [])) [],
 qn (.a (storeF (tt 4) (tt 22) 64)) [pp 4,pp 22],
 qo 5 (.p (S.get (ii 2))) []]) (
 .ret)) (.skip))) (
 .seq (.reg [
 qo 6 (.p (S.get (.c (.slice none 0 0 0)))) []]) (
 .seq (.seq (.reg [
 qo 23 (.p (faddrF (tt 3) 0)) [pp 3],
 qo 24 (.r (loadF (tt 23) 1 .sc)) [pp 23],
 qo 25 (.p (faddrF (tt 3) 1)) [pp 3],
 qo 26 (.r (loadF (tt 25) 1 .sc)) [pp 25],
 qo 27 (.p (convF .u64 (tt 26))) [pp 26],
 qo 28 (.p (faddrF (tt 3) 2)) [pp 3],
 qo 29 (.r (loadF (tt 28) 1 .sc)) [pp 28],
 qo 30 (.p (faddrF (tt 3) 3)) [pp 3],
 qo 31 (.r (loadF (tt 30) 1 .sc)) [pp 30],
 qo 32 (.p (buildF [.int .u64 0,.int .u64 0,.int .u64 0,.int .u64 0] .ag [(0,1,(tt 24)),(1,1,(tt 27)),(2,1,(tt 29)),(3,1,(tt 31))])) [pp 24,pp 27,pp 29,pp 31],
 qo 33 (.p (S.get (ii 0))) []]) (
 .block 0 (.loop c54_l0))) (
 .seq (.reg [
 mv 49 0,
 mv 50 6,
 qo 51 (.c (callF (ff 64) [(tt 49),(tt 50)])) [pp 49,pp 50],
 qo 52 (.p (extF (tt 51) 0)) [pp 51],
 qo 53 (.p (extF (tt 51) 1)) [pp 51],
 qn (.a (storeF (tt 4) (tt 52) 64)) [pp 4,pp 52],
 mv 5 53]) (
 .ret)))))⟩
theorem c54_eq:fnOf Tryd.prog 54=some c54:=by kernel_rfl
def mkN (id R first pos:Nat):Nat→Nat
 | 0=>id
 | 1=>R
 | 2=>first
 | _=>pos
def szM:Nat→Nat
 | 1=>2
 | _=>8
def markL (id R first pos:Nat):Nat→List Nat
 | 0=>[]
 | i+1=>markL id R first pos i++stl (dig (mkN id R first pos i)) (szM i) 0
theorem szM_le (i:Nat):1≤szM i∧szM i≤8:=by unfold szM;split<;>decide
theorem markL_len (id R first pos:Nat):∀ i,(markL id R first pos i).length≤8*i
 | 0=>Nat.le_refl _
 | i+1=>by
  have:=markL_len id R first pos i
  have:=(szM_le i).2
  unfold markL
  rw[List.length_append,stl_len];omega
section
variable {lf K:Nat} (hlf:1000 < lf)
include hlf
theorem ummarks {G G1:Heap} (hgl:G1.get (.run 0)=some (.rows true 4 (intsR [8,2,8,8]))) (h00:0 < G.next) {id R first pos:Nat} (h:MkOk id R first pos) (t1:Turns Z G G1) {V0 V4 V5:V} (n:Nat):∀ t:T,t.getP (Tr.path 6)=some (.slice none 0 0 0)→t.getP (Tr.path 32)=some (.agg [.int .u64 (id:Int),.int .u64 (R:Int),.int .u64 (first:Int),.int .u64 (pos:Int)])→t.getP (Tr.path 33)=some (.int .i64 0)→t.getP (Tr.path 0)=some V0→t.getP (Tr.path 4)=some V4 →
  wp (loopF (runC (U lf K (n+2)) lf c54_l0) lf ⟨t,G1,[]⟩) fun x s=>x=.ex 0∧s.d=[]∧s.t.getP (Tr.path 0)=some V0∧s.t.getP (Tr.path 4)=some V4∧∃ y,s.t.getP (Tr.path 6)=some y∧Lst G1 s.H 1 (rowsN (markL id R first pos 4)) y∧Turns Z G1 s.H:=by
 intro t q6 q32 q33 q0 q4
 obtain⟨⟨i1,i2⟩,⟨r1,r2⟩,⟨f1,f2⟩,p1⟩:=h
 refine wp_loopF (fun k s=>∃ i,k=4 - i∧i≤4∧s.d=[]∧s.t.getP (Tr.path 0)=some V0∧s.t.getP (Tr.path 4)=some V4∧s.t.getP (Tr.path 32)=some (.agg [.int .u64 (id:Int),.int .u64 (R:Int),.int .u64 (first:Int),.int .u64 (pos:Int)])∧s.t.getP (Tr.path 33)=some (.int .i64 (i:Int))∧∃ y,s.t.getP (Tr.path 6)=some y∧Lst G1 s.H 1 (rowsN (markL id R first pos i)) y∧Turns Z G1 s.H) ?_ lf 4 _ ⟨0,rfl,by omega,rfl,q0,q4,q32,q33,_,q6,Lst.nil _ _ _,Turns.refl _ _⟩ (by omega)
 rintro k ⟨t,HH,d⟩ ⟨i,rfl,hi,rfl,q0,q4,q32,q33,y,q6,hy,hT⟩
 dsimp only at q0 q4 q32 q33 q6 hy hT
 by_cases hlt:i < 4
 ·have hlt':(i:Int) < 4:=by omega
  have hle:i≤3:=by omega
  have hle':i+1≤4:=by omega
  have w1:IntKind.i64.wrap ((i:Int)+1)=((i+1:Nat):Int):=by rw[Go.Am.wrap_i64 (by omega)];omega
  have hcut:cut [V.int .u64 (id:Int),V.int .u64 (R:Int),V.int .u64 (first:Int),V.int .u64 (pos:Int)] i 1=some [.int .u64 (mkN id R first pos i:Int)]:=by
   have:i=0∨i=1∨i=2∨i=3:=by omega
   rcases this with rfl | rfl | rfl | rfl<;>rfl
  have hgl2:=(hT.same (.run 0) (Nat.lt_of_lt_of_le h00 t1.next) (fun h=>h)).trans hgl
  have hld:ldO (some (.rows true 4 (intsR [8,2,8,8]))) i 1=some [.int .i64 (szM i:Int)]:=by
   have:i=0∨i=1∨i=2∨i=3:=by omega
   rcases this with rfl | rfl | rfl | rfl<;>rfl
  have hsz:=szM_le i
  have hN:mkN id R first pos i < 18446744073709551616∧mkN id R first pos i / 256 ^ szM i=0:=by
   have:i=0∨i=1∨i=2∨i=3:=by omega
   rcases this with rfl | rfl | rfl | rfl
   ·exact⟨i2,Nat.div_eq_of_lt (Nat.lt_of_lt_of_le i2 (by decide))⟩
   ·exact⟨by show R < _;omega,Nat.div_eq_of_lt (Nat.lt_of_le_of_lt r2 (by decide))⟩
   ·exact⟨by show first < _;omega,Nat.div_eq_of_lt (Nat.lt_of_le_of_lt f2 (by decide))⟩
   ·exact⟨by show pos < _;omega,Nat.div_eq_of_lt (Nat.lt_of_le_of_lt p1 (by decide))⟩
  obtain⟨v2,G2,e2,t2,h2⟩:=u_pnput_ok (K:=K) HH (N:=mkN id R first pos i) hN.1 (s:=szM i) hsz (lf:=lf) (by omega) (n+1)
  obtain⟨q,rfl,hq,_⟩:∃ k,v2=.tuple [.slice (some ⟨.run k,0⟩) (szM i) (szM i) 0,.int .i64 0]∧BodyAt G2 k (dig (mkN id R first pos i)) (szM i)∧HH.next≤k:=by
   rcases h2 with ⟨_,h⟩ | ⟨h,_⟩
   ·exact h
   ·exact absurd hN.2 h
  have hy2:=hy.turns t2 (fun _ _ h=>h)
  have ls:(stl (dig (mkN id R first pos i)) (szM i) 0).length=szM i:=stl_len _ _ _
  have hll:=markL_len id R first pos i
  have n4:rowsN (stl (dig (mkN id R first pos i)) (szM i) 0)≠[]:=fun e=>by
   have:=List.map_eq_nil_iff.1 e
   rw[this] at ls
   simp at ls;omega
  obtain⟨G3,a2,hz,t3,_⟩:=hy2.app (by':=1) (x:=.slice (some ⟨.run q,0⟩) (szM i) (szM i) 0) (hT.trans t2).next (elems_bod hq (szM i) 0 (by omega)) (by rw[rowsN_len,ls];rfl) n4 (by decide) (by rw[rowsN_len,rowsN_len];omega) (by rw[rowsN_len,rowsN_len];omega)
  rw[← rowsN_app] at hz
  simp (maxDischargeDepth:=12) only[c54_l0,q32,q33,q6,hlt',hle,hle',hcut,hgl2,hld,e2,a2,w1,Nat.mul_one,iaddrAF,idxAF,hv,ldO_one,stO_one,sy,tup,↓reduceIte,zA,zG,zC,zD,zF,zE,zB,zH,reduceCtorEq]
  refine⟨4 - (i+1),by omega,i+1,rfl,by omega,trivial,by simp[q0],by simp[q4],by simp[q32],by simp,_,rfl,hz,?_⟩
  exact lst_away hy2 (hT.trans t2) (Nat.le_refl _) t3
 ·have:i=4:=by omega
  subst this
  have hnl:¬ (((4:Nat):Int) < 4):=by decide
  simp (maxDischargeDepth:=12) only[c54_l0,q32,q33,q6,hnl,hv,ldO_one,stO_one,sy,tup,↓reduceIte,zA,zG,zC,zD,zF,zE,zB,zH,reduceCtorEq]
  exact⟨trivial,trivial,by simp[q0],by simp[q4],y,rfl,hy,hT⟩
theorem markL_lt (id R first pos:Nat):∀ i,∀ x ∈ markL id R first pos i,x < 256
 | 0,x,h=>by cases h
 | i+1,x,h=>by
  unfold markL at h
  rcases List.mem_append.1 h with h | h
  ·exact markL_lt id R first pos i x h
  ·exact stl_lt hlf (dig_lt _) _ _ x h
noncomputable def markB (cnt id R first pos:Nat):Nat:=blkOf cnt (markL id R first pos 4)
theorem umark {G:Heap} (hgl:G.get (.run 0)=some (.rows true 4 (intsR [8,2,8,8]))) (h00:0 < G.next) {cnt id R first pos:Nat} (hc:1≤cnt∧cnt≤4611686018427387904) (h:MkOk id R first pos) (n:Nat):ret (U lf K (n+5) 54 [.int .u64 (cnt:Int),.agg (mkV id R first pos)] G) fun v G'=>v=.tuple [.blk (markB cnt id R first pos),.int .i64 0]∧Turns Z G G':=by
 have hw:width (mkV id R first pos)=4:=rfl
 have k0:cut (mkV id R first pos) 0 1=some [.int .u64 (id:Int)]:=rfl
 have k1:cut (mkV id R first pos) 1 1=some [.int .i64 (R:Int)]:=rfl
 have k2:cut (mkV id R first pos) 2 1=some [.int .u64 (first:Int)]:=rfl
 have k3:cut (mkV id R first pos) 3 1=some [.int .u64 (pos:Int)]:=rfl
 have k4:cut (mkV id R first pos) 0 4=some (mkV id R first pos):=rfl
 have g1:¬ (cnt:Int) < 1:=by omega
 have g2:¬ (4611686018427387904:Int) < (cnt:Int):=by omega
 have hR:=h.R
 have w1:IntKind.u64.wrap (R:Int)=(R:Int):=Go.Am.wrap_u64 (by omega)
 have t1:Turns Z G ((G.add (.rows false 4 [mkV id R first pos])).add (.rows false 64 [[.blk 0]])):=by repeat (first | exact Turns.refl _ _ | apply Turns.skip | apply Turns.addm | apply Turns.setb | apply Turns.setl | apply Turns.setr | refine Turns.setn ?_ _ (by omega) _ | refine Turns.trans ?_ (tF _))
 have hg1:((G.add (.rows false 4 [mkV id R first pos])).add (.rows false 64 [[.blk 0]])).get (.run G.next)=some (.rows false 4 [mkV id R first pos]):=by rw[Heap.get_add,if_neg (run_ne (by simp)),Heap.get_add,if_pos rfl]
 have hb1:((G.add (.rows false 4 [mkV id R first pos])).add (.rows false 64 [[.blk 0]])).get (.run (G.next+1))=some (.rows false 64 [[.blk 0]]):=by rw[Heap.get_add,if_pos (by simp)]
 obtain⟨G1,hG1⟩:∃ G1,(G.add (.rows false 4 [mkV id R first pos])).add (.rows false 64 [[.blk 0]])=G1:=⟨_,rfl⟩
 have wo1:G1.Old (.run G.next):=by rw[← hG1];show _ < _+1+1;omega
 have bo1:G1.Old (.run (G.next+1)):=by rw[← hG1];show _ < _+1+1;omega
 rw[hG1] at t1 hg1 hb1
 obtain⟨v2,G2,e2,rfl,t2⟩:=ummay hlf G1 h (K:=K) (n+3)
 have hg2:=(t2.same _ wo1 (fun h=>h)).trans hg1
 have hgl2:=((t1.trans t2).same (.run 0) h00 (fun h=>h)).trans hgl
 refine ret_callU rfl rfl c54_eq ?_
 simp (maxDischargeDepth:=12) only[c54,g1,g2,hw,hG1,hg1,k4,e2,hg2,k0,k1,k2,k3,w1,hv,ldO_one,stO_one,sy,tup,↓reduceIte,zA,zG,zC,zD,zF,zE,zB,zH,reduceCtorEq]
 refine wp_ctx (F:=fun r=>seqC _ _ _ (blockC _ r)) (ummarks hlf (n:=n+2) hgl2 h00 h (t1.trans t2) (V0:=.int .u64 (cnt:Int)) (V4:=.ptr (some ⟨.run (G.next+1),0⟩)) (V5:=.bool false) _ ?_ ?_ ?_ ?_ ?_) ?_
 ·simp only[sy,tup,↓reduceIte,zA,zG,zC,zD,zF,zE,zB,zH,reduceCtorEq]
 ·simp only[sy,tup,↓reduceIte,zA,zG,zC,zD,zF,zE,zB,zH,reduceCtorEq]
 ·simp only[sy,tup,↓reduceIte,zA,zG,zC,zD,zF,zE,zB,zH,reduceCtorEq]
 ·simp only[sy,tup,↓reduceIte,zA,zG,zC,zD,zF,zE,zB,zH,reduceCtorEq]
 ·simp only[sy,tup,↓reduceIte,zA,zG,zC,zD,zF,zE,zB,zH,reduceCtorEq]
 rintro x ⟨t,G3,d⟩ ⟨rfl,hd,q0,q4,y,q6,hy,t3⟩
 dsimp only at hd q0 q4 q6 hy t3
 subst hd
 have hlen:=markL_len id R first pos 4
 have hne:markL id R first pos 4≠[]:=fun e=>by
  have:(stl (dig (mkN id R first pos 3)) (szM 3) 0).length=8:=stl_len _ _ _
  unfold markL at e
  rw[List.append_eq_nil_iff] at e
  rw[e.2] at this
  cases this
 obtain⟨v4,G4,e4,t4,rfl⟩:=u_pput7_ok (K:=K) hy hne (by omega) (markL_lt hlf id R first pos 4) (N:=cnt) (by omega) (by omega) (lf:=lf) (by omega) n
 have hb4:=(((t2.trans t3).trans t4).same _ bo1 (fun h=>h)).trans hb1
 simp (maxDischargeDepth:=12) only[q0,q4,q6,e4,hb4,hv,ldO_one,stO_one,sy,tup,↓reduceIte,zA,zG,zC,zD,zF,zE,zB,zH,reduceCtorEq]
 refine⟨trivial,.inr trivial,_,rfl,rfl,?_⟩
 exact((((t1.trans t2).trans t3).trans t4).setn _ (by omega) _)
end
end Go.Proofs.YtabebpemfinejaaDoor.draft
namespace Go.Proofs.YtabebpemfinejaaDoor.draft
open Go.Am
open disk (Bn)
def recS (n:Nat):Nat:=(n+15) / 16+n
def Chain:Nat→Nat→List Nt→Nat→Prop
 | _,p,[],h=>p=h
 | f,p,n::N,h=>n.seq=f∧n.pos=p∧(1≤n.cells∧n.cells≤32)∧n.sum < 4294967296∧Chain (f+1) (p+recS n.cells) N h
theorem Chain.le:∀ {N:List Nt} {f p h:Nat},Chain f p N h→p≤h
 | [],_,_,_,e=>Nat.le_of_eq e
 | n::N,f,p,h,⟨_,_,_,_,c⟩=>Nat.le_trans (Nat.le_add_right _ _) c.le
theorem Chain.app:∀ {N:List Nt} {f p h:Nat},Chain f p N h→∀ {n:Nt},n.seq=f+N.length→n.pos=h→(1≤n.cells∧n.cells≤32)→n.sum < 4294967296→Chain f p (N++[n]) (h+recS n.cells)
 | [],f,p,h,e,n,e1,e2,e3,e4=>by
  have e:p=h:=e
  subst e
  exact⟨e1,e2,e3,e4,rfl⟩
 | m::N,f,p,h,⟨c1,c2,c3,c4,c⟩,n,e1,e2,e3,e4=>⟨c1,c2,c3,c4,c.app (by rw[e1,List.length_cons];omega) e2 e3 e4⟩
def posAt (N:List Nt) (h g:Nat):Nat:=match N[g]? with
 | some n=>n.pos
 | none=>h
theorem posAt_lt {N:List Nt} {h g:Nat} (hg:g < N.length):posAt N h g=N[g].pos:=by unfold posAt;rw[List.getElem?_eq_getElem hg]
theorem posAt_ge {N:List Nt} {h g:Nat} (hg:N.length≤g):posAt N h g=h:=by unfold posAt;rw[List.getElem?_eq_none hg]
theorem Chain.drop:∀ {N:List Nt} {f p h:Nat},Chain f p N h→∀ g,g≤N.length→Chain (f+g) (posAt N h g) (N.drop g) h∧p≤posAt N h g
 | [],f,p,h,e,g,hg=>by
  have:g=0:=by simpa using hg
  subst this
  exact⟨rfl,Nat.le_of_eq e⟩
 | n::N,f,p,h,c,0,_=>by
  rw[posAt_lt (by simp)]
  have e:n.pos=p:=c.2.1
  refine⟨?_,by simp[e]⟩
  simp only[List.getElem_cons_zero,List.drop_zero,Nat.add_zero,e]
  exact c
 | n::N,f,p,h,⟨c1,c2,c3,c4,c⟩,g+1,hg=>by
  obtain⟨h1,h2⟩:=c.drop g (by simpa using hg)
  have e:posAt (n::N) h (g+1)=posAt N h g:=by unfold posAt;rw[List.getElem?_cons_succ]
  rw[e,List.drop_succ_cons,show f+(g+1)=f+1+g by omega]
  exact⟨h1,by omega⟩
theorem Chain.get:∀ {N:List Nt} {f p h:Nat},Chain f p N h→∀ i (hi:i < N.length),N[i].seq=f+i∧p≤N[i].pos∧N[i].pos+recS N[i].cells≤h∧(1≤N[i].cells∧N[i].cells≤32)∧N[i].sum < 4294967296
 | n::N,f,p,h,⟨c1,c2,c3,c4,c⟩,0,_=>by
  have:=c.le
  exact⟨c1,Nat.le_of_eq c2.symm,by show n.pos+_≤h;rw[c2];exact this,c3,c4⟩
 | n::N,f,p,h,⟨c1,c2,c3,c4,c⟩,i+1,hi=>by
  obtain⟨h1,h2,h3⟩:=c.get i (by simpa using hi)
  simp only[List.getElem_cons_succ]
  exact⟨by rw[h1];omega,by omega,h3⟩
def devB (S:List Nat) (L:List (Nat × Nat)) (st:Nat):Bn:=⟨[⟨S,L,false⟩],(st:Int),0,false⟩
def stD (x:List Nat × List (Nat × Nat)):Stp→List Nat × List (Nat × Nat)
 | .wr n v=>(x.1,x.2++[(n,v)])
 | .fl=>(disk.flushS x.1 x.2,[])
def stepsD (x:List Nat × List (Nat × Nat)) (l:List Stp):List Nat × List (Nat × Nat):=l.foldl stD x
def Inside (n:Nat) (l:List Stp):Prop:=∀ s ∈ l,∀ m x,s=.wr m x→m < n
theorem devB_rc (S:List Nat) (L:List (Nat × Nat)) (st:Nat) {n:Nat} (hn:n < S.length):(devB S L st).rc 0 (n:Int)=0:=by
 unfold disk.Bn.rc
 have hl:(devB S L st).lc 0=0:=rfl
 rw[if_pos hl]
 exact disk.code_ok (D:=⟨S,L,false⟩) (by show ¬ ((n:Int) < 0∨(S.length:Int)≤(n:Int));omega) rfl
theorem devB_wr (S:List Nat) (L:List (Nat × Nat)) (st:Nat) {n:Nat} (hn:n < S.length) (x:Nat):stepC (devB S L st) (.wr n x)=0∧stepB (devB S L st) (.wr n x)=devB S (L++[(n,x)]) (st+1):=by
 have h:=devB_rc S L st hn
 constructor
 ·show disk.Bn.wc _ _ _=0
  unfold disk.Bn.wc
  rw[if_pos h];rfl
 ·show disk.Bn.write _ _ _ _=_
  unfold disk.Bn.write
  rw[if_pos h]
  have hc:disk.code ⟨S,L,false⟩ (n:Int)=0:=disk.code_ok (D:=⟨S,L,false⟩) (by show ¬ ((n:Int) < 0∨(S.length:Int)≤(n:Int));omega) rfl
  have hd:(devB S L st).dev 0=⟨S,L,false⟩:=rfl
  rw[hd]
  have hw:disk.Dev.write ⟨S,L,false⟩ (n:Int) x=⟨S,L++[(n,x)],false⟩:=by
   unfold disk.Dev.write
   rw[if_pos hc];rfl
  rw[hw]
  show disk.Bn.step _ _ _=_
  unfold disk.Bn.step
  rw[if_neg (show ¬ (devB S L st).ar=1 by show ¬ (0:Int)=1;decide)]
  rfl
theorem devB_fl (S:List Nat) (L:List (Nat × Nat)) (st:Nat) (hn:S≠[]):stepC (devB S L st) .fl=0∧stepB (devB S L st) .fl=devB (disk.flushS S L) [] (st+1):=by
 have hp:0 < S.length:=List.length_pos_iff.2 hn
 have h:(devB S L st).rc 0 0=0:=devB_rc S L st (n:=0) hp
 constructor
 ·show disk.Bn.wc _ _ _=0
  unfold disk.Bn.wc
  rw[if_pos h];rfl
 ·show disk.Bn.flush _ _=_
  unfold disk.Bn.flush
  rw[if_pos h]
  show disk.Bn.step _ _ _=_
  unfold disk.Bn.step
  rw[if_neg (show ¬ (devB S L st).ar=1 by show ¬ (0:Int)=1;decide)]
  rfl
theorem stepsD_len:∀(l:List Stp) (x:List Nat × List (Nat × Nat)),(stepsD x l).1.length=x.1.length
 | [],_=>rfl
 | s::l,x=>by
  show (stepsD (stD x s) l).1.length=_
  rw[stepsD_len l]
  cases s with
  | wr n v=>rfl
  | fl=>exact disk.flushS_length _ _
theorem devB_run:∀(l:List Stp) (S:List Nat) (L:List (Nat × Nat)) (st:Nat),S≠[]→Inside S.length l→doneC (devB S L st) l=0∧doneB (devB S L st) l=devB (stepsD (S,L) l).1 (stepsD (S,L) l).2 (st+l.length)
 | [],S,L,st,_,_=>⟨rfl,rfl⟩
 | .wr n x::l,S,L,st,hS,hI=>by
  obtain⟨e1,e2⟩:=devB_wr S L st (hI _ (List.mem_cons_self ..) n x rfl) x
  obtain⟨i1,i2⟩:=devB_run l S (L++[(n,x)]) (st+1) hS (fun s hs=>hI s (List.mem_cons_of_mem _ hs))
  unfold doneC doneB
  rw[if_pos e1,if_pos e1,e2,i1,i2]
  refine⟨rfl,?_⟩
  rw[List.length_cons,show st+1+l.length=st+(l.length+1) by omega]
  rfl
 | .fl::l,S,L,st,hS,hI=>by
  obtain⟨e1,e2⟩:=devB_fl S L st hS
  have hl:=disk.flushS_length L S
  have hS':disk.flushS S L≠[]:=fun e=>hS (List.length_eq_zero_iff.1 (by rw[← hl,e];rfl))
  obtain⟨i1,i2⟩:=devB_run l (disk.flushS S L) [] (st+1) hS' (fun s hs=>by rw[hl];exact hI s (List.mem_cons_of_mem _ hs))
  unfold doneC doneB
  rw[if_pos e1,if_pos e1,e2,i1,i2]
  refine⟨rfl,?_⟩
  rw[List.length_cons,show st+1+l.length=st+(l.length+1) by omega]
  rfl
theorem stepsD_app (x:List Nat × List (Nat × Nat)) (l k:List Stp):stepsD x (l++k)=stepsD (stepsD x l) k:=by unfold stepsD;rw[List.foldl_append]
theorem stepsD_fl (x:List Nat × List (Nat × Nat)) (l:List Stp):(stepsD x (l++[.fl])).2=[]:=by rw[stepsD_app];rfl
theorem devB_rm {S:List Nat} {st k:Nat} (hS:S≠[]) (hl:S.length≤512) (hk:k≤900) (hst:st+k≤100000):Rm k (devB S [] st):=by
 refine⟨(by intro e;cases e),Nat.le_of_ble_eq_true rfl,fun D hD=>?_,⟨by show (0:Int)≤0;decide,by show (0:Int)≤_;decide⟩,⟨by show (0:Int)≤(st:Int);omega,by show (st:Int)+_≤_;omega⟩⟩
 rw[show (devB S [] st).l=[⟨S,[],false⟩] from rfl,List.mem_singleton] at hD
 subst hD
 exact⟨hS,fun w hw=>absurd hw (by simp),hl,by simpa using hk⟩
end Go.Proofs.YtabebpemfinejaaDoor.draft
namespace Go.Proofs.YtabebpemfinejaaDoor.draft
open Go.Am
structure Cl where
 s:Int
 m:Int
 x:Nat
def rowC (c:Cl):List V:=[.int .i64 c.s,.int .i64 c.m,.blk c.x]
structure CellsAt (H:Heap) (pp:Option Ptr) (l:List Cl):Prop where
 has:l≠[]→∃ x ox ro rows,pp=some ⟨x,ox*66⟩∧H.Old x∧H.get x=some (.rows ro 66 rows)∧∀ i,(hi:i < l.length)→rows[ox+i]?=some (rowC l[i])
theorem CellsAt.turns {H H':Heap} {pp:Option Ptr} {l:List Cl} (h:CellsAt H pp l) {X:Bk→Prop} (k:Turns X H H') (hX:∀ c,H.Old c→(∃ ro rows,H.get c=some (.rows ro 66 rows))→¬ X c):CellsAt H' pp l:=⟨fun e=>by
 obtain⟨x,ox,ro,rows,hp,ho,hg,hr⟩:=h.has e
 exact⟨x,ox,ro,rows,hp,ho.mono k.next,(k.same x ho (hX x ho ⟨_,_,hg⟩)).trans hg,hr⟩⟩
theorem CellsAt.turnsZ {H H':Heap} {pp:Option Ptr} {l:List Cl} (h:CellsAt H pp l) (k:Turns Z H H'):CellsAt H' pp l:=h.turns k (fun _ _ _ h=>h)
theorem CellsAt.load {H:Heap} {pp:Option Ptr} {l:List Cl} (h:CellsAt H pp l) {i:Nat} (hi:i < l.length):∃ x ox,pp=some ⟨x,ox*66⟩∧∀ o k,o < 66→ldO (H.get x) (ox*66+i*66+o) k=cut (rowC l[i]) o k:=by
 obtain⟨x,ox,ro,rows,hp,ho,hg,hr⟩:=h.has (fun e=>by rw[e] at hi;simp at hi)
 refine⟨x,ox,hp,fun o k ho=>?_⟩
 show loadAt H ⟨x,ox*66+i*66+o⟩ k=_
 have e1:(ox*66+i*66+o) / 66=ox+i:=by omega
 have e2:(ox*66+i*66+o) % 66=o:=by omega
 rw[loadAt_eq hg (r:=rowC l[i]) (nth_of (by rw[e1];exact hr i hi)),e2]
def mayC (c:Cl):Bool:=mayP c.s c.m
theorem mayC_t {c:Cl} (h:mayC c=true):0≤c.s∧c.s < 64∧0≤c.m∧c.m < 16:=by
 unfold mayC mayP at h
 simp only[Bool.and_eq_true,decide_eq_true_eq] at h
 omega
theorem rowsK_get {A:List Nat} {q:Nat} (hq:q < A.length):(rowsK A)[q]?=some [.blk A[q]]:=by unfold rowsK;rw[List.getElem?_map,List.getElem?_eq_getElem hq];rfl
theorem rowsK_set (A:List Nat) (q x:Nat):rowsK (A.set q x)=(rowsK A).set q [.blk x]:=by unfold rowsK;rw[List.map_set]
theorem getD_get {A:List Nat} {q:Nat} (hq:q < A.length):A.getD q 0=A[q]:=by rw[List.getD_eq_getElem?_getD,List.getElem?_eq_getElem hq];rfl
theorem stK_byte {A:List Nat} {q j x:Nat} (hq:q < A.length) (hj:j < 64) (hx:x < 256):stO (some (.rows false 64 (rowsK A))) (q*64+j) [.int .u8 (x:Int)]=some (.rows false 64 (rowsK (A.set q (setByte (A.getD q 0) j x)))):=by
 have h0:Nat.div (q*64+j) 64=q:=by show (q*64+j) / 64=q;omega
 have h1:nth (rowsK A) q=some [.blk (A.getD q 0)]:=nth_of (by rw[rowsK_get hq,getD_get hq])
 have h2:Nat.mod (q*64+j) 64=j:=by show (q*64+j) % 64=j;omega
 have h3:put [.blk (A.getD q 0)] j [.int .u8 (x:Int)]=some [.blk (setByte (A.getD q 0) j x)]:=disk.put_byte _ _ _ hj hx
 unfold stO
 simp only[h0,h1,h2,h3,upd_eq]
 rw[rowsK_set]
theorem stK_blk {A:List Nat} {q:Nat} (hq:q < A.length) (x:Nat):stO (some (.rows false 64 (rowsK A))) (q*64) [.blk x]=some (.rows false 64 (rowsK (A.set q x))):=by
 have h0:Nat.div (q*64) 64=q:=by show (q*64) / 64=q;omega
 have h1:nth (rowsK A) q=some [.blk A[q]]:=nth_of (rowsK_get hq)
 have h2:Nat.mod (q*64) 64=0:=by show (q*64) % 64=0;omega
 have h3:put [.blk A[q]] 0 [.blk x]=some [.blk x]:=Di _ _ _
 unfold stO
 simp only[h0,h1,h2,h3,upd_eq]
 rw[rowsK_set]
theorem ldK {ro:Bool} {A:List Nat} {q:Nat} (hq:q < A.length):ldO (some (.rows ro 64 (rowsK A))) (q*64) 64=some [.blk A[q]]:=by
 have h0:Nat.div (q*64) 64=q:=by show (q*64) / 64=q;omega
 have h1:nth (rowsK A) q=some [.blk A[q]]:=nth_of (rowsK_get hq)
 have h2:Nat.mod (q*64) 64=0:=by show (q*64) % 64=0;omega
 unfold ldO
 simp only[h0,h1,h2]
 exact Dj _ _
theorem store_layK {w:Bk}:∀(xs:List Nat) (q o:Nat) (H:Heap) (A:List Nat) (hq:q < A.length),H.get w=some (.rows false 64 (rowsK A))→o+xs.length≤64→(∀ x ∈ xs,x < 256) →
  storeElems w 1 (rowsN xs) (q*64+o) H=some (match xs with | []=>H | _=>H.set w (.rows false 64 (rowsK (A.set q (layB (A.getD q 0) o xs)))))
 | [],q,o,H,A,hq,h,hl,hx=>rfl
 | x::xs,q,o,H,A,hq,h,hl,hx=>by
  rw[List.length_cons] at hl
  have st:=stK_byte (A:=A) hq (j:=o) (by omega) (hx x (List.mem_cons_self ..))
  have e1:storeAt H ⟨w,q*64+o⟩ [.int .u8 (x:Int)]=some (H.set w (.rows false 64 (rowsK (A.set q (setByte (A.getD q 0) o x))))):=by rw[st_get,h,st];rfl
  have hq':q < (A.set q (setByte (A.getD q 0) o x)).length:=by rw[List.length_set];exact hq
  have ih:=store_layK (w:=w) xs q (o+1) (H.set w (.rows false 64 (rowsK (A.set q (setByte (A.getD q 0) o x))))) _ hq' (by rw[Heap.get_set,if_pos rfl]) (by omega) (fun z hz=>hx z (List.mem_cons_of_mem _ hz))
  show (match storeAt H ⟨w,q*64+o⟩ [.int .u8 (x:Int)] with | some H'=>storeElems w 1 (rowsN xs) (Nat.add (q*64+o) 1) H' | none=>none)=_
  rw[e1]
  show storeElems w 1 (rowsN xs) (q*64+o+1) _=_
  rw[show q*64+o+1=q*64+(o+1) by omega,ih]
  cases xs with
  | nil=>rfl
  | cons y ys=>
   simp only
   rw[getD_get hq',List.getElem_set_self,List.set_set,Heap.set_set]
   rfl
def headsN (n:Nat):Nat:=(n+15) / 16
def noC:Cl:=⟨0,0,0⟩
def placeL (c:Cl):List Nat:=[dig c.s.toNat 0,dig c.s.toNat 1,c.m.toNat]
def hdN (l:List Cl):Nat→Nat→Nat
 | 0,_=>0
 | i+1,q=>if q=i / 16 then layB (hdN l i q) (i % 16*4) (placeL (l.getD i noC)) else hdN l i q
def outA (l:List Cl) (i:Nat):List Nat:=(List.range (headsN l.length+l.length)).map fun k=>if k < headsN l.length then hdN l i k else if k < headsN l.length+i then(l.getD (k - headsN l.length) noC).x else 0
def recL (l:List Cl):List Nat:=outA l l.length
theorem outA_len (l:List Cl) (i:Nat):(outA l i).length=headsN l.length+l.length:=by unfold outA;simp
theorem recL_len (l:List Cl):(recL l).length=recS l.length:=outA_len l _
theorem outA_get (l:List Cl) (i k:Nat) (h:k < (outA l i).length):(outA l i)[k]=if k < headsN l.length then hdN l i k else if k < headsN l.length+i then(l.getD (k - headsN l.length) noC).x else 0:=by
 have e:=List.getElem_map (f:=fun k=>if k < headsN l.length then hdN l i k else if k < headsN l.length+i then(l.getD (k - headsN l.length) noC).x else 0) (l:=List.range (headsN l.length+l.length)) (i:=k) (h:=h)
 rw[List.getElem_range] at e
 exact e
theorem outA_zero (l:List Cl):outA l 0=List.replicate (headsN l.length+l.length) 0:=by
 apply List.ext_getElem
 ·rw[outA_len,List.length_replicate]
 ·intro k h1 h2
  rw[outA_get,List.getElem_replicate]
  split
  ·rfl
  ·rw[if_neg (by omega)]
theorem outA_step {l:List Cl} {i:Nat} (hi:i < l.length) (hq:i / 16 < (outA l i).length) {X:Nat} (hX:X=layB ((outA l i).getD (i / 16) 0) (i % 16*4) (placeL l[i])):((outA l i).set (i / 16) X).set (headsN l.length+i) l[i].x=outA l (i+1):=by
 have hh:i / 16 < headsN l.length:=by unfold headsN;omega
 have hg:l.getD i noC=l[i]:=by rw[List.getD_eq_getElem?_getD,List.getElem?_eq_getElem hi];rfl
 apply List.ext_getElem
 ·simp[outA_len]
 ·intro k h1 h2
  rw[outA_get,List.getElem_set]
  by_cases e1:headsN l.length+i=k
  ·rw[if_pos e1,if_neg (by omega),if_pos (by omega),show k - headsN l.length=i by omega,hg]
  ·rw[if_neg e1,List.getElem_set]
   by_cases e2:i / 16=k
   ·rw[if_pos e2,if_pos (by omega)]
    show _=if k=i / 16 then _ else _
    rw[if_pos e2.symm,hg,hX,getD_get hq,outA_get,if_pos hh]
    subst e2;rfl
   ·rw[if_neg e2,outA_get]
    by_cases e3:k < headsN l.length
    ·rw[if_pos e3,if_pos e3]
     show _=if k=i / 16 then _ else _
     rw[if_neg (Ne.symm e2)]
    ·rw[if_neg e3,if_neg e3]
     by_cases e4:k < headsN l.length+i
     ·rw[if_pos e4,if_pos (by omega)]
     ·rw[if_neg e4,if_neg (by omega)]
end Go.Proofs.YtabebpemfinejaaDoor.draft
namespace Go.Proofs.YtabebpemfinejaaDoor.draft
open Go.Am
theorem getD_set (S:List Nat) (i x n:Nat) (hi:i < S.length):(S.set i x).getD n 0=if n=i then x else S.getD n 0:=by
 rw[List.getD_eq_getElem?_getD,List.getD_eq_getElem?_getD]
 by_cases e:n=i
 ·subst e;rw[List.getElem?_set_self hi,if_pos rfl];rfl
 ·rw[List.getElem?_set_ne (Ne.symm e),if_neg e]
theorem flushS_app (S:List Nat) (L M:List (Nat × Nat)):disk.flushS S (L++M)=disk.flushS (disk.flushS S L) M:=by unfold disk.flushS;rw[List.foldl_append]
theorem flushS_miss:∀(L:List (Nat × Nat)) (S:List Nat) (n:Nat),(∀ w ∈ L,w.1≠n)→(disk.flushS S L).getD n 0=S.getD n 0
 | [],S,n,_=>rfl
 | w::L,S,n,h=>by
  show (disk.flushS (S.set w.1 w.2) L).getD n 0=_
  rw[flushS_miss L _ n (fun w hw=>h w (List.mem_cons_of_mem _ hw)),List.getD_eq_getElem?_getD,List.getElem?_set_ne (h w (List.mem_cons_self ..)),← List.getD_eq_getElem?_getD]
theorem flushS_hit (L M:List (Nat × Nat)) (S:List Nat) (n x:Nat) (hn:n < S.length) (h:∀ w ∈ M,w.1≠n):(disk.flushS S (L++(n,x)::M)).getD n 0=x:=by
 rw[flushS_app]
 show (disk.flushS ((disk.flushS S L).set n x) M).getD n 0=x
 rw[flushS_miss M _ n h,getD_set _ _ _ _ (by rw[disk.flushS_length];exact hn),if_pos rfl]
def recW (R p:Nat) (A:List Nat):List (Nat × Nat):=(List.range A.length).map fun j=>((p+j) % R+10,A.getD j 0)
theorem mod_ne {R a b:Nat} (h1:a < b) (h2:b - a < R):a % R≠b % R:=fun e=>by
 have hR:0 < R:=by omega
 have e1:=Nat.div_add_mod a R
 have e2:=Nat.div_add_mod b R
 rw[e] at e1
 have:R*(a / R) < R*(b / R):=by omega
 have h3:a / R < b / R:=Nat.lt_of_mul_lt_mul_left this
 have h4:R*(a / R)+R≤R*(b / R):=by
  have:=Nat.mul_le_mul_left R h3
  rw[Nat.mul_succ] at this
  exact this
 omega
theorem recW_hit {R p:Nat} {A:List Nat} (hA:A.length≤R) {S:List Nat} (hS:R+10≤S.length) {j:Nat} (hj:j < A.length):(disk.flushS S (recW R p A)).getD ((p+j) % R+10) 0=A[j]:=by
 have hR:0 < R:=by omega
 have hm:(p+j) % R < R:=Nat.mod_lt _ hR
 have e:recW R p A=(List.range j).map (fun j=>((p+j) % R+10,A.getD j 0))++((p+j) % R+10,A.getD j 0)::(List.range (A.length - j - 1)).map (fun i=>((p+(j+1+i)) % R+10,A.getD (j+1+i) 0)):=by
  unfold recW
  apply List.ext_getElem
  ·simp;omega
  ·intro i h1 h2
   simp only[List.length_map,List.length_range] at h1
   rw[List.getElem_map,List.getElem_range,List.getElem_append]
   split
   ·rw[List.getElem_map,List.getElem_range]
   ·rename_i hi
    simp only[List.length_map,List.length_range] at hi ⊢
    rcases Nat.eq_or_lt_of_le (show j≤i by omega) with rfl | hlt
    ·simp
    ·rw[List.getElem_cons,dif_neg (by omega),List.getElem_map,List.getElem_range,show j+1+(i - j - 1)=i by omega]
 rw[e,flushS_hit _ _ _ _ _ (by omega),List.getD_eq_getElem?_getD,List.getElem?_eq_getElem hj]
 ·rfl
 ·intro w hw
  obtain⟨i,hi,rfl⟩:=List.mem_map.1 hw
  have hi:=List.mem_range.1 hi
  have:=mod_ne (R:=R) (a:=p+j) (b:=p+(j+1+i)) (by omega) (by omega)
  show (p+(j+1+i)) % R+10≠(p+j) % R+10
  omega
theorem recW_miss {R p:Nat} {A:List Nat} {S:List Nat} {n:Nat} (h:∀ j,j < A.length→(p+j) % R+10≠n):(disk.flushS S (recW R p A)).getD n 0=S.getD n 0:=flushS_miss _ _ _ fun w hw=>by
 obtain⟨i,hi,rfl⟩:=List.mem_map.1 hw
 exact h i (List.mem_range.1 hi)
def Fine (c:Cl):Prop:=mayC c=true∧c.x < 256 ^ 64
structure Held (R:Nat) (S:List Nat) (N:List Nt) (C:List (List Cl)):Prop where
 len:C.length=N.length
 recs:∀ i (h:i < N.length) (h':i < C.length),C[i].length=N[i].cells∧N[i].sum=sumB (recL C[i])∧(∀ c ∈ C[i],Fine c)∧∀ j (hj:j < (recL C[i]).length),S.getD ((N[i].pos+j) % R+10) 0=(recL C[i])[j]
theorem Held.drop {R:Nat} {S:List Nat} {N:List Nt} {C:List (List Cl)} (h:Held R S N C) (g:Nat):Held R S (N.drop g) (C.drop g):=by
 refine⟨by rw[List.length_drop,List.length_drop,h.len],fun i h1 h2=>?_⟩
 rw[List.length_drop] at h1 h2
 rw[List.getElem_drop,List.getElem_drop]
 exact h.recs (g+i) (by omega) (by omega)
theorem Held.same {R:Nat} {S S':List Nat} {N:List Nt} {C:List (List Cl)} (h:Held R S N C) (hS:∀ n,10≤n→S'.getD n 0=S.getD n 0):Held R S' N C:=
 ⟨h.len,fun i h1 h2=>by
  obtain⟨e1,e2,e3,e4⟩:=h.recs i h1 h2
  exact⟨e1,e2,e3,fun j hj=>by rw[hS _ (by omega)];exact e4 j hj⟩⟩
theorem Held.app {R:Nat} {S:List Nat} {N:List Nt} {C:List (List Cl)} (h:Held R S N C) {f t hd:Nat} (hc:Chain f t N hd) {l:List Cl} (hf:∀ c ∈ l,Fine c) (hfit:hd - t+recS l.length≤R) (hS:R+10≤S.length) {n:Nt} (e1:n.pos=hd) (e2:n.cells=l.length) (e3:n.sum=sumB (recL l)) :
  Held R (disk.flushS S (recW R hd (recL l))) (N++[n]) (C++[l]):=by
 have hl:=h.len
 have hrl:=recL_len l
 have hle:=hc.le
 refine⟨by simp[hl],fun i h1 h2=>?_⟩
 rw[List.length_append,List.length_singleton] at h1 h2
 by_cases hi:i < N.length
 ·rw[List.getElem_append_left hi,List.getElem_append_left (by omega)]
  obtain⟨a1,a2,a3,a4⟩:=h.recs i hi (by omega)
  refine⟨a1,a2,a3,fun j hj=>?_⟩
  rw[recW_miss,a4 j hj]
  intro k hk
  obtain⟨_,b2,b3,_⟩:=hc.get i hi
  rw[recL_len,a1] at hj
  have hj:j < recS N[i].cells:=hj
  have:=mod_ne (R:=R) (a:=N[i].pos+j) (b:=hd+k) (by omega) (by omega)
  omega
 ·have:i=N.length:=by omega
  subst this
  have g1:(N++[n])[N.length]'(by simp)=n:=by simp
  have g2:(C++[l])[N.length]'(by simp[hl])=l:=by simp[← hl]
  rw[g1,g2]
  refine⟨e2.symm,e3,hf,fun j hj=>?_⟩
  rw[e1]
  exact recW_hit (by omega) hS hj
end Go.Proofs.YtabebpemfinejaaDoor.draft
namespace Go.Proofs.YtabebpemfinejaaDoor.draft
open Go.Am
open disk (bx Fit A1 R1 Low Bn)
noncomputable def c28:CFn:=⟨[.tmp (pp 8)],
 .seq (.reg [
 qo 8 (.p (S.get (ii 0))) []]) (
 .seq (.regD [
 mv 12 1,
 mv 13 0,
 qo 14 (.p (nilcF (tt 13))) [pp 13],
 qo 15 (.p (faddrF (tt 14) 2)) [pp 14],
 qo 16 (.r (loadF (tt 15) 1 .sc)) [pp 15],
 mv 17 0,
 qo 18 (.p (nilcF (tt 17))) [pp 17],
 qo 19 (.p (faddrF (tt 18) 3)) [pp 18],
 qo 20 (.r (loadF (tt 19) 1 .sc)) [pp 19],
 mv 21 2,
 mv 22 3,
 qo 23 (.p (buildF [.int .u64 0,.int .i64 0,.int .u64 0,.int .u64 0] .ag [(0,1,(tt 16)),(1,1,(tt 20)),(2,1,(tt 21)),(3,1,(tt 22))])) [pp 16,pp 20,pp 21,pp 22],
 qo 24 (.c (callF (ff 54) [(tt 12),(tt 23)])) [pp 12,pp 23],
 mv 11 24,
 qo 25 (.p (extF (tt 11) 0)) [pp 11],
 qo 26 (.p (extF (tt 11) 1)) [pp 11],
 qo 9 (.m (allocF 64 [.blk 0])) [],
 qn (.a (storeF (tt 9) (tt 25) 64)) [pp 9,pp 25],
 mv 10 26] [0,0,2,6,14,0,32,96,224,0,0,2046,4095,8191,16383,16383,0,98303,262143]) (
 .seq (.regD [
 mv 27 0,
 mv 28 1,
 qo 29 (.c (callF (ff 55) [(tt 28)])) [pp 28],
 qo 30 (.r (loadF (tt 9) 64 .bk)) [pp 9],
 qo 31 (.c (callF (ff 32) [(tt 27),(tt 29),(tt 30)])) [pp 27,pp 29,pp 30],
 mv 32 0,
 qo 33 (.p (mkfnF (.func 35) [(tt 32)] [])) [pp 32],
 qo 34 (.m (bsliceF 2 1 [.nilFunc] [(0,1,(tt 31)),(1,1,(tt 33))])) [pp 31,pp 33],
 qo 35 (.c (callF (ff 37) [(tt 34)])) [pp 34],
 mv 8 35] [0,0,2,0,15,0,32,127,255,511]) (
 .ret)))⟩
theorem c28_eq:fnOf Tryd.prog 28=some c28:=by kernel_rfl
theorem rep2 {α:Type} (z:α):List.replicate 2 z=[z,z]:=rfl
theorem rep3 {α:Type} (z:α):List.replicate 3 z=[z,z,z]:=rfl
theorem upd_at1 {α:Type} (v a b:α) (l:List α):upd v (a::b::l) 1=a::v::l:=rfl
theorem upd_at2 {α:Type} (v a b c:α) (l:List α):upd v (a::b::c::l) 2=a::b::v::l:=rfl
section
variable {lf K:Nat} (hlf:1000 < lf)
include hlf
theorem ulmark {G:Heap} (hgl:G.get (.run 0)=some (.rows true 4 (intsR [8,2,8,8]))) (h00:0 < G.next) {l b:Bk} {id R cnt first tail head:Nat} {v:V} (hg:G.get l=some (.rows false 9 [lcells b id R cnt first tail head v])) (ho:G.Old l) (bo:G.Old b) (lb:l≠b) {B:Bn} (hb:G.get b=some (bx false B)) (hR:Rm 2 B)
  {cn f p:Nat} (hc:1≤cn∧cn≤4611686018427387904) (hm:MkOk id R f p) (n:Nat) :
  ret (U lf K (n+6) 28 [.ptr (some ⟨l,0⟩),.int .u64 (cn:Int),.int .u64 (f:Int),.int .u64 (p:Int)] G) fun v G'=>v=.int .i64 (doneC B [Stp.wr (cn % 2) (markB cn id R f p),Stp.fl])∧G'.get b=some (bx false (doneB B [Stp.wr (cn % 2) (markB cn id R f p),Stp.fl]))∧Turns (fun c=>c=b) G G':=by
 have k2:cut (lcells b id R cnt first tail head v) 2 1=some [.int .u64 (id:Int)]:=rfl
 have k3:cut (lcells b id R cnt first tail head v) 3 1=some [.int .i64 (R:Int)]:=rfl
 obtain⟨v1,G1,e1,rfl,t1⟩:=umark hlf hgl h00 hc hm (K:=K) n
 unfold mkV at e1
 obtain⟨X,hX⟩:∃ X,X=markB cn id R f p:=⟨_,rfl⟩
 rw[← hX] at e1 ⊢
 obtain⟨m,hm2⟩:∃ m,m=cn % 2:=⟨_,rfl⟩
 have eS:=fun H=>umslot hlf (K:=K) H (q:=cn) (n+4)
 rw[← hm2] at eS ⊢
 have t2:Turns Z G ((G1.add (.rows false 64 [[.blk 0]])).set (.run G1.next) (.rows false 64 [[.blk X]])):=by
  refine Turns.setn ?_ _ (by have:=t1.next;omega) _
  exact t1.addm _
 obtain⟨G2,hG2⟩:∃ G2,(G1.add (.rows false 64 [[.blk 0]])).set (.run G1.next) (.rows false 64 [[.blk X]])=G2:=⟨_,rfl⟩
 have hx2:G2.get (.run G1.next)=some (.rows false 64 [[.blk X]]):=by rw[← hG2,Heap.get_set,if_pos rfl]
 have n2:G2.next=G1.next+1:=by rw[← hG2];rfl
 rw[hG2] at t2
 obtain⟨v3,G3,e3,hs,t3⟩:=ulput hlf (K:=K) G2 l m X (n+4)
 have t23:=t2.trans t3
 have hs0:=hs
 obtain⟨a1,a2,a3,rfl,g1,g2,g3,l1,l2,l3,h1,h2,h3⟩:=hs0
 have hw0:((G3.add (.rows false 1 [[.func (.func 60) [] [.ptr (some ⟨.run a1,0⟩),.ptr (some ⟨.run a2,0⟩),.ptr (some ⟨.run a3,0⟩)]],[.func (.func 35) [.ptr (some ⟨l,0⟩)] []]])) ).get (.run G3.next)=some (.rows false 1 ([V.func (.func 60) [] [.ptr (some ⟨.run a1,0⟩),.ptr (some ⟨.run a2,0⟩),.ptr (some ⟨.run a3,0⟩)],.func (.func 35) [.ptr (some ⟨l,0⟩)] []].map fun v=>[v])):=by rw[Heap.get_add,if_pos rfl];rfl
 have t4:=Turns.add Z G3 (.rows false 1 [[.func (.func 60) [] [.ptr (some ⟨.run a1,0⟩),.ptr (some ⟨.run a2,0⟩),.ptr (some ⟨.run a3,0⟩)]],[.func (.func 35) [.ptr (some ⟨l,0⟩)] []]])
 obtain⟨G4,hG4⟩:∃ G4,G3.add (.rows false 1 [[.func (.func 60) [] [.ptr (some ⟨.run a1,0⟩),.ptr (some ⟨.run a2,0⟩),.ptr (some ⟨.run a3,0⟩)]],[.func (.func 35) [.ptr (some ⟨l,0⟩)] []]])=G4:=⟨_,rfl⟩
 have n4:G4.next=G3.next+1:=by rw[← hG4];rfl
 rw[hG4] at hw0 t4
 have hs4:=hs.turns t4 (fun _ _ _ h=>h)
 have t24:=t23.trans t4
 obtain⟨v5,G5,e5,rfl,hb5,t5⟩:=ulrun hlf (K:=K) (G:=G4) ((t24.same l ho (fun h=>h)).trans hg) (G0:=G) (b:=b) (w:=G3.next) (z:=0) (c:=2) (Vs:=[V.func (.func 60) [] [.ptr (some ⟨.run a1,0⟩),.ptr (some ⟨.run a2,0⟩),.ptr (some ⟨.run a3,0⟩)],.func (.func 35) [.ptr (some ⟨l,0⟩)] []]) (Ss:=[Stp.wr m X,Stp.fl]) rfl (show 2≤900 by decide) (fun i h1 h2=>by
   match i,h1 with
   | 0,_=>
    obtain⟨b1,b2,b3,e,j1,j2,j3,r⟩:=hs4
    have tn:=t2.next
    exact⟨b1,b2,b3,e,by omega,by omega,by omega,r⟩
   | 1,_=>rfl) hw0 ⟨by have:=t23.next;omega,by omega⟩ (ho.mono t24.next) lb bo (B:=B) ((t24.same b bo (fun h=>h)).trans hb) hR (n+2)
 refine ret_callU rfl rfl c28_eq ?_
 simp (maxDischargeDepth:=12) only[c28,hg,k2,k3,e1,hv,ldO_one,stO_one,sy,tup,↓reduceIte,zA,zG,zC,zD,zF,zE,zB,zH,reduceCtorEq]
 rw[endD_ok (by kernel_rfl) (by kernel_rfl)]
 change U lf K (n+5) 37 [.slice (some ⟨.run G3.next,0⟩) 2 2 0] G4=_ at e5
 obtain⟨W,hW⟩:∃ W,W=doneC B [Stp.wr m X,Stp.fl]:=⟨_,rfl⟩
 rw[← hW] at e5 ⊢
 simp (maxDischargeDepth:=12) only[hG2,eS,hx2,e3,rep2,upd_at1,hG4,e5,hv,ldO_one,stO_one,sy,tup,↓reduceIte,zA,zG,zC,zD,zF,zE,zB,zH,reduceCtorEq]
 obtain⟨Q,hQ⟩:∃ Q:List (Option V × Option V),Q=[(loadF (.t (Tr.path 9)) 64 .bk (Tr.setP (Tr.path 9) (.ptr (some ⟨.run G1.next,0⟩)) .e) G2,some (.blk X)),(loadF (.t (Tr.path 9)) 64 .bk (Tr.setP (Tr.path 9) (.ptr (some ⟨.run G1.next,0⟩)) .e) G2,some (.blk X))]:=⟨_,rfl⟩
 rw[endD_q (q:=Q) (by kernel_rfl) (by rw[hQ];kernel_rfl)]
 have hQ':∀ x ∈ Q,x.1=x.2:=by
  rw[hQ]
  intro x hx
  simp only[List.mem_cons,List.not_mem_nil,or_false] at hx
  rcases hx with rfl | rfl<;>simp (maxDischargeDepth:=12) only[hx2,hv,ldO_one,stO_one,sy,tup,↓reduceIte,zA,zG,zC,zD,zF,zE,zB,zH,reduceCtorEq]
 simp (maxDischargeDepth:=12) only[hv,ldO_one,stO_one,sy,tup,↓reduceIte,zA,zG,zC,zD,zF,zE,zB,zH,reduceCtorEq]
 exact⟨trivial,.inr trivial,_,rfl,rfl,hb5,((t24.wide (fun c h=>h.elim)).trans t5).owe hQ'⟩
end
end Go.Proofs.YtabebpemfinejaaDoor.draft
namespace Go.Proofs.YtabebpemfinejaaDoor.draft
open Go.Am
noncomputable def c29_l0:C:=.seq (.reg [
 qo 39 (.p (arF .lss (tt 38) (tt 37))) [pp 38,pp 37]]) (
 .seq (.cond (tt 39) (.skip) (.exit 2)) (
 .seq (.block 3 (.seq (.reg [
 mv 40 38,
 qo 41 (.p (iaddrSF (tt 36) (tt 38) 66)) [pp 36,pp 38],
 qo 42 (.r (loadF (tt 41) 66 .ag)) [pp 41],
 qo 8 (.m (allocF 66 [.int .i64 0,.int .i64 0,.blk 0])) [],
 mv 7 40,
 qn (.a (storeF (tt 8) (tt 42) 66)) [pp 8,pp 42]]) (
 .seq (.reg [
 mv 43 6,
 mv 44 7,
 qo 45 (.p (arF .quo (tt 44) (ii 16))) [pp 44],
 qo 46 (.p (iaddrSF (tt 43) (tt 45) 64)) [pp 43,pp 45],
 mv 47 7,
 qo 48 (.p (arF .rem (tt 47) (ii 16))) [pp 47],
 qo 49 (.p (arF .mul (tt 48) (ii 4))) [pp 48],
 qo 50 (.p (sliceAF 64 1 (tt 46) (some (tt 49)) none none)) [pp 46,pp 49],
 qo 51 (.p (sliceF 1 (tt 50) none (some (ii 4)) none)) [pp 50],
 mv 9 51]) (
 .seq (.reg [
 qo 53 (.p (faddrF (tt 8) 0)) [pp 8],
 qo 54 (.p (faddrF (tt 53) 0)) [pp 53],
 qo 55 (.r (loadF (tt 54) 1 .sc)) [pp 54],
 qo 56 (.p (convF .u64 (tt 55))) [pp 55],
 qo 57 (.c (callF (ff 58) [(tt 56),(ii 2)])) [pp 56],
 mv 52 57,
 qo 58 (.p (extF (tt 52) 0)) [pp 52],
 qo 59 (.p (extF (tt 52) 1)) [pp 52],
 mv 10 58,
 mv 11 59]) (
 .seq (.reg [
 mv 60 9,
 mv 61 10,
 qo 62 (.a (cpyF 1 (tt 60) (tt 61))) [pp 60,pp 61]]) (
 .seq (.reg [
 mv 63 9,
 qo 64 (.p (faddrF (tt 8) 0)) [pp 8],
 qo 65 (.p (faddrF (tt 64) 1)) [pp 64],
 qo 66 (.r (loadF (tt 65) 1 .sc)) [pp 65],
 qo 67 (.p (convF .u8 (tt 66))) [pp 66],
 qo 68 (.p (iaddrSF (tt 63) (ii 2) 1)) [pp 63],
 qn (.a (storeF (tt 68) (tt 67) 1)) [pp 68,pp 67]]) (
 .reg [
 mv 69 6,
 qo 70 (.p (faddrF (tt 8) 2)) [pp 8],
 qo 71 (.r (loadF (tt 70) 64 .bk)) [pp 70],
 qo 72 (.m (bsliceF 1 64 [.blk 0] [(0,64,(tt 71))])) [pp 71],
 qo 73 (.a (appF 64 64 (tt 69) (tt 72))) [pp 69,pp 72],
 mv 6 73]))))))) (
 .reg [
 qo 74 (.p (arF .add (tt 38) (ii 1))) [pp 38],
 mv 38 74])))
noncomputable def c29_l1:C:=.seq (.reg [
 qo 18 (.p (arF .lss (tt 17) (tt 16))) [pp 17,pp 16]]) (
 .seq (.cond (tt 18) (.skip) (.exit 0)) (
 .seq (.block 1 (.seq (.reg [
 qo 19 (.p (iaddrSF (tt 15) (tt 17) 66)) [pp 15,pp 17],
 qo 20 (.r (loadF (tt 19) 66 .ag)) [pp 19],
 qo 5 (.m (allocF 66 [.int .i64 0,.int .i64 0,.blk 0])) [],
 qn (.a (storeF (tt 5) (tt 20) 66)) [pp 5,pp 20]]) (
 .seq (.reg [
 qo 21 (.p (faddrF (tt 5) 0)) [pp 5],
 qo 22 (.r (loadF (tt 21) 2 .ag)) [pp 21],
 qo 23 (.c (callF (ff 56) [(tt 22)])) [pp 22],
 qo 24 (.p (unF .not (tt 23))) [pp 23]]) (
 .cond (tt 24) (.seq (.reg [
 qo 2 (.p (S.get (.c (.slice none 0 0 0)))) [],
 qo 3 (.p (S.get (ii 2))) []]) (
 .ret)) (.skip))))) (
 .reg [
 qo 25 (.p (arF .add (tt 17) (ii 1))) [pp 17],
 mv 17 25])))
noncomputable def c29:CFn:=⟨[.tmp (pp 2),.tmp (pp 3)],
 .seq (.reg [
 qo 2 (.p (S.get (.c (.slice none 0 0 0)))) [],
 qo 3 (.p (S.get (ii 0))) []]) (
 .seq (.seq (.reg [
 mv 12 0,
 qo 13 (.p (lenF (tt 12))) [pp 12],
 qo 14 (.p (eqcF false false [.int .i64] (tt 13) (ii 0))) [pp 13]]) (
 .cond (tt 14) (.seq (.reg [
 qo 2 (.p (S.get (.c (.slice none 0 0 0)))) [],
 qo 3 (.p (S.get (ii 2))) []]) (
 .ret)) (.skip))) (
 .seq (.seq (.reg [
 mv 15 0,
 qo 16 (.p (lenF (tt 15))) [pp 15],
 qo 17 (.p (S.get (ii 0))) []]) (
 .block 0 (.loop c29_l1))) (
 .seq (.seq (.reg [
 mv 26 0,
 qo 27 (.p (lenF (tt 26))) [pp 26],
 qo 28 (.p (arF .gtr (tt 27) (ii 32))) [pp 27]]) (
 .cond (tt 28) (.seq (.reg [
 qo 2 (.p (S.get (.c (.slice none 0 0 0)))) [],
 qo 3 (.p (S.get (ii 3))) []]) (
 .ret)) (.skip))) (
 .seq (.reg [
 mv 29 0,
 qo 30 (.p (lenF (tt 29))) [pp 29],
 qo 31 (.c (callF (ff 57) [(tt 30)])) [pp 30],
 mv 32 0,
 qo 33 (.p (lenF (tt 32))) [pp 32],
 qo 34 (.c (callF (ff 42) [(tt 33)])) [pp 33],
 qo 35 (.m (mksliceF 64 64 [.blk 0] (tt 31) (tt 34))) [pp 31,pp 34],
 mv 6 35]) (
 .seq (.seq (.reg [
 mv 36 0,
 qo 37 (.p (lenF (tt 36))) [pp 36],
 qo 38 (.p (S.get (ii 0))) []]) (
 .block 2 (.loop c29_l0))) (
 .seq (.reg [
 mv 75 6,
 mv 2 75,
 qo 3 (.p (S.get (ii 0))) []]) (
 .ret)))))))⟩
theorem c29_eq:fnOf Tryd.prog 29=some c29:=by kernel_rfl
def pcode (l:List Cl):Int:=if l=[] then 2 else if l.all mayC=false then 2 else if 32 < l.length then 3 else 0
theorem app_in {H:Heap} {w y:Nat} {A:List Nat} {len S x:Nat} (hw:H.get (.run w)=some (.rows false 64 (rowsK A))) (hA:A.length=S) (hl:len < S) (hS:S≤1000) (hy:H.get (.run y)=some (.rows false 64 [[.blk x]])) :
  appendV 64 64 H (.slice (some ⟨.run w,0⟩) len S 0) (.slice (some ⟨.run y,0⟩) 1 1 0)=some (.slice (some ⟨.run w,0⟩) (len+1) S 0,H.set (.run w) (.rows false 64 (rowsK (A.set len x)))):=by
 have hb1:Nat.ble (Nat.mul (Nat.add len 1) 64) 1099511627776=true:=ble_iff.2 (by show (len+1)*64≤_;omega)
 have hb2:Nat.ble (Nat.add len 1) 1099511627776=true:=ble_iff.2 (by show len+1≤_;omega)
 have hr:Nat.ble (Nat.add len 1) S=true:=ble_iff.2 (by show len+1≤_;omega)
 have hf:firstE H 64 (.slice (some ⟨.run y,0⟩) 1 1 0)=some [[.blk x]]:=by
  simp only[firstE,elems]
  rw[loadAt_eq hy (r:=[.blk x]) (by rw[Nat.zero_div];rfl),Nat.zero_mod,Dj]
  rfl
 have hs:storeElems (.run w) 64 [[.blk x]] (Nat.add 0 (Nat.mul len 64)) H=some (H.set (.run w) (.rows false 64 (rowsK (A.set len x)))):=by
  show (match storeAt H ⟨.run w,Nat.add 0 (Nat.mul len 64)⟩ [.blk x] with | some H'=>storeElems (.run w) 64 [] _ H' | none=>none)=_
  rw[show Nat.add 0 (Nat.mul len 64)=len*64 by show 0+len*64=_;omega,st_get,hw,stK_blk (by omega)]
  rfl
 have hlen:lenOf (.slice (some ⟨.run y,0⟩) 1 1 0)=some 1:=rfl
 unfold appendV
 simp only[hlen,show Nat.beq 1 0=false from rfl,hb1,hb2,hf,hr,hs,Bool.and_self,show Nat.beq 0 0=true from rfl,Option.map_some]
section
variable {lf K:Nat} (hlf:1000 < lf)
include hlf
theorem ucput_check {G:Heap} {pp:Option Ptr} {l:List Cl} {pc po:Nat} (h:CellsAt G pp l) (hl:l.length+1 < lf) (hmax:l.length≤9223372036854775807) (n:Nat):∀ t:T,t.getP (Tr.path 0)=some (.slice pp l.length pc po)→t.getP (Tr.path 15)=some (.slice pp l.length pc po)→t.getP (Tr.path 16)=some (.int .i64 (l.length:Int))→t.getP (Tr.path 17)=some (.int .i64 0) →
  wp (loopF (runC (U lf K (n+2)) lf c29_l1) lf ⟨t,G,[]⟩) fun x s=>s.d=[]∧Turns Z G s.H∧((x=.ex 0∧l.all mayC=true∧s.t.getP (Tr.path 0)=some (.slice pp l.length pc po))∨(x=.ret∧l.all mayC=false∧s.t.getP (Tr.path 2)=some (.slice none 0 0 0)∧s.t.getP (Tr.path 3)=some (.int .i64 2))):=by
 intro t q0 q15 q16 q17
 refine wp_loopF (fun u s=>∃ i:Nat,u=l.length - i∧i≤l.length∧s.d=[]∧s.t.getP (Tr.path 0)=some (.slice pp l.length pc po)∧s.t.getP (Tr.path 15)=some (.slice pp l.length pc po)∧s.t.getP (Tr.path 16)=some (.int .i64 (l.length:Int))∧s.t.getP (Tr.path 17)=some (.int .i64 (i:Int))∧(∀ j (hj:j < l.length),j < i→mayC l[j]=true)∧Turns Z G s.H)
  ?_ lf l.length _ ⟨0,rfl,Nat.zero_le _,rfl,q0,q15,q16,q17,fun j _ hj=>absurd hj (by omega),Turns.refl _ _⟩ (by omega)
 rintro u ⟨t,HH,d⟩ ⟨i,rfl,hi,hd,q0,q15,q16,q17,hm,hT⟩
 dsimp only at hd q0 q15 q16 q17 hT
 subst hd
 by_cases hlt:i < l.length
 ·have hlt':(i:Int) < (l.length:Int):=by omega
  have hle:i+1≤l.length:=hlt
  have w1:IntKind.i64.wrap ((i:Int)+1)=((i+1:Nat):Int):=by rw[Go.Am.wrap_i64 (by omega)];omega
  obtain⟨x,ox,rfl,hld⟩:=(h.turnsZ hT).load hlt
  have ld:=hld 0 66 (by decide)
  rw[Nat.add_zero,show cut (rowC l[i]) 0 66=some (rowC l[i]) from rfl] at ld
  unfold rowC at ld
  have hw66:width [V.int .i64 l[i].s,V.int .i64 l[i].m,V.blk l[i].x]=66:=rfl
  have hp66:put [V.int .i64 0,V.int .i64 0,V.blk 0] 0 [V.int .i64 l[i].s,V.int .i64 l[i].m,V.blk l[i].x]=some [V.int .i64 l[i].s,V.int .i64 l[i].m,V.blk l[i].x]:=rfl
  have k0:cut [V.int .i64 l[i].s,V.int .i64 l[i].m,V.blk l[i].x] 0 2=some [V.int .i64 l[i].s,V.int .i64 l[i].m]:=rfl
  have t1:Turns Z HH ((HH.add (.rows false 66 [[.int .i64 0,.int .i64 0,.blk 0]])).set (.run HH.next) (.rows false 66 [[.int .i64 l[i].s,.int .i64 l[i].m,.blk l[i].x]])):=by repeat (first | exact Turns.refl _ _ | apply Turns.skip | apply Turns.addm | apply Turns.setb | apply Turns.setl | apply Turns.setr | refine Turns.setn ?_ _ (by omega) _ | refine Turns.trans ?_ (tF _))
  have hg1:((HH.add (.rows false 66 [[.int .i64 0,.int .i64 0,.blk 0]])).set (.run HH.next) (.rows false 66 [[.int .i64 l[i].s,.int .i64 l[i].m,.blk l[i].x]])).get (.run HH.next)=some (.rows false 66 [[.int .i64 l[i].s,.int .i64 l[i].m,.blk l[i].x]]):=by rw[Heap.get_set,if_pos rfl]
  obtain⟨H1,hH1⟩:∃ H1,(HH.add (.rows false 66 [[.int .i64 0,.int .i64 0,.blk 0]])).set (.run HH.next) (.rows false 66 [[.int .i64 l[i].s,.int .i64 l[i].m,.blk l[i].x]])=H1:=⟨_,rfl⟩
  rw[hH1] at t1 hg1
  obtain⟨v2,H2,e2,rfl,t2⟩:=ucmay hlf (K:=K) H1 l[i].s l[i].m (n+1)
  have hmay:mayC l[i]=mayP l[i].s l[i].m:=rfl
  cases hB:mayP l[i].s l[i].m with
  | true=>
   rw[hB] at e2 hmay
   simp (maxDischargeDepth:=12) only[c29_l1,q15,q16,q17,hlt',hle,w1,ld,hw66,hp66,hH1,hg1,k0,e2,Nat.mul_one,hv,ldO_one,stO_one,sy,tup,↓reduceIte,zA,zG,zC,zD,zF,zE,zB,zH,reduceCtorEq]
   refine⟨l.length - (i+1),by omega,i+1,rfl,by omega,trivial,by simp[q0],by simp[q15],by simp[q16],by simp,fun j hj hji=>?_,(hT.trans t1).trans t2⟩
   by_cases e:j=i
   ·subst e;exact hmay
   ·exact hm j hj (by omega)
  | false=>
   rw[hB] at e2 hmay
   simp (maxDischargeDepth:=12) only[c29_l1,q15,q16,q17,hlt',hle,w1,ld,hw66,hp66,hH1,hg1,k0,e2,Nat.mul_one,hv,ldO_one,stO_one,sy,tup,↓reduceIte,zA,zG,zC,zD,zF,zE,zB,zH,reduceCtorEq]
   refine⟨trivial,(hT.trans t1).trans t2,.inr ⟨trivial,?_,trivial,trivial⟩⟩
   rw[List.all_eq_false]
   exact⟨l[i],List.getElem_mem _,by rw[hmay];decide⟩
 ·have:i=l.length:=by omega
  subst this
  simp (maxDischargeDepth:=12) only[c29_l1,q15,q16,q17,Int.lt_irrefl,hv,ldO_one,stO_one,sy,tup,↓reduceIte,zA,zG,zC,zD,zF,zE,zB,zH,reduceCtorEq]
  refine⟨trivial,hT,.inl ⟨trivial,?_,q0⟩⟩
  rw[List.all_eq_true]
  intro c hc
  obtain⟨j,hj,rfl⟩:=List.getElem_of_mem hc
  exact hm j hj hj
theorem ucput_fill {G:Heap} {pp:Option Ptr} {l:List Cl} {pc po:Nat} (h:CellsAt G pp l) (hl:l.length≤32) (hm:l.all mayC=true) {G1:Heap} (tG:Turns Z G G1) {w:Nat} (hw0:G.next≤w) (hw:G1.get (.run w)=some (.rows false 64 (rowsK (outA l 0)))) (wo:w < G1.next) (n:Nat):∀ t:T,t.getP (Tr.path 6)=some (.slice (some ⟨.run w,0⟩) (headsN l.length+0) (headsN l.length+l.length) 0)→t.getP (Tr.path 36)=some (.slice pp l.length pc po)→t.getP (Tr.path 37)=some (.int .i64 (l.length:Int))→t.getP (Tr.path 38)=some (.int .i64 0) →
  wp (loopF (runC (U lf K (n+2)) lf c29_l0) lf ⟨t,G1,[]⟩) fun x s=>x=.ex 2∧s.d=[]∧Turns Z G s.H∧s.t.getP (Tr.path 6)=some (.slice (some ⟨.run w,0⟩) (headsN l.length+l.length) (headsN l.length+l.length) 0)∧s.H.get (.run w)=some (.rows false 64 (rowsK (recL l)))∧w < s.H.next:=by
 intro t q6 q36 q37 q38
 refine wp_loopF (fun u s=>∃ i:Nat,u=l.length - i∧i≤l.length∧s.d=[]∧s.t.getP (Tr.path 6)=some (.slice (some ⟨.run w,0⟩) (headsN l.length+i) (headsN l.length+l.length) 0)∧s.t.getP (Tr.path 36)=some (.slice pp l.length pc po)∧s.t.getP (Tr.path 37)=some (.int .i64 (l.length:Int))∧s.t.getP (Tr.path 38)=some (.int .i64 (i:Int))∧s.H.get (.run w)=some (.rows false 64 (rowsK (outA l i)))∧w < s.H.next∧Turns Z G s.H)
  ?_ lf l.length _ ⟨0,rfl,Nat.zero_le _,rfl,q6,q36,q37,q38,hw,wo,tG⟩ (by omega)
 rintro u ⟨t,HH,d⟩ ⟨i,rfl,hi,hd,q6,q36,q37,q38,hwi,woi,hT⟩
 dsimp only at hd q6 q36 q37 q38 hwi woi hT
 subst hd
 by_cases hlt:i < l.length
 ·have hlt':(i:Int) < (l.length:Int):=by omega
  have hle:i+1≤l.length:=hlt
  have w1:IntKind.i64.wrap ((i:Int)+1)=((i+1:Nat):Int):=by rw[Go.Am.wrap_i64 (by omega)];omega
  obtain⟨x,ox,rfl,hld⟩:=(h.turnsZ hT).load hlt
  have ld:=hld 0 66 (by decide)
  rw[Nat.add_zero,show cut (rowC l[i]) 0 66=some (rowC l[i]) from rfl] at ld
  unfold rowC at ld
  have hmi:=mayC_t (List.all_eq_true.1 hm l[i] (List.getElem_mem _))
  obtain⟨N,hN⟩:∃ N,N=l[i].s.toNat:=⟨_,rfl⟩
  obtain⟨M,hM⟩:∃ M,M=l[i].m.toNat:=⟨_,rfl⟩
  have hNs:l[i].s=(N:Int):=by omega
  have hMs:l[i].m=(M:Int):=by omega
  have hstep:=outA_step (l:=l) (i:=i) hlt (by rw[outA_len];unfold headsN;omega) rfl
  have hpl:placeL l[i]=[dig N 0,dig N 1,M]:=by unfold placeL;rw[← hN,← hM]
  have hA:=outA_len l i
  have hq:i / 16 < headsN l.length:=by unfold headsN;omega
  have hqA:i / 16 < (outA l i).length:=by omega
  have hS32:headsN l.length≤2:=by unfold headsN;omega
  rw[hpl] at hstep
  rw[hNs,hMs] at ld
  generalize l[i].x=X at ld hstep
  generalize outA l i=A at hwi hstep hA hqA
  generalize hhN:headsN l.length=hN' at q6 hstep hA hq hS32
  obtain⟨q,hqe⟩:∃ q,q=i / 16:=⟨_,rfl⟩
  obtain⟨r,hre⟩:∃ r,r=i % 16:=⟨_,rfl⟩
  have hr16:r < 16:=by rw[hre];exact Nat.mod_lt _ (by decide)
  have aq:arith .quo (.int .i64 (i:Int)) (.int .i64 16)=some (.int .i64 (q:Int)):=by rw[hqe];exact quo_i64 i 16 (by decide) (by omega)
  have ar:arith .rem (.int .i64 (i:Int)) (.int .i64 16)=some (.int .i64 (r:Int)):=by rw[hre];exact rem_i64 i 16 (by decide)
  rw[← hqe] at hq hqA hstep
  rw[← hre] at hstep
  obtain⟨off,hoff⟩:∃ off,off=r*4:=⟨_,rfl⟩
  rw[← hoff] at hstep
  have wm:IntKind.i64.wrap ((r:Int)*4)=(off:Int):=by rw[Go.Am.wrap_i64 (by omega)];omega
  have offle:off≤60:=by omega
  have as2:asNat (.int .i64 2)=some 2:=rfl
  have hw66:width [V.int .i64 (N:Int),V.int .i64 (M:Int),V.blk X]=66:=rfl
  have hp66:put [V.int .i64 0,V.int .i64 0,V.blk 0] 0 [V.int .i64 (N:Int),V.int .i64 (M:Int),V.blk X]=some [V.int .i64 (N:Int),V.int .i64 (M:Int),V.blk X]:=rfl
  have k0:cut [V.int .i64 (N:Int),V.int .i64 (M:Int),V.blk X] 0 1=some [V.int .i64 (N:Int)]:=rfl
  have k1:cut [V.int .i64 (N:Int),V.int .i64 (M:Int),V.blk X] 1 1=some [V.int .i64 (M:Int)]:=rfl
  have k2:cut [V.int .i64 (N:Int),V.int .i64 (M:Int),V.blk X] 2 64=some [V.blk X]:=rfl
  have t1:Turns Z HH ((HH.add (.rows false 66 [[.int .i64 0,.int .i64 0,.blk 0]])).set (.run HH.next) (.rows false 66 [[.int .i64 (N:Int),.int .i64 (M:Int),.blk X]])):=by repeat (first | exact Turns.refl _ _ | apply Turns.skip | apply Turns.addm | apply Turns.setb | apply Turns.setl | apply Turns.setr | refine Turns.setn ?_ _ (by omega) _ | refine Turns.trans ?_ (tF _))
  have hg1:((HH.add (.rows false 66 [[.int .i64 0,.int .i64 0,.blk 0]])).set (.run HH.next) (.rows false 66 [[.int .i64 (N:Int),.int .i64 (M:Int),.blk X]])).get (.run HH.next)=some (.rows false 66 [[.int .i64 (N:Int),.int .i64 (M:Int),.blk X]]):=by rw[Heap.get_set,if_pos rfl]
  obtain⟨H1,hH1⟩:∃ H1,(HH.add (.rows false 66 [[.int .i64 0,.int .i64 0,.blk 0]])).set (.run HH.next) (.rows false 66 [[.int .i64 (N:Int),.int .i64 (M:Int),.blk X]])=H1:=⟨_,rfl⟩
  have n1:H1.next=HH.next+1:=by rw[← hH1];rfl
  rw[hH1] at t1 hg1
  have hw1:=(t1.same (.run w) woi (fun h=>h)).trans hwi
  have b1:bounds 64 64 (some (.int .i64 (off:Int))) none none=some (off,64,64):=by
   simp only[bounds,boundD,bound,C5,nble]
   simp[show off≤64 by omega]
  have b2:bounds (64 - off) (64 - off) none (some (.int .i64 4)) none=some (0,4,64 - off):=by
   simp only[bounds,boundD,bound,nble]
   rw[show asNat (.int .i64 4)=some 4 from rfl]
   simp[show 4≤64 - off by omega]
  have f1:¬ (64=off):=by omega
  have f2:¬ (64 - off=0):=by omega
  have wN:IntKind.u64.wrap (N:Int)=(N:Int):=Go.Am.wrap_u64 (by omega)
  obtain⟨v2,H2,e2,t2,h2⟩:=u_pnput_ok (K:=K) H1 (N:=N) (by omega) (s:=2) (by omega) (lf:=lf) (by omega) (n+1)
  obtain⟨k,rfl,hk,hk1⟩:∃ k,v2=.tuple [.slice (some ⟨.run k,0⟩) 2 2 0,.int .i64 0]∧BodyAt H2 k (dig N) 2∧H1.next≤k:=by
   rcases h2 with ⟨_,h⟩ | ⟨h,_⟩
   ·exact h
   ·exact absurd (Nat.div_eq_of_lt (by omega)) h
  change U lf K (n+2) 58 [.int .u64 (N:Int),.int .i64 2] H1=_ at e2
  have hw2:=(t2.same (.run w) (Nat.lt_of_lt_of_le woi t1.next) (fun h=>h)).trans hw1
  have hg2:=(t2.same (.run HH.next) (by show _ < _;omega) (fun h=>h)).trans hg1
  have hd0:=dig_lt N 0
  have hd1:=dig_lt N 1
  have cp:copyV 1 H2 (.slice (some ⟨.run w,q*64+off⟩) 4 (64 - off) 0) (.slice (some ⟨.run k,0⟩) 2 2 0)=some (.int .i64 2,H2.set (.run w) (.rows false 64 (rowsK (A.set q (layB (A.getD q 0) off [dig N 0,dig N 1]))))):=by
   have hel:firstE H2 1 (.slice (some ⟨.run k,0⟩) 2 2 0)=some (rowsN [dig N 0,dig N 1]):=elems_bod hk 2 0 (by omega)
   have hst:=store_layK [dig N 0,dig N 1] q off H2 A hqA hw2 (by simp only[List.length_cons,List.length_nil];omega) (by
    intro x hx
    simp only[List.mem_cons,List.not_mem_nil,or_false] at hx
    rcases hx with rfl | rfl<;>omega)
   unfold copyV
   simp only[show min 2 4=2 from rfl,show Nat.beq 2 0=false from rfl,hel,hst,Option.map_some]
   rfl
  obtain⟨A2,hA2⟩:∃ A2,A2=A.set q (layB (A.getD q 0) off [dig N 0,dig N 1]):=⟨_,rfl⟩
  have hA2l:A2.length=A.length:=by rw[hA2,List.length_set]
  have hA2q:A2.getD q 0=layB (A.getD q 0) off [dig N 0,dig N 1]:=by rw[hA2,getD_get (by rw[List.length_set];exact hqA),List.getElem_set_self]
  rw[← hA2] at cp
  obtain⟨H3,hH3⟩:∃ H3,H2.set (.run w) (.rows false 64 (rowsK A2))=H3:=⟨_,rfl⟩
  have hw3:H3.get (.run w)=some (.rows false 64 (rowsK A2)):=by rw[← hH3,Heap.get_set,if_pos rfl]
  have hwn:¬ (Bk.run HH.next=Bk.run w):=by intro e;cases e;omega
  have hg3:H3.get (.run HH.next)=some (.rows false 66 [[.int .i64 (N:Int),.int .i64 (M:Int),.blk X]]):=by rw[← hH3,Heap.get_set,if_neg hwn];exact hg2
  rw[hH3] at cp
  have wM:IntKind.u8.wrap (M:Int)=(M:Int):=wrap_u8 (by omega)
  have st3:=stK_byte (A:=A2) (q:=q) (by omega) (j:=off+2) (x:=M) (by omega) (by omega)
  rw[hA2q,show q*64+(off+2)=q*64+off+2 by omega] at st3
  obtain⟨A3,hA3⟩:∃ A3,A3=A2.set q (setByte (layB (A.getD q 0) off [dig N 0,dig N 1]) (off+2) M):=⟨_,rfl⟩
  rw[← hA3] at st3
  have hA3e:A3=A.set q (layB (A.getD q 0) off [dig N 0,dig N 1,M]):=by rw[hA3,hA2,List.set_set];rfl
  obtain⟨H4,hH4⟩:∃ H4,H3.set (.run w) (.rows false 64 (rowsK A3))=H4:=⟨_,rfl⟩
  have hw4:H4.get (.run w)=some (.rows false 64 (rowsK A3)):=by rw[← hH4,Heap.get_set,if_pos rfl]
  have hg4:H4.get (.run HH.next)=some (.rows false 66 [[.int .i64 (N:Int),.int .i64 (M:Int),.blk X]]):=by rw[← hH4,Heap.get_set,if_neg hwn];exact hg3
  have n4:H4.next=H2.next:=by rw[← hH4,← hH3];rfl
  have tn2:=t2.next
  have hy:(H4.add (.rows false 64 [[.blk X]])).get (.run H4.next)=some (.rows false 64 [[.blk X]]):=by rw[Heap.get_add,if_pos rfl]
  have hwa:(H4.add (.rows false 64 [[.blk X]])).get (.run w)=some (.rows false 64 (rowsK A3)):=by rw[Heap.get_add,if_neg (run_ne (by omega))];exact hw4
  have ea:=app_in (S:=hN'+l.length) (len:=hN'+i) (x:=X) (A:=A3) (y:=H4.next) hwa (by rw[hA3e,List.length_set];exact hA) (by omega) (by omega) hy
  have hfin:A3.set (hN'+i) X=outA l (i+1):=by rw[hA3e];exact hstep
  rw[hfin] at ea
  have hq1:q+1≤hN'+i:=by omega
  simp (maxDischargeDepth:=12) only[c29_l0,q6,q36,q37,q38,hlt',hle,w1,ld,hw66,hp66,hH1,hg1,hw1,aq,ar,arith_mul,wm,hq1,as2,b1,b2,f1,f2,k0,wN,e2,hg2,cp,hg3,hw3,k1,wM,st3,hH4,hg4,k2,ea,Nat.mul_one,Nat.sub_zero,hv,ldO_one,stO_one,sy,tup,↓reduceIte,zA,zG,zC,zD,zF,zE,zB,zH,reduceCtorEq]
  refine⟨l.length - (i+1),by omega,i+1,rfl,by omega,trivial,by rw[Nat.add_assoc],trivial,trivial,by simp,rfl,by omega,?_⟩
  have tw:∀ {J J':Heap},Turns Z G J→Turns (fun c=>c=.run w) J J'→Turns Z G J':=fun a b=>a.later b (fun c ho e=>by subst e;exact absurd ho (Heap.not_old hw0))
  have t3:Turns (fun c=>c=.run w) H2 H3:=by rw[← hH3];exact Turns.set (X:=fun c=>c=.run w) rfl H2 _
  have t4:Turns (fun c=>c=.run w) H3 H4:=by rw[← hH4];exact Turns.set (X:=fun c=>c=.run w) rfl H3 _
  exact((tw (tw ((hT.trans t1).trans t2) t3) t4).addm _).setn _ hw0 _
 ·have:i=l.length:=by omega
  subst this
  simp (maxDischargeDepth:=12) only[c29_l0,q36,q37,q38,Int.lt_irrefl,hv,ldO_one,stO_one,sy,tup,↓reduceIte,zA,zG,zC,zD,zF,zE,zB,zH,reduceCtorEq]
  exact⟨trivial,trivial,hT,q6,hwi,woi⟩
theorem szR_rec {k:Nat} (h1:1≤k) (h2:k≤32):szR k=recS k:=by
 unfold szR recS
 rw[if_neg (by omega)]
theorem ucput {G:Heap} {pp:Option Ptr} {l:List Cl} {pc po:Nat} (h:CellsAt G pp l) (hl:l.length+1 < lf) (hmax:l.length≤9223372036854775807) (n:Nat):ret (U lf K (n+3) 29 [.slice pp l.length pc po] G) fun v G'=>Turns Z G G' ∧
  ((pcode l≠0∧v=.tuple [.slice none 0 0 0,.int .i64 (pcode l)])∨(pcode l=0∧∃ w,v=.tuple [.slice (some ⟨.run w,0⟩) (recS l.length) (recS l.length) 0,.int .i64 0]∧G.next≤w∧w < G'.next∧G'.get (.run w)=some (.rows false 64 (rowsK (recL l))))):=by
 refine ret_callU rfl rfl c29_eq ?_
 by_cases h0:l=[]
 ·have pz:pcode l=2:=by rw[h0];rfl
  rw[pz]
  have hz':((l.length:Int)==0)=true:=by rw[h0];rfl
  simp (maxDischargeDepth:=12) only[c29,hz',hv,ldO_one,stO_one,sy,tup,↓reduceIte,zA,zG,zC,zD,zF,zE,zB,zH,reduceCtorEq]
  exact⟨trivial,.inr trivial,_,rfl,Turns.refl _ _,.inl ⟨by decide,rfl⟩⟩
 ·have hz:¬ (l.length=0):=fun e=>h0 (List.length_eq_zero_iff.1 e)
  have hz':((l.length:Int)==0)=false:=by rw[beq_eq_false_iff_ne];omega
  have pc0:pcode l=if l.all mayC=false then 2 else if 32 < l.length then 3 else 0:=by unfold pcode;rw[if_neg h0]
  simp (maxDischargeDepth:=12) only[c29,hz',hv,ldO_one,stO_one,sy,tup,↓reduceIte,zA,zG,zC,zD,zF,zE,zB,zH,reduceCtorEq]
  refine wp_ctx (F:=fun r=>seqC _ _ _ (blockC _ r)) (ucput_check hlf h hl hmax (n:=n) (pc:=pc) (po:=po) _ ?_ ?_ ?_ ?_) ?_
  ·simp only[sy,tup,↓reduceIte,zA,zG,zC,zD,zF,zE,zB,zH,reduceCtorEq]
  ·simp only[sy,tup,↓reduceIte,zA,zG,zC,zD,zF,zE,zB,zH,reduceCtorEq]
  ·simp only[sy,tup,↓reduceIte,zA,zG,zC,zD,zF,zE,zB,zH,reduceCtorEq]
  ·simp only[sy,tup,↓reduceIte,zA,zG,zC,zD,zF,zE,zB,zH,reduceCtorEq]
  rintro x ⟨t,H1,d⟩ ⟨hd,hT,⟨rfl,hm,q0⟩ | ⟨rfl,hm,q2,q3⟩⟩
  ·dsimp only at hd q0 hT
   subst hd
   rw[if_neg (by rw[hm];decide)] at pc0
   by_cases h32:32 < l.length
   ·rw[if_pos h32] at pc0
    rw[pc0]
    have h32':(32:Int) < (l.length:Int):=by omega
    simp (maxDischargeDepth:=12) only[q0,h32',hv,ldO_one,stO_one,sy,tup,↓reduceIte,zA,zG,zC,zD,zF,zE,zB,zH,reduceCtorEq]
    exact⟨trivial,.inr trivial,_,rfl,hT,.inl ⟨by decide,rfl⟩⟩
   ·rw[if_neg h32] at pc0
    rw[pc0]
    have h32':¬ (32:Int) < (l.length:Int):=by omega
    have e1:=uheads hlf (K:=K) H1 (k:=l.length) (by omega) (n+1)
    have e2:=usize hlf (K:=K) H1 (k:=l.length) (by omega) n
    have es:szR l.length=recS l.length:=szR_rec hlf (by omega) (by omega)
    rw[es] at e2
    change U lf K (n+2) 57 [.int .i64 (l.length:Int)] H1=some (.v (.int .i64 ((headsN l.length:Nat):Int)),H1) at e1
    have m0:headsN l.length≤recS l.length:=Nat.le_add_right _ _
    have m1:64*recS l.length≤1099511627776:=by unfold recS;omega
    have m2:recS l.length≤1099511627776:=by unfold recS;omega
    have ez:List.replicate (recS l.length) [V.blk 0]=rowsK (outA l 0):=by rw[outA_zero];unfold rowsK;rw[List.map_replicate];rfl
    have eS:recS l.length=headsN l.length+l.length:=rfl
    have hwn:(H1.add (.rows false 64 (rowsK (outA l 0)))).get (.run H1.next)=some (.rows false 64 (rowsK (outA l 0))):=by rw[Heap.get_add,if_pos rfl]
    have tA:Turns Z G (H1.add (.rows false 64 (rowsK (outA l 0)))):=hT.trans (Turns.add Z H1 _)
    have nA:(H1.add (.rows false 64 (rowsK (outA l 0)))).next=H1.next+1:=rfl
    obtain⟨H2,hH2⟩:∃ H2,H1.add (.rows false 64 (rowsK (outA l 0)))=H2:=⟨_,rfl⟩
    rw[hH2] at hwn tA nA
    have hl32:l.length≤32:=by omega
    have hf:=ucput_fill hlf (K:=K) h hl32 hm tA (w:=H1.next) hT.next hwn (by omega) (pc:=pc) (po:=po) n
    rw[← eS] at hf
    generalize recS l.length=S at e2 m0 m1 m2 ez hf ⊢
    generalize headsN l.length=hd at e1 m0 hf
    rw[Nat.add_zero] at hf
    simp (maxDischargeDepth:=12) only[q0,h32',e1,e2,mksliceF,m0,m1,m2,ez,hH2,hv,ldO_one,stO_one,sy,tup,↓reduceIte,zA,zG,zC,zD,zF,zE,zB,zH,reduceCtorEq]
    refine wp_ctx (F:=fun r=>seqC _ _ _ (blockC _ r)) (hf _ ?_ ?_ ?_ ?_) ?_
    ·simp only[sy,tup,↓reduceIte,zA,zG,zC,zD,zF,zE,zB,zH,reduceCtorEq]
    ·simp only[sy,tup,↓reduceIte,zA,zG,zC,zD,zF,zE,zB,zH,reduceCtorEq]
    ·simp only[sy,tup,↓reduceIte,zA,zG,zC,zD,zF,zE,zB,zH,reduceCtorEq]
    ·simp only[sy,tup,↓reduceIte,zA,zG,zC,zD,zF,zE,zB,zH,reduceCtorEq]
    rintro x ⟨t,H3,d⟩ ⟨rfl,hd,hT3,q6,hw3,wo3⟩
    dsimp only at hd q6 hT3 hw3 wo3
    subst hd
    simp (maxDischargeDepth:=12) only[q6,hv,ldO_one,stO_one,sy,tup,↓reduceIte,zA,zG,zC,zD,zF,zE,zB,zH,reduceCtorEq]
    exact⟨trivial,.inr trivial,_,rfl,hT3,.inr ⟨trivial,_,rfl,hT.next,wo3,hw3⟩⟩
  ·dsimp only at hd q2 q3 hT
   subst hd
   rw[if_pos hm] at pc0
   rw[pc0]
   simp (maxDischargeDepth:=12) only[q2,q3,hv,ldO_one,stO_one,sy,tup,↓reduceIte,zA,zG,zC,zD,zF,zE,zB,zH,reduceCtorEq]
   exact⟨trivial,.inr trivial,_,rfl,hT,.inl ⟨by decide,rfl⟩⟩
end
end Go.Proofs.YtabebpemfinejaaDoor.draft
namespace Go.Proofs.YtabebpemfinejaaDoor.draft
open Go.Am
open disk (bx Fit A1 R1 Low Bn)
noncomputable def c11_l0:C:=.seq (.reg [
 qo 64 (.p (arF .lss (tt 63) (tt 62))) [pp 63,pp 62]]) (
 .seq (.cond (tt 64) (.skip) (.exit 0)) (
 .seq (.block 1 (.seq (.reg [
 mv 65 63,
 qo 66 (.p (iaddrSF (tt 61) (tt 63) 1)) [pp 61,pp 63],
 qo 67 (.r (loadF (tt 66) 1 .sc)) [pp 66],
 mv 10 65,
 mv 11 67]) (
 .reg [
 mv 68 9,
 mv 69 0,
 mv 70 11,
 mv 71 6,
 mv 72 10,
 qo 73 (.p (iaddrSF (tt 71) (tt 72) 64)) [pp 71,pp 72],
 qo 74 (.r (loadF (tt 73) 64 .bk)) [pp 73],
 qo 75 (.c (callF (ff 32) [(tt 69),(tt 70),(tt 74)])) [pp 69,pp 70,pp 74],
 qo 76 (.m (bsliceF 1 1 [.nilFunc] [(0,1,(tt 75))])) [pp 75],
 qo 77 (.a (appF 1 8 (tt 68) (tt 76))) [pp 68,pp 76],
 mv 9 77]))) (
 .reg [
 qo 78 (.p (arF .add (tt 63) (ii 1))) [pp 63],
 mv 63 78])))
noncomputable def c11:CFn:=⟨[.tmp (pp 4),.tmp (pp 5)],
 .seq (.reg [
 qo 4 (.p (S.get (.c (.int .u64 0)))) [],
 qo 5 (.p (S.get (ii 0))) []]) (
 .seq (.seq (.reg [
 mv 16 0,
 qo 17 (.c (callF (ff 25) [(tt 16)])) [pp 16]]) (
 .cond (tt 17) (.seq (.reg [
 qo 4 (.p (S.get (.c (.int .u64 0)))) [],
 qo 5 (.p (S.get (ii 1))) []]) (
 .ret)) (.skip))) (
 .seq (.reg [
 mv 19 1,
 qo 20 (.c (callF (ff 29) [(tt 19)])) [pp 19],
 mv 18 20,
 qo 21 (.p (extF (tt 18) 0)) [pp 18],
 qo 22 (.p (extF (tt 18) 1)) [pp 18],
 mv 6 21,
 mv 7 22]) (
 .seq (.seq (.reg [
 mv 23 7,
 qo 24 (.p (eqcF true false [.int .i64] (tt 23) (ii 0))) [pp 23]]) (
 .cond (tt 24) (.seq (.reg [
 mv 25 7,
 qo 4 (.p (S.get (.c (.int .u64 0)))) [],
 mv 5 25]) (
 .ret)) (.skip))) (
 .seq (.regD [
 mv 27 0,
 qo 28 (.p (nilcF (tt 27))) [pp 27],
 qo 29 (.p (faddrF (tt 28) 3)) [pp 28],
 qo 30 (.r (loadF (tt 29) 1 .sc)) [pp 29],
 mv 31 0,
 qo 32 (.p (nilcF (tt 31))) [pp 31],
 qo 33 (.p (faddrF (tt 32) 6)) [pp 32],
 qo 34 (.r (loadF (tt 33) 1 .sc)) [pp 33],
 mv 35 0,
 qo 36 (.p (nilcF (tt 35))) [pp 35],
 qo 37 (.p (faddrF (tt 36) 7)) [pp 36],
 qo 38 (.r (loadF (tt 37) 1 .sc)) [pp 37],
 mv 39 6,
 qo 40 (.p (lenF (tt 39))) [pp 39],
 qo 41 (.c (callF (ff 30) [(tt 30),(tt 34),(tt 38),(tt 40)])) [pp 30,pp 34,pp 38,pp 40],
 mv 26 41,
 qo 42 (.p (extF (tt 26) 0)) [pp 26],
 qo 43 (.p (extF (tt 26) 1)) [pp 26],
 mv 8 42,
 mv 7 43] [0,1,3,7,0,16,48,112,0,256,768,1792,0,4096,16383,32767,65535,65535,131071,524287]) (
 .seq (.seq (.reg [
 mv 44 7,
 qo 45 (.p (eqcF true false [.int .i64] (tt 44) (ii 0))) [pp 44],
 mv 46 45,
 mg 47 0 46 false,
 qg 48 (.p (nilcF (tt 47))) 46 false [pp 47],
 qg 49 (.p (faddrF (tt 48) 8)) 46 false [pp 48],
 qg 50 (.r (loadF (tt 49) 1 .sc)) 46 false [pp 49],
 qg 51 (.p (lenF (tt 50))) 46 false [pp 50],
 qg 52 (.p (arF .geq (tt 51) (ii 8))) 46 false [pp 51],
 qo 53 (.p (pickF (tt 46) (.c (.bool true)) (tt 52))) [pp 46,pp 52]]) (
 .cond (tt 53) (.seq (.reg [
 qo 4 (.p (S.get (.c (.int .u64 0)))) [],
 qo 5 (.p (S.get (ii 10))) []]) (
 .ret)) (.skip))) (
 .seq (.reg [
 qo 9 (.p (S.get (.c (.slice none 0 0 0)))) []]) (
 .seq (.seq (.reg [
 mv 54 0,
 mv 55 0,
 qo 56 (.p (nilcF (tt 55))) [pp 55],
 qo 57 (.p (faddrF (tt 56) 7)) [pp 56],
 qo 58 (.r (loadF (tt 57) 1 .sc)) [pp 57],
 mv 59 6,
 qo 60 (.p (lenF (tt 59))) [pp 59],
 qo 61 (.c (callF (ff 31) [(tt 54),(tt 58),(tt 60)])) [pp 54,pp 58,pp 60],
 qo 62 (.p (lenF (tt 61))) [pp 61],
 qo 63 (.p (S.get (ii 0))) []]) (
 .block 0 (.loop c11_l0))) (
 .seq (.regD [
 mv 79 0,
 qo 80 (.c (callF (ff 27) [(tt 79)])) [pp 79],
 mv 81 0,
 qo 82 (.p (nilcF (tt 81))) [pp 81],
 qo 83 (.p (faddrF (tt 82) 7)) [pp 82],
 qo 84 (.r (loadF (tt 83) 1 .sc)) [pp 83],
 mv 85 1,
 qo 86 (.p (lenF (tt 85))) [pp 85],
 mv 87 6,
 qo 88 (.c (callF (ff 33) [(tt 87)])) [pp 87],
 qo 89 (.p (buildF [.int .u64 0,.int .u64 0,.int .i64 0,.int .u32 0] .ag [(0,1,(tt 80)),(1,1,(tt 84)),(2,1,(tt 86)),(3,1,(tt 88))])) [pp 80,pp 84,pp 86,pp 88],
 qo 12 (.m (allocF 4 [.int .u64 0,.int .u64 0,.int .i64 0,.int .u32 0])) [],
 qn (.a (storeF (tt 12) (tt 89) 4)) [pp 12,pp 89]] [0,1,0,4,12,28,0,64,0,259,1023,0,4095]) (
 .seq (.reg [
 qo 91 (.r (loadF (tt 12) 4 .ag)) [pp 12],
 qo 92 (.c (callF (ff 34) [(tt 91)])) [pp 91],
 mv 90 92,
 qo 93 (.p (extF (tt 90) 0)) [pp 90],
 qo 94 (.p (extF (tt 90) 1)) [pp 90],
 qo 13 (.m (allocF 64 [.blk 0])) [],
 qn (.a (storeF (tt 13) (tt 93) 64)) [pp 13,pp 93],
 mv 14 94]) (
 .seq (.regD [
 mv 95 9,
 mv 96 0,
 qo 97 (.p (mkfnF (.func 35) [(tt 96)] [])) [pp 96],
 mv 98 0,
 qo 99 (.p (faddrF (tt 12) 0)) [pp 12],
 qo 100 (.r (loadF (tt 99) 1 .sc)) [pp 99],
 qo 101 (.c (callF (ff 36) [(tt 100)])) [pp 100],
 qo 102 (.p (arF .add (ii 2) (tt 101))) [pp 101],
 qo 103 (.r (loadF (tt 13) 64 .bk)) [pp 13],
 qo 104 (.c (callF (ff 32) [(tt 98),(tt 102),(tt 103)])) [pp 98,pp 102,pp 103],
 mv 105 0,
 qo 106 (.p (mkfnF (.func 35) [(tt 105)] [])) [pp 105],
 qo 107 (.m (bsliceF 3 1 [.nilFunc] [(0,1,(tt 97)),(1,1,(tt 104)),(2,1,(tt 106))])) [pp 97,pp 104,pp 106],
 qo 108 (.a (appF 1 8 (tt 95) (tt 107))) [pp 95,pp 107],
 mv 9 108] [0,0,2,0,0,16,48,112,0,504,0,1024,4094,8191,16383]) (
 .seq (.seq (.reg [
 mv 109 9,
 qo 110 (.c (callF (ff 37) [(tt 109)])) [pp 109],
 mv 15 110]) (
 .seq (.reg [
 mv 111 15,
 qo 112 (.p (eqcF true false [.int .i64] (tt 111) (ii 0))) [pp 111]]) (
 .cond (tt 112) (.seq (.reg [
 mv 113 15,
 qo 4 (.p (S.get (.c (.int .u64 0)))) [],
 mv 5 113]) (
 .ret)) (.skip)))) (
 .seq (.regD [
 mv 114 0,
 mv 115 0,
 mv 116 0,
 qo 117 (.p (nilcF (tt 116))) [pp 116],
 qo 118 (.p (faddrF (tt 117) 8)) [pp 117],
 qo 119 (.r (loadF (tt 118) 1 .sc)) [pp 118],
 qo 120 (.r (loadF (tt 12) 4 .ag)) [pp 12],
 qo 121 (.m (bsliceF 1 4 [.int .u64 0,.int .u64 0,.int .i64 0,.int .u32 0] [(0,4,(tt 120))])) [pp 120],
 qo 122 (.a (appF 4 32 (tt 119) (tt 121))) [pp 119,pp 121],
 mv 123 8,
 qo 124 (.p (nilcF (tt 114))) [pp 114],
 qo 125 (.p (faddrF (tt 124) 8)) [pp 124],
 qn (.a (storeF (tt 125) (tt 122) 1)) [pp 125,pp 122],
 qo 126 (.p (nilcF (tt 115))) [pp 115],
 qo 127 (.p (faddrF (tt 126) 7)) [pp 126],
 qn (.a (storeF (tt 127) (tt 123) 1)) [pp 127,pp 123]] [0,0,0,4,12,28,0,64,252,0,509,1533,3581,8191,16383,32767]) (
 .seq (.reg [
 qo 128 (.p (faddrF (tt 12) 0)) [pp 12],
 qo 129 (.r (loadF (tt 128) 1 .sc)) [pp 128],
 mv 4 129,
 qo 5 (.p (S.get (ii 0))) []]) (
 .ret))))))))))))))⟩
theorem c11_eq:fnOf Tryd.prog 11=some c11:=by kernel_rfl
def LX (b l:Bk) (lv:V):Bk→Prop:=fun c=>c=b∨c=l∨Bof lv c
def recT (R p:Nat) (A:List Nat):List Stp:=(List.range A.length).map fun j=>.wr ((p+j) % R+10) (A.getD j 0)
noncomputable def appT (R p:Nat) (A:List Nat) (N:Nt):List Stp:=recT R p A++[.fl,.wr (2+N.seq % 8) (noteB N),.fl]
noncomputable def ntOf (first hd:Nat) (N:List Nt) (cs:List Cl):Nt:=⟨first+N.length,hd,cs.length,sumB (recL cs)⟩
def roomN (R tail head:Nat) (N:List Nt) (cs:List Cl):Bool:=roomR R tail head (recS cs.length)&&decide (N.length < 8)
theorem StepAt.func {G0 H:Heap} {l:Bk} {v:V} {s:Stp} (h:StepAt G0 H l v s):∃ f a k,v=.func f a k:=by
 cases s with
 | fl=>exact⟨_,_,_,h⟩
 | wr n x=>
  obtain⟨a1,a2,a3,e,_⟩:=h
  exact⟨_,_,_,e⟩
theorem StepAt.away {G0 G1 H H':Heap} {l:Bk} {v y:V} {s:Stp} {Vs:List V} (h:StepAt G0 H l v s) (hy:Lst G1 H 1 (Vs.map fun v=>[v]) y) (hf:∀ v ∈ Vs,∃ f a k,v=.func f a k) (t:Turns (Bof y) H H'):StepAt G0 H' l v s:=by
 cases s with
 | fl=>exact h
 | wr n x=>
  obtain⟨a1,a2,a3,e,g1,g2,g3,l1,l2,l3,h1,h2,h3⟩:=h
  have nb:∀ a,(∀ f k j,H.get (.run a)≠some (.rows false 1 ([.func f k j]::(Vs.tail.map fun v=>[v]))))→¬ Bof y (.run a):=fun a ha hb=>by
   obtain⟨_,_,_,_,hg⟩:=hy.bof hb
   have hne:Vs≠[]:=fun e=>by
    obtain⟨p,q,r,o,e2,_⟩:=hb
    rcases hy with ⟨_,e3⟩ | ⟨_,hn,_⟩
    ·rw[e3] at e2;cases e2
    ·rw[e] at hn;exact hn rfl
   cases Vs with
   | nil=>exact hne rfl
   | cons x Vs=>
    obtain⟨f,k,j,rfl⟩:=hf x (List.mem_cons_self ..)
    exact ha f k j hg
  refine⟨a1,a2,a3,e,g1,g2,g3,Nat.lt_of_lt_of_le l1 t.next,Nat.lt_of_lt_of_le l2 t.next,Nat.lt_of_lt_of_le l3 t.next,(t.same (.run a1) l1 (nb a1 fun f k j=>?_)).trans h1,(t.same (.run a2) l2 (nb a2 fun f k j=>?_)).trans h2,(t.same (.run a3) l3 (nb a3 fun f k j=>?_)).trans h3⟩
  ·rw[h1];intro e;cases e
  ·rw[h2];intro e;cases e
  ·rw[h3];intro e;cases e
section
variable {lf K:Nat} (hlf:1000 < lf)
include hlf
theorem ulappend_steps {G:Heap} {l:Bk} {A:List Nat} {w u R p:Nat} (hA:A.length≤100) (hw:G.get (.run w)=some (.rows false 64 (rowsK A))) (wo:w < G.next) (hu:G.get (.run u)=some (.rows false 1 (rowsI (secs R p A.length)))) (uo:u < G.next) (hR:1≤R∧R≤256) {a1 a8:V} (n:Nat):∀ t:T,t.getP (Tr.path 0)=some (.ptr (some ⟨l,0⟩))→t.getP (Tr.path 1)=some a1→t.getP (Tr.path 8)=some a8→t.getP (Tr.path 6)=some (.slice (some ⟨.run w,0⟩) A.length A.length 0)→t.getP (Tr.path 9)=some (.slice none 0 0 0)→t.getP (Tr.path 61)=some (.slice (some ⟨.run u,0⟩) A.length A.length 0)→t.getP (Tr.path 62)=some (.int .i64 (A.length:Int))→t.getP (Tr.path 63)=some (.int .i64 0) →
  wp (loopF (runC (U lf K (n+1)) lf c11_l0) lf ⟨t,G,[]⟩) fun x s=>x=.ex 0∧s.d=[]∧s.t.getP (Tr.path 0)=some (.ptr (some ⟨l,0⟩))∧s.t.getP (Tr.path 1)=some a1∧s.t.getP (Tr.path 6)=some (.slice (some ⟨.run w,0⟩) A.length A.length 0)∧s.t.getP (Tr.path 8)=some a8∧Turns Z G s.H∧∃(Vs:List V) (y:V),s.t.getP (Tr.path 9)=some y∧Lst G s.H 1 (Vs.map fun v=>[v]) y∧Vs.length=A.length∧(∀ j (h1:j < Vs.length),StepAt G s.H l Vs[j] (.wr ((p+j) % R+10) (A.getD j 0))):=by
 intro t q0 q1 q8 q6 q9 q61 q62 q63
 refine wp_loopF (fun k s=>∃(i:Nat) (Vs:List V) (y:V),k=A.length - i∧i≤A.length∧s.d=[]∧s.t.getP (Tr.path 0)=some (.ptr (some ⟨l,0⟩))∧s.t.getP (Tr.path 1)=some a1∧s.t.getP (Tr.path 8)=some a8∧s.t.getP (Tr.path 6)=some (.slice (some ⟨.run w,0⟩) A.length A.length 0)∧s.t.getP (Tr.path 9)=some y∧s.t.getP (Tr.path 61)=some (.slice (some ⟨.run u,0⟩) A.length A.length 0)∧s.t.getP (Tr.path 62)=some (.int .i64 (A.length:Int))∧s.t.getP (Tr.path 63)=some (.int .i64 (i:Int))∧Lst G s.H 1 (Vs.map fun v=>[v]) y∧Vs.length=i∧(∀ j (h1:j < Vs.length),StepAt G s.H l Vs[j] (.wr ((p+j) % R+10) (A.getD j 0)))∧Turns Z G s.H)
  ?_ lf A.length _ ⟨0,[],_,rfl,Nat.zero_le _,rfl,q0,q1,q8,q6,q9,q61,q62,q63,Lst.nil _ _ _,rfl,fun j h1=>absurd h1 (by simp),Turns.refl _ _⟩ (by omega)
 rintro k ⟨t,HH,d⟩ ⟨i,Vs,y,rfl,hi,hd,q0,q1,q8,q6,q9,q61,q62,q63,hy,hVs,hst,hT⟩
 dsimp only at hd q0 q1 q8 q6 q9 q61 q62 q63 hy hst hT
 subst hd
 by_cases hlt:i < A.length
 ·have hlt':(i:Int) < (A.length:Int):=by omega
  have hle:i+1≤A.length:=hlt
  have w1:IntKind.i64.wrap ((i:Int)+1)=((i+1:Nat):Int):=by rw[Go.Am.wrap_i64 (by omega)];omega
  have hm:(p+i) % R < R:=Nat.mod_lt _ (by omega)
  have hwH:=(hT.same (.run w) wo (fun h=>h)).trans hw
  have huH:=(hT.same (.run u) uo (fun h=>h)).trans hu
  have hsl:(secs R p A.length).length=A.length:=by unfold secs;simp
  have ld1:=ldI (ro:=false) (A:=secs R p A.length) (i:=i) (by omega)
  have hsi:(secs R p A.length)[i]'(by omega)=(((p+i) % R+10:Nat):Int):=by unfold secs;rw[List.getElem_map,List.getElem_range]
  rw[hsi] at ld1
  have ld2:=ldK (ro:=false) hlt
  rw[← getD_get hlt] at ld2
  obtain⟨m,hmm⟩:∃ m,m=(p+i) % R+10:=⟨_,rfl⟩
  rw[← hmm] at ld1
  obtain⟨X,hX⟩:∃ X,X=A.getD i 0:=⟨_,rfl⟩
  rw[← hX] at ld2
  obtain⟨v1,H1,e1,hs1,t1⟩:=ulput hlf (K:=K) HH l m X n
  have hs1':=hs1
  obtain⟨b1,b2,b3,rfl,g1,g2,g3,l1,l2,l3,h1,h2,h3⟩:=hs1'
  have hy1:=hy.turns t1 (fun _ _ h=>h)
  have hxg:(H1.add (.rows false 1 [[.func (.func 60) [] [.ptr (some ⟨.run b1,0⟩),.ptr (some ⟨.run b2,0⟩),.ptr (some ⟨.run b3,0⟩)]]])).get (.run H1.next)=some (.rows false 1 [[.func (.func 60) [] [.ptr (some ⟨.run b1,0⟩),.ptr (some ⟨.run b2,0⟩),.ptr (some ⟨.run b3,0⟩)]]]):=by rw[Heap.get_add,if_pos rfl]
  have ta:=Turns.add Z H1 (.rows false 1 [[.func (.func 60) [] [.ptr (some ⟨.run b1,0⟩),.ptr (some ⟨.run b2,0⟩),.ptr (some ⟨.run b3,0⟩)]]])
  obtain⟨H2,hH2⟩:∃ H2,H1.add (.rows false 1 [[.func (.func 60) [] [.ptr (some ⟨.run b1,0⟩),.ptr (some ⟨.run b2,0⟩),.ptr (some ⟨.run b3,0⟩)]]])=H2:=⟨_,rfl⟩
  rw[hH2] at hxg ta
  have hy2:=hy1.turns ta (fun _ _ h=>h)
  have hvl:(Vs.map fun v=>[v]).length=i:=by rw[List.length_map,hVs]
  have tt:=(hT.trans t1).trans ta
  obtain⟨H3,ea,hy3,t3,_⟩:=hy2.app1 (by':=8) tt.next hxg rfl (by decide) (by rw[hvl];omega) (by rw[hvl];omega)
  rw[hvl] at ea hy3
  have hf:∀ v ∈ Vs,∃ f a k,v=V.func f a k:=fun v hv=>by
   obtain⟨j,hj,rfl⟩:=List.getElem_of_mem hv
   exact(hst j hj).func
  have t3':=lst_away hy2 tt (Nat.le_refl _) t3
  have hs3:StepAt G H3 l (.func (.func 60) [] [.ptr (some ⟨.run b1,0⟩),.ptr (some ⟨.run b2,0⟩),.ptr (some ⟨.run b3,0⟩)]) (.wr m X):=by
   have hn:=hT.next
   have h0:StepAt G H1 l (.func (.func 60) [] [.ptr (some ⟨.run b1,0⟩),.ptr (some ⟨.run b2,0⟩),.ptr (some ⟨.run b3,0⟩)]) (.wr m X):=⟨b1,b2,b3,rfl,by omega,by omega,by omega,l1,l2,l3,h1,h2,h3⟩
   exact(h0.turns ta (fun _ _ _ h=>h)).away hy2 hf t3
  have hst3:∀ j (h1:j < Vs.length),StepAt G H3 l Vs[j] (.wr ((p+j) % R+10) (A.getD j 0)):=fun j hj=>(((hst j hj).turns t1 (fun _ _ _ h=>h)).turns ta (fun _ _ _ h=>h)).away hy2 hf t3
  simp (maxDischargeDepth:=12) only[c11_l0,q0,q6,q9,q61,q62,q63,hlt',hle,w1,hwH,huH,ld1,ld2,e1,hH2,ea,Nat.mul_one,hv,ldO_one,stO_one,sy,tup,↓reduceIte,zA,zG,zC,zD,zF,zE,zB,zH,reduceCtorEq]
  refine⟨A.length - (i+1),by omega,i+1,Vs++[.func (.func 60) [] [.ptr (some ⟨.run b1,0⟩),.ptr (some ⟨.run b2,0⟩),.ptr (some ⟨.run b3,0⟩)]],_,rfl,by omega,trivial,by simp[q0],by simp[q1],by simp[q8],by simp[q6],rfl,by simp[q61],by simp[q62],by simp,by rw[List.map_append];exact hy3,by simp[hVs],fun j hj=>?_,t3'⟩
  by_cases e:j < Vs.length
  ·rw[List.getElem_append_left e]
   exact hst3 j e
  ·have ej:j=Vs.length:=by simp at hj;omega
   subst ej
   have g1:(Vs++[V.func (.func 60) [] [.ptr (some ⟨.run b1,0⟩),.ptr (some ⟨.run b2,0⟩),.ptr (some ⟨.run b3,0⟩)]])[Vs.length]'hj=.func (.func 60) [] [.ptr (some ⟨.run b1,0⟩),.ptr (some ⟨.run b2,0⟩),.ptr (some ⟨.run b3,0⟩)]:=by simp
   rw[g1,hVs,← hmm,← hX]
   exact hs3
 ·have:i=A.length:=by omega
  subst this
  simp (maxDischargeDepth:=12) only[c11_l0,q61,q62,q63,Int.lt_irrefl,hv,ldO_one,stO_one,sy,tup,↓reduceIte,zA,zG,zC,zD,zF,zE,zB,zH,reduceCtorEq]
  exact⟨trivial,trivial,q0,q1,q6,q8,hT,Vs,y,q9,hy,hVs,hst⟩
end
end Go.Proofs.YtabebpemfinejaaDoor.draft
