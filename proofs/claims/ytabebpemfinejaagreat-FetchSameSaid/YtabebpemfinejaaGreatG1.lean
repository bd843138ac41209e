import Derived.Test.YtabebpemfinejaaGreatG0
import Derived.Test.YtabebpemfinejaaGreatAmList
set_option linter.unusedVariables false
set_option linter.unusedSectionVars false
set_option linter.unusedSimpArgs false
set_option maxRecDepth 10000
open Nat renaming reduceEqDiff → zA, reduceLeDiff → zB, reduceSub → zC, reduceMul → zD, reduceMod → zE, reduceDiv → zF, reduceAdd → zG
open Int renaming reduceBEq → zH
namespace Go.Proofs.YtabebpemfinejaaGreat.disk
open Go.Am
noncomputable def c13:CFn:=⟨[.tmp (pp 4)],
 .seq (.reg [
 qo 4 (.p (S.get (ii 0))) []]) (
 .seq (.seq (.reg [
 mv 6 0,
 mv 7 1,
 qo 8 (.c (callF (ff 49) [(tt 6),(tt 7)])) [pp 6,pp 7],
 mv 5 8]) (
 .seq (.reg [
 mv 9 5,
 qo 10 (.p (eqcF true false [.int .i64] (tt 9) (ii 0))) [pp 9]]) (
 .cond (tt 10) (.seq (.reg [
 mv 11 5,
 mv 4 11]) (
 .ret)) (.skip)))) (
 .seq (.reg [
 mv 12 0,
 qo 13 (.p (nilcF (tt 12))) [pp 12],
 qo 14 (.p (faddrF (tt 13) 0)) [pp 13],
 qo 15 (.r (loadF (tt 14) 1 .sc)) [pp 14],
 mv 16 1,
 qo 17 (.p (iaddrSF (tt 15) (tt 16) 1)) [pp 15,pp 16],
 qo 18 (.r (loadF (tt 17) 1 .sc)) [pp 17],
 qo 19 (.c (callF (ff 50) [(tt 18)])) [pp 18],
 mv 4 19]) (
 .ret)))⟩
theorem c13_eq:fnOf Tryz.prog 13=some c13:=by kernel_rfl
noncomputable def c48:CFn:=⟨[.tmp (pp 4)],
 .seq (.reg [
 qo 4 (.p (S.get (ii 0))) []]) (
 .seq (.seq (.reg [
 mv 5 0,
 mv 6 1,
 qo 7 (.c (callF (ff 49) [(tt 5),(tt 6)])) [pp 5,pp 6],
 qo 8 (.p (eqcF true false [.int .i64] (tt 7) (ii 0))) [pp 7]]) (
 .cond (tt 8) (.seq (.reg [
 qo 4 (.p (S.get (ii 0))) []]) (
 .ret)) (.skip))) (
 .seq (.reg [
 mv 9 0,
 qo 10 (.p (nilcF (tt 9))) [pp 9],
 qo 11 (.p (faddrF (tt 10) 0)) [pp 10],
 qo 12 (.r (loadF (tt 11) 1 .sc)) [pp 11],
 mv 13 1,
 qo 14 (.p (iaddrSF (tt 12) (tt 13) 1)) [pp 12,pp 13],
 qo 15 (.r (loadF (tt 14) 1 .sc)) [pp 14],
 qo 16 (.c (callF (ff 111) [(tt 15)])) [pp 15],
 mv 4 16]) (
 .ret)))⟩
theorem c48_eq:fnOf Tryz.prog 48=some c48:=by kernel_rfl
noncomputable def c17:CFn:=⟨[.cell (pp 6) 64 .bk,.tmp (pp 7)],
 .seq (.reg [
 qo 6 (.m (allocF 64 [.blk 0])) [],
 qo 7 (.p (S.get (ii 0))) []]) (
 .seq (.seq (.reg [
 mv 9 0,
 mv 10 1,
 qo 11 (.c (callF (ff 49) [(tt 9),(tt 10)])) [pp 9,pp 10],
 mv 8 11]) (
 .seq (.reg [
 mv 12 8,
 qo 13 (.p (eqcF true false [.int .i64] (tt 12) (ii 0))) [pp 12]]) (
 .cond (tt 13) (.seq (.reg [
 qo 14 (.p (buildF [.blk 0] .bk [])) [],
 mv 15 8,
 qn (.a (storeF (tt 6) (tt 14) 64)) [pp 6,pp 14],
 mv 7 15]) (
 .ret)) (.skip)))) (
 .seq (.reg [
 mv 16 0,
 qo 17 (.p (nilcF (tt 16))) [pp 16],
 qo 18 (.p (faddrF (tt 17) 0)) [pp 17],
 qo 19 (.r (loadF (tt 18) 1 .sc)) [pp 18],
 mv 20 1,
 qo 21 (.p (iaddrSF (tt 19) (tt 20) 1)) [pp 19,pp 20],
 qo 22 (.r (loadF (tt 21) 1 .sc)) [pp 21],
 mv 23 2,
 qo 24 (.c (callF (ff 56) [(tt 22),(tt 23)])) [pp 22,pp 23],
 qo 25 (.p (extF (tt 24) 0)) [pp 24],
 qo 26 (.p (extF (tt 24) 1)) [pp 24],
 qn (.a (storeF (tt 6) (tt 25) 64)) [pp 6,pp 25],
 mv 7 26]) (
 .ret)))⟩
theorem c17_eq:fnOf Tryz.prog 17=some c17:=by kernel_rfl
noncomputable def c46:CFn:=⟨[.tmp (pp 2)],
 .seq (.reg [
 qo 2 (.p (S.get (ii 0))) []]) (
 .seq (.seq (.reg [
 mv 3 0,
 qo 4 (.c (callF (ff 109) [(tt 3)])) [pp 3]]) (
 .cond (tt 4) (.seq (.reg [
 qo 2 (.p (S.get (ii 0))) []]) (
 .ret)) (.skip))) (
 .seq (.reg [
 mv 5 0,
 qo 6 (.p (nilcF (tt 5))) [pp 5],
 qo 7 (.p (faddrF (tt 6) 0)) [pp 6],
 qo 8 (.r (loadF (tt 7) 1 .sc)) [pp 7],
 qo 9 (.p (lenF (tt 8))) [pp 8],
 mv 2 9]) (
 .ret)))⟩
theorem c46_eq:fnOf Tryz.prog 46=some c46:=by kernel_rfl
structure Bn where
 l:List Dev
 st:Int
 ar:Int
 dk:Bool
def tcode (n:Nat) (d:Int):Int:=if 0≤d∧d < (n:Int) then 0 else 2
def Bn.dev (B:Bn) (d:Int):Dev:=B.l.getD d.toNat ⟨[],[],false⟩
def Bn.tc (B:Bn) (d:Int):Int:=tcode B.l.length d
def Bn.lc (B:Bn) (d:Int):Int:=if B.dk=true then 8 else B.tc d
def Bn.rc (B:Bn) (d n:Int):Int:=if B.lc d=0 then code (B.dev d) n else B.lc d
noncomputable def Bn.read (B:Bn) (d n:Int):Nat:=if B.lc d=0 then(B.dev d).read n else 0
def Bn.setd (B:Bn) (d:Int) (D:Dev):Bn:={ B with l:=B.l.set d.toNat D }
def Bn.step (B:Bn) (d:Int) (D:Dev):Bn:=if B.ar=1 then { B with dk:=true } else⟨B.l.set d.toNat D,B.st+1,arLess B.ar,B.dk⟩
def Bn.sc (B:Bn):Int:=if B.ar=1 then 8 else 0
def Bn.wc (B:Bn) (d n:Int):Int:=if B.rc d n=0 then B.sc else B.rc d n
def Bn.write (B:Bn) (d n:Int) (x:Nat):Bn:=if B.rc d n=0 then B.step d ((B.dev d).write n x) else B
def Bn.flush (B:Bn) (d:Int):Bn:=if B.rc d 0=0 then B.step d (B.dev d).flush else B
def Bn.fail (B:Bn) (d:Int):Bn:=if B.tc d=0 then B.setd d (B.dev d).fail else B
def Bn.dead (B:Bn) (d:Int):Bool:=if B.tc d=0 then(B.dev d).dead else false
def Bn.sectors (B:Bn) (d:Int):Int:=if B.tc d=0 then((B.dev d).S.length:Int) else 0
def blank (n:Nat):Dev:=⟨List.replicate n 0,[],false⟩
def Bn.ac (B:Bn) (n:Int):Int:=if B.dk=true then 8 else if n < 0 then 2 else 0
def Bn.uc (B:Bn) (d n:Int):Int:=if B.tc d=0 then code (B.dev d) n else 2
def Bn.sure (B:Bn) (d n:Int):Nat:=if B.tc d=0 then(B.dev d).sure n else 0
structure Good (D:Dev):Prop where
 ne:D.S≠[]
 ok:∀ w ∈ D.L,w.1 < D.S.length
 len:D.S.length≤512
 le:D.L.length≤900
def n1:Bool→Bn→V
 | false,B=>.int .i64 B.st
 | true,B=>.int .i64 B.ar
def n2:Bool→Bn→V
 | false,B=>.int .i64 B.ar
 | true,B=>.bool B.dk
def n3:Bool→Bn→V
 | false,B=>.bool B.dk
 | true,B=>.int .i64 B.st
structure Rep (r:Bool) (H:Heap) (b ds:Bk) (so:Nat) (l:List Dv) (B:Bn):Prop where
 row:DvsAt H b ds so l (n1 r B) (n2 r B) (n3 r B)
 map:l.map Dv.D=B.l
abbrev BRep:=Rep false
theorem Rep.at' {H:Heap} {b ds:Bk} {so:Nat} {l:List Dv} {B:Bn} (h:Rep false H b ds so l B):BenchAt H b ds so l B.st B.ar B.dk:=h.row
theorem Rep.turns {H H':Heap} {b ds:Bk} {so:Nat} {l:List Dv} {B:Bn} {r:Bool} (h:Rep r H b ds so l B) (k:Turns Z H H'):Rep r H' b ds so l B:=⟨h.row.turns k,h.map⟩
theorem Rep.len {H:Heap} {b ds:Bk} {so:Nat} {l:List Dv} {B:Bn} {r:Bool} (h:Rep r H b ds so l B):l.length=B.l.length:=by rw[← h.map,List.length_map]
theorem tcode_cases (n:Nat) (d:Int):(∃ i:Nat,i < n∧d=(i:Int)∧tcode n d=0)∨tcode n d=2:=by
 unfold tcode
 by_cases h:0≤d∧d < (n:Int)
 ·rw[if_pos h]
  exact .inl ⟨d.toNat,by omega,by omega,rfl⟩
 ·rw[if_neg h];exact .inr rfl
theorem Rep.has {H:Heap} {b ds:Bk} {so:Nat} {l:List Dv} {B:Bn} {r:Bool} (h:Rep r H b ds so l B) (d:Int):(∃ i:Nat,∃ hi:i < l.length,d=(i:Int)∧B.tc d=0∧B.dev d=l[i].D)∨B.tc d=2:=by
 rcases tcode_cases B.l.length d with ⟨i,hi,rfl,e⟩ | e
 ·have hi':i < l.length:=by rw[h.len];exact hi
  refine .inl ⟨i,hi',rfl,e,?_⟩
  unfold Bn.dev
  rw[← h.map]
  simp[List.getD,hi']
 ·exact .inr e
def BFoot (b ds:Bk) (l:List Dv) (c:Bk):Prop:=c=b∨c=ds∨∃ x ∈ l,x.foot c
structure RNext (r:Bool) (H:Heap) (b ds:Bk) (so:Nat) (l:List Dv) (H':Heap) (l':List Dv) (B':Bn):Prop where
 rep:Rep r H' b ds so l' B'
 turns:Turns (BFoot b ds l) H H'
 foot:∀ c,BFoot b ds l' c→BFoot b ds l c∨¬ H.Old c
abbrev BNext:=RNext false
theorem Rep.idle {H H':Heap} {b ds:Bk} {so:Nat} {l:List Dv} {B:Bn} {r:Bool} (h:Rep r H b ds so l B) (k:Turns Z H H'):RNext r H b ds so l H' l B:=
 ⟨h.turns k,k.wide (fun c hc=>hc.elim),fun c hc=>.inl hc⟩
theorem RNext.before {H0 H H':Heap} {b ds:Bk} {so:Nat} {l l':List Dv} {B':Bn} {r:Bool} (t:Turns Z H0 H) (k:RNext r H b ds so l H' l' B'):RNext r H0 b ds so l H' l' B':=
 ⟨k.rep,(t.wide (fun c hc=>hc.elim)).trans k.turns,fun c hc=>(k.foot c hc).imp id (fun h o=>h (o.mono t.next))⟩
theorem RNext.after {H H' H2:Heap} {b ds:Bk} {so:Nat} {l l':List Dv} {B':Bn} {r:Bool} (k:RNext r H b ds so l H' l' B') (t:Turns Z H' H2):RNext r H b ds so l H2 l' B':=
 ⟨k.rep.turns t,k.turns.trans (t.wide (fun c hc=>hc.elim)),k.foot⟩
theorem foot_set {b ds:Bk} {l:List Dv} {i:Nat} (hi:i < l.length) {x:Dv} {P:Bk→Prop} (hx:∀ c,x.foot c→l[i].foot c∨P c):∀ c,BFoot b ds (l.set i x) c→BFoot b ds l c∨P c:=by
 rintro c (h | h | ⟨z,hz,hc⟩)
 ·exact .inl (.inl h)
 ·exact .inl (.inr (.inl h))
 ·rcases List.mem_or_eq_of_mem_set hz with hz | rfl
  ·exact .inl (.inr (.inr ⟨z,hz,hc⟩))
  ·rcases hx c hc with h | h
   ·exact .inl (.inr (.inr ⟨_,List.getElem_mem hi,h⟩))
   ·exact .inr h
theorem map_set_D {l:List Dv} {B:List Dev} (h:l.map Dv.D=B) (i:Nat) (x:Dv):(l.set i x).map Dv.D=B.set i x.D:=by rw[List.map_set,h]
theorem Rep.dev {H H':Heap} {b ds:Bk} {so:Nat} {l:List Dv} {B:Bn} {r:Bool} (h:Rep r H b ds so l B) {i:Nat} (hi:i < l.length) {y':Lay} {D':Dev} (k:Next H l[i].b l[i].y l[i].D H' y' D'):RNext r H b ds so l H' (l.set i ⟨l[i].b,y',D'⟩) (B.setd (i:Int) D'):=by
 refine⟨⟨by cases r<;>exact h.row.step hi k,map_set_D h.map i _⟩,k.turns.wide (fun c hc=>.inr (.inr ⟨_,List.getElem_mem hi,hc⟩)),foot_set hi ?_⟩
 rintro c (rfl | rfl | ⟨hl,rfl⟩)
 ·exact .inl (.inl rfl)
 ·exact .inl (.inr (.inl k.s))
 ·rcases k.l hl with ⟨h1,h2⟩ | h1
  ·exact .inl (.inr (.inr ⟨h1,h2⟩))
  ·exact .inr h1
theorem Rep.did {H H':Heap} {b ds:Bk} {so:Nat} {l:List Dv} {B:Bn} (h:BRep H b ds so l B) (hdk:B.dk=false) (h1:B.ar≠1) {i:Nat} {hi:i < l.length} {y':Lay} {D':Dev} (k:Did H b ds so l B.st B.ar i hi D' H' y'):BNext H b ds so l H' (l.set i ⟨l[i].b,y',D'⟩) (B.step (i:Int) D'):=by
 have e:B.step (i:Int) D'=⟨B.l.set i D',B.st+1,arLess B.ar,false⟩:=by unfold Bn.step;rw[if_neg h1,hdk];rfl
 rw[e]
 refine⟨⟨k.at',map_set_D h.map i _⟩,k.turns.wide ?_,foot_set hi k.foot⟩
 rintro c (hc | hc)
 ·exact .inl hc
 ·exact .inr (.inr ⟨_,List.getElem_mem hi,hc⟩)
theorem Rep.cut {H H':Heap} {b ds:Bk} {so:Nat} {l:List Dv} {B:Bn} (h:BRep H b ds so l B) (h1:B.ar=1) (D':Dev) (d:Int) (k:BenchAt H' b ds so l B.st 1 true) (t:Turns (fun c=>c=b) H H'):BNext H b ds so l H' l (B.step d D'):=by
 have e:B.step d D'=⟨B.l,B.st,1,true⟩:=by unfold Bn.step;rw[if_pos h1,h1]
 rw[e]
 exact⟨⟨k,h.map⟩,t.wide (fun c hc=>.inl hc),fun c hc=>.inl hc⟩
theorem Rep.place {H H1:Heap} {b ds:Bk} {so:Nat} {l:List Dv} {B:Bn} {r:Bool} (h:Rep r H b ds so l B) {i:Nat} (hi:i < l.length) (t:Turns Z H H1) {c:Bk} {y:Lay} {D:Dev} (hD:DevAt H1 c y D) (hF:Fresh H c y D) :
  storeAt H1 ⟨ds,i⟩ [.ptr (some ⟨c,0⟩)]=some (H1.set ds (.rows false 1 ((l.set i ⟨c,y,D⟩).map fun x=>[.ptr (some ⟨x.b,0⟩)])))∧RNext r H b ds so l (H1.set ds (.rows false 1 ((l.set i ⟨c,y,D⟩).map fun x=>[.ptr (some ⟨x.b,0⟩)]))) (l.set i ⟨c,y,D⟩) (B.setd (i:Int) D):=by
 have A:=h.row
 have A1:=A.turns t
 have st:storeAt H1 ⟨ds,i⟩ [.ptr (some ⟨c,0⟩)]=some (H1.set ds (.rows false 1 ((l.set i ⟨c,y,D⟩).map fun x=>[.ptr (some ⟨x.b,0⟩)]))):=by
  rw[storeAt_eq A1.ptrs (r:=[.ptr (some ⟨l[i].b,0⟩)]) (r':=[.ptr (some ⟨c,0⟩)]) (nth_of (by rw[Nat.div_one];simp[hi])) (by rw[Nat.mod_one];rfl),Nat.div_one,List.map_set]
 have nf:=hF.foot
 have hc:¬ Foot c y D ds:=fun e=>nf ds e A.old.2
 have hcb:¬ Foot c y D b:=fun e=>nf b e A.old.1
 have hk:Turns (fun x=>x=ds) H1 (H1.set ds (.rows false 1 ((l.set i ⟨c,y,D⟩).map fun x=>[.ptr (some ⟨x.b,0⟩)]))):=Turns.set (X:=fun x=>x=ds) rfl _ _
 refine⟨st,⟨⟨⟨?_,?_,fun j hj=>?_,fun p q hp hq hpq=>?_,?_,A.ne,fun j hj=>?_⟩,map_set_D h.map i _⟩,(t.wide (fun c hc=>hc.elim)).trans (hk.wide fun x hx=>.inr (.inl hx)),foot_set hi (fun x hx=>.inr (nf x hx))⟩⟩
 ·rw[List.length_set];cases r<;>exact(hk.same b A1.old.1 A.ne).trans A1.own
 ·rw[Heap.get_set,if_pos rfl]
 ·have hj':j < l.length:=by simpa using hj
  by_cases e:i=j
  ·subst e
   rw[List.getElem_set_self]
   exact hD.turns hk (fun e=>hc (.inl e.symm)) (fun e=>hc (.inr (.inl e.symm))) (fun hl e=>hc (.inr (.inr ⟨hl,e.symm⟩)))
  ·rw[List.getElem_set_ne e]
   have o:=(A.out j hj').2
   exact(A1.dev j hj').turns hk (fun e=>o (.inl e.symm)) (fun e=>o (.inr (.inl e.symm))) (fun hl e=>o (.inr (.inr ⟨hl,e.symm⟩)))
 ·have hp':p < l.length:=by simpa using hp
  have hq':q < l.length:=by simpa using hq
  by_cases e1:i=p
  ·subst e1
   rw[List.getElem_set_self,List.getElem_set_ne hpq]
   exact(sep_fresh (A.dev q hq') hF).symm
  ·by_cases e2:i=q
   ·subst e2
    rw[List.getElem_set_self,List.getElem_set_ne e1]
    exact sep_fresh (A.dev p hp') hF
   ·rw[List.getElem_set_ne e1,List.getElem_set_ne e2]
    exact A.sep p q hp' hq' hpq
 ·simp only[Heap.old_set];exact A1.old
 ·have hj':j < l.length:=by simpa using hj
  by_cases e:i=j
  ·subst e
   rw[List.getElem_set_self]
   exact⟨hcb,hc⟩
  ·rw[List.getElem_set_ne e]
   exact A.out j hj'
section
variable {H:Heap} {b ds:Bk} {so:Nat} {l:List Dv} {B:Bn} (h:BRep H b ds so l B) (hl:l≠[])
include h hl
theorem bhas_no {d:Int} (hd:B.tc d=2) (lf m:Nat):callS Tryz.prog S0 lf (m+1) 112 [.ptr (some ⟨b,0⟩),.int .i64 d] H=some (.v (.bool false),H):=by
 have l0:=bload0 h.at'
 have hn:¬ (0≤d∧d < (l.length:Int)):=fun e=>by
  unfold Bn.tc tcode at hd;rw[← h.len,if_pos e] at hd;cases hd
 obtain⟨v,H',e,rfl,rfl⟩:ret (callS Tryz.prog S0 lf (m+1) 112 [.ptr (some ⟨b,0⟩),.int .i64 d] H) fun v H'=>v=.bool false∧H'=H:=by
  refine ret_call rfl c112_eq ?_
  by_cases g0:0≤d
  ·have g1:¬ (d < (l.length:Int)):=fun e=>hn ⟨g0,e⟩
   simp only[c112,l0,g0,g1,sy,tup,↓reduceIte,zA,zG,zC,zD,zF,zE,zB,zH,reduceCtorEq]
   simp
  ·simp only[c112,l0,g0,sy,tup,↓reduceIte,zA,zG,zC,zD,zF,zE,zB,zH,reduceCtorEq]
   simp
 exact e
theorem bthere_all (d:Int) (lf m:Nat):callS Tryz.prog S0 lf (m+2) 49 [.ptr (some ⟨b,0⟩),.int .i64 d] H=some (.v (.int .i64 (B.tc d)),H):=by
 rcases h.has d with ⟨i,hi,rfl,e,_⟩ | e
 ·rw[e];exact bthere h.at' hi lf m
 ·rw[e]
  have e1:=bnone h.at' hl lf m
  have e2:=bhas_no h hl e lf m
  obtain⟨v,H',e,rfl,rfl⟩:ret (callS Tryz.prog S0 lf (m+2) 49 [.ptr (some ⟨b,0⟩),.int .i64 d] H) fun v H'=>v=.int .i64 2∧H'=H:=by
   refine ret_call rfl c49_eq ?_
   simp only[c49,e1,e2,sy,tup,↓reduceIte,zA,zG,zC,zD,zF,zE,zB,zH,reduceCtorEq]
   simp
  exact e
theorem blit_all (d:Int) (lf m:Nat):callS Tryz.prog S0 lf (m+3) 190 [.ptr (some ⟨b,0⟩),.int .i64 d] H=some (.v (.int .i64 (B.lc d)),H):=by
 cases hdk:B.dk with
 | true=>rw[show B.lc d=8 from if_pos hdk];exact blit_dark h.at' hl hdk d lf m
 | false=>
  have e0:B.lc d=B.tc d:=if_neg (by rw[hdk];decide)
  have e1:=bnone h.at' hl lf (m+1)
  have e2:=bthere_all h hl d lf m
  have l3:=bload3 h.at'
  rw[hdk] at l3
  change callS Tryz.prog S0 lf (m+2) 109 [.ptr (some ⟨b,0⟩)] H=_ at e1
  rw[e0]
  obtain⟨v,H',e,rfl,rfl⟩:ret (callS Tryz.prog S0 lf (m+3) 190 [.ptr (some ⟨b,0⟩),.int .i64 d] H) fun v H'=>v=.int .i64 (B.tc d)∧H'=H:=by
   refine ret_call rfl c190_eq ?_
   simp only[c190,e1,e2,l3,sy,tup,↓reduceIte,zA,zG,zC,zD,zF,zE,zB,zH,reduceCtorEq]
   simp
  exact e
variable (hg:∀ D ∈ B.l,Good D)
include hg
theorem good_at {i:Nat} (hi:i < l.length):Good l[i].D:=hg _ (by rw[← h.map];exact List.mem_map_of_mem (List.getElem_mem hi))
theorem bread_all (d n:Int) {lf:Nat} (hlf:1000 < lf) (m:Nat) :
  ret (callS Tryz.prog S0 lf (m+4) 127 [.ptr (some ⟨b,0⟩),.int .i64 d,.int .i64 n] H) fun v H'=>v=.tuple [.blk (B.read d n),.int .i64 (B.rc d n)]∧Turns Z H H':=by
 by_cases hc:B.lc d=0
 ·have hr:B.read d n=(B.dev d).read n:=if_pos hc
  have hrc:B.rc d n=code (B.dev d) n:=if_pos hc
  have hdk:B.dk=false:=by
   cases hdk:B.dk with
   | false=>rfl
   | true=>rw[show B.lc d=8 from if_pos hdk] at hc;cases hc
  have ht:B.tc d=0:=by rw[← hc];exact(if_neg (by rw[hdk];decide)).symm
  rcases h.has d with ⟨i,hi,rfl,_,e⟩ | e
  ·rw[hr,hrc,e]
   have g:=good_at h hl hg hi
   exact bread h.at' hi hdk n g.ne (by have:=g.le;omega) (by have:=g.le;omega) m
  ·rw[ht] at e;cases e
 ·have hr:B.read d n=0:=if_neg hc
  have hrc:B.rc d n=B.lc d:=if_neg hc
  have hz:(B.lc d==0)=false:=by simp;exact hc
  have t1:=Turns.add Z H (.rows false 64 [[.blk 0]])
  have e1:=blit_all (h.turns t1) hl d lf m
  rw[hr,hrc]
  refine ret_call rfl c127_eq ?_
  simp only[c127,e1,hz,sy,tup,↓reduceIte,zA,zG,zC,zD,zF,zE,zB,zH,reduceCtorEq]
  exact⟨trivial,.inr trivial,_,rfl,rfl,t1.setnew (Nat.le_refl _) _⟩
theorem bwrite_all (ha:0≤B.ar∧B.ar≤9223372036854775807) (hs:0≤B.st∧B.st≤100000) (d n:Int) (x:Nat) {lf:Nat} (hlf:1000 < lf) (m:Nat) :
  ret (callS Tryz.prog S0 lf (m+6) 67 [.ptr (some ⟨b,0⟩),.int .i64 d,.int .i64 n,.blk x] H) fun v H'=>v=.int .i64 (B.wc d n)∧∃ l',BNext H b ds so l H' l' (B.write d n x):=by
 by_cases hc:B.rc d n=0
 ·have hw:B.write d n x=B.step d ((B.dev d).write n x):=if_pos hc
  have hwc:B.wc d n=B.sc:=if_pos hc
  have hlc:B.lc d=0:=by
   by_cases e:B.lc d=0
   ·exact e
   ·rw[show B.rc d n=B.lc d from if_neg e] at hc;exact absurd hc e
  have hcc:code (B.dev d) n=0:=(if_pos hlc:B.rc d n=code (B.dev d) n).symm.trans hc
  have hdk:B.dk=false:=by
   cases hdk:B.dk with
   | false=>rfl
   | true=>rw[show B.lc d=8 from if_pos hdk] at hlc;cases hlc
  have ht:B.tc d=0:=by rw[← hlc];exact(if_neg (by rw[hdk];decide)).symm
  rcases h.has d with ⟨i,hi,rfl,_,e⟩ | e
  ·rw[hw,hwc,e]
   rw[e] at hcc
   have g:=good_at h hl hg hi
   have hA:=h.at'
   rw[hdk] at hA
   obtain⟨v,H',e1,hcase⟩:=bwrite hA ha hs hi n x (lf:=lf) g.ne (by have:=g.le;omega) (by have:=g.le;omega) hcc m
   rcases hcase with ⟨h1,rfl,hB,k⟩ | ⟨h1,rfl,y',k⟩
   ·exact⟨_,H',e1,by rw[show B.sc=8 from if_pos h1],l,h.cut h1 _ _ hB k⟩
   ·exact⟨_,H',e1,by rw[show B.sc=0 from if_neg h1],_,h.did hdk h1 k⟩
  ·rw[ht] at e;cases e
 ·have hw:B.write d n x=B:=if_neg hc
  have hwc:B.wc d n=B.rc d n:=if_neg hc
  rw[hw,hwc]
  have hT4:Turns Z H ((((H.add (.rows false 1 [[.ptr (some ⟨b,0⟩)]])).add (.rows false 1 [[.int .i64 d]])).add (.rows false 1 [[.int .i64 n]])).add (.rows false 64 [[.blk x]])):=((((Turns.refl Z H).addm _).addm _).addm _).addm _
  have g0:((((H.add (.rows false 1 [[.ptr (some ⟨b,0⟩)]])).add (.rows false 1 [[.int .i64 d]])).add (.rows false 1 [[.int .i64 n]])).add (.rows false 64 [[.blk x]])).get (.run H.next)=some (.rows false 1 [[.ptr (some ⟨b,0⟩)]]):=by
   rw[Heap.get_add,if_neg (by simp<;>omega),Heap.get_add,if_neg (by simp<;>omega),Heap.get_add,if_neg (by simp<;>omega),Heap.get_add,if_pos rfl]
  have g1:((((H.add (.rows false 1 [[.ptr (some ⟨b,0⟩)]])).add (.rows false 1 [[.int .i64 d]])).add (.rows false 1 [[.int .i64 n]])).add (.rows false 64 [[.blk x]])).get (.run (H.next+1))=some (.rows false 1 [[.int .i64 d]]):=by
   rw[Heap.get_add,if_neg (by simp<;>omega),Heap.get_add,if_neg (by simp<;>omega),Heap.get_add,if_pos (by simp)]
  have g2:((((H.add (.rows false 1 [[.ptr (some ⟨b,0⟩)]])).add (.rows false 1 [[.int .i64 d]])).add (.rows false 1 [[.int .i64 n]])).add (.rows false 64 [[.blk x]])).get (.run (H.next+1+1))=some (.rows false 1 [[.int .i64 n]]):=by
   rw[Heap.get_add,if_neg (by simp<;>omega),Heap.get_add,if_pos (by simp)]
  generalize hH4:((((H.add (.rows false 1 [[.ptr (some ⟨b,0⟩)]])).add (.rows false 1 [[.int .i64 d]])).add (.rows false 1 [[.int .i64 n]])).add (.rows false 64 [[.blk x]]))=H4 at hT4 g0 g1 g2
  have d0:=load1_of g0 rfl
  have d1:=load1_of g1 rfl
  have d2:=load1_of g2 rfl
  obtain⟨v1,K1,e1,rfl,t1⟩:=bread_all (h.turns hT4) hl hg d n hlf (m+1)
  change callS Tryz.prog S0 lf (m+5) 127 [.ptr (some ⟨b,0⟩),.int .i64 d,.int .i64 n] H4=_ at e1
  generalize B.read d n=X at e1
  have hz:(B.rc d n==0)=false:=by simp;exact hc
  generalize B.rc d n=z at e1 hz
  refine ret_call rfl c67_eq ?_
  simp only[c67,sy,tup,↓reduceIte,zA,zG,zC,zD,zF,zE,zB,zH,reduceCtorEq]
  rw[hH4]
  simp only[d0,d1,d2,e1,cell_fold,hz,sy,tup,↓reduceIte,zA,zG,zC,zD,zF,zE,zB,zH,reduceCtorEq]
  exact⟨trivial,.inr trivial,_,rfl,rfl,l,h.idle ((hT4.trans t1).trans (cell_turns K1 X))⟩
theorem bflush_all (ha:0≤B.ar∧B.ar≤9223372036854775807) (hs:0≤B.st∧B.st≤100000) (d:Int) {lf:Nat} (hlf:1000 < lf) (m:Nat) :
  ret (callS Tryz.prog S0 lf (m+5) 116 [.ptr (some ⟨b,0⟩),.int .i64 d] H) fun v H'=>v=.int .i64 (B.wc d 0)∧∃ l',BNext H b ds so l H' l' (B.flush d):=by
 by_cases hc:B.rc d 0=0
 ·have hw:B.flush d=B.step d (B.dev d).flush:=if_pos hc
  have hwc:B.wc d 0=B.sc:=if_pos hc
  have hlc:B.lc d=0:=by
   by_cases e:B.lc d=0
   ·exact e
   ·rw[show B.rc d 0=B.lc d from if_neg e] at hc;exact absurd hc e
  have hcc:code (B.dev d) 0=0:=(if_pos hlc:B.rc d 0=code (B.dev d) 0).symm.trans hc
  have hdk:B.dk=false:=by
   cases hdk:B.dk with
   | false=>rfl
   | true=>rw[show B.lc d=8 from if_pos hdk] at hlc;cases hlc
  have ht:B.tc d=0:=by rw[← hlc];exact(if_neg (by rw[hdk];decide)).symm
  rcases h.has d with ⟨i,hi,rfl,_,e⟩ | e
  ·rw[hw,hwc,e]
   rw[e] at hcc
   have g:=good_at h hl hg hi
   have hA:=h.at'
   rw[hdk] at hA
   have hdd:l[i].D.dead=false:=by
    rcases code_cases l[i].D 0 with ⟨k,_,_,hd,_⟩ | h2 | h2
    ·exact hd
    ·rw[hcc] at h2;cases h2
    ·rw[hcc] at h2;cases h2
   obtain⟨v,H',e1,hcase⟩:=bflush hA ha hs hi (lf:=lf) g.ne g.ok (by have:=g.le;omega) (by have:=g.le;omega) hdd m
   rcases hcase with ⟨h1,rfl,hB,k⟩ | ⟨h1,rfl,y',k⟩
   ·exact⟨_,H',e1,by rw[show B.sc=8 from if_pos h1],l,h.cut h1 _ _ hB k⟩
   ·exact⟨_,H',e1,by rw[show B.sc=0 from if_neg h1],_,h.did hdk h1 k⟩
  ·rw[ht] at e;cases e
 ·have hw:B.flush d=B:=if_neg hc
  have hwc:B.wc d 0=B.rc d 0:=if_neg hc
  rw[hw,hwc]
  obtain⟨v1,K1,e1,rfl,t1⟩:=bread_all h hl hg d 0 hlf m
  generalize B.read d 0=X at e1
  have hz:(B.rc d 0==0)=false:=by simp;exact hc
  generalize B.rc d 0=z at e1 hz
  refine ret_call rfl c116_eq ?_
  simp only[c116,e1,cell_fold,hz,sy,tup,↓reduceIte,zA,zG,zC,zD,zF,zE,zB,zH,reduceCtorEq]
  exact⟨trivial,.inr trivial,_,rfl,rfl,l,h.idle (t1.trans (cell_turns K1 X))⟩
theorem bfail_all (d:Int) (lf m:Nat) :
  ret (callS Tryz.prog S0 lf (m+3) 13 [.ptr (some ⟨b,0⟩),.int .i64 d] H) fun v H'=>v=.int .i64 (B.tc d)∧∃ l',BNext H b ds so l H' l' (B.fail d):=by
 have e1:=bthere_all h hl d lf m
 rcases h.has d with ⟨i,hi,rfl,e,eD⟩ | e
 ·have hw:B.fail (i:Int)=B.setd (i:Int) l[i].D.fail:=by rw[← eD];exact if_pos e
  rw[hw]
  rw[e] at e1 ⊢
  have l0:=bload0 h.at'
  have lp:=bloadP h.at' hi
  have hi1:i+1≤l.length:=hi
  obtain⟨v,H',e2,rfl,y',k⟩:=fail_ok (h.at'.dev i hi) (good_at h hl hg hi).ne lf m
  refine ret_call rfl c13_eq ?_
  simp only[c13,e1,l0,lp,hi1,e2,Nat.mul_one,sy,tup,↓reduceIte,zA,zG,zC,zD,zF,zE,zB,zH,reduceCtorEq]
  exact⟨trivial,.inr trivial,_,rfl,rfl,_,h.dev hi k⟩
 ·have hw:B.fail d=B:=if_neg (by rw[e];decide)
  rw[hw]
  rw[e] at e1 ⊢
  refine ret_call rfl c13_eq ?_
  simp only[c13,e1,sy,tup,↓reduceIte,zA,zG,zC,zD,zF,zE,zB,zH,reduceCtorEq]
  exact⟨trivial,.inr trivial,_,rfl,rfl,l,h.idle (Turns.refl Z H)⟩
theorem bsectors_all (d:Int) (lf m:Nat) :
  callS Tryz.prog S0 lf (m+3) 48 [.ptr (some ⟨b,0⟩),.int .i64 d] H=some (.v (.int .i64 (B.sectors d)),H):=by
 have e1:=bthere_all h hl d lf m
 obtain⟨v,H',e,rfl,rfl⟩:ret (callS Tryz.prog S0 lf (m+3) 48 [.ptr (some ⟨b,0⟩),.int .i64 d] H) fun v H'=>v=.int .i64 (B.sectors d)∧H'=H:=by
  rcases h.has d with ⟨i,hi,rfl,e,eD⟩ | e
  ·have hw:B.sectors (i:Int)=(l[i].D.S.length:Int):=by rw[← eD];exact if_pos e
   rw[hw]
   rw[e] at e1
   have l0:=bload0 h.at'
   have lp:=bloadP h.at' hi
   have hi1:i+1≤l.length:=hi
   obtain⟨v,H',e2,rfl,rfl⟩:=sectors_ok (h.at'.dev i hi) (good_at h hl hg hi).ne lf m
   refine ret_call rfl c48_eq ?_
   simp only[c48,e1,l0,lp,hi1,e2,Nat.mul_one,sy,tup,↓reduceIte,zA,zG,zC,zD,zF,zE,zB,zH,reduceCtorEq]
   simp
  ·have hw:B.sectors d=0:=if_neg (by rw[e];decide)
   rw[hw]
   rw[e] at e1
   refine ret_call rfl c48_eq ?_
   simp only[c48,e1,sy,tup,↓reduceIte,zA,zG,zC,zD,zF,zE,zB,zH,reduceCtorEq]
   simp
 exact e
theorem bsure_all (d n:Int) (lf m:Nat) :
  ret (callS Tryz.prog S0 lf (m+4) 17 [.ptr (some ⟨b,0⟩),.int .i64 d,.int .i64 n] H) fun v H'=>v=.tuple [.blk (B.sure d n),.int .i64 (B.uc d n)]∧Turns Z H H':=by
 have t1:=Turns.add Z H (.rows false 64 [[.blk 0]])
 have h':=h.turns t1
 have e1:=bthere_all h' hl d lf (m+1)
 change callS Tryz.prog S0 lf (m+3) 49 _ _=_ at e1
 rcases h.has d with ⟨i,hi,rfl,e,eD⟩ | e
 ·have hw:B.sure (i:Int) n=l[i].D.sure n:=by rw[← eD];exact if_pos e
  have hc:B.uc (i:Int) n=code l[i].D n:=by rw[← eD];exact if_pos e
  rw[hw,hc]
  rw[e] at e1
  have l0:=bload0 h'.at'
  have lp:=bloadP h'.at' hi
  have hi1:i+1≤l.length:=hi
  obtain⟨v,H1,e2,rfl,t2⟩:=sure_all (h'.at'.dev i hi) (good_at h hl hg hi).ne n lf m
  have g0:H1.get (.run H.next)=some (.rows false 64 [[.blk 0]]):=by
   rw[t2.same _ (by show _ < _;simp) id,Heap.get_add,if_pos rfl]
  have st:=cell_store (v:=l[i].D.sure n) g0
  refine ret_call rfl c17_eq ?_
  simp only[c17,e1,l0,lp,hi1,e2,st,Nat.mul_one,sy,tup,↓reduceIte,zA,zG,zC,zD,zF,zE,zB,zH,reduceCtorEq]
  exact⟨trivial,.inr trivial,_,rfl,rfl,(t1.trans t2).setnew (Nat.le_refl _) _⟩
 ·have hw:B.sure d n=0:=if_neg (by rw[e];decide)
  have hc:B.uc d n=2:=if_neg (by rw[e];decide)
  rw[hw,hc]
  rw[e] at e1
  refine ret_call rfl c17_eq ?_
  simp only[c17,e1,sy,tup,↓reduceIte,zA,zG,zC,zD,zF,zE,zB,zH,reduceCtorEq]
  exact⟨trivial,.inr trivial,_,rfl,rfl,t1.setnew (Nat.le_refl _) _⟩
end
end Go.Proofs.YtabebpemfinejaaGreat.disk
namespace Go.Proofs.YtabebpemfinejaaGreat.disk
open Go.Am
noncomputable def c9_l0:C:=.seq (.reg [
 qo 22 (.p (arF .lss (tt 21) (tt 20))) [pp 21,pp 20]]) (
 .seq (.cond (tt 22) (.skip) (.exit 0)) (
 .seq (.block 1 (.seq (.reg [
 qo 23 (.p (iaddrSF (tt 19) (tt 21) 1)) [pp 19,pp 21],
 qo 24 (.r (loadF (tt 23) 1 .sc)) [pp 23],
 mv 6 24]) (
 .seq (.reg [
 mv 26 6,
 qo 27 (.c (callF (ff 44) [(tt 26)])) [pp 26],
 mv 25 27,
 qo 28 (.p (extF (tt 25) 0)) [pp 25],
 qo 29 (.p (extF (tt 25) 1)) [pp 25],
 mv 7 28,
 mv 8 29]) (
 .seq (.seq (.reg [
 mv 30 8,
 qo 31 (.p (eqcF true false [.int .i64] (tt 30) (ii 0))) [pp 30]]) (
 .cond (tt 31) (.seq (.reg [
 mv 32 8,
 qo 2 (.p (S.get (.c (.ptr none)))) [],
 mv 3 32]) (
 .ret)) (.skip))) (
 .reg [
 mv 33 4,
 mv 34 4,
 qo 35 (.p (nilcF (tt 34))) [pp 34],
 qo 36 (.p (faddrF (tt 35) 0)) [pp 35],
 qo 37 (.r (loadF (tt 36) 1 .sc)) [pp 36],
 mv 38 7,
 qo 39 (.m (bsliceF 1 1 [.ptr none] [(0,1,(tt 38))])) [pp 38],
 qo 40 (.a (appF 1 8 (tt 37) (tt 39))) [pp 37,pp 39],
 qo 41 (.p (nilcF (tt 33))) [pp 33],
 qo 42 (.p (faddrF (tt 41) 0)) [pp 41],
 qn (.a (storeF (tt 42) (tt 40) 1)) [pp 42,pp 40]]))))) (
 .reg [
 qo 43 (.p (arF .add (tt 21) (ii 1))) [pp 21],
 mv 21 43])))
noncomputable def c9:CFn:=⟨[.tmp (pp 2),.tmp (pp 3)],
 .seq (.reg [
 qo 2 (.p (S.get (.c (.ptr none)))) [],
 qo 3 (.p (S.get (ii 0))) []]) (
 .seq (.seq (.reg [
 mv 9 0,
 qo 10 (.p (lenF (tt 9))) [pp 9],
 qo 11 (.p (arF .lss (tt 10) (ii 1))) [pp 10],
 mv 12 11,
 mg 13 0 12 false,
 qg 14 (.p (lenF (tt 13))) 12 false [pp 13],
 qg 15 (.p (arF .gtr (tt 14) (ii 17))) 12 false [pp 14],
 qo 16 (.p (pickF (tt 12) (.c (.bool true)) (tt 15))) [pp 12,pp 15]]) (
 .cond (tt 16) (.seq (.reg [
 qo 2 (.p (S.get (.c (.ptr none)))) [],
 qo 3 (.p (S.get (ii 2))) []]) (
 .ret)) (.skip))) (
 .seq (.reg [
 qo 17 (.p (buildF [.slice none 0 0 0,.int .i64 0,.int .i64 0,.bool false] .ag [])) [],
 qo 18 (.m (boxF 4 (tt 17))) [pp 17],
 mv 4 18]) (
 .seq (.seq (.reg [
 mv 19 0,
 qo 20 (.p (lenF (tt 19))) [pp 19],
 qo 21 (.p (S.get (ii 0))) []]) (
 .block 0 (.loop c9_l0))) (
 .seq (.reg [
 mv 44 4,
 mv 2 44,
 qo 3 (.p (S.get (ii 0))) []]) (
 .ret)))))⟩
theorem c9_eq:fnOf Tryz.prog 9=some c9:=by kernel_rfl
def ptrRows (l:List Dv):List (List V):=l.map fun x=>[.ptr (some ⟨x.b,0⟩)]
theorem app_ptr {H:Heap} {p:Option Ptr} {o:Nat} {l:List Dv} {x c:Bk} (h0:l=[]→p=none∧o=0) (h1:l≠[]→∃ ds,p=some ⟨ds,0⟩∧o=1∧H.get ds=some (.rows false 1 (ptrRows l))) (hx:H.get x=some (.rows false 1 [[.ptr (some ⟨c,0⟩)]])) (hmax:l.length < 1000000) :
  appendV 1 8 H (.slice p l.length l.length o) (.slice (some ⟨x,0⟩) 1 1 0)=some (.slice (some ⟨.run H.next,0⟩) (l.length+1) (l.length+1) 1,(killP H p).add (.rows false 1 (ptrRows l++[[.ptr (some ⟨c,0⟩)]]))):=by
 have he:elems H x 1 1 0=some [[.ptr (some ⟨c,0⟩)]]:=by
  simp only[elems]
  rw[loadAt_eq hx (r:=[.ptr (some ⟨c,0⟩)]) rfl]
  rfl
 by_cases hP:l=[]
 ·obtain⟨rfl,rfl⟩:=h0 hP
  subst hP
  simp only[appendV,lenOf,nbeq,nble,firstE,he]
  simp[elems,ptrRows,killP]
 ·obtain⟨d,rfl,rfl,hg⟩:=h1 hP
  have hlen:(ptrRows l).length=l.length:=by simp[ptrRows]
  simp only[appendV,lenOf,nbeq,nble,firstE,he,hg]
  have e1:(l.length+1)*8≤1099511627776:=by omega
  have e2:l.length+1≤1099511627776:=by omega
  simp[Cg,Cf,Ci,e1,e2,hlen,killP,Nat.mod_one]
structure Grow (H0 H:Heap) (b:Bk) (p:Option Ptr) (o:Nat) (l:List Dv) (r1 r2 r3:V):Prop where
 own:H.get b=some (.rows false 4 [[.slice p l.length l.length o,r1,r2,r3]])
 nil:l=[]→p=none∧o=0
 ptrs:l≠[]→∃ ds,p=some ⟨ds,0⟩∧o=1∧H.get ds=some (.rows false 1 (ptrRows l))∧H.Old ds∧ds≠b∧¬ H0.Old ds∧∀ x ∈ l,¬ x.foot ds
 dev:∀ x ∈ l,DevAt H x.b x.y x.D
 sep:l.Pairwise fun x z=>Sep x.b x.y x.D z.b z.y z.D
 out:∀ x ∈ l,¬ x.foot b
 old:H.Old b
 new:¬ H0.Old b
 fresh:∀ x ∈ l,Fresh H0 x.b x.y x.D
 t:Turns Z H0 H
theorem killP_turns (H:Heap) {p:Option Ptr} {X:Bk→Prop} (h:∀ q,p=some q→X q.b):Turns X H (killP H p):=by
 cases p with
 | none=>exact Turns.refl X H
 | some q=>exact Turns.set (h q rfl) _ _
theorem killP_next (H:Heap) (p:Option Ptr):(killP H p).next=H.next:=by cases p<;>rfl
theorem Grow.load {H0 H H1:Heap} {b:Bk} {p:Option Ptr} {o:Nat} {l:List Dv} {r1 r2 r3:V} (h:Grow H0 H b p o l r1 r2 r3) (t:Turns Z H H1):loadAt H1 ⟨b,0⟩ 1=some [.slice p l.length l.length o]:=by
 rw[loadAt_eq ((t.same _ h.old id).trans h.own) (r:=[.slice p l.length l.length o,r1,r2,r3]) rfl];rfl
theorem Grow.step {H0 H H1:Heap} {b:Bk} {p:Option Ptr} {o:Nat} {l:List Dv} {r1 r2 r3:V} (h:Grow H0 H b p o l r1 r2 r3) (t:Turns Z H H1) {c:Bk} {y:Lay} {D:Dev} (hD:DevAt H1 c y D) (hF:Fresh H c y D) (hmax:l.length < 1000000) :
  ∃ H3 H4 ds,appendV 1 8 (H1.add (.rows false 1 [[.ptr (some ⟨c,0⟩)]])) (.slice p l.length l.length o) (.slice (some ⟨.run H1.next,0⟩) 1 1 0)=some (.slice (some ⟨ds,0⟩) (l.length+1) (l.length+1) 1,H3) ∧
   storeAt H3 ⟨b,0⟩ [.slice (some ⟨ds,0⟩) (l.length+1) (l.length+1) 1]=some H4∧Grow H0 H4 b (some ⟨ds,0⟩) 1 (l++[⟨c,y,D⟩]) r1 r2 r3:=by
 have t2:Turns Z H (H1.add (.rows false 1 [[.ptr (some ⟨c,0⟩)]])):=t.addm _
 have hx:(H1.add (.rows false 1 [[.ptr (some ⟨c,0⟩)]])).get (.run H1.next)=some (.rows false 1 [[.ptr (some ⟨c,0⟩)]]):=by rw[Heap.get_add,if_pos rfl]
 have hD2:=hD.turns (Turns.add Z H1 (.rows false 1 [[.ptr (some ⟨c,0⟩)]])) id id (fun _=>id)
 have hn1:=t.next
 have hn2:(H1.add (.rows false 1 [[.ptr (some ⟨c,0⟩)]])).next=H1.next+1:=rfl
 generalize H1.add (.rows false 1 [[.ptr (some ⟨c,0⟩)]])=H2 at t2 hx hD2 hn2
 have ha:=app_ptr (H:=H2) (x:=.run H1.next) (c:=c) h.nil (fun e=>by
  obtain⟨ds,h1,h2,h3,h4,_⟩:=h.ptrs e
  exact⟨ds,h1,h2,(t2.same _ h4 id).trans h3⟩) hx hmax
 have hX:∀ q,p=some q→H.Old q.b∧q.b≠b∧¬ H0.Old q.b∧(∀ x ∈ l,¬ x.foot q.b):=by
  intro q hq
  by_cases e:l=[]
  ·rw[(h.nil e).1] at hq;cases hq
  ·obtain⟨ds,h1,_,_,h4,h5,h6,h7⟩:=h.ptrs e
   rw[h1] at hq;cases hq
   exact⟨h4,h5,h6,h7⟩
 have tk:Turns (fun c=>∃ q,p=some q∧c=q.b) H2 (killP H2 p):=killP_turns H2 (fun q hq=>⟨q,hq,rfl⟩)
 have hkn:=killP_next H2 p
 have t3:=tk.addm (.rows false 1 (ptrRows l++[[.ptr (some ⟨c,0⟩)]]))
 have hds:((killP H2 p).add (.rows false 1 (ptrRows l++[[.ptr (some ⟨c,0⟩)]]))).get (.run H2.next)=some (.rows false 1 (ptrRows l++[[.ptr (some ⟨c,0⟩)]])):=by rw[Heap.get_add,if_pos (by rw[hkn])]
 have hdo:((killP H2 p).add (.rows false 1 (ptrRows l++[[.ptr (some ⟨c,0⟩)]]))).Old (.run H2.next):=by show _ < _;simp[hkn]
 generalize (killP H2 p).add (.rows false 1 (ptrRows l++[[.ptr (some ⟨c,0⟩)]]))=H3 at ha t3 hds hdo
 have hb2:H2.Old b:=h.old.mono t2.next
 have hbk:¬ ∃ q,p=some q∧b=q.b:=fun⟨q,hq,e⟩=>(hX q hq).2.1 e.symm
 have hown3:H3.get b=some (.rows false 4 [[.slice p l.length l.length o,r1,r2,r3]]):=(t3.same _ hb2 hbk).trans ((t2.same _ h.old id).trans h.own)
 have hst:storeAt H3 ⟨b,0⟩ [.slice (some ⟨.run H2.next,0⟩) (l.length+1) (l.length+1) 1]=some (H3.set b (.rows false 4 [[.slice (some ⟨.run H2.next,0⟩) (l.length+1) (l.length+1) 1,r1,r2,r3]])):=storeAt_eq hown3 (r:=[.slice p l.length l.length o,r1,r2,r3]) rfl rfl
 have t4:Turns (fun x=>x=b) H3 (H3.set b (.rows false 4 [[.slice (some ⟨.run H2.next,0⟩) (l.length+1) (l.length+1) 1,r1,r2,r3]])):=Turns.set (X:=fun x=>x=b) rfl _ _
 have hno:¬ H2.Old (.run H2.next):=Heap.not_old (Nat.le_refl _)
 have hnb:(Bk.run H2.next)≠b:=fun e=>hno (by rw[e];exact hb2)
 have cold:=hD2.foot_old
 refine⟨H3,_,.run H2.next,ha,hst,⟨?_,fun e=>absurd e (by simp),fun _=>⟨.run H2.next,rfl,rfl,?_,?_,hnb,fun e=>hno (e.mono (Nat.le_trans h.t.next t2.next)),?_⟩,?_,?_,?_,?_,h.new,?_,?_⟩⟩
 ·rw[Heap.get_set,if_pos rfl];simp
 ·rw[Heap.get_set,if_neg hnb,hds];simp[ptrRows]
 ·simp only[Heap.old_set];exact hdo
 ·intro x hx hf
  rcases List.mem_append.1 hx with hx | hx
  ·exact hno ((h.dev x hx).foot_old _ hf |>.mono t2.next)
  ·rw[List.mem_singleton.1 hx] at hf;exact hno (cold _ hf)
 ·have key:∀(x:Dv),DevAt H2 x.b x.y x.D→(∀ q,p=some q→¬ x.foot q.b)→¬ x.foot b→DevAt (H3.set b (.rows false 4 [[.slice (some ⟨.run H2.next,0⟩) (l.length+1) (l.length+1) 1,r1,r2,r3]])) x.b x.y x.D:=by
   intro x hx hq hb
   have g:=hx.turns t3 (fun⟨q,hp,e⟩=>hq q hp (.inl e.symm)) (fun⟨q,hp,e⟩=>hq q hp (.inr (.inl e.symm))) (fun hl ⟨q,hp,e⟩=>hq q hp (.inr (.inr ⟨hl,e.symm⟩)))
   exact g.turns t4 (fun e=>hb (.inl e.symm)) (fun e=>hb (.inr (.inl e.symm))) (fun hl e=>hb (.inr (.inr ⟨hl,e.symm⟩)))
  intro x hx
  rcases List.mem_append.1 hx with hx | hx
  ·exact key x ((h.dev x hx).turns t2 id id (fun _=>id)) (fun q hq=>(hX q hq).2.2.2 x hx) (h.out x hx)
  ·rw[List.mem_singleton.1 hx]
   exact key _ hD2 (fun q hq hf=>hF.foot _ hf (hX q hq).1) (fun hf=>hF.foot _ hf h.old)
 ·rw[List.pairwise_append]
  refine⟨h.sep,List.pairwise_singleton _ _,fun x hx z hz=>?_⟩
  rw[List.mem_singleton.1 hz]
  exact sep_fresh (h.dev x hx) hF
 ·intro x hx
  rcases List.mem_append.1 hx with hx | hx
  ·exact h.out x hx
  ·rw[List.mem_singleton.1 hx];exact fun hf=>hF.foot _ hf h.old
 ·simp only[Heap.old_set];exact hb2.mono t3.next
 ·intro x hx
  rcases List.mem_append.1 hx with hx | hx
  ·exact h.fresh x hx
  ·rw[List.mem_singleton.1 hx]
   exact⟨fun e=>hF.b (e.mono h.t.next),fun e=>hF.s (e.mono h.t.next),fun hl e=>hF.l hl (e.mono h.t.next)⟩
 ·have ta:=Turns.after (h.t.trans t2) t3 (fun x hx ⟨q,hq,e⟩=>(hX q hq).2.2.1 (by rw[← e];exact hx))
  exact Turns.after ta t4 (fun x hx e=>h.new (by rw[← e];exact hx))
theorem Grow.rep {H0 H:Heap} {b:Bk} {p:Option Ptr} {o:Nat} {l:List Dv} {r:Bool} {B:Bn} (h:Grow H0 H b p o l (n1 r B) (n2 r B) (n3 r B)) (hl:l≠[]) (hm:l.map Dv.D=B.l):∃ ds,p=some ⟨ds,0⟩∧o=1∧Rep r H b ds 1 l B∧∀ c,BFoot b ds l c→¬ H0.Old c:=by
 obtain⟨ds,rfl,rfl,h3,h4,h5,h6,h7⟩:=h.ptrs hl
 refine⟨ds,rfl,rfl,⟨⟨h.own,h3,fun i hi=>h.dev _ (List.getElem_mem hi),?_,⟨h.old,h4⟩,fun e=>h5 e.symm,fun i hi=>⟨h.out _ (List.getElem_mem hi),h7 _ (List.getElem_mem hi)⟩⟩,hm⟩,?_⟩
 ·intro i j hi hj hij
  have hp:=List.pairwise_iff_getElem.1 h.sep
  rcases Nat.lt_or_gt_of_ne hij with e | e
  ·exact hp i j hi hj e
  ·exact(hp j i hj hi e).symm
 ·rintro c (rfl | rfl | ⟨x,hx,hc⟩)
  ·exact h.new
  ·exact h6
  ·exact(h.fresh x hx).foot c hc
theorem dnew_err (H:Heap) {n:Int} (h:n < 1∨512 < n) (lf m:Nat):callS Tryz.prog S0 lf (m+1) 44 [.int .i64 n] H=some (.v (.tuple [.ptr none,.int .i64 2]),H):=by
 obtain⟨v,H',e,rfl,rfl⟩:ret (callS Tryz.prog S0 lf (m+1) 44 [.int .i64 n] H) fun v H'=>v=.tuple [.ptr none,.int .i64 2]∧H'=H:=by
  refine ret_call rfl c44_eq ?_
  by_cases h1:n < 1
  ·simp only[c44,h1,sy,tup,↓reduceIte,zA,zG,zC,zD,zF,zE,zB,zH,reduceCtorEq]
   exact⟨trivial,.inr trivial,_,rfl,rfl,trivial⟩
  ·have h2:512 < n:=by omega
   simp only[c44,h1,h2,sy,tup,↓reduceIte,zA,zG,zC,zD,zF,zE,zB,zH,reduceCtorEq]
   exact⟨trivial,.inr trivial,_,rfl,rfl,trivial⟩
 exact e
def okSizes (P:List Int):Prop:=1≤P.length∧P.length≤17∧∀ n ∈ P,1≤n∧n≤512
def newB (P:List Int):Bn:=⟨P.map fun n=>blank n.toNat,0,0,false⟩
theorem grow0 (H:Heap) (r1 r2 r3:V):Grow H (H.add (.rows false 4 [[.slice none 0 0 0,r1,r2,r3]])) (.run H.next) none 0 [] r1 r2 r3:=
 ⟨by rw[Heap.get_add,if_pos rfl];rfl,fun _=>⟨rfl,rfl⟩,fun e=>absurd rfl e,fun x hx=>absurd hx (by simp),List.Pairwise.nil,fun x hx=>absurd hx (by simp),by show _ < _;simp,Heap.not_old (Nat.le_refl _),fun x hx=>absurd hx (by simp),Turns.add Z H _⟩
def NewedAt (r:Bool) (P:List Int) (H:Heap) (v:V) (H':Heap):Prop:=
 Turns Z H H'∧((¬ okSizes P∧v=.tuple [.ptr none,.int .i64 2])∨(okSizes P∧∃ ds l,v=.tuple [.ptr (some ⟨.run H.next,0⟩),.int .i64 0]∧Rep r H' (.run H.next) ds 1 l (newB P)∧∀ c,BFoot (.run H.next) ds l c→¬ H.Old c))
theorem bnew_at (H:Heap) {pp:Option Ptr} {P:List Int} {pc po:Nat} (hP:PicksAt H pp P Z) {lf:Nat} (hlf:1000 < lf) (m:Nat) :
  ret (callS Tryz.prog S0 lf (m+2) 9 [.slice pp P.length pc po] H) (NewedAt false P H):=by
 refine ret_call rfl c9_eq ?_
 by_cases hlen:1≤P.length∧P.length≤17
 ·obtain⟨g1,g2⟩:=hlen
  have g1':¬ ((P.length:Int) < 1):=by omega
  have g2':¬ (17 < (P.length:Int)):=by omega
  have G0:=grow0 H (.int .i64 0) (.int .i64 0) (.bool false)
  have hloop:∀ t:T,t.getP (Tr.path 4)=some (.ptr (some ⟨.run H.next,0⟩))→t.getP (Tr.path 19)=some (.slice pp P.length pc po)→t.getP (Tr.path 20)=some (.int .i64 (P.length:Int))→t.getP (Tr.path 21)=some (.int .i64 0) →
    wp (loopF (runC (callS Tryz.prog S0 lf (m+1)) lf c9_l0) lf ⟨t,H.add (.rows false 4 [[.slice none 0 0 0,.int .i64 0,.int .i64 0,.bool false]]),[]⟩) fun x s=>
     s.d=[]∧((x=.ret∧¬ okSizes P∧s.t.getP (Tr.path 2)=some (.ptr none)∧s.t.getP (Tr.path 3)=some (.int .i64 2)∧Turns Z H s.H)∨(x=.ex 0∧s.t.getP (Tr.path 4)=some (.ptr (some ⟨.run H.next,0⟩))∧okSizes P∧∃ p o l,Grow H s.H (.run H.next) p o l (.int .i64 0) (.int .i64 0) (.bool false)∧l.map Dv.D=P.map (fun n=>blank n.toNat))):=by
   intro t q4 q19 q20 q21
   refine wp_loopF (fun k s=>∃ i p o l,i+k=P.length∧s.d=[]∧s.t.getP (Tr.path 4)=some (.ptr (some ⟨.run H.next,0⟩))∧s.t.getP (Tr.path 19)=some (.slice pp P.length pc po)∧s.t.getP (Tr.path 20)=some (.int .i64 (P.length:Int))∧s.t.getP (Tr.path 21)=some (.int .i64 ((i:Nat):Int))∧Grow H s.H (.run H.next) p o l (.int .i64 0) (.int .i64 0) (.bool false)∧l.map Dv.D=(P.take i).map (fun n=>blank n.toNat)∧∀ n ∈ P.take i,1≤n∧n≤512) ?_ lf P.length _ ⟨0,none,0,[],by omega,rfl,q4,q19,q20,q21,G0,rfl,fun n hn=>absurd hn (by simp)⟩ (by omega)
   rintro k ⟨t,HH,d⟩ ⟨i,p,o,l,hi,rfl,q4,q19,q20,q21,hG,hm,hok⟩
   dsimp only at q4 q19 q20 q21 hG
   by_cases hiP:i < P.length
   ·obtain⟨x,ox,hpx,l1⟩:=(hP.turns hG.t).load hiP
    rw[hpx] at q19
    have hi1:i+1≤P.length:=hiP
    have hw:IntKind.i64.wrap ((i:Int)+1)=((i+1:Nat):Int):=by rw[wrap_i64 (by omega)];rfl
    have hw':IntKind.i64.wrap ((i:Int)+1)=(i:Int)+1:=wrap_i64 (by omega)
    by_cases hn:1≤P[i]∧P[i]≤512
    ·obtain⟨v,H1,e1,rfl,hD,t1⟩:=new_ok HH (n:=P[i].toNat) (by omega) (by omega) lf m
     rw[show ((P[i].toNat:Nat):Int)=P[i] from by omega] at e1
     have hF:Fresh HH (.run (HH.next+1)) ⟨.run HH.next,0,.run HH.next,none,0⟩ (blank P[i].toNat):=⟨Heap.not_old (by omega),Heap.not_old (Nat.le_refl _),fun e=>absurd rfl e⟩
     have hll:l.length=i:=by have:=congrArg List.length hm;simpa [Nat.min_eq_left (Nat.le_of_lt hiP)] using this
     obtain⟨H3,H4,ds,ha,hs,hG'⟩:=hG.step t1 hD hF (by omega)
     have l0:=hG.load t1
     have l0':=hG.load (t1.addm (.rows false 1 [[.ptr (some ⟨.run (HH.next+1),0⟩)]]))
     simp only[c9_l0,q4,q19,q20,q21,hiP,hi1,l1,e1,l0,l0',ha,hs,hw',Nat.mul_one,sy,tup,↓reduceIte,zA,zG,zC,zD,zF,zE,zB,zH,reduceCtorEq]
     refine⟨k - 1,by omega,i+1,_,_,_,by omega,trivial,trivial,by rw[hpx],trivial,rfl,hG',?_,?_⟩
     ·rw[List.map_append,hm,List.take_succ_eq_append_getElem hiP,List.map_append];rfl
     ·rw[List.take_succ_eq_append_getElem hiP]
      intro z hz
      rcases List.mem_append.1 hz with hz | hz
      ·exact hok z hz
      ·rw[List.mem_singleton.1 hz];exact hn
    ·have e1:=dnew_err HH (n:=P[i]) (by omega) lf m
     have hbad:¬ okSizes P:=fun h=>hn (h.2.2 _ (List.getElem_mem hiP))
     simp only[c9_l0,q4,q19,q20,q21,hiP,hi1,l1,e1,Nat.mul_one,sy,tup,↓reduceIte,zA,zG,zC,zD,zF,zE,zB,zH,reduceCtorEq]
     exact⟨trivial,.inl ⟨trivial,hbad,trivial,trivial,hG.t⟩⟩
   ·have hg:¬ (i < P.length):=hiP
    have hiL:P.take i=P:=List.take_of_length_le (by omega)
    rw[hiL] at hm hok
    simp only[c9_l0,q4,q19,q20,q21,hg,sy,tup,↓reduceIte,zA,zG,zC,zD,zF,zE,zB,zH,reduceCtorEq]
    refine⟨trivial,.inr ⟨trivial,trivial,⟨g1,g2,hok⟩,p,o,l,hG,hm⟩⟩
  simp only[c9,g1',g2',sy,tup,↓reduceIte,zA,zG,zC,zD,zF,zE,zB,zH,reduceCtorEq]
  refine wp_ctx (F:=fun r=>seqC _ _ _ (blockC _ r)) (hloop _ ?_ ?_ ?_ ?_) ?_
  ·simp only[sy,tup,↓reduceIte,zA,zG,zC,zD,zF,zE,zB,zH,reduceCtorEq]
  ·simp only[sy,tup,↓reduceIte,zA,zG,zC,zD,zF,zE,zB,zH,reduceCtorEq]
  ·simp only[sy,tup,↓reduceIte,zA,zG,zC,zD,zF,zE,zB,zH,reduceCtorEq]
  ·simp only[sy,tup,↓reduceIte,zA,zG,zC,zD,zF,zE,zB,zH,reduceCtorEq]
  rintro x ⟨t,HH,d⟩ ⟨rfl,⟨rfl,hbad,q2,q3,hT⟩ | ⟨rfl,q4,hok,p,o,l,hG,hm⟩⟩
  ·dsimp only at q2 q3 hT
   simp only[q2,q3,sy,tup,↓reduceIte,zA,zG,zC,zD,zF,zE,zB,zH,reduceCtorEq]
   exact⟨trivial,.inr trivial,_,rfl,hT,.inl ⟨hbad,rfl⟩⟩
  ·dsimp only at q4 hG
   have hl:l≠[]:=fun e=>by
    have:=congrArg List.length hm
    rw[e] at this;simp at this;omega
   obtain⟨ds,rfl,rfl,hR,hN⟩:=Grow.rep (r:=false) (B:=newB P) hG hl hm
   simp only[q4,sy,tup,↓reduceIte,zA,zG,zC,zD,zF,zE,zB,zH,reduceCtorEq]
   exact⟨trivial,.inr trivial,_,rfl,hG.t,.inr ⟨hok,ds,l,rfl,hR,hN⟩⟩
 ·have hbad:¬ okSizes P:=fun h=>hlen ⟨h.1,h.2.1⟩
  by_cases g1:(P.length:Int) < 1
  ·simp only[c9,g1,sy,tup,↓reduceIte,zA,zG,zC,zD,zF,zE,zB,zH,reduceCtorEq]
   exact⟨trivial,.inr trivial,_,rfl,Turns.refl Z H,.inl ⟨hbad,rfl⟩⟩
  ·have g2:17 < (P.length:Int):=by omega
   simp only[c9,g1,g2,sy,tup,↓reduceIte,zA,zG,zC,zD,zF,zE,zB,zH,reduceCtorEq]
   exact⟨trivial,.inr trivial,_,rfl,Turns.refl Z H,.inl ⟨hbad,rfl⟩⟩
end Go.Proofs.YtabebpemfinejaaGreat.disk
namespace Go.Proofs.YtabebpemfinejaaGreat.disk
open Go.Am
structure Bok (k:Nat) (B:Bn):Prop where
 wf:∀ D ∈ B.l,∃ n,n≤512∧Wf D n k
 ar:0≤B.ar∧B.ar≤9223372036854775807
 st:0≤B.st∧B.st≤(k:Int)
theorem Bok.good {k:Nat} {B:Bn} (h:Bok k B) (hk:k≤900):∀ D ∈ B.l,Good D:=fun D hD=>by
 obtain⟨n,hn,w⟩:=h.wf D hD
 exact⟨w.ne,w.ok,by rw[w.len];exact hn,by have:=w.le;omega⟩
theorem Bok.mono {k:Nat} {B:Bn} (h:Bok k B):Bok (k+1) B:=⟨fun D hD=>by
 obtain⟨n,hn,w⟩:=h.wf D hD
 exact⟨n,hn,w.mono⟩,h.ar,by have:=h.st;omega⟩
theorem tc_dev {B:Bn} {d:Int} (h:B.tc d=0):B.dev d ∈ B.l:=by
 unfold Bn.tc at h
 rcases tcode_cases B.l.length d with ⟨i,hi,rfl,_⟩ | e
 ·unfold Bn.dev
  simp only[Int.toNat_natCast,List.getD]
  rw[List.getElem?_eq_getElem hi]
  exact List.getElem_mem hi
 ·rw[e] at h;cases h
theorem lc_tc {B:Bn} {d:Int} (h:B.lc d=0):B.tc d=0:=by
 unfold Bn.lc at h
 split at h
 ·cases h
 ·exact h
theorem rc_lc {B:Bn} {d n:Int} (h:B.rc d n=0):B.lc d=0:=by
 by_cases e:B.lc d=0
 ·exact e
 ·rw[show B.rc d n=B.lc d from if_neg e] at h;exact absurd h e
theorem Bok.setd {k:Nat} {B:Bn} (h:Bok k B) {d:Int} {D:Dev} (hD:∃ n,n≤512∧Wf D n (k+1)):Bok (k+1) (B.setd d D):=
 ⟨fun E hE=>by
  rcases List.mem_or_eq_of_mem_set hE with hE | rfl
  ·exact h.mono.wf E hE
  ·exact hD,h.ar,h.mono.st⟩
theorem Bok.step {k:Nat} {B:Bn} (h:Bok k B) {d:Int} {D:Dev} (hD:∃ n,n≤512∧Wf D n (k+1)):Bok (k+1) (B.step d D):=by
 unfold Bn.step
 have h1:=h.st
 have h2:=h.ar
 split
 ·exact⟨h.mono.wf,h.ar,h.mono.st⟩
 ·refine⟨fun E hE=>?_,?_,?_⟩
  ·rcases List.mem_or_eq_of_mem_set hE with hE | rfl
   ·exact h.mono.wf E hE
   ·exact hD
  ·show 0≤arLess B.ar∧arLess B.ar≤_
   unfold arLess;split<;>omega
  ·show 0≤B.st+1∧B.st+1≤_
   omega
theorem Bok.write {k:Nat} {B:Bn} (h:Bok k B) (d n:Int) (x:Nat):Bok (k+1) (B.write d n x):=by
 unfold Bn.write
 split
 ·rename_i hc
  obtain⟨n',hn,w⟩:=h.wf _ (tc_dev (lc_tc (rc_lc hc)))
  exact h.step ⟨n',hn,w.write n x⟩
 ·exact h.mono
theorem Bok.flush {k:Nat} {B:Bn} (h:Bok k B) (d:Int):Bok (k+1) (B.flush d):=by
 unfold Bn.flush
 split
 ·rename_i hc
  obtain⟨n',hn,w⟩:=h.wf _ (tc_dev (lc_tc (rc_lc hc)))
  exact h.step ⟨n',hn,w.flush⟩
 ·exact h.mono
theorem Bok.fail {k:Nat} {B:Bn} (h:Bok k B) (d:Int):Bok (k+1) (B.fail d):=by
 unfold Bn.fail
 split
 ·rename_i hc
  obtain⟨n',hn,w⟩:=h.wf _ (tc_dev hc)
  exact h.setd ⟨n',hn,w.fail⟩
 ·exact h.mono
theorem blank_wf {n k:Nat} (h:0 < n):Wf (blank n) n k:=⟨by simp[blank],h,fun w hw=>absurd hw (by simp[blank]),Nat.zero_le _⟩
theorem okNew {P:List Int} (h:okSizes P):Bok 0 (newB P):=
 ⟨fun D hD=>by
  obtain⟨n,hn,rfl⟩:=List.mem_map.1 hD
  have:=h.2.2 n hn
  exact⟨n.toNat,by omega,blank_wf (by omega)⟩,⟨by show (0:Int)≤0;decide,by show (0:Int)≤_;decide⟩,⟨by show (0:Int)≤0;decide,by show (0:Int)≤_;decide⟩⟩
theorem step_len (B:Bn) (d:Int) (D:Dev):(B.step d D).l.length=B.l.length:=by unfold Bn.step;split<;>simp
theorem write_len (B:Bn) (d n:Int) (x:Nat):(B.write d n x).l.length=B.l.length:=by unfold Bn.write;split<;>simp[step_len]
structure Mine (r:Bool) (H0 H:Heap) (b ds:Bk) (so:Nat) (l:List Dv) (B:Bn):Prop where
 rep:Rep r H b ds so l B
 t:Turns Z H0 H
 new:∀ c,BFoot b ds l c→¬ H0.Old c
theorem Mine.turns {r:Bool} {H0 H H':Heap} {b ds:Bk} {so:Nat} {l:List Dv} {B:Bn} (h:Mine r H0 H b ds so l B) (k:Turns Z H H'):Mine r H0 H' b ds so l B:=⟨h.rep.turns k,h.t.trans k,h.new⟩
theorem Mine.next {r:Bool} {H0 H H':Heap} {b ds:Bk} {so:Nat} {l l':List Dv} {B B':Bn} (h:Mine r H0 H b ds so l B) (k:RNext r H b ds so l H' l' B'):Mine r H0 H' b ds so l' B':=
 ⟨k.rep,Turns.after h.t k.turns (fun c hc hx=>(h.new c hx hc).elim),fun c hc=>by
  rcases k.foot c hc with hc | hc
  ·exact h.new c hc
  ·exact fun o=>hc (o.mono h.t.next)⟩
theorem Mine.ne {r:Bool} {H0 H:Heap} {b ds:Bk} {so:Nat} {l:List Dv} {B:Bn} (h:Mine r H0 H b ds so l B) (hB:0 < B.l.length):l≠[]:=fun e=>by
 have:=h.rep.len
 rw[e] at this;simp at this;omega
end Go.Proofs.YtabebpemfinejaaGreat.disk
namespace Go.Proofs.YtabebpemfinejaaGreat.disk
open Go.Am
def dropP (pp:Option Ptr) (pc n:Nat):Option Ptr:=if pc=n then pp else pp.map fun p=>⟨p.b,p.o+n⟩
theorem PicksAt.drop {H:Heap} {pp:Option Ptr} {P:List Int} {X:Bk→Prop} (h:PicksAt H pp P X) {pc:Nat} (hc:P.length≤pc) (n:Nat):PicksAt H (dropP pp pc n) (P.drop n) X:=⟨fun e=>by
 have hn:n < P.length:=by
  by_cases hn:n < P.length
  ·exact hn
  ·exact absurd (List.drop_eq_nil_of_le (by omega)) e
 obtain⟨x,ox,ro,rows,rfl,ho,hx,hg,hr⟩:=h.has (fun e=>by rw[e] at hn;simp at hn)
 refine⟨x,ox+n,ro,rows,by unfold dropP;rw[if_neg (by omega)];rfl,ho,hx,hg,fun i hi=>?_⟩
 have hi':n+i < P.length:=by simp at hi;omega
 rw[Nat.add_assoc,hr (n+i) hi']
 simp⟩
theorem PicksAt.mono {H:Heap} {pp:Option Ptr} {P:List Int} {X Y:Bk→Prop} (h:PicksAt H pp P X) (hY:∀ c,Y c→X c):PicksAt H pp P Y:=⟨fun e=>by
 obtain⟨x,ox,ro,rows,h1,ho,hx,hg,hr⟩:=h.has e
 exact⟨x,ox,ro,rows,h1,ho,fun hc=>hx (hY _ hc),hg,hr⟩⟩
theorem RNext.trans {r:Bool} {H H1 H2:Heap} {b ds:Bk} {so:Nat} {l l1 l2:List Dv} {B1 B2:Bn} (h:RNext r H b ds so l H1 l1 B1) (k:RNext r H1 b ds so l1 H2 l2 B2):RNext r H b ds so l H2 l2 B2:=
 ⟨k.rep,Turns.after h.turns k.turns (fun c hc hx=>(h.foot c hx).elim id (fun e=>absurd hc e)),fun c hc=>by
  rcases k.foot c hc with hc | hc
  ·exact h.foot c hc
  ·exact .inr (fun o=>hc (o.mono h.turns.next))⟩
def noDev:Dev:=⟨[],[],false⟩
def pos (l:List Dev) (P:List Int):Nat→Nat
 | 0=>0
 | i+1=>pos l P i+min (l.getD i noDev).L.length (P.drop (pos l P i)).length
theorem DvsAt.turnsX {H H':Heap} {b ds:Bk} {so:Nat} {l:List Dv} {r1 r2 r3:V} (h:DvsAt H b ds so l r1 r2 r3) {X:Bk→Prop} (k:Turns X H H') (hX:∀ c,BFoot b ds l c→¬ X c):DvsAt H' b ds so l r1 r2 r3:=
 ⟨(k.same _ h.old.1 (hX _ (.inl rfl))).trans h.own,(k.same _ h.old.2 (hX _ (.inr (.inl rfl)))).trans h.ptrs,fun i hi=>(h.dev i hi).turns k (hX _ (.inr (.inr ⟨_,List.getElem_mem hi,.inl rfl⟩))) (hX _ (.inr (.inr ⟨_,List.getElem_mem hi,.inr (.inl rfl)⟩))) (fun hl=>hX _ (.inr (.inr ⟨_,List.getElem_mem hi,.inr (.inr ⟨hl,rfl⟩)⟩))),h.sep,⟨h.old.1.mono k.next,h.old.2.mono k.next⟩,h.ne,h.out⟩
theorem Rep.foot_old {r:Bool} {H:Heap} {b ds:Bk} {so:Nat} {l:List Dv} {B:Bn} (h:Rep r H b ds so l B):∀ c,BFoot b ds l c→H.Old c:=by
 rintro c (rfl | rfl | ⟨x,hx,hc⟩)
 ·exact h.row.old.1
 ·exact h.row.old.2
 ·obtain⟨i,hi,rfl⟩:=List.getElem_of_mem hx
  exact(h.row.dev i hi).foot_old _ hc
theorem Rep.turnsX {r:Bool} {H H':Heap} {b ds:Bk} {so:Nat} {l:List Dv} {B:Bn} (h:Rep r H b ds so l B) {X:Bk→Prop} (k:Turns X H H') (hX:∀ c,BFoot b ds l c→¬ X c):Rep r H' b ds so l B:=⟨h.row.turnsX k hX,h.map⟩
theorem Mine.turnsX {r:Bool} {H0 H H':Heap} {b ds:Bk} {so:Nat} {l:List Dv} {B:Bn} (h:Mine r H0 H b ds so l B) {X:Bk→Prop} (k:Turns X H H') (hX:∀ c,BFoot b ds l c→¬ X c) (h0:∀ c,X c→¬ H0.Old c):Mine r H0 H' b ds so l B:=
 ⟨h.rep.turnsX k hX,Turns.after h.t k (fun c hc hx=>absurd hc (h0 c hx)),h.new⟩
end Go.Proofs.YtabebpemfinejaaGreat.disk
namespace Go.Proofs.YtabebpemfinejaaGreat.disk
open Go.Am
noncomputable def c129:CFn:=⟨[.tmp (pp 2),.tmp (pp 3)],
 .seq (.reg [
 qo 2 (.p (S.get (.c (.ptr none)))) [],
 qo 3 (.p (S.get (ii 0))) []]) (
 .seq (.seq (.reg [
 mv 4 0,
 qo 5 (.p (arF .lss (tt 4) (ii 1))) [pp 4],
 mv 6 5,
 mg 7 0 6 false,
 qg 8 (.p (arF .gtr (tt 7) (ii 512))) 6 false [pp 7],
 qo 9 (.p (pickF (tt 6) (.c (.bool true)) (tt 8))) [pp 6,pp 8]]) (
 .cond (tt 9) (.seq (.reg [
 qo 2 (.p (S.get (.c (.ptr none)))) [],
 qo 3 (.p (S.get (ii 2))) []]) (
 .ret)) (.skip))) (
 .seq (.reg [
 mv 10 0,
 qo 11 (.m (mksliceF 64 64 [.blk 0] (tt 10) (tt 10))) [pp 10,pp 10],
 qo 12 (.p (buildF [.slice none 0 0 0,.slice none 0 0 0,.bool false] .ag [(0,1,(tt 11))])) [pp 11],
 qo 13 (.m (boxF 3 (tt 12))) [pp 12],
 mv 2 13,
 qo 3 (.p (S.get (ii 0))) []]) (
 .ret)))⟩
theorem c129_eq:fnOf Tryz.prog 129=some c129:=by kernel_rfl
theorem rnew_ok (H:Heap) {n:Nat} (h1:1≤n) (h2:n≤512) (lf m:Nat):ret (callS Tryz.prog S0 lf (m+1) 129 [.int .i64 (n:Int)] H) fun v H'=>v=.tuple [.ptr (some ⟨.run (H.next+1),0⟩),.int .i64 0] ∧
  DevAt H' (.run (H.next+1)) ⟨.run H.next,0,.run H.next,none,0⟩ ⟨List.replicate n 0,[],false⟩∧Turns Z H H':=by
 have g1:¬ ((n:Int) < 1):=by omega
 have g2:¬ (512 < (n:Int)):=by omega
 have g3:n≤n:=Nat.le_refl _
 have g4:n*64≤1099511627776:=by omega
 have g4':64*n≤1099511627776:=by omega
 have g5:n≤1099511627776:=by omega
 refine ret_call rfl c129_eq ?_
 simp only[c129,g1,g2,g3,g4,g4',g5,mksliceF,sy,tup,↓reduceIte,zA,zG,zC,zD,zF,zE,zB,zH,reduceCtorEq]
 refine⟨trivial,.inr trivial,_,rfl,rfl,?_,((Turns.refl Z H).addm _).addm _⟩
 refine⟨?_,?_,fun _=>⟨rfl,rfl⟩,fun e=>absurd rfl e,⟨?_,?_,fun e=>absurd rfl e⟩,by simp,fun e=>absurd rfl e⟩
 ·rw[Heap.get_add,if_pos (by simp)];simp
 ·rw[Heap.get_add,if_neg (by simp),Heap.get_add,if_pos rfl]
  simp[sureRows]
 ·show _ < _
  first | (simp;done) | (simp;omega)
 ·show _ < _
  first | (simp;done) | (simp;omega)
theorem rnew_err (H:Heap) {n:Int} (h:n < 1∨512 < n) (lf m:Nat):callS Tryz.prog S0 lf (m+1) 129 [.int .i64 n] H=some (.v (.tuple [.ptr none,.int .i64 2]),H):=by
 obtain⟨v,H',e,rfl,rfl⟩:ret (callS Tryz.prog S0 lf (m+1) 129 [.int .i64 n] H) fun v H'=>v=.tuple [.ptr none,.int .i64 2]∧H'=H:=by
  refine ret_call rfl c129_eq ?_
  by_cases h1:n < 1
  ·simp only[c129,h1,sy,tup,↓reduceIte,zA,zG,zC,zD,zF,zE,zB,zH,reduceCtorEq]
   exact⟨trivial,.inr trivial,_,rfl,rfl,trivial⟩
  ·have h2:512 < n:=by omega
   simp only[c129,h1,h2,sy,tup,↓reduceIte,zA,zG,zC,zD,zF,zE,zB,zH,reduceCtorEq]
   exact⟨trivial,.inr trivial,_,rfl,rfl,trivial⟩
 exact e
end Go.Proofs.YtabebpemfinejaaGreat.disk
namespace Go.Proofs.YtabebpemfinejaaGreat.disk
open Go.Am
def seen (S:List Nat) (L:List (Nat × Nat)) (n i:Nat):Nat:=match look (L.take i) n with
 | some x=>x
 | none=>S.getD n 0
end Go.Proofs.YtabebpemfinejaaGreat.disk
namespace Go.Proofs.YtabebpemfinejaaGreat.disk
open Go.Am
noncomputable def c131:CFn:=⟨[.tmp (pp 2)],
 .seq (.reg [
 qo 2 (.p (S.get (ii 0))) []]) (
 .seq (.reg [
 mv 3 0,
 qo 4 (.p (nilcF (tt 3))) [pp 3],
 qo 5 (.p (faddrF (tt 4) 0)) [pp 4],
 qo 6 (.r (loadF (tt 5) 1 .sc)) [pp 5],
 qo 7 (.p (lenF (tt 6))) [pp 6],
 mv 2 7]) (
 .ret))⟩
theorem c131_eq:fnOf Tryz.prog 131=some c131:=by kernel_rfl
noncomputable def c132:CFn:=⟨[.tmp (pp 4)],
 .seq (.reg [
 qo 4 (.p (S.get (ii 0))) []]) (
 .seq (.seq (.reg [
 mv 5 0,
 mv 6 1,
 qo 7 (.c (callF (ff 175) [(tt 5),(tt 6)])) [pp 5,pp 6],
 qo 8 (.p (unF .not (tt 7))) [pp 7]]) (
 .cond (tt 8) (.seq (.reg [
 qo 4 (.p (S.get (ii 0))) []]) (
 .ret)) (.skip))) (
 .seq (.reg [
 mv 9 0,
 qo 10 (.p (nilcF (tt 9))) [pp 9],
 qo 11 (.p (faddrF (tt 10) 0)) [pp 10],
 qo 12 (.r (loadF (tt 11) 1 .sc)) [pp 11],
 mv 13 1,
 qo 14 (.p (iaddrSF (tt 12) (tt 13) 1)) [pp 12,pp 13],
 qo 15 (.r (loadF (tt 14) 1 .sc)) [pp 14],
 qo 16 (.p (nilcF (tt 15))) [pp 15],
 qo 17 (.p (faddrF (tt 16) 0)) [pp 16],
 qo 18 (.r (loadF (tt 17) 1 .sc)) [pp 17],
 qo 19 (.p (lenF (tt 18))) [pp 18],
 mv 4 19]) (
 .ret)))⟩
theorem c132_eq:fnOf Tryz.prog 132=some c132:=by kernel_rfl
noncomputable def c175:CFn:=⟨[.tmp (pp 4)],
 .seq (.reg [
 qo 4 (.p (S.get (.c (.bool false)))) []]) (
 .seq (.reg [
 mv 5 1,
 qo 6 (.p (arF .geq (tt 5) (ii 0))) [pp 5],
 mv 7 6,
 mg 8 1 7 true,
 mg 9 0 7 true,
 qg 10 (.p (nilcF (tt 9))) 7 true [pp 9],
 qg 11 (.p (faddrF (tt 10) 0)) 7 true [pp 10],
 qg 12 (.r (loadF (tt 11) 1 .sc)) 7 true [pp 11],
 qg 13 (.p (lenF (tt 12))) 7 true [pp 12],
 qg 14 (.p (arF .lss (tt 8) (tt 13))) 7 true [pp 8,pp 13],
 qo 15 (.p (pickF (tt 7) (tt 14) (.c (.bool false)))) [pp 7,pp 14],
 mv 4 15]) (
 .ret))⟩
theorem c175_eq:fnOf Tryz.prog 175=some c175:=by kernel_rfl
theorem Rep.own' {H:Heap} {b ds:Bk} {so:Nat} {l:List Dv} {B:Bn} (h:Rep true H b ds so l B):H.get b=some (.rows false 4 [[.slice (some ⟨ds,0⟩) l.length l.length so,.int .i64 B.ar,.bool B.dk,.int .i64 B.st]]):=h.row.own
theorem Rep.loadPtr {r:Bool} {H:Heap} {b ds:Bk} {so:Nat} {l:List Dv} {B:Bn} (h:Rep r H b ds so l B) {i:Nat} (hi:i < l.length):loadAt H ⟨ds,i⟩ 1=some [.ptr (some ⟨l[i].b,0⟩)]:=by
 rw[loadAt_eq h.row.ptrs (r:=[.ptr (some ⟨l[i].b,0⟩)]) (nth_of (by rw[Nat.div_one];simp[hi])),Nat.mod_one]
 exact cut_hit _ _ rfl
section
variable {H:Heap} {b ds:Bk} {so:Nat} {l:List Dv} {B:Bn} (h:Rep true H b ds so l B)
include h
theorem rload0:loadAt H ⟨b,0⟩ 1=some [.slice (some ⟨ds,0⟩) l.length l.length so]:=by rw[loadAt_eq h.own' (by exact rfl)];rfl
theorem rhas (d:Int) (lf m:Nat):callS Tryz.prog S0 lf (m+1) 175 [.ptr (some ⟨b,0⟩),.int .i64 d] H=some (.v (.bool (B.tc d==0)),H):=by
 have l0:=rload0 h
 obtain⟨v,H',e,rfl,rfl⟩:ret (callS Tryz.prog S0 lf (m+1) 175 [.ptr (some ⟨b,0⟩),.int .i64 d] H) fun v H'=>v=.bool (B.tc d==0)∧H'=H:=by
  refine ret_call rfl c175_eq ?_
  by_cases g0:0≤d
  ·by_cases g1:d < (l.length:Int)
   ·have e:B.tc d=0:=by unfold Bn.tc tcode;rw[← h.len,if_pos ⟨g0,g1⟩]
    rw[e]
    simp only[c175,l0,g0,g1,sy,tup,↓reduceIte,zA,zG,zC,zD,zF,zE,zB,zH,reduceCtorEq]
    exact⟨trivial,.inr trivial,_,rfl,rfl,trivial⟩
   ·have e:B.tc d=2:=by unfold Bn.tc tcode;rw[← h.len,if_neg (fun e=>g1 e.2)]
    rw[e]
    simp only[c175,l0,g0,g1,sy,tup,↓reduceIte,zA,zG,zC,zD,zF,zE,zB,zH,reduceCtorEq]
    exact⟨trivial,.inr trivial,_,rfl,rfl,trivial⟩
  ·have e:B.tc d=2:=by unfold Bn.tc tcode;rw[← h.len,if_neg (fun e=>g0 e.1)]
   rw[e]
   simp only[c175,l0,g0,sy,tup,↓reduceIte,zA,zG,zC,zD,zF,zE,zB,zH,reduceCtorEq]
   exact⟨trivial,.inr trivial,_,rfl,rfl,trivial⟩
 exact e
theorem rdevices (lf m:Nat):callS Tryz.prog S0 lf (m+1) 131 [.ptr (some ⟨b,0⟩)] H=some (.v (.int .i64 (l.length:Int)),H):=by
 have l0:=rload0 h
 obtain⟨v,H',e,rfl,rfl⟩:ret (callS Tryz.prog S0 lf (m+1) 131 [.ptr (some ⟨b,0⟩)] H) fun v H'=>v=.int .i64 (l.length:Int)∧H'=H:=by
  refine ret_call rfl c131_eq ?_
  simp only[c131,l0,sy,tup,↓reduceIte,zA,zG,zC,zD,zF,zE,zB,zH,reduceCtorEq]
  exact⟨trivial,.inr trivial,_,rfl,rfl,trivial⟩
 exact e
theorem rsectors (d:Int) (lf m:Nat):callS Tryz.prog S0 lf (m+2) 132 [.ptr (some ⟨b,0⟩),.int .i64 d] H=some (.v (.int .i64 (B.sectors d)),H):=by
 have e1:=rhas h d lf m
 obtain⟨v,H',e,rfl,rfl⟩:ret (callS Tryz.prog S0 lf (m+2) 132 [.ptr (some ⟨b,0⟩),.int .i64 d] H) fun v H'=>v=.int .i64 (B.sectors d)∧H'=H:=by
  refine ret_call rfl c132_eq ?_
  rcases h.has d with ⟨i,hi,rfl,e,eD⟩ | e
  ·have hw:B.sectors (i:Int)=(l[i].D.S.length:Int):=by rw[← eD];exact if_pos e
   rw[e] at e1
   rw[hw]
   have l0:=rload0 h
   have lp:=h.loadPtr hi
   have d0:=load0 (h.row.dev i hi)
   have hi1:i+1≤l.length:=hi
   simp only[c132,e1,l0,lp,d0,hi1,Nat.mul_one,sy,tup,↓reduceIte,zA,zG,zC,zD,zF,zE,zB,zH,reduceCtorEq]
   exact⟨trivial,.inr trivial,_,rfl,rfl,trivial⟩
  ·have hw:B.sectors d=0:=if_neg (by rw[e];decide)
   rw[e] at e1
   have z:((2:Int)==0)=false:=rfl
   rw[z] at e1
   rw[hw]
   simp only[c132,e1,sy,tup,↓reduceIte,zA,zG,zC,zD,zF,zE,zB,zH,reduceCtorEq]
   exact⟨trivial,.inr trivial,_,rfl,rfl,trivial⟩
 exact e
variable (hg:∀ D ∈ B.l,Good D)
include hg
end
end Go.Proofs.YtabebpemfinejaaGreat.disk
namespace Go.Proofs.YtabebpemfinejaaGreat.disk
open Go.Am
noncomputable def c62_l0:C:=.seq (.seq (.reg [
 mv 18 5,
 mv 19 0,
 qo 20 (.p (lenF (tt 19))) [pp 19],
 qo 21 (.p (arF .lss (tt 18) (tt 20))) [pp 18,pp 20]]) (
 .cond (tt 21) (.skip) (.exit 0))) (
 .seq (.block 1 (.seq (.reg [
 mv 25 0,
 mv 26 5,
 qo 27 (.p (iaddrSF (tt 25) (tt 26) 1)) [pp 25,pp 26],
 qo 28 (.r (loadF (tt 27) 1 .sc)) [pp 27],
 qo 29 (.c (callF (ff 129) [(tt 28)])) [pp 28],
 mv 24 29,
 qo 30 (.p (extF (tt 24) 0)) [pp 24],
 qo 31 (.p (extF (tt 24) 1)) [pp 24],
 mv 6 30,
 mv 7 31]) (
 .seq (.seq (.reg [
 mv 32 7,
 qo 33 (.p (eqcF true false [.int .i64] (tt 32) (ii 0))) [pp 32]]) (
 .cond (tt 33) (.seq (.reg [
 qo 2 (.p (S.get (.c (.ptr none)))) [],
 qo 3 (.p (S.get (ii 2))) []]) (
 .ret)) (.skip))) (
 .reg [
 mv 34 4,
 mv 35 4,
 qo 36 (.p (nilcF (tt 35))) [pp 35],
 qo 37 (.p (faddrF (tt 36) 0)) [pp 36],
 qo 38 (.r (loadF (tt 37) 1 .sc)) [pp 37],
 mv 39 6,
 qo 40 (.m (bsliceF 1 1 [.ptr none] [(0,1,(tt 39))])) [pp 39],
 qo 41 (.a (appF 1 8 (tt 38) (tt 40))) [pp 38,pp 40],
 qo 42 (.p (nilcF (tt 34))) [pp 34],
 qo 43 (.p (faddrF (tt 42) 0)) [pp 42],
 qn (.a (storeF (tt 43) (tt 41) 1)) [pp 43,pp 41]])))) (
 .reg [
 mv 22 5,
 qo 23 (.p (arF .add (tt 22) (ii 1))) [pp 22],
 mv 5 23]))
noncomputable def c62:CFn:=⟨[.tmp (pp 2),.tmp (pp 3)],
 .seq (.reg [
 qo 2 (.p (S.get (.c (.ptr none)))) [],
 qo 3 (.p (S.get (ii 0))) []]) (
 .seq (.seq (.reg [
 mv 8 0,
 qo 9 (.p (lenF (tt 8))) [pp 8],
 qo 10 (.p (arF .lss (tt 9) (ii 1))) [pp 9],
 mv 11 10,
 mg 12 0 11 false,
 qg 13 (.p (lenF (tt 12))) 11 false [pp 12],
 qg 14 (.p (arF .gtr (tt 13) (ii 17))) 11 false [pp 13],
 qo 15 (.p (pickF (tt 11) (.c (.bool true)) (tt 14))) [pp 11,pp 14]]) (
 .cond (tt 15) (.seq (.reg [
 qo 2 (.p (S.get (.c (.ptr none)))) [],
 qo 3 (.p (S.get (ii 2))) []]) (
 .ret)) (.skip))) (
 .seq (.reg [
 qo 16 (.p (buildF [.slice none 0 0 0,.int .i64 0,.bool false,.int .i64 0] .ag [])) [],
 qo 17 (.m (boxF 4 (tt 16))) [pp 16],
 mv 4 17]) (
 .seq (.seq (.reg [
 qo 5 (.p (S.get (ii 0))) []]) (
 .block 0 (.loop c62_l0))) (
 .seq (.reg [
 mv 44 4,
 mv 2 44,
 qo 3 (.p (S.get (ii 0))) []]) (
 .ret)))))⟩
theorem c62_eq:fnOf Tryz.prog 62=some c62:=by kernel_rfl
theorem rbnew_at (H:Heap) {pp:Option Ptr} {P:List Int} {pc po:Nat} (hP:PicksAt H pp P Z) {lf:Nat} (hlf:1000 < lf) (m:Nat) :
  ret (callS Tryz.prog S0 lf (m+2) 62 [.slice pp P.length pc po] H) (NewedAt true P H):=by
 refine ret_call rfl c62_eq ?_
 by_cases hlen:1≤P.length∧P.length≤17
 ·obtain⟨g1,g2⟩:=hlen
  have g1':¬ ((P.length:Int) < 1):=by omega
  have g2':¬ (17 < (P.length:Int)):=by omega
  have G0:=grow0 H (.int .i64 0) (.bool false) (.int .i64 0)
  have hloop:∀ t:T,t.getP (Tr.path 0)=some (.slice pp P.length pc po)→t.getP (Tr.path 4)=some (.ptr (some ⟨.run H.next,0⟩))→t.getP (Tr.path 5)=some (.int .i64 0) →
    wp (loopF (runC (callS Tryz.prog S0 lf (m+1)) lf c62_l0) lf ⟨t,H.add (.rows false 4 [[.slice none 0 0 0,.int .i64 0,.bool false,.int .i64 0]]),[]⟩) fun x s=>
     s.d=[]∧((x=.ret∧¬ okSizes P∧s.t.getP (Tr.path 2)=some (.ptr none)∧s.t.getP (Tr.path 3)=some (.int .i64 2)∧Turns Z H s.H)∨(x=.ex 0∧s.t.getP (Tr.path 4)=some (.ptr (some ⟨.run H.next,0⟩))∧okSizes P∧∃ p o l,Grow H s.H (.run H.next) p o l (.int .i64 0) (.bool false) (.int .i64 0)∧l.map Dv.D=P.map (fun n=>blank n.toNat))):=by
   intro t q0 q4 q5
   refine wp_loopF (fun k s=>∃ i p o l,i+k=P.length∧s.d=[]∧s.t.getP (Tr.path 0)=some (.slice pp P.length pc po)∧s.t.getP (Tr.path 4)=some (.ptr (some ⟨.run H.next,0⟩))∧s.t.getP (Tr.path 5)=some (.int .i64 ((i:Nat):Int))∧Grow H s.H (.run H.next) p o l (.int .i64 0) (.bool false) (.int .i64 0)∧l.map Dv.D=(P.take i).map (fun n=>blank n.toNat)∧∀ n ∈ P.take i,1≤n∧n≤512) ?_ lf P.length _ ⟨0,none,0,[],by omega,rfl,q0,q4,q5,G0,rfl,fun n hn=>absurd hn (by simp)⟩ (by omega)
   rintro k ⟨t,HH,d⟩ ⟨i,p,o,l,hi,rfl,q0,q4,q5,hG,hm,hok⟩
   dsimp only at q0 q4 q5 hG
   by_cases hiP:i < P.length
   ·obtain⟨x,ox,hpx,l1⟩:=(hP.turns hG.t).load hiP
    rw[hpx] at q0
    have hi1:i+1≤P.length:=hiP
    have hw':IntKind.i64.wrap ((i:Int)+1)=(i:Int)+1:=wrap_i64 (by omega)
    by_cases hn:1≤P[i]∧P[i]≤512
    ·obtain⟨v,H1,e1,rfl,hD,t1⟩:=rnew_ok HH (n:=P[i].toNat) (by omega) (by omega) lf m
     rw[show ((P[i].toNat:Nat):Int)=P[i] from by omega] at e1
     have hF:Fresh HH (.run (HH.next+1)) ⟨.run HH.next,0,.run HH.next,none,0⟩ (blank P[i].toNat):=⟨Heap.not_old (by omega),Heap.not_old (Nat.le_refl _),fun e=>absurd rfl e⟩
     have hll:l.length=i:=by have:=congrArg List.length hm;simpa [Nat.min_eq_left (Nat.le_of_lt hiP)] using this
     obtain⟨H3,H4,ds,ha,hs,hG'⟩:=hG.step t1 hD hF (by omega)
     have l0:=hG.load t1
     have l0':=hG.load (t1.addm (.rows false 1 [[.ptr (some ⟨.run (HH.next+1),0⟩)]]))
     simp only[c62_l0,q0,q4,q5,hiP,hi1,l1,e1,l0,l0',ha,hs,hw',Nat.mul_one,sy,tup,↓reduceIte,zA,zG,zC,zD,zF,zE,zB,zH,reduceCtorEq]
     refine⟨k - 1,by omega,i+1,_,_,_,by omega,trivial,by rw[hpx],trivial,rfl,hG',?_,?_⟩
     ·rw[List.map_append,hm,List.take_succ_eq_append_getElem hiP,List.map_append];rfl
     ·rw[List.take_succ_eq_append_getElem hiP]
      intro z hz
      rcases List.mem_append.1 hz with hz | hz
      ·exact hok z hz
      ·rw[List.mem_singleton.1 hz];exact hn
    ·have e1:=rnew_err HH (n:=P[i]) (by omega) lf m
     have hbad:¬ okSizes P:=fun h=>hn (h.2.2 _ (List.getElem_mem hiP))
     simp only[c62_l0,q0,q4,q5,hiP,hi1,l1,e1,Nat.mul_one,sy,tup,↓reduceIte,zA,zG,zC,zD,zF,zE,zB,zH,reduceCtorEq]
     exact⟨trivial,.inl ⟨trivial,hbad,trivial,trivial,hG.t⟩⟩
   ·have hg:¬ (i < P.length):=hiP
    have hiL:P.take i=P:=List.take_of_length_le (by omega)
    rw[hiL] at hm hok
    simp only[c62_l0,q0,q4,q5,hg,sy,tup,↓reduceIte,zA,zG,zC,zD,zF,zE,zB,zH,reduceCtorEq]
    refine⟨trivial,.inr ⟨trivial,trivial,⟨g1,g2,hok⟩,p,o,l,hG,hm⟩⟩
  simp only[c62,g1',g2',sy,tup,↓reduceIte,zA,zG,zC,zD,zF,zE,zB,zH,reduceCtorEq]
  refine wp_ctx (F:=fun r=>seqC _ _ _ (blockC _ r)) (hloop _ ?_ ?_ ?_) ?_
  ·simp only[sy,tup,↓reduceIte,zA,zG,zC,zD,zF,zE,zB,zH,reduceCtorEq]
  ·simp only[sy,tup,↓reduceIte,zA,zG,zC,zD,zF,zE,zB,zH,reduceCtorEq]
  ·simp only[sy,tup,↓reduceIte,zA,zG,zC,zD,zF,zE,zB,zH,reduceCtorEq]
  rintro x ⟨t,HH,d⟩ ⟨rfl,⟨rfl,hbad,q2,q3,hT⟩ | ⟨rfl,q4,hok,p,o,l,hG,hm⟩⟩
  ·dsimp only at q2 q3 hT
   simp only[q2,q3,sy,tup,↓reduceIte,zA,zG,zC,zD,zF,zE,zB,zH,reduceCtorEq]
   exact⟨trivial,.inr trivial,_,rfl,hT,.inl ⟨hbad,rfl⟩⟩
  ·dsimp only at q4 hG
   have hl:l≠[]:=fun e=>by
    have:=congrArg List.length hm
    rw[e] at this;simp at this;omega
   obtain⟨ds,rfl,rfl,hR,hN⟩:=Grow.rep (r:=true) (B:=newB P) hG hl hm
   simp only[q4,sy,tup,↓reduceIte,zA,zG,zC,zD,zF,zE,zB,zH,reduceCtorEq]
   exact⟨trivial,.inr trivial,_,rfl,hG.t,.inr ⟨hok,ds,l,rfl,hR,hN⟩⟩
 ·have hbad:¬ okSizes P:=fun h=>hlen ⟨h.1,h.2.1⟩
  by_cases g1:(P.length:Int) < 1
  ·simp only[c62,g1,sy,tup,↓reduceIte,zA,zG,zC,zD,zF,zE,zB,zH,reduceCtorEq]
   exact⟨trivial,.inr trivial,_,rfl,Turns.refl Z H,.inl ⟨hbad,rfl⟩⟩
  ·have g2:17 < (P.length:Int):=by omega
   simp only[c62,g1,g2,sy,tup,↓reduceIte,zA,zG,zC,zD,zF,zE,zB,zH,reduceCtorEq]
   exact⟨trivial,.inr trivial,_,rfl,Turns.refl Z H,.inl ⟨hbad,rfl⟩⟩
end Go.Proofs.YtabebpemfinejaaGreat.disk
namespace Go.Proofs.YtabebpemfinejaaGreat.draft
open Go.Am
noncomputable def c154:CFn:=⟨[.tmp (pp 6)],
 .seq (.reg [
 qo 6 (.p (S.get (.c (.bool false)))) []]) (
 .seq (.reg [
 mv 7 0,
 mv 8 1,
 qo 9 (.p (arF .geq (tt 7) (tt 8))) [pp 7,pp 8],
 mv 10 9,
 mg 11 0 10 true,
 mg 12 2 10 true,
 qg 13 (.p (arF .leq (tt 11) (tt 12))) 10 true [pp 11,pp 12],
 qo 14 (.p (pickF (tt 10) (tt 13) (.c (.bool false)))) [pp 10,pp 13],
 mv 6 14]) (
 .ret))⟩
theorem c154_eq:fnOf Tryz.prog 154=some c154:=by kernel_rfl
noncomputable def c89:CFn:=⟨[.tmp (pp 2)],
 .seq (.reg [
 qo 1 (.m (boxF 3 (tt 0))) [pp 0],
 qo 2 (.p (S.get (.c (.bool false)))) []]) (
 .seq (.reg [
 qo 3 (.p (faddrF (tt 1) 0)) [pp 1],
 qo 4 (.r (loadF (tt 3) 1 .sc)) [pp 3],
 qo 5 (.c (callF (ff 154) [(tt 4),(ii 3),(ii 16)])) [pp 4],
 mv 6 5,
 qg 7 (.p (faddrF (tt 1) 1)) 6 true [pp 1],
 qg 8 (.r (loadF (tt 7) 1 .sc)) 6 true [pp 7],
 qg 9 (.c (callF (ff 154) [(tt 8),(ii 1),(ii 64)])) 6 true [pp 8],
 qo 10 (.p (pickF (tt 6) (tt 9) (.c (.bool false)))) [pp 6,pp 9],
 mv 11 10,
 qg 12 (.p (faddrF (tt 1) 2)) 11 true [pp 1],
 qg 13 (.r (loadF (tt 12) 1 .sc)) 11 true [pp 12],
 qg 14 (.c (callF (ff 154) [(tt 13),(ii 40),(ii 256)])) 11 true [pp 13],
 qo 15 (.p (pickF (tt 11) (tt 14) (.c (.bool false)))) [pp 11,pp 14],
 mv 2 15]) (
 .ret))⟩
theorem c89_eq:fnOf Tryz.prog 89=some c89:=by kernel_rfl
noncomputable def c94:CFn:=⟨[.tmp (pp 2)],
 .seq (.reg [
 qo 1 (.m (boxF 3 (tt 0))) [pp 0],
 qo 2 (.p (S.get (.c (.bool false)))) []]) (
 .seq (.reg [
 qo 3 (.p (faddrF (tt 1) 0)) [pp 1],
 qo 4 (.r (loadF (tt 3) 1 .sc)) [pp 3],
 qo 5 (.p (arF .geq (tt 4) (ii 3))) [pp 4],
 mv 6 5,
 qg 7 (.p (faddrF (tt 1) 0)) 6 true [pp 1],
 qg 8 (.r (loadF (tt 7) 1 .sc)) 6 true [pp 7],
 qg 9 (.p (arF .leq (tt 8) (ii 16))) 6 true [pp 8],
 qo 10 (.p (pickF (tt 6) (tt 9) (.c (.bool false)))) [pp 6,pp 9],
 mv 11 10,
 qg 12 (.p (faddrF (tt 1) 1)) 11 true [pp 1],
 qg 13 (.r (loadF (tt 12) 1 .sc)) 11 true [pp 12],
 qg 14 (.p (arF .geq (tt 13) (ii 1))) 11 true [pp 13],
 qo 15 (.p (pickF (tt 11) (tt 14) (.c (.bool false)))) [pp 11,pp 14],
 mv 16 15,
 qg 17 (.p (faddrF (tt 1) 1)) 16 true [pp 1],
 qg 18 (.r (loadF (tt 17) 1 .sc)) 16 true [pp 17],
 qg 19 (.p (arF .leq (tt 18) (ii 64))) 16 true [pp 18],
 qo 20 (.p (pickF (tt 16) (tt 19) (.c (.bool false)))) [pp 16,pp 19],
 mv 21 20,
 qg 22 (.p (faddrF (tt 1) 2)) 21 true [pp 1],
 qg 23 (.r (loadF (tt 22) 1 .sc)) 21 true [pp 22],
 qg 24 (.p (arF .geq (tt 23) (ii 40))) 21 true [pp 23],
 qo 25 (.p (pickF (tt 21) (tt 24) (.c (.bool false)))) [pp 21,pp 24],
 mv 26 25,
 qg 27 (.p (faddrF (tt 1) 2)) 26 true [pp 1],
 qg 28 (.r (loadF (tt 27) 1 .sc)) 26 true [pp 27],
 qg 29 (.p (arF .leq (tt 28) (ii 256))) 26 true [pp 28],
 qo 30 (.p (pickF (tt 26) (tt 29) (.c (.bool false)))) [pp 26,pp 29],
 mv 2 30]) (
 .ret))⟩
theorem c94_eq:fnOf Tryz.prog 94=some c94:=by kernel_rfl
def Z:Bk→Prop:=fun _=>False
noncomputable abbrev S0:CallT:=disk.S0
def geo (m s r:Int):V:=.agg [.int .i64 m,.int .i64 s,.int .i64 r]
def inn (n lo hi:Int):Bool:=decide (lo≤n)&&decide (n≤hi)
def may (m s r:Int):Bool:=inn m 3 16&&(inn s 1 64&&inn r 40 256)
theorem inn_t {n lo hi:Int} (h:inn n lo hi=true):lo≤n∧n≤hi:=by
 simpa [inn] using h
theorem may_t {m s r:Int} (h:may m s r=true):(3≤m∧m≤16)∧(1≤s∧s≤64)∧(40≤r∧r≤256):=by
 simp only[may,Bool.and_eq_true] at h
 exact⟨inn_t h.1,inn_t h.2.1,inn_t h.2.2⟩
theorem within_ok (H:Heap) (a lo hi:Int) (lf n:Nat):callS Tryz.prog S0 lf (n+1) 154 [.int .i64 a,.int .i64 lo,.int .i64 hi] H=some (.v (.bool (inn a lo hi)),H):=by
 obtain⟨v,H',e,rfl,rfl⟩:ret (callS Tryz.prog S0 lf (n+1) 154 [.int .i64 a,.int .i64 lo,.int .i64 hi] H) fun v H'=>v=.bool (inn a lo hi)∧H'=H:=by
  refine ret_call rfl c154_eq ?_
  by_cases h:lo≤a
  ·simp only[c154,h,sy,tup,↓reduceIte,zA,zG,zC,zD,zF,zE,zB,zH,reduceCtorEq]
   simp[inn,h]
  ·simp only[c154,h,sy,tup,↓reduceIte,zA,zG,zC,zD,zF,zE,zB,zH,reduceCtorEq]
   simp[inn,h]
 exact e
theorem may_ok (H:Heap) (m s r:Int) (lf n:Nat):ret (callS Tryz.prog S0 lf (n+2) 89 [geo m s r] H) fun v H'=>v=.bool (may m s r)∧Turns Z H H':=by
 have t1:=Turns.add Z H (.rows false 3 [[.int .i64 m,.int .i64 s,.int .i64 r]])
 have hg:(H.add (.rows false 3 [[.int .i64 m,.int .i64 s,.int .i64 r]])).get (.run H.next)=some (.rows false 3 [[.int .i64 m,.int .i64 s,.int .i64 r]]):=by rw[Heap.get_add,if_pos rfl]
 have l0:loadAt (H.add (.rows false 3 [[.int .i64 m,.int .i64 s,.int .i64 r]])) ⟨.run H.next,0⟩ 1=some [.int .i64 m]:=by rw[loadAt_eq hg rfl];rfl
 have l1:loadAt (H.add (.rows false 3 [[.int .i64 m,.int .i64 s,.int .i64 r]])) ⟨.run H.next,1⟩ 1=some [.int .i64 s]:=by rw[loadAt_eq hg rfl];rfl
 have l2:loadAt (H.add (.rows false 3 [[.int .i64 m,.int .i64 s,.int .i64 r]])) ⟨.run H.next,2⟩ 1=some [.int .i64 r]:=by rw[loadAt_eq hg rfl];rfl
 have w1:=within_ok (H.add (.rows false 3 [[.int .i64 m,.int .i64 s,.int .i64 r]])) m 3 16 lf n
 have w2:=within_ok (H.add (.rows false 3 [[.int .i64 m,.int .i64 s,.int .i64 r]])) s 1 64 lf n
 have w3:=within_ok (H.add (.rows false 3 [[.int .i64 m,.int .i64 s,.int .i64 r]])) r 40 256 lf n
 refine ret_call rfl c89_eq ?_
 unfold may
 generalize inn m 3 16=b1 at *
 generalize inn s 1 64=b2 at *
 generalize inn r 40 256=b3 at *
 cases b1<;>cases b2<;>(simp only[c89,geo,w1,w2,w3,l0,l1,l2,sy,tup,↓reduceIte,zA,zG,zC,zD,zF,zE,zB,zH,reduceCtorEq];simp;exact t1)
theorem rmay_ok (H:Heap) (m s r:Int) (lf n:Nat):ret (callS Tryz.prog S0 lf (n+1) 94 [geo m s r] H) fun v H'=>v=.bool (may m s r)∧Turns Z H H':=by
 have t1:=Turns.add Z H (.rows false 3 [[.int .i64 m,.int .i64 s,.int .i64 r]])
 have hg:(H.add (.rows false 3 [[.int .i64 m,.int .i64 s,.int .i64 r]])).get (.run H.next)=some (.rows false 3 [[.int .i64 m,.int .i64 s,.int .i64 r]]):=by rw[Heap.get_add,if_pos rfl]
 have l0:loadAt (H.add (.rows false 3 [[.int .i64 m,.int .i64 s,.int .i64 r]])) ⟨.run H.next,0⟩ 1=some [.int .i64 m]:=by rw[loadAt_eq hg rfl];rfl
 have l1:loadAt (H.add (.rows false 3 [[.int .i64 m,.int .i64 s,.int .i64 r]])) ⟨.run H.next,1⟩ 1=some [.int .i64 s]:=by rw[loadAt_eq hg rfl];rfl
 have l2:loadAt (H.add (.rows false 3 [[.int .i64 m,.int .i64 s,.int .i64 r]])) ⟨.run H.next,2⟩ 1=some [.int .i64 r]:=by rw[loadAt_eq hg rfl];rfl
 refine ret_call rfl c94_eq ?_
 unfold may inn
 by_cases h1:3≤m
 ·by_cases h2:m≤16
  ·by_cases h3:1≤s
   ·by_cases h4:s≤64
    ·by_cases h5:40≤r
     ·simp only[c94,geo,h1,h2,h3,h4,h5,l0,l1,l2,sy,tup,↓reduceIte,zA,zG,zC,zD,zF,zE,zB,zH,reduceCtorEq];simp;exact t1
     ·simp only[c94,geo,h1,h2,h3,h4,h5,l0,l1,l2,sy,tup,↓reduceIte,zA,zG,zC,zD,zF,zE,zB,zH,reduceCtorEq];simp;exact t1
    ·simp only[c94,geo,h1,h2,h3,h4,l0,l1,l2,sy,tup,↓reduceIte,zA,zG,zC,zD,zF,zE,zB,zH,reduceCtorEq];simp;exact t1
   ·simp only[c94,geo,h1,h2,h3,l0,l1,l2,sy,tup,↓reduceIte,zA,zG,zC,zD,zF,zE,zB,zH,reduceCtorEq];simp;exact t1
  ·simp only[c94,geo,h1,h2,l0,l1,l2,sy,tup,↓reduceIte,zA,zG,zC,zD,zF,zE,zB,zH,reduceCtorEq];simp;exact t1
 ·simp only[c94,geo,h1,l0,l1,l2,sy,tup,↓reduceIte,zA,zG,zC,zD,zF,zE,zB,zH,reduceCtorEq];simp;exact t1
def blocks (m s r:Int):Int:=if may m s r=true then s*(m - 1) else 0
end Go.Proofs.YtabebpemfinejaaGreat.draft
namespace Go.Proofs.YtabebpemfinejaaGreat.draft
open Go.Am
noncomputable def c110_l0:C:=.seq (.reg [
 qo 11 (.p (arF .lss (tt 10) (ii 16))) [pp 10]]) (
 .seq (.cond (tt 11) (.skip) (.exit 0)) (
 .seq (.block 1 (.seq (.reg [
 qo 12 (.p (idxAF (tt 9) (tt 10) 16 1 .sc)) [pp 9,pp 10],
 mv 7 12]) (
 .seq (.reg [
 mv 13 7,
 mv 14 1,
 qo 15 (.p (eqcF false false [.int .u8] (tt 13) (tt 14))) [pp 13,pp 14]]) (
 .cond (tt 15) (.reg [
 mv 16 5,
 qo 17 (.p (arF .add (tt 16) (ii 1))) [pp 16],
 mv 5 17]) (.skip))))) (
 .reg [
 qo 18 (.p (arF .add (tt 10) (ii 1))) [pp 10],
 mv 10 18])))
noncomputable def c110:CFn:=⟨[.tmp (pp 4)],
 .seq (.reg [
 qo 2 (.m (boxF 21 (tt 0))) [pp 0],
 qo 4 (.p (S.get (ii 0))) []]) (
 .seq (.reg [
 qo 5 (.p (S.get (ii 0))) []]) (
 .seq (.seq (.reg [
 qo 8 (.p (faddrF (tt 2) 3)) [pp 2],
 qo 9 (.r (loadF (tt 8) 16 .ag)) [pp 8],
 qo 10 (.p (S.get (ii 0))) []]) (
 .block 0 (.loop c110_l0))) (
 .seq (.reg [
 mv 19 5,
 mv 4 19]) (
 .ret))))⟩
theorem c110_eq:fnOf Tryz.prog 110=some c110:=by kernel_rfl
noncomputable def c47_l0:C:=.seq (.reg [
 qo 30 (.p (arF .lss (tt 29) (tt 28))) [pp 29,pp 28]]) (
 .seq (.cond (tt 30) (.skip) (.exit 0)) (
 .seq (.block 1 (.seq (.reg [
 qo 31 (.p (iaddrSF (tt 27) (tt 29) 1)) [pp 27,pp 29],
 qo 32 (.r (loadF (tt 31) 1 .sc)) [pp 31],
 mv 4 32]) (
 .seq (.reg [
 mv 33 4,
 qo 34 (.p (eqcF true false [.int .u8] (tt 33) (.c (.int .u8 0)))) [pp 33]]) (
 .cond (tt 34) (.seq (.reg [
 qo 2 (.p (S.get (.c (.bool false)))) []]) (
 .ret)) (.skip))))) (
 .reg [
 qo 35 (.p (arF .add (tt 29) (ii 1))) [pp 29],
 mv 29 35])))
noncomputable def c47:CFn:=⟨[.tmp (pp 2)],
 .seq (.reg [
 qo 1 (.m (boxF 21 (tt 0))) [pp 0],
 qo 2 (.p (S.get (.c (.bool false)))) []]) (
 .seq (.seq (.reg [
 qo 6 (.p (faddrF (tt 1) 0)) [pp 1],
 qo 7 (.r (loadF (tt 6) 3 .ag)) [pp 6],
 qo 8 (.c (callF (ff 89) [(tt 7)])) [pp 7],
 qo 9 (.p (unF .not (tt 8))) [pp 8],
 mv 10 9,
 qg 11 (.p (faddrF (tt 1) 19)) 10 false [pp 1],
 qg 12 (.r (loadF (tt 11) 1 .sc)) 10 false [pp 11],
 qg 13 (.p (arF .lss (tt 12) (ii 0))) 10 false [pp 12],
 qo 14 (.p (pickF (tt 10) (.c (.bool true)) (tt 13))) [pp 10,pp 13],
 mv 15 14,
 qg 16 (.p (faddrF (tt 1) 19)) 15 false [pp 1],
 qg 17 (.r (loadF (tt 16) 1 .sc)) 15 false [pp 16],
 qg 18 (.p (faddrF (tt 1) 0)) 15 false [pp 1],
 qg 19 (.p (faddrF (tt 18) 1)) 15 false [pp 18],
 qg 20 (.r (loadF (tt 19) 1 .sc)) 15 false [pp 19],
 qg 21 (.p (arF .geq (tt 17) (tt 20))) 15 false [pp 17,pp 20],
 qo 22 (.p (pickF (tt 15) (.c (.bool true)) (tt 21))) [pp 15,pp 21]]) (
 .cond (tt 22) (.seq (.reg [
 qo 2 (.p (S.get (.c (.bool false)))) []]) (
 .ret)) (.skip))) (
 .seq (.seq (.reg [
 qo 23 (.p (faddrF (tt 1) 3)) [pp 1],
 qo 24 (.p (faddrF (tt 1) 0)) [pp 1],
 qo 25 (.p (faddrF (tt 24) 0)) [pp 24],
 qo 26 (.r (loadF (tt 25) 1 .sc)) [pp 25],
 qo 27 (.p (sliceAF 16 1 (tt 23) (some (tt 26)) none none)) [pp 23,pp 26],
 qo 28 (.p (lenF (tt 27))) [pp 27],
 qo 29 (.p (S.get (ii 0))) []]) (
 .block 0 (.loop c47_l0))) (
 .seq (.reg [
 qo 36 (.r (loadF (tt 1) 21 .ag)) [pp 1],
 qo 37 (.c (callF (ff 110) [(tt 36),(.c (.int .u8 2))])) [pp 36],
 mv 5 37]) (
 .seq (.regD [
 qo 38 (.r (loadF (tt 1) 21 .ag)) [pp 1],
 qo 39 (.c (callF (ff 110) [(tt 38),(.c (.int .u8 0))])) [pp 38],
 qo 40 (.r (loadF (tt 1) 21 .ag)) [pp 1],
 qo 41 (.c (callF (ff 110) [(tt 40),(.c (.int .u8 1))])) [pp 40],
 qo 42 (.p (arF .add (tt 39) (tt 41))) [pp 39,pp 41],
 mv 43 5,
 qo 44 (.p (arF .add (tt 42) (tt 43))) [pp 42,pp 43],
 qo 45 (.p (eqcF false false [.int .i64] (tt 44) (ii 16))) [pp 44],
 mv 46 45,
 mg 47 5 46 true,
 qg 48 (.p (eqcF false false [.int .i64] (tt 47) (ii 1))) 46 true [pp 47],
 mg 49 48 46 true,
 mg 50 5 49 false,
 qg 51 (.p (eqcF false false [.int .i64] (tt 50) (ii 0))) 49 false [pp 50],
 mg 52 51 49 false,
 qg 53 (.p (faddrF (tt 1) 19)) 52 true [pp 1],
 qg 54 (.r (loadF (tt 53) 1 .sc)) 52 true [pp 53],
 qg 55 (.p (eqcF false false [.int .i64] (tt 54) (ii 0))) 52 true [pp 54],
 qg 56 (.p (pickF (tt 52) (tt 55) (.c (.bool false)))) 49 false [pp 52,pp 55],
 qg 57 (.p (pickF (tt 49) (.c (.bool true)) (tt 56))) 46 true [pp 49,pp 56],
 qo 58 (.p (pickF (tt 46) (tt 57) (.c (.bool false)))) [pp 46,pp 57],
 mv 2 58] [0,1,0,7,15,0,63,127,255,511,1023,2047,4095,8191,16383,32767,65535,131071,262143,524287,1048575,2097151]) (
 .ret)))))⟩
theorem c47_eq:fnOf Tryz.prog 47=some c47:=by kernel_rfl
noncomputable def c45_l0:C:=.seq (.seq (.reg [
 mv 9 4,
 qo 10 (.p (arF .lss (tt 9) (ii 16))) [pp 9]]) (
 .cond (tt 10) (.skip) (.exit 0))) (
 .seq (.block 1 (.seq (.seq (.reg [
 mv 13 4,
 qo 14 (.p (faddrF (tt 1) 3)) [pp 1],
 qo 15 (.p (iaddrAF (tt 14) (tt 13) 16 1)) [pp 14,pp 13],
 qo 16 (.r (loadF (tt 15) 1 .sc)) [pp 15],
 qo 17 (.p (arF .gtr (tt 16) (.c (.int .u8 2)))) [pp 16],
 mv 18 17,
 mg 19 4 18 false,
 qg 20 (.p (faddrF (tt 1) 0)) 18 false [pp 1],
 qg 21 (.p (faddrF (tt 20) 0)) 18 false [pp 20],
 qg 22 (.r (loadF (tt 21) 1 .sc)) 18 false [pp 21],
 qg 23 (.p (arF .geq (tt 19) (tt 22))) 18 false [pp 19,pp 22],
 mg 24 23 18 false,
 mg 25 4 24 true,
 qg 26 (.p (faddrF (tt 1) 3)) 24 true [pp 1],
 qg 27 (.p (iaddrAF (tt 26) (tt 25) 16 1)) 24 true [pp 26,pp 25],
 qg 28 (.r (loadF (tt 27) 1 .sc)) 24 true [pp 27],
 qg 29 (.p (eqcF true false [.int .u8] (tt 28) (.c (.int .u8 0)))) 24 true [pp 28],
 qg 30 (.p (pickF (tt 24) (tt 29) (.c (.bool false)))) 18 false [pp 24,pp 29],
 qo 31 (.p (pickF (tt 18) (.c (.bool true)) (tt 30))) [pp 18,pp 30]]) (
 .cond (tt 31) (.seq (.reg [
 qo 2 (.p (S.get (.c (.bool false)))) []]) (
 .ret)) (.skip))) (
 .seq (.reg [
 mv 32 4,
 qo 33 (.p (faddrF (tt 1) 3)) [pp 1],
 qo 34 (.p (iaddrAF (tt 33) (tt 32) 16 1)) [pp 33,pp 32],
 qo 35 (.r (loadF (tt 34) 1 .sc)) [pp 34],
 qo 36 (.p (eqcF false false [.int .u8] (tt 35) (.c (.int .u8 2)))) [pp 35]]) (
 .cond (tt 36) (.reg [
 mv 37 3,
 qo 38 (.p (arF .add (tt 37) (ii 1))) [pp 37],
 mv 3 38]) (.skip))))) (
 .reg [
 mv 11 4,
 qo 12 (.p (arF .add (tt 11) (ii 1))) [pp 11],
 mv 4 12]))
noncomputable def c45:CFn:=⟨[.tmp (pp 2)],
 .seq (.reg [
 qo 1 (.m (boxF 21 (tt 0))) [pp 0],
 qo 2 (.p (S.get (.c (.bool false)))) []]) (
 .seq (.seq (.reg [
 qo 5 (.p (faddrF (tt 1) 0)) [pp 1],
 qo 6 (.r (loadF (tt 5) 3 .ag)) [pp 5],
 qo 7 (.c (callF (ff 94) [(tt 6)])) [pp 6],
 qo 8 (.p (unF .not (tt 7))) [pp 7]]) (
 .cond (tt 8) (.seq (.reg [
 qo 2 (.p (S.get (.c (.bool false)))) []]) (
 .ret)) (.skip))) (
 .seq (.reg [
 qo 3 (.p (S.get (ii 0))) []]) (
 .seq (.seq (.reg [
 qo 4 (.p (S.get (ii 0))) []]) (
 .block 0 (.loop c45_l0))) (
 .seq (.reg [
 mv 39 3,
 qo 40 (.p (arF .leq (tt 39) (ii 1))) [pp 39],
 mv 41 40,
 qg 42 (.p (faddrF (tt 1) 19)) 41 true [pp 1],
 qg 43 (.r (loadF (tt 42) 1 .sc)) 41 true [pp 42],
 qg 44 (.p (arF .geq (tt 43) (ii 0))) 41 true [pp 43],
 qo 45 (.p (pickF (tt 41) (tt 44) (.c (.bool false)))) [pp 41,pp 44],
 mv 46 45,
 qg 47 (.p (faddrF (tt 1) 19)) 46 true [pp 1],
 qg 48 (.r (loadF (tt 47) 1 .sc)) 46 true [pp 47],
 qg 49 (.p (faddrF (tt 1) 0)) 46 true [pp 1],
 qg 50 (.p (faddrF (tt 49) 1)) 46 true [pp 49],
 qg 51 (.r (loadF (tt 50) 1 .sc)) 46 true [pp 50],
 qg 52 (.p (arF .lss (tt 48) (tt 51))) 46 true [pp 48,pp 51],
 qo 53 (.p (pickF (tt 46) (tt 52) (.c (.bool false)))) [pp 46,pp 52],
 mv 54 53,
 mg 55 3 54 true,
 qg 56 (.p (eqcF false false [.int .i64] (tt 55) (ii 1))) 54 true [pp 55],
 mg 57 56 54 true,
 qg 58 (.p (faddrF (tt 1) 19)) 57 false [pp 1],
 qg 59 (.r (loadF (tt 58) 1 .sc)) 57 false [pp 58],
 qg 60 (.p (eqcF false false [.int .i64] (tt 59) (ii 0))) 57 false [pp 59],
 qg 61 (.p (pickF (tt 57) (.c (.bool true)) (tt 60))) 54 true [pp 57,pp 60],
 qo 62 (.p (pickF (tt 54) (tt 61) (.c (.bool false)))) [pp 54,pp 61],
 mv 2 62]) (
 .ret)))))⟩
theorem c45_eq:fnOf Tryz.prog 45=some c45:=by kernel_rfl
noncomputable def c130:CFn:=⟨[.tmp (pp 2)],
 .seq (.reg [
 qo 1 (.m (boxF 21 (tt 0))) [pp 0],
 qo 2 (.p (S.get (.c (.bool false)))) []]) (
 .seq (.reg [
 qo 3 (.r (loadF (tt 1) 21 .ag)) [pp 1],
 qo 4 (.c (callF (ff 45) [(tt 3)])) [pp 3],
 mv 2 4]) (
 .ret))⟩
theorem c130_eq:fnOf Tryz.prog 130=some c130:=by kernel_rfl
def Thin (cs:List V):Prop:=∀ v ∈ cs,v.asBlk=none
theorem width_thin:∀ {cs:List V},Thin cs→width cs=cs.length
 | [],_=>rfl
 | c::cs,h=>by
  have h1:c.asBlk=none:=h c (List.mem_cons_self ..)
  unfold width V.w
  rw[h1,width_thin (fun v hv=>h v (List.mem_cons_of_mem _ hv))]
  show 1+cs.length=_
  rw[List.length_cons,Nat.add_comm]
theorem cut_thin:∀ {cs:List V} {o n:Nat},Thin cs→o+n≤cs.length→cut cs o n=some ((cs.drop o).take n)
 | [],o,n,_,h=>by
  have:n=0:=by simp at h;omega
  subst this
  simp[cut]
 | c::cs,o,n,h,hl=>by
  have h1:c.asBlk=none:=h c (List.mem_cons_self ..)
  have h2:Thin cs:=fun v hv=>h v (List.mem_cons_of_mem _ hv)
  rw[List.length_cons] at hl
  unfold cut
  cases n with
  | zero=>simp
  | succ n=>
   have e0:Nat.beq (n+1) 0=false:=rfl
   simp only[e0,h1]
   cases o with
   | zero=>
    simp only[show Nat.beq 0 0=true from rfl]
    have:=cut_thin (o:=0) (n:=n) h2 (by omega)
    rw[show Nat.sub (n+1) 1=n from rfl,this]
    simp
   | succ o=>
    simp only[show Nat.beq (o+1) 0=false from rfl]
    have:=cut_thin (o:=o) (n:=n+1) h2 (by omega)
    rw[show Nat.sub (o+1) 1=o from rfl,this]
    simp
def sts (S:List Nat):List V:=S.map fun x:Nat=>V.int .u8 (x:Int)
def rcells (m s r:Int) (S:List Nat) (c:Int) (g:Bool):List V:=[.int .i64 m,.int .i64 s,.int .i64 r]++(sts S++[.int .i64 c,.bool g])
def ros (m s r:Int) (S:List Nat) (c:Int) (g:Bool):V:=.agg (rcells m s r S c g)
theorem sts_len (S:List Nat):(sts S).length=S.length:=List.length_map ..
theorem sts_thin (S:List Nat):Thin (sts S):=fun v hv=>by
 obtain⟨x,_,rfl⟩:=List.mem_map.1 hv
 rfl
theorem r_thin (m s r:Int) (S:List Nat) (c:Int) (g:Bool):Thin (rcells m s r S c g):=by
 intro v hv
 unfold rcells at hv
 rcases List.mem_append.1 hv with h | h
 ·simp at h;rcases h with rfl | rfl | rfl<;>rfl
 ·rcases List.mem_append.1 h with h | h
  ·exact sts_thin S v h
  ·simp at h;rcases h with rfl | rfl<;>rfl
theorem r_len {S:List Nat} (hS:S.length=16) (m s r c:Int) (g:Bool):(rcells m s r S c g).length=21:=by
 unfold rcells
 simp[sts_len,hS]
structure RosAt (H:Heap) (b:Bk) (m s r:Int) (S:List Nat) (c:Int) (g:Bool):Prop where
 own:H.get b=some (.rows false 21 [rcells m s r S c g])
 len:S.length=16
section
variable {H:Heap} {b:Bk} {m s r:Int} {S:List Nat} {c:Int} {g:Bool} (h:RosAt H b m s r S c g)
include h
theorem ros_cut {o n:Nat} (hn:o+n≤21) (ho:o < 21):loadAt H ⟨b,o⟩ n=some (((rcells m s r S c g).drop o).take n):=by
 rw[loadAt_eq h.own (r:=rcells m s r S c g) (nth_of (by rw[Nat.div_eq_of_lt ho];rfl)),Nat.mod_eq_of_lt ho]
 exact cut_thin (r_thin m s r S c g) (by rw[r_len h.len];exact hn)
theorem ros_all:loadAt H ⟨b,0⟩ 21=some (rcells m s r S c g):=by
 rw[ros_cut h (by omega) (by omega),List.drop_zero,List.take_of_length_le (by rw[r_len h.len];omega)]
theorem ros_geo:loadAt H ⟨b,0⟩ 3=some [.int .i64 m,.int .i64 s,.int .i64 r]:=by rw[ros_cut h (by omega) (by omega)];rfl
theorem ros_m:loadAt H ⟨b,0⟩ 1=some [.int .i64 m]:=by rw[ros_cut h (by omega) (by omega)];rfl
theorem ros_s:loadAt H ⟨b,1⟩ 1=some [.int .i64 s]:=by rw[ros_cut h (by omega) (by omega)];rfl
theorem ros_sts:loadAt H ⟨b,3⟩ 16=some (sts S):=by
 rw[ros_cut h (by omega) (by omega)]
 unfold rcells
 show some (List.take 16 (sts S++_))=_
 rw[List.take_append_of_le_length (by rw[sts_len,h.len];omega),List.take_of_length_le (by rw[sts_len,h.len];omega)]
theorem ros_st {i:Nat} (hi:i < 16):loadAt H ⟨b,3+i*1⟩ 1=some [.int .u8 ((S[i]'(by rw[h.len];exact hi):Nat):Int)]:=by
 have hi':i < S.length:=by rw[h.len];exact hi
 rw[ros_cut h (by omega) (by omega)]
 unfold rcells
 rw[show 3+i*1=[V.int .i64 m,.int .i64 s,.int .i64 r].length+i from by simp,List.drop_length_add_append,List.drop_append_of_le_length (by rw[sts_len];omega)]
 unfold sts
 rw[← List.map_drop,List.drop_eq_getElem_cons hi']
 rfl
theorem ros_c:loadAt H ⟨b,19⟩ 1=some [.int .i64 c]:=by
 rw[ros_cut h (by omega) (by omega)]
 unfold rcells
 have e:19=[V.int .i64 m,.int .i64 s,.int .i64 r].length+((sts S).length+0):=by rw[sts_len,h.len];rfl
 rw[e,List.drop_length_add_append,List.drop_length_add_append]
 rfl
end
end Go.Proofs.YtabebpemfinejaaGreat.draft
namespace Go.Proofs.YtabebpemfinejaaGreat.draft
open Go.Am
theorem r_width {S:List Nat} (hS:S.length=16) (m s r c:Int) (g:Bool):width (rcells m s r S c g)=21:=by rw[width_thin (r_thin m s r S c g),r_len hS]
theorem sts_cut {S:List Nat} {i:Nat} (hi:i < S.length):cut (sts S) (i*1) 1=some [.int .u8 ((S[i]:Nat):Int)]:=by
 rw[cut_thin (sts_thin S) (by rw[sts_len];omega)]
 unfold sts
 rw[← List.map_drop,Nat.mul_one,List.drop_eq_getElem_cons hi]
 rfl
def cnt (S:List Nat) (x:Nat):Nat:=(S.filter fun y=>decide (y=x)).length
theorem cnt_take {S:List Nat} {x i:Nat} (hi:i < S.length):cnt (S.take (i+1)) x=cnt (S.take i) x+if S[i]=x then 1 else 0:=by
 unfold cnt
 rw[List.take_add_one,List.getElem?_eq_getElem hi,List.filter_append,List.length_append]
 by_cases e:S[i]=x
 ·simp[e]
 ·simp[e]
theorem cnt_le (S:List Nat) (x:Nat):cnt S x≤S.length:=List.length_filter_le ..
theorem count_ok (H:Heap) {m s r c:Int} {g:Bool} {S:List Nat} (hS:S.length=16) (x:Nat) (lf n:Nat) (hlf:17 < lf):ret (callS Tryz.prog S0 lf (n+1) 110 [ros m s r S c g,.int .u8 (x:Int)] H) fun v H'=>v=.int .i64 (cnt S x:Int)∧Turns Z H H':=by
 have t1:=Turns.add Z H (.rows false 21 [rcells m s r S c g])
 have hg:(H.add (.rows false 21 [rcells m s r S c g])).get (.run H.next)=some (.rows false 21 [rcells m s r S c g]):=by rw[Heap.get_add,if_pos rfl]
 have hr:RosAt (H.add (.rows false 21 [rcells m s r S c g])) (.run H.next) m s r S c g:=⟨hg,hS⟩
 have l1:=ros_sts hr
 have hw:=r_width hS m s r c g
 refine ret_call rfl c110_eq ?_
 simp only[c110,ros,hw,l1,sy,tup,↓reduceIte,zA,zG,zC,zD,zF,zE,zB,zH,reduceCtorEq]
 have hloop:∀ t:T,t.getP (Tr.path 1)=some (.int .u8 (x:Int))→t.getP (Tr.path 5)=some (.int .i64 0)→t.getP (Tr.path 9)=some (.agg (sts S))→t.getP (Tr.path 10)=some (.int .i64 0) →
   wp (loopF (runC (callS Tryz.prog S0 lf n) lf c110_l0) lf ⟨t,H.add (.rows false 21 [rcells m s r S c g]),[]⟩) fun x' s'=>x'=.ex 0∧s'.d=[]∧s'.H=H.add (.rows false 21 [rcells m s r S c g])∧s'.t.getP (Tr.path 5)=some (.int .i64 (cnt S x:Int)):=by
  intro t q1 q5 q9 q10
  refine wp_loopF (fun j s'=>∃ i:Nat,j=16 - i∧i≤16∧s'.d=[]∧s'.H=H.add (.rows false 21 [rcells m s r S c g])∧s'.t.getP (Tr.path 1)=some (.int .u8 (x:Int))∧s'.t.getP (Tr.path 5)=some (.int .i64 (cnt (S.take i) x:Int))∧s'.t.getP (Tr.path 9)=some (.agg (sts S))∧s'.t.getP (Tr.path 10)=some (.int .i64 (i:Int))) ?_ lf 16 _ ⟨0,rfl,by omega,rfl,rfl,q1,q5,q9,q10⟩ (by omega)
  rintro j ⟨t,HH,d⟩ ⟨i,rfl,hi,hd,hH,q1,q5,q9,q10⟩
  dsimp only at hd hH q1 q5 q9 q10
  subst hd;subst hH
  by_cases hlt:i < 16
  ·have hlt':(i:Int) < 16:=by omega
   have hle':i+1≤16:=hlt
   have hiS:i < S.length:=by omega
   have hc:=sts_cut hiS
   have hn:=cnt_le (S.take i) x
   rw[List.length_take] at hn
   have w1:IntKind.i64.wrap ((i:Int)+1)=((i+1:Nat):Int):=by rw[wrap_i64 (by omega)];omega
   have w2:IntKind.i64.wrap ((cnt (S.take i) x:Int)+1)=((cnt (S.take i) x+1:Nat):Int):=by rw[wrap_i64 (by omega)];omega
   have hk:=cnt_take (x:=x) hiS
   by_cases e:S[i]=x
   ·rw[if_pos e] at hk
    have hb:(((S[i]:Nat):Int)==(x:Int))=true:=by simp[e]
    simp only[c110_l0,q1,q5,q9,q10,hlt',hle',hc,hb,w1,w2,sy,tup,↓reduceIte,zA,zG,zC,zD,zF,zE,zB,zH,reduceCtorEq]
    exact⟨16 - (i+1),by omega,i+1,rfl,by omega,trivial,trivial,by simp[q1],by simp[hk],by simp[q9],by simp⟩
   ·rw[if_neg e,Nat.add_zero] at hk
    have hb:(((S[i]:Nat):Int)==(x:Int))=false:=by simp;omega
    simp only[c110_l0,q1,q5,q9,q10,hlt',hle',hc,hb,w1,w2,sy,tup,↓reduceIte,zA,zG,zC,zD,zF,zE,zB,zH,reduceCtorEq]
    exact⟨16 - (i+1),by omega,i+1,rfl,by omega,trivial,trivial,by simp[q1],by simp[q5,hk],by simp[q9],by simp⟩
  ·have:i=16:=by omega
   subst this
   have hnl:decide (((16:Nat):Int) < 16)=false:=rfl
   rw[List.take_of_length_le (by omega)] at q5
   simp only[c110_l0,q1,q5,q9,q10,hnl,sy,tup,↓reduceIte,zA,zG,zC,zD,zF,zE,zB,zH,reduceCtorEq]
   exact⟨trivial,trivial,trivial,by first | trivial | exact q5⟩
 refine wp_ctx (F:=fun r=>seqC _ _ _ (blockC _ r)) (hloop _ ?_ ?_ ?_ ?_) ?_
 ·simp only[sy,tup,↓reduceIte,zA,zG,zC,zD,zF,zE,zB,zH,reduceCtorEq]
 ·simp only[sy,tup,↓reduceIte,zA,zG,zC,zD,zF,zE,zB,zH,reduceCtorEq]
 ·simp only[sy,tup,↓reduceIte,zA,zG,zC,zD,zF,zE,zB,zH,reduceCtorEq]
 ·simp only[sy,tup,↓reduceIte,zA,zG,zC,zD,zF,zE,zB,zH,reduceCtorEq]
 rintro x' ⟨t,HH,d⟩ ⟨rfl,hd,hH,q5⟩
 dsimp only at hd hH q5
 subst hd;subst hH
 simp only[q5,sy,tup,↓reduceIte,zA,zG,zC,zD,zF,zE,zB,zH,reduceCtorEq]
 exact⟨trivial,.inr trivial,_,rfl,rfl,t1⟩
def okTo (m:Int) (S:List Nat) (i:Nat):Prop:=∀ j,(hj:j < i)→∀ x,S[j]?=some x→x≤2∧(m≤(j:Int)→x=0)
def fine (m s r:Int) (S:List Nat) (c:Int):Prop:=may m s r=true∧okTo m S 16∧cnt S 2≤1∧0≤c∧c < s∧(cnt S 2=1∨c=0)
end Go.Proofs.YtabebpemfinejaaGreat.draft
namespace Go.Proofs.YtabebpemfinejaaGreat.draft
open Go.Am
theorem okTo_succ {m:Int} {S:List Nat} {i x:Nat} (h:okTo m S i) (hx:S[i]?=some x) (h2:x≤2∧(m≤(i:Int)→x=0)):okTo m S (i+1):=by
 intro j hj y hy
 by_cases e:j=i
 ·subst e
  rw[hx] at hy
  cases hy
  exact h2
 ·exact h j (by omega) y hy
theorem fine_ok (H:Heap) {m s r c:Int} {g:Bool} {S:List Nat} (hS:S.length=16) (lf n:Nat) (hlf:17 < lf):ret (callS Tryz.prog S0 lf (n+2) 45 [ros m s r S c g] H) fun v H'=>(∃ z:Bool,v=.bool z∧(z=true↔fine m s r S c))∧Turns Z H H':=by
 have t1:=Turns.add Z H (.rows false 21 [rcells m s r S c g])
 have hg:(H.add (.rows false 21 [rcells m s r S c g])).get (.run H.next)=some (.rows false 21 [rcells m s r S c g]):=by rw[Heap.get_add,if_pos rfl]
 have og:(H.add (.rows false 21 [rcells m s r S c g])).Old (.run H.next):=by show _ < _;simp
 have hr:∀ {H':Heap},Turns Z (H.add (.rows false 21 [rcells m s r S c g])) H'→RosAt H' (.run H.next) m s r S c g:=fun t=>⟨(t.same _ og id).trans hg,hS⟩
 have lg:=ros_geo (hr (Turns.refl Z _))
 have hw:=r_width hS m s r c g
 generalize hH1:H.add (.rows false 21 [rcells m s r S c g])=H1 at *
 obtain⟨v,H2,e2,rfl,t2⟩:=rmay_ok H1 m s r lf n
 unfold geo at e2
 refine ret_call rfl c45_eq ?_
 cases hm:may m s r with
 | false=>
  rw[hm] at e2
  simp only[c45,ros,hw,hH1,lg,e2,sy,tup,↓reduceIte,zA,zG,zC,zD,zF,zE,zB,zH,reduceCtorEq]
  exact⟨trivial,.inr trivial,_,rfl,⟨false,rfl,by unfold fine;rw[hm];simp⟩,t1.trans t2⟩
 | true=>
  rw[hm] at e2
  simp only[c45,ros,hw,hH1,lg,e2,sy,tup,↓reduceIte,zA,zG,zC,zD,zF,zE,zB,zH,reduceCtorEq]
  have hr2:=hr t2
  have l0:=ros_m hr2
  have hloop:∀ t:T,t.getP (Tr.path 1)=some (.ptr (some ⟨.run H.next,0⟩))→t.getP (Tr.path 3)=some (.int .i64 0)→t.getP (Tr.path 4)=some (.int .i64 0) →
    wp (loopF (runC (callS Tryz.prog S0 lf (n+1)) lf c45_l0) lf ⟨t,H2,[]⟩) fun x' s'=>s'.d=[]∧s'.H=H2∧((x'=.ex 0∧okTo m S 16∧s'.t.getP (Tr.path 1)=some (.ptr (some ⟨.run H.next,0⟩))∧s'.t.getP (Tr.path 3)=some (.int .i64 (cnt S 2:Int))) ∨
     (x'=.ret∧¬ okTo m S 16∧s'.t.getP (Tr.path 2)=some (.bool false))):=by
   intro t q1 q3 q4
   refine wp_loopF (fun j s'=>∃ i:Nat,j=16 - i∧i≤16∧s'.d=[]∧s'.H=H2∧okTo m S i∧s'.t.getP (Tr.path 1)=some (.ptr (some ⟨.run H.next,0⟩))∧s'.t.getP (Tr.path 3)=some (.int .i64 (cnt (S.take i) 2:Int))∧s'.t.getP (Tr.path 4)=some (.int .i64 (i:Int))) ?_ lf 16 _ ⟨0,rfl,by omega,rfl,rfl,fun j hj=>absurd hj (by omega),q1,q3,q4⟩ (by omega)
   rintro j ⟨t,HH,d⟩ ⟨i,rfl,hi,hd,hH,hok,q1,q3,q4⟩
   dsimp only at hd hH q1 q3 q4
   subst hd;subst hH
   by_cases hlt:i < 16
   ·have hlt':(i:Int) < 16:=by omega
    have hle':i+1≤16:=hlt
    have hiS:i < S.length:=by omega
    have hget:S[i]?=some S[i]:=List.getElem?_eq_getElem hiS
    have lx:=ros_st hr2 hlt
    have hn:=cnt_le (S.take i) 2
    rw[List.length_take] at hn
    have w1:IntKind.i64.wrap ((i:Int)+1)=((i+1:Nat):Int):=by rw[wrap_i64 (by omega)];omega
    have w2:IntKind.i64.wrap ((cnt (S.take i) 2:Int)+1)=((cnt (S.take i) 2+1:Nat):Int):=by rw[wrap_i64 (by omega)];omega
    have hk:=cnt_take (x:=2) hiS
    by_cases h2:2 < S[i]
    ·have h2':(2:Int) < ((S[i]:Nat):Int):=by omega
     simp only[c45_l0,q1,q3,q4,hlt',hle',lx,h2',sy,tup,↓reduceIte,zA,zG,zC,zD,zF,zE,zB,zH,reduceCtorEq]
     refine⟨trivial,trivial,.inr ⟨trivial,fun h=>?_,trivial⟩⟩
     have:=(h i hlt _ hget).1
     omega
    ·have h2':¬ (2:Int) < ((S[i]:Nat):Int):=by omega
     by_cases hmi:m≤(i:Int)
     ·by_cases h0:S[i]=0
      ·have hb0:(((S[i]:Nat):Int)==0)=true:=by simp[h0]
       have hb2:(((S[i]:Nat):Int)==2)=false:=by simp[h0]
       rw[if_neg (by omega),Nat.add_zero] at hk
       simp only[c45_l0,q1,q3,q4,hlt',hle',lx,l0,h2',hmi,hb0,hb2,w1,sy,tup,↓reduceIte,zA,zG,zC,zD,zF,zE,zB,zH,reduceCtorEq]
       exact⟨16 - (i+1),by omega,i+1,rfl,by omega,trivial,trivial,okTo_succ hok hget ⟨by omega,fun _=>h0⟩,by simp[q1],by simp[q3,hk],by simp⟩
      ·have hb0:(((S[i]:Nat):Int)==0)=false:=by simp;omega
       simp only[c45_l0,q1,q3,q4,hlt',hle',lx,l0,h2',hmi,hb0,sy,tup,↓reduceIte,zA,zG,zC,zD,zF,zE,zB,zH,reduceCtorEq]
       refine⟨trivial,trivial,.inr ⟨trivial,fun h=>?_,trivial⟩⟩
       exact h0 ((h i hlt _ hget).2 hmi)
     ·by_cases e2:S[i]=2
      ·have hb2:(((S[i]:Nat):Int)==2)=true:=by simp[e2]
       rw[if_pos e2] at hk
       simp only[c45_l0,q1,q3,q4,hlt',hle',lx,l0,h2',hmi,hb2,w1,w2,sy,tup,↓reduceIte,zA,zG,zC,zD,zF,zE,zB,zH,reduceCtorEq]
       exact⟨16 - (i+1),by omega,i+1,rfl,by omega,trivial,trivial,okTo_succ hok hget ⟨by omega,fun h=>absurd h hmi⟩,by simp[q1],by simp[hk],by simp⟩
      ·have hb2:(((S[i]:Nat):Int)==2)=false:=by simp;omega
       rw[if_neg e2,Nat.add_zero] at hk
       simp only[c45_l0,q1,q3,q4,hlt',hle',lx,l0,h2',hmi,hb2,w1,sy,tup,↓reduceIte,zA,zG,zC,zD,zF,zE,zB,zH,reduceCtorEq]
       exact⟨16 - (i+1),by omega,i+1,rfl,by omega,trivial,trivial,okTo_succ hok hget ⟨by omega,fun h=>absurd h hmi⟩,by simp[q1],by simp[q3,hk],by simp⟩
   ·have:i=16:=by omega
    subst this
    have hnl:decide (((16:Nat):Int) < 16)=false:=rfl
    rw[List.take_of_length_le (by omega)] at q3
    simp only[c45_l0,q1,q3,q4,hnl,sy,tup,↓reduceIte,zA,zG,zC,zD,zF,zE,zB,zH,reduceCtorEq]
    exact⟨trivial,trivial,.inl ⟨trivial,hok,by first | trivial | exact q1,by first | trivial | exact q3⟩⟩
  refine wp_ctx (F:=fun r=>seqC _ _ _ (blockC _ r)) (hloop _ ?_ ?_ ?_) ?_
  ·simp only[sy,tup,↓reduceIte,zA,zG,zC,zD,zF,zE,zB,zH,reduceCtorEq]
  ·simp only[sy,tup,↓reduceIte,zA,zG,zC,zD,zF,zE,zB,zH,reduceCtorEq]
  ·simp only[sy,tup,↓reduceIte,zA,zG,zC,zD,zF,zE,zB,zH,reduceCtorEq]
  rintro x' ⟨t,HH,d⟩ ⟨hd,hH,⟨rfl,hok,q1,q3⟩ | ⟨rfl,hno,q2⟩⟩
  ·dsimp only at hd hH q1 q3
   subst hd;subst hH
   have lc:=ros_c hr2
   have ls:=ros_s hr2
   have hN:(fine m s r S c)=(cnt S 2≤1∧0≤c∧c < s∧(cnt S 2=1∨c=0)):=by unfold fine;rw[hm];simp[hok]
   rw[hN]
   by_cases h1:cnt S 2≤1
   ·have h1':(cnt S 2:Int)≤1:=by omega
    by_cases hc0:0≤c
    ·by_cases hcs:c < s
     ·by_cases h11:cnt S 2=1
      ·have hb:((cnt S 2:Int)==1)=true:=by simp[h11]
       simp only[q1,q3,lc,ls,h1',hc0,hcs,hb,sy,tup,↓reduceIte,zA,zG,zC,zD,zF,zE,zB,zH,reduceCtorEq]
       exact⟨trivial,.inr trivial,_,rfl,⟨_,rfl,by simp[h1,hc0,hcs,h11]⟩,t1.trans t2⟩
      ·have hb:((cnt S 2:Int)==1)=false:=by simp;omega
       by_cases hcz:c=0
       ·have hbc:(c==0)=true:=by simp[hcz]
        simp only[q1,q3,lc,ls,h1',hc0,hcs,hb,hbc,sy,tup,↓reduceIte,zA,zG,zC,zD,zF,zE,zB,zH,reduceCtorEq]
        exact⟨trivial,.inr trivial,_,rfl,⟨_,rfl,by simp[h1,hc0,hcs,hcz]⟩,t1.trans t2⟩
       ·have hbc:(c==0)=false:=by simp[hcz]
        simp only[q1,q3,lc,ls,h1',hc0,hcs,hb,hbc,sy,tup,↓reduceIte,zA,zG,zC,zD,zF,zE,zB,zH,reduceCtorEq]
        exact⟨trivial,.inr trivial,_,rfl,⟨_,rfl,by simp[h11,hcz]⟩,t1.trans t2⟩
     ·simp only[q1,q3,lc,ls,h1',hc0,hcs,sy,tup,↓reduceIte,zA,zG,zC,zD,zF,zE,zB,zH,reduceCtorEq]
      exact⟨trivial,.inr trivial,_,rfl,⟨_,rfl,by simp[hcs]⟩,t1.trans t2⟩
    ·simp only[q1,q3,lc,ls,h1',hc0,sy,tup,↓reduceIte,zA,zG,zC,zD,zF,zE,zB,zH,reduceCtorEq]
     exact⟨trivial,.inr trivial,_,rfl,⟨_,rfl,by simp[hc0]⟩,t1.trans t2⟩
   ·have h1':¬ (cnt S 2:Int)≤1:=by omega
    simp only[q1,q3,lc,ls,h1',sy,tup,↓reduceIte,zA,zG,zC,zD,zF,zE,zB,zH,reduceCtorEq]
    exact⟨trivial,.inr trivial,_,rfl,⟨_,rfl,by simp[h1]⟩,t1.trans t2⟩
  ·dsimp only at hd hH q2
   subst hd;subst hH
   simp only[q2,sy,tup,↓reduceIte,zA,zG,zC,zD,zF,zE,zB,zH,reduceCtorEq]
   exact⟨trivial,.inr trivial,_,rfl,⟨false,rfl,by unfold fine;simp[hno]⟩,t1.trans t2⟩
theorem rosmay_ok (H:Heap) {m s r c:Int} {g:Bool} {S:List Nat} (hS:S.length=16) (lf n:Nat) (hlf:17 < lf):ret (callS Tryz.prog S0 lf (n+3) 130 [ros m s r S c g] H) fun v H'=>(∃ z:Bool,v=.bool z∧(z=true↔fine m s r S c))∧Turns Z H H':=by
 have t1:=Turns.add Z H (.rows false 21 [rcells m s r S c g])
 have hg:(H.add (.rows false 21 [rcells m s r S c g])).get (.run H.next)=some (.rows false 21 [rcells m s r S c g]):=by rw[Heap.get_add,if_pos rfl]
 have hr:RosAt (H.add (.rows false 21 [rcells m s r S c g])) (.run H.next) m s r S c g:=⟨hg,hS⟩
 have l1:=ros_all hr
 have hw:=r_width hS m s r c g
 obtain⟨v,H2,e2,⟨z,rfl,hz⟩,t2⟩:=fine_ok (H.add (.rows false 21 [rcells m s r S c g])) (m:=m) (s:=s) (r:=r) (c:=c) (g:=g) hS lf n hlf
 unfold ros at e2
 refine ret_call rfl c130_eq ?_
 simp only[c130,ros,hw,l1,e2,sy,tup,↓reduceIte,zA,zG,zC,zD,zF,zE,zB,zH,reduceCtorEq]
 exact⟨trivial,.inr trivial,_,rfl,⟨z,rfl,hz⟩,t1.trans t2⟩
end Go.Proofs.YtabebpemfinejaaGreat.draft
