import Derived.Test.YtabebpemfinejaaGreatG4
import Derived.Test.YtabebpemfinejaaGreatG3
set_option linter.unusedVariables false
set_option linter.unusedSectionVars false
set_option linter.unusedSimpArgs false
set_option maxRecDepth 10000
open Nat renaming reduceEqDiff → zA, reduceLeDiff → zB, reduceSub → zC, reduceMul → zD, reduceMod → zE, reduceDiv → zF, reduceAdd → zG
open Int renaming reduceBEq → zH
namespace Go.Proofs.YtabebpemfinejaaGreat.draft
open Go.Am
open disk (bx Fit A1 R1 Low)
noncomputable def c53:CFn:=⟨[.tmp (pp 4)],
 .seq (.reg [
 qo 4 (.p (S.get (ii 0))) []]) (
 .seq (.reg [
 qo 6 (.r (loadF (tt 1) 1 .sc)) [pp 1],
 mv 7 0,
 qo 8 (.c (callF (ff 54) [(tt 6),(tt 7)])) [pp 6,pp 7],
 mv 5 8]) (
 .seq (.seq (.reg [
 mv 9 5,
 qo 10 (.p (eqcF false false [.int .i64] (tt 9) (ii 9))) [pp 9]]) (
 .cond (tt 10) (.seq (.regD [
 qo 12 (.r (loadF (tt 1) 1 .sc)) [pp 1],
 qo 13 (.r (loadF (tt 1) 1 .sc)) [pp 1],
 qo 14 (.p (nilcF (tt 13))) [pp 13],
 qo 15 (.p (faddrF (tt 14) 3)) [pp 14],
 qo 16 (.r (loadF (tt 15) 21 .ag)) [pp 15],
 mv 17 0,
 qo 18 (.c (callF (ff 55) [(tt 16),(tt 17)])) [pp 16,pp 17],
 mv 11 18,
 qo 19 (.p (extF (tt 11) 0)) [pp 11],
 qo 20 (.p (extF (tt 11) 1)) [pp 11],
 qo 21 (.p (nilcF (tt 12))) [pp 12],
 qo 22 (.p (faddrF (tt 21) 3)) [pp 21],
 qn (.a (storeF (tt 22) (tt 19) 21)) [pp 22,pp 19]] [0,0,2,6,14,0,62,126,254,254,511,1535,3583]) (
 .reg [
 qn (.a (storeF (tt 2) (.c (.bool true)) 1)) [pp 2]])) (.skip))) (
 .seq (.reg [
 mv 23 5,
 mv 4 23]) (
 .ret))))⟩
theorem c53_eq:fnOf Tryz.prog 53=some c53:=by kernel_rfl
noncomputable def c52_l0:C:=.seq (.reg [
 qo 14 (.p (arF .lss (tt 13) (tt 12))) [pp 13,pp 12]]) (
 .seq (.cond (tt 14) (.skip) (.exit 0)) (
 .seq (.block 1 (.seq (.reg [
 mv 15 13,
 mv 5 15]) (
 .seq (.seq (.reg [
 mv 16 0,
 mv 17 5,
 qo 18 (.p (nilcF (tt 16))) [pp 16],
 qo 19 (.p (faddrF (tt 18) 3)) [pp 18],
 qo 20 (.p (faddrF (tt 19) 3)) [pp 19],
 qo 21 (.p (iaddrAF (tt 20) (tt 17) 16 1)) [pp 20,pp 17],
 qo 22 (.r (loadF (tt 21) 1 .sc)) [pp 21],
 qo 23 (.p (eqcF false false [.int .u8] (tt 22) (.c (.int .u8 1)))) [pp 22]]) (
 .cond (tt 23) (.exit 1) (.skip))) (
 .seq (.reg [
 mv 24 1,
 mv 25 5,
 qo 26 (.c (callF (tt 24) [(tt 25)])) [pp 24,pp 25],
 mv 6 26]) (
 .seq (.reg [
 mv 27 6,
 qo 28 (.p (eqcF true false [.int .i64] (tt 27) (ii 0))) [pp 27]]) (
 .cond (tt 28) (.seq (.reg [
 mv 29 6,
 mv 4 29]) (
 .ret)) (.skip))))))) (
 .reg [
 qo 30 (.p (arF .add (tt 13) (ii 1))) [pp 13],
 mv 13 30])))
noncomputable def c52:CFn:=⟨[.tmp (pp 4)],
 .seq (.reg [
 qo 4 (.p (S.get (ii 0))) []]) (
 .seq (.seq (.reg [
 mv 7 0,
 qo 8 (.p (nilcF (tt 7))) [pp 7],
 qo 9 (.p (faddrF (tt 8) 3)) [pp 8],
 qo 10 (.p (faddrF (tt 9) 0)) [pp 9],
 qo 11 (.p (faddrF (tt 10) 0)) [pp 10],
 qo 12 (.r (loadF (tt 11) 1 .sc)) [pp 11],
 qo 13 (.p (S.get (ii 0))) []]) (
 .block 0 (.loop c52_l0))) (
 .seq (.reg [
 qo 4 (.p (S.get (ii 0))) []]) (
 .ret)))⟩
theorem c52_eq:fnOf Tryz.prog 52=some c52:=by kernel_rfl
noncomputable def c14_l0:C:=.seq (.seq (.reg [
 qo 7 (.r (loadF (tt 3) 1 .sc)) [pp 3]]) (
 .cond (tt 7) (.skip) (.exit 0))) (
 .seq (.block 1 (.seq (.reg [
 qn (.a (storeF (tt 3) (.c (.bool false)) 1)) [pp 3]]) (
 .seq (.reg [
 qo 8 (.r (loadF (tt 1) 1 .sc)) [pp 1],
 qo 9 (.p (nilcF (tt 8))) [pp 8],
 qo 10 (.p (faddrF (tt 9) 2)) [pp 9],
 qo 11 (.r (loadF (tt 10) 1 .sc)) [pp 10],
 qo 12 (.p (arF .add (tt 11) (.c (.int .u64 1)))) [pp 11],
 qo 13 (.p (nilcF (tt 8))) [pp 8],
 qo 14 (.p (faddrF (tt 13) 2)) [pp 13],
 qn (.a (storeF (tt 14) (tt 12) 1)) [pp 14,pp 12]]) (
 .seq (.reg [
 qo 15 (.r (loadF (tt 1) 1 .sc)) [pp 1],
 qo 16 (.p (mkfnF (.func 53) [] [(tt 1),(tt 3)])) [pp 1,pp 3],
 qo 17 (.c (callF (ff 52) [(tt 15),(tt 16)])) [pp 15,pp 16],
 mv 4 17]) (
 .seq (.reg [
 mv 18 4,
 qo 19 (.p (eqcF true false [.int .i64] (tt 18) (ii 0))) [pp 18],
 mv 20 19,
 qg 21 (.r (loadF (tt 3) 1 .sc)) 20 true [pp 3],
 qg 22 (.p (unF .not (tt 21))) 20 true [pp 21],
 qo 23 (.p (pickF (tt 20) (tt 22) (.c (.bool false)))) [pp 20,pp 22]]) (
 .cond (tt 23) (.seq (.reg [
 mv 24 4,
 mv 2 24]) (
 .ret)) (.skip))))))) (
 .seq (.reg [
 qo 25 (.r (loadF (tt 3) 1 .sc)) [pp 3]]) (
 .reg [
 qo 3 (.m (allocF 1 [.bool false])) [],
 qn (.a (storeF (tt 3) (tt 25) 1)) [pp 3,pp 25]])))
noncomputable def c14:CFn:=⟨[.tmp (pp 2)],
 .seq (.reg [
 qo 1 (.m (boxF 1 (tt 0))) [pp 0],
 qo 2 (.p (S.get (ii 0))) []]) (
 .seq (.seq (.reg [
 qo 5 (.r (loadF (tt 1) 1 .sc)) [pp 1],
 qo 6 (.c (callF (ff 51) [(tt 5)])) [pp 5]]) (
 .cond (tt 6) (.seq (.reg [
 qo 2 (.p (S.get (ii 1))) []]) (
 .ret)) (.skip))) (
 .seq (.seq (.reg [
 qo 3 (.m (allocF 1 [.bool false])) [],
 qn (.a (storeF (tt 3) (.c (.bool true)) 1)) [pp 3]]) (
 .block 0 (.loop c14_l0))) (
 .seq (.reg [
 qo 2 (.p (S.get (ii 0))) []]) (
 .ret))))⟩
theorem c14_eq:fnOf Tryz.prog 14=some c14:=by kernel_rfl
theorem put_hr {S S':List Nat} (hS:S.length=16) (hS':S'.length=16) (b:Bk) (id ev m s r c c':Int) (g:Bool):Go.Am.put (hcells b id ev m s r S c g) 3 (rcells m s r S' c' g)=some (hcells b id ev m s r S' c' g):=by
 match S,S',hS,hS' with
 | [_,_,_,_,_,_,_,_,_,_,_,_,_,_,_,_],[_,_,_,_,_,_,_,_,_,_,_,_,_,_,_,_],_,_=>rfl
theorem put_hev {S:List Nat} (b:Bk) (id ev ev' m s r c:Int) (g:Bool):Go.Am.put (hcells b id ev m s r S c g) 2 [.int .u64 ev']=some (hcells b id ev' m s r S c g):=rfl
structure Caught (G:Heap) (h p q:Bk) (z:Bool):Prop where
 h:G.get p=some (.rows false 1 [[.ptr (some ⟨h,0⟩)]])
 z:G.get q=some (.rows false 1 [[.bool z]])
 op:G.Old p
 oq:G.Old q
theorem ne_of_get {G:Heap} {b c:Bk} {x y:Am.Obj} (hb:G.get b=some x) (hc:G.get c=some y) (h:x≠y):(b=c)=False:=by
 simp only[eq_iff_iff,iff_false]
 intro e
 rw[e,hc] at hb
 exact h (Option.some.inj hb).symm
theorem Caught.turns {G G':Heap} {h p q:Bk} {z:Bool} (x:Caught G h p q z) (t:Turns Z G G'):Caught G' h p q z:=
 ⟨(t.same p x.op (fun h=>h)).trans x.h,(t.same q x.oq (fun h=>h)).trans x.z,x.op.mono t.next,x.oq.mono t.next⟩
theorem HB.step {G G':Heap} {h b:Bk} {id ev m s r:Int} {S:List Nat} {c:Int} {g:Bool} {B B':disk.Bn} (x:HB G h b id ev m s r S c g B) (t:Turns (fun c=>c=b) G G') (hb:G'.get b=some (bx false B')) (hf:Fit B'):HB G' h b id ev m s r S c g B':=
 ⟨⟨(t.same h x.hull.old (fun e=>by have:=x.ne;rw[this] at e;exact e)).trans x.hull.own,x.hull.len,x.hull.old.mono t.next⟩,hb,x.old.mono t.next,hf⟩
theorem Caught.step {G G':Heap} {h b p q:Bk} {z:Bool} {B:disk.Bn} (x:Caught G h p q z) (hb:G.get b=some (bx false B)) (t:Turns (fun c=>c=b) G G'):Caught G' h p q z:=by
 have n1:=ne_of_get x.h hb (by intro e;cases e)
 have n2:=ne_of_get x.z hb (by intro e;cases e)
 exact⟨(t.same p x.op (fun e=>by rw[n1] at e;exact e)).trans x.h,(t.same q x.oq (fun e=>by rw[n2] at e;exact e)).trans x.z,x.op.mono t.next,x.oq.mono t.next⟩
theorem hl_st {S:List Nat} (hS:S.length=16) {i:Nat} (hi:i < 16) (b:Bk) (id ev m s r c:Int) (g:Bool):cut (hcells b id ev m s r S c g) (6+i) 1=some [.int .u8 ((S.getD i 0:Nat):Int)]:=by
 rw[cut_thin (h_thin b id ev m s r S c g) (by unfold hcells;rw[List.length_append,r_len hS];show 6+i+1≤3+21;omega)]
 have hcs:i=0∨i=1∨i=2∨i=3∨i=4∨i=5∨i=6∨i=7∨i=8∨i=9∨i=10∨i=11∨i=12∨i=13∨i=14∨i=15:=by omega
 match S,hS with
 | [_,_,_,_,_,_,_,_,_,_,_,_,_,_,_,_],_=>rcases hcs with rfl | rfl | rfl | rfl | rfl | rfl | rfl | rfl | rfl | rfl | rfl | rfl | rfl | rfl | rfl | rfl<;>rfl
theorem sect_of {B B':disk.Bn} {j:Nat} (h:B.dev (j:Int)=B'.dev (j:Int)) (t:Nat):sect B j t=sect B' j t:=by unfold sect;rw[h]
structure Round (M k N ID:Nat) (s r:Int) (S:List Nat) (c:Int) (g:Bool) (B0 B:disk.Bn) (i:Nat):Prop where
 calm:Calm M (k+2*i) B
 dd:∀ j,j < M→dead B j=dead B0 j
 done:∀ j,j < i→S.getD j 0≠1→dead B0 j=false∧hasX B j N (supBlk (N+1) ID j M s r S c g)
 rest:∀ j:Nat,j < M→(i≤j∨S.getD j 0=1)→B.dev (j:Int)=B0.dev (j:Int)
 len:∀ j:Nat,j < M+1→(B.dev (j:Int)).S.length=(B0.dev (j:Int)).S.length
 cnt:∀ j:Nat,j < M→∀ q,2≤q→cont B j q=cont B0 j q
theorem Round.skip {M k N ID:Nat} {s r:Int} {S:List Nat} {c:Int} {g:Bool} {B0 B:disk.Bn} {i:Nat} (h:Round M k N ID s r S c g B0 B i) (hl:S.getD i 0=1):Round M k N ID s r S c g B0 B (i+1):=by
 have h1:=h.calm.ok.mono.mono
 refine⟨⟨?_,h.calm.ar,h.calm.dk,h.calm.len,h.calm.le,h.calm.sz,h.calm.lo,h.calm.sm⟩,h.dd,fun j hj hn=>?_,fun j hj hh=>?_,h.len,h.cnt⟩
 ·exact h1
 ·by_cases e:j=i
  ·rw[e] at hn;exact absurd hl hn
  ·exact h.done j (by omega) hn
 ·refine h.rest j hj ?_
  rcases hh with hh | hh
  ·exact .inl (by omega)
  ·exact .inr hh
theorem Round.put {M k N ID:Nat} {s r:Int} {S:List Nat} {c:Int} {g:Bool} {B0 B:disk.Bn} {i:Nat} (h:Round M k N ID s r S c g B0 B i) (hi:i < M) (hl:S.getD i 0≠1) (hd:dead B0 i=false) (hXs:supBlk (N+1) ID i M s r S c g < 256 ^ 64)
  (hu:∀ j,j < M→∀ t,t < 2→upto N (sect B0 j t)):Round M k N ID s r S c g B0 (wrB B i (slotI (sect B i 0) (sect B i 1)) (supBlk (N+1) ID i M s r S c g)) (i+1):=by
 have hdB:dead B i=false:=(h.dd i hi).trans hd
 have hsl:=slotI_lt (sect B i 0) (sect B i 1)
 have hdi:=h.rest i hi (.inl (Nat.le_refl _))
 have hhas:=wrB_has h.calm hi hdB (N:=N) hXs (fun j hj=>by unfold sect;rw[hdi];exact hu i hi j hj)
 have hoth:=fun {j:Nat} (hj:j < M) (hne:j≠i)=>wrB_other h.calm hi hdB hsl hXs hj hne
 refine⟨(h.calm.put hi hsl hdB hXs).2.2.2.2.1,fun j hj=>(wrB_dead h.calm hi hdB hsl hXs hj).trans (h.dd j hj),fun j hj hn=>?_,fun j hj hh=>?_,fun j hj=>?_,fun j hj q hq=>?_⟩
 ·by_cases e:j=i
  ·subst e;exact⟨hd,hhas⟩
  ·obtain⟨h1,t,h2,h3,h4⟩:=h.done j (by omega) hn
   refine⟨h1,t,h2,?_,?_⟩
   ·rw[sect_of (hoth (by omega) e)];exact h3
   ·rw[sect_of (hoth (by omega) e)];exact h4
 ·have hne:j≠i:=by
   rcases hh with hh | hh
   ·omega
   ·intro e;rw[e] at hh;exact hl hh
  rw[hoth hj hne]
  refine h.rest j hj ?_
  rcases hh with hh | hh
  ·exact .inl (by omega)
  ·exact .inr hh
 ·have hw:=(h.calm.put hi hsl hdB hXs).2.2.2.2.2
  by_cases e:j=i
  ·rw[← h.len j hj,e];exact hw.len
  ·rw[hw.oth j hj e];exact h.len j hj
 ·have hw:=(h.calm.put hi hsl hdB hXs).2.2.2.2.2
  by_cases e:j=i
  ·rw[← h.cnt j hj q hq,e];exact hw.cnt q hq
  ·rw[← h.cnt j hj q hq]
   unfold cont
   rw[hw.oth j (by omega) e]
theorem Round.upto {M k N ID:Nat} {s r:Int} {S:List Nat} {c:Int} {g:Bool} {B0 B:disk.Bn} {i:Nat} (h:Round M k N ID s r S c g B0 B i) (hu:∀ j,j < M→∀ t,t < 2→upto N (sect B0 j t)) (hX:∀ j:Nat,j < M→sealN (supBlk (N+1) ID j M s r S c g)=N+1) :
  ∀ j,j < M→∀ t,t < 2→draft.upto (N+1) (sect B j t):=by
 intro j hj t ht
 by_cases hd:j < i∧S.getD j 0≠1
 ·exact(h.done j hd.1 hd.2).2.upto (hX j hj) t ht
 ·have:=h.rest j hj (by omega)
  unfold sect
  rw[this]
  rcases hu j hj t ht with h1 | h1
  ·exact .inl h1
  ·exact .inr (Nat.le_succ_of_le h1)
section
variable {lf K:Nat} (hlf:1000 < lf)
include hlf
variable {G:Heap} {h b:Bk} {id ev m s r:Int} {S:List Nat} {c:Int} {g:Bool} {B:disk.Bn} (hh:HB G h b id ev m s r S c g B) {p q:Bk} {z:Bool} (hc:Caught G h p q z)
include hh hc
theorem usv_dead {i:Nat} (hi:(i:Int) < m) (hfn:fine m s r S c) (h9:B.rc (i:Int) 0=9) (n:Nat):ret (U lf K (n+5) 53 [.int .i64 (i:Int),.ptr (some ⟨p,0⟩),.ptr (some ⟨q,0⟩)] G) fun v G'=>v=.int .i64 9 ∧
  G'.get h=some (.rows false 24 [hcells b id ev m s r (S.set i 1) (loseC S c i) g])∧G'.get q=some (.rows false 1 [[.bool true]])∧Turns (fun c=>c=h∨c=q) G G':=by
 obtain⟨v,G1,e1,rfl,t1⟩:=uhput_dead hlf hh (d:=(i:Int)) (by rw[h9];decide) n (K:=K)
 rw[h9] at e1
 have hS:=hh.hull.len
 have hm16:=(may_t hfn.1).1
 have hiS:i < S.length:=by omega
 have hh1:=hh.turns t1
 have hp1:G1.get p=_:=(t1.same p hc.op (fun h=>h)).trans hc.h
 have hq1:G1.get q=_:=(t1.same q hc.oq (fun h=>h)).trans hc.z
 have l3:=hl_r hh1.hull
 rw[ld_get,hh1.hull.own] at l3
 have hpr:=put_hr (S':=S.set i 1) hS (by simp[hS]) b id ev m s r c (loseC S c i) g
 have hrw:=r_width (S:=S.set i 1) (by simp[hS]) m s r (loseC S c i) g
 have hrw0:=r_width hS m s r c g
 have eL:∀ H:Heap,U lf K (n+4) 55 [ros m s r S c g,.int .i64 (i:Int)] H=some (.v (.tuple [ros m s r (S.set i 1) (loseC S c i) g,.bool (!(((S[i]:Nat):Int)==1))]),H.skip (K+2)):=fun H=>qp_roster_Lose (fun H=>by
  obtain⟨v,H',e,rfl,t⟩:=lose_at H hS hfn hi hiS lf 55 (by omega) (g:=g)
  exact⟨_,H',e,rfl,t⟩)
 unfold ros at eL
 have ho:=hh1.hull.old
 refine ret_callU rfl rfl c53_eq ?_
 simp (maxDischargeDepth:=12) only[c53,e1,hc.h,hp1,hq1,l3,hh1.hull.own,eL,hpr,hrw,hrw0,hv,ldO_one,stO_one,sy,tup,↓reduceIte,zA,zG,zC,zD,zF,zE,zB,zH,reduceCtorEq]
 obtain⟨Q,hQ⟩:∃ Q:List (Option V × Option V),Q=[(loadF (.t (Tr.path 1)) 1 .sc (Tr.setP (Tr.path 1) (.ptr (some ⟨p,0⟩)) .e) G1,some (.ptr (some ⟨h,0⟩))),(loadF (.t (Tr.path 1)) 1 .sc (Tr.setP (Tr.path 1) (.ptr (some ⟨p,0⟩)) .e) (G1.skip (K+2)),some (.ptr (some ⟨h,0⟩)))]:=⟨_,rfl⟩
 rw[endD_q (q:=Q) (by kernel_rfl) (by rw[hQ];kernel_rfl)]
 have hQ':∀ x ∈ Q,x.1=x.2:=by
  rw[hQ]
  intro x hx
  simp only[List.mem_cons,List.not_mem_nil,or_false] at hx
  rcases hx with rfl | rfl<;>simp (maxDischargeDepth:=12) only[hp1,hv,ldO_one,stO_one,sy,tup,↓reduceIte,zA,zG,zC,zD,zF,zE,zB,zH,reduceCtorEq]
 have n1:=ne_of_get (b:=q) (c:=h) hq1 hh1.hull.own (by simp)
 have n2:=ne_of_get (b:=h) (c:=q) hh1.hull.own hq1 (by simp)
 simp (maxDischargeDepth:=12) only[hq1,hh1.hull.own,n1,n2,hv,ldO_one,stO_one,sy,tup,↓reduceIte,zA,zG,zC,zD,zF,zE,zB,zH,reduceCtorEq]
 refine⟨trivial,.inr trivial,_,rfl,rfl,trivial,trivial,?_⟩
 refine(t1.wide (fun c hc=>hc.elim)).trans ?_
 apply Turns.setr
 refine Turns.owe ?_ hQ'
 repeat (first | exact Turns.refl _ _ | apply Turns.skip | apply Turns.addm | apply Turns.setb | apply Turns.setl | apply Turns.setr | refine Turns.setn ?_ _ (by omega) _ | refine Turns.trans ?_ (tF _))
theorem usv_ok {M k i N ID:Nat} (hm:m=(M:Int)) (hev:ev=(N:Int)) (hd:id=(ID:Int)) (hN:N < 18446744073709551616) (hI:ID < 18446744073709551616) (h1:evt N=true) (h2:smay (ID:Int) (i:Int) m s r S c) (hC:Calm M k B) (hk:k≤890) (hi:i < M) (hdd:dead B i=false)
  {X:Nat} (hX:supBlk N ID i m s r S c g=X) (hXs:X < 256 ^ 64) (n:Nat):ret (U lf K (n+5) 53 [.int .i64 (i:Int),.ptr (some ⟨p,0⟩),.ptr (some ⟨q,0⟩)] G) fun v G'=>v=.int .i64 0 ∧
  G'.get b=some (bx false (wrB B i (slotI (sect B i 0) (sect B i 1)) X))∧Turns (fun c=>c=b) G G':=by
 have r0:B.rc (i:Int) 0=0:=by rw[show (0:Int)=((0:Nat):Int) from rfl,hC.rc hi (by decide),hdd];rfl
 have r1:B.rc (i:Int) 1=0:=by rw[show (1:Int)=((1:Nat):Int) from rfl,hC.rc hi (by decide),hdd];rfl
 have d0:B.read (i:Int) 0=sect B i 0:=hC.read (j:=0) hi (by decide) hdd
 have d1:B.read (i:Int) 1=sect B i 1:=hC.read (j:=1) hi (by decide) hdd
 obtain⟨w0,w1,ok1,len1,_,_⟩:=hC.put hi (slotI_lt (sect B i 0) (sect B i 1)) hdd hXs
 have hM:=hC.le
 obtain⟨v,G1,e1,rfl,g1,t1⟩:=uhput_ok hlf hh hev hd hN hI h1 h2 r0 r1 (sl:=((slotI (sect B i 0) (sect B i 1):Nat):Int)) (by rw[d0,d1,slotI_eq]) hX w0 (ok1.fit (by omega) (fun e=>by rw[e] at len1;simp at len1) (by omega)) w1 n (K:=K)
 refine ret_callU rfl rfl c53_eq ?_
 simp (maxDischargeDepth:=12) only[c53,e1,hc.h,hv,ldO_one,stO_one,sy,tup,↓reduceIte,zA,zG,zC,zD,zF,zE,zB,zH,reduceCtorEq]
 exact⟨trivial,.inr trivial,_,rfl,rfl,g1,t1⟩
end
end Go.Proofs.YtabebpemfinejaaGreat.draft
namespace Go.Proofs.YtabebpemfinejaaGreat.draft
open Go.Am
open disk (bx Fit A1 R1 Low)
structure Pre (M k N E ID:Nat) (s r:Int) (S:List Nat) (c:Int) (B:disk.Bn):Prop where
 calm:Calm M k B
 hk:k≤850
 hE:E=N+1
 hN:N+1≤4611686018427387904
 hI:ID < 18446744073709551616
 I0:ID≠0
 fine:fine (M:Int) s r S c
 upto:∀ j,j < M→∀ t,t < 2→upto N (sect B j t)
theorem Pre.evt {M k N E ID:Nat} {s r:Int} {S:List Nat} {c:Int} {B:disk.Bn} (h:Pre M k N E ID s r S c B):evt (E:Int)=true:=by
 have:=h.hN
 have:=h.hE
 unfold draft.evt
 rw[decide_eq_true (by omega),decide_eq_true (by omega)]
 rfl
theorem Pre.may {M k N E ID:Nat} {s r:Int} {S:List Nat} {c:Int} {B:disk.Bn} (h:Pre M k N E ID s r S c B) {i:Nat} (hi:i < M):smay (ID:Int) (i:Int) (M:Int) s r S c:=by
 have:=h.I0
 exact⟨by omega,by omega,by omega,h.fine⟩
theorem Pre.small {M k N E ID:Nat} {s r:Int} {S:List Nat} {c:Int} {B:disk.Bn} (h:Pre M k N E ID s r S c B) (hS:S.length=16) (g:Bool) {i:Nat} (hi:i < M):supBlk E ID i M s r S c g < 256 ^ 64:=by
 have e:=h.evt
 exact(sup_back e h.hI h.calm.le (h.may hi) hS g rfl).2.2.2.2.2.2.2.2.2.2
section
variable {lf K:Nat} (hlf:1000 < lf)
include hlf
variable {G:Heap} {h b:Bk} {M k N E ID:Nat} {s r:Int} {S:List Nat} {c:Int} {g:Bool} {B:disk.Bn} (hh:HB G h b (ID:Int) (E:Int) (M:Int) s r S c g B) {p q:Bk} {z:Bool} (hc:Caught G h p q z) (hp:Pre M k N E ID s r S c B)
include hh hc hp
def Eached (h b q:Bk) (M k N E ID:Nat) (s r:Int) (S:List Nat) (c:Int) (g:Bool) (B:disk.Bn) (G:Heap) (v:V) (G':Heap):Prop:=
 (v=.int .i64 0∧∃ B',Round M k N ID s r S c g B B' M∧G'.get b=some (bx false B')∧Turns (fun c=>c=b) G G') ∨
 (v=.int .i64 9∧∃ B' i,i < M∧S.getD i 0≠1∧dead B i=true∧Round M k N ID s r S c g B B' i∧G'.get b=some (bx false B') ∧
  G'.get h=some (.rows false 24 [hcells b (ID:Int) (E:Int) (M:Int) s r (S.set i 1) (loseC S c i) g])∧G'.get q=some (.rows false 1 [[.bool true]])∧Turns (fun c=>c=b∨c=h∨c=q) G G')
theorem ueach (n:Nat):ret (U lf K (n+6) 52 [.ptr (some ⟨h,0⟩),.func (.func 53) [] [.ptr (some ⟨p,0⟩),.ptr (some ⟨q,0⟩)]] G) (Eached h b q M k N E ID s r S c g B G):=by
 have hS:=hh.hull.len
 have hM:=hp.calm.le
 have hloop:∀ t:T,t.getP (Tr.path 0)=some (.ptr (some ⟨h,0⟩))→t.getP (Tr.path 1)=some (.func (.func 53) [] [.ptr (some ⟨p,0⟩),.ptr (some ⟨q,0⟩)])→t.getP (Tr.path 12)=some (.int .i64 (M:Int))→t.getP (Tr.path 13)=some (.int .i64 0) →
   wp (loopF (runC (U lf K (n+5)) lf c52_l0) lf ⟨t,G,[]⟩) fun x s'=>s'.d=[]∧((x=.ex 0∧Eached h b q M k N E ID s r S c g B G (.int .i64 0) s'.H)∨(x=.ret∧s'.t.getP (Tr.path 4)=some (.int .i64 9)∧Eached h b q M k N E ID s r S c g B G (.int .i64 9) s'.H)):=by
  intro t q0 q1 q12 q13
  refine wp_loopF (fun u s'=>∃ i B',u=M - i∧i≤M∧s'.d=[]∧s'.t.getP (Tr.path 0)=some (.ptr (some ⟨h,0⟩))∧s'.t.getP (Tr.path 1)=some (.func (.func 53) [] [.ptr (some ⟨p,0⟩),.ptr (some ⟨q,0⟩)])∧s'.t.getP (Tr.path 12)=some (.int .i64 (M:Int))∧s'.t.getP (Tr.path 13)=some (.int .i64 (i:Int))∧Round M k N ID s r S c g B B' i∧s'.H.get b=some (bx false B')∧Turns (fun c=>c=b) G s'.H)
   ?_ lf M _ ⟨0,B,rfl,Nat.zero_le _,rfl,q0,q1,q12,q13,⟨by simpa using hp.calm,fun _ _=>rfl,fun j hj=>absurd hj (by omega),fun _ _ _=>rfl,fun _ _=>rfl,fun _ _ _ _=>rfl⟩,hh.bench,Turns.refl _ _⟩ (by omega)
  rintro u ⟨t,G1,d⟩ ⟨i,B',rfl,hi,hd,q0,q1,q12,q13,hR,hb1,ht⟩
  dsimp only at hd q0 q1 q12 q13 hb1 ht
  subst hd
  by_cases hlt:i < M
  ·have hlt':(i:Int) < (M:Int):=by omega
   have w1:IntKind.i64.wrap ((i:Int)+1)=((i+1:Nat):Int):=by rw[wrap_i64 (by omega)];omega
   have hf':Fit B':=hR.calm.fit (by have:=hp.hk;omega)
   have hh1:=hh.step ht hb1 hf'
   have hc1:=hc.step hh.bench ht
   have hst:=hl_st hS (i:=i) (by omega) b (ID:Int) (E:Int) (M:Int) s r c g
   have hle:i+1≤16:=by omega
   have hle2:6+i+1≤24:=by omega
   have own:=hh1.hull.own
   by_cases hl:S.getD i 0=1
   ·rw[hl] at hst
    simp (maxDischargeDepth:=12) only[c52_l0,q0,q1,q12,q13,hlt',own,iaddrAF,hle,hle2,hst,one_cast,w1,Nat.mul_one,hv,ldO_one,stO_one,sy,tup,↓reduceIte,zA,zG,zC,zD,zF,zE,zB,zH,reduceCtorEq]
    exact⟨M - (i+1),by omega,i+1,B',rfl,by omega,trivial,trivial,trivial,trivial,by simp,hR.skip hl,hb1,ht⟩
   ·have hl':((((S.getD i 0:Nat):Int))==1)=false:=by rw[beq_eq_false_iff_ne];intro e;exact hl (by omega)
    cases hdd:dead B i with
    | true=>
     have r9:B'.rc (i:Int) 0=9:=by rw[show (0:Int)=((0:Nat):Int) from rfl,hR.calm.rc hlt (by decide),hR.dd i hlt,hdd];rfl
     obtain⟨v,G2,e2,rfl,h1,h2,h3⟩:=usv_dead hlf hh1 hc1 (i:=i) hlt' hp.fine r9 n (K:=K)
     simp (maxDischargeDepth:=12) only[c52_l0,q0,q1,q12,q13,hlt',own,iaddrAF,hle,hle2,hst,hl',e2,Nat.mul_one,hv,ldO_one,stO_one,sy,tup,↓reduceIte,zA,zG,zC,zD,zF,zE,zB,zH,reduceCtorEq]
     refine⟨trivial,.inr ⟨trivial,trivial,.inr ⟨rfl,B',i,hlt,hl,hdd,hR,?_,h1,h2,?_⟩⟩⟩
     ·rw[h3.same b hh1.old (fun e=>?_),hb1]
      have n1:=hh1.ne
      have n2:=ne_of_get hc1.z hb1 (by intro e;cases e)
      rcases e with e | e
      ·have e':=e.symm;rw[n1] at e';exact e'
      ·have e':=e.symm;rw[n2] at e';exact e'
     ·exact(ht.wide (fun c hc=>.inl hc)).trans (h3.wide (fun c hc=>.inr hc))
    | false=>
     have hdB:dead B' i=false:=(hR.dd i hlt).trans hdd
     obtain⟨v,G2,e2,rfl,h1,h2⟩:=usv_ok hlf hh1 hc1 (M:=M) (N:=E) (ID:=ID) rfl rfl rfl (by have:=hp.hE;have:=hp.hN;omega) hp.hI hp.evt (hp.may hlt) hR.calm (by have:=hp.hk;omega) hlt hdB rfl (hp.small hS g hlt) n (K:=K)
     simp (maxDischargeDepth:=12) only[c52_l0,q0,q1,q12,q13,hlt',own,iaddrAF,hle,hle2,hst,hl',e2,w1,Nat.mul_one,hv,ldO_one,stO_one,sy,tup,↓reduceIte,zA,zG,zC,zD,zF,zE,zB,zH,reduceCtorEq]
     refine⟨M - (i+1),by omega,i+1,_,rfl,by omega,trivial,trivial,trivial,trivial,by simp,?_,h1,ht.trans h2⟩
     have hE:=hp.hE
     have hsm:=hp.small hS g hlt
     subst hE
     exact hR.put hlt hl hdd hsm hp.upto
  ·have:i=M:=by omega
   subst this
   simp (maxDischargeDepth:=12) only[c52_l0,q0,q1,q12,q13,Int.lt_irrefl,hv,ldO_one,stO_one,sy,tup,↓reduceIte,zA,zG,zC,zD,zF,zE,zB,zH,reduceCtorEq]
   exact⟨trivial,.inl ⟨trivial,.inl ⟨rfl,B',hR,hb1,ht⟩⟩⟩
 have l3:=hl_r hh.hull
 have lm:cut (hcells b (ID:Int) (E:Int) (M:Int) s r S c g) 3 1=some [.int .i64 (M:Int)]:=rfl
 have own:=hh.hull.own
 refine ret_callU rfl rfl c52_eq ?_
 simp (maxDischargeDepth:=12) only[c52,own,lm,hv,ldO_one,stO_one,sy,tup,↓reduceIte,zA,zG,zC,zD,zF,zE,zB,zH,reduceCtorEq]
 refine wp_ctx (F:=fun r=>seqC _ _ _ (blockC _ r)) (hloop _ ?_ ?_ ?_ ?_) ?_
 ·simp only[sy,tup,↓reduceIte,zA,zG,zC,zD,zF,zE,zB,zH,reduceCtorEq]
 ·simp only[sy,tup,↓reduceIte,zA,zG,zC,zD,zF,zE,zB,zH,reduceCtorEq]
 ·simp only[sy,tup,↓reduceIte,zA,zG,zC,zD,zF,zE,zB,zH,reduceCtorEq]
 ·simp only[sy,tup,↓reduceIte,zA,zG,zC,zD,zF,zE,zB,zH,reduceCtorEq]
 rintro x ⟨t,G1,d⟩ ⟨rfl,⟨rfl,he⟩ | ⟨rfl,q4,he⟩⟩
 ·dsimp only at he
  simp only[sy,tup,↓reduceIte,zA,zG,zC,zD,zF,zE,zB,zH,reduceCtorEq]
  exact⟨trivial,.inr trivial,_,rfl,he⟩
 ·dsimp only at q4 he
  simp only[q4,sy,tup,↓reduceIte,zA,zG,zC,zD,zF,zE,zB,zH,reduceCtorEq]
  exact⟨trivial,.inr trivial,_,rfl,he⟩
end
end Go.Proofs.YtabebpemfinejaaGreat.draft
namespace Go.Proofs.YtabebpemfinejaaGreat.draft
open Go.Am
open disk (bx Fit A1 R1 Low)
def mu (B:disk.Bn) (S:List Nat):Nat→Nat
 | 0=>0
 | n+1=>mu B S n+if dead B n=true∧S.getD n 0≠1 then 1 else 0
theorem mu_le (B:disk.Bn) (S:List Nat):∀ n,mu B S n≤n
 | 0=>Nat.le_refl _
 | n+1=>by
  have:=mu_le B S n
  unfold mu
  split<;>omega
theorem mu_congr {B B':disk.Bn} {S:List Nat}:∀ {n:Nat},(∀ j,j < n→dead B' j=dead B j)→mu B' S n=mu B S n
 | 0,_=>rfl
 | n+1,h=>by
  unfold mu
  rw[mu_congr (fun j hj=>h j (by omega)),h n (by omega)]
theorem getD_set {S:List Nat} {i:Nat} (hi:i < S.length) (j x:Nat):(S.set i x).getD j 0=if j=i then x else S.getD j 0:=by
 simp only[List.getD]
 by_cases e:j=i
 ·subst e;rw[List.getElem?_set_self hi,if_pos rfl];rfl
 ·rw[List.getElem?_set_ne (Ne.symm e),if_neg e]
theorem mu_set {B:disk.Bn} {S:List Nat} {i:Nat} (hi:i < S.length) (hd:dead B i=true) (hs:S.getD i 0≠1):∀ n,mu B (S.set i 1) n+(if i < n then 1 else 0)=mu B S n
 | 0=>rfl
 | n+1=>by
  have ih:=mu_set hi hd hs n
  unfold mu
  rw[getD_set hi]
  by_cases e:n=i
  ·subst e
   rw[if_neg (Nat.lt_irrefl _)] at ih
   rw[if_pos rfl,if_neg (fun h=>h.2 rfl),if_pos (by omega),if_pos ⟨hd,hs⟩]
   omega
  ·rw[if_neg e]
   generalize (if dead B n=true∧S.getD n 0≠1 then(1:Nat) else 0)=w
   by_cases hlt:i < n
   ·rw[if_pos hlt] at ih
    rw[if_pos (by omega)]
    omega
   ·rw[if_neg hlt] at ih
    rw[if_neg (by omega)]
    omega
structure Ready (M k E ID:Nat) (s r:Int) (S:List Nat) (c:Int) (B:disk.Bn):Prop where
 calm:Calm M k B
 hk:k+32*mu B S M≤800
 hE:E+mu B S M+1≤4611686018427387904
 hI:ID < 18446744073709551616
 I0:ID≠0
 fine:fine (M:Int) s r S c
 upto:∀ j,j < M→∀ t,t < 2→upto E (sect B j t)
theorem Ready.pre {M k E ID:Nat} {s r:Int} {S:List Nat} {c:Int} {B:disk.Bn} (h:Ready M k E ID s r S c B):Pre M k E (E+1) ID s r S c B:=
 ⟨h.calm,by have:=h.hk;omega,rfl,by have:=h.hE;omega,h.hI,h.I0,h.fine,h.upto⟩
structure Saved (M E ID:Nat) (s r:Int) (S:List Nat) (g:Bool) (B:disk.Bn) (E':Nat) (S':List Nat) (c':Int) (B':disk.Bn):Prop where
 calm:∃ k,k≤850∧Calm M k B'
 ev:E < E'∧E'≤E+mu B S M+1
 fine:fine (M:Int) s r S' c'
 len:S'.length=16
 st:∀ j,S'.getD j 0=S.getD j 0∨(S'.getD j 0=1∧j < M∧dead B j=true)
 has:∀ j,j < M→S'.getD j 0≠1→dead B j=false∧hasX B' j (E' - 1) (supBlk E' ID j M s r S' c' g)
 dd:∀ j,j < M→dead B' j=dead B j
 sz:∀ j:Nat,j < M+1→(B'.dev (j:Int)).S.length=(B.dev (j:Int)).S.length
 cnt:∀ j:Nat,j < M→∀ q,2≤q→cont B' j q=cont B j q
structure Mid (M E ID:Nat) (s r:Int) (S:List Nat) (B:disk.Bn) (k1 E1:Nat) (S1:List Nat) (c1:Int) (B1:disk.Bn):Prop where
 ready:Ready M k1 E1 ID s r S1 c1 B1
 ev:E≤E1∧E1+mu B1 S1 M≤E+mu B S M
 len:S1.length=16
 st:∀ j,S1.getD j 0=S.getD j 0∨(S1.getD j 0=1∧j < M∧dead B j=true)
 dd:∀ j,j < M→dead B1 j=dead B j
 sz:∀ j:Nat,j < M+1→(B1.dev (j:Int)).S.length=(B.dev (j:Int)).S.length
 cnt:∀ j:Nat,j < M→∀ q,2≤q→cont B1 j q=cont B j q
theorem sup_num {M k E ID:Nat} {s r:Int} {S:List Nat} {c:Int} {B:disk.Bn} (h:Pre M k E (E+1) ID s r S c B) (hS:S.length=16) (g:Bool) {j:Nat} (hj:j < M):sealN (supBlk (E+1) ID j M s r S c g)=E+1∧getE (supBlk (E+1) ID j M s r S c g)=0:=by
 have:=sup_back h.evt h.hI h.calm.le (h.may hj) hS g rfl
 exact⟨this.2.1,this.1⟩
theorem Mid.lose {M E ID k1 E1:Nat} {s r:Int} {S S1:List Nat} {c1:Int} {B B1 B2:disk.Bn} {g:Bool} (h:Mid M E ID s r S B k1 E1 S1 c1 B1) {i:Nat} (hi:i < M) (hs:S1.getD i 0≠1) (hd:dead B1 i=true) (hR:Round M k1 E1 ID s r S1 c1 g B1 B2 i) :
  Mid M E ID s r S B (k1+2*i) (E1+1) (S1.set i 1) (loseC S1 c1 i) B2:=by
 have hM:=h.ready.calm.le
 have hl:=h.len
 have hmu:=mu_set (B:=B1) (i:=i) (S:=S1) (by omega) hd hs M
 rw[if_pos hi] at hmu
 have hmc:=mu_congr (B:=B1) (B':=B2) (S:=S1.set i 1) hR.dd
 have hev:=h.ev
 have hk:=h.ready.hk
 have hE:=h.ready.hE
 refine⟨⟨hR.calm,by omega,by omega,h.ready.hI,h.ready.I0,lose_fine hl h.ready.fine (by omega),?_⟩,by omega,by simpa using hl,fun j=>?_,fun j hj=>(hR.dd j hj).trans (h.dd j hj),fun j hj=>(hR.len j hj).trans (h.sz j hj),fun j hj q hq=>(hR.cnt j hj q hq).trans (h.cnt j hj q hq)⟩
 ·exact hR.upto h.ready.upto (fun j hj=>(sup_num h.ready.pre hl g hj).1)
 ·rw[getD_set (by omega)]
  by_cases e:j=i
  ·rw[if_pos e]
   exact .inr ⟨rfl,by omega,by rw[e,← h.dd i hi];exact hd⟩
  ·rw[if_neg e];exact h.st j
theorem Mid.done {M E ID k1 E1:Nat} {s r:Int} {S S1:List Nat} {c1:Int} {B B1 B2:disk.Bn} {g:Bool} (h:Mid M E ID s r S B k1 E1 S1 c1 B1) (hR:Round M k1 E1 ID s r S1 c1 g B1 B2 M):Saved M E ID s r S g B (E1+1) S1 c1 B2:=by
 have hev:=h.ev
 have hk:=h.ready.hk
 have hM:=h.ready.calm.le
 refine⟨⟨_,by omega,hR.calm⟩,by omega,h.ready.fine,h.len,h.st,fun j hj hs=>?_,fun j hj=>(hR.dd j hj).trans (h.dd j hj),fun j hj=>(hR.len j hj).trans (h.sz j hj),fun j hj q hq=>(hR.cnt j hj q hq).trans (h.cnt j hj q hq)⟩
 obtain⟨h1,h2⟩:=hR.done j hj hs
 exact⟨by rw[← h.dd j hj];exact h1,h2⟩
theorem Turns.drop {X:Bk→Prop} {q:Bk} {H G G':Heap} (h:Turns X H G) (k:Turns (fun c=>X c∨c=q) G G') (hq:¬ H.Old q):Turns X H G':=
 ⟨Nat.le_trans h.next k.next,fun c hc hx=>(k.same c (hc.mono h.next) (fun e=>by
  rcases e with e | e
  ·exact hx e
  ·exact hq (by rw[← e];exact hc))).trans (h.same c hc hx),fun q=>k.q (h.q q)⟩
theorem Caught.again {G:Heap} {h p q:Bk} {z:Bool} (x:Caught G h p q z) (z':Bool):Caught ((G.add (.rows false 1 [[.bool false]])).set (.run G.next) (.rows false 1 [[.bool z']])) h p (.run G.next) z'∧Turns Z G ((G.add (.rows false 1 [[.bool false]])).set (.run G.next) (.rows false 1 [[.bool z']])):=by
 have t:Turns Z G ((G.add (.rows false 1 [[.bool false]])).set (.run G.next) (.rows false 1 [[.bool z']])):=(Turns.add Z G _).setnew (Nat.le_refl _) _
 exact⟨⟨(t.same p x.op (fun h=>h)).trans x.h,by rw[Heap.get_set,if_pos rfl],x.op.mono t.next,by show _ < _;simp⟩,t⟩
section
variable {lf K:Nat} (hlf:1000 < lf)
include hlf
theorem unone {G:Heap} {h b:Bk} {id ev m s r:Int} {S:List Nat} {c:Int} {g:Bool} {B:disk.Bn} (hh:HB G h b id ev m s r S c g B) (n:Nat):U lf K (n+1) 51 [.ptr (some ⟨h,0⟩)] G=some (.v (.bool false),G):=by
 have l:=hl_b hh.hull
 obtain⟨v,H',e,rfl,rfl⟩:ret (U lf K (n+1) 51 [.ptr (some ⟨h,0⟩)] G) fun v H'=>v=.bool false∧H'=G:=by
  refine ret_callU rfl rfl c51_eq ?_
  simp only[c51,l,sy,tup,↓reduceIte,zA,zG,zC,zD,zF,zE,zB,zH,reduceCtorEq]
  simp
 exact e
theorem usave {G:Heap} {h b:Bk} {M k E ID:Nat} {s r:Int} {S:List Nat} {c:Int} {g:Bool} {B:disk.Bn} (hh:HB G h b (ID:Int) (E:Int) (M:Int) s r S c g B) (hp:Ready M k E ID s r S c B) (hM:1≤M) (hlf2:100 < lf) (n:Nat) :
  ret (U lf K (n+7) 14 [.ptr (some ⟨h,0⟩)] G) fun v G'=>v=.int .i64 0∧∃ E' S' c' B',Saved M E ID s r S g B E' S' c' B'∧HB G' h b (ID:Int) (E':Int) (M:Int) s r S' c' g B'∧Turns (fun c=>c=b∨c=h) G G':=by
 have en:∀ H:Heap,HB H h b (ID:Int) (E:Int) (M:Int) s r S c g B→U lf K (n+6) 51 [.ptr (some ⟨h,0⟩)] H=some (.v (.bool false),H):=fun H x=>unone hlf x (n+5)
 have t1:=Turns.add Z G (.rows false 1 [[.ptr (some ⟨h,0⟩)]])
 have hh1:=hh.turns t1
 have en1:=en _ hh1
 refine ret_callU rfl rfl c14_eq ?_
 simp (maxDischargeDepth:=12) only[c14,en1,hv,ldO_one,stO_one,sy,tup,↓reduceIte,zA,zG,zC,zD,zF,zE,zB,zH,reduceCtorEq]
 have hloop:∀(t:T) (G1:Heap) (nq:Nat),t.getP (Tr.path 1)=some (.ptr (some ⟨.run G.next,0⟩))→t.getP (Tr.path 3)=some (.ptr (some ⟨.run nq,0⟩))→G.next+1≤nq→Caught G1 h (.run G.next) (.run nq) true→HB G1 h b (ID:Int) (E:Int) (M:Int) s r S c g B→Turns (fun c=>c=b∨c=h) G G1 →
   wp (loopF (runC (U lf K (n+6)) lf c14_l0) lf ⟨t,G1,[]⟩) fun x s'=>x=.ex 0∧s'.d=[]∧∃ E' S' c' B',Saved M E ID s r S g B E' S' c' B'∧HB s'.H h b (ID:Int) (E':Int) (M:Int) s r S' c' g B'∧Turns (fun c=>c=b∨c=h) G s'.H:=by
  intro t G1 nq q1 q3 hq hc hh1 ht
  have hmuM:=mu_le B S M
  refine wp_loopF (fun u s'=>s'.d=[]∧s'.t.getP (Tr.path 1)=some (.ptr (some ⟨.run G.next,0⟩))∧∃ nq z,s'.t.getP (Tr.path 3)=some (.ptr (some ⟨.run nq,0⟩))∧G.next+1≤nq∧Caught s'.H h (.run G.next) (.run nq) z∧Turns (fun c=>c=b∨c=h) G s'.H ∧
    ((z=true∧∃ k1 E1 S1 c1 B1,u=mu B1 S1 M+1∧Mid M E ID s r S B k1 E1 S1 c1 B1∧HB s'.H h b (ID:Int) (E1:Int) (M:Int) s r S1 c1 g B1) ∨
     (z=false∧u=0∧∃ E' S' c' B',Saved M E ID s r S g B E' S' c' B'∧HB s'.H h b (ID:Int) (E':Int) (M:Int) s r S' c' g B')))
   ?_ lf (mu B S M+1) _ ⟨rfl,q1,nq,true,q3,hq,hc,ht,.inl ⟨rfl,k,E,S,c,B,rfl,⟨hp,by omega,hh.hull.len,fun j=>.inl rfl,fun _ _=>rfl,fun _ _=>rfl,fun _ _ _ _=>rfl⟩,hh1⟩⟩ (by have:=hp.calm.le;omega)
  rintro u ⟨t,G2,d⟩ ⟨hd,q1,nq,z,q3,hq,hc,ht,⟨rfl,k1,E1,S1,c1,B1,rfl,hM1,hh2⟩ | ⟨rfl,rfl,hsaved⟩⟩
  ·dsimp only at hd q1 q3 hc ht hh2
   subst hd
   have hcz:=hc.z
   have hch:=hc.h
   have own:=hh2.hull.own
   have n1:=ne_of_get hc.h own (by simp)
   have n2:=ne_of_get hc.z own (by simp)
   have n3:=ne_of_get own hc.z (by simp)
   have n4:=ne_of_get own hc.h (by simp)
   have n5:=ne_of_get hc.h hh2.bench (by intro e;cases e)
   have n6:=ne_of_get hc.z hh2.bench (by intro e;cases e)
   have n7:(G.next=nq)=False:=by simp;omega
   have n8:(nq=G.next)=False:=by simp;omega
   obtain⟨E2,hE2⟩:∃ e,e=E1+1:=⟨_,rfl⟩
   have lev:cut (hcells b (ID:Int) (E1:Int) (M:Int) s r S1 c1 g) 2 1=some [.int .u64 (E1:Int)]:=rfl
   have pev:=put_hev (S:=S1) b (ID:Int) (E1:Int) (E2:Int) (M:Int) s r c1 g
   have hlim:=hM1.ready.hE
   have wev:IntKind.u64.wrap ((E1:Int)+1)=(E2:Int):=by
    rw[show (E1:Int)+1=(E2:Int) by omega]
    exact wrap_u64 (by omega)
   have hpre:Pre M k1 E1 E2 ID s r S1 c1 B1:=by rw[hE2];exact hM1.ready.pre
   have gA:∀ x:Bk,((G2.set (.run nq) (.rows false 1 [[.bool false]])).set h (.rows false 24 [hcells b (ID:Int) (E2:Int) (M:Int) s r S1 c1 g])).get x=if x=h then some (.rows false 24 [hcells b (ID:Int) (E2:Int) (M:Int) s r S1 c1 g]) else if x=.run nq then some (.rows false 1 [[.bool false]]) else G2.get x:=fun x=>by rw[Heap.get_set,Heap.get_set]
   have hbA:HB ((G2.set (.run nq) (.rows false 1 [[.bool false]])).set h (.rows false 24 [hcells b (ID:Int) (E2:Int) (M:Int) s r S1 c1 g])) h b (ID:Int) (E2:Int) (M:Int) s r S1 c1 g B1:=by
    refine⟨⟨by rw[gA,if_pos rfl],hM1.len,by simpa using hh2.hull.old⟩,?_,by simpa using hh2.old,hh2.fit⟩
    have m1:=hh2.ne
    rw[gA,if_neg (fun e=>by have e':=e.symm;rw[m1] at e';exact e'),if_neg (fun e=>by have e':=e.symm;rw[n6] at e';exact e')]
    exact hh2.bench
   have hcA:Caught ((G2.set (.run nq) (.rows false 1 [[.bool false]])).set h (.rows false 24 [hcells b (ID:Int) (E2:Int) (M:Int) s r S1 c1 g])) h (.run G.next) (.run nq) false:=by
    refine⟨?_,?_,by simpa using hc.op,by simpa using hc.oq⟩
    ·rw[gA,if_neg (fun e=>by rw[n1] at e;exact e),if_neg (by simp;omega)];exact hc.h
    ·rw[gA,if_neg (fun e=>by rw[n2] at e;exact e),if_pos rfl]
   have tA:Turns (fun c=>c=b∨c=h) G ((G2.set (.run nq) (.rows false 1 [[.bool false]])).set h (.rows false 24 [hcells b (ID:Int) (E2:Int) (M:Int) s r S1 c1 g])):=by
    refine Turns.setr (Turns.setn ht nq (by omega) _) _
   obtain⟨v,G3,e3,he⟩:=ueach hlf hbA hcA hpre n (K:=K)
   rcases he with ⟨rfl,B2,hR,hb3,ht3⟩ | ⟨rfl,B2,i,hi,hs,hdd,hR,hb3,hown3,hz3,ht3⟩
   ·have hf3:Fit B2:=hR.calm.fit (by have:=hM1.ready.hk;have:=hM1.ready.calm.le;omega)
    have hh3:=hbA.step ht3 hb3 hf3
    have hc3:=hcA.step hbA.bench ht3
    simp (maxDischargeDepth:=12) only[c14_l0,mkfnF,q1,q3,hcz,hch,own,n1,n2,n3,n4,n7,n8,lev,pev,wev,e3,hc3.h,hc3.z,hv,ldO_one,stO_one,sy,tup,↓reduceIte,zA,zG,zC,zD,zF,zE,zB,zH,reduceCtorEq]
    obtain⟨ca,ta⟩:=hc3.again false
    refine⟨0,by omega,trivial,trivial,G3.next,false,rfl,?_,ca,?_,.inr ⟨rfl,rfl,E2,S1,c1,B2,?_,hh3.turns ta⟩⟩
    ·have:=tA.next;have:=ht3.next;have:=hc3.op;have h':G.next < G3.next:=this;omega
    ·exact(tA.trans (ht3.wide (fun c hc=>.inl hc))).trans (ta.wide (fun c hc=>hc.elim))
    ·rw[hE2];exact hM1.done hR
   ·have hf3:Fit B2:=hR.calm.fit (by have:=hM1.ready.hk;have:=hM1.ready.calm.le;omega)
    have tq:Turns (fun c=>c=b∨c=h) G G3:=Turns.drop (q:=.run nq) tA (ht3.wide (fun c hc=>by
     rcases hc with hc | hc | hc
     ·exact .inl (.inl hc)
     ·exact .inl (.inr hc)
     ·exact .inr hc)) (Heap.not_old (by omega))
    have hopG:(.run G.next:Bk)≠b∧(.run G.next:Bk)≠h∧(.run G.next:Bk)≠.run nq:=⟨fun e=>by rw[n5] at e;exact e,fun e=>by rw[n1] at e;exact e,by simp;omega⟩
    have hcp:G3.get (.run G.next)=some (.rows false 1 [[.ptr (some ⟨h,0⟩)]]):=(ht3.same _ hcA.op (fun e=>by
     rcases e with e | e | e
     ·exact hopG.1 e
     ·exact hopG.2.1 e
     ·exact hopG.2.2 e)).trans hcA.h
    have hc3:Caught G3 h (.run G.next) (.run nq) true:=⟨hcp,hz3,hcA.op.mono ht3.next,hcA.oq.mono ht3.next⟩
    have hh3:HB G3 h b (ID:Int) (E2:Int) (M:Int) s r (S1.set i 1) (loseC S1 c1 i) g B2:=⟨⟨hown3,by simp[hM1.len],hbA.hull.old.mono ht3.next⟩,hb3,hbA.old.mono ht3.next,hf3⟩
    simp (maxDischargeDepth:=12) only[c14_l0,mkfnF,q1,q3,hcz,hch,own,n1,n2,n3,n4,n7,n8,lev,pev,wev,e3,hc3.h,hc3.z,hv,ldO_one,stO_one,sy,tup,↓reduceIte,zA,zG,zC,zD,zF,zE,zB,zH,reduceCtorEq]
    obtain⟨ca,ta⟩:=hc3.again true
    have hmid:=hM1.lose hi hs hdd hR
    rw[← hE2] at hmid
    have hmu:=mu_set (B:=B1) (i:=i) (S:=S1) (by have:=hM1.len;have:=hM1.ready.calm.le;omega) hdd hs M
    rw[if_pos hi] at hmu
    have hmc:=mu_congr (B:=B1) (B':=B2) (S:=S1.set i 1) hR.dd
    refine⟨mu B2 (S1.set i 1) M+1,by omega,trivial,trivial,G3.next,true,rfl,?_,ca,tq.trans (ta.wide (fun c hc=>hc.elim)),.inl ⟨rfl,_,E2,_,_,B2,rfl,hmid,hh3.turns ta⟩⟩
    have:=hc3.op;have h':G.next < G3.next:=this;omega
  ·dsimp only at hd q1 q3 hc ht hsaved
   subst hd
   have hcz:=hc.z
   simp (maxDischargeDepth:=12) only[c14_l0,q1,q3,hcz,hv,ldO_one,stO_one,sy,tup,↓reduceIte,zA,zG,zC,zD,zF,zE,zB,zH,reduceCtorEq]
   exact⟨trivial,trivial,hsaved.imp fun E' h=>h.imp fun S' h=>h.imp fun c' h=>h.imp fun B' h=>⟨h.1,h.2,ht⟩⟩
 have hcS:Caught (((G.add (.rows false 1 [[.ptr (some ⟨h,0⟩)]])).add (.rows false 1 [[.bool false]])).set (.run (G.next+1)) (.rows false 1 [[.bool true]])) h (.run G.next) (.run (G.next+1)) true:=by
  refine⟨?_,by rw[Heap.get_set,if_pos rfl],by show _ < _;simp;omega,by show _ < _;simp⟩
  rw[Heap.get_set,if_neg (by simp),Heap.get_add,if_neg (by simp),Heap.get_add,if_pos rfl]
 have t2:Turns Z G (((G.add (.rows false 1 [[.ptr (some ⟨h,0⟩)]])).add (.rows false 1 [[.bool false]])).set (.run (G.next+1)) (.rows false 1 [[.bool true]])):=by
  refine Turns.setn ?_ _ (by omega) _
  repeat (first | exact Turns.refl _ _ | apply Turns.skip | apply Turns.addm | apply Turns.setb | apply Turns.setl | apply Turns.setr | refine Turns.setn ?_ _ (by omega) _ | refine Turns.trans ?_ (tF _))
 refine wp_ctx (F:=fun r=>seqC _ _ _ (blockC _ r)) (hloop _ _ (G.next+1) ?_ ?_ (Nat.le_refl _) hcS (hh.turns t2) (t2.wide (fun c hc=>hc.elim))) ?_
 ·simp only[sy,tup,↓reduceIte,zA,zG,zC,zD,zF,zE,zB,zH,reduceCtorEq]
 ·simp only[sy,tup,↓reduceIte,zA,zG,zC,zD,zF,zE,zB,zH,reduceCtorEq]
 rintro x ⟨t,G1,d⟩ ⟨rfl,hd,hs⟩
 dsimp only at hd hs
 subst hd
 simp only[sy,tup,↓reduceIte,zA,zG,zC,zD,zF,zE,zB,zH,reduceCtorEq]
 exact⟨trivial,.inr trivial,_,rfl,rfl,hs⟩
end
end Go.Proofs.YtabebpemfinejaaGreat.draft
namespace Go.Proofs.YtabebpemfinejaaGreat.draft
open Go.Am
noncomputable def c128:CFn:=⟨[.tmp (pp 2)],
 .seq (.reg [
 qo 1 (.m (boxF 21 (tt 0))) [pp 0],
 qo 2 (.p (S.get (ii 0))) []]) (
 .seq (.reg [
 qo 7 (.r (loadF (tt 1) 21 .ag)) [pp 1],
 qo 8 (.c (callF (ff 192) [(tt 7)])) [pp 7],
 mv 6 8,
 qo 9 (.p (extF (tt 6) 0)) [pp 6],
 qo 10 (.p (extF (tt 6) 1)) [pp 6],
 mv 3 9,
 mv 4 10]) (
 .seq (.seq (.reg [
 qo 11 (.r (loadF (tt 1) 21 .ag)) [pp 1],
 qo 12 (.c (callF (ff 193) [(tt 11)])) [pp 11],
 mv 5 12]) (
 .block 0 (.seq (.reg [
 qo 14 (.r (loadF (tt 1) 21 .ag)) [pp 1],
 qo 15 (.c (callF (ff 47) [(tt 14)])) [pp 14],
 qo 16 (.p (unF .not (tt 15))) [pp 15],
 mv 13 16]) (
 .cond (tt 13) (.seq (.reg [
 qo 2 (.p (S.get (ii 0))) []]) (
 .ret)) (.seq (.seq (.reg [
 mv 18 5,
 qo 19 (.p (arF .gtr (tt 18) (ii 1))) [pp 18],
 mv 17 19]) (
 .cond (tt 17) (.skip) (.reg [
 mv 20 5,
 qo 21 (.p (eqcF false false [.int .i64] (tt 20) (ii 1))) [pp 20],
 mv 22 21,
 qg 23 (.p (faddrF (tt 1) 20)) 22 true [pp 1],
 qg 24 (.r (loadF (tt 23) 1 .sc)) 22 true [pp 23],
 qo 25 (.p (pickF (tt 22) (tt 24) (.c (.bool false)))) [pp 22,pp 24],
 mv 17 25]))) (
 .cond (tt 17) (.seq (.reg [
 qo 2 (.p (S.get (ii 5))) []]) (
 .ret)) (.seq (.reg [
 qo 27 (.p (faddrF (tt 1) 20)) [pp 1],
 qo 28 (.r (loadF (tt 27) 1 .sc)) [pp 27],
 mv 26 28]) (
 .cond (tt 26) (.seq (.reg [
 qo 2 (.p (S.get (ii 4))) []]) (
 .ret)) (.seq (.reg [
 mv 30 4,
 mv 29 30]) (
 .cond (tt 29) (.seq (.reg [
 qo 2 (.p (S.get (ii 3))) []]) (
 .ret)) (.seq (.reg [
 mv 32 5,
 qo 33 (.p (eqcF false false [.int .i64] (tt 32) (ii 1))) [pp 32],
 mv 31 33]) (
 .cond (tt 31) (.seq (.reg [
 qo 2 (.p (S.get (ii 2))) []]) (
 .ret)) (.skip))))))))))))) (
 .seq (.reg [
 qo 2 (.p (S.get (ii 1))) []]) (
 .ret))))⟩
theorem c128_eq:fnOf Tryz.prog 128=some c128:=by kernel_rfl
noncomputable def c192_l0:C:=.seq (.reg [
 qo 12 (.p (arF .lss (tt 11) (ii 16))) [pp 11]]) (
 .seq (.cond (tt 12) (.skip) (.exit 0)) (
 .seq (.block 1 (.seq (.reg [
 mv 13 11,
 qo 14 (.p (idxAF (tt 10) (tt 11) 16 1 .sc)) [pp 10,pp 11],
 mv 4 13,
 mv 5 14]) (
 .seq (.reg [
 mv 15 5,
 qo 16 (.p (eqcF false false [.int .u8] (tt 15) (.c (.int .u8 2)))) [pp 15]]) (
 .cond (tt 16) (.seq (.reg [
 mv 17 4,
 mv 2 17,
 qo 3 (.p (S.get (.c (.bool true)))) []]) (
 .ret)) (.skip))))) (
 .reg [
 qo 18 (.p (arF .add (tt 11) (ii 1))) [pp 11],
 mv 11 18])))
noncomputable def c192:CFn:=⟨[.tmp (pp 2),.tmp (pp 3)],
 .seq (.reg [
 qo 1 (.m (boxF 21 (tt 0))) [pp 0],
 qo 2 (.p (S.get (ii 0))) [],
 qo 3 (.p (S.get (.c (.bool false)))) []]) (
 .seq (.seq (.reg [
 qo 6 (.r (loadF (tt 1) 21 .ag)) [pp 1],
 qo 7 (.c (callF (ff 47) [(tt 6)])) [pp 6],
 qo 8 (.p (unF .not (tt 7))) [pp 7]]) (
 .cond (tt 8) (.seq (.reg [
 qo 2 (.p (S.get (ii 0))) [],
 qo 3 (.p (S.get (.c (.bool false)))) []]) (
 .ret)) (.skip))) (
 .seq (.seq (.reg [
 qo 9 (.p (faddrF (tt 1) 3)) [pp 1],
 qo 10 (.r (loadF (tt 9) 16 .ag)) [pp 9],
 qo 11 (.p (S.get (ii 0))) []]) (
 .block 0 (.loop c192_l0))) (
 .seq (.reg [
 qo 2 (.p (S.get (ii 0))) [],
 qo 3 (.p (S.get (.c (.bool false)))) []]) (
 .ret))))⟩
theorem c192_eq:fnOf Tryz.prog 192=some c192:=by kernel_rfl
noncomputable def c193:CFn:=⟨[.tmp (pp 2)],
 .seq (.reg [
 qo 1 (.m (boxF 21 (tt 0))) [pp 0],
 qo 2 (.p (S.get (ii 0))) []]) (
 .seq (.seq (.reg [
 qo 3 (.r (loadF (tt 1) 21 .ag)) [pp 1],
 qo 4 (.c (callF (ff 47) [(tt 3)])) [pp 3],
 qo 5 (.p (unF .not (tt 4))) [pp 4]]) (
 .cond (tt 5) (.seq (.reg [
 qo 2 (.p (S.get (ii 0))) []]) (
 .ret)) (.skip))) (
 .seq (.reg [
 qo 6 (.r (loadF (tt 1) 21 .ag)) [pp 1],
 qo 7 (.c (callF (ff 110) [(tt 6),(.c (.int .u8 0))])) [pp 6],
 qo 8 (.p (arF .sub (ii 16) (tt 7))) [pp 7],
 mv 2 8]) (
 .ret)))⟩
theorem c193_eq:fnOf Tryz.prog 193=some c193:=by kernel_rfl
def heals (S:List Nat):Bool:=decide (0 < cnt S 2)
def stateOf (S:List Nat) (g:Bool):Int:=if cnt S 0 < 15∨(cnt S 0=15∧g=true) then 5 else if g=true then 4 else if heals S=true then 3 else if cnt S 0=15 then 2 else 1
section
variable {m s r c:Int} {g:Bool} {S:List Nat} (hS:S.length=16) (hf:fine m s r S c)
include hS hf
theorem missing_ok (H:Heap) (lf n:Nat) (hlf:17 < lf):ret (callS Tryz.prog S0 lf (n+4) 193 [ros m s r S c g] H) fun v H'=>v=.int .i64 (16 - (cnt S 0:Int))∧Turns Z H H':=by
 have t1:=Turns.add Z H (.rows false 21 [rcells m s r S c g])
 have hg:(H.add (.rows false 21 [rcells m s r S c g])).get (.run H.next)=some (.rows false 21 [rcells m s r S c g]):=by rw[Heap.get_add,if_pos rfl]
 have og:(H.add (.rows false 21 [rcells m s r S c g])).Old (.run H.next):=by show _ < _;simp
 have hr:∀ {H':Heap},Turns Z (H.add (.rows false 21 [rcells m s r S c g])) H'→RosAt H' (.run H.next) m s r S c g:=fun t=>⟨(t.same _ og (fun h=>h)).trans hg,hS⟩
 have hw:=r_width hS m s r c g
 generalize hH1:H.add (.rows false 21 [rcells m s r S c g])=H1 at *
 have a1:=ros_all (hr (Turns.refl Z H1))
 obtain⟨v,H2,e2,⟨z,rfl,hz⟩,t2⟩:=pmay_ok H1 (m:=m) (s:=s) (r:=r) (c:=c) (g:=g) hS lf n hlf
 obtain rfl:z=true:=hz.2 hf
 unfold ros at e2
 have a2:=ros_all (hr t2)
 obtain⟨v,H3,e3,rfl,t3⟩:=count_ok H2 (m:=m) (s:=s) (r:=r) (c:=c) (g:=g) hS 0 lf (n+2) hlf
 unfold ros at e3
 have e3:callS Tryz.prog S0 lf (n+3) 110 [.agg (rcells m s r S c g),.int .u8 0] H2=some (.v (.int .i64 (cnt S 0:Int)),H3):=e3
 have hn:=cnt_le S 0
 have w1:IntKind.i64.wrap (16 - (cnt S 0:Int))=16 - (cnt S 0:Int):=wrap_i64 (by omega)
 refine ret_call rfl c193_eq ?_
 simp only[c193,ros,hw,hH1,a1,e2,a2,e3,w1,sy,tup,↓reduceIte,zA,zG,zC,zD,zF,zE,zB,zH,reduceCtorEq]
 exact⟨trivial,.inr trivial,_,rfl,rfl,(t1.trans t2).trans t3⟩
theorem heals_ok (H:Heap) (lf n:Nat) (hlf:17 < lf):ret (callS Tryz.prog S0 lf (n+4) 192 [ros m s r S c g] H) fun v H'=>(∃ z,v=.tuple [.int .i64 z,.bool (heals S)])∧Turns Z H H':=by
 have t1:=Turns.add Z H (.rows false 21 [rcells m s r S c g])
 have hg:(H.add (.rows false 21 [rcells m s r S c g])).get (.run H.next)=some (.rows false 21 [rcells m s r S c g]):=by rw[Heap.get_add,if_pos rfl]
 have og:(H.add (.rows false 21 [rcells m s r S c g])).Old (.run H.next):=by show _ < _;simp
 have hr:∀ {H':Heap},Turns Z (H.add (.rows false 21 [rcells m s r S c g])) H'→RosAt H' (.run H.next) m s r S c g:=fun t=>⟨(t.same _ og (fun h=>h)).trans hg,hS⟩
 have hw:=r_width hS m s r c g
 generalize hH1:H.add (.rows false 21 [rcells m s r S c g])=H1 at *
 have a1:=ros_all (hr (Turns.refl Z H1))
 obtain⟨v,H2,e2,⟨z,rfl,hz⟩,t2⟩:=pmay_ok H1 (m:=m) (s:=s) (r:=r) (c:=c) (g:=g) hS lf n hlf
 obtain rfl:z=true:=hz.2 hf
 unfold ros at e2
 have a2:=ros_sts (hr t2)
 refine ret_call rfl c192_eq ?_
 simp only[c192,ros,hw,hH1,a1,e2,a2,sy,tup,↓reduceIte,zA,zG,zC,zD,zF,zE,zB,zH,reduceCtorEq]
 have hloop:∀ t:T,t.getP (Tr.path 10)=some (.agg (sts S))→t.getP (Tr.path 11)=some (.int .i64 0) →
   wp (loopF (runC (callS Tryz.prog S0 lf (n+3)) lf c192_l0) lf ⟨t,H2,[]⟩) fun x' s'=>s'.d=[]∧s'.H=H2∧((x'=.ex 0∧heals S=false)∨(x'=.ret∧heals S=true∧(∃ z,s'.t.getP (Tr.path 2)=some (.int .i64 z))∧s'.t.getP (Tr.path 3)=some (.bool true))):=by
  intro t q10 q11
  refine wp_loopF (fun j s'=>∃ i:Nat,j=16 - i∧i≤16∧s'.d=[]∧s'.H=H2∧cnt (S.take i) 2=0∧s'.t.getP (Tr.path 10)=some (.agg (sts S))∧s'.t.getP (Tr.path 11)=some (.int .i64 (i:Int))) ?_ lf 16 _ ⟨0,rfl,by omega,rfl,rfl,rfl,q10,q11⟩ (by omega)
  rintro j ⟨t,HH,d⟩ ⟨i,rfl,hi,hd,hH,hz,q10,q11⟩
  dsimp only at hd hH q10 q11
  subst hd;subst hH
  by_cases hlt:i < 16
  ·have hlt':(i:Int) < 16:=by omega
   have hle':i+1≤16:=hlt
   have hiS:i < S.length:=by omega
   have hc:=sts_cut hiS
   have w1:IntKind.i64.wrap ((i:Int)+1)=((i+1:Nat):Int):=by rw[wrap_i64 (by omega)];omega
   have hk:=cnt_take (x:=2) hiS
   by_cases e:S[i]=2
   ·have hb:(((S[i]:Nat):Int)==2)=true:=by simp[e]
    have hh:heals S=true:=by
     unfold heals cnt
     refine decide_eq_true (List.length_pos_iff.mpr (fun he=>?_))
     have:=List.filter_eq_nil_iff.1 he S[i] (List.getElem_mem hiS)
     simp[e] at this
    simp only[c192_l0,q10,q11,hlt',hle',hc,hb,sy,tup,↓reduceIte,zA,zG,zC,zD,zF,zE,zB,zH,reduceCtorEq]
    exact⟨trivial,trivial,.inr ⟨trivial,hh,⟨_,rfl⟩,trivial⟩⟩
   ·rw[if_neg e,Nat.add_zero,hz] at hk
    have hb:(((S[i]:Nat):Int)==2)=false:=by simp;omega
    simp only[c192_l0,q10,q11,hlt',hle',hc,hb,w1,sy,tup,↓reduceIte,zA,zG,zC,zD,zF,zE,zB,zH,reduceCtorEq]
    exact⟨16 - (i+1),by omega,i+1,rfl,by omega,trivial,trivial,hk,by simp[q10],by simp⟩
  ·have:i=16:=by omega
   subst this
   have hnl:decide (((16:Nat):Int) < 16)=false:=rfl
   rw[List.take_of_length_le (by omega)] at hz
   simp only[c192_l0,q10,q11,hnl,sy,tup,↓reduceIte,zA,zG,zC,zD,zF,zE,zB,zH,reduceCtorEq]
   exact⟨trivial,trivial,.inl ⟨trivial,by unfold heals;rw[hz];rfl⟩⟩
 refine wp_ctx (F:=fun r=>seqC _ _ _ (blockC _ r)) (hloop _ ?_ ?_) ?_
 ·simp only[sy,tup,↓reduceIte,zA,zG,zC,zD,zF,zE,zB,zH,reduceCtorEq]
 ·simp only[sy,tup,↓reduceIte,zA,zG,zC,zD,zF,zE,zB,zH,reduceCtorEq]
 rintro x' ⟨t,HH,d⟩ ⟨hd,hH,⟨rfl,hh⟩ | ⟨rfl,hh,⟨z,q2⟩,q3⟩⟩
 ·dsimp only at hd hH
  subst hd;subst hH
  simp only[sy,tup,↓reduceIte,zA,zG,zC,zD,zF,zE,zB,zH,reduceCtorEq]
  exact⟨trivial,.inr trivial,_,rfl,⟨0,by rw[hh]⟩,t1.trans t2⟩
 ·dsimp only at hd hH q2 q3
  subst hd;subst hH
  simp only[q2,q3,sy,tup,↓reduceIte,zA,zG,zC,zD,zF,zE,zB,zH,reduceCtorEq]
  exact⟨trivial,.inr trivial,_,rfl,⟨z,by rw[hh]⟩,t1.trans t2⟩
theorem state_ok (H:Heap) (lf n:Nat) (hlf:17 < lf):ret (callS Tryz.prog S0 lf (n+5) 128 [ros m s r S c g] H) fun v H'=>v=.int .i64 (stateOf S g)∧Turns Z H H':=by
 have t1:=Turns.add Z H (.rows false 21 [rcells m s r S c g])
 have hg:(H.add (.rows false 21 [rcells m s r S c g])).get (.run H.next)=some (.rows false 21 [rcells m s r S c g]):=by rw[Heap.get_add,if_pos rfl]
 have og:(H.add (.rows false 21 [rcells m s r S c g])).Old (.run H.next):=by show _ < _;simp
 have hr:∀ {H':Heap},Turns Z (H.add (.rows false 21 [rcells m s r S c g])) H'→RosAt H' (.run H.next) m s r S c g:=fun t=>⟨(t.same _ og (fun h=>h)).trans hg,hS⟩
 have hw:=r_width hS m s r c g
 generalize hH1:H.add (.rows false 21 [rcells m s r S c g])=H1 at *
 have a1:=ros_all (hr (Turns.refl Z H1))
 obtain⟨v,H2,e2,⟨z2,rfl⟩,t2⟩:=heals_ok hS hf (g:=g) H1 lf n hlf
 unfold ros at e2
 have a2:=ros_all (hr t2)
 obtain⟨v,H3,e3,rfl,t3⟩:=missing_ok hS hf (g:=g) H2 lf n hlf
 unfold ros at e3
 have a3:=ros_all (hr (t2.trans t3))
 obtain⟨v,H4,e4,⟨z,rfl,hz⟩,t4⟩:=pmay_ok H3 (m:=m) (s:=s) (r:=r) (c:=c) (g:=g) hS lf (n+1) hlf
 obtain rfl:z=true:=hz.2 hf
 unfold ros at e4
 have lg:=ros_g (hr ((t2.trans t3).trans t4))
 have tt:=((t1.trans t2).trans t3).trans t4
 have hn:=cnt_le S 0
 refine ret_call rfl c128_eq ?_
 unfold stateOf
 generalize heals S=hh at *
 by_cases h1:cnt S 0 < 15
 ·have h1':(1:Int) < 16 - (cnt S 0:Int):=by omega
  simp only[c128,ros,hw,hH1,a1,a2,a3,e2,e3,e4,h1',sy,tup,↓reduceIte,zA,zG,zC,zD,zF,zE,zB,zH,reduceCtorEq]
  exact⟨trivial,.inr trivial,_,rfl,by simp[h1],tt⟩
 ·have h1':¬ (1:Int) < 16 - (cnt S 0:Int):=by omega
  by_cases h15:cnt S 0=15
  ·have hb:((16 - (cnt S 0:Int))==1)=true:=by rw[h15];rfl
   cases g<;>cases hh<;>(simp only[c128,ros,hw,hH1,a1,a2,a3,e2,e3,e4,h1',hb,lg,sy,tup,↓reduceIte,zA,zG,zC,zD,zF,zE,zB,zH,reduceCtorEq];exact⟨trivial,.inr trivial,_,rfl,by simp[h15],tt⟩)
  ·have hb:((16 - (cnt S 0:Int))==1)=false:=by simp;omega
   cases g<;>cases hh<;>(simp only[c128,ros,hw,hH1,a1,a2,a3,e2,e3,e4,h1',hb,lg,sy,tup,↓reduceIte,zA,zG,zC,zD,zF,zE,zB,zH,reduceCtorEq];exact⟨trivial,.inr trivial,_,rfl,by simp[h1,h15],tt⟩)
end
end Go.Proofs.YtabebpemfinejaaGreat.draft
namespace Go.Proofs.YtabebpemfinejaaGreat.draft
open Go.Am
section
variable {m s r c:Int} {g:Bool} {S:List Nat} (hS:S.length=16) (hf:fine m s r S c)
include hS hf
end
end Go.Proofs.YtabebpemfinejaaGreat.draft
namespace Go.Proofs.YtabebpemfinejaaGreat.draft
open Go.Am
open disk (bx Fit A1 R1 Low)
noncomputable def c11:CFn:=⟨[.cell (pp 2) 21 .ag,.tmp (pp 3)],
 .seq (.reg [
 qo 1 (.m (boxF 3 (tt 0))) [pp 0],
 qo 2 (.m (allocF 21 [.int .i64 0,.int .i64 0,.int .i64 0,.int .u8 0,.int .u8 0,.int .u8 0,.int .u8 0,.int .u8 0,.int .u8 0,.int .u8 0,.int .u8 0,.int .u8 0,.int .u8 0,.int .u8 0,.int .u8 0,.int .u8 0,.int .u8 0,.int .u8 0,.int .u8 0,.int .i64 0,.bool false])) [],
 qo 3 (.p (S.get (ii 0))) []]) (
 .seq (.reg [
 qo 5 (.r (loadF (tt 1) 3 .ag)) [pp 1],
 qo 6 (.p (buildF [.int .i64 0,.int .i64 0,.int .i64 0,.int .u8 0,.int .u8 0,.int .u8 0,.int .u8 0,.int .u8 0,.int .u8 0,.int .u8 0,.int .u8 0,.int .u8 0,.int .u8 0,.int .u8 0,.int .u8 0,.int .u8 0,.int .u8 0,.int .u8 0,.int .u8 0,.int .i64 0,.bool false] .ag [(0,3,(tt 5))])) [pp 5],
 qo 4 (.m (allocF 21 [.int .i64 0,.int .i64 0,.int .i64 0,.int .u8 0,.int .u8 0,.int .u8 0,.int .u8 0,.int .u8 0,.int .u8 0,.int .u8 0,.int .u8 0,.int .u8 0,.int .u8 0,.int .u8 0,.int .u8 0,.int .u8 0,.int .u8 0,.int .u8 0,.int .u8 0,.int .i64 0,.bool false])) [],
 qn (.a (storeF (tt 4) (tt 6) 21)) [pp 4,pp 6]]) (
 .seq (.seq (.reg [
 qo 7 (.r (loadF (tt 4) 21 .ag)) [pp 4],
 qo 8 (.c (callF (ff 45) [(tt 7)])) [pp 7],
 qo 9 (.p (unF .not (tt 8))) [pp 8]]) (
 .cond (tt 9) (.seq (.reg [
 qo 10 (.p (buildF [.int .i64 0,.int .i64 0,.int .i64 0,.int .u8 0,.int .u8 0,.int .u8 0,.int .u8 0,.int .u8 0,.int .u8 0,.int .u8 0,.int .u8 0,.int .u8 0,.int .u8 0,.int .u8 0,.int .u8 0,.int .u8 0,.int .u8 0,.int .u8 0,.int .u8 0,.int .i64 0,.bool false] .ag [])) [],
 qn (.a (storeF (tt 2) (tt 10) 21)) [pp 2,pp 10],
 qo 3 (.p (S.get (ii 2))) []]) (
 .ret)) (.skip))) (
 .seq (.reg [
 qo 11 (.r (loadF (tt 4) 21 .ag)) [pp 4],
 qn (.a (storeF (tt 2) (tt 11) 21)) [pp 2,pp 11],
 qo 3 (.p (S.get (ii 0))) []]) (
 .ret))))⟩
theorem c11_eq:fnOf Tryz.prog 11=some c11:=by kernel_rfl
theorem put_zg (m s r:Int):Go.Am.put zros 0 [.int .i64 m,.int .i64 s,.int .i64 r]=some (rcells m s r (List.replicate 16 0) 0 false):=rfl
section
variable {lf K:Nat} (hlf:1000 < lf)
include hlf
theorem ufine {m s r c:Int} {g:Bool} {S:List Nat} (hS:S.length=16) (hf:fine m s r S c) (H:Heap) (n:Nat):U lf K (n+1) 45 [ros m s r S c g] H=some (.v (.bool true),H.skip (K+2)):=qp_ashlarref08_Fine (fun H=>by
 obtain⟨v,H',e,⟨z,rfl,hz⟩,t⟩:=fine_ok H (m:=m) (s:=s) (r:=r) (c:=c) (g:=g) hS lf 58 (by omega)
 exact⟨_,H',e,by rw[hz.2 hf],t⟩)
theorem umay {m s r c:Int} {g:Bool} {S:List Nat} (hS:S.length=16) (hf:fine m s r S c) (H:Heap) (n:Nat):U lf K (n+1) 47 [ros m s r S c g] H=some (.v (.bool true),H.skip (K+2)):=qp_roster_May (fun H=>by
 obtain⟨v,H',e,⟨z,rfl,hz⟩,t⟩:=pmay_ok H (m:=m) (s:=s) (r:=r) (c:=c) (g:=g) hS lf 57 (by omega)
 exact⟨_,H',e,by rw[hz.2 hf],t⟩)
theorem unew10 {m s r:Int} (hf:fine m s r (List.replicate 16 0) 0) (G:Heap) (n:Nat):ret (U lf K (n+2) 11 [geo m s r] G) fun v G'=>v=.tuple [ros m s r (List.replicate 16 0) 0 false,.int .i64 0]∧Turns Z G G':=by
 have e:∀ H:Heap,U lf K (n+1) 45 _ H=_:=fun H=>ufine hlf (g:=false) (by simp) hf H n
 have hz:=put_zg m s r
 have hw:=r_width (S:=List.replicate 16 0) (by simp) m s r 0 false
 have hp:Go.Am.put zros 0 (rcells m s r (List.replicate 16 0) 0 false)=some (rcells m s r (List.replicate 16 0) 0 false):=put_r (by simp)
 have hc:cut (rcells m s r (List.replicate 16 0) 0 false) 0 21=some (rcells m s r (List.replicate 16 0) 0 false):=by
  rw[cut_thin (r_thin _ _ _ _ _ _) (by rw[r_len (by simp)];exact Nat.le_refl _)]
  rw[List.drop_zero,List.take_of_length_le (by rw[r_len (by simp)];exact Nat.le_refl _)]
 have hg:cut [V.int .i64 m,V.int .i64 s,V.int .i64 r] 0 3=some [V.int .i64 m,V.int .i64 s,V.int .i64 r]:=rfl
 unfold zros at hz hp
 unfold ros at e ⊢
 unfold geo
 refine ret_callU rfl rfl c11_eq ?_
 simp (maxDischargeDepth:=12) only[c11,e,hz,hw,hp,hc,hg,hv,ldO_one,stO_one,sy,tup,↓reduceIte,zA,zG,zC,zD,zF,zE,zB,zH,reduceCtorEq]
 refine⟨trivial,.inr trivial,_,rfl,rfl,?_⟩
 repeat (first | exact Turns.refl _ _ | apply Turns.skip | apply Turns.addm | apply Turns.setb | apply Turns.setl | apply Turns.setr | refine Turns.setn ?_ _ (by omega) _ | refine Turns.trans ?_ (tF _))
theorem uhnew {G:Heap} {b:Bk} {B:disk.Bn} (hb:G.get b=some (bx false B)) (hf:Fit B) (bo:G.Old b) {id ev m s r c:Int} {g:Bool} {S:List Nat} (hS:S.length=16) (hid0:id≠0) (hev:ev≤2305843009213693952) (hfn:fine m s r S c) (hm:(B.l.length:Int)=m+1)
  (hsec:∀ d,0≤d∧d < m→s+2≤B.sectors d) (n:Nat):ret (U lf K (n+3) 12 [.ptr (some ⟨b,0⟩),.int .u64 id,.int .u64 ev,ros m s r S c g] G) fun v G'=>∃ h,v=.tuple [.ptr (some ⟨h,0⟩),.int .i64 0]∧HB G' h b id ev m s r S c g B∧¬ G.Old h∧Turns Z G G':=by
 have e1:∀ H:Heap,H.get b=some (bx false B)→U lf K (n+2) 46 [.ptr (some ⟨b,0⟩)] H=_:=fun H h=>qDevices h hf
 have e2:∀(H:Heap) (d:Int),H.get b=some (bx false B)→U lf K (n+2) 48 [.ptr (some ⟨b,0⟩),.int .i64 d] H=_:=fun H d h=>qSectors h hf d
 have e3:∀ H:Heap,U lf K (n+2) 47 _ H=_:=fun H=>umay hlf (g:=g) hS hfn H (n+1)
 rw[hm] at e1
 have hw:=r_width hS m s r c g
 have hw24:=h_width hS b id ev m s r c g
 have pf:=put_h (b:=b) (id:=id) (ev:=ev) (m:=m) (s:=s) (r:=r) (c:=c) (g:=g) hS
 have lc0:cut (rcells m s r S c g) 0 1=some [.int .i64 m]:=rfl
 have lc1:cut (rcells m s r S c g) 1 1=some [.int .i64 s]:=rfl
 have hc:cut (rcells m s r S c g) 0 21=some (rcells m s r S c g):=by
  rw[cut_thin (r_thin _ _ _ _ _ _) (by rw[r_len hS];exact Nat.le_refl _)]
  rw[List.drop_zero,List.take_of_length_le (by rw[r_len hS];exact Nat.le_refl _)]
 obtain⟨bm,bs,br⟩:=may_t hfn.1
 have b0:(m+1==0)=false:=by simp;omega
 have b1:(id==0)=false:=by simp[hid0]
 have b2:¬ (2305843009213693952 < ev):=by omega
 have wm:IntKind.i64.wrap (m+1)=m+1:=wrap_i64 (by omega)
 have ws:IntKind.i64.wrap (2+s)=2+s:=wrap_i64 (by omega)
 have hloop:∀(t:T) (G1:Heap),t.getP (Tr.path 0)=some (.ptr (some ⟨b,0⟩))→t.getP (Tr.path 1)=some (.int .u64 id)→t.getP (Tr.path 2)=some (.int .u64 ev)→t.getP (Tr.path 7)=some (.ptr (some ⟨.run G.next,0⟩))→t.getP (Tr.path 36)=some (.int .i64 m)→t.getP (Tr.path 37)=some (.int .i64 0)→G1.get (.run G.next)=some (.rows false 21 [rcells m s r S c g])→G.next < G1.next→Turns Z G G1 →
   wp (loopF (runC (U lf K (n+2)) lf c12_l0) lf ⟨t,G1,[]⟩) fun x s'=>x=.ex 0∧s'.d=[]∧s'.t.getP (Tr.path 0)=some (.ptr (some ⟨b,0⟩))∧s'.t.getP (Tr.path 1)=some (.int .u64 id)∧s'.t.getP (Tr.path 2)=some (.int .u64 ev)∧s'.t.getP (Tr.path 7)=some (.ptr (some ⟨.run G.next,0⟩))∧s'.H.get (.run G.next)=some (.rows false 21 [rcells m s r S c g])∧Turns Z G s'.H:=by
  intro t G1 q0 q1 q2 q7 q36 q37 hg hn ht
  refine wp_loopF (fun j s'=>∃ i:Nat,(j:Int)=m - i∧(i:Int)≤m∧s'.d=[]∧s'.t.getP (Tr.path 0)=some (.ptr (some ⟨b,0⟩))∧s'.t.getP (Tr.path 1)=some (.int .u64 id)∧s'.t.getP (Tr.path 2)=some (.int .u64 ev)∧s'.t.getP (Tr.path 7)=some (.ptr (some ⟨.run G.next,0⟩))∧s'.t.getP (Tr.path 36)=some (.int .i64 m)∧s'.t.getP (Tr.path 37)=some (.int .i64 (i:Int))∧s'.H.get (.run G.next)=some (.rows false 21 [rcells m s r S c g])∧G.next < s'.H.next∧Turns Z G s'.H)
   ?_ lf m.toNat _ ⟨0,by omega,by omega,rfl,q0,q1,q2,q7,q36,q37,hg,hn,ht⟩ (by omega)
  rintro j ⟨t,G2,dd⟩ ⟨i,hj,hi,hd,q0,q1,q2,q7,q36,q37,hg,hn,ht⟩
  dsimp only at hd q0 q1 q2 q7 q36 q37 hg hn ht
  subst hd
  have hB:G2.get b=some (bx false B):=(ht.same b bo (fun h=>h)).trans hb
  by_cases hlt:(i:Int) < m
  ·have w1:IntKind.i64.wrap ((i:Int)+1)=((i+1:Nat):Int):=by rw[wrap_i64 (by omega)];omega
   have hs2:=hsec (i:Int) ⟨by omega,hlt⟩
   have b3:¬ (B.sectors (i:Int) < 2+s):=by omega
   obtain⟨Q,hQ⟩:∃ Q:List (Option V × Option V),Q=[(loadF (.t (Tr.path 44)) 1 .sc (Tr.setP (Tr.path 44) (.ptr (some ⟨.run G.next,1⟩)) .e) G2,some (.int .i64 s)),(loadF (.t (Tr.path 44)) 1 .sc (Tr.setP (Tr.path 44) (.ptr (some ⟨.run G.next,1⟩)) .e) (G2.skip (K+2)),some (.int .i64 s))]:=⟨_,rfl⟩
   have hQ':∀ x ∈ Q,x.1=x.2:=by
    rw[hQ]
    intro x hx
    simp only[List.mem_cons,List.not_mem_nil,or_false] at hx
    rcases hx with rfl | rfl<;>simp (maxDischargeDepth:=12) only[hg,lc1,hv,ldO_one,stO_one,sy,tup,↓reduceIte,zA,zG,zC,zD,zF,zE,zB,zH,reduceCtorEq]
   simp (maxDischargeDepth:=12) only[c12_l0,q0,q1,q2,q7,q36,q37,hlt,e2,hB,hg,lc1,ws,b3,hv,ldO_one,stO_one,sy,tup,↓reduceIte,zA,zG,zC,zD,zF,zE,zB,zH,reduceCtorEq]
   rw[endD_q (q:=Q) (by kernel_rfl) (by rw[hQ];kernel_rfl)]
   simp (maxDischargeDepth:=12) only[q0,q1,q2,q7,q36,q37,w1,hv,ldO_one,stO_one,sy,tup,↓reduceIte,zA,zG,zC,zD,zF,zE,zB,zH,reduceCtorEq]
   refine⟨j - 1,by omega,i+1,by omega,by omega,trivial,trivial,trivial,trivial,trivial,trivial,by simp,hg,?_,(ht.skip _).owe hQ'⟩
   omega
  ·simp (maxDischargeDepth:=12) only[c12_l0,q0,q1,q2,q7,q36,q37,hlt,hv,ldO_one,stO_one,sy,tup,↓reduceIte,zA,zG,zC,zD,zF,zE,zB,zH,reduceCtorEq]
   exact⟨trivial,trivial,trivial,trivial,trivial,trivial,hg,ht⟩
 refine ret_callU rfl rfl c12_eq ?_
 unfold ros at e3 ⊢
 simp (maxDischargeDepth:=12) only[c12,e1,e3,hb,bo.ne,b0,b1,b2,wm,hw,lc0,hc,beq_self_eq_true,hv,ldO_one,stO_one,sy,tup,↓reduceIte,zA,zG,zC,zD,zF,zE,zB,zH,reduceCtorEq]
 obtain⟨Q,hQ⟩:∃ Q:List (Option V × Option V),Q=[(loadF (.t (Tr.path 29)) 1 .sc (Tr.setP (Tr.path 29) (.ptr (some ⟨.run G.next,0⟩)) .e) (((G.add (.rows false 21 [rcells m s r S c g])).skip (K+2)).skip (K+2)),some (.int .i64 m)),(loadF (.t (Tr.path 29)) 1 .sc (Tr.setP (Tr.path 29) (.ptr (some ⟨.run G.next,0⟩)) .e) ((((G.add (.rows false 21 [rcells m s r S c g])).skip (K+2)).skip (K+2)).skip (K+2)),some (.int .i64 m))]:=⟨_,rfl⟩
 rw[endD_q (q:=Q) (by kernel_rfl) (by rw[hQ];kernel_rfl)]
 have hQ':∀ x ∈ Q,x.1=x.2:=by
  rw[hQ]
  intro x hx
  simp only[List.mem_cons,List.not_mem_nil,or_false] at hx
  rcases hx with rfl | rfl<;>simp (maxDischargeDepth:=12) only[lc0,hv,ldO_one,stO_one,sy,tup,↓reduceIte,zA,zG,zC,zD,zF,zE,zB,zH,reduceCtorEq]
 simp (maxDischargeDepth:=12) only[lc0,hv,ldO_one,stO_one,sy,tup,↓reduceIte,zA,zG,zC,zD,zF,zE,zB,zH,reduceCtorEq]
 refine wp_ctx (F:=fun r=>seqC _ _ _ (blockC _ r)) (hloop _ _ ?_ ?_ ?_ ?_ ?_ ?_ ?_ ?_ ?_) ?_
 ·simp only[sy,tup,↓reduceIte,zA,zG,zC,zD,zF,zE,zB,zH,reduceCtorEq]
 ·simp only[sy,tup,↓reduceIte,zA,zG,zC,zD,zF,zE,zB,zH,reduceCtorEq]
 ·simp only[sy,tup,↓reduceIte,zA,zG,zC,zD,zF,zE,zB,zH,reduceCtorEq]
 ·simp only[sy,tup,↓reduceIte,zA,zG,zC,zD,zF,zE,zB,zH,reduceCtorEq]
 ·simp only[sy,tup,↓reduceIte,zA,zG,zC,zD,zF,zE,zB,zH,reduceCtorEq]
 ·simp only[sy,tup,↓reduceIte,zA,zG,zC,zD,zF,zE,zB,zH,reduceCtorEq]
 ·simp (maxDischargeDepth:=12) only[hv,ldO_one,stO_one,sy,tup,↓reduceIte,zA,zG,zC,zD,zF,zE,zB,zH,reduceCtorEq]
 ·show G.next < G.next+1+(K+2)+(K+2)+(K+2);omega
 ·refine Turns.owe ?_ hQ'
  repeat (first | exact Turns.refl _ _ | apply Turns.skip | apply Turns.addm | apply Turns.setb | apply Turns.setl | apply Turns.setr | refine Turns.setn ?_ _ (by omega) _ | refine Turns.trans ?_ (tF _))
 rintro x ⟨t,G2,d⟩ ⟨rfl,hd,q0,q1,q2,q7,hg,ht⟩
 dsimp only at hd q0 q1 q2 q7 hg ht
 subst hd
 simp (maxDischargeDepth:=12) only[q0,q1,q2,q7,hg,hc,hw,pf,hw24,hv,ldO_one,stO_one,sy,tup,↓reduceIte,zA,zG,zC,zD,zF,zE,zB,zH,reduceCtorEq]
 refine⟨trivial,.inr trivial,_,rfl,.run G2.next,rfl,⟨⟨by rw[Heap.get_add,if_pos rfl],hS,by show _ < _;simp⟩,?_,(bo.mono ht.next).mono (by simp),hf⟩,Heap.not_old ht.next,ht.addm _⟩
 rw[Heap.get_add,if_neg (fun e=>by have:=(bo.mono ht.next).ne G2.next (Nat.le_refl _);rw[this] at e;exact e)]
 exact(ht.same b bo (fun h=>h)).trans hb
theorem uhroster {G:Heap} {h b:Bk} {id ev m s r:Int} {S:List Nat} {c:Int} {g:Bool} {B:disk.Bn} (hh:HB G h b id ev m s r S c g B) (n:Nat):ret (U lf K (n+2) 16 [.ptr (some ⟨h,0⟩)] G) fun v G'=>v=ros m s r S c g∧Turns Z G G':=by
 have hS:=hh.hull.len
 have own:=hh.hull.own
 have ho:=hh.hull.old
 have lr:cut (hcells b id ev m s r S c g) 3 21=some (rcells m s r S c g):=by
  have:=hl_r hh.hull
  rw[ld_get,own,ldO_one (by omega)] at this
  exact this
 have hw:=r_width hS m s r c g
 have hp:=put_r (m:=m) (s:=s) (r:=r) (c:=c) (g:=g) hS
 have hc:cut (rcells m s r S c g) 0 21=some (rcells m s r S c g):=by
  rw[cut_thin (r_thin _ _ _ _ _ _) (by rw[r_len hS];exact Nat.le_refl _)]
  rw[List.drop_zero,List.take_of_length_le (by rw[r_len hS];exact Nat.le_refl _)]
 have e1:=unone hlf (hh.turns (Turns.add Z G (.rows false 21 [zros]))) n (K:=K)
 unfold zros at hp e1
 refine ret_callU rfl rfl c16_eq ?_
 unfold ros
 simp (maxDischargeDepth:=12) only[c16,e1,own,ho.ne,lr,hw,hp,hc,hv,ldO_one,stO_one,sy,tup,↓reduceIte,zA,zG,zC,zD,zF,zE,zB,zH,reduceCtorEq]
 refine⟨trivial,.inr trivial,_,rfl,rfl,?_⟩
 repeat (first | exact Turns.refl _ _ | apply Turns.skip | apply Turns.addm | apply Turns.setb | apply Turns.setl | apply Turns.setr | refine Turns.setn ?_ _ (by omega) _ | refine Turns.trans ?_ (tF _))
end
end Go.Proofs.YtabebpemfinejaaGreat.draft
namespace Go.Proofs.YtabebpemfinejaaGreat.draft
open Go.Am
noncomputable def c135:CFn:=⟨[.tmp (pp 6)],
 .seq (.reg [
 qo 3 (.m (boxF 21 (tt 0))) [pp 0],
 qo 6 (.p (S.get (.c (.bool false)))) []]) (
 .seq (.seq (.reg [
 qo 7 (.r (loadF (tt 3) 21 .ag)) [pp 3],
 mv 8 1,
 qo 9 (.c (callF (ff 117) [(tt 7),(tt 8)])) [pp 7,pp 8],
 qo 10 (.p (unF .not (tt 9))) [pp 9],
 mv 11 10,
 mg 12 2 11 false,
 qg 13 (.p (arF .lss (tt 12) (ii 0))) 11 false [pp 12],
 qo 14 (.p (pickF (tt 11) (.c (.bool true)) (tt 13))) [pp 11,pp 13],
 mv 15 14,
 mg 16 2 15 false,
 qg 17 (.p (faddrF (tt 3) 0)) 15 false [pp 3],
 qg 18 (.p (faddrF (tt 17) 1)) 15 false [pp 17],
 qg 19 (.r (loadF (tt 18) 1 .sc)) 15 false [pp 18],
 qg 20 (.p (arF .geq (tt 16) (tt 19))) 15 false [pp 16,pp 19],
 qo 21 (.p (pickF (tt 15) (.c (.bool true)) (tt 20))) [pp 15,pp 20]]) (
 .cond (tt 21) (.seq (.reg [
 qo 6 (.p (S.get (.c (.bool false)))) []]) (
 .ret)) (.skip))) (
 .seq (.seq (.reg [
 mv 22 1,
 qo 23 (.p (faddrF (tt 3) 3)) [pp 3],
 qo 24 (.p (iaddrAF (tt 23) (tt 22) 16 1)) [pp 23,pp 22],
 qo 25 (.r (loadF (tt 24) 1 .sc)) [pp 24]]) (
 .block 0 (.seq (.reg [
 qo 27 (.p (eqcF false false [.int .u8] (tt 25) (.c (.int .u8 0)))) [pp 25],
 mv 26 27]) (
 .cond (tt 26) (.seq (.reg [
 qo 6 (.p (S.get (.c (.bool true)))) []]) (
 .ret)) (.seq (.reg [
 qo 29 (.p (eqcF false false [.int .u8] (tt 25) (.c (.int .u8 2)))) [pp 25],
 mv 28 29]) (
 .cond (tt 28) (.seq (.reg [
 mv 30 2,
 qo 31 (.p (faddrF (tt 3) 19)) [pp 3],
 qo 32 (.r (loadF (tt 31) 1 .sc)) [pp 31],
 qo 33 (.p (arF .lss (tt 30) (tt 32))) [pp 30,pp 32],
 mv 6 33]) (
 .ret)) (.skip))))))) (
 .seq (.reg [
 qo 6 (.p (S.get (.c (.bool false)))) []]) (
 .ret))))⟩
theorem c135_eq:fnOf Tryz.prog 135=some c135:=by kernel_rfl
noncomputable def c194:CFn:=⟨[.tmp (pp 2),.tmp (pp 3)],
 .seq (.reg [
 qo 2 (.p (S.get (ii 0))) [],
 qo 3 (.p (S.get (ii 0))) []]) (
 .seq (.seq (.reg [
 mv 4 0,
 qo 5 (.c (callF (ff 154) [(tt 4),(ii 0),(ii 63)])) [pp 4],
 qo 6 (.p (unF .not (tt 5))) [pp 5]]) (
 .cond (tt 6) (.seq (.reg [
 qo 2 (.p (S.get (ii 0))) [],
 qo 3 (.p (S.get (ii 12))) []]) (
 .ret)) (.skip))) (
 .seq (.reg [
 mv 7 0,
 qo 8 (.p (arF .add (ii 2) (tt 7))) [pp 7],
 mv 2 8,
 qo 3 (.p (S.get (ii 0))) []]) (
 .ret)))⟩
theorem c194_eq:fnOf Tryz.prog 194=some c194:=by kernel_rfl
def hasN (S:List Nat) (c:Int) (i:Nat) (st:Int):Bool:=if S.getD i 0=0 then true else if S.getD i 0=2 then decide (st < c) else false
theorem has_ok (H:Heap) {m s r c:Int} {g:Bool} {S:List Nat} (hS:S.length=16) (hf:fine m s r S c) {i:Nat} (hi:(i:Int) < m) {st:Int} (h0:0≤st∧st < s) (lf n:Nat) (hlf:17 < lf):ret (callS Tryz.prog S0 lf (n+5) 135 [ros m s r S c g,.int .i64 (i:Int),.int .i64 st] H) fun v H'=>v=.bool (hasN S c i st)∧Turns Z H H':=by
 obtain⟨bm,bs,br⟩:=may_t hf.1
 have hi16:i < 16:=by omega
 have hle:i+1≤16:=by omega
 have t1:=Turns.add Z H (.rows false 21 [rcells m s r S c g])
 have hg:(H.add (.rows false 21 [rcells m s r S c g])).get (.run H.next)=some (.rows false 21 [rcells m s r S c g]):=by rw[Heap.get_add,if_pos rfl]
 have og:(H.add (.rows false 21 [rcells m s r S c g])).Old (.run H.next):=by show _ < _;simp
 have hr:∀ {H':Heap},Turns Z (H.add (.rows false 21 [rcells m s r S c g])) H'→RosAt H' (.run H.next) m s r S c g:=fun t=>⟨(t.same _ og (fun h=>h)).trans hg,hS⟩
 have hw:=r_width hS m s r c g
 have la:=ros_all (hr (Turns.refl Z _))
 generalize hH1:H.add (.rows false 21 [rcells m s r S c g])=H1 at *
 obtain⟨v,H2,e2,rfl,t2⟩:=member_ok H1 (m:=m) (s:=s) (r:=r) (c:=c) (g:=g) hS hf hi lf n hlf
 unfold ros at e2
 have ls:=ros_s (hr t2)
 have lc:=ros_c (hr t2)
 have lt:=ros_st (hr t2) hi16
 rw[Nat.mul_one,show S[i]'(by omega)=S.getD i 0 by simp[List.getD,show i < S.length by omega]] at lt
 have g1:¬ st < 0:=by omega
 have g2:¬ s≤st:=by omega
 refine ret_call rfl c135_eq ?_
 by_cases h00:S.getD i 0=0
 ·have hv':hasN S c i st=true:=if_pos h00
  have b0:(((S.getD i 0:Nat):Int)==0)=true:=by rw[h00];rfl
  rw[hv']
  simp only[c135,ros,hw,hH1,la,e2,ls,lt,b0,g1,g2,hle,iaddrAF,Nat.mul_one,sy,tup,↓reduceIte,zA,zG,zC,zD,zF,zE,zB,zH,reduceCtorEq]
  exact⟨trivial,.inr trivial,_,rfl,rfl,t1.trans t2⟩
 ·have b0:(((S.getD i 0:Nat):Int)==0)=false:=by rw[beq_eq_false_iff_ne];omega
  by_cases h2:S.getD i 0=2
  ·have hv':hasN S c i st=decide (st < c):=by unfold hasN;rw[if_neg h00,if_pos h2]
   have b2:(((S.getD i 0:Nat):Int)==2)=true:=by rw[h2];rfl
   rw[hv']
   simp only[c135,ros,hw,hH1,la,e2,ls,lc,lt,b0,b2,g1,g2,hle,iaddrAF,Nat.mul_one,sy,tup,↓reduceIte,zA,zG,zC,zD,zF,zE,zB,zH,reduceCtorEq]
   exact⟨trivial,.inr trivial,_,rfl,rfl,t1.trans t2⟩
  ·have hv':hasN S c i st=false:=by unfold hasN;rw[if_neg h00,if_neg h2]
   have b2:(((S.getD i 0:Nat):Int)==2)=false:=by rw[beq_eq_false_iff_ne];omega
   rw[hv']
   simp only[c135,ros,hw,hH1,la,e2,ls,lt,b0,b2,g1,g2,hle,iaddrAF,Nat.mul_one,sy,tup,↓reduceIte,zA,zG,zC,zD,zF,zE,zB,zH,reduceCtorEq]
   exact⟨trivial,.inr trivial,_,rfl,rfl,t1.trans t2⟩
theorem sectn_ok (H:Heap) {st:Int} (h:0≤st∧st≤63) (lf n:Nat):ret (callS Tryz.prog S0 lf (n+2) 194 [.int .i64 st] H) fun v H'=>v=.tuple [.int .i64 (2+st),.int .i64 0]∧Turns Z H H':=by
 have e:=within_ok H st 0 63 lf n
 rw[show inn st 0 63=true by unfold inn;simp;omega] at e
 have w:IntKind.i64.wrap (2+st)=2+st:=Go.Am.wrap_i64 (by omega)
 refine ret_call rfl c194_eq ?_
 simp only[c194,e,w,sy,tup,↓reduceIte,zA,zG,zC,zD,zF,zE,zB,zH,reduceCtorEq]
 exact⟨trivial,.inr trivial,_,rfl,rfl,Turns.refl Z H⟩
end Go.Proofs.YtabebpemfinejaaGreat.draft
namespace Go.Proofs.YtabebpemfinejaaGreat.draft
open Go.Am
open disk (bx Fit A1 R1 Low)
noncomputable def c133:CFn:=⟨[.tmp (pp 4),.tmp (pp 5)],
 .seq (.reg [
 qo 3 (.m (boxF 2 (tt 1))) [pp 1],
 qo 4 (.p (S.get (ii 0))) [],
 qo 5 (.p (S.get (.c (.bool false)))) []]) (
 .seq (.seq (.regD [
 qo 6 (.p (faddrF (tt 3) 0)) [pp 3],
 qo 7 (.r (loadF (tt 6) 1 .sc)) [pp 6],
 qo 8 (.p (arF .lss (tt 7) (ii 0))) [pp 7],
 mv 9 8,
 qg 10 (.p (faddrF (tt 3) 0)) 9 false [pp 3],
 qg 11 (.r (loadF (tt 10) 1 .sc)) 9 false [pp 10],
 mg 12 0 9 false,
 qg 13 (.p (nilcF (tt 12))) 9 false [pp 12],
 qg 14 (.p (faddrF (tt 13) 3)) 9 false [pp 13],
 qg 15 (.p (faddrF (tt 14) 0)) 9 false [pp 14],
 qg 16 (.p (faddrF (tt 15) 1)) 9 false [pp 15],
 qg 17 (.r (loadF (tt 16) 1 .sc)) 9 false [pp 16],
 qg 18 (.p (arF .geq (tt 11) (tt 17))) 9 false [pp 11,pp 17],
 qo 19 (.p (pickF (tt 9) (.c (.bool true)) (tt 18))) [pp 9,pp 18],
 mv 20 19,
 qg 21 (.p (faddrF (tt 3) 1)) 20 false [pp 3],
 qg 22 (.r (loadF (tt 21) 1 .sc)) 20 false [pp 21],
 qg 23 (.p (arF .lss (tt 22) (ii 0))) 20 false [pp 22],
 qo 24 (.p (pickF (tt 20) (.c (.bool true)) (tt 23))) [pp 20,pp 23],
 mv 25 24,
 qg 26 (.p (faddrF (tt 3) 1)) 25 false [pp 3],
 qg 27 (.r (loadF (tt 26) 1 .sc)) 25 false [pp 26],
 mg 28 0 25 false,
 qg 29 (.p (nilcF (tt 28))) 25 false [pp 28],
 qg 30 (.p (faddrF (tt 29) 3)) 25 false [pp 29],
 qg 31 (.p (faddrF (tt 30) 0)) 25 false [pp 30],
 qg 32 (.p (faddrF (tt 31) 0)) 25 false [pp 31],
 qg 33 (.r (loadF (tt 32) 1 .sc)) 25 false [pp 32],
 qg 34 (.p (arF .geq (tt 27) (tt 33))) 25 false [pp 27,pp 33],
 qo 35 (.p (pickF (tt 25) (.c (.bool true)) (tt 34))) [pp 25,pp 34]] [0,1,3,7,15,31,15,79,207,463,975,1999,4095,8191,16383,32767,65535,131071,262143,524287,1048575,2097151,1048575,5242879,13631487,30408703,63963135,131071999,268435455,536870911]) (
 .cond (tt 35) (.seq (.reg [
 qo 4 (.p (S.get (ii 0))) [],
 qo 5 (.p (S.get (.c (.bool false)))) []]) (
 .ret)) (.skip))) (
 .seq (.reg [
 qo 37 (.p (faddrF (tt 3) 0)) [pp 3],
 qo 38 (.r (loadF (tt 37) 1 .sc)) [pp 37],
 qo 39 (.c (callF (ff 194) [(tt 38)])) [pp 38],
 mv 36 39,
 qo 40 (.p (extF (tt 36) 0)) [pp 36],
 qo 41 (.p (extF (tt 36) 1)) [pp 36],
 mv 4 40]) (
 .seq (.reg [
 mv 42 4,
 mv 4 42,
 qo 5 (.p (S.get (.c (.bool true)))) []]) (
 .ret))))⟩
theorem c133_eq:fnOf Tryz.prog 133=some c133:=by kernel_rfl
noncomputable def c134:CFn:=⟨[.tmp (pp 2)],
 .seq (.reg [
 qo 2 (.p (S.get (ii 0))) []]) (
 .seq (.seq (.reg [
 mv 3 0,
 qo 4 (.p (nilcF (tt 3))) [pp 3],
 qo 5 (.p (faddrF (tt 4) 3)) [pp 4],
 qo 6 (.r (loadF (tt 5) 21 .ag)) [pp 5],
 qo 7 (.c (callF (ff 128) [(tt 6)])) [pp 6],
 qo 8 (.p (eqcF false false [.int .i64] (tt 7) (ii 5))) [pp 7]]) (
 .cond (tt 8) (.seq (.reg [
 qo 2 (.p (S.get (ii 16))) []]) (
 .ret)) (.skip))) (
 .seq (.reg [
 qo 2 (.p (S.get (ii 0))) []]) (
 .ret)))⟩
theorem c134_eq:fnOf Tryz.prog 134=some c134:=by kernel_rfl
noncomputable def c65:CFn:=⟨[.tmp (pp 4),.tmp (pp 5)],
 .seq (.reg [
 qo 3 (.m (boxF 2 (tt 1))) [pp 1],
 qo 4 (.p (S.get (ii 0))) [],
 qo 5 (.p (S.get (ii 0))) []]) (
 .seq (.seq (.reg [
 mv 9 0,
 qo 10 (.c (callF (ff 51) [(tt 9)])) [pp 9]]) (
 .cond (tt 10) (.seq (.reg [
 qo 4 (.p (S.get (ii 0))) [],
 qo 5 (.p (S.get (ii 1))) []]) (
 .ret)) (.skip))) (
 .seq (.reg [
 mv 12 0,
 qo 13 (.r (loadF (tt 3) 2 .ag)) [pp 3],
 qo 14 (.c (callF (ff 133) [(tt 12),(tt 13)])) [pp 12,pp 13],
 mv 11 14,
 qo 15 (.p (extF (tt 11) 0)) [pp 11],
 qo 16 (.p (extF (tt 11) 1)) [pp 11],
 mv 6 15,
 mv 7 16]) (
 .seq (.seq (.reg [
 mv 17 7,
 qo 18 (.p (unF .not (tt 17))) [pp 17]]) (
 .cond (tt 18) (.seq (.reg [
 qo 4 (.p (S.get (ii 0))) [],
 qo 5 (.p (S.get (ii 2))) []]) (
 .ret)) (.skip))) (
 .seq (.seq (.reg [
 mv 19 0,
 qo 20 (.c (callF (ff 134) [(tt 19)])) [pp 19],
 mv 8 20]) (
 .seq (.reg [
 mv 21 8,
 qo 22 (.p (eqcF true false [.int .i64] (tt 21) (ii 0))) [pp 21]]) (
 .cond (tt 22) (.seq (.reg [
 mv 23 8,
 qo 4 (.p (S.get (ii 0))) [],
 mv 5 23]) (
 .ret)) (.skip)))) (
 .seq (.seq (.regD [
 mv 24 0,
 qo 25 (.p (nilcF (tt 24))) [pp 24],
 qo 26 (.p (faddrF (tt 25) 3)) [pp 25],
 qo 27 (.r (loadF (tt 26) 21 .ag)) [pp 26],
 qo 28 (.p (faddrF (tt 3) 1)) [pp 3],
 qo 29 (.r (loadF (tt 28) 1 .sc)) [pp 28],
 qo 30 (.p (faddrF (tt 3) 0)) [pp 3],
 qo 31 (.r (loadF (tt 30) 1 .sc)) [pp 30],
 qo 32 (.c (callF (ff 135) [(tt 27),(tt 29),(tt 31)])) [pp 27,pp 29,pp 31],
 qo 33 (.p (unF .not (tt 32))) [pp 32]] [0,1,3,7,0,16,0,64,255,511]) (
 .cond (tt 33) (.seq (.reg [
 qo 4 (.p (S.get (ii 0))) [],
 qo 5 (.p (S.get (ii 7))) []]) (
 .ret)) (.skip))) (
 .seq (.reg [
 mv 34 6,
 mv 4 34,
 qo 5 (.p (S.get (ii 0))) []]) (
 .ret)))))))⟩
theorem c65_eq:fnOf Tryz.prog 65=some c65:=by kernel_rfl
noncomputable def c136:CFn:=⟨[.tmp (pp 4)],
 .seq (.reg [
 qo 4 (.p (S.get (ii 0))) []]) (
 .seq (.reg [
 mv 6 0,
 mv 7 0,
 qo 8 (.p (nilcF (tt 7))) [pp 7],
 qo 9 (.p (faddrF (tt 8) 3)) [pp 8],
 qo 10 (.r (loadF (tt 9) 21 .ag)) [pp 9],
 mv 11 1,
 qo 12 (.c (callF (ff 55) [(tt 10),(tt 11)])) [pp 10,pp 11],
 mv 5 12,
 qo 13 (.p (extF (tt 5) 0)) [pp 5],
 qo 14 (.p (extF (tt 5) 1)) [pp 5],
 qo 15 (.p (nilcF (tt 6))) [pp 6],
 qo 16 (.p (faddrF (tt 15) 3)) [pp 15],
 qn (.a (storeF (tt 16) (tt 13) 21)) [pp 16,pp 13]]) (
 .seq (.reg [
 mv 17 0,
 qo 18 (.c (callF (ff 14) [(tt 17)])) [pp 17],
 mv 4 18]) (
 .ret)))⟩
theorem c136_eq:fnOf Tryz.prog 136=some c136:=by kernel_rfl
noncomputable def c66:CFn:=⟨[.tmp (pp 8)],
 .seq (.reg [
 qo 8 (.p (S.get (ii 0))) []]) (
 .seq (.reg [
 mv 11 2]) (
 .block 0 (.seq (.reg [
 qo 14 (.p (eqcF false false [.int .i64] (tt 11) (ii 9))) [pp 11],
 mv 13 14]) (
 .cond (tt 13) (.seq (.seq (.reg [
 mv 15 0,
 mv 16 1,
 qo 17 (.c (callF (ff 136) [(tt 15),(tt 16)])) [pp 15,pp 16],
 mv 9 17]) (
 .seq (.reg [
 mv 18 9,
 qo 19 (.p (eqcF true false [.int .i64] (tt 18) (ii 0))) [pp 18]]) (
 .cond (tt 19) (.seq (.reg [
 mv 20 9,
 mv 8 20]) (
 .ret)) (.skip)))) (
 .seq (.seq (.reg [
 mv 21 0,
 qo 22 (.c (callF (ff 134) [(tt 21)])) [pp 21],
 mv 10 22]) (
 .seq (.reg [
 mv 23 10,
 qo 24 (.p (eqcF true false [.int .i64] (tt 23) (ii 0))) [pp 23]]) (
 .cond (tt 24) (.seq (.reg [
 mv 25 10,
 mv 8 25]) (
 .ret)) (.skip)))) (
 .seq (.reg [
 mv 26 3,
 mv 8 26]) (
 .ret)))) (.seq (.reg [
 mv 12 2,
 mv 8 12]) (
 .ret))))))⟩
theorem c66_eq:fnOf Tryz.prog 66=some c66:=by kernel_rfl
noncomputable def c60:CFn:=⟨[.cell (pp 4) 64 .bk,.tmp (pp 5)],
 .seq (.reg [
 qo 3 (.m (boxF 2 (tt 1))) [pp 1],
 qo 4 (.m (allocF 64 [.blk 0])) [],
 qo 5 (.p (S.get (ii 0))) []]) (
 .seq (.reg [
 mv 10 0,
 qo 11 (.r (loadF (tt 3) 2 .ag)) [pp 3],
 qo 12 (.c (callF (ff 65) [(tt 10),(tt 11)])) [pp 10,pp 11],
 mv 9 12,
 qo 13 (.p (extF (tt 9) 0)) [pp 9],
 qo 14 (.p (extF (tt 9) 1)) [pp 9],
 mv 6 13,
 mv 7 14]) (
 .seq (.seq (.reg [
 mv 15 7,
 qo 16 (.p (eqcF true false [.int .i64] (tt 15) (ii 0))) [pp 15]]) (
 .cond (tt 16) (.seq (.reg [
 qo 17 (.p (buildF [.blk 0] .bk [])) [],
 mv 18 7,
 qn (.a (storeF (tt 4) (tt 17) 64)) [pp 4,pp 17],
 mv 5 18]) (
 .ret)) (.skip))) (
 .seq (.regD [
 mv 20 0,
 qo 21 (.p (nilcF (tt 20))) [pp 20],
 qo 22 (.p (faddrF (tt 21) 0)) [pp 21],
 qo 23 (.r (loadF (tt 22) 1 .sc)) [pp 22],
 qo 24 (.p (faddrF (tt 3) 1)) [pp 3],
 qo 25 (.r (loadF (tt 24) 1 .sc)) [pp 24],
 mv 26 6,
 qo 27 (.c (callF (ff 127) [(tt 23),(tt 25),(tt 26)])) [pp 23,pp 25,pp 26],
 mv 19 27,
 qo 28 (.p (extF (tt 19) 0)) [pp 19],
 qo 29 (.p (extF (tt 19) 1)) [pp 19],
 qo 8 (.m (allocF 64 [.blk 0])) [],
 qn (.a (storeF (tt 8) (tt 28) 64)) [pp 8,pp 28],
 mv 7 29] [0,1,3,7,0,16,0,127,255,511,511,0,3071,8191]) (
 .seq (.seq (.reg [
 mv 30 0,
 qo 31 (.p (faddrF (tt 3) 1)) [pp 3],
 qo 32 (.r (loadF (tt 31) 1 .sc)) [pp 31],
 mv 33 7,
 qo 34 (.c (callF (ff 66) [(tt 30),(tt 32),(tt 33),(ii 7)])) [pp 30,pp 32,pp 33],
 mv 7 34]) (
 .seq (.reg [
 mv 35 7,
 qo 36 (.p (eqcF true false [.int .i64] (tt 35) (ii 0))) [pp 35]]) (
 .cond (tt 36) (.seq (.reg [
 qo 37 (.p (buildF [.blk 0] .bk [])) [],
 mv 38 7,
 qn (.a (storeF (tt 4) (tt 37) 64)) [pp 4,pp 37],
 mv 5 38]) (
 .ret)) (.skip)))) (
 .seq (.reg [
 qo 39 (.r (loadF (tt 8) 64 .bk)) [pp 8],
 qn (.a (storeF (tt 4) (tt 39) 64)) [pp 4,pp 39],
 qo 5 (.p (S.get (ii 0))) []]) (
 .ret))))))⟩
theorem c60_eq:fnOf Tryz.prog 60=some c60:=by kernel_rfl
noncomputable def c23:CFn:=⟨[.tmp (pp 6)],
 .seq (.reg [
 qo 4 (.m (boxF 2 (tt 1))) [pp 1],
 qo 5 (.m (boxF 64 (tt 2))) [pp 2],
 qo 6 (.p (S.get (ii 0))) []]) (
 .seq (.reg [
 mv 10 0,
 qo 11 (.r (loadF (tt 4) 2 .ag)) [pp 4],
 qo 12 (.c (callF (ff 65) [(tt 10),(tt 11)])) [pp 10,pp 11],
 mv 9 12,
 qo 13 (.p (extF (tt 9) 0)) [pp 9],
 qo 14 (.p (extF (tt 9) 1)) [pp 9],
 mv 7 13,
 mv 8 14]) (
 .seq (.seq (.reg [
 mv 15 8]) (
 .block 0 (.seq (.reg [
 qo 17 (.p (eqcF false false [.int .i64] (tt 15) (ii 7))) [pp 15],
 mv 16 17]) (
 .cond (tt 16) (.seq (.reg [
 qo 6 (.p (S.get (ii 0))) []]) (
 .ret)) (.seq (.reg [
 qo 19 (.p (eqcF false false [.int .i64] (tt 15) (ii 0))) [pp 15],
 mv 18 19]) (
 .cond (tt 18) (.seq (.regD [
 mv 20 0,
 qo 21 (.p (faddrF (tt 4) 1)) [pp 4],
 qo 22 (.r (loadF (tt 21) 1 .sc)) [pp 21],
 mv 23 0,
 qo 24 (.p (nilcF (tt 23))) [pp 23],
 qo 25 (.p (faddrF (tt 24) 0)) [pp 24],
 qo 26 (.r (loadF (tt 25) 1 .sc)) [pp 25],
 qo 27 (.p (faddrF (tt 4) 1)) [pp 4],
 qo 28 (.r (loadF (tt 27) 1 .sc)) [pp 27],
 mv 29 7,
 qo 30 (.r (loadF (tt 5) 64 .bk)) [pp 5],
 qo 31 (.c (callF (ff 67) [(tt 26),(tt 28),(tt 29),(tt 30)])) [pp 26,pp 28,pp 29,pp 30],
 qo 32 (.c (callF (ff 66) [(tt 20),(tt 22),(tt 31),(ii 0)])) [pp 20,pp 22,pp 31],
 mv 6 32] [0,0,2,0,8,24,56,0,128,0,0,2040,4095,8191]) (
 .ret)) (.skip))))))) (
 .seq (.reg [
 mv 33 8,
 mv 6 33]) (
 .ret))))⟩
theorem c23_eq:fnOf Tryz.prog 23=some c23:=by kernel_rfl
theorem hl_rc {S:List Nat} (hS:S.length=16) (b:Bk) (id ev m s r c:Int) (g:Bool):cut (hcells b id ev m s r S c g) 3 21=some (rcells m s r S c g):=by
 rw[cut_thin (h_thin b id ev m s r S c g) (by unfold hcells;rw[List.length_append,r_len hS];exact Nat.le_refl _)]
 show some (List.take 21 (rcells m s r S c g))=_
 rw[List.take_of_length_le (by rw[r_len hS];exact Nat.le_refl _)]
def failE (S:List Nat) (g:Bool):Int:=if stateOf S g=5 then 16 else 0
def plc (st m:Int):V:=.agg [.int .i64 st,.int .i64 m]
section
variable {lf K:Nat} (hlf:1000 < lf)
include hlf
variable {G:Heap} {h b:Bk} {id ev m s r:Int} {S:List Nat} {c:Int} {g:Bool} {B:disk.Bn} (hh:HB G h b id ev m s r S c g B)
include hh
theorem uhid (n:Nat):U lf K (n+2) 68 [.ptr (some ⟨h,0⟩)] G=some (.v (.int .u64 id),G):=by
 have l:=hl_id hh.hull
 have e1:=unone hlf hh n (K:=K)
 obtain⟨v,H',e,rfl,rfl⟩:ret (U lf K (n+2) 68 [.ptr (some ⟨h,0⟩)] G) fun v H'=>v=.int .u64 id∧H'=G:=by
  refine ret_callU rfl rfl c68_eq ?_
  simp only[c68,e1,l,sy,tup,↓reduceIte,zA,zG,zC,zD,zF,zE,zB,zH,reduceCtorEq]
  simp
 exact e
theorem uhfailed (hf:fine m s r S c) (n:Nat):ret (U lf K (n+2) 134 [.ptr (some ⟨h,0⟩)] G) fun v G'=>v=.int .i64 (failE S g)∧Turns Z G G':=by
 have hS:=hh.hull.len
 have own:=hh.hull.own
 have lr:=hl_rc hS b id ev m s r c g
 have eS:∀ H:Heap,U lf K (n+1) 128 [ros m s r S c g] H=some (.v (.int .i64 (stateOf S g)),H.skip (K+2)):=fun H=>qp_roster_State (fun H=>by
  obtain⟨v,H',e,rfl,t⟩:=state_ok hS hf (g:=g) H lf 55 (by omega)
  exact⟨_,H',e,rfl,t⟩)
 unfold ros at eS
 refine ret_callU rfl rfl c134_eq ?_
 by_cases h5:stateOf S g=5
 ·have b5:(stateOf S g==5)=true:=by rw[h5];rfl
  have hE:failE S g=16:=if_pos h5
  rw[hE]
  simp (maxDischargeDepth:=12) only[c134,own,lr,eS,b5,hv,ldO_one,stO_one,sy,tup,↓reduceIte,zA,zG,zC,zD,zF,zE,zB,zH,reduceCtorEq]
  refine⟨trivial,.inr trivial,_,rfl,rfl,?_⟩
  repeat (first | exact Turns.refl _ _ | apply Turns.skip | apply Turns.addm | apply Turns.setb | apply Turns.setl | apply Turns.setr | refine Turns.setn ?_ _ (by omega) _ | refine Turns.trans ?_ (tF _))
 ·have b5:(stateOf S g==5)=false:=by rw[beq_eq_false_iff_ne];exact h5
  have hE:failE S g=0:=if_neg h5
  rw[hE]
  simp (maxDischargeDepth:=12) only[c134,own,lr,eS,b5,hv,ldO_one,stO_one,sy,tup,↓reduceIte,zA,zG,zC,zD,zF,zE,zB,zH,reduceCtorEq]
  refine⟨trivial,.inr trivial,_,rfl,rfl,?_⟩
  repeat (first | exact Turns.refl _ _ | apply Turns.skip | apply Turns.addm | apply Turns.setb | apply Turns.setl | apply Turns.setr | refine Turns.setn ?_ _ (by omega) _ | refine Turns.trans ?_ (tF _))
theorem uhsector (hf:fine m s r S c) {st i:Int} (hst:0≤st∧st < s) (hi:0≤i∧i < m) (n:Nat):ret (U lf K (n+2) 133 [.ptr (some ⟨h,0⟩),plc st i] G) fun v G'=>v=.tuple [.int .i64 (2+st),.bool true]∧Turns Z G G':=by
 obtain⟨bm,bs,br⟩:=may_t hf.1
 have own:=hh.hull.own
 have ho:=hh.hull.old
 have lm:cut (hcells b id ev m s r S c g) 3 1=some [.int .i64 m]:=rfl
 have ls:cut (hcells b id ev m s r S c g) 4 1=some [.int .i64 s]:=rfl
 have eS:∀ H:Heap,U lf K (n+1) 194 [.int .i64 st] H=some (.v (.tuple [.int .i64 (2+st),.int .i64 0]),H.skip (K+2)):=fun H=>qp_geom_Sector (fun H=>by
  obtain⟨v,H',e,rfl,t⟩:=sectn_ok H (st:=st) (by omega) lf 58
  exact⟨_,H',e,rfl,t⟩)
 have g1:¬ st < 0:=by omega
 have g2:¬ s≤st:=by omega
 have g3:¬ i < 0:=by omega
 have g4:¬ m≤i:=by omega
 refine ret_callU rfl rfl c133_eq ?_
 unfold plc
 simp (maxDischargeDepth:=12) only[c133,own,ho.ne,lm,ls,g1,g2,g3,g4,eS,hv,ldO_one,stO_one,sy,tup,↓reduceIte,zA,zG,zC,zD,zF,zE,zB,zH,reduceCtorEq]
 rw[endD_ok (by kernel_rfl) (by kernel_rfl)]
 simp (maxDischargeDepth:=12) only[eS,hv,ldO_one,stO_one,sy,tup,↓reduceIte,zA,zG,zC,zD,zF,zE,zB,zH,reduceCtorEq]
 refine⟨trivial,.inr trivial,_,rfl,rfl,?_⟩
 repeat (first | exact Turns.refl _ _ | apply Turns.skip | apply Turns.addm | apply Turns.setb | apply Turns.setl | apply Turns.setr | refine Turns.setn ?_ _ (by omega) _ | refine Turns.trans ?_ (tF _))
theorem uhask (hf:fine m s r S c) (hok:stateOf S g≠5) {st:Int} {i:Nat} (hst:0≤st∧st < s) (hi:(i:Int) < m) (n:Nat):ret (U lf K (n+3) 65 [.ptr (some ⟨h,0⟩),plc st i] G) fun v G'=>v=(if hasN S c i st=true then .tuple [.int .i64 (2+st),.int .i64 0] else .tuple [.int .i64 0,.int .i64 7])∧Turns Z G G':=by
 have hS:=hh.hull.len
 have t1:=Turns.add Z G (.rows false 2 [[.int .i64 st,.int .i64 (i:Int)]])
 have e1:=unone hlf (hh.turns t1) (n+1) (K:=K)
 obtain⟨v2,G2,e2,rfl,t2⟩:=uhsector hlf (hh.turns t1) hf (K:=K) (st:=st) (i:=(i:Int)) hst (by omega) n
 have hh2:=(hh.turns t1).turns t2
 obtain⟨v3,G3,e3,rfl,t3⟩:=uhfailed hlf hh2 hf n (K:=K)
 have hE:failE S g=0:=if_neg hok
 rw[hE] at e3
 have hh3:=hh2.turns t3
 have own:=hh3.hull.own
 have lr:=hl_rc hS b id ev m s r c g
 have hp3:G3.get (.run G.next)=some (.rows false 2 [[.int .i64 st,.int .i64 (i:Int)]]):=((t2.trans t3).same (.run G.next) (by show _ < _;simp) (fun h=>h)).trans (by rw[Heap.get_add,if_pos rfl])
 have eH:∀ H:Heap,U lf K (n+2) 135 [ros m s r S c g,.int .i64 (i:Int),.int .i64 st] H=some (.v (.bool (hasN S c i st)),H.skip (K+2)):=fun H=>qp_roster_Has (fun H=>by
  obtain⟨v,H',e,rfl,t⟩:=has_ok H hS hf hi hst lf 55 (by omega) (g:=g)
  exact⟨_,H',e,rfl,t⟩)
 have c0:cut [V.int .i64 st,V.int .i64 (i:Int)] 0 1=some [V.int .i64 st]:=rfl
 have c1:cut [V.int .i64 st,V.int .i64 (i:Int)] 1 1=some [V.int .i64 (i:Int)]:=rfl
 have c2:cut [V.int .i64 st,V.int .i64 (i:Int)] 0 2=some [V.int .i64 st,V.int .i64 (i:Int)]:=rfl
 unfold plc at e2
 unfold ros at eH
 refine ret_callU rfl rfl c65_eq ?_
 unfold plc
 cases hH:hasN S c i st with
 | true=>
  rw[hH] at eH
  simp (maxDischargeDepth:=12) only[c65,e1,c2,e2,e3,own,lr,hp3,c0,c1,eH,hv,ldO_one,stO_one,sy,tup,↓reduceIte,zA,zG,zC,zD,zF,zE,zB,zH,reduceCtorEq]
  rw[endD_ok (by kernel_rfl) (by kernel_rfl)]
  simp (maxDischargeDepth:=12) only[hv,ldO_one,stO_one,sy,tup,↓reduceIte,zA,zG,zC,zD,zF,zE,zB,zH,reduceCtorEq]
  refine⟨trivial,.inr trivial,_,rfl,rfl,?_⟩
  exact((t1.trans t2).trans t3).skip _
 | false=>
  rw[hH] at eH
  simp (maxDischargeDepth:=12) only[c65,e1,c2,e2,e3,own,lr,hp3,c0,c1,eH,hv,ldO_one,stO_one,sy,tup,↓reduceIte,zA,zG,zC,zD,zF,zE,zB,zH,reduceCtorEq]
  rw[endD_ok (by kernel_rfl) (by kernel_rfl)]
  simp (maxDischargeDepth:=12) only[hv,ldO_one,stO_one,sy,tup,↓reduceIte,zA,zG,zC,zD,zF,zE,zB,zH,reduceCtorEq]
  refine⟨trivial,.inr trivial,_,rfl,rfl,?_⟩
  exact((t1.trans t2).trans t3).skip _
theorem uhtold_ok {e:Int} (he:e≠9) (d x:Int) (n:Nat):U lf K (n+1) 66 [.ptr (some ⟨h,0⟩),.int .i64 d,.int .i64 e,.int .i64 x] G=some (.v (.int .i64 e),G):=by
 have b9:(e==9)=false:=by rw[beq_eq_false_iff_ne];exact he
 obtain⟨v,H',e',rfl,rfl⟩:ret (U lf K (n+1) 66 [.ptr (some ⟨h,0⟩),.int .i64 d,.int .i64 e,.int .i64 x] G) fun v H'=>v=.int .i64 e∧H'=G:=by
  refine ret_callU rfl rfl c66_eq ?_
  simp only[c66,b9,sy,tup,↓reduceIte,zA,zG,zC,zD,zF,zE,zB,zH,reduceCtorEq]
  simp
 exact e'
theorem uhread_ok (hf:fine m s r S c) (hok:stateOf S g≠5) {st:Int} {i:Nat} (hst:0≤st∧st < s) (hi:(i:Int) < m) (hH:hasN S c i st=true) (hr:B.rc (i:Int) (2+st)=0) (n:Nat):ret (U lf K (n+4) 60 [.ptr (some ⟨h,0⟩),plc st i] G) fun v G'=>v=.tuple [.blk (B.read (i:Int) (2+st)),.int .i64 0]∧Turns Z G G':=by
 have hS:=hh.hull.len
 have t1:Turns Z G ((G.add (.rows false 2 [[.int .i64 st,.int .i64 (i:Int)]])).add (.rows false 64 [[.blk 0]])):=by repeat (first | exact Turns.refl _ _ | apply Turns.skip | apply Turns.addm | apply Turns.setb | apply Turns.setl | apply Turns.setr | refine Turns.setn ?_ _ (by omega) _ | refine Turns.trans ?_ (tF _))
 obtain⟨v2,G2,e2,rfl,t2⟩:=uhask hlf (hh.turns t1) hf hok (K:=K) hst hi n
 rw[if_pos hH] at e2
 have hh2:=(hh.turns t1).turns t2
 have own:=hh2.hull.own
 have ho:=hh2.hull.old
 have bo:=hh2.old
 have lb:cut (hcells b id ev m s r S c g) 0 1=some [.ptr (some ⟨b,0⟩)]:=rfl
 have hp2:G2.get (.run G.next)=some (.rows false 2 [[.int .i64 st,.int .i64 (i:Int)]]):=(t2.same (.run G.next) (by show _ < _;simp;omega) (fun h=>h)).trans (by rw[Heap.get_add,if_neg (run_ne (by simp)),Heap.get_add,if_pos rfl])
 have hq2:G2.get (.run (G.next+1))=some (.rows false 64 [[.blk 0]]):=(t2.same (.run (G.next+1)) (by show _ < _;simp) (fun h=>h)).trans (by rw[Heap.get_add,if_pos (by simp)])
 have hn2:G.next+2≤G2.next:=by have:=t2.next;simpa using this
 have eR:∀(H:Heap),H.get b=some (bx false B)→U lf K (n+3) 127 [.ptr (some ⟨b,0⟩),.int .i64 (i:Int),.int .i64 (2+st)] H=_:=fun H hB=>qRead hB hh.fit (i:Int) (2+st)
 rw[hr] at eR
 generalize B.read (i:Int) (2+st)=x at eR ⊢
 have c1:cut [V.int .i64 st,V.int .i64 (i:Int)] 1 1=some [V.int .i64 (i:Int)]:=rfl
 have c2:cut [V.int .i64 st,V.int .i64 (i:Int)] 0 2=some [V.int .i64 st,V.int .i64 (i:Int)]:=rfl
 have eT:∀ H:Heap,HB H h b id ev m s r S c g B→U lf K (n+3) 66 [.ptr (some ⟨h,0⟩),.int .i64 (i:Int),.int .i64 0,.int .i64 7] H=some (.v (.int .i64 0),H):=fun H x=>uhtold_ok hlf x (by decide) (i:Int) 7 (n+2)
 unfold plc at e2
 have n1:(G2.next+(K+2)=G.next+1)=False:=by simp;omega
 have n2:(G.next+1=G2.next+(K+2))=False:=by simp;omega
 have n3:(G.next=G2.next+(K+2))=False:=by simp;omega
 have tA:Turns Z G2 (((G2.skip (K+2)).add (.rows false 64 [[.blk 0]])).set (.run (G2.next+(K+2))) (.rows false 64 [[.blk x]])):=by repeat (first | exact Turns.refl _ _ | apply Turns.skip | apply Turns.addm | apply Turns.setb | apply Turns.setl | apply Turns.setr | refine Turns.setn ?_ _ (by omega) _ | refine Turns.trans ?_ (tF _))
 have eT1:=eT _ (hh2.turns tA)
 refine ret_callU rfl rfl c60_eq ?_
 unfold plc
 simp (maxDischargeDepth:=12) only[c60,c2,e2,own,hh2.bench,lb,hp2,hq2,c1,eR,ho.ne,bo.ne,hv,ldO_one,stO_one,sy,tup,↓reduceIte,zA,zG,zC,zD,zF,zE,zB,zH,reduceCtorEq]
 rw[endD_ok (by kernel_rfl) (by kernel_rfl)]
 simp (maxDischargeDepth:=12) only[eT1,own,hp2,hq2,c1,ho.ne,bo.ne,n1,n2,n3,hv,ldO_one,stO_one,sy,tup,↓reduceIte,zA,zG,zC,zD,zF,zE,zB,zH,reduceCtorEq]
 refine⟨trivial,.inr trivial,_,rfl,rfl,?_⟩
 refine((t1.trans t2).trans tA).setn _ (by omega) _
theorem uhwrite_ok (hf:fine m s r S c) (hok:stateOf S g≠5) {st:Int} {i:Nat} (hst:0≤st∧st < s) (hi:(i:Int) < m) (hH:hasN S c i st=true) {x:Nat} (hw:B.wc (i:Int) (2+st)=0) (hfw:Fit (B.write (i:Int) (2+st) x)) (n:Nat):ret (U lf K (n+4) 23 [.ptr (some ⟨h,0⟩),plc st i,.blk x] G) fun v G'=>v=.int .i64 0∧HB G' h b id ev m s r S c g (B.write (i:Int) (2+st) x)∧Turns (fun c=>c=b) G G':=by
 have hS:=hh.hull.len
 have t1:Turns Z G ((G.add (.rows false 2 [[.int .i64 st,.int .i64 (i:Int)]])).add (.rows false 64 [[.blk x]])):=by repeat (first | exact Turns.refl _ _ | apply Turns.skip | apply Turns.addm | apply Turns.setb | apply Turns.setl | apply Turns.setr | refine Turns.setn ?_ _ (by omega) _ | refine Turns.trans ?_ (tF _))
 obtain⟨v2,G2,e2,rfl,t2⟩:=uhask hlf (hh.turns t1) hf hok (K:=K) hst hi n
 rw[if_pos hH] at e2
 have hh2:=(hh.turns t1).turns t2
 have own:=hh2.hull.own
 have ho:=hh2.hull.old
 have bo:=hh2.old
 have lb:cut (hcells b id ev m s r S c g) 0 1=some [.ptr (some ⟨b,0⟩)]:=rfl
 have hp2:G2.get (.run G.next)=some (.rows false 2 [[.int .i64 st,.int .i64 (i:Int)]]):=(t2.same (.run G.next) (by show _ < _;simp;omega) (fun h=>h)).trans (by rw[Heap.get_add,if_neg (run_ne (by simp)),Heap.get_add,if_pos rfl])
 have hq2:G2.get (.run (G.next+1))=some (.rows false 64 [[.blk x]]):=(t2.same (.run (G.next+1)) (by show _ < _;simp) (fun h=>h)).trans (by rw[Heap.get_add,if_pos (by simp)])
 have eW:∀(H:Heap),H.get b=some (bx false B)→U lf K (n+3) 67 [.ptr (some ⟨b,0⟩),.int .i64 (i:Int),.int .i64 (2+st),.blk x] H=_:=fun H hB=>qWrite hB hh.fit (i:Int) (2+st) x
 rw[hw] at eW
 have c1:cut [V.int .i64 st,V.int .i64 (i:Int)] 1 1=some [V.int .i64 (i:Int)]:=rfl
 have c2:cut [V.int .i64 st,V.int .i64 (i:Int)] 0 2=some [V.int .i64 st,V.int .i64 (i:Int)]:=rfl
 have eT:∀ H:Heap,HB H h b id ev m s r S c g (B.write (i:Int) (2+st) x)→U lf K (n+3) 66 [.ptr (some ⟨h,0⟩),.int .i64 (i:Int),.int .i64 0,.int .i64 0] H=some (.v (.int .i64 0),H):=fun H x=>uhtold_ok hlf x (by decide) (i:Int) 0 (n+2)
 have hh3:HB ((G2.set b (bx false (B.write (i:Int) (2+st) x))).skip (K+2)) h b id ev m s r S c g (B.write (i:Int) (2+st) x):=hh2.step (Turns.skip (Turns.setb (Turns.refl _ _) _) _) (by rw[get_skip,Heap.get_set,if_pos rfl]) hfw
 have eT1:=eT _ hh3
 unfold plc at e2
 refine ret_callU rfl rfl c23_eq ?_
 unfold plc
 simp (maxDischargeDepth:=12) only[c23,c2,e2,own,hh2.bench,lb,hp2,hq2,c1,eW,eT1,ho.ne,bo.ne,hv,ldO_one,stO_one,sy,tup,↓reduceIte,zA,zG,zC,zD,zF,zE,zB,zH,reduceCtorEq]
 obtain⟨H3,hH3⟩:∃ H3,(G2.set b (bx false (B.write (i:Int) (2+st) x))).skip (K+2)=H3:=⟨_,rfl⟩
 rw[hH3] at hh3
 have hp3:H3.get (.run G.next)=some (.rows false 2 [[.int .i64 st,.int .i64 (i:Int)]]):=by
  have nb:=ne_of_get hp2 hh2.bench (by intro e;cases e)
  rw[← hH3,get_skip,Heap.get_set,if_neg (by rw[nb];exact fun h=>h),hp2]
 have t3:Turns (fun c=>c=b) G2 H3:=by rw[← hH3];repeat (first | exact Turns.refl _ _ | apply Turns.skip | apply Turns.addm | apply Turns.setb | apply Turns.setl | apply Turns.setr | refine Turns.setn ?_ _ (by omega) _ | refine Turns.trans ?_ (tF _))
 simp only[hH3]
 obtain⟨Q,hQ⟩:∃ Q:List (Option V × Option V),Q=[(loadF (.t (Tr.path 21)) 1 .sc (Tr.setP (Tr.path 21) (.ptr (some ⟨.run G.next,1⟩)) .e) G2,some (.int .i64 (i:Int))),(loadF (.t (Tr.path 21)) 1 .sc (Tr.setP (Tr.path 21) (.ptr (some ⟨.run G.next,1⟩)) .e) H3,some (.int .i64 (i:Int)))]:=⟨_,rfl⟩
 rw[endD_q (q:=Q) (by kernel_rfl) (by rw[hQ];kernel_rfl)]
 have hQ':∀ x ∈ Q,x.1=x.2:=by
  rw[hQ]
  intro x hx
  simp only[List.mem_cons,List.not_mem_nil,or_false] at hx
  rcases hx with rfl | rfl<;>simp (maxDischargeDepth:=12) only[hp2,hp3,c1,hv,ldO_one,stO_one,sy,tup,↓reduceIte,zA,zG,zC,zD,zF,zE,zB,zH,reduceCtorEq]
 simp (maxDischargeDepth:=12) only[hv,ldO_one,stO_one,sy,tup,↓reduceIte,zA,zG,zC,zD,zF,zE,zB,zH,reduceCtorEq]
 have t4:=(Turns.refl Z H3).owe hQ'
 refine⟨trivial,.inr trivial,_,rfl,rfl,hh3.turns t4,?_⟩
 exact(((t1.trans t2).wide (fun c hc=>hc.elim)).trans t3).trans (t4.wide (fun c hc=>hc.elim))
end
end Go.Proofs.YtabebpemfinejaaGreat.draft
namespace Go.Proofs.YtabebpemfinejaaGreat.draft
open Go.Am
open disk (bx Fit A1 R1 Low)
section
variable {lf K:Nat} (hlf:1000 < lf)
include hlf
variable {G:Heap} {h b:Bk} {M k E ID i:Nat} {s r:Int} {S:List Nat} {c:Int} {g:Bool} {B:disk.Bn} (hh:HB G h b (ID:Int) (E:Int) (M:Int) s r S c g B)
 (hf:fine (M:Int) s r S c) (hi:i < M) (hp:Ready M k E ID s r (S.set i 1) (loseC S c i) B)
include hh hf hi hp
def FoundD (h b:Bk) (M E ID i:Nat) (s r:Int) (S:List Nat) (g:Bool) (B:disk.Bn) (G G':Heap) (E':Nat) (S':List Nat) (c':Int) (B':disk.Bn):Prop:=
 Saved M E ID s r (S.set i 1) g B E' S' c' B'∧HB G' h b (ID:Int) (E':Int) (M:Int) s r S' c' g B'∧Turns (fun c=>c=b∨c=h) G G'
theorem uhfound (n:Nat):ret (U lf K (n+8) 136 [.ptr (some ⟨h,0⟩),.int .i64 (i:Int)] G) fun v G'=>v=.int .i64 0∧∃ E' S' c' B',FoundD h b M E ID i s r S g B G G' E' S' c' B':=by
 have hS:=hh.hull.len
 have own:=hh.hull.own
 have hm:=hp.calm.le
 have hiS:i < S.length:=by omega
 have lr:=hl_rc hS b (ID:Int) (E:Int) (M:Int) s r c g
 have hpr:=put_hr (S':=S.set i 1) hS (by simp[hS]) b (ID:Int) (E:Int) (M:Int) s r c (loseC S c i) g
 have hrw:=r_width (S:=S.set i 1) (by simp[hS]) (M:Int) s r (loseC S c i) g
 have eL:∀ H:Heap,U lf K (n+7) 55 [ros (M:Int) s r S c g,.int .i64 (i:Int)] H=some (.v (.tuple [ros (M:Int) s r (S.set i 1) (loseC S c i) g,.bool (!(((S[i]:Nat):Int)==1))]),H.skip (K+2)):=fun H=>qp_roster_Lose (fun H=>by
  obtain⟨v,H',e,rfl,t⟩:=lose_at H hS hf (by omega) hiS lf 55 (by omega) (g:=g)
  exact⟨_,H',e,rfl,t⟩)
 unfold ros at eL
 have t1:Turns (fun c=>c=h) G ((G.skip (K+2)).set h (.rows false 24 [hcells b (ID:Int) (E:Int) (M:Int) s r (S.set i 1) (loseC S c i) g])):=Turns.setb (Turns.skip (Turns.refl _ _) _) _
 have hh1:HB ((G.skip (K+2)).set h (.rows false 24 [hcells b (ID:Int) (E:Int) (M:Int) s r (S.set i 1) (loseC S c i) g])) h b (ID:Int) (E:Int) (M:Int) s r (S.set i 1) (loseC S c i) g B:=
  ⟨⟨by rw[Heap.get_set,if_pos rfl],by simpa using hS,hh.hull.old.mono t1.next⟩,(t1.same b hh.old (fun e=>by have e':=e.symm;rw[hh.ne] at e';exact e')).trans hh.bench,hh.old.mono t1.next,hh.fit⟩
 obtain⟨v2,G2,e2,rfl,E',S',c',B',hs,hh2,t2⟩:=usave hlf (K:=K) hh1 hp (by omega) (by omega) n
 refine ret_callU rfl rfl c136_eq ?_
 simp (maxDischargeDepth:=12) only[c136,own,lr,eL,hrw,hpr,e2,hv,ldO_one,stO_one,sy,tup,↓reduceIte,zA,zG,zC,zD,zF,zE,zB,zH,reduceCtorEq]
 exact⟨trivial,.inr trivial,_,rfl,rfl,E',S',c',B',hs,hh2,(t1.wide (fun c hc=>.inr hc)).trans t2⟩
theorem uhtold_dead (hx:Int) (n:Nat):ret (U lf K (n+9) 66 [.ptr (some ⟨h,0⟩),.int .i64 (i:Int),.int .i64 9,.int .i64 hx] G) fun v G'=>∃ E' S' c' B',v=.int .i64 (if failE S' g=0 then hx else 16)∧FoundD h b M E ID i s r S g B G G' E' S' c' B':=by
 obtain⟨v1,G1,e1,rfl,E',S',c',B',hs,hh1,t1⟩:=uhfound hlf hh hf hi hp n (K:=K)
 obtain⟨v2,G2,e2,rfl,t2⟩:=uhfailed hlf hh1 hs.fine (n+6) (K:=K)
 refine ret_callU rfl rfl c66_eq ?_
 by_cases h5:stateOf S' g=5
 ·have hE:failE S' g=16:=if_pos h5
  rw[hE] at e2
  simp (maxDischargeDepth:=12) only[c66,e1,e2,hv,ldO_one,stO_one,sy,tup,↓reduceIte,zA,zG,zC,zD,zF,zE,zB,zH,reduceCtorEq]
  refine⟨trivial,.inr trivial,_,rfl,E',S',c',B',?_,hs,hh1.turns t2,t1.trans (t2.wide (fun c hc=>hc.elim))⟩
  rw[hE];rfl
 ·have hE:failE S' g=0:=if_neg h5
  rw[hE] at e2
  simp (maxDischargeDepth:=12) only[c66,e1,e2,hv,ldO_one,stO_one,sy,tup,↓reduceIte,zA,zG,zC,zD,zF,zE,zB,zH,reduceCtorEq]
  refine⟨trivial,.inr trivial,_,rfl,E',S',c',B',?_,hs,hh1.turns t2,t1.trans (t2.wide (fun c hc=>hc.elim))⟩
  rw[if_pos hE]
theorem uhread_dead (hok:stateOf S g≠5) {st:Int} (hst:0≤st∧st < s) (hH:hasN S c i st=true) (hr:B.rc (i:Int) (2+st)=9) (n:Nat):ret (U lf K (n+10) 60 [.ptr (some ⟨h,0⟩),plc st i] G) fun v G'=>∃ E' S' c' B',v=.tuple [.blk 0,.int .i64 (if failE S' g=0 then 7 else 16)]∧FoundD h b M E ID i s r S g B G G' E' S' c' B':=by
 have hS:=hh.hull.len
 have t1:Turns Z G ((G.add (.rows false 2 [[.int .i64 st,.int .i64 (i:Int)]])).add (.rows false 64 [[.blk 0]])):=by repeat (first | exact Turns.refl _ _ | apply Turns.skip | apply Turns.addm | apply Turns.setb | apply Turns.setl | apply Turns.setr | refine Turns.setn ?_ _ (by omega) _ | refine Turns.trans ?_ (tF _))
 obtain⟨v2,G2,e2,rfl,t2⟩:=uhask hlf (hh.turns t1) hf hok (K:=K) hst (show (i:Int) < (M:Int) by omega) (n+6)
 rw[if_pos hH] at e2
 have hh2:=(hh.turns t1).turns t2
 have own:=hh2.hull.own
 have ho:=hh2.hull.old
 have bo:=hh2.old
 have lb:cut (hcells b (ID:Int) (E:Int) (M:Int) s r S c g) 0 1=some [.ptr (some ⟨b,0⟩)]:=rfl
 have hp2:G2.get (.run G.next)=some (.rows false 2 [[.int .i64 st,.int .i64 (i:Int)]]):=(t2.same (.run G.next) (by show _ < _;simp;omega) (fun h=>h)).trans (by rw[Heap.get_add,if_neg (run_ne (by simp)),Heap.get_add,if_pos rfl])
 have hq2:G2.get (.run (G.next+1))=some (.rows false 64 [[.blk 0]]):=(t2.same (.run (G.next+1)) (by show _ < _;simp) (fun h=>h)).trans (by rw[Heap.get_add,if_pos (by simp)])
 have hn2:G.next+2≤G2.next:=by have:=t2.next;simpa using this
 have eR:∀(H:Heap),H.get b=some (bx false B)→U lf K (n+9) 127 [.ptr (some ⟨b,0⟩),.int .i64 (i:Int),.int .i64 (2+st)] H=_:=fun H hB=>qRead hB hh.fit (i:Int) (2+st)
 rw[hr] at eR
 generalize B.read (i:Int) (2+st)=x at eR
 have c1:cut [V.int .i64 st,V.int .i64 (i:Int)] 1 1=some [V.int .i64 (i:Int)]:=rfl
 have c2:cut [V.int .i64 st,V.int .i64 (i:Int)] 0 2=some [V.int .i64 st,V.int .i64 (i:Int)]:=rfl
 have tA:Turns Z G2 (((G2.skip (K+2)).add (.rows false 64 [[.blk 0]])).set (.run (G2.next+(K+2))) (.rows false 64 [[.blk x]])):=by repeat (first | exact Turns.refl _ _ | apply Turns.skip | apply Turns.addm | apply Turns.setb | apply Turns.setl | apply Turns.setr | refine Turns.setn ?_ _ (by omega) _ | refine Turns.trans ?_ (tF _))
 obtain⟨v3,G3,e3,E',S',c',B',rfl,hs,hh3,t3⟩:=uhtold_dead hlf (hh2.turns tA) hf hi hp (K:=K) 7 n
 unfold plc at e2
 have n1:(G2.next+(K+2)=G.next+1)=False:=by simp;omega
 have n2:(G.next+1=G2.next+(K+2))=False:=by simp;omega
 have n3:(G.next=G2.next+(K+2))=False:=by simp;omega
 have nb:=ne_of_get hq2 hh2.bench (by intro e;cases e)
 have nh:=ne_of_get own hq2 (by simp)
 have hq3:G3.get (.run (G.next+1))=some (.rows false 64 [[.blk 0]]):=(t3.same (.run (G.next+1)) (Nat.lt_of_lt_of_le (by show G.next+1 < G2.next;omega) tA.next) (by
  rintro(e | e)
  ·rw[nb] at e;exact e
  ·have e':=e.symm;rw[nh] at e';exact e')).trans ((tA.same (.run (G.next+1)) (by show G.next+1 < G2.next;omega) (fun h=>h)).trans hq2)
 have eb:((if failE S' g=0 then(7:Int) else 16)==0)=false:=by rw[beq_eq_false_iff_ne];split<;>decide
 obtain⟨w,hw⟩:∃ w,w=if failE S' g=0 then(7:Int) else 16:=⟨_,rfl⟩
 rw[← hw] at e3 eb
 refine ret_callU rfl rfl c60_eq ?_
 unfold plc
 simp (maxDischargeDepth:=12) only[c60,c2,e2,own,hh2.bench,lb,hp2,hq2,c1,eR,ho.ne,bo.ne,hv,ldO_one,stO_one,sy,tup,↓reduceIte,zA,zG,zC,zD,zF,zE,zB,zH,reduceCtorEq]
 rw[endD_ok (by kernel_rfl) (by kernel_rfl)]
 simp (maxDischargeDepth:=12) only[e3,own,hp2,hq2,hq3,eb,c1,ho.ne,bo.ne,n1,n2,n3,hv,ldO_one,stO_one,sy,tup,↓reduceIte,zA,zG,zC,zD,zF,zE,zB,zH,reduceCtorEq]
 refine⟨trivial,.inr trivial,_,rfl,E',S',c',B',by rw[← hw],hs,?_,?_⟩
 ·have t4:Turns (fun c=>c=.run (G.next+1)) G3 (G3.set (.run (G.next+1)) (.rows false 64 [[.blk 0]])):=Turns.setb (Turns.refl _ _) _
  exact⟨⟨(t4.same h hh3.hull.old (fun e=>by rw[nh] at e;exact e)).trans hh3.hull.own,hh3.hull.len,hh3.hull.old.mono t4.next⟩,(t4.same b hh3.old (fun e=>by have e':=e.symm;rw[nb] at e';exact e')).trans hh3.bench,hh3.old.mono t4.next,hh3.fit⟩
 ·refine Turns.setn ((((t1.trans t2).trans tA).wide (fun c hc=>hc.elim)).trans t3) _ (by omega) _
end
end Go.Proofs.YtabebpemfinejaaGreat.draft
