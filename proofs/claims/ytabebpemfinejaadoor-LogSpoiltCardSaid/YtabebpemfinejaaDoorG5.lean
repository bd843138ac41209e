import Derived.Test.YtabebpemfinejaaDoorG4
import Derived.Test.YtabebpemfinejaaDoorG3
import Derived.Test.YtabebpemfinejaaDoorG1
set_option linter.unusedVariables false
set_option linter.unusedSimpArgs false
set_option maxRecDepth 10000
set_option linter.unusedSectionVars false
open Nat renaming reduceEqDiff → zA, reduceLeDiff → zB, reduceSub → zC, reduceMul → zD, reduceMod → zE, reduceDiv → zF, reduceAdd → zG
open Int renaming reduceBEq → zH
namespace Go.Proofs.YtabebpemfinejaaDoor.draft
open Go.Am
def cellSh:Sh:=.seq (.seq (.int .i64) (.seq (.int .i64) .nil)) (.seq .blk .nil)
section
variable {a:Nat→Option Am.Obj} {H:Heap} (hH:∀ n,H.get (.arg n)=a n)
include hH
theorem cell_of {r:List V} (h:Fits a cellSh r):∃ c:Cl,r=rowC c∧c.x < 256 ^ 64:=by
 obtain⟨_,_,rfl,⟨_,_,rfl,⟨s,_,rfl⟩,_,_,rfl,⟨m,_,rfl⟩,rfl⟩,_,_,rfl,⟨B,hB,rfl⟩,rfl⟩:=h
 exact⟨⟨s,m,B⟩,rfl,hB⟩
theorem cells_list:∀(R:List (List V)),(∀ r ∈ R,Fits a cellSh r)→∃ l:List Cl,l.map rowC=R∧∀ c ∈ l,c.x < 256 ^ 64
 | [],_=>⟨[],rfl,fun c h=>by cases h⟩
 | r::R,h=>by
  obtain⟨c,e,hc⟩:=cell_of hH (h r (List.mem_cons_self ..))
  obtain⟨l,el,hl⟩:=cells_list R (fun r hr=>h r (List.mem_cons_of_mem _ hr))
  refine⟨c::l,by rw[List.map_cons,e,el],fun x hx=>?_⟩
  rcases List.mem_cons.1 hx with rfl | hx
  ·exact hc
  ·exact hl x hx
theorem cells_of {C:List V} (h:Fits a (.slice 66 cellSh) C):∃ p lc l,C=[.slice p (List.length l) lc 0]∧CellsAt H p l∧(∀ c ∈ l,c.x < 256 ^ 64)∧l.length≤maxLen:=by
 rcases h with rfl | ⟨b,len,rows,rfl,hb,hl,hm,hr⟩
 ·exact⟨none,0,[],rfl,⟨fun e=>absurd rfl e⟩,fun c h=>(by cases h),Nat.zero_le _⟩
 ·obtain⟨l,el,hc⟩:=cells_list hH rows hr
  have hll:l.length=rows.length:=by rw[← el,List.length_map]
  refine⟨some ⟨.arg b,0⟩,rows.length,l.take len,by rw[List.length_take,Nat.min_eq_left (by omega)],⟨fun _=>⟨.arg b,0,true,rows,rfl,trivial,(hH b).trans hb,fun i hi=>?_⟩⟩,fun c h=>hc c (List.mem_of_mem_take h),by rw[List.length_take];omega⟩
  rw[List.length_take] at hi
  rw[Nat.zero_add,← el,List.getElem?_map,List.getElem?_eq_getElem (by omega),List.getElem_take]
  rfl
end
end Go.Proofs.YtabebpemfinejaaDoor.draft
namespace Go.Proofs.YtabebpemfinejaaDoor.draft
open Go.Am
noncomputable def sumD (c:Nat→Nat):Nat→Nat
 | 0=>0
 | i+1=>sumD c i+c i*256 ^ i
theorem sumD_lt {c:Nat→Nat}:∀ {n:Nat},(∀ i,i < n→c i < 256)→sumD c n < 256 ^ n
 | 0,_=>by show 0 < 1;decide
 | n+1,h=>by
  have a:=sumD_lt (c:=c) (n:=n) (fun i hi=>h i (by omega))
  have b:=h n (by omega)
  show sumD c n+c n*256 ^ n < 256 ^ (n+1)
  rw[Nat.pow_succ]
  have:c n*256 ^ n≤255*256 ^ n:=Nat.mul_le_mul_right _ (by omega)
  omega
theorem leN_sumD {c:Nat→Nat}:∀ {n:Nat},(∀ i,i < n→c i < 256)→leN c n=sumD c n
 | 0,_=>rfl
 | n+1,h=>by
  have a:=sumD_lt (c:=c) (n:=n) (fun i hi=>h i (by omega))
  have ih:=leN_sumD (c:=c) (n:=n) (fun i hi=>h i (by omega))
  show leN c n ||| up (c n) n=sumD c n+c n*256 ^ n
  rw[ih]
  unfold up
  have e:(256:Nat) ^ n=2 ^ (8*n):=by rw[Nat.pow_mul]
  rw[e] at a ⊢
  rw[Nat.or_comm,Nat.mul_comm,← Nat.two_pow_add_eq_or_of_lt a,Nat.add_comm]
theorem sumD_dig (x:Nat):∀ n,sumD (dig x) n=x % 256 ^ n
 | 0=>by show 0=x % 1;omega
 | n+1=>by
  show sumD (dig x) n+dig x n*256 ^ n=_
  rw[sumD_dig x n,Nat.mod_pow_succ]
  unfold dig
  rw[Nat.mul_comm]
theorem leN_congr {f g:Nat→Nat}:∀ {n:Nat},(∀ i,i < n→f i=g i)→leN f n=leN g n
 | 0,_=>rfl
 | n+1,h=>by
  show leN f n ||| up (f n) n=leN g n ||| up (g n) n
  rw[leN_congr (fun i hi=>h i (by omega)),h n (by omega)]
theorem leN_dig {x n:Nat} (hx:x < 256 ^ n) {c:Nat→Nat} (hc:∀ i,i < n→c i=dig x i):leN c n=x:=by
 rw[leN_congr hc,leN_sumD (fun i _=>dig_lt x i),sumD_dig,Nat.mod_eq_of_lt hx]
end Go.Proofs.YtabebpemfinejaaDoor.draft
namespace Go.Proofs.YtabebpemfinejaaDoor.draft
open Go.Am
section
variable {K:Nat}
theorem u_nget_ok {H:Heap} {p:Ptr} {len cap loose a sz:Nat} {c:Nat→Nat} (hs:1≤sz∧sz≤8) (ha:a+sz≤len) (hc:len≤cap) (hm:cap < 1000000) (hl:loose=0∨loose=1) (hb:∀ i,i < sz→c i < 256) (hd:∀ i,i < sz→loadAt H ⟨p.b,p.o+a+i⟩ 1=some [.int .u8 (c i:Int)]) (lf n:Nat) (hlf:9 < lf) :
  U lf K (n+1) 78 [.slice (some p) len cap loose,.int .i64 (a:Int),.int .i64 (sz:Int)] H=some (.v (.tuple [.int .u64 ((leN c sz:Nat):Int),.int .i64 0]),H):=by
 obtain⟨v,H',e,rfl,rfl⟩:ret (U lf K (n+1) 78 [.slice (some p) len cap loose,.int .i64 (a:Int),.int .i64 (sz:Int)] H) fun v H'=>v=.tuple [.int .u64 ((leN c sz:Nat):Int),.int .i64 0]∧H'=H:=by
  refine ret_callU rfl rfl c78_eq ?_
  have f1:¬ ((sz:Int) < 1):=by omega
  have f2:¬ ((8:Int) < (sz:Int)):=by omega
  have f3:¬ ((a:Int) < 0):=by omega
  have f4:¬ ((len:Int) < (a:Int)):=by omega
  have w1:IntKind.i64.wrap ((len:Int) - (a:Int))=((len - a:Nat):Int):=by rw[wrap_i64 (by omega)];omega
  have f5:¬ (((len - a:Nat):Int) < (sz:Int)):=by omega
  obtain⟨e,he⟩:∃ e,e=a+sz:=⟨_,rfl⟩
  have w2:IntKind.i64.wrap ((a:Int)+(sz:Int))=(e:Int):=by rw[wrap_i64 (by omega)];omega
  have bb:bounds len cap (some (.int .i64 (a:Int))) (some (.int .i64 (e:Int))) none=some (a,e,cap):=bounds_ok (by omega) (by omega)
  have hsz:e - a=sz:=by omega
  have ne:¬ (cap=a):=by omega
  have le:a+1≤cap:=by omega
  have hloop:∀ t:T,t.getP (Tr.path 8)=some (.int .u64 0)→t.getP (Tr.path 40)=some (.slice (some ⟨p.b,p.o+a⟩) sz (cap - a) loose)→t.getP (Tr.path 41)=some (.int .i64 (sz:Int))→t.getP (Tr.path 42)=some (.int .i64 0) →
    wp (loopF (runC (U lf K n) lf c78_l0) lf ⟨t,H,[]⟩) fun x s=>x=.ex 1∧s.d=[]∧s.H=H∧s.t.getP (Tr.path 8)=some (.int .u64 ((leN c sz:Nat):Int)):=by
   intro t q8 q40 q41 q42
   refine wp_loopF (fun k s=>∃ i:Nat,k=sz - i∧i≤sz∧s.d=[]∧s.H=H∧s.t.getP (Tr.path 8)=some (.int .u64 ((leN c i:Nat):Int))∧s.t.getP (Tr.path 40)=some (.slice (some ⟨p.b,p.o+a⟩) sz (cap - a) loose)∧s.t.getP (Tr.path 41)=some (.int .i64 (sz:Int))∧s.t.getP (Tr.path 42)=some (.int .i64 (i:Int))) ?_ lf sz _ ⟨0,rfl,by omega,rfl,rfl,q8,q40,q41,q42⟩ (by omega)
   rintro k ⟨t,HH,d⟩ ⟨i,rfl,hi,hd',hH,q8,q40,q41,q42⟩
   dsimp only at hd' hH q8 q40 q41 q42
   subst hd';subst hH
   by_cases hlt:i < sz
   ·have hlt':(i:Int) < (sz:Int):=by omega
    have hle':i+1≤sz:=hlt
    have lk:=hd i hlt
    have w3:IntKind.i64.wrap ((i:Int)+1)=((i+1:Nat):Int):=by rw[wrap_i64 (by omega)];omega
    have w4:IntKind.i64.wrap (8*(i:Int))=((8*i:Nat):Int):=by rw[wrap_i64 (by omega)];omega
    have w5:IntKind.u64.wrap (c i:Int)=(c i:Int):=wrap_u64 (by have:=hb i hlt;omega)
    have hsh:=shl_u64 (hb i hlt) (show i < 8 by omega)
    have hor:=or_u64 (leN_lt (c:=c) (n:=i) (by omega) (fun j hj=>hb j (by omega))) (up_lt (hb i hlt) (show i < 8 by omega))
    change _=some (V.int .u64 ((leN c (i+1):Nat):Int)) at hor
    simp only[c78_l0,q8,q40,q41,q42,hlt',hle',w3,w4,w5,lk,arith_mul,hsh,hor,Nat.mul_one,sy,tup,↓reduceIte,zA,zG,zC,zD,zF,zE,zB,zH,reduceCtorEq]
    exact⟨sz - (i+1),by omega,i+1,rfl,by omega,trivial,trivial,rfl,trivial,trivial,by simp⟩
   ·have:i=sz:=by omega
    subst this
    simp only[c78_l0,q8,q40,q41,q42,Nat.lt_irrefl,Int.lt_irrefl,sy,tup,↓reduceIte,zA,zG,zC,zD,zF,zE,zB,zH,reduceCtorEq]
    exact⟨trivial,trivial,trivial,trivial⟩
  rcases hl with rfl | rfl
  ·simp only[c78,f1,f2,f3,f4,f5,w1,w2,bb,hsz,ne,le,Nat.mul_one,sy,tup,↓reduceIte,zA,zG,zC,zD,zF,zE,zB,zH,reduceCtorEq]
   refine wp_ctx (F:=fun r=>seqC _ _ _ (blockC _ r)) (hloop _ ?_ ?_ ?_ ?_) ?_
   ·simp only[sy,tup,↓reduceIte,zA,zG,zC,zD,zF,zE,zB,zH,reduceCtorEq]
   ·simp only[sy,tup,↓reduceIte,zA,zG,zC,zD,zF,zE,zB,zH,reduceCtorEq]
   ·simp only[sy,tup,↓reduceIte,zA,zG,zC,zD,zF,zE,zB,zH,reduceCtorEq]
   ·simp only[sy,tup,↓reduceIte,zA,zG,zC,zD,zF,zE,zB,zH,reduceCtorEq]
   rintro x ⟨t,HH,d⟩ ⟨rfl,hd',hH,q8⟩
   dsimp only at hd' hH q8
   subst hd';subst hH
   simp only[q8,sy,tup,↓reduceIte,zA,zG,zC,zD,zF,zE,zB,zH,reduceCtorEq]
   simp
  ·simp only[c78,f1,f2,f3,f4,f5,w1,w2,bb,hsz,ne,le,Nat.mul_one,sy,tup,↓reduceIte,zA,zG,zC,zD,zF,zE,zB,zH,reduceCtorEq]
   refine wp_ctx (F:=fun r=>seqC _ _ _ (blockC _ r)) (hloop _ ?_ ?_ ?_ ?_) ?_
   ·simp only[sy,tup,↓reduceIte,zA,zG,zC,zD,zF,zE,zB,zH,reduceCtorEq]
   ·simp only[sy,tup,↓reduceIte,zA,zG,zC,zD,zF,zE,zB,zH,reduceCtorEq]
   ·simp only[sy,tup,↓reduceIte,zA,zG,zC,zD,zF,zE,zB,zH,reduceCtorEq]
   ·simp only[sy,tup,↓reduceIte,zA,zG,zC,zD,zF,zE,zB,zH,reduceCtorEq]
   rintro x ⟨t,HH,d⟩ ⟨rfl,hd',hH,q8⟩
   dsimp only at hd' hH q8
   subst hd';subst hH
   simp only[q8,sy,tup,↓reduceIte,zA,zG,zC,zD,zF,zE,zB,zH,reduceCtorEq]
   simp
 exact e
end
end Go.Proofs.YtabebpemfinejaaDoor.draft
namespace Go.Proofs.YtabebpemfinejaaDoor.draft
open Go.Am
noncomputable def c72:CFn:=⟨[.cell (pp 4) 2 .ag,.tmp (pp 5)],
 .seq (.reg [
 qo 4 (.m (allocF 2 [.int .i64 0,.int .i64 0])) [],
 qo 5 (.p (S.get (.c (.bool false)))) []]) (
 .seq (.reg [
 mv 10 0,
 mv 11 1,
 qo 12 (.p (arF .quo (tt 11) (ii 16))) [pp 11],
 qo 13 (.p (iaddrSF (tt 10) (tt 12) 64)) [pp 10,pp 12],
 mv 14 1,
 qo 15 (.p (arF .rem (tt 14) (ii 16))) [pp 14],
 qo 16 (.p (arF .mul (tt 15) (ii 4))) [pp 15],
 qo 17 (.p (sliceAF 64 1 (tt 13) (some (tt 16)) none none)) [pp 13,pp 16],
 qo 18 (.p (sliceF 1 (tt 17) none (some (ii 4)) none)) [pp 17],
 mv 6 18]) (
 .seq (.reg [
 mv 20 6,
 qo 21 (.c (callF (ff 78) [(tt 20),(ii 0),(ii 2)])) [pp 20],
 mv 19 21,
 qo 22 (.p (extF (tt 19) 0)) [pp 19],
 qo 23 (.p (extF (tt 19) 1)) [pp 19],
 mv 7 22,
 mv 8 23]) (
 .seq (.reg [
 mv 24 7,
 qo 25 (.p (convF .i64 (tt 24))) [pp 24],
 mv 26 6,
 qo 27 (.p (iaddrSF (tt 26) (ii 2) 1)) [pp 26],
 qo 28 (.r (loadF (tt 27) 1 .sc)) [pp 27],
 qo 29 (.p (convF .i64 (tt 28))) [pp 28],
 qo 30 (.p (buildF [.int .i64 0,.int .i64 0] .ag [(0,1,(tt 25)),(1,1,(tt 29))])) [pp 25,pp 29],
 qo 9 (.m (allocF 2 [.int .i64 0,.int .i64 0])) [],
 qn (.a (storeF (tt 9) (tt 30) 2)) [pp 9,pp 30]]) (
 .seq (.regD [
 qo 31 (.r (loadF (tt 9) 2 .ag)) [pp 9],
 qo 32 (.r (loadF (tt 9) 2 .ag)) [pp 9],
 qo 33 (.c (callF (ff 56) [(tt 32)])) [pp 32],
 mv 34 33,
 mg 35 6 34 true,
 qg 36 (.p (iaddrSF (tt 35) (ii 3) 1)) 34 true [pp 35],
 qg 37 (.r (loadF (tt 36) 1 .sc)) 34 true [pp 36],
 qg 38 (.p (eqcF false false [.int .u8] (tt 37) (.c (.int .u8 0)))) 34 true [pp 37],
 qo 39 (.p (pickF (tt 34) (tt 38) (.c (.bool false)))) [pp 34,pp 38],
 qn (.a (storeF (tt 4) (tt 31) 2)) [pp 4,pp 31],
 mv 5 39] [0,0,2,6,14,30,62,126,254,15,1023]) (
 .ret)))))⟩
theorem c72_eq:fnOf Tryd.prog 72=some c72:=by kernel_rfl
noncomputable def c44_l0:C:=.seq (.seq (.reg [
 mv 55 12,
 mv 56 7,
 qo 57 (.p (arF .mul (tt 56) (ii 16))) [pp 56],
 qo 58 (.p (arF .lss (tt 55) (tt 57))) [pp 55,pp 57]]) (
 .cond (tt 58) (.skip) (.exit 3))) (
 .seq (.block 4 (.seq (.reg [
 mv 61 0,
 mv 62 12,
 qo 63 (.p (arF .quo (tt 62) (ii 16))) [pp 62],
 qo 64 (.p (iaddrSF (tt 61) (tt 63) 64)) [pp 61,pp 63],
 mv 65 12,
 qo 66 (.p (arF .rem (tt 65) (ii 16))) [pp 65],
 qo 67 (.p (arF .mul (tt 66) (ii 4))) [pp 66],
 qo 68 (.p (sliceAF 64 1 (tt 64) (some (tt 67)) none none)) [pp 64,pp 67],
 qo 69 (.p (sliceF 1 (tt 68) none (some (ii 4)) none)) [pp 68],
 qo 70 (.p (s2apF 4 (tt 69))) [pp 69],
 qo 71 (.r (loadF (tt 70) 4 .ag)) [pp 70],
 qo 72 (.p (buildF [.int .u8 0,.int .u8 0,.int .u8 0,.int .u8 0] .ag [])) [],
 qo 73 (.p (eqcF true true [.int .u8,.int .u8,.int .u8,.int .u8] (tt 71) (tt 72))) [pp 71,pp 72]]) (
 .cond (tt 73) (.seq (.reg [
 qo 4 (.p (S.get (.c (.slice none 0 0 0)))) [],
 qo 5 (.p (S.get (ii 5))) []]) (
 .ret)) (.skip)))) (
 .reg [
 mv 59 12,
 qo 60 (.p (arF .add (tt 59) (ii 1))) [pp 59],
 mv 12 60]))
noncomputable def c44_l1:C:=.seq (.reg [
 qo 32 (.p (arF .lss (tt 31) (tt 30))) [pp 31,pp 30]]) (
 .seq (.cond (tt 32) (.skip) (.exit 1)) (
 .seq (.block 2 (.seq (.reg [
 mv 33 31,
 mv 9 33]) (
 .seq (.reg [
 mv 35 0,
 mv 36 9,
 qo 37 (.c (callF (ff 72) [(tt 35),(tt 36)])) [pp 35,pp 36],
 mv 34 37,
 qo 38 (.p (extF (tt 34) 0)) [pp 34],
 qo 39 (.p (extF (tt 34) 1)) [pp 34],
 qo 10 (.m (allocF 2 [.int .i64 0,.int .i64 0])) [],
 qn (.a (storeF (tt 10) (tt 38) 2)) [pp 10,pp 38],
 mv 11 39]) (
 .seq (.seq (.reg [
 mv 40 11,
 qo 41 (.p (unF .not (tt 40))) [pp 40]]) (
 .cond (tt 41) (.seq (.reg [
 qo 4 (.p (S.get (.c (.slice none 0 0 0)))) [],
 qo 5 (.p (S.get (ii 5))) []]) (
 .ret)) (.skip))) (
 .regD [
 mv 42 8,
 qo 43 (.r (loadF (tt 10) 2 .ag)) [pp 10],
 mv 44 0,
 mv 45 7,
 mv 46 9,
 qo 47 (.p (arF .add (tt 45) (tt 46))) [pp 45,pp 46],
 qo 48 (.p (iaddrSF (tt 44) (tt 47) 64)) [pp 44,pp 47],
 qo 49 (.r (loadF (tt 48) 64 .bk)) [pp 48],
 qo 50 (.p (buildF [.int .i64 0,.int .i64 0,.blk 0] .ag [(0,2,(tt 43)),(2,64,(tt 49))])) [pp 43,pp 49],
 qo 51 (.m (bsliceF 1 66 [.int .i64 0,.int .i64 0,.blk 0] [(0,66,(tt 50))])) [pp 50],
 qo 52 (.a (appF 66 80 (tt 42) (tt 51))) [pp 42,pp 51],
 mv 8 52] [0,0,0,0,0,24,60,124,254,510,1023,2047]))))) (
 .reg [
 qo 53 (.p (arF .add (tt 31) (ii 1))) [pp 31],
 mv 31 53])))
noncomputable def c44:CFn:=⟨[.tmp (pp 4),.tmp (pp 5)],
 .seq (.reg [
 qo 4 (.p (S.get (.c (.slice none 0 0 0)))) [],
 qo 5 (.p (S.get (ii 0))) []]) (
 .seq (.seq (.reg [
 mv 13 1,
 qo 14 (.c (callF (ff 42) [(tt 13)])) [pp 13],
 mv 6 14]) (
 .block 0 (.seq (.reg [
 mv 16 6,
 qo 17 (.p (eqcF false false [.int .i64] (tt 16) (ii 0))) [pp 16],
 mv 15 17]) (
 .cond (tt 15) (.seq (.reg [
 qo 4 (.p (S.get (.c (.slice none 0 0 0)))) [],
 qo 5 (.p (S.get (ii 2))) []]) (
 .ret)) (.seq (.reg [
 mv 19 0,
 qo 20 (.p (lenF (tt 19))) [pp 19],
 mv 21 6,
 qo 22 (.p (arF .lss (tt 20) (tt 21))) [pp 20,pp 21],
 mv 18 22]) (
 .cond (tt 18) (.seq (.reg [
 qo 4 (.p (S.get (.c (.slice none 0 0 0)))) [],
 qo 5 (.p (S.get (ii 4))) []]) (
 .ret)) (.seq (.reg [
 mv 24 0,
 qo 25 (.p (lenF (tt 24))) [pp 24],
 mv 26 6,
 qo 27 (.p (arF .gtr (tt 25) (tt 26))) [pp 25,pp 26],
 mv 23 27]) (
 .cond (tt 23) (.seq (.reg [
 qo 4 (.p (S.get (.c (.slice none 0 0 0)))) [],
 qo 5 (.p (S.get (ii 5))) []]) (
 .ret)) (.skip))))))))) (
 .seq (.reg [
 mv 28 1,
 qo 29 (.c (callF (ff 57) [(tt 28)])) [pp 28],
 mv 7 29]) (
 .seq (.reg [
 qo 8 (.p (S.get (.c (.slice none 0 0 0)))) []]) (
 .seq (.seq (.reg [
 mv 30 1,
 qo 31 (.p (S.get (ii 0))) []]) (
 .block 1 (.loop c44_l1))) (
 .seq (.seq (.reg [
 mv 54 1,
 mv 12 54]) (
 .block 3 (.loop c44_l0))) (
 .seq (.reg [
 mv 74 8,
 mv 4 74,
 qo 5 (.p (S.get (ii 0))) []]) (
 .ret)))))))⟩
theorem c44_eq:fnOf Tryd.prog 44=some c44:=by kernel_rfl
theorem ldK_byte {ro:Bool} {A:List Nat} {q j:Nat} (hq:q < A.length) (hj:j < 64):ldO (some (.rows ro 64 (rowsK A))) (q*64+j) 1=some [.int .u8 (byte (A.getD q 0) j:Int)]:=by
 have h0:Nat.div (q*64+j) 64=q:=by show (q*64+j) / 64=q;omega
 have h1:nth (rowsK A) q=some [.blk (A.getD q 0)]:=nth_of (by rw[rowsK_get hq,getD_get hq])
 have h2:Nat.mod (q*64+j) 64=j:=by show (q*64+j) % 64=j;omega
 unfold ldO
 simp only[h0,h1,h2]
 exact disk.cut_byte _ j hj
theorem cut_four (B o:Nat) (ho:o+4≤64):cut [.blk B] o 4=some [.int .u8 (byte B o:Int),.int .u8 (byte B (o+1):Int),.int .u8 (byte B (o+2):Int),.int .u8 (byte B (o+3):Int)]:=by
 have h1:Nat.ble 64 o=false:=by
  cases he:Nat.ble 64 o with
  | false=>rfl
  | true=>exact absurd (ble_iff.1 he) (by omega)
 have h2:(o.beq 0&&Nat.ble 64 4)=false:=by rw[show Nat.ble 64 4=false from rfl,Bool.and_false]
 have h3:min 4 (64 - o)=4:=by omega
 unfold cut
 simp only[show Nat.beq 4 0=false from rfl,V.asBlk,h1,h2,h3]
 rfl
theorem ldK_four {ro:Bool} {A:List Nat} {q o:Nat} (hq:q < A.length) (ho:o+4≤64):ldO (some (.rows ro 64 (rowsK A))) (q*64+o) 4=some [.int .u8 (byte (A.getD q 0) o:Int),.int .u8 (byte (A.getD q 0) (o+1):Int),.int .u8 (byte (A.getD q 0) (o+2):Int),.int .u8 (byte (A.getD q 0) (o+3):Int)]:=by
 have h0:Nat.div (q*64+o) 64=q:=by show (q*64+o) / 64=q;omega
 have h1:nth (rowsK A) q=some [.blk (A.getD q 0)]:=nth_of (by rw[rowsK_get hq,getD_get hq])
 have h2:Nat.mod (q*64+o) 64=o:=by show (q*64+o) % 64=o;omega
 unfold ldO
 simp only[h0,h1,h2]
 exact cut_four _ o ho
def plB (A:List Nat) (i:Nat):Nat→Nat:=fun j=>byte (A.getD (i / 16) 0) (i % 16*4+j)
noncomputable def plS (A:List Nat) (i:Nat):Nat:=leN (plB A i) 2
noncomputable def plOk (A:List Nat) (i:Nat):Bool:=mayP (plS A i:Int) (plB A i 2:Int)&&decide (plB A i 3=0)
def plZ (A:List Nat) (i:Nat):Bool:=decide (plB A i 0=0)&&decide (plB A i 1=0)&&decide (plB A i 2=0)&&decide (plB A i 3=0)
noncomputable def cellA (A:List Nat) (k i:Nat):Cl:=⟨(plS A i:Int),(plB A i 2:Int),A.getD (k+i) 0⟩
noncomputable def getOk (A:List Nat) (n:Nat):Bool:=(List.range n).all (plOk A)&&(List.range (headsN n*16 - n)).all fun j=>plZ A (n+j)
noncomputable def getL (A:List Nat) (n:Nat):List Cl:=(List.range n).map (cellA A (headsN n))
section
variable {lf K:Nat} (hlf:1000 < lf)
include hlf
theorem plS_lt (A:List Nat) (i:Nat):plS A i < 65536:=by
 have e:plS A i=sumD (plB A i) 2:=leN_sumD (fun i _=>byte_lt _ _)
 rw[e]
 have:=sumD_lt (c:=plB A i) (n:=2) (fun i _=>byte_lt _ _)
 exact Nat.lt_of_lt_of_le this (by decide)
theorem ucread {G:Heap} {w c z L:Nat} {A:List Nat} (hw:G.get (.run w)=some (.rows false 64 (rowsK A))) (wo:w < G.next) (hL:A.length=L) {i:Nat} (hi:i / 16 < L) (hi2:i < 1000) (n:Nat):ret (U lf K (n+2) 72 [.slice (some ⟨.run w,0⟩) L c z,.int .i64 (i:Int)] G) fun v G'=>v=.tuple [.agg [.int .i64 (plS A i:Int),.int .i64 (plB A i 2:Int)],.bool (plOk A i)]∧Turns Z G G':=by
 subst hL
 obtain⟨q,hqe⟩:∃ q,q=i / 16:=⟨_,rfl⟩
 obtain⟨r,hre⟩:∃ r,r=i % 16:=⟨_,rfl⟩
 have hr16:r < 16:=by rw[hre];exact Nat.mod_lt _ (by decide)
 have aq:arith .quo (.int .i64 (i:Int)) (.int .i64 16)=some (.int .i64 (q:Int)):=by rw[hqe];exact quo_i64 i 16 (by decide) (by omega)
 have ar:arith .rem (.int .i64 (i:Int)) (.int .i64 16)=some (.int .i64 (r:Int)):=by rw[hre];exact rem_i64 i 16 (by decide)
 obtain⟨off,hoff⟩:∃ off,off=r*4:=⟨_,rfl⟩
 have hpl:∀ j,plB A i j=byte (A.getD q 0) (off+j):=fun j=>by unfold plB;rw[hoff,hre,hqe]
 have hS:plS A i=leN (fun j=>byte (A.getD q 0) (off+j)) 2:=leN_congr (fun j _=>hpl j)
 have hSl:=plS_lt hlf A i
 unfold plOk
 rw[hpl 2,hpl 3]
 obtain⟨S,hSe⟩:∃ S,S=plS A i:=⟨_,rfl⟩
 rw[← hSe] at hS hSl ⊢
 rw[← hqe] at hi
 have wm:IntKind.i64.wrap ((r:Int)*4)=(off:Int):=by rw[Go.Am.wrap_i64 (by omega)];omega
 have offle:off≤60:=by omega
 have b1:bounds 64 64 (some (.int .i64 (off:Int))) none none=some (off,64,64):=by
  simp only[bounds,boundD,bound,C5,nble]
  simp[show off≤64 by omega]
 have b2:bounds (64 - off) (64 - off) none (some (.int .i64 4)) none=some (0,4,64 - off):=by
  simp only[bounds,boundD,bound,nble]
  rw[show asNat (.int .i64 4)=some 4 from rfl]
  simp[show 4≤64 - off by omega]
 have f1:¬ (64=off):=by omega
 have f2:¬ (64 - off=0):=by omega
 have hq1:q+1≤A.length:=hi
 have as2:asNat (.int .i64 2)=some 2:=rfl
 have as3:asNat (.int .i64 3)=some 3:=rfl
 obtain⟨B,hB⟩:∃ B,B=A.getD q 0:=⟨_,rfl⟩
 have ld:∀ {H:Heap},Turns Z G H→∀ j,off+j < 64→ldO (H.get (.run w)) (q*64+off+j) 1=some [.int .u8 (byte B (off+j):Int)]:=fun tH j hj=>by
  rw[(tH.same (.run w) wo (fun h=>h)).trans hw,Nat.add_assoc,hB]
  exact ldK_byte hi hj
 rw[← hB] at hS ⊢
 have t1:=Turns.add Z G (.rows false 2 [[.int .i64 0,.int .i64 0]])
 have hg1:(G.add (.rows false 2 [[.int .i64 0,.int .i64 0]])).get (.run G.next)=some (.rows false 2 [[.int .i64 0,.int .i64 0]]):=by rw[Heap.get_add,if_pos rfl]
 obtain⟨H1,hH1⟩:∃ H1,G.add (.rows false 2 [[.int .i64 0,.int .i64 0]])=H1:=⟨_,rfl⟩
 have n1:H1.next=G.next+1:=by rw[← hH1];rfl
 rw[hH1] at t1 hg1
 have eg:=u_nget_ok (K:=K) (H:=H1) (p:=⟨.run w,q*64+off⟩) (len:=4) (cap:=64 - off) (loose:=0) (a:=0) (sz:=2) (c:=fun j=>byte B (off+j)) (by omega) (by omega) (by omega) (by omega) (.inl rfl) (fun _ _=>byte_lt _ _) (fun j hj=>by
  rw[ld_get,Nat.add_zero]
  exact ld t1 j (by omega)) lf (n:=n) (by omega)
 rw[← hS] at eg
 change U lf K (n+1) 78 [.slice (some ⟨.run w,q*64+off⟩) 4 (64 - off) 0,.int .i64 0,.int .i64 2] H1=_ at eg
 have ws:IntKind.i64.wrap (S:Int)=(S:Int):=Go.Am.wrap_i64 (by omega)
 have ld2:=ld t1 2 (by omega)
 have hm2:=byte_lt B (off+2)
 have hm3:=byte_lt B (off+3)
 obtain⟨M,hM⟩:∃ M,M=byte B (off+2):=⟨_,rfl⟩
 rw[← hM] at ld2 hm2 ⊢
 have w2:IntKind.i64.wrap (M:Int)=(M:Int):=Go.Am.wrap_i64 (by omega)
 have wid2:width [V.int .i64 (S:Int),.int .i64 (M:Int)]=2:=rfl
 have put2:put [V.int .i64 0,.int .i64 0] 0 [.int .i64 (S:Int),.int .i64 (M:Int)]=some [.int .i64 (S:Int),.int .i64 (M:Int)]:=rfl
 have cut2:cut [V.int .i64 (S:Int),.int .i64 (M:Int)] 0 2=some [.int .i64 (S:Int),.int .i64 (M:Int)]:=rfl
 have t2:Turns Z H1 ((H1.add (.rows false 2 [[.int .i64 0,.int .i64 0]])).set (.run H1.next) (.rows false 2 [[.int .i64 (S:Int),.int .i64 (M:Int)]])):=by repeat (first | exact Turns.refl _ _ | apply Turns.skip | apply Turns.addm | apply Turns.setb | apply Turns.setl | apply Turns.setr | refine Turns.setn ?_ _ (by omega) _ | refine Turns.trans ?_ (tF _))
 have hg2:((H1.add (.rows false 2 [[.int .i64 0,.int .i64 0]])).set (.run H1.next) (.rows false 2 [[.int .i64 (S:Int),.int .i64 (M:Int)]])).get (.run H1.next)=some (.rows false 2 [[.int .i64 (S:Int),.int .i64 (M:Int)]]):=by rw[Heap.get_set,if_pos rfl]
 obtain⟨H2,hH2⟩:∃ H2,(H1.add (.rows false 2 [[.int .i64 0,.int .i64 0]])).set (.run H1.next) (.rows false 2 [[.int .i64 (S:Int),.int .i64 (M:Int)]])=H2:=⟨_,rfl⟩
 have n2:H2.next=H1.next+1:=by rw[← hH2];rfl
 rw[hH2] at t2 hg2
 have hr2:=(t2.same (.run G.next) (by show _ < _;omega) (fun h=>h)).trans hg1
 obtain⟨v3,H3,e3,rfl,t3⟩:=ucmay hlf (K:=K) H2 (S:Int) (M:Int) n
 have hg3:=(t3.same (.run H1.next) (by show _ < _;omega) (fun h=>h)).trans hg2
 have hr3:=(t3.same (.run G.next) (by show _ < _;omega) (fun h=>h)).trans hr2
 have t13:=(t1.trans t2).trans t3
 have ld3:=ld t13 3 (by omega)
 obtain⟨N3,hN3⟩:∃ N3,N3=byte B (off+3):=⟨_,rfl⟩
 rw[← hN3] at ld3 hm3 ⊢
 obtain⟨b,hb⟩:∃ b,b=mayP (S:Int) (M:Int):=⟨_,rfl⟩
 rw[← hb] at e3 ⊢
 have e0:((N3:Int)==0)=decide (N3=0):=by
  by_cases h:N3=0
  ·subst h;rfl
  ·rw[decide_eq_false h,beq_eq_false_iff_ne];omega
 obtain⟨Q,hQ⟩:∃ Q:List (Option V × Option V),Q=[(loadF (.t (Tr.path 9)) 2 .ag (Tr.setP (Tr.path 9) (.ptr (some ⟨.run H1.next,0⟩)) .e) H2,some (.agg [.int .i64 (S:Int),.int .i64 (M:Int)])),(loadF (.t (Tr.path 9)) 2 .ag (Tr.setP (Tr.path 9) (.ptr (some ⟨.run H1.next,0⟩)) .e) H3,some (.agg [.int .i64 (S:Int),.int .i64 (M:Int)]))]:=⟨_,rfl⟩
 have hQ':∀ x ∈ Q,x.1=x.2:=by
  rw[hQ]
  intro x hx
  simp only[List.mem_cons,List.not_mem_nil,or_false] at hx
  rcases hx with rfl | rfl<;>simp (maxDischargeDepth:=12) only[hg2,hg3,cut2,hv,ldO_one,stO_one,sy,tup,↓reduceIte,zA,zG,zC,zD,zF,zE,zB,zH,reduceCtorEq]
 obtain⟨H4,hH4⟩:∃ H4,H3.set (.run G.next) (.rows false 2 [[.int .i64 (S:Int),.int .i64 (M:Int)]])=H4:=⟨_,rfl⟩
 have hr4:H4.get (.run G.next)=some (.rows false 2 [[.int .i64 (S:Int),.int .i64 (M:Int)]]):=by rw[← hH4,Heap.get_set,if_pos rfl]
 have t14:Turns Z G H4:=by rw[← hH4];exact t13.setn _ (Nat.le_refl _) _
 have ld4:=ld t14 3 (by omega)
 rw[← hN3] at ld4
 obtain⟨Q2,hQ2⟩:∃ Q2:List (Option V × Option V),Q2=Q++[(loadF (.t (Tr.path 36)) 1 .sc (Tr.setP (Tr.path 36) (.ptr (some ⟨.run w,q*64+off+3⟩)) .e) H3,some (.int .u8 (N3:Int))),(loadF (.t (Tr.path 36)) 1 .sc (Tr.setP (Tr.path 36) (.ptr (some ⟨.run w,q*64+off+3⟩)) .e) H4,some (.int .u8 (N3:Int)))]:=⟨_,rfl⟩
 have hQ2':∀ x ∈ Q2,x.1=x.2:=by
  rw[hQ2]
  intro x hx
  rcases List.mem_append.1 hx with hx | hx
  ·exact hQ' x hx
  ·simp only[List.mem_cons,List.not_mem_nil,or_false] at hx
   rcases hx with rfl | rfl<;>simp (maxDischargeDepth:=12) only[ld3,ld4,hv,ldO_one,stO_one,sy,tup,↓reduceIte,zA,zG,zC,zD,zF,zE,zB,zH,reduceCtorEq]
 refine ret_callU rfl rfl c72_eq ?_
 cases b with
 | true=>
  simp (maxDischargeDepth:=12) only[c72,hH1,aq,hq1,ar,arith_mul,wm,b1,f1,b2,f2,eg,ws,as2,as3,ld2,w2,wid2,put2,hH2,hg2,cut2,e3,ld3,e0,hr3,hH4,Nat.mul_one,Nat.sub_zero,hv,ldO_one,stO_one,sy,tup,↓reduceIte,zA,zG,zC,zD,zF,zE,zB,zH,reduceCtorEq]
  rw[endD_q (q:=Q2) (by kernel_rfl) (by rw[hQ2,hQ];kernel_rfl)]
  simp (maxDischargeDepth:=12) only[hr4,cut2,hv,ldO_one,stO_one,sy,tup,↓reduceIte,zA,zG,zC,zD,zF,zE,zB,zH,reduceCtorEq]
  exact⟨trivial,.inr trivial,_,rfl,rfl,t14.owe hQ2'⟩
 | false=>
  simp (maxDischargeDepth:=12) only[c72,hH1,aq,hq1,ar,arith_mul,wm,b1,f1,b2,f2,eg,ws,as2,as3,ld2,w2,wid2,put2,hH2,hg2,cut2,e3,ld3,e0,hr3,hH4,Nat.mul_one,Nat.sub_zero,hv,ldO_one,stO_one,sy,tup,↓reduceIte,zA,zG,zC,zD,zF,zE,zB,zH,reduceCtorEq]
  rw[endD_q (q:=Q) (by kernel_rfl) (by rw[hQ];kernel_rfl)]
  simp (maxDischargeDepth:=12) only[hr4,cut2,hv,ldO_one,stO_one,sy,tup,↓reduceIte,zA,zG,zC,zD,zF,zE,zB,zH,reduceCtorEq]
  exact⟨trivial,.inr trivial,_,rfl,rfl,t14.owe hQ'⟩
end
end Go.Proofs.YtabebpemfinejaaDoor.draft
namespace Go.Proofs.YtabebpemfinejaaDoor.draft
open Go.Am
def rowsC (l:List Cl):List (List V):=l.map rowC
theorem rowsC_len (l:List Cl):(rowsC l).length=l.length:=by unfold rowsC;rw[List.length_map]
section
variable {lf K:Nat} (hlf:1000 < lf)
include hlf
theorem ucget_cells {G:Heap} {w c z n:Nat} {A:List Nat} (hw:G.get (.run w)=some (.rows false 64 (rowsK A))) (wo:w < G.next) (h1:1≤n∧n≤32) (hA:A.length=recS n) {v1:V} (d:Nat):∀ t:T,t.getP (Tr.path 0)=some (.slice (some ⟨.run w,0⟩) (recS n) c z)→t.getP (Tr.path 1)=some v1→t.getP (Tr.path 7)=some (.int .i64 (headsN n:Int))→t.getP (Tr.path 8)=some (.slice none 0 0 0)→t.getP (Tr.path 30)=some (.int .i64 (n:Int))→t.getP (Tr.path 31)=some (.int .i64 0) →
  wp (loopF (runC (U lf K (d+2)) lf c44_l1) lf ⟨t,G,[]⟩) fun x s=>s.d=[]∧Turns Z G s.H∧((x=.ex 1∧(List.range n).all (plOk A)=true∧s.t.getP (Tr.path 0)=some (.slice (some ⟨.run w,0⟩) (recS n) c z)∧s.t.getP (Tr.path 1)=some v1∧s.t.getP (Tr.path 7)=some (.int .i64 (headsN n:Int))∧∃ y,s.t.getP (Tr.path 8)=some y∧Lst G s.H 66 (rowsC (getL A n)) y)∨(x=.ret∧(List.range n).all (plOk A)=false∧s.t.getP (Tr.path 4)=some (.slice none 0 0 0)∧s.t.getP (Tr.path 5)=some (.int .i64 5))):=by
 intro t q0 q1 q7 q8 q30 q31
 have hAr:A.length=headsN n+n:=hA
 have hh:headsN n=(n+15) / 16:=rfl
 refine wp_loopF (fun u s=>∃(i:Nat) (y:V),u=n - i∧i≤n∧s.d=[]∧s.t.getP (Tr.path 0)=some (.slice (some ⟨.run w,0⟩) (recS n) c z)∧s.t.getP (Tr.path 1)=some v1∧s.t.getP (Tr.path 7)=some (.int .i64 (headsN n:Int))∧s.t.getP (Tr.path 8)=some y∧s.t.getP (Tr.path 30)=some (.int .i64 (n:Int))∧s.t.getP (Tr.path 31)=some (.int .i64 (i:Int))∧Lst G s.H 66 (rowsC ((List.range i).map (cellA A (headsN n)))) y∧(List.range i).all (plOk A)=true∧Turns Z G s.H)
  ?_ lf n _ ⟨0,_,rfl,Nat.zero_le _,rfl,q0,q1,q7,q8,q30,q31,Lst.nil _ _ _,rfl,Turns.refl _ _⟩ (by omega)
 rintro u ⟨t,HH,dd⟩ ⟨i,y,rfl,hi,hd,q0,q1,q7,q8,q30,q31,hy,hok,hT⟩
 dsimp only at hd q0 q1 q7 q8 q30 q31 hy hT
 subst hd
 by_cases hlt:i < n
 rotate_left
 ·have:i=n:=by omega
  subst this
  simp (maxDischargeDepth:=12) only[c44_l1,q0,q30,q31,Int.lt_irrefl,Nat.lt_irrefl,hv,ldO_one,stO_one,sy,tup,↓reduceIte,zA,zG,zC,zD,zF,zE,zB,zH,reduceCtorEq]
  exact⟨trivial,hT,.inl ⟨trivial,hok,by simp[q0],by simp[q1],by simp[q7],y,by simp[q8],hy⟩⟩
 have hlt':(i:Int) < (n:Int):=by omega
 have w1:IntKind.i64.wrap ((i:Int)+1)=((i+1:Nat):Int):=by rw[Go.Am.wrap_i64 (by omega)];omega
 have hwH:=(hT.same (.run w) wo (fun h=>h)).trans hw
 have woH:w < HH.next:=Nat.lt_of_lt_of_le wo hT.next
 obtain⟨v2,H2,e2,rfl,t2⟩:=ucread hlf (K:=K) (c:=c) (z:=z) hwH woH hA (i:=i) (by rw[← hA,hAr];omega) (by omega) d
 have hall:(List.range (i+1)).all (plOk A)=plOk A i:=by rw[List.range_succ,List.all_append,hok,Bool.true_and];simp
 obtain⟨S,hS⟩:∃ S,S=plS A i:=⟨_,rfl⟩
 obtain⟨M,hM⟩:∃ M,M=plB A i 2:=⟨_,rfl⟩
 rw[← hS,← hM] at e2
 have wid2:width [V.int .i64 (S:Int),.int .i64 (M:Int)]=2:=rfl
 have put2:put [V.int .i64 0,.int .i64 0] 0 [.int .i64 (S:Int),.int .i64 (M:Int)]=some [.int .i64 (S:Int),.int .i64 (M:Int)]:=rfl
 have cut2:cut [V.int .i64 (S:Int),.int .i64 (M:Int)] 0 2=some [.int .i64 (S:Int),.int .i64 (M:Int)]:=rfl
 have t3:Turns Z H2 ((H2.add (.rows false 2 [[.int .i64 0,.int .i64 0]])).set (.run H2.next) (.rows false 2 [[.int .i64 (S:Int),.int .i64 (M:Int)]])):=by repeat (first | exact Turns.refl _ _ | apply Turns.skip | apply Turns.addm | apply Turns.setb | apply Turns.setl | apply Turns.setr | refine Turns.setn ?_ _ (by omega) _ | refine Turns.trans ?_ (tF _))
 have hg3:((H2.add (.rows false 2 [[.int .i64 0,.int .i64 0]])).set (.run H2.next) (.rows false 2 [[.int .i64 (S:Int),.int .i64 (M:Int)]])).get (.run H2.next)=some (.rows false 2 [[.int .i64 (S:Int),.int .i64 (M:Int)]]):=by rw[Heap.get_set,if_pos rfl]
 obtain⟨H3,hH3⟩:∃ H3,(H2.add (.rows false 2 [[.int .i64 0,.int .i64 0]])).set (.run H2.next) (.rows false 2 [[.int .i64 (S:Int),.int .i64 (M:Int)]])=H3:=⟨_,rfl⟩
 rw[hH3] at t3 hg3
 by_cases hpo:plOk A i=true
 rotate_left
 ·rw[Bool.not_eq_true] at hpo
  rw[hpo] at e2
  simp (maxDischargeDepth:=12) only[c44_l1,q0,q30,q31,hlt',hlt,e2,wid2,put2,hH3,hv,ldO_one,stO_one,sy,tup,↓reduceIte,zA,zG,zC,zD,zF,zE,zB,zH,reduceCtorEq]
  refine⟨trivial,(hT.trans t2).trans t3,.inr ⟨trivial,?_,trivial,trivial⟩⟩
  rw[List.all_eq_false]
  exact⟨i,List.mem_range.2 hlt,by rw[hpo];decide⟩
 rw[hpo] at e2
 obtain⟨q,hq⟩:∃ q,q=headsN n+i:=⟨_,rfl⟩
 have wq:IntKind.i64.wrap ((headsN n:Int)+(i:Int))=(q:Int):=by rw[Go.Am.wrap_i64 (by omega)];omega
 have hqA:q < A.length:=by omega
 have hq1:q+1≤recS n:=by rw[← hA];exact hqA
 have hw3:=((t2.trans t3).same (.run w) woH (fun h=>h)).trans hwH
 have ld:=ldK (ro:=false) hqA
 rw[← getD_get hqA] at ld
 obtain⟨X,hX⟩:∃ X,X=A.getD q 0:=⟨_,rfl⟩
 rw[← hX] at ld
 have hce:rowC (cellA A (headsN n) i)=[.int .i64 (S:Int),.int .i64 (M:Int),.blk X]:=by
  unfold cellA rowC
  rw[hS,hM,hX,hq]
 have hy3:=(hy.turns t2 (fun _ _ h=>h)).turns t3 (fun _ _ h=>h)
 have t4:=Turns.add Z H3 (.rows false 66 [[.int .i64 (S:Int),.int .i64 (M:Int),.blk X]])
 have hg4:(H3.add (.rows false 66 [[.int .i64 (S:Int),.int .i64 (M:Int),.blk X]])).get (.run H3.next)=some (.rows false 66 [[.int .i64 (S:Int),.int .i64 (M:Int),.blk X]]):=by rw[Heap.get_add,if_pos rfl]
 obtain⟨H4,hH4⟩:∃ H4,H3.add (.rows false 66 [[.int .i64 (S:Int),.int .i64 (M:Int),.blk X]])=H4:=⟨_,rfl⟩
 rw[hH4] at t4 hg4
 have hy4:=hy3.turns t4 (fun _ _ h=>h)
 have tt:=((hT.trans t2).trans t3).trans t4
 have hrl:(rowsC ((List.range i).map (cellA A (headsN n)))).length=i:=by rw[rowsC_len,List.length_map,List.length_range]
 obtain⟨H5,ea,hy5,t5,_⟩:=hy4.app1 (by':=80) tt.next hg4 rfl (by decide) (by rw[hrl];omega) (by rw[hrl];omega)
 rw[hrl] at ea hy5
 have t5':=lst_away hy4 tt (Nat.le_refl _) t5
 have pA:put [V.int .i64 0,.int .i64 0,.blk 0] 0 [.int .i64 (S:Int),.int .i64 (M:Int)]=some [.int .i64 (S:Int),.int .i64 (M:Int),.blk 0]:=rfl
 have pB:put [V.int .i64 (S:Int),.int .i64 (M:Int),.blk 0] 2 [.blk X]=some [.int .i64 (S:Int),.int .i64 (M:Int),.blk X]:=rfl
 have wid66:width [V.int .i64 (S:Int),.int .i64 (M:Int),.blk X]=66:=rfl
 simp (maxDischargeDepth:=12) only[c44_l1,q0,q7,q8,q30,q31,hlt',hlt,e2,wid2,put2,hH3,hg3,cut2,wq,hq1,hw3,ld,pA,pB,wid66,hH4,ea,Nat.mul_one,hv,ldO_one,stO_one,sy,tup,↓reduceIte,zA,zG,zC,zD,zF,zE,zB,zH,reduceCtorEq]
 rw[endD_ok (by kernel_rfl) (by kernel_rfl)]
 simp (maxDischargeDepth:=12) only[w1,q31,hv,ldO_one,stO_one,sy,tup,↓reduceIte,zA,zG,zC,zD,zF,zE,zB,zH,reduceCtorEq]
 refine⟨n - (i+1),by omega,i+1,_,rfl,by omega,trivial,by simp[q0],by simp[q1],by simp[q7],rfl,by simp[q30],by simp,?_,by rw[hall,hpo],t5'⟩
 have er:rowsC ((List.range (i+1)).map (cellA A (headsN n)))=rowsC ((List.range i).map (cellA A (headsN n)))++[[.int .i64 (S:Int),.int .i64 (M:Int),.blk X]]:=by
  rw[List.range_succ,List.map_append]
  unfold rowsC
  rw[List.map_append,← hce];rfl
 rw[er]
 exact hy5
theorem ucget_tail {G:Heap} {w c z n:Nat} {A:List Nat} (hw:G.get (.run w)=some (.rows false 64 (rowsK A))) (wo:w < G.next) (h1:1≤n∧n≤32) (hA:A.length=recS n) {y:V} (d:Nat):∀ t:T,t.getP (Tr.path 0)=some (.slice (some ⟨.run w,0⟩) (recS n) c z)→t.getP (Tr.path 7)=some (.int .i64 (headsN n:Int))→t.getP (Tr.path 8)=some y→t.getP (Tr.path 12)=some (.int .i64 (n:Int)) →
  wp (loopF (runC (U lf K (d+2)) lf c44_l0) lf ⟨t,G,[]⟩) fun x s=>s.d=[]∧s.H=G∧((x=.ex 3∧((List.range (headsN n*16 - n)).all fun j=>plZ A (n+j))=true∧s.t.getP (Tr.path 8)=some y)∨(x=.ret∧((List.range (headsN n*16 - n)).all fun j=>plZ A (n+j))=false∧s.t.getP (Tr.path 4)=some (.slice none 0 0 0)∧s.t.getP (Tr.path 5)=some (.int .i64 5))):=by
 intro t q0 q7 q8 q12
 have hAr:A.length=headsN n+n:=hA
 have hh:headsN n=(n+15) / 16:=rfl
 obtain⟨E,hE⟩:∃ E,E=headsN n*16:=⟨_,rfl⟩
 have hEi:(E:Int)=(headsN n:Int)*16:=by rw[hE];exact Int.natCast_mul _ _
 have wE:IntKind.i64.wrap ((headsN n:Int)*16)=(E:Int):=by rw[Go.Am.wrap_i64 (by omega)];omega
 rw[← hE]
 refine wp_loopF (fun u s=>∃(i:Nat),u=E - i∧n≤i∧i≤E∧s.d=[]∧s.H=G∧s.t.getP (Tr.path 0)=some (.slice (some ⟨.run w,0⟩) (recS n) c z)∧s.t.getP (Tr.path 7)=some (.int .i64 (headsN n:Int))∧s.t.getP (Tr.path 8)=some y∧s.t.getP (Tr.path 12)=some (.int .i64 (i:Int))∧((List.range (i - n)).all fun j=>plZ A (n+j))=true)
  ?_ lf (E - n) _ ⟨n,rfl,Nat.le_refl _,by omega,rfl,rfl,q0,q7,q8,q12,by rw[Nat.sub_self];rfl⟩ (by omega)
 rintro u ⟨t,HH,dd⟩ ⟨i,rfl,hni,hi,hd,hH,q0,q7,q8,q12,hok⟩
 dsimp only at hd hH q0 q7 q8 q12
 subst hd;subst hH
 by_cases hlt:i < E
 rotate_left
 ·have:i=E:=by omega
  subst this
  simp (maxDischargeDepth:=12) only[c44_l0,q7,q12,arith_mul,wE,Int.lt_irrefl,Nat.lt_irrefl,hv,ldO_one,stO_one,sy,tup,↓reduceIte,zA,zG,zC,zD,zF,zE,zB,zH,reduceCtorEq]
  exact⟨trivial,trivial,.inl ⟨trivial,hok,by simp[q8]⟩⟩
 have hlt':(i:Int) < (E:Int):=by omega
 have w1:IntKind.i64.wrap ((i:Int)+1)=((i+1:Nat):Int):=by rw[Go.Am.wrap_i64 (by omega)];omega
 obtain⟨q,hqe⟩:∃ q,q=i / 16:=⟨_,rfl⟩
 obtain⟨r,hre⟩:∃ r,r=i % 16:=⟨_,rfl⟩
 have hr16:r < 16:=by rw[hre];exact Nat.mod_lt _ (by decide)
 have aq:arith .quo (.int .i64 (i:Int)) (.int .i64 16)=some (.int .i64 (q:Int)):=by rw[hqe];exact quo_i64 i 16 (by decide) (by omega)
 have ar:arith .rem (.int .i64 (i:Int)) (.int .i64 16)=some (.int .i64 (r:Int)):=by rw[hre];exact rem_i64 i 16 (by decide)
 obtain⟨off,hoff⟩:∃ off,off=r*4:=⟨_,rfl⟩
 have hpl:∀ j,plB A i j=byte (A.getD q 0) (off+j):=fun j=>by unfold plB;rw[hoff,hre,hqe]
 have wm:IntKind.i64.wrap ((r:Int)*4)=(off:Int):=by rw[Go.Am.wrap_i64 (by omega)];omega
 have offle:off≤60:=by omega
 have b1:bounds 64 64 (some (.int .i64 (off:Int))) none none=some (off,64,64):=by
  simp only[bounds,boundD,bound,C5,nble]
  simp[show off≤64 by omega]
 have b2:bounds (64 - off) (64 - off) none (some (.int .i64 4)) none=some (0,4,64 - off):=by
  simp only[bounds,boundD,bound,nble]
  rw[show asNat (.int .i64 4)=some 4 from rfl]
  simp[show 4≤64 - off by omega]
 have f1:¬ (64=off):=by omega
 have f2:¬ (64 - off=0):=by omega
 have hq1:q+1≤recS n:=by rw[← hA,hAr];omega
 have ld:=ldK_four (ro:=false) (A:=A) (q:=q) (o:=off) (by omega) (by omega)
 rw[← hw] at ld
 have hall:((List.range (i+1 - n)).all fun j=>plZ A (n+j))=plZ A i:=by
  rw[show i+1 - n=(i - n)+1 by omega,List.range_succ,List.all_append,hok,Bool.true_and]
  simp only[List.all_cons,List.all_nil,Bool.and_true]
  rw[show n+(i - n)=i by omega]
 have hz:plZ A i=(decide (byte (A.getD q 0) off=0)&&decide (byte (A.getD q 0) (off+1)=0)&&decide (byte (A.getD q 0) (off+2)=0)&&decide (byte (A.getD q 0) (off+3)=0)):=by
  unfold plZ
  rw[hpl 0,hpl 1,hpl 2,hpl 3,Nat.add_zero]
 rw[hz] at hall
 generalize byte (A.getD q 0) off=y0 at ld hall hz
 generalize byte (A.getD q 0) (off+1)=y1 at ld hall hz
 generalize byte (A.getD q 0) (off+2)=y2 at ld hall hz
 generalize byte (A.getD q 0) (off+3)=y3 at ld hall hz
 have e0:∀ x:Nat,((x:Int)==0)=decide (x=0):=fun x=>by
  by_cases h:x=0
  ·subst h;rfl
  ·rw[decide_eq_false h,beq_eq_false_iff_ne];omega
 have hzb:∃ zb,zb=(decide (y0=0)&&(decide (y1=0)&&(decide (y2=0)&&decide (y3=0)))):=⟨_,rfl⟩
 obtain⟨zb,hzb⟩:=hzb
 rw[Bool.and_assoc,Bool.and_assoc,← hzb] at hall hz
 cases zb with
 | true=>
  simp (maxDischargeDepth:=12) only[c44_l0,q0,q7,q12,arith_mul,wE,hlt',hlt,aq,hq1,ar,wm,b1,f1,b2,f2,ld,e0,← hzb,s2apF,w1,Nat.mul_one,Nat.sub_zero,hv,ldO_one,stO_one,sy,tup,↓reduceIte,zA,zG,zC,zD,zF,zE,zB,zH,reduceCtorEq]
  exact⟨E - (i+1),by omega,i+1,rfl,by omega,by omega,trivial,trivial,by simp[q0],by simp[q7],by simp[q8],by simp,hall⟩
 | false=>
  simp (maxDischargeDepth:=12) only[c44_l0,q0,q7,q12,arith_mul,wE,hlt',hlt,aq,hq1,ar,wm,b1,f1,b2,f2,ld,e0,← hzb,s2apF,w1,Nat.mul_one,Nat.sub_zero,hv,ldO_one,stO_one,sy,tup,↓reduceIte,zA,zG,zC,zD,zF,zE,zB,zH,reduceCtorEq]
  refine⟨trivial,trivial,.inr ⟨trivial,?_,trivial,trivial⟩⟩
  rw[List.all_eq_false]
  exact⟨i - n,List.mem_range.2 (by omega),by rw[show n+(i - n)=i by omega,hz];decide⟩
theorem ucget {G:Heap} {w c z n:Nat} {A:List Nat} (hw:G.get (.run w)=some (.rows false 64 (rowsK A))) (wo:w < G.next) (h1:1≤n∧n≤32) (hA:A.length=recS n) (d:Nat):ret (U lf K (d+3) 44 [.slice (some ⟨.run w,0⟩) (recS n) c z,.int .i64 (n:Int)] G) fun v G'=>Turns Z G G'∧((getOk A n=true∧∃ y,v=.tuple [y,.int .i64 0]∧Lst G G' 66 (rowsC (getL A n)) y)∨(getOk A n=false∧v=.tuple [.slice none 0 0 0,.int .i64 5])):=by
 have e1:=usize hlf (K:=K) G (k:=n) (by omega) d
 have es:szR n=recS n:=szR_rec hlf h1.1 h1.2
 rw[es] at e1
 have e2:=uheads hlf (K:=K) G (k:=n) (by omega) (d+1)
 change U lf K (d+2) 57 [.int .i64 (n:Int)] G=some (.v (.int .i64 ((headsN n:Nat):Int)),G) at e2
 have hz:((recS n:Int)==0)=false:=by rw[beq_eq_false_iff_ne];unfold recS;omega
 have hl1:=ucget_cells hlf (K:=K) (c:=c) (z:=z) hw wo h1 hA (v1:=.int .i64 (n:Int)) d
 have hl2:=fun {G2:Heap} (t:Turns Z G G2) (y:V)=>ucget_tail hlf (K:=K) (c:=c) (z:=z) (y:=y) ((t.same (.run w) wo (fun h=>h)).trans hw) (Nat.lt_of_lt_of_le wo t.next) h1 hA d
 generalize recS n=RS at e1 hz hl1 hl2 ⊢
 refine ret_callU rfl rfl c44_eq ?_
 have hgo:getOk A n=((List.range n).all (plOk A)&&(List.range (headsN n*16 - n)).all fun j=>plZ A (n+j)):=rfl
 simp (maxDischargeDepth:=12) only[c44,e1,hz,e2,Int.lt_irrefl,Nat.lt_irrefl,hv,ldO_one,stO_one,sy,tup,↓reduceIte,zA,zG,zC,zD,zF,zE,zB,zH,reduceCtorEq]
 refine wp_ctx (F:=fun r=>seqC _ _ _ (blockC _ r)) (hl1 _ ?_ ?_ ?_ ?_ ?_ ?_) ?_
 ·simp only[sy,tup,↓reduceIte,zA,zG,zC,zD,zF,zE,zB,zH,reduceCtorEq]
 ·simp only[sy,tup,↓reduceIte,zA,zG,zC,zD,zF,zE,zB,zH,reduceCtorEq]
 ·simp only[sy,tup,↓reduceIte,zA,zG,zC,zD,zF,zE,zB,zH,reduceCtorEq]
 ·simp only[sy,tup,↓reduceIte,zA,zG,zC,zD,zF,zE,zB,zH,reduceCtorEq]
 ·simp only[sy,tup,↓reduceIte,zA,zG,zC,zD,zF,zE,zB,zH,reduceCtorEq]
 ·simp only[sy,tup,↓reduceIte,zA,zG,zC,zD,zF,zE,zB,zH,reduceCtorEq]
 rintro x ⟨t,G2,dd⟩ ⟨hd,tT,⟨rfl,hok,q0,q1,q7,y,q8,hy⟩ | ⟨rfl,hok,q4,q5⟩⟩
 ·dsimp only at hd tT q0 q1 q7 q8 hy
  subst hd
  simp (maxDischargeDepth:=12) only[q1,hv,ldO_one,stO_one,sy,tup,↓reduceIte,zA,zG,zC,zD,zF,zE,zB,zH,reduceCtorEq]
  refine wp_ctx (F:=fun r=>seqC _ _ _ (blockC _ r)) (hl2 tT y _ ?_ ?_ ?_ ?_) ?_
  ·simp only[q0,sy,tup,↓reduceIte,zA,zG,zC,zD,zF,zE,zB,zH,reduceCtorEq]
  ·simp only[q7,sy,tup,↓reduceIte,zA,zG,zC,zD,zF,zE,zB,zH,reduceCtorEq]
  ·simp only[q8,sy,tup,↓reduceIte,zA,zG,zC,zD,zF,zE,zB,zH,reduceCtorEq]
  ·simp only[sy,tup,↓reduceIte,zA,zG,zC,zD,zF,zE,zB,zH,reduceCtorEq]
  rintro x ⟨t,G3,dd⟩ ⟨hd,hG,⟨rfl,hok2,q8⟩ | ⟨rfl,hok2,q4,q5⟩⟩
  ·dsimp only at hd hG q8
   subst hd;subst hG
   simp (maxDischargeDepth:=12) only[q8,hv,ldO_one,stO_one,sy,tup,↓reduceIte,zA,zG,zC,zD,zF,zE,zB,zH,reduceCtorEq]
   exact⟨trivial,.inr trivial,_,rfl,tT,.inl ⟨by rw[hgo,hok,hok2];rfl,y,rfl,hy⟩⟩
  ·dsimp only at hd hG q4 q5
   subst hd;subst hG
   simp (maxDischargeDepth:=12) only[q4,q5,hv,ldO_one,stO_one,sy,tup,↓reduceIte,zA,zG,zC,zD,zF,zE,zB,zH,reduceCtorEq]
   exact⟨trivial,.inr trivial,_,rfl,tT,.inr ⟨by rw[hgo,hok2,Bool.and_false],rfl⟩⟩
 ·dsimp only at hd tT q4 q5
  subst hd
  simp (maxDischargeDepth:=12) only[q4,q5,hv,ldO_one,stO_one,sy,tup,↓reduceIte,zA,zG,zC,zD,zF,zE,zB,zH,reduceCtorEq]
  exact⟨trivial,.inr trivial,_,rfl,tT,.inr ⟨by rw[hgo,hok,Bool.false_and],rfl⟩⟩
end
end Go.Proofs.YtabebpemfinejaaDoor.draft
namespace Go.Proofs.YtabebpemfinejaaDoor.draft
open Go.Am
open disk (bx Fit A1 R1 Low Bn)
noncomputable def c16_l0:C:=.seq (.reg [
 qo 49 (.p (arF .lss (tt 48) (tt 47))) [pp 48,pp 47]]) (
 .seq (.cond (tt 49) (.skip) (.exit 1)) (
 .seq (.block 2 (.seq (.reg [
 qo 50 (.p (iaddrSF (tt 46) (tt 48) 1)) [pp 46,pp 48],
 qo 51 (.r (loadF (tt 50) 1 .sc)) [pp 50],
 mv 9 51]) (
 .seq (.regD [
 mv 53 0,
 qo 54 (.p (nilcF (tt 53))) [pp 53],
 qo 55 (.p (faddrF (tt 54) 0)) [pp 54],
 qo 56 (.r (loadF (tt 55) 1 .sc)) [pp 55],
 mv 57 0,
 qo 58 (.p (nilcF (tt 57))) [pp 57],
 qo 59 (.p (faddrF (tt 58) 1)) [pp 58],
 qo 60 (.r (loadF (tt 59) 1 .sc)) [pp 59],
 mv 61 9,
 qo 62 (.c (callF (ff 43) [(tt 56),(tt 60),(tt 61)])) [pp 56,pp 60,pp 61],
 mv 52 62,
 qo 63 (.p (extF (tt 52) 0)) [pp 52],
 qo 64 (.p (extF (tt 52) 1)) [pp 52],
 qo 10 (.m (allocF 64 [.blk 0])) [],
 qn (.a (storeF (tt 10) (tt 63) 64)) [pp 10,pp 63],
 mv 11 64] [0,1,3,7,0,16,48,112,0,511,1023,2047,2047,0,12287,32767]) (
 .seq (.seq (.reg [
 mv 65 11,
 qo 66 (.p (eqcF true false [.int .i64] (tt 65) (ii 0))) [pp 65]]) (
 .cond (tt 66) (.seq (.reg [
 mv 67 11,
 qo 4 (.p (S.get (.c (.slice none 0 0 0)))) [],
 mv 5 67]) (
 .ret)) (.skip))) (
 .reg [
 mv 68 7,
 qo 69 (.r (loadF (tt 10) 64 .bk)) [pp 10],
 qo 70 (.m (bsliceF 1 64 [.blk 0] [(0,64,(tt 69))])) [pp 69],
 qo 71 (.a (appF 64 64 (tt 68) (tt 70))) [pp 68,pp 70],
 mv 7 71]))))) (
 .reg [
 qo 72 (.p (arF .add (tt 48) (ii 1))) [pp 48],
 mv 48 72])))
noncomputable def c16:CFn:=⟨[.tmp (pp 4),.tmp (pp 5)],
 .seq (.reg [
 qo 4 (.p (S.get (.c (.slice none 0 0 0)))) [],
 qo 5 (.p (S.get (ii 0))) []]) (
 .seq (.block 0 (.seq (.reg [
 mv 13 0,
 qo 14 (.c (callF (ff 25) [(tt 13)])) [pp 13],
 mv 12 14]) (
 .cond (tt 12) (.seq (.reg [
 qo 4 (.p (S.get (.c (.slice none 0 0 0)))) [],
 qo 5 (.p (S.get (ii 1))) []]) (
 .ret)) (.seq (.reg [
 mv 16 1,
 mv 17 0,
 qo 18 (.p (nilcF (tt 17))) [pp 17],
 qo 19 (.p (faddrF (tt 18) 5)) [pp 18],
 qo 20 (.r (loadF (tt 19) 1 .sc)) [pp 19],
 qo 21 (.p (arF .lss (tt 16) (tt 20))) [pp 16,pp 20],
 mv 22 21,
 mg 23 1 22 false,
 mg 24 0 22 false,
 qg 25 (.c (callF (ff 27) [(tt 24)])) 22 false [pp 24],
 qg 26 (.p (arF .geq (tt 23) (tt 25))) 22 false [pp 23,pp 25],
 qo 27 (.p (pickF (tt 22) (.c (.bool true)) (tt 26))) [pp 22,pp 26],
 mv 15 27]) (
 .cond (tt 15) (.seq (.reg [
 qo 4 (.p (S.get (.c (.slice none 0 0 0)))) [],
 qo 5 (.p (S.get (ii 7))) []]) (
 .ret)) (.skip)))))) (
 .seq (.regD [
 mv 28 0,
 qo 29 (.p (nilcF (tt 28))) [pp 28],
 qo 30 (.p (faddrF (tt 29) 8)) [pp 29],
 qo 31 (.r (loadF (tt 30) 1 .sc)) [pp 30],
 mv 32 1,
 mv 33 0,
 qo 34 (.p (nilcF (tt 33))) [pp 33],
 qo 35 (.p (faddrF (tt 34) 5)) [pp 34],
 qo 36 (.r (loadF (tt 35) 1 .sc)) [pp 35],
 qo 37 (.p (arF .sub (tt 32) (tt 36))) [pp 32,pp 36],
 qo 38 (.p (iaddrSF (tt 31) (tt 37) 4)) [pp 31,pp 37],
 qo 39 (.r (loadF (tt 38) 4 .ag)) [pp 38],
 qo 6 (.m (allocF 4 [.int .u64 0,.int .u64 0,.int .i64 0,.int .u32 0])) [],
 qn (.a (storeF (tt 6) (tt 39) 4)) [pp 6,pp 39]] [0,1,3,7,0,0,32,96,224,496,1023,2047,0,8191]) (
 .seq (.reg [
 qo 7 (.p (S.get (.c (.slice none 0 0 0)))) []]) (
 .seq (.seq (.regD [
 mv 40 0,
 qo 41 (.p (faddrF (tt 6) 1)) [pp 6],
 qo 42 (.r (loadF (tt 41) 1 .sc)) [pp 41],
 qo 43 (.p (faddrF (tt 6) 2)) [pp 6],
 qo 44 (.r (loadF (tt 43) 1 .sc)) [pp 43],
 qo 45 (.c (callF (ff 42) [(tt 44)])) [pp 44],
 qo 46 (.c (callF (ff 31) [(tt 40),(tt 42),(tt 45)])) [pp 40,pp 42,pp 45],
 qo 47 (.p (lenF (tt 46))) [pp 46],
 qo 48 (.p (S.get (ii 0))) []] [0,0,2,0,8,24,63,127,0]) (
 .block 1 (.loop c16_l0))) (
 .seq (.seq (.regD [
 mv 73 7,
 qo 74 (.c (callF (ff 33) [(tt 73)])) [pp 73],
 qo 75 (.p (faddrF (tt 6) 3)) [pp 6],
 qo 76 (.r (loadF (tt 75) 1 .sc)) [pp 75],
 qo 77 (.p (eqcF true false [.int .u32] (tt 74) (tt 76))) [pp 74,pp 76]] [0,1,0,4,15]) (
 .cond (tt 77) (.seq (.reg [
 qo 4 (.p (S.get (.c (.slice none 0 0 0)))) [],
 qo 5 (.p (S.get (ii 6))) []]) (
 .ret)) (.skip))) (
 .seq (.reg [
 mv 78 7,
 qo 79 (.p (faddrF (tt 6) 2)) [pp 6],
 qo 80 (.r (loadF (tt 79) 1 .sc)) [pp 79],
 qo 81 (.c (callF (ff 44) [(tt 78),(tt 80)])) [pp 78,pp 80],
 qo 82 (.p (extF (tt 81) 0)) [pp 81],
 qo 83 (.p (extF (tt 81) 1)) [pp 81],
 mv 4 82,
 mv 5 83]) (
 .ret)))))))⟩
theorem c16_eq:fnOf Tryd.prog 16=some c16:=by kernel_rfl
noncomputable def recR (B:Bn) (R p k:Nat):List Nat:=(List.range k).map fun j=>B.read 0 (((p+j) % R+10:Nat):Int)
theorem recR_len (B:Bn) (R p k:Nat):(recR B R p k).length=k:=by unfold recR;rw[List.length_map,List.length_range]
section
variable {lf K:Nat} (hlf:1000 < lf)
include hlf
theorem ulrecord_read {G:Heap} {l b:Bk} {id R cnt first tail head:Nat} {lv:V} (hg:G.get l=some (.rows false 9 [lcells b id R cnt first tail head lv])) (ho:G.Old l) {B:Bn} (hb:G.get b=some (bx false B)) (bo:G.Old b) (hf:Fit B) {u p k:Nat} (hu:G.get (.run u)=some (.rows false 1 (rowsI (secs R p k)))) (uo:u < G.next) (hk:k≤100) (hR:1≤R∧R≤256) {c:Int} (hrc:∀ j,j < k→B.rc 0 (((p+j) % R+10:Nat):Int)=c) {t6:V} (n:Nat):∀ t:T,t.getP (Tr.path 0)=some (.ptr (some ⟨l,0⟩))→t.getP (Tr.path 6)=some t6→t.getP (Tr.path 7)=some (.slice none 0 0 0)→t.getP (Tr.path 46)=some (.slice (some ⟨.run u,0⟩) k k 0)→t.getP (Tr.path 47)=some (.int .i64 (k:Int))→t.getP (Tr.path 48)=some (.int .i64 0) →
  wp (loopF (runC (U lf K (n+1)) lf c16_l0) lf ⟨t,G,[]⟩) fun x s=>s.d=[]∧Turns Z G s.H∧((x=.ex 1∧(k=0∨c=0)∧s.t.getP (Tr.path 6)=some t6∧∃ y,s.t.getP (Tr.path 7)=some y∧Lst G s.H 64 (rowsK (recR B R p k)) y)∨(x=.ret∧c≠0∧s.t.getP (Tr.path 4)=some (.slice none 0 0 0)∧s.t.getP (Tr.path 5)=some (.int .i64 c))):=by
 intro t q0 q6 q7 q46 q47 q48
 refine wp_loopF (fun m s=>∃(i:Nat) (y:V),m=k - i∧i≤k∧s.d=[]∧s.t.getP (Tr.path 0)=some (.ptr (some ⟨l,0⟩))∧s.t.getP (Tr.path 6)=some t6∧s.t.getP (Tr.path 7)=some y∧s.t.getP (Tr.path 46)=some (.slice (some ⟨.run u,0⟩) k k 0)∧s.t.getP (Tr.path 47)=some (.int .i64 (k:Int))∧s.t.getP (Tr.path 48)=some (.int .i64 (i:Int))∧Lst G s.H 64 (rowsK (recR B R p i)) y∧(i=0∨c=0)∧Turns Z G s.H)
  ?_ lf k _ ⟨0,_,rfl,Nat.zero_le _,rfl,q0,q6,q7,q46,q47,q48,Lst.nil _ _ _,.inl rfl,Turns.refl _ _⟩ (by omega)
 rintro m ⟨t,HH,dd⟩ ⟨i,y,rfl,hi,hd,q0,q6,q7,q46,q47,q48,hy,hc0,hT⟩
 dsimp only at hd q0 q6 q7 q46 q47 q48 hy hT
 subst hd
 by_cases hlt:i < k
 rotate_left
 ·have:i=k:=by omega
  subst this
  simp (maxDischargeDepth:=12) only[c16_l0,q47,q48,Int.lt_irrefl,Nat.lt_irrefl,hv,ldO_one,stO_one,sy,tup,↓reduceIte,zA,zG,zC,zD,zF,zE,zB,zH,reduceCtorEq]
  exact⟨trivial,hT,.inl ⟨trivial,hc0,by simp[q6],y,by simp[q7],hy⟩⟩
 have hlt':(i:Int) < (k:Int):=by omega
 have hle:i+1≤k:=hlt
 have w1:IntKind.i64.wrap ((i:Int)+1)=((i+1:Nat):Int):=by rw[Go.Am.wrap_i64 (by omega)];omega
 have huH:=(hT.same (.run u) uo (fun h=>h)).trans hu
 have hgH:=(hT.same l ho (fun h=>h)).trans hg
 have hbH:=(hT.same b bo (fun h=>h)).trans hb
 have k0:cut (lcells b id R cnt first tail head lv) 0 1=some [.ptr (some ⟨b,0⟩)]:=rfl
 have k1:cut (lcells b id R cnt first tail head lv) 1 1=some [.int .i64 0]:=rfl
 have hsl:(secs R p k).length=k:=by unfold secs;simp
 have ld1:=ldI (ro:=false) (A:=secs R p k) (i:=i) (by omega)
 have hsi:(secs R p k)[i]'(by omega)=(((p+i) % R+10:Nat):Int):=by unfold secs;rw[List.getElem_map,List.getElem_range]
 rw[hsi] at ld1
 have hrc1:=hrc i hlt
 have hre:recR B R p (i+1)=recR B R p i++[B.read 0 (((p+i) % R+10:Nat):Int)]:=by unfold recR;rw[List.range_succ,List.map_append];rfl
 obtain⟨m,hm⟩:∃ m:Int,m=(((p+i) % R+10:Nat):Int):=⟨_,rfl⟩
 rw[← hm] at ld1 hrc1 hre
 have eR:=qRead (lf:=lf) (K:=K) (w:=n) hbH hf 0 m
 rw[hrc1] at eR
 obtain⟨X,hX⟩:∃ X,X=B.read 0 m:=⟨_,rfl⟩
 rw[← hX] at eR hre
 have t2:Turns Z HH (((HH.skip (K+2)).add (.rows false 64 [[.blk 0]])).set (.run (HH.next+(K+2))) (.rows false 64 [[.blk X]])):=by
  refine Turns.setn ?_ _ (by omega) _
  exact((Turns.refl Z HH).skip _).addm _
 have hx2:(((HH.skip (K+2)).add (.rows false 64 [[.blk 0]])).set (.run (HH.next+(K+2))) (.rows false 64 [[.blk X]])).get (.run (HH.next+(K+2)))=some (.rows false 64 [[.blk X]]):=by rw[Heap.get_set,if_pos rfl]
 obtain⟨H2,hH2⟩:∃ H2,((HH.skip (K+2)).add (.rows false 64 [[.blk 0]])).set (.run (HH.next+(K+2))) (.rows false 64 [[.blk X]])=H2:=⟨_,rfl⟩
 rw[hH2] at t2 hx2
 by_cases hcz:c=0
 rotate_left
 ·have hcz':(c==0)=false:=beq_eq_false_iff_ne.2 hcz
  simp (maxDischargeDepth:=12) only[c16_l0,q0,q46,q47,q48,hlt',hlt,hle,huH,ld1,hgH,k0,k1,eR,hcz',hH2,Nat.mul_one,hv,ldO_one,stO_one,sy,tup,↓reduceIte,zA,zG,zC,zD,zF,zE,zB,zH,reduceCtorEq]
  rw[endD_ok (by kernel_rfl) (by kernel_rfl)]
  simp (maxDischargeDepth:=12) only[hcz',hv,ldO_one,stO_one,sy,tup,↓reduceIte,zA,zG,zC,zD,zF,zE,zB,zH,reduceCtorEq]
  exact⟨trivial,hT.trans t2,.inr ⟨trivial,hcz,trivial,trivial⟩⟩
 have hcz':(c==0)=true:=by rw[hcz];rfl
 have hy2:=hy.turns t2 (fun _ _ h=>h)
 have t3:=Turns.add Z H2 (.rows false 64 [[.blk X]])
 have hg3:(H2.add (.rows false 64 [[.blk X]])).get (.run H2.next)=some (.rows false 64 [[.blk X]]):=by rw[Heap.get_add,if_pos rfl]
 obtain⟨H3,hH3⟩:∃ H3,H2.add (.rows false 64 [[.blk X]])=H3:=⟨_,rfl⟩
 rw[hH3] at t3 hg3
 have hy3:=hy2.turns t3 (fun _ _ h=>h)
 have tt:=(hT.trans t2).trans t3
 have hrl:(rowsK (recR B R p i)).length=i:=by rw[rowsK_len,recR_len]
 obtain⟨H4,ea,hy4,t4,_⟩:=hy3.app1 (by':=64) tt.next hg3 (Dj _ _) (by decide) (by rw[hrl];omega) (by rw[hrl];omega)
 rw[hrl] at ea hy4
 have t4':=lst_away hy3 tt (Nat.le_refl _) t4
 simp (maxDischargeDepth:=12) only[c16_l0,q0,q46,q47,q48,hlt',hlt,hle,huH,ld1,hgH,k0,k1,eR,hcz',hH2,Nat.mul_one,hv,ldO_one,stO_one,sy,tup,↓reduceIte,zA,zG,zC,zD,zF,zE,zB,zH,reduceCtorEq]
 rw[endD_ok (by kernel_rfl) (by kernel_rfl)]
 simp (maxDischargeDepth:=12) only[hcz',q7,hx2,hH3,ea,w1,q48,hv,ldO_one,stO_one,sy,tup,↓reduceIte,zA,zG,zC,zD,zF,zE,zB,zH,reduceCtorEq]
 refine⟨k - (i+1),by omega,i+1,_,rfl,by omega,trivial,by simp[q0],by simp[q6],rfl,by simp[q46],by simp[q47],by simp,?_,.inr hcz,t4'⟩
 rw[hre]
 unfold rowsK
 rw[List.map_append]
 exact hy4
end
end Go.Proofs.YtabebpemfinejaaDoor.draft
namespace Go.Proofs.YtabebpemfinejaaDoor.draft
open Go.Am
open disk (bx Fit A1 R1 Low Bn)
noncomputable def recC (B:Bn) (R:Nat) (nt:Nt) (c:Int):Int:=if c≠0 then c else if sumB (recR B R nt.pos (recS nt.cells))≠nt.sum then 6 else if getOk (recR B R nt.pos (recS nt.cells)) nt.cells=false then 5 else 0
section
variable {lf K:Nat} (hlf:1000 < lf)
include hlf
theorem ulrecord {G:Heap} {l b:Bk} {id R cnt first tail head:Nat} {N:List Nt} {lv:V} (h:LogAt G l b id R cnt first tail head N lv) (bo:G.Old b) {B:Bn} (hb:G.get b=some (bx false B)) (hf:Fit B) {q:Nat} (hq:q < 18446744073709551616) (hnt:∀ i (hi:i < N.length),(1≤N[i].cells∧N[i].cells≤32)∧N[i].sum < 4294967296∧recS N[i].cells≤R∧N[i].pos+recS N[i].cells≤4611686018427387904) {c:Int} (hrc:∀ i (hi:i < N.length),first+i=q→∀ j,j < recS N[i].cells→B.rc 0 (((N[i].pos+j) % R+10:Nat):Int)=c) (n:Nat) :
    ret (U lf K (n+4) 16 [.ptr (some ⟨l,0⟩),.int .u64 (q:Int)] G) fun v G'=>Turns Z G G' ∧
      (((q < first∨first+N.length≤q)∧v=.tuple [.slice none 0 0 0,.int .i64 7]) ∨
       (∃(i:Nat) (hi:i < N.length),first+i=q∧((recC B R N[i] c≠0∧v=.tuple [.slice none 0 0 0,.int .i64 (recC B R N[i] c)])∨(recC B R N[i] c=0∧∃ y,v=.tuple [y,.int .i64 0]∧Lst G G' 66 (rowsC (getL (recR B R N[i].pos (recS N[i].cells)) N[i].cells)) y)))):=by
  have e0:=ulnone hlf h (K:=K) (n+2)
  have eN:=ulnext hlf h (K:=K) (n+2)
  obtain⟨hg,G0,hN,hG0⟩:=h.ex
  have hfn:=h.fn
  have hnl:=h.nl
  have hRb:=h.rb
  have hrl:=rowsT_len N
  obtain⟨lp,lc,lo,rfl⟩:=hN.val
  rw[hrl] at hg hN
  have k5:cut (lcells b id R cnt first tail head (.slice lp N.length lc lo)) 5 1=some [.int .u64 (first:Int)]:=rfl
  have k8:cut (lcells b id R cnt first tail head (.slice lp N.length lc lo)) 8 1=some [.slice lp N.length lc lo]:=rfl
  obtain⟨nx,hnx⟩:∃ nx,nx=first+N.length:=⟨_,rfl⟩
  rw[← hnx] at eN ⊢
  obtain⟨PB,hPB⟩:∃ PB:Prop,PB=(q < first∨nx≤q):=⟨_,rfl⟩
  rw[← hPB]
  refine ret_callU rfl rfl c16_eq ?_
  by_cases h1:q < first
  · simp (maxDischargeDepth:=12) only[c16,e0,hg,k5,h1,hv,ldO_one,stO_one,sy,tup,↓reduceIte,zA,zG,zC,zD,zF,zE,zB,zH,reduceCtorEq]
    exact⟨trivial,.inr trivial,_,rfl,Turns.refl _ _,.inl ⟨by rw[hPB];exact .inl h1,rfl⟩⟩
  by_cases h2:nx≤q
  · simp (maxDischargeDepth:=12) only[c16,e0,hg,k5,h1,h2,eN,hv,ldO_one,stO_one,sy,tup,↓reduceIte,zA,zG,zC,zD,zF,zE,zB,zH,reduceCtorEq]
    exact⟨trivial,.inr trivial,_,rfl,Turns.refl _ _,.inl ⟨by rw[hPB];exact .inr h2,rfl⟩⟩
  obtain⟨i,hiq⟩:∃ i,i=q - first:=⟨_,rfl⟩
  have hi:i < N.length:=by omega
  have hqi:first+i=q:=by omega
  have w1:IntKind.u64.wrap ((q:Int) - (first:Int))=(i:Int):=by rw[Go.Am.wrap_u64 (by omega)];omega
  obtain⟨m,em,hld⟩:=hN.load (i:=i) (o:=0) (k:=4) (r:=ntV N[i]) (rowsT_get hi) (by decide)
  rw[ld_get,Nat.add_zero,show cut (ntV N[i]) 0 4=some (ntV N[i]) from rfl] at hld
  have elp:lp=some ⟨.run m,0⟩:=(V.slice.inj em).1
  subst elp
  have hle:i+1≤N.length:=hi
  obtain⟨⟨hc1,hc2⟩,hsum,hkR,hpk⟩:=hnt i hi
  have hrci:=hrc i hi hqi
  have hsel:∀(v:V) (G':Heap),(((recC B R N[i] c≠0∧v=.tuple [.slice none 0 0 0,.int .i64 (recC B R N[i] c)])∨(recC B R N[i] c=0∧∃ y,v=.tuple [y,.int .i64 0]∧Lst G G' 66 (rowsC (getL (recR B R N[i].pos (recS N[i].cells)) N[i].cells)) y)))→((PB∧v=.tuple [.slice none 0 0 0,.int .i64 7])∨(∃(i:Nat) (hi:i < N.length),first+i=q∧((recC B R N[i] c≠0∧v=.tuple [.slice none 0 0 0,.int .i64 (recC B R N[i] c)])∨(recC B R N[i] c=0∧∃ y,v=.tuple [y,.int .i64 0]∧Lst G G' 66 (rowsC (getL (recR B R N[i].pos (recS N[i].cells)) N[i].cells)) y)))):=fun v G' hx=>.inr ⟨i,hi,hqi,hx⟩
  have hcc:recC B R N[i] c=if c≠0 then c else if sumB (recR B R N[i].pos (recS N[i].cells))≠N[i].sum then 6 else if getOk (recR B R N[i].pos (recS N[i].cells)) N[i].cells=false then 5 else 0:=rfl
  have hge:∀ {P:Nt→Prop},P N[i]→∃ nt,nt=N[i]∧P nt:=fun h=>⟨_,rfl,h⟩
  generalize N[i]=nt at hld hc1 hc2 hsum hkR hpk hrci hsel hcc
  obtain⟨sq,pos,cl,sm⟩:=nt
  dsimp only at hc1 hc2 hsum hkR hpk hrci hsel hcc
  unfold ntV at hld
  dsimp only at hld
  have wid4:width [V.int .u64 (sq:Int),.int .u64 (pos:Int),.int .i64 (cl:Int),.int .u32 (sm:Int)]=4:=rfl
  have put4:put [V.int .u64 0,.int .u64 0,.int .i64 0,.int .u32 0] 0 [.int .u64 (sq:Int),.int .u64 (pos:Int),.int .i64 (cl:Int),.int .u32 (sm:Int)]=some [.int .u64 (sq:Int),.int .u64 (pos:Int),.int .i64 (cl:Int),.int .u32 (sm:Int)]:=rfl
  have c1:cut [V.int .u64 (sq:Int),.int .u64 (pos:Int),.int .i64 (cl:Int),.int .u32 (sm:Int)] 1 1=some [.int .u64 (pos:Int)]:=rfl
  have c2:cut [V.int .u64 (sq:Int),.int .u64 (pos:Int),.int .i64 (cl:Int),.int .u32 (sm:Int)] 2 1=some [.int .i64 (cl:Int)]:=rfl
  have c3:cut [V.int .u64 (sq:Int),.int .u64 (pos:Int),.int .i64 (cl:Int),.int .u32 (sm:Int)] 3 1=some [.int .u32 (sm:Int)]:=rfl
  have t1:Turns Z G ((G.add (.rows false 4 [[.int .u64 0,.int .u64 0,.int .i64 0,.int .u32 0]])).set (.run G.next) (.rows false 4 [[.int .u64 (sq:Int),.int .u64 (pos:Int),.int .i64 (cl:Int),.int .u32 (sm:Int)]])):=by repeat (first | exact Turns.refl _ _ | apply Turns.skip | apply Turns.addm | apply Turns.setb | apply Turns.setl | apply Turns.setr | refine Turns.setn ?_ _ (by omega) _ | refine Turns.trans ?_ (tF _))
  have hn1:((G.add (.rows false 4 [[.int .u64 0,.int .u64 0,.int .i64 0,.int .u32 0]])).set (.run G.next) (.rows false 4 [[.int .u64 (sq:Int),.int .u64 (pos:Int),.int .i64 (cl:Int),.int .u32 (sm:Int)]])).get (.run G.next)=some (.rows false 4 [[.int .u64 (sq:Int),.int .u64 (pos:Int),.int .i64 (cl:Int),.int .u32 (sm:Int)]]):=by rw[Heap.get_set,if_pos rfl]
  obtain⟨G1,hG1⟩:∃ G1,(G.add (.rows false 4 [[.int .u64 0,.int .u64 0,.int .i64 0,.int .u32 0]])).set (.run G.next) (.rows false 4 [[.int .u64 (sq:Int),.int .u64 (pos:Int),.int .i64 (cl:Int),.int .u32 (sm:Int)]])=G1:=⟨_,rfl⟩
  have n1:G1.next=G.next+1:=by rw[← hG1];rfl
  rw[hG1] at t1 hn1
  have eZ:=usize hlf (K:=K) G1 (k:=cl) (by omega) (n+1)
  rw[szR_rec hlf hc1 hc2] at eZ
  have hk1:1≤recS cl:=by unfold recS;omega
  have hk34:recS cl≤34:=by unfold recS;omega
  obtain⟨k,hk⟩:∃ k,k=recS cl:=⟨_,rfl⟩
  rw[← hk] at eZ hkR hpk hrci hk1 hk34
  have h1':LogAt G1 l b id R cnt first tail head N (.slice (some ⟨.run m,0⟩) N.length lc lo):=⟨⟨(t1.same l h.old (fun h=>h)).trans hg,G0,hN.turns t1 (fun _ _ h=>h),Nat.le_trans hG0 t1.next⟩,h.old.mono t1.next,h.rb,h.rg,h.fn,h.nl⟩
  obtain⟨Q,hQ⟩:∃ Q:List (Option V × Option V),Q=[(loadF (.t (Tr.path 41)) 1 .sc (Tr.setP (Tr.path 41) (.ptr (some ⟨.run G.next,1⟩)) .e) G1,some (.int .u64 (pos:Int))),(loadF (.t (Tr.path 41)) 1 .sc (Tr.setP (Tr.path 41) (.ptr (some ⟨.run G.next,1⟩)) .e) G1,some (.int .u64 (pos:Int)))]:=⟨_,rfl⟩
  have hQ':∀ x ∈ Q,x.1=x.2:=by
    rw[hQ]
    intro x hx
    simp only[List.mem_cons,List.not_mem_nil,or_false] at hx
    rcases hx with rfl | rfl<;>simp (maxDischargeDepth:=12) only[hn1,c1,hv,ldO_one,stO_one,sy,tup,↓reduceIte,zA,zG,zC,zD,zF,zE,zB,zH,reduceCtorEq]
  obtain⟨v2,G2,e2,u,rfl,hu0,hu1,hu,t2⟩:=ulsectors hlf (K:=K) h1' (p:=pos) (k:=k) hpk ⟨hk1,hkR⟩ n
  simp (maxDischargeDepth:=12) only[c16,e0,hg,k5,k8,h1,h2,eN,w1,hle,hld,wid4,put4,hG1,Nat.mul_one,hv,ldO_one,stO_one,sy,tup,↓reduceIte,zA,zG,zC,zD,zF,zE,zB,zH,reduceCtorEq]
  rw[endD_ok (by kernel_rfl) (by kernel_rfl)]
  simp (maxDischargeDepth:=12) only[hn1,c1,c2,eZ,e2,hv,ldO_one,stO_one,sy,tup,↓reduceIte,zA,zG,zC,zD,zF,zE,zB,zH,reduceCtorEq]
  rw[endD_q (q:=Q) (by kernel_rfl) (by rw[hQ];kernel_rfl)]
  have t2':=t2.owe hQ'
  have hu':(G2.owe Q).get (.run u)=some (.rows false 1 (rowsI (secs R pos k))):=by rw[get_owe];exact hu
  have hu1':u < (G2.owe Q).next:=hu1
  obtain⟨G3,hG3⟩:∃ G3,G2.owe Q=G3:=⟨_,rfl⟩
  rw[hG3] at t2' hu' hu1' ⊢
  have t13:=t1.trans t2'
  have hg3:=(t13.same l h.old (fun h=>h)).trans hg
  have hb3:=(t13.same b bo (fun h=>h)).trans hb
  have hn3:=(t2'.same (.run G.next) (by show _ < _;omega) (fun h=>h)).trans hn1
  have o3:G.next < G3.next:=by have:=t2'.next;omega
  have hloop:=ulrecord_read hlf (K:=K) hg3 (h.old.mono t13.next) hb3 (bo.mono t13.next) hf hu' hu1' (by omega) hRb hrci (t6:=.ptr (some ⟨.run G.next,0⟩)) (n+2)
  simp (maxDischargeDepth:=12) only[hv,ldO_one,stO_one,sy,tup,↓reduceIte,zA,zG,zC,zD,zF,zE,zB,zH,reduceCtorEq]
  refine wp_ctx (F:=fun r=>seqC _ _ _ (blockC _ r)) (hloop _ ?_ ?_ ?_ ?_ ?_ ?_) ?_
  · simp only[sy,tup,↓reduceIte,zA,zG,zC,zD,zF,zE,zB,zH,reduceCtorEq]
  · simp only[sy,tup,↓reduceIte,zA,zG,zC,zD,zF,zE,zB,zH,reduceCtorEq]
  · simp only[sy,tup,↓reduceIte,zA,zG,zC,zD,zF,zE,zB,zH,reduceCtorEq]
  · simp only[sy,tup,↓reduceIte,zA,zG,zC,zD,zF,zE,zB,zH,reduceCtorEq]
  · simp only[sy,tup,↓reduceIte,zA,zG,zC,zD,zF,zE,zB,zH,reduceCtorEq]
  · simp only[sy,tup,↓reduceIte,zA,zG,zC,zD,zF,zE,zB,zH,reduceCtorEq]
  rintro x ⟨t,G4,dd⟩ ⟨hd,t4,⟨rfl,hc0,q6,y,q7,hy⟩ | ⟨rfl,hc0,q4,q5⟩⟩
  rotate_left
  · dsimp only at hd t4 q4 q5
    subst hd
    simp (maxDischargeDepth:=12) only[q4,q5,hv,ldO_one,stO_one,sy,tup,↓reduceIte,zA,zG,zC,zD,zF,zE,zB,zH,reduceCtorEq]
    rw[if_pos hc0] at hcc
    rw[hcc] at hsel
    exact⟨trivial,.inr trivial,_,rfl,t13.trans t4,hsel _ _ (.inl ⟨hc0,rfl⟩)⟩
  dsimp only at hd t4 q6 q7 hy
  subst hd
  have hcz:c=0:=by
    rcases hc0 with h | h
    · omega
    · exact h
  rw[if_neg (fun h=>h hcz),← hk] at hcc
  have hAl:=recR_len B R pos k
  obtain⟨A,hA⟩:∃ A,A=recR B R pos k:=⟨_,rfl⟩
  rw[← hA] at hcc hy hAl
  have t14:=t13.trans t4
  have hn4:=(t4.same (.run G.next) (by show _ < _;exact o3) (fun h=>h)).trans hn3
  obtain⟨v5,G5,e5,rfl,t5⟩:=usum (K:=K) hlf (G:=G4) (v:=y) (l:=A) (fun H tH=>blks_lst (hy.turns tH (fun _ _ h=>h))) (by omega) n
  have hn5:=(t5.same (.run G.next) (by show _ < _;exact Nat.lt_of_lt_of_le o3 t4.next) (fun h=>h)).trans hn4
  obtain⟨Q2,hQ2⟩:∃ Q2:List (Option V × Option V),Q2=[(loadF (.t (Tr.path 75)) 1 .sc (Tr.setP (Tr.path 75) (.ptr (some ⟨.run G.next,3⟩)) .e) G4,some (.int .u32 (sm:Int))),(loadF (.t (Tr.path 75)) 1 .sc (Tr.setP (Tr.path 75) (.ptr (some ⟨.run G.next,3⟩)) .e) G5,some (.int .u32 (sm:Int)))]:=⟨_,rfl⟩
  have hQ2':∀ x ∈ Q2,x.1=x.2:=by
    rw[hQ2]
    intro x hx
    simp only[List.mem_cons,List.not_mem_nil,or_false] at hx
    rcases hx with rfl | rfl<;>simp (maxDischargeDepth:=12) only[hn4,hn5,c3,hv,ldO_one,stO_one,sy,tup,↓reduceIte,zA,zG,zC,zD,zF,zE,zB,zH,reduceCtorEq]
  obtain⟨sA,hsA⟩:∃ sA,sA=sumB A:=⟨_,rfl⟩
  rw[← hsA] at e5 hcc
  simp (maxDischargeDepth:=12) only[q6,q7,e5,hn5,c3,hv,ldO_one,stO_one,sy,tup,↓reduceIte,zA,zG,zC,zD,zF,zE,zB,zH,reduceCtorEq]
  rw[endD_q (q:=Q2) (by kernel_rfl) (by rw[hQ2];kernel_rfl)]
  have t5':=t5.owe hQ2'
  have hn6:(G5.owe Q2).get (.run G.next)=_:=(get_owe _ _ _).trans hn5
  obtain⟨G6,hG6⟩:∃ G6,G5.owe Q2=G6:=⟨_,rfl⟩
  rw[hG6] at t5' hn6 ⊢
  have t16:=t14.trans t5'
  by_cases hs:sA=sm
  rotate_left
  · have hs':((sA:Int)==(sm:Int))=false:=by rw[beq_eq_false_iff_ne];omega
    rw[if_pos hs] at hcc
    rw[hcc] at hsel
    simp (maxDischargeDepth:=12) only[hs',hv,ldO_one,stO_one,sy,tup,↓reduceIte,zA,zG,zC,zD,zF,zE,zB,zH,reduceCtorEq]
    exact⟨trivial,.inr trivial,_,rfl,t16,hsel _ _ (.inl ⟨by decide,rfl⟩)⟩
  have hs':((sA:Int)==(sm:Int))=true:=by rw[hs];exact beq_self_eq_true _
  rw[if_neg (fun h=>h hs)] at hcc
  have hy6:=hy.turns t5' (fun _ _ h=>h)
  have hAk:A.length=recS cl:=by rw[hAl,hk]
  obtain⟨w,ey,hw,wo⟩:∃ w,y=.slice (some ⟨.run w,0⟩) (recS cl) (recS cl) 64∧G6.get (.run w)=some (.rows false 64 (rowsK A))∧w < G6.next:=by
    rcases hy6 with ⟨e,_⟩ | ⟨w,_,e,hg,_,hw⟩
    · have:=congrArg List.length e
      rw[rowsK_len,hAl] at this
      simp only[List.length_nil] at this
      omega
    · rw[rowsK_len,hAk] at e
      exact⟨w,e,hg,hw⟩
  subst ey
  obtain⟨v7,G7,e7,t7,h7⟩:=ucget hlf (K:=K) (c:=recS cl) (z:=64) hw wo ⟨hc1,hc2⟩ hAk n
  rcases h7 with ⟨hgo,y7,rfl,hy7⟩ | ⟨hgo,rfl⟩
  · rw[if_neg (by rw[hgo];decide)] at hcc
    simp (maxDischargeDepth:=12) only[hs',q6,q7,hn6,c2,e7,hv,ldO_one,stO_one,sy,tup,↓reduceIte,zA,zG,zC,zD,zF,zE,zB,zH,reduceCtorEq]
    refine⟨trivial,.inr trivial,_,rfl,t16.trans t7,hsel _ _ (.inr ⟨hcc,y7,rfl,?_⟩)⟩
    rw[← hk,← hA]
    rcases hy7 with e | ⟨j,a1,a2,a3,a4,a5⟩
    · exact .inl e
    · exact .inr ⟨j,a1,a2,a3,Nat.le_trans t16.next a4,a5⟩
  · rw[if_pos hgo] at hcc
    rw[hcc] at hsel
    simp (maxDischargeDepth:=12) only[hs',q6,q7,hn6,c2,e7,hv,ldO_one,stO_one,sy,tup,↓reduceIte,zA,zG,zC,zD,zF,zE,zB,zH,reduceCtorEq]
    exact⟨trivial,.inr trivial,_,rfl,t16.trans t7,hsel _ _ (.inl ⟨by decide,rfl⟩)⟩
end
end Go.Proofs.YtabebpemfinejaaDoor.draft
namespace Go.Proofs.YtabebpemfinejaaDoor.draft
open Go.Am
theorem at_inj:∀ i,i < 16→∀ j,j < 16→crc.at' i / 268435456=crc.at' j / 268435456→i=j:=by decide +kernel
theorem half_eq (a:Nat):crc.half a=(a / 16) ^^^ crc.at' (a % 16):=by
 unfold crc.half crc.xo crc.hi crc.lo
 show Nat.xor (a / 16) (crc.at' (a&&&15))=_
 rw[show a&&&15=a % 16 from Nat.and_two_pow_sub_one_eq_mod a 4]
 rfl
theorem half_inj {a b:Nat} (ha:a < 4294967296) (hb:b < 4294967296) (h:crc.half a=crc.half b):a=b:=by
 rw[half_eq,half_eq] at h
 have h1:crc.at' (a % 16) / 268435456=crc.at' (b % 16) / 268435456:=by
  have e:=congrArg (· >>> 28) h
  simp only[Nat.shiftRight_xor_distrib] at e
  have ea:(a / 16) >>> 28=0:=by rw[Nat.shiftRight_eq_div_pow];exact Nat.div_eq_of_lt (by omega)
  have eb:(b / 16) >>> 28=0:=by rw[Nat.shiftRight_eq_div_pow];exact Nat.div_eq_of_lt (by omega)
  rw[ea,eb,Nat.zero_xor,Nat.zero_xor,Nat.shiftRight_eq_div_pow,Nat.shiftRight_eq_div_pow] at e
  exact e
 have h2:=at_inj (a % 16) (Nat.mod_lt _ (by decide)) (b % 16) (Nat.mod_lt _ (by decide)) h1
 rw[h2] at h
 have h3:=congrArg (· ^^^ crc.at' (b % 16)) h
 simp only[Nat.xor_assoc,Nat.xor_self,Nat.xor_zero] at h3
 omega
theorem xo_inj {a b c:Nat} (h:crc.xo a c=crc.xo b c):a=b:=by
 have h:a ^^^ c=b ^^^ c:=h
 have h3:=congrArg (· ^^^ c) h
 simpa only[Nat.xor_assoc,Nat.xor_self,Nat.xor_zero] using h3
theorem xo_lt {a b:Nat} (ha:a < 4294967296) (hb:b < 256):crc.xo a b < 4294967296:=by
 show a ^^^ b < 2 ^ 32
 exact Nat.xor_lt_two_pow ha (by omega)
theorem half_lt' {a:Nat} (ha:a < 4294967296):crc.half a < 4294967296:=by
 rw[half_eq]
 have ht:∀ i,i < 16→crc.at' i < 2 ^ 32:=by decide +kernel
 exact Nat.xor_lt_two_pow (n:=32) (by omega) (ht _ (Nat.mod_lt _ (by decide)))
theorem takeN_inj {r r' c:Nat} (h1:r < 4294967296) (h2:r' < 4294967296) (hc:c < 256) (h:crc.takeN r c=crc.takeN r' c):r=r':=by
 unfold crc.takeN at h
 exact xo_inj (half_inj (xo_lt h1 hc) (xo_lt h2 hc) (half_inj (half_lt' (xo_lt h1 hc)) (half_lt' (xo_lt h2 hc)) h))
theorem takeN_inj' {r c c':Nat} (h1:r < 4294967296) (hc:c < 256) (hc':c' < 256) (h:crc.takeN r c=crc.takeN r c'):c=c':=by
 unfold crc.takeN at h
 have h2:=half_inj (xo_lt h1 hc) (xo_lt h1 hc') (half_inj (half_lt' (xo_lt h1 hc)) (half_lt' (xo_lt h1 hc')) h)
 have h2:r ^^^ c=r ^^^ c':=h2
 have h3:=congrArg (r ^^^ ·) h2
 simpa only[← Nat.xor_assoc,Nat.xor_self,Nat.zero_xor] using h3
theorem crcZ_inj {z z':Nat} {c:Nat→Nat} (hz:z < 4294967296) (hz':z' < 4294967296):∀ {n:Nat},(∀ i,i < n→c i < 256)→crcZ z c n=crcZ z' c n→z=z'
 | 0,_,h=>h
 | n+1,hc,h=>crcZ_inj hz hz' (fun i hi=>hc i (by omega)) (takeN_inj (crcZ_lt hz (fun i hi=>hc i (by omega))) (crcZ_lt hz' (fun i hi=>hc i (by omega))) (hc n (by omega)) h)
theorem crcZ_byte {z:Nat} {c c':Nat→Nat} (hz:z < 4294967296) {j:Nat} (hj:c j≠c' j):∀ {n:Nat},(∀ i,i < n→c i < 256∧c' i < 256)→(∀ i,i < n→i≠j→c i=c' i)→j < n→crcZ z c n≠crcZ z c' n
 | 0,_,_,h=>absurd h (by omega)
 | n+1,hc,he,h=>fun e=>by
  have e:crc.takeN (crcZ z c n) (c n)=crc.takeN (crcZ z c' n) (c' n):=e
  have l1:=crcZ_lt (c:=c) (n:=n) hz (fun i hi=>(hc i (by omega)).1)
  have l2:=crcZ_lt (c:=c') (n:=n) hz (fun i hi=>(hc i (by omega)).2)
  by_cases hn:j=n
  ·subst hn
   have:crcZ z c j=crcZ z c' j:=by
    have:∀ m,m≤j→crcZ z c m=crcZ z c' m:=by
     intro m
     induction m with
     | zero=>intro _;rfl
     | succ m ih=>
      intro hm
      show crc.takeN (crcZ z c m) (c m)=crc.takeN (crcZ z c' m) (c' m)
      rw[ih (by omega),he m (by omega) (by omega)]
    exact this j (Nat.le_refl _)
   rw[this] at e
   exact hj (takeN_inj' l2 (hc j (by omega)).1 (hc j (by omega)).2 e)
  ·rw[he n (by omega) (Ne.symm hn)] at e
   exact crcZ_byte hz hj (fun i hi=>hc i (by omega)) (fun i hi hne=>he i (by omega) hne) (by omega) (takeN_inj l1 l2 (hc n (by omega)).2 e)
theorem notN_inj {a b:Nat} (h:notN a=notN b):a=b:=by
 have h:4294967295 ^^^ a=4294967295 ^^^ b:=h
 have h3:=congrArg (4294967295 ^^^ ·) h
 simpa only[← Nat.xor_assoc,Nat.xor_self,Nat.zero_xor] using h3
noncomputable def sumF (r:Nat) (l:List Nat):Nat:=l.foldl (fun r x=>notN (crcZ (notN r) (byte x) 64)) r
theorem sumF_inj:∀(l:List Nat) {r r':Nat},r < 4294967296→r' < 4294967296→sumF r l=sumF r' l→r=r'
 | [],_,_,_,_,h=>h
 | x::l,r,r',h1,h2,h=>by
  have h:=sumF_inj l (notN_lt (crcZ_lt (notN_lt h1) (fun i _=>byte_lt _ _))) (notN_lt (crcZ_lt (notN_lt h2) (fun i _=>byte_lt _ _))) h
  exact notN_inj (crcZ_inj (notN_lt h1) (notN_lt h2) (fun i _=>byte_lt _ _) (notN_inj h))
theorem sumF_byte:∀(l:List Nat) {r:Nat},r < 4294967296→∀ {i y j:Nat} (hi:i < l.length),j < 64→byte l[i] j≠byte y j→(∀ k,k < 64→k≠j→byte l[i] k=byte y k)→sumF r l≠sumF r (l.set i y)
 | x::l,r,hr,0,y,j,hi,hj,hne,he=>fun e=>by
  have e:sumF (notN (crcZ (notN r) (byte x) 64)) l=sumF (notN (crcZ (notN r) (byte y) 64)) l:=e
  have e:=notN_inj (sumF_inj l (notN_lt (crcZ_lt (notN_lt hr) (fun i _=>byte_lt _ _))) (notN_lt (crcZ_lt (notN_lt hr) (fun i _=>byte_lt _ _))) e)
  exact crcZ_byte (notN_lt hr) (c:=byte x) (c':=byte y) hne (n:=64) (fun i _=>⟨byte_lt _ _,byte_lt _ _⟩) he hj e
 | x::l,r,hr,i+1,y,j,hi,hj,hne,he=>by
  show sumF _ l≠sumF _ (l.set i y)
  exact sumF_byte l (notN_lt (crcZ_lt (notN_lt hr) (fun i _=>byte_lt _ _))) (by simpa using hi) hj hne he
theorem sumB_byte {l:List Nat} {i y j:Nat} (hi:i < l.length) (hj:j < 64) (hne:byte l[i] j≠byte y j) (he:∀ k,k < 64→k≠j→byte l[i] k=byte y k):sumB l≠sumB (l.set i y):=sumF_byte l (by decide) hi hj hne he
end Go.Proofs.YtabebpemfinejaaDoor.draft
namespace Go.Proofs.YtabebpemfinejaaDoor.draft
open Go.Am
theorem hd_byte (l:List Cl) (hl:∀ i,(∀ x ∈ placeL (l.getD i noC),x < 256)) (q:Nat):∀(m o:Nat),o < 64→byte (hdN l m q) o=if 16*q+o / 4 < m then(placeL (l.getD (16*q+o / 4) noC)).getD (o % 4) 0 else 0
 | 0,o,ho=>by
  rw[if_neg (by omega)]
  show (0 / 256 ^ o) % 256=0
  rw[Nat.zero_div]
 | m+1,o,ho=>by
  have ih:=hd_byte l hl q m o ho
  show byte (if q=m / 16 then layB (hdN l m q) (m % 16*4) (placeL (l.getD m noC)) else hdN l m q) o=_
  by_cases e:q=m / 16
  ·rw[if_pos e,layB_byte _ _ _ (hl m)]
   have hp3:(placeL (l.getD m noC)).length=3:=rfl
   rw[hp3]
   by_cases h:m % 16*4≤o∧o < m % 16*4+3
   ·rw[if_pos h,if_pos (by omega),show 16*q+o / 4=m by omega,show o - m % 16*4=o % 4 by omega]
   ·rw[if_neg h,ih]
    by_cases h1:16*q+o / 4 < m
    ·rw[if_pos h1,if_pos (by omega)]
    ·rw[if_neg h1]
     by_cases h2:16*q+o / 4 < m+1
     ·rw[if_pos h2]
      have:o % 4=3:=by omega
      rw[this];rfl
     ·rw[if_neg h2]
  ·rw[if_neg e,ih]
   by_cases h1:16*q+o / 4 < m
   ·rw[if_pos h1,if_pos (by omega)]
   ·rw[if_neg h1,if_neg (by omega)]
theorem place_lt {l:List Cl} (hl:l.all mayC=true) (i:Nat):∀ x ∈ placeL (l.getD i noC),x < 256:=by
 have hm:0≤(l.getD i noC).m∧(l.getD i noC).m < 16:=by
  rw[List.getD_eq_getElem?_getD]
  by_cases h:i < l.length
  ·rw[List.getElem?_eq_getElem h]
   have:=mayC_t (List.all_eq_true.1 hl l[i] (List.getElem_mem h))
   exact⟨this.2.2.1,this.2.2.2⟩
  ·rw[List.getElem?_eq_none (by omega)]
   exact⟨by decide,by decide⟩
 intro x hx
 unfold placeL at hx
 simp only[List.mem_cons,List.not_mem_nil,or_false] at hx
 rcases hx with rfl | rfl | rfl
 ·exact dig_lt _ _
 ·exact dig_lt _ _
 ·omega
theorem recL_get {l:List Cl} {k:Nat} (hk:k < recS l.length):(recL l).getD k 0=if k < headsN l.length then hdN l l.length k else(l.getD (k - headsN l.length) noC).x:=by
 have hk':k < (recL l).length:=by rw[recL_len];exact hk
 have e:(recL l)[k]'hk'=_:=outA_get l l.length k hk'
 rw[getD_get hk',e]
 by_cases h:k < headsN l.length
 ·rw[if_pos h,if_pos h]
 ·rw[if_neg h,if_neg h,if_pos (by have:recS l.length=headsN l.length+l.length:=rfl;omega)]
theorem plB_rec {l:List Cl} (hl:l.all mayC=true) {i j:Nat} (hi:i < headsN l.length*16) (hj:j < 4):plB (recL l) i j=if i < l.length then(placeL (l.getD i noC)).getD j 0 else 0:=by
 unfold plB
 have hh:headsN l.length≤recS l.length:=Nat.le_add_right _ _
 rw[recL_get (by omega),if_pos (by omega),hd_byte l (place_lt hl) _ _ _ (by omega)]
 rw[show 16*(i / 16)+(i % 16*4+j) / 4=i by omega,show (i % 16*4+j) % 4=j by omega]
theorem plS_rec {l:List Cl} (hl:l.all mayC=true) {i:Nat} (hi:i < l.length):(plS (recL l) i:Int)=l[i].s∧(plB (recL l) i 2:Int)=l[i].m∧plB (recL l) i 3=0:=by
 have hh:headsN l.length=(l.length+15) / 16:=rfl
 have hm:=mayC_t (List.all_eq_true.1 hl l[i] (List.getElem_mem hi))
 have hg:l.getD i noC=l[i]:=by rw[List.getD_eq_getElem?_getD,List.getElem?_eq_getElem hi];rfl
 have hp:∀ j,j < 4→plB (recL l) i j=(placeL l[i]).getD j 0:=fun j hj=>by rw[plB_rec hl (by omega) hj,if_pos hi,hg]
 refine⟨?_,?_,?_⟩
 ·unfold plS
  rw[leN_dig (x:=l[i].s.toNat) (by omega) (fun j hj=>?_)]
  ·omega
  ·rw[hp j (by omega)]
   have:j=0∨j=1:=by omega
   rcases this with rfl | rfl<;>rfl
 ·rw[hp 2 (by omega)]
  show ((l[i].m.toNat:Nat):Int)=_
  omega
 ·rw[hp 3 (by omega)];rfl
theorem get_rec {l:List Cl} (hl:l.all mayC=true):getOk (recL l) l.length=true∧getL (recL l) l.length=l:=by
 have hh:headsN l.length=(l.length+15) / 16:=rfl
 constructor
 ·unfold getOk
  rw[Bool.and_eq_true]
  constructor
  ·rw[List.all_eq_true]
   intro i hi
   have hi:=List.mem_range.1 hi
   obtain⟨e1,e2,e3⟩:=plS_rec hl hi
   unfold plOk
   rw[e1,e2,e3]
   have:mayC l[i]=true:=List.all_eq_true.1 hl l[i] (List.getElem_mem hi)
   unfold mayC at this
   rw[this];rfl
  ·rw[List.all_eq_true]
   intro j hj
   have hj:=List.mem_range.1 hj
   unfold plZ
   rw[plB_rec hl (by omega) (by decide),plB_rec hl (by omega) (by decide),plB_rec hl (by omega) (by decide),plB_rec hl (by omega) (by decide)]
   simp only[if_neg (show ¬ (l.length+j < l.length) by omega)]
   rfl
 ·unfold getL
  apply List.ext_getElem
  ·rw[List.length_map,List.length_range]
  ·intro i h1 h2
   rw[List.getElem_map,List.getElem_range]
   obtain⟨e1,e2,_⟩:=plS_rec hl h2
   unfold cellA
   rw[e1,e2,recL_get (by have:recS l.length=headsN l.length+l.length:=rfl;omega),if_neg (by omega),Nat.add_sub_cancel_left]
   rw[List.getD_eq_getElem?_getD,List.getElem?_eq_getElem h2]
   rfl
theorem rot_byte (x:Nat) {j y:Nat} (hy:y < 256) (k:Nat):byte (disk.rotN x j y) k=if k=j then(byte x j) ^^^ y else byte x k:=by
 unfold disk.rotN
 rw[byte_setByte _ _ _ _ (by
  have h1:byte x j < 2 ^ 8:=byte_lt x j
  exact Nat.xor_lt_two_pow h1 hy)]
 rfl
theorem xor_ne {a y:Nat} (hy:y≠0):a ^^^ y≠a:=fun e=>by
 have h:=congrArg (a ^^^ ·) e
 simp only[← Nat.xor_assoc,Nat.xor_self,Nat.zero_xor] at h
 exact hy h
theorem sum_rot {A:List Nat} {i j y:Nat} (hi:i < A.length) (hj:j < 64) (hy:y < 256) (h0:y≠0):sumB (A.set i (disk.rotN A[i] j y))≠sumB A:=by
 refine Ne.symm (sumB_byte hi hj ?_ fun k _ hk=>?_)
 ·rw[rot_byte _ hy,if_pos rfl]
  exact Ne.symm (xor_ne h0)
 ·rw[rot_byte _ hy,if_neg hk]
end Go.Proofs.YtabebpemfinejaaDoor.draft
namespace Go.Proofs.YtabebpemfinejaaDoor.draft
open Go.Am
noncomputable def c14:CFn:=⟨[.tmp (pp 2)],
 .seq (.reg [
 qo 2 (.p (S.get (.c (.slice none 0 0 0)))) []]) (
 .seq (.reg [
 qo 3 (.p (S.get (.c (.slice none 0 0 0)))) []]) (
 .seq (.reg [
 mv 4 3,
 mv 5 0,
 qo 6 (.a (appF 66 80 (tt 4) (tt 5))) [pp 4,pp 5],
 mv 2 6]) (
 .ret)))⟩
theorem c14_eq:fnOf Tryd.prog 14=some c14:=by kernel_rfl
noncomputable def c17_l0:C:=.seq (.seq (.reg [
 mv 11 5,
 mv 12 0,
 qo 13 (.p (lenF (tt 12))) [pp 12],
 qo 14 (.p (arF .lss (tt 11) (tt 13))) [pp 11,pp 13]]) (
 .cond (tt 14) (.skip) (.exit 0))) (
 .seq (.block 1 (.seq (.regD [
 mv 17 0,
 mv 18 5,
 qo 19 (.p (iaddrSF (tt 17) (tt 18) 66)) [pp 17,pp 18],
 qo 20 (.r (loadF (tt 19) 66 .ag)) [pp 19],
 mv 21 1,
 mv 22 5,
 qo 23 (.p (iaddrSF (tt 21) (tt 22) 66)) [pp 21,pp 22],
 qo 24 (.r (loadF (tt 23) 66 .ag)) [pp 23],
 qo 25 (.p (eqcF true true [.int .i64,.int .i64,.blk] (tt 20) (tt 24))) [pp 20,pp 24]] [0,0,3,7,0,0,48,112,255]) (
 .cond (tt 25) (.seq (.reg [
 qo 4 (.p (S.get (.c (.bool false)))) []]) (
 .ret)) (.skip)))) (
 .reg [
 mv 15 5,
 qo 16 (.p (arF .add (tt 15) (ii 1))) [pp 15],
 mv 5 16]))
noncomputable def c17:CFn:=⟨[.tmp (pp 4)],
 .seq (.reg [
 qo 4 (.p (S.get (.c (.bool false)))) []]) (
 .seq (.seq (.reg [
 mv 6 0,
 qo 7 (.p (lenF (tt 6))) [pp 6],
 mv 8 1,
 qo 9 (.p (lenF (tt 8))) [pp 8],
 qo 10 (.p (eqcF true false [.int .i64] (tt 7) (tt 9))) [pp 7,pp 9]]) (
 .cond (tt 10) (.seq (.reg [
 qo 4 (.p (S.get (.c (.bool false)))) []]) (
 .ret)) (.skip))) (
 .seq (.seq (.reg [
 qo 5 (.p (S.get (ii 0))) []]) (
 .block 0 (.loop c17_l0))) (
 .seq (.reg [
 qo 4 (.p (S.get (.c (.bool true)))) []]) (
 .ret))))⟩
theorem c17_eq:fnOf Tryd.prog 17=some c17:=by kernel_rfl
structure ClsAt (H:Heap) (v:V) (l:List Cl):Prop where
 ex:∃ p c z,v=.slice p l.length c z
 get:∀(i:Nat) (hi:i < l.length),∃ x o c z,v=.slice (some ⟨x,o⟩) l.length c z∧ldO (H.get x) (o+i*66) 66=some (rowC l[i])
theorem rowsC_get {l:List Cl} {i:Nat} (hi:i < l.length):(rowsC l)[i]?=some (rowC l[i]):=by unfold rowsC;rw[List.getElem?_map,List.getElem?_eq_getElem hi];rfl
theorem cls_lst {H0 H:Heap} {v:V} {l:List Cl} (h:Lst H0 H 66 (rowsC l) v):ClsAt H v l:=by
 refine⟨?_,fun i hi=>?_⟩
 ·obtain⟨p,c,o,e⟩:=h.val
  rw[rowsC_len] at e
  exact⟨p,c,o,e⟩
 ·obtain⟨n,e,hl⟩:=h.load (i:=i) (o:=0) (k:=66) (r:=rowC l[i]) (rowsC_get hi) (by decide)
  rw[rowsC_len] at e
  refine⟨.run n,0,_,_,e,?_⟩
  rw[Nat.zero_add]
  have hl:loadAt H ⟨.run n,i*66+0⟩ 66=_:=hl
  rw[Nat.add_zero,ld_get] at hl
  exact hl
theorem elems_cells {H:Heap} {x:Bk} {ro:Bool} {rows:List (List V)} (hg:H.get x=some (.rows ro 66 rows)):∀(l:List Cl) (ox:Nat),(∀ i (hi:i < l.length),rows[ox+i]?=some (rowC l[i]))→elems H x 66 l.length (ox*66)=some (rowsC l)
 | [],ox,_=>rfl
 | c::l,ox,h=>by
  have h0:=h 0 (by simp)
  rw[Nat.add_zero] at h0
  have l0:loadAt H ⟨x,ox*66⟩ 66=some (rowC c):=by
   rw[loadAt_eq hg (r:=rowC c) (nth_of (by rw[Nat.mul_div_cancel _ (by decide)];exact h0)),Nat.mul_mod_left]
   rfl
  show elems H x 66 (l.length+1) (ox*66)=_
  unfold elems
  rw[l0]
  simp only
  rw[show Nat.add (ox*66) 66=(ox+1)*66 by show ox*66+66=_;rw[Nat.succ_mul],elems_cells hg l (ox+1) (fun i hi=>by
   have:=h (i+1) (by simpa using hi)
   rw[show ox+1+i=ox+(i+1) by omega,this]
   rfl)]
  rfl
section
variable {lf K:Nat} (hlf:1000 < lf)
include hlf
theorem ucopy {G:Heap} {p:Option Ptr} {c z:Nat} {l:List Cl} (h:CellsAt G p l) (hl:l.length≤1000) (n:Nat):ret (U lf K (n+1) 14 [.slice p l.length c z] G) fun v G'=>Lst G G' 66 (rowsC l) v∧Turns Z G G':=by
 have hrl:=rowsC_len l
 obtain⟨y,G1,ea,hy,t1⟩:∃ y G1,appendV 66 80 G (.slice none 0 0 0) (.slice p l.length c z)=some (y,G1)∧Lst G G1 66 (rowsC l) y∧Turns Z G G1:=by
  by_cases h0:l=[]
  ·subst h0
   exact⟨.slice none 0 0 0,G,rfl,.inl ⟨rfl,rfl⟩,Turns.refl _ _⟩
  ·obtain⟨x,ox,ro,rows,rfl,ho,hg,hr⟩:=h.has h0
   have hel:firstE G 66 (.slice (some ⟨x,ox*66⟩) l.length c z)=some (rowsC l):=elems_cells hg l ox hr
   obtain⟨G1,ea,hy,t1,_⟩:=(Lst.nil G G 66).app (by':=80) (x:=.slice (some ⟨x,ox*66⟩) l.length c z) (Nat.le_refl _) hel (by rw[hrl];rfl) (fun e=>h0 (List.map_eq_nil_iff.1 e)) (by decide) (by rw[hrl];simp only[List.length_nil];omega) (by rw[hrl];simp only[List.length_nil];omega)
   exact⟨_,G1,ea,hy,t1.wide (fun c ⟨_,_,_,_,e,_⟩=>by cases e)⟩
 refine ret_callU rfl rfl c14_eq ?_
 simp (maxDischargeDepth:=12) only[c14,ea,hv,ldO_one,stO_one,sy,tup,↓reduceIte,zA,zG,zC,zD,zF,zE,zB,zH,reduceCtorEq]
 exact⟨trivial,.inr trivial,_,rfl,hy,t1⟩
theorem ucells {G:Heap} {a b:V} {l:List Cl} (ha:ClsAt G a l) (hb:ClsAt G b l) (hl:l.length≤1000) (hf:l.length+1 < lf) (n:Nat):U lf K (n+1) 17 [a,b] G=some (.v (.bool true),G):=by
 obtain⟨v,H',e',rfl,rfl⟩:ret (U lf K (n+1) 17 [a,b] G) fun v H'=>v=.bool true∧H'=G:=by
  have hloop:∀ t:T,t.getP (Tr.path 0)=some a→t.getP (Tr.path 1)=some b→t.getP (Tr.path 5)=some (.int .i64 0)→wp (loopF (runC (U lf K n) lf c17_l0) lf ⟨t,G,[]⟩) fun x s=>x=.ex 0∧s.d=[]∧s.H=G:=by
   intro t q0 q1 q5
   refine wp_loopF (fun u s=>∃ i:Nat,u=l.length - i∧i≤l.length∧s.d=[]∧s.H=G∧s.t.getP (Tr.path 0)=some a∧s.t.getP (Tr.path 1)=some b∧s.t.getP (Tr.path 5)=some (.int .i64 (i:Int))) ?_ lf l.length _ ⟨0,rfl,by omega,rfl,rfl,q0,q1,q5⟩ (by omega)
   rintro u ⟨t,HH,d⟩ ⟨i,rfl,hi,hd,hH,q0,q1,q5⟩
   dsimp only at hd hH q0 q1 q5
   subst hd;subst hH
   by_cases hlt:i < l.length
   ·have hlt':(i:Int) < (l.length:Int):=by omega
    have hle:i+1≤l.length:=hlt
    have w1:IntKind.i64.wrap ((i:Int)+1)=((i+1:Nat):Int):=by rw[Go.Am.wrap_i64 (by omega)];omega
    obtain⟨x,o,c,z,rfl,lx⟩:=ha.get i hlt
    obtain⟨x',o',c',z',rfl,lx'⟩:=hb.get i hlt
    unfold rowC at lx lx'
    have bs:(l[i].s==l[i].s)=true:=beq_self_eq_true _
    have bm:(l[i].m==l[i].m)=true:=beq_self_eq_true _
    have bx:(l[i].x==l[i].x)=true:=beq_self_eq_true _
    simp (maxDischargeDepth:=12) only[c17_l0,q0,q1,q5,hlt',hlt,hle,lx,lx',hv,ldO_one,stO_one,sy,tup,↓reduceIte,zA,zG,zC,zD,zF,zE,zB,zH,reduceCtorEq]
    rw[endD_ok (by kernel_rfl) (by kernel_rfl)]
    simp (maxDischargeDepth:=12) only[q5,bs,bm,bx,w1,hv,ldO_one,stO_one,sy,tup,↓reduceIte,zA,zG,zC,zD,zF,zE,zB,zH,reduceCtorEq]
    exact⟨l.length - (i+1),by omega,i+1,rfl,hlt,trivial,trivial,q0,q1,by simp⟩
   ·have:i=l.length:=by omega
    subst this
    obtain⟨p,c,z,rfl⟩:=ha.ex
    simp (maxDischargeDepth:=12) only[c17_l0,q0,q1,q5,Int.lt_irrefl,Nat.lt_irrefl,hv,ldO_one,stO_one,sy,tup,↓reduceIte,zA,zG,zC,zD,zF,zE,zB,zH,reduceCtorEq]
    exact⟨trivial,trivial,trivial⟩
  obtain⟨p,c,z,rfl⟩:=ha.ex
  obtain⟨p',c',z',rfl⟩:=hb.ex
  have bl:((l.length:Int)==(l.length:Int))=true:=beq_self_eq_true _
  refine ret_callU rfl rfl c17_eq ?_
  simp (maxDischargeDepth:=12) only[c17,bl,hv,ldO_one,stO_one,sy,tup,↓reduceIte,zA,zG,zC,zD,zF,zE,zB,zH,reduceCtorEq]
  refine wp_ctx (F:=fun r=>seqC _ _ _ (blockC _ r)) (hloop _ ?_ ?_ ?_) ?_
  ·simp only[sy,tup,↓reduceIte,zA,zG,zC,zD,zF,zE,zB,zH,reduceCtorEq]
  ·simp only[sy,tup,↓reduceIte,zA,zG,zC,zD,zF,zE,zB,zH,reduceCtorEq]
  ·simp only[sy,tup,↓reduceIte,zA,zG,zC,zD,zF,zE,zB,zH,reduceCtorEq]
  rintro x ⟨t,HH,d⟩ ⟨rfl,hd,hH⟩
  dsimp only at hd hH
  subst hd;subst hH
  simp (maxDischargeDepth:=12) only[hv,ldO_one,stO_one,sy,tup,↓reduceIte,zA,zG,zC,zD,zF,zE,zB,zH,reduceCtorEq]
  simp
 exact e'
end
end Go.Proofs.YtabebpemfinejaaDoor.draft
namespace Go.Proofs.YtabebpemfinejaaDoor.draft
open Go.Am
open disk (bx Fit A1 R1 Low Bn)
noncomputable def c4_l0:C:=.seq (.seq (.reg [
 mv 100 20,
 mv 101 12,
 qo 102 (.p (lenF (tt 101))) [pp 101],
 qo 103 (.p (arF .lss (tt 100) (tt 102))) [pp 100,pp 102]]) (
 .cond (tt 103) (.skip) (.exit 4))) (
 .seq (.block 5 (.seq (.reg [
 mv 107 10,
 mv 108 20,
 qo 109 (.p (convF .u64 (tt 108))) [pp 108],
 qo 110 (.p (arF .add (tt 109) (.c (.int .u64 1)))) [pp 109],
 qo 111 (.c (callF (ff 16) [(tt 107),(tt 110)])) [pp 107,pp 110],
 mv 106 111,
 qo 112 (.p (extF (tt 106) 0)) [pp 106],
 qo 113 (.p (extF (tt 106) 1)) [pp 106],
 mv 21 112,
 mv 22 113]) (
 .seq (.seq (.reg [
 mv 114 20,
 mv 115 16,
 qo 116 (.p (eqcF false false [.int .i64] (tt 114) (tt 115))) [pp 114,pp 115],
 mv 117 116,
 mg 118 3 117 true,
 qg 119 (.p (eqcF true false [.int .u8] (tt 118) (.c (.int .u8 0)))) 117 true [pp 118],
 qo 120 (.p (pickF (tt 117) (tt 119) (.c (.bool false)))) [pp 117,pp 119]]) (
 .cond (tt 120) (.seq (.seq (.reg [
 mv 121 22,
 qo 122 (.p (eqcF true false [.int .i64] (tt 121) (ii 6))) [pp 121],
 mv 123 122,
 mg 124 21 123 false,
 qg 125 (.p (lenF (tt 124))) 123 false [pp 124],
 qg 126 (.p (eqcF true false [.int .i64] (tt 125) (ii 0))) 123 false [pp 125],
 qo 127 (.p (pickF (tt 123) (.c (.bool true)) (tt 126))) [pp 123,pp 126]]) (
 .cond (tt 127) (.seq (.reg [
 qo 8 (.p (S.get (.c (.bool false)))) []]) (
 .ret)) (.skip))) (
 .exit 5)) (.skip))) (
 .seq (.reg [
 mv 128 22,
 qo 129 (.p (eqcF true false [.int .i64] (tt 128) (ii 0))) [pp 128],
 mv 130 129,
 mg 131 21 130 false,
 mg 132 12 130 false,
 mg 133 20 130 false,
 qg 134 (.p (iaddrSF (tt 132) (tt 133) 1)) 130 false [pp 132,pp 133],
 qg 135 (.r (loadF (tt 134) 1 .sc)) 130 false [pp 134],
 qg 136 (.c (callF (ff 17) [(tt 131),(tt 135)])) 130 false [pp 131,pp 135],
 qg 137 (.p (unF .not (tt 136))) 130 false [pp 136],
 qo 138 (.p (pickF (tt 130) (.c (.bool true)) (tt 137))) [pp 130,pp 137]]) (
 .cond (tt 138) (.seq (.reg [
 qo 8 (.p (S.get (.c (.bool false)))) []]) (
 .ret)) (.skip)))))) (
 .reg [
 mv 104 20,
 qo 105 (.p (arF .add (tt 104) (ii 1))) [pp 104],
 mv 20 105]))
noncomputable def c4_l1:C:=.seq (.seq (.reg [
 mv 68 18,
 mv 69 16,
 qo 70 (.p (arF .lss (tt 68) (tt 69))) [pp 68,pp 69]]) (
 .cond (tt 70) (.skip) (.exit 2))) (
 .seq (.block 3 (.reg [
 mv 73 17,
 mv 74 12,
 mv 75 18,
 qo 76 (.p (iaddrSF (tt 74) (tt 75) 1)) [pp 74,pp 75],
 qo 77 (.r (loadF (tt 76) 1 .sc)) [pp 76],
 qo 78 (.p (lenF (tt 77))) [pp 77],
 qo 79 (.c (callF (ff 12) [(tt 78)])) [pp 78],
 qo 80 (.p (arF .add (tt 73) (tt 79))) [pp 73,pp 79],
 mv 17 80])) (
 .reg [
 mv 71 18,
 qo 72 (.p (arF .add (tt 71) (ii 1))) [pp 71],
 mv 18 72]))
noncomputable def c4_l2:C:=.seq (.seq (.reg [
 mv 30 13,
 mv 31 0,
 qo 32 (.p (lenF (tt 31))) [pp 31],
 qo 33 (.p (arF .lss (tt 30) (tt 32))) [pp 30,pp 32],
 mv 34 33,
 mg 35 13 34 true,
 qg 36 (.p (arF .lss (tt 35) (ii 8))) 34 true [pp 35],
 qo 37 (.p (pickF (tt 34) (tt 36) (.c (.bool false)))) [pp 34,pp 36]]) (
 .cond (tt 37) (.skip) (.exit 0))) (
 .seq (.block 1 (.seq (.reg [
 mv 41 10,
 mv 42 0,
 mv 43 13,
 qo 44 (.p (iaddrSF (tt 42) (tt 43) 1)) [pp 42,pp 43],
 qo 45 (.r (loadF (tt 44) 1 .sc)) [pp 44],
 qo 46 (.c (callF (ff 11) [(tt 41),(tt 45)])) [pp 41,pp 45],
 mv 40 46,
 qo 47 (.p (extF (tt 40) 0)) [pp 40],
 qo 48 (.p (extF (tt 40) 1)) [pp 40],
 mv 14 47,
 mv 15 48]) (
 .seq (.reg [
 mv 49 15,
 qo 50 (.p (eqcF false false [.int .i64] (tt 49) (ii 0))) [pp 49]]) (
 .cond (tt 50) (.reg [
 mv 51 12,
 mv 52 0,
 mv 53 13,
 qo 54 (.p (iaddrSF (tt 52) (tt 53) 1)) [pp 52,pp 53],
 qo 55 (.r (loadF (tt 54) 1 .sc)) [pp 54],
 qo 56 (.c (callF (ff 14) [(tt 55)])) [pp 55],
 qo 57 (.m (bsliceF 1 1 [.slice none 0 0 0] [(0,1,(tt 56))])) [pp 56],
 qo 58 (.a (appF 1 24 (tt 51) (tt 57))) [pp 51,pp 57],
 mv 12 58]) (.skip))))) (
 .reg [
 mv 38 13,
 qo 39 (.p (arF .add (tt 38) (ii 1))) [pp 38],
 mv 13 39]))
noncomputable def c4:CFn:=⟨[.tmp (pp 8)],
 .seq (.reg [
 qo 8 (.p (S.get (.c (.bool false)))) []]) (
 .seq (.reg [
 qo 24 (.c (callF (ff 6) [(.c (.int .u8 200))])) [],
 mv 23 24,
 qo 25 (.p (extF (tt 23) 0)) [pp 23],
 qo 26 (.p (extF (tt 23) 1)) [pp 23],
 qo 27 (.p (extF (tt 23) 2)) [pp 23],
 mv 9 25,
 mv 10 26,
 mv 11 27]) (
 .seq (.seq (.reg [
 mv 28 11,
 qo 29 (.p (unF .not (tt 28))) [pp 28]]) (
 .cond (tt 29) (.seq (.reg [
 qo 8 (.p (S.get (.c (.bool false)))) []]) (
 .ret)) (.skip))) (
 .seq (.reg [
 qo 12 (.p (S.get (.c (.slice none 0 0 0)))) []]) (
 .seq (.seq (.reg [
 qo 13 (.p (S.get (ii 0))) []]) (
 .block 0 (.loop c4_l2))) (
 .seq (.seq (.reg [
 mv 59 12,
 qo 60 (.p (lenF (tt 59))) [pp 59],
 qo 61 (.p (eqcF false false [.int .i64] (tt 60) (ii 0))) [pp 60]]) (
 .cond (tt 61) (.seq (.reg [
 qo 62 (.c (callF (ff 13) [])) [],
 mv 8 62]) (
 .ret)) (.skip))) (
 .seq (.reg [
 mv 63 1,
 qo 64 (.p (convF .i64 (tt 63))) [pp 63],
 mv 65 12,
 qo 66 (.p (lenF (tt 65))) [pp 65],
 qo 67 (.p (arF .rem (tt 64) (tt 66))) [pp 64,pp 66],
 mv 16 67]) (
 .seq (.reg [
 qo 17 (.p (S.get (ii 10))) []]) (
 .seq (.seq (.reg [
 qo 18 (.p (S.get (ii 0))) []]) (
 .block 2 (.loop c4_l1))) (
 .seq (.reg [
 mv 81 12,
 mv 82 16,
 qo 83 (.p (iaddrSF (tt 81) (tt 82) 1)) [pp 81,pp 82],
 qo 84 (.r (loadF (tt 83) 1 .sc)) [pp 83],
 qo 85 (.p (lenF (tt 84))) [pp 84],
 qo 86 (.c (callF (ff 12) [(tt 85)])) [pp 85],
 mv 19 86]) (
 .seq (.seq (.reg [
 mv 87 9,
 mv 88 17,
 mv 89 2,
 qo 90 (.p (convF .i64 (tt 89))) [pp 89],
 mv 91 19,
 qo 92 (.p (arF .rem (tt 90) (tt 91))) [pp 90,pp 91],
 qo 93 (.p (arF .add (tt 88) (tt 92))) [pp 88,pp 92],
 mv 94 2,
 qo 95 (.p (convF .i64 (tt 94))) [pp 94],
 qo 96 (.p (arF .rem (tt 95) (ii 64))) [pp 95],
 mv 97 3,
 qo 98 (.c (callF (ff 15) [(tt 87),(ii 0),(tt 93),(tt 96),(tt 97)])) [pp 87,pp 93,pp 96,pp 97],
 qo 99 (.p (eqcF true false [.int .i64] (tt 98) (ii 0))) [pp 98]]) (
 .cond (tt 99) (.seq (.reg [
 qo 8 (.p (S.get (.c (.bool false)))) []]) (
 .ret)) (.skip))) (
 .seq (.seq (.reg [
 qo 20 (.p (S.get (ii 0))) []]) (
 .block 4 (.loop c4_l0))) (
 .seq (.reg [
 qo 139 (.c (callF (ff 13) [])) [],
 mv 8 139]) (
 .ret)))))))))))))⟩
theorem c4_eq:fnOf Tryd.prog 4=some c4:=by kernel_rfl
theorem LS.sameX {X:Bk→Prop} {G0 G G':Heap} {l b:Bk} {R i cnt first tail head:Nat} {N:List Nt} {lv:V} {S:List Nat} {st:Nat} (h:LS G0 G l b R i cnt first tail head N lv S st) (t:Turns X G G') (hb:¬ X b) (hl:¬ X l) (hv:∀ c,Bof lv c→¬ X c) (ho:∀ c,G0.Old c→¬ X c):LS G0 G' l b R i cnt first tail head N lv S st:=by
 obtain⟨hg,G1,hN,hn⟩:=h.log.ex
 exact { h with log:=⟨⟨(t.same l h.log.old hl).trans hg,G1,hN.turns t hv,Nat.le_trans hn t.next⟩,h.log.old.mono t.next,h.log.rb,h.log.rg,h.log.fn,h.log.nl⟩,hb:=(t.same b h.bo hb).trans h.hb,bo:=h.bo.mono t.next,t:=h.t.later t (fun c hc hx=>absurd hx (ho c hc)) }
theorem LS.lx {G0 G:Heap} {l b:Bk} {R i cnt first tail head:Nat} {N:List Nt} {lv:V} {S:List Nat} {st:Nat} (h:LS G0 G l b R i cnt first tail head N lv S st) {c:Bk} {w:Nat} {r:List (List V)} (hc:G.get c=some (.rows false w r)) (h9:w≠9) (h4:w≠4):¬ LX b l lv c:=by
 obtain⟨hg,G1,hN,hn⟩:=h.log.ex
 rintro(e | e | e)
 ·rw[e,h.hb] at hc;cases hc
 ·rw[e,hg] at hc;cases hc;exact h9 rfl
 ·obtain⟨_,_,_,_,hgB⟩:=hN.bof e
  rw[hgB] at hc;cases hc;exact h4 rfl
structure Ll where
 pp:Option Ptr
 cs:List Cl
 pc:Nat
 po:Nat
def Ll.v (s:Ll):V:=.slice s.pp s.cs.length s.pc s.po
structure LlsAt (H:Heap) (pp:Option Ptr) (L:List Ll):Prop where
 has:L≠[]→∃ x ox ro rows,pp=some ⟨x,ox⟩∧H.Old x∧H.get x=some (.rows ro 1 rows)∧∀ i,(hi:i < L.length)→rows[ox+i]?=some [L[i].v]
 cells:∀ s ∈ L,CellsAt H s.pp s.cs
 small:∀ s ∈ L,∀ c ∈ s.cs,c.x < 256 ^ 64
 len:∀ s ∈ L,s.cs.length≤9223372036854775807
theorem LlsAt.turns {H H':Heap} {pp:Option Ptr} {L:List Ll} (h:LlsAt H pp L) (k:Turns Z H H'):LlsAt H' pp L:=⟨fun e=>by
 obtain⟨x,ox,ro,rows,hp,ho,hg,hr⟩:=h.has e
 exact⟨x,ox,ro,rows,hp,ho.mono k.next,(k.same x ho (fun h=>h)).trans hg,hr⟩,fun s hs=>(h.cells s hs).turnsZ k,h.small,h.len⟩
theorem LlsAt.load {H:Heap} {pp:Option Ptr} {L:List Ll} (h:LlsAt H pp L) {i:Nat} (hi:i < L.length):∃ x ox,pp=some ⟨x,ox⟩∧ldO (H.get x) (ox+i) 1=some [L[i].v]:=by
 obtain⟨x,ox,ro,rows,hp,ho,hg,hr⟩:=h.has (fun e=>by rw[e] at hi;simp at hi)
 refine⟨x,ox,hp,?_⟩
 show loadAt H ⟨x,ox+i⟩ 1=_
 rw[loadAt_eq hg (r:=[L[i].v]) (nth_of (by rw[Nat.div_one];exact hr i hi)),Nat.mod_one]
 rfl
theorem LlsAt.loads {H:Heap} {pp:Option Ptr} {L:List Ll} (h:LlsAt H pp L) {i:Nat} (hi:i < L.length):∃ x ox,pp=some ⟨x,ox⟩∧∀ H',Turns Z H H'→ldO (H'.get x) (ox+i) 1=some [L[i].v]:=by
 obtain⟨x,ox,ro,rows,hp,ho,hg,hr⟩:=h.has (fun e=>by rw[e] at hi;simp at hi)
 refine⟨x,ox,hp,fun H' t=>?_⟩
 show loadAt H' ⟨x,ox+i⟩ 1=_
 rw[loadAt_eq ((t.same x ho (fun h=>h)).trans hg) (r:=[L[i].v]) (nth_of (by rw[Nat.div_one];exact hr i hi)),Nat.mod_one]
 rfl
theorem Lst.base {G0 G1 H:Heap} {w:Nat} {r:List (List V)} {v:V} (h:Lst G1 H w r v) (hn:G0.next≤G1.next):Lst G0 H w r v:=by
 rcases h with h | ⟨n,a,b,c,d,e⟩
 ·exact .inl h
 ·exact .inr ⟨n,a,b,c,Nat.le_trans hn d,e⟩
structure Sps (G0 H:Heap) (l b:Bk) (i head:Nat) (N:List Nt) (lv:V) (S:List Nat) (st:Nat) (C:List (List Cl)) (Ys:List V) (y:V):Prop where
 ls:LS G0 H l b 240 i 1 1 0 head N lv S st
 held:Held 240 S N C
 all:Lst G0 H 1 (Ys.map fun v=>[v]) y
 len:Ys.length=C.length
 each:∀ j (h1:j < Ys.length) (h2:j < C.length),Lst G0 H 66 (rowsC C[j]) Ys[j]
section
variable {lf K:Nat} (hlf:1000 < lf)
include hlf
theorem logspoilt_put {G0 G:Heap} {l b:Bk} (hgl:G0.get (.run 0)=some (.rows true 4 (intsR [8,2,8,8]))) (h00:0 < G0.next) {pp:Option Ptr} {L:List Ll} {pc po:Nat} (hL:LlsAt G0 pp L) (hLf:∀ s ∈ L,s.cs.length+1 < lf) {S:List Nat} {st:Nat} {lv:V} (h0:LS G0 G l b 240 0 1 1 0 0 [] lv S st) {t1 t2 t3 t9:V} (n:Nat):∀ t:T,t.getP (Tr.path 0)=some (.slice pp L.length pc po)→t.getP (Tr.path 1)=some t1→t.getP (Tr.path 2)=some t2→t.getP (Tr.path 3)=some t3→t.getP (Tr.path 9)=some t9→t.getP (Tr.path 10)=some (.ptr (some ⟨l,0⟩))→t.getP (Tr.path 12)=some (.slice none 0 0 0)→t.getP (Tr.path 13)=some (.int .i64 0) →
  wp (loopF (runC (U lf K (n+6)) lf c4_l2) lf ⟨t,G,[]⟩) fun x s=>x=.ex 0∧s.d=[]∧s.t.getP (Tr.path 1)=some t1∧s.t.getP (Tr.path 2)=some t2∧s.t.getP (Tr.path 3)=some t3∧s.t.getP (Tr.path 9)=some t9∧s.t.getP (Tr.path 10)=some (.ptr (some ⟨l,0⟩))∧∃ i head N lv S st C Ys y,i≤8∧s.t.getP (Tr.path 12)=some y∧Sps G0 s.H l b i head N lv S st C Ys y:=by
 intro t q0 q1 q2 q3 q9 q10 q12 q13
 refine wp_loopF (fun u s=>∃ i:Nat,u=8 - i∧i≤8∧i≤L.length∧s.d=[]∧s.t.getP (Tr.path 0)=some (.slice pp L.length pc po)∧s.t.getP (Tr.path 1)=some t1∧s.t.getP (Tr.path 2)=some t2∧s.t.getP (Tr.path 3)=some t3∧s.t.getP (Tr.path 9)=some t9∧s.t.getP (Tr.path 10)=some (.ptr (some ⟨l,0⟩))∧s.t.getP (Tr.path 13)=some (.int .i64 (i:Int))∧∃ head N lv S st C Ys y,s.t.getP (Tr.path 12)=some y∧Sps G0 s.H l b i head N lv S st C Ys y)
  ?_ lf 8 _ ⟨0,rfl,Nat.zero_le _,Nat.zero_le _,rfl,q0,q1,q2,q3,q9,q10,q13,_,_,_,_,_,[],[],_,q12,h0,⟨rfl,fun i h=>absurd h (by simp)⟩,Lst.nil _ _ _,rfl,fun j h=>absurd h (by simp)⟩ (by omega)
 rintro u ⟨t,HH,d⟩ ⟨i,rfl,hi,hiL,hd,q0,q1,q2,q3,q9,q10,q13,head,N,lv,S,st,C,Ys,y,q12,hS⟩
 dsimp only at hd q0 q1 q2 q3 q9 q10 q12 q13 hS
 subst hd
 by_cases hlt:i < L.length
 rotate_left
 ·have:i=L.length:=by omega
  subst this
  simp (maxDischargeDepth:=12) only[c4_l2,q0,q13,Int.lt_irrefl,Nat.lt_irrefl,hv,ldO_one,stO_one,sy,tup,↓reduceIte,zA,zG,zC,zD,zF,zE,zB,zH,reduceCtorEq]
  exact⟨trivial,trivial,by simp[q1],by simp[q2],by simp[q3],by simp[q9],by simp[q10],L.length,head,N,lv,S,st,C,Ys,y,hi,by simp[q12],hS⟩
 have hlt':(i:Int) < (L.length:Int):=by omega
 by_cases h8:i < 8
 rotate_left
 ·have:i=8:=by omega
  subst this
  have h8':¬ (((8:Nat):Int) < 8):=by decide
  simp (maxDischargeDepth:=12) only[c4_l2,q0,q13,hlt',hlt,h8',hv,ldO_one,stO_one,sy,tup,↓reduceIte,zA,zG,zC,zD,zF,zE,zB,zH,reduceCtorEq]
  exact⟨trivial,trivial,q1,q2,q3,q9,q10,8,head,N,lv,S,st,C,Ys,y,Nat.le_refl _,q12,hS⟩
 have h8':(i:Int) < 8:=by omega
 have hle:i+1≤L.length:=hlt
 have w1:IntKind.i64.wrap ((i:Int)+1)=((i+1:Nat):Int):=by rw[Go.Am.wrap_i64 (by omega)];omega
 obtain⟨x,ox,rfl,lds⟩:=hL.loads hlt
 have hcs0:=hL.cells L[i] (List.getElem_mem _)
 have hcs:=(hL.turns hS.ls.t).cells L[i] (List.getElem_mem _)
 have hsm:=hL.small L[i] (List.getElem_mem _)
 have hln:=hL.len L[i] (List.getElem_mem _)
 have hlf':=hLf L[i] (List.getElem_mem _)
 generalize L[i]=sp at lds hcs hcs0 hsm hln hlf'
 obtain⟨spp,scs,spc,spo⟩:=sp
 unfold Ll.v at lds
 dsimp only at lds hcs hcs0 hsm hln hlf'
 have ld:=lds HH hS.ls.t
 obtain⟨v2,H2,e2,t2',h2⟩:=hS.ls.append2 hlf (K:=K) (by omega) hgl h00 hcs hlf' hln (pc:=spc) (po:=spo) n
 have keepL:∀ {w:Nat} {r:List (List V)} {v:V},w≠9→w≠4→Lst G0 HH w r v→Lst G0 H2 w r v:=fun h9 h4 h=>h.turns t2' (fun c hc=>by
  obtain⟨_,_,_,_,hg⟩:=h.bof hc
  exact hS.ls.lx hg h9 h4)
 rcases h2 with ⟨e,he,rfl,hS2⟩ | ⟨hp,hroom,rfl,lv2,st2,hS2⟩
 ·have he':(e==0)=false:=beq_eq_false_iff_ne.2 he
  simp (maxDischargeDepth:=12) only[c4_l2,q0,q10,q13,hlt',hlt,h8',hle,ld,e2,he',w1,Nat.mul_one,hv,ldO_one,stO_one,sy,tup,↓reduceIte,zA,zG,zC,zD,zF,zE,zB,zH,reduceCtorEq]
  exact⟨8 - (i+1),by omega,i+1,rfl,by omega,hle,trivial,by simp[q0],by simp[q1],by simp[q2],by simp[q3],by simp[q9],by simp[q10],by simp,head,N,lv,S,st,C,Ys,y,by simp[q12],hS2,hS.held,keepL (by decide) (by decide) hS.all,hS.len,fun j h1 h2=>keepL (by decide) (by decide) (hS.each j h1 h2)⟩
 ·obtain⟨hc1,hc2,hmay⟩:=pcode_ok hlf hp
  have b00:((0:Int)==0)=true:=rfl
  have ld2:=lds H2 hS2.t
  obtain⟨yi,H3,e3,hyi,t3'⟩:=ucopy hlf (K:=K) (c:=spc) (z:=spo) (hcs0.turnsZ hS2.t) (by omega) (n+5)
  have hyv:yi.cells=some [yi]∧width [yi]=1∧cut [yi] 0 1=some [yi]:=by
   obtain⟨p,c,o,rfl⟩:=hyi.val
   exact⟨rfl,rfl,rfl⟩
  have t4':=Turns.add Z H3 (.rows false 1 [[yi]])
  have hx4:(H3.add (.rows false 1 [[yi]])).get (.run H3.next)=some (.rows false 1 [[yi]]):=by rw[Heap.get_add,if_pos rfl]
  obtain⟨H4,hH4⟩:∃ H4,H3.add (.rows false 1 [[yi]])=H4:=⟨_,rfl⟩
  rw[hH4] at t4' hx4
  have t34:=t3'.trans t4'
  have hall4:Lst G0 H4 1 (Ys.map fun v=>[v]) y:=(keepL (by decide) (by decide) hS.all).turns t34 (fun _ _ h=>h)
  have hS4:=hS2.same t34
  have hYl:(Ys.map fun v=>[v]).length=Ys.length:=List.length_map _
  have hCN:=hS.held.len
  have hYC:=hS.len
  have hN8:N.length≤8:=hS.ls.log.nl
  obtain⟨H5,ea,hall5,t5',_⟩:=hall4.app1 (by':=24) hS4.t.next hx4 hyv.2.2 (by decide) (by rw[hYl];omega) (by rw[hYl];omega)
  rw[hYl] at ea hall5
  have hB1:∀ c,Bof y c→∃ m,c=.run m∧G0.next≤m∧H4.get c=some (.rows false 1 (Ys.map fun v=>[v])):=fun c hc=>by
   obtain⟨m,e,hm,_,hg⟩:=hall4.bof hc
   exact⟨m,e,hm,hg⟩
  have hS5:=hS4.sameX t5' (fun hc=>by
   obtain⟨_,_,_,hg⟩:=hB1 _ hc
   rw[hS4.hb] at hg;cases hg) (fun hc=>by
   obtain⟨_,_,_,hg⟩:=hB1 _ hc
   rw[hS4.log.ex.1] at hg;cases hg) (fun c hv hc=>by
   obtain⟨_,_,_,hg⟩:=hB1 _ hc
   obtain⟨_,G1,hN,_⟩:=hS4.log.ex
   obtain⟨_,_,_,_,hgB⟩:=hN.bof hv
   rw[hgB] at hg;cases hg) (fun c ho hc=>by
   obtain⟨m,e,hm,_⟩:=hB1 _ hc
   rw[e] at ho
   exact absurd ho (Heap.not_old hm))
  have keep5:∀ {w:Nat} {r:List (List V)} {v:V},w≠1→Lst G0 H4 w r v→Lst G0 H5 w r v:=fun h1 h=>h.turns t5' (fun c hc hb=>by
   obtain⟨_,_,_,hg⟩:=hB1 _ hb
   obtain⟨_,_,_,_,hgB⟩:=h.bof hc
   rw[hgB] at hg;cases hg;exact h1 rfl)
  simp (maxDischargeDepth:=12) only[c4_l2,q0,q10,q12,q13,hlt',hlt,h8',hle,ld,e2,b00,ld2,e3,hyv.1,hyv.2.1,hH4,ea,w1,Nat.mul_one,hv,ldO_one,stO_one,sy,tup,↓reduceIte,zA,zG,zC,zD,zF,zE,zB,zH,reduceCtorEq]
  refine⟨8 - (i+1),by omega,i+1,rfl,by omega,hle,trivial,by simp[q0],by simp[q1],by simp[q2],by simp[q3],by simp[q9],by simp[q10],by simp,_,_,_,_,_,C++[scs],Ys++[yi],_,rfl,hS5,?_,?_,?_,?_⟩
  ·have hsz:recS scs.length≤240 - (head - 0):=by
    unfold roomN roomR at hroom
    simp only[Bool.and_eq_true,decide_eq_true_eq] at hroom
    exact hroom.1.1
   have hle0:=hS.ls.ch.le
   have hh240:=hS.ls.log.rg.le
   have hlenS:=hS.ls.len
   have happ:=hS.held.app hS.ls.ch (l:=scs) (fun c hc=>⟨List.all_eq_true.1 hmay c hc,hsm c hc⟩) (by omega) (by omega) (n:=ntOf 1 head N scs) rfl rfl rfl
   refine happ.same (fun m hm=>?_)
   unfold appS
   have h8m:(ntOf 1 head N scs).seq % 8 < 8:=Nat.mod_lt _ (by decide)
   rw[getD_set _ _ _ _ (by rw[disk.flushS_length];omega),if_neg (by omega)]
  ·rw[List.map_append];exact hall5
  ·simp[hYC]
  ·intro j h1 h2
   rw[List.length_append,List.length_singleton] at h1 h2
   by_cases hj:j < Ys.length
   ·rw[List.getElem_append_left hj,List.getElem_append_left (by omega)]
    exact keep5 (by decide) ((keepL (by decide) (by decide) (hS.each j hj (by omega))).turns t34 (fun _ _ h=>h))
   ·have:j=Ys.length:=by omega
    subst this
    have g1:(Ys++[yi])[Ys.length]'(by simp)=yi:=by simp
    have g2:(C++[scs])[Ys.length]'(by simp[hYC])=scs:=by simp[hYC]
    rw[g1,g2]
    exact keep5 (by decide) ((Lst.base hyi hS2.t.next).turns t4' (fun _ _ h=>h))
end
end Go.Proofs.YtabebpemfinejaaDoor.draft
