import Derived.Test.YtabebpemfinejaaGreatG6
import Derived.Test.YtabebpemfinejaaGreatG3
import Derived.Test.YtabebpemfinejaaGreatG0
set_option linter.unusedVariables false
set_option linter.unusedSimpArgs false
set_option maxRecDepth 10000
set_option linter.unusedSectionVars false
open Nat renaming reduceEqDiff → zA, reduceLeDiff → zB, reduceSub → zC, reduceMul → zD, reduceMod → zE, reduceDiv → zF, reduceAdd → zG
open Int renaming reduceBEq → zH
namespace Go.Proofs.YtabebpemfinejaaGreat.draft
open Go.Am
noncomputable def c57_l0:C:=.seq (.seq (.reg [
 mv 50 13,
 mv 51 11,
 qo 52 (.p (lenF (tt 51))) [pp 51],
 qo 53 (.p (arF .lss (tt 50) (tt 52))) [pp 50,pp 52]]) (
 .cond (tt 53) (.skip) (.exit 0))) (
 .seq (.block 1 (.reg [
 mv 56 13,
 mv 57 11,
 mv 58 13,
 qo 59 (.p (iaddrSF (tt 57) (tt 58) 1)) [pp 57,pp 58],
 qo 60 (.r (loadF (tt 59) 1 .sc)) [pp 59],
 qo 61 (.p (faddrF (tt 10) 2)) [pp 10],
 qo 62 (.p (faddrF (tt 61) 3)) [pp 61],
 qo 63 (.p (iaddrAF (tt 62) (tt 56) 16 1)) [pp 62,pp 56],
 qn (.a (storeF (tt 63) (tt 60) 1)) [pp 63,pp 60]])) (
 .reg [
 mv 54 13,
 qo 55 (.p (arF .add (tt 54) (ii 1))) [pp 54],
 mv 13 55]))
noncomputable def c57:CFn:=⟨[.tmp (pp 2),.cell (pp 3) 23 .ag,.tmp (pp 4)],
 .seq (.reg [
 qo 1 (.m (boxF 64 (tt 0))) [pp 0],
 qo 2 (.p (S.get (.c (.int .u64 0)))) [],
 qo 3 (.m (allocF 23 [.int .u64 0,.int .i64 0,.int .i64 0,.int .i64 0,.int .i64 0,.int .u8 0,.int .u8 0,.int .u8 0,.int .u8 0,.int .u8 0,.int .u8 0,.int .u8 0,.int .u8 0,.int .u8 0,.int .u8 0,.int .u8 0,.int .u8 0,.int .u8 0,.int .u8 0,.int .u8 0,.int .u8 0,.int .i64 0,.bool false])) [],
 qo 4 (.p (S.get (ii 0))) []]) (
 .seq (.reg [
 qo 17 (.r (loadF (tt 1) 64 .bk)) [pp 1],
 qo 18 (.c (callF (ff 119) [(tt 17)])) [pp 17],
 mv 16 18,
 qo 19 (.p (extF (tt 16) 0)) [pp 16],
 qo 20 (.p (extF (tt 16) 1)) [pp 16],
 qo 21 (.p (extF (tt 16) 2)) [pp 16],
 mv 5 19,
 mv 6 20,
 mv 7 21]) (
 .seq (.seq (.reg [
 mv 22 7,
 qo 23 (.p (eqcF true false [.int .i64] (tt 22) (ii 0))) [pp 22]]) (
 .cond (tt 23) (.seq (.reg [
 qo 24 (.p (buildF [.int .u64 0,.int .i64 0,.int .i64 0,.int .i64 0,.int .i64 0,.int .u8 0,.int .u8 0,.int .u8 0,.int .u8 0,.int .u8 0,.int .u8 0,.int .u8 0,.int .u8 0,.int .u8 0,.int .u8 0,.int .u8 0,.int .u8 0,.int .u8 0,.int .u8 0,.int .u8 0,.int .u8 0,.int .i64 0,.bool false] .ag [])) [],
 mv 25 7,
 qo 2 (.p (S.get (.c (.int .u64 0)))) [],
 qn (.a (storeF (tt 3) (tt 24) 23)) [pp 3,pp 24],
 mv 4 25]) (
 .ret)) (.skip))) (
 .seq (.reg [
 mv 27 6,
 qo 28 (.c (callF (ff 120) [(tt 27),(ii 0),(ii 8)])) [pp 27],
 mv 26 28,
 qo 29 (.p (extF (tt 26) 0)) [pp 26],
 qo 30 (.p (extF (tt 26) 1)) [pp 26],
 mv 8 29,
 mv 9 30]) (
 .seq (.reg [
 mv 31 8,
 mv 32 6,
 qo 33 (.c (callF (ff 121) [(tt 32),(ii 13),(ii 1)])) [pp 32],
 qo 34 (.p (buildF [.int .u64 0,.int .i64 0,.int .i64 0,.int .i64 0,.int .i64 0,.int .u8 0,.int .u8 0,.int .u8 0,.int .u8 0,.int .u8 0,.int .u8 0,.int .u8 0,.int .u8 0,.int .u8 0,.int .u8 0,.int .u8 0,.int .u8 0,.int .u8 0,.int .u8 0,.int .u8 0,.int .u8 0,.int .i64 0,.bool false] .ag [(0,1,(tt 31)),(1,1,(tt 33))])) [pp 31,pp 33],
 qo 10 (.m (allocF 23 [.int .u64 0,.int .i64 0,.int .i64 0,.int .i64 0,.int .i64 0,.int .u8 0,.int .u8 0,.int .u8 0,.int .u8 0,.int .u8 0,.int .u8 0,.int .u8 0,.int .u8 0,.int .u8 0,.int .u8 0,.int .u8 0,.int .u8 0,.int .u8 0,.int .u8 0,.int .u8 0,.int .u8 0,.int .i64 0,.bool false])) [],
 qn (.a (storeF (tt 10) (tt 34) 23)) [pp 10,pp 34]]) (
 .seq (.reg [
 mv 35 6,
 qo 36 (.c (callF (ff 121) [(tt 35),(ii 8),(ii 1)])) [pp 35],
 mv 37 6,
 qo 38 (.c (callF (ff 121) [(tt 37),(ii 9),(ii 2)])) [pp 37],
 mv 39 6,
 qo 40 (.c (callF (ff 121) [(tt 39),(ii 11),(ii 2)])) [pp 39],
 qo 41 (.p (buildF [.int .i64 0,.int .i64 0,.int .i64 0] .ag [(0,1,(tt 36)),(1,1,(tt 38)),(2,1,(tt 40))])) [pp 36,pp 38,pp 40],
 qo 42 (.p (faddrF (tt 10) 2)) [pp 10],
 qo 43 (.p (faddrF (tt 42) 0)) [pp 42],
 qn (.a (storeF (tt 43) (tt 41) 3)) [pp 43,pp 41]]) (
 .seq (.reg [
 mv 45 6,
 qo 46 (.p (sliceF 1 (tt 45) (some (ii 14)) (some (ii 18)) none)) [pp 45],
 qo 47 (.c (callF (ff 122) [(tt 46),(ii 2),(ii 16)])) [pp 46],
 mv 44 47,
 qo 48 (.p (extF (tt 44) 0)) [pp 44],
 qo 49 (.p (extF (tt 44) 1)) [pp 44],
 mv 11 48,
 mv 12 49]) (
 .seq (.seq (.reg [
 qo 13 (.p (S.get (ii 0))) []]) (
 .block 0 (.loop c57_l0))) (
 .seq (.reg [
 mv 64 6,
 qo 65 (.c (callF (ff 121) [(tt 64),(ii 18),(ii 2)])) [pp 64],
 qo 66 (.p (faddrF (tt 10) 2)) [pp 10],
 qo 67 (.p (faddrF (tt 66) 19)) [pp 66],
 qn (.a (storeF (tt 67) (tt 65) 1)) [pp 67,pp 65]]) (
 .seq (.reg [
 mv 68 6,
 qo 69 (.p (iaddrSF (tt 68) (ii 20) 1)) [pp 68],
 qo 70 (.r (loadF (tt 69) 1 .sc)) [pp 69],
 qo 71 (.p (eqcF false false [.int .u8] (tt 70) (.c (.int .u8 1)))) [pp 70],
 qo 72 (.p (faddrF (tt 10) 2)) [pp 10],
 qo 73 (.p (faddrF (tt 72) 20)) [pp 72],
 qn (.a (storeF (tt 73) (tt 71) 1)) [pp 73,pp 71]]) (
 .seq (.seq (.reg [
 mv 74 5,
 qo 75 (.c (callF (ff 123) [(tt 74)])) [pp 74],
 qo 76 (.p (unF .not (tt 75))) [pp 75],
 mv 77 76,
 qg 78 (.r (loadF (tt 10) 23 .ag)) 77 false [pp 10],
 qg 79 (.c (callF (ff 124) [(tt 78)])) 77 false [pp 78],
 qg 80 (.p (unF .not (tt 79))) 77 false [pp 79],
 qo 81 (.p (pickF (tt 77) (.c (.bool true)) (tt 80))) [pp 77,pp 80]]) (
 .cond (tt 81) (.seq (.reg [
 qo 82 (.p (buildF [.int .u64 0,.int .i64 0,.int .i64 0,.int .i64 0,.int .i64 0,.int .u8 0,.int .u8 0,.int .u8 0,.int .u8 0,.int .u8 0,.int .u8 0,.int .u8 0,.int .u8 0,.int .u8 0,.int .u8 0,.int .u8 0,.int .u8 0,.int .u8 0,.int .u8 0,.int .u8 0,.int .u8 0,.int .i64 0,.bool false] .ag [])) [],
 qo 2 (.p (S.get (.c (.int .u64 0)))) [],
 qn (.a (storeF (tt 3) (tt 82) 23)) [pp 3,pp 82],
 qo 4 (.p (S.get (ii 5))) []]) (
 .ret)) (.skip))) (
 .seq (.reg [
 mv 84 5,
 qo 85 (.r (loadF (tt 10) 23 .ag)) [pp 10],
 qo 86 (.c (callF (ff 126) [(tt 85)])) [pp 85],
 qo 87 (.c (callF (ff 125) [(tt 84),(tt 86)])) [pp 84,pp 86],
 mv 83 87,
 qo 88 (.p (extF (tt 83) 0)) [pp 83],
 qo 89 (.p (extF (tt 83) 1)) [pp 83],
 qo 14 (.m (allocF 64 [.blk 0])) [],
 qn (.a (storeF (tt 14) (tt 88) 64)) [pp 14,pp 88],
 mv 15 89]) (
 .seq (.seq (.reg [
 qo 90 (.r (loadF (tt 14) 64 .bk)) [pp 14],
 qo 91 (.r (loadF (tt 1) 64 .bk)) [pp 1],
 qo 92 (.p (eqcF true true [.blk] (tt 90) (tt 91))) [pp 90,pp 91]]) (
 .cond (tt 92) (.seq (.reg [
 qo 93 (.p (buildF [.int .u64 0,.int .i64 0,.int .i64 0,.int .i64 0,.int .i64 0,.int .u8 0,.int .u8 0,.int .u8 0,.int .u8 0,.int .u8 0,.int .u8 0,.int .u8 0,.int .u8 0,.int .u8 0,.int .u8 0,.int .u8 0,.int .u8 0,.int .u8 0,.int .u8 0,.int .u8 0,.int .u8 0,.int .i64 0,.bool false] .ag [])) [],
 qo 2 (.p (S.get (.c (.int .u64 0)))) [],
 qn (.a (storeF (tt 3) (tt 93) 23)) [pp 3,pp 93],
 qo 4 (.p (S.get (ii 5))) []]) (
 .ret)) (.skip))) (
 .seq (.regD [
 mv 94 5,
 qo 95 (.r (loadF (tt 10) 23 .ag)) [pp 10],
 mv 2 94,
 qn (.a (storeF (tt 3) (tt 95) 23)) [pp 3,pp 95],
 qo 4 (.p (S.get (ii 0))) []] [0,0,1,7,15]) (
 .ret))))))))))))))⟩
theorem c57_eq:fnOf Tryz.prog 57=some c57:=by kernel_rfl
def eqBlk (u v:Option V):Option V:=match u,v with
 | some x,some y=>match x.cells,y.cells,eqB x.flat (!true)&&eqB y.flat (!true) with
  | some xs,some ys,true=>match cmpCells [.blk] xs ys with
   | some b=>some (.bool (match true with | true=>!b | false=>b))
   | none=>none
  | _,_,_=>none
 | _,_=>none
theorem eqcF_blk (x y:S) (t:T):eqcF true true [.blk] x y t=eqBlk (x.get t) (y.get t):=rfl
theorem eqBlk_some (X B:Nat):eqBlk (some (.blk X)) (some (.blk B))=some (.bool (!decide (X=B))):=by
 unfold eqBlk
 simp only[V.cells,C4,cmpCells,nbeq,Da,Bool.not_true,beq_self_eq_true,Bool.and_self,Option.map_some,Bool.and_true]
structure GJ (H0:Heap) (b1 b3 b10 k B:Nat) (K:Heap) (row:List V):Prop where
 bx:K.get (.run b1)=some (.rows false 64 [[.blk B]])
 an:K.get (.run b3)=some (.rows false 23 [zrow])
 sp:K.get (.run b10)=some (.rows false 23 [row])
 body:BodyAt K k (bc B) 44
 t:Turns Z H0 K
 lo:H0.next≤b1∧H0.next≤b3∧H0.next≤b10
 hi:b1 < K.next∧b3 < K.next∧b10 < K.next
 ne:b10≠b1∧b10≠b3∧b10≠k
theorem GJ.set {H0 K:Heap} {b1 b3 b10 k B:Nat} {row:List V} (g:GJ H0 b1 b3 b10 k B K row) (row':List V):GJ H0 b1 b3 b10 k B (K.set (.run b10) (.rows false 23 [row'])) row':=by
 obtain⟨n1,n2,n3⟩:=g.ne
 refine⟨?_,?_,by rw[Heap.get_set,if_pos rfl],⟨?_,by simpa using g.body.old⟩,g.t.setnew g.lo.2.2 _,g.lo,by simpa using g.hi,g.ne⟩
 ·rw[Heap.get_set,if_neg (run_ne (Ne.symm n1))];exact g.bx
 ·rw[Heap.get_set,if_neg (run_ne (Ne.symm n2))];exact g.an
 ·rw[Heap.get_set,if_neg (run_ne (Ne.symm n3))];exact g.body.own
theorem GJ.on {H0 K K':Heap} {b1 b3 b10 k B:Nat} {row:List V} (g:GJ H0 b1 b3 b10 k B K row) (t:Turns Z K K'):GJ H0 b1 b3 b10 k B K' row:=
 ⟨(t.same (.run b1) g.hi.1 id).trans g.bx,(t.same (.run b3) g.hi.2.1 id).trans g.an,(t.same (.run b10) g.hi.2.2 id).trans g.sp,g.body.turns t,g.t.trans t,g.lo,⟨Nat.lt_of_lt_of_le g.hi.1 t.next,Nat.lt_of_lt_of_le g.hi.2.1 t.next,Nat.lt_of_lt_of_le g.hi.2.2 t.next⟩,g.ne⟩
theorem GJ.put {H0 K:Heap} {b1 b3 b10 k B:Nat} {row:List V} (g:GJ H0 b1 b3 b10 k B K row) {o:Nat} {vs row':List V} (ho:o < 23) (hp:put row o vs=some row') :
  ∃ K',storeAt K ⟨.run b10,o⟩ vs=some K'∧GJ H0 b1 b3 b10 k B K' row'∧∀ c,c≠.run b10→K'.get c=K.get c:=by
 refine⟨_,?_,g.set row',fun c hc=>by rw[Heap.get_set,if_neg hc]⟩
 have:=storeAt_eq g.sp (o:=o) (vs:=vs) (r:=row) (r':=row') (by rw[Nat.div_eq_of_lt ho];rfl) (by rw[Nat.mod_eq_of_lt ho];exact hp)
 rw[Nat.div_eq_of_lt ho] at this
 exact this
theorem GJ.ans {H0 K:Heap} {b1 b3 b10 k B:Nat} {row:List V} (g:GJ H0 b1 b3 b10 k B K row) {row':List V} (hp:Go.Am.put zrow 0 row'=some row') (hl:row'.length=23) (ht:Thin row') :
  ∃ K',storeAt K ⟨.run b3,0⟩ row'=some K'∧loadAt K' ⟨.run b3,0⟩ 23=some row'∧Turns Z H0 K':=by
 refine⟨_,storeAt_eq g.an (r:=zrow) (r':=row') rfl hp,?_,g.t.setnew g.lo.2.1 _⟩
 rw[loadAt_eq (b:=.run b3) (r:=row') (by rw[Heap.get_set,if_pos rfl]) rfl,cut_thin ht (by omega)]
 simp[← hl]
theorem twos_stl (c:Nat→Nat):∀ n,twos c n=stl (twoB c) n 0
 | 0=>rfl
 | n+1=>by rw[twos,twos_stl c n,stl_snoc,Nat.zero_add]
theorem scells_set {S:List Nat} (hS:S.length=16) (id me m s r c:Int) (g:Bool) {i:Nat} (hi:i < 16) (x:Nat):(scells id me m s r S c g).set (5+i) (.int .u8 (x:Int))=scells id me m s r (S.set i x) c g:=by
 show ([V.int .u64 id,.int .i64 me,.int .i64 m,.int .i64 s,.int .i64 r]++(sts S++[V.int .i64 c,V.bool g])).set (5+i) (.int .u8 (x:Int))=[V.int .u64 id,.int .i64 me,.int .i64 m,.int .i64 s,.int .i64 r]++(sts (S.set i x)++[V.int .i64 c,V.bool g])
 rw[List.set_append_right _ _ (by simp),List.set_append_left _ _ (by rw[sts_len];simp;omega)]
 have:5+i - [V.int .u64 id,.int .i64 me,.int .i64 m,.int .i64 s,.int .i64 r].length=i:=by simp
 rw[this]
 unfold sts
 rw[List.map_set]
def siN (f:Nat→Nat) (i:Nat):List Nat:=stl f i 0++List.replicate (16 - i) 0
theorem siN_len (f:Nat→Nat) {i:Nat} (hi:i≤16):(siN f i).length=16:=by
 unfold siN
 rw[List.length_append,stl_len,List.length_replicate];omega
theorem siN_set (f:Nat→Nat) {i:Nat} (hi:i < 16):(siN f i).set i (f i)=siN f (i+1):=by
 unfold siN
 rw[List.set_append_right _ _ (by rw[stl_len];omega),stl_len,Nat.sub_self,show 16 - i=(16 - (i+1))+1 by omega,List.replicate_succ,List.set_cons_zero,stl_snoc,Nat.zero_add,List.append_assoc]
 rfl
theorem bload_lo {H0 H:Heap} {sz:Nat} {R:List (List V)} {v:V} (h:Lst H0 H sz R v) {k m c o:Nat} (e:v=.slice (some ⟨.run k,0⟩) m c o):H0.next≤k:=by
 rcases h with ⟨_,e'⟩ | ⟨j,_,e',_,h1,_⟩
 ·rw[e] at e';cases e'
 ·rw[e] at e'
  have:=(V.slice.inj e').1
  cases this
  exact h1
theorem rgf_ok (H:Heap) {B:Nat} (hB:B < 256 ^ 64) {lf:Nat} (hlf:90 < lf) (n:Nat):ret (callS Tryz.prog S0 lf (n+6) 57 [.blk B] H) fun v H'=>Turns Z H H' ∧
  ((getE B≠0∧v=.tuple [.int .u64 0,.agg zrow,.int .i64 (getE B)])∨(getE B=0∧v=.tuple [.int .u64 ((sealN B:Nat):Int),gSup B,.int .i64 0])):=by
 have hzr:zrow=[.int .u64 0,.int .i64 0,.int .i64 0,.int .i64 0,.int .i64 0,.int .u8 0,.int .u8 0,.int .u8 0,.int .u8 0,.int .u8 0,.int .u8 0,.int .u8 0,.int .u8 0,.int .u8 0,.int .u8 0,.int .u8 0,.int .u8 0,.int .u8 0,.int .u8 0,.int .u8 0,.int .u8 0,.int .i64 0,.bool false]:=rfl
 have t1:=Turns.add Z H (.rows false 64 [[.blk B]])
 have hg1:(H.add (.rows false 64 [[.blk B]])).get (.run H.next)=some (.rows false 64 [[.blk B]]):=by rw[Heap.get_add,if_pos rfl]
 have t2:=t1.addm (.rows false 23 [zrow])
 have hg2:((H.add (.rows false 64 [[.blk B]])).add (.rows false 23 [zrow])).get (.run H.next)=some (.rows false 64 [[.blk B]]):=by
  rw[Heap.get_add,if_neg (run_ne (by simp)),hg1]
 have hg3:((H.add (.rows false 64 [[.blk B]])).add (.rows false 23 [zrow])).get (.run (H.next+1))=some (.rows false 23 [zrow]):=by
  rw[Heap.get_add,if_pos (by simp)]
 have hn2:((H.add (.rows false 64 [[.blk B]])).add (.rows false 23 [zrow])).next=H.next+2:=by simp
 generalize hH2:(H.add (.rows false 64 [[.blk B]])).add (.rows false 23 [zrow])=H2 at *
 have l1:loadAt H2 ⟨.run H.next,0⟩ 64=some [.blk B]:=by rw[loadAt_eq hg2 rfl];exact Dr _ _
 obtain⟨v,H3,e1,t3,hv⟩:=rget7_ok H2 B hlf n
 have hg2':H3.get (.run H.next)=some (.rows false 64 [[.blk B]]):=(t3.same (.run H.next) (by show _ < _;omega) id).trans hg2
 have hg3':H3.get (.run (H.next+1))=some (.rows false 23 [zrow]):=(t3.same (.run (H.next+1)) (by show _ < _;omega) id).trans hg3
 have hn3:H.next+2≤H3.next:=by rw[← hn2];exact t3.next
 have hwz:=width_z
 refine ret_call rfl c57_eq ?_
 rw[hzr] at hH2
 rcases hv with ⟨hE,rfl⟩ | ⟨hE,k,rfl,hb,hk⟩
 ·have b0:(sealE B==0)=false:=by simpa using hE
  have st:storeAt H3 ⟨.run (H.next+1),0⟩ zrow=some (H3.set (.run (H.next+1)) (.rows false 23 [zrow])):=storeAt_eq hg3' (r:=zrow) (r':=zrow) rfl put_z
  have lz:loadAt (H3.set (.run (H.next+1)) (.rows false 23 [zrow])) ⟨.run (H.next+1),0⟩ 23=some zrow:=by
   rw[loadAt_eq (b:=.run (H.next+1)) (r:=zrow) (by rw[Heap.get_set,if_pos rfl]) rfl];rfl
  have hge:getE B=sealE B:=by unfold getE;rw[if_pos hE]
  rw[hge]
  generalize hH4:H3.set (.run (H.next+1)) (.rows false 23 [zrow])=H4 at *
  rw[hzr] at st lz hwz ⊢
  simp only[c57,hH2,l1,e1,b0,st,lz,hwz,sy,tup,↓reduceIte,zA,zG,zC,zD,zF,zE,zB,zH,reduceCtorEq]
  refine⟨trivial,.inr trivial,_,rfl,?_,.inl ⟨hE,rfl⟩⟩
  rw[← hH4]
  exact(t2.trans t3).setnew (by omega) _
 ·have hcB:∀ i,bc B i < 256:=bc_lt B
  have hb:BodyAt H3 k (bc B) 44:=hb
  have hkn:k < H3.next:=hb.old
  have num:∀ {K:Heap},BodyAt K k (bc B) 44→∀ a sz:Nat,1≤sz∧sz≤2→a+sz≤44→callS Tryz.prog S0 lf (n+5) 121 [.slice (some ⟨.run k,0⟩) 44 44 1,.int .i64 (a:Int),.int .i64 (sz:Int)] K=some (.v (.int .i64 ((fld B a sz:Nat):Int)),K):=fun {K} hK a sz h1 h2=>
   rnumber_ok (c:=fun i=>bc B (a+i)) h1 h2 (by omega) (fun i=>hcB _) (fun i hi=>by simpa using hK.load (i:=a+i) (by omega)) lf (n+3) (by omega)
  have e2:callS Tryz.prog S0 lf (n+5) 120 [.slice (some ⟨.run k,0⟩) 44 44 1,.int .i64 0,.int .i64 8] H3=some (.v (.tuple [.int .u64 ((fld B 0 8:Nat):Int),.int .i64 0]),H3):=rnum_ok (a:=0) (sz:=8) (c:=fun i=>bc B (0+i)) (by omega) (by omega) (by omega) (fun i _=>hcB _) (fun i hi=>by simpa using hb.load (i:=0+i) (by omega)) lf (n+4) (by omega)
  have e3:callS Tryz.prog S0 lf (n+5) 121 [.slice (some ⟨.run k,0⟩) 44 44 1,.int .i64 13,.int .i64 1] H3=_:=num hb 13 1 (by omega) (by omega)
  obtain⟨H4,hH4⟩:∃ K,H3.add (.rows false 23 [zrow])=K:=⟨_,rfl⟩
  have t4:Turns Z H3 H4:=by rw[← hH4];exact Turns.add Z H3 _
  have hn4:H4.next=H3.next+1:=by rw[← hH4];simp
  have G4:GJ H H.next (H.next+1) H3.next k B H4 zrow:=by
   refine⟨(t4.same (.run H.next) (by show _ < _;omega) id).trans hg2',(t4.same (.run (H.next+1)) (by show _ < _;omega) id).trans hg3',by rw[← hH4,Heap.get_add,if_pos rfl],hb.turns t4,(t2.trans t3).trans t4,⟨by omega,by omega,by omega⟩,⟨by omega,by omega,by omega⟩,⟨by omega,by omega,by omega⟩⟩
  obtain⟨H5,st5,G5,_⟩:=G4.put (o:=0) (vs:=scells (fld B 0 8) (fld B 13 1) 0 0 0 (List.replicate 16 0) 0 false) (row':=scells (fld B 0 8) (fld B 13 1) 0 0 0 (List.replicate 16 0) 0 false) (by omega) rfl
  have st5:storeAt H4 ⟨.run H3.next,0⟩ [.int .u64 ((fld B 0 8:Nat):Int),.int .i64 ((fld B 13 1:Nat):Int),.int .i64 0,.int .i64 0,.int .i64 0,.int .u8 0,.int .u8 0,.int .u8 0,.int .u8 0,.int .u8 0,.int .u8 0,.int .u8 0,.int .u8 0,.int .u8 0,.int .u8 0,.int .u8 0,.int .u8 0,.int .u8 0,.int .u8 0,.int .u8 0,.int .u8 0,.int .i64 0,.bool false]=some H5:=st5
  have e6:callS Tryz.prog S0 lf (n+5) 121 [.slice (some ⟨.run k,0⟩) 44 44 1,.int .i64 8,.int .i64 1] H5=_:=num G5.body 8 1 (by omega) (by omega)
  have e7:callS Tryz.prog S0 lf (n+5) 121 [.slice (some ⟨.run k,0⟩) 44 44 1,.int .i64 9,.int .i64 2] H5=_:=num G5.body 9 2 (by omega) (by omega)
  have e8:callS Tryz.prog S0 lf (n+5) 121 [.slice (some ⟨.run k,0⟩) 44 44 1,.int .i64 11,.int .i64 2] H5=_:=num G5.body 11 2 (by omega) (by omega)
  obtain⟨H6,st6,G6,_⟩:=G5.put (o:=2) (vs:=[.int .i64 (fld B 8 1),.int .i64 (fld B 9 2),.int .i64 (fld B 11 2)]) (row':=scells (fld B 0 8) (fld B 13 1) (fld B 8 1) (fld B 9 2) (fld B 11 2) (List.replicate 16 0) 0 false) (by omega) rfl
  obtain⟨vu,H7,e9,t7,yu,rfl,hyu⟩:ret (callS Tryz.prog S0 lf (n+5) 122 [.slice (some ⟨.run k,14⟩) 4 30 1,.int .i64 2,.int .i64 16] H6) _:=runbits_ok (H:=H6) (p:=⟨.run k,14⟩) (cap:=30) (loose:=1) (c:=fun i=>bc B (14+i)) (fun i=>hcB _) (fun t i hi=>(G6.body.turns t).load (i:=14+i) (by omega)) lf (n+4) (by omega)
  have G7:=G6.on t7
  have bb1:bounds 44 44 (some (.int .i64 14)) (some (.int .i64 18)) none=some (14,18,44):=rfl
  have hgY:isSup B→getE B=0:=fun h=>by unfold getE;rw[if_neg (by simpa using hE),if_pos h]
  have hgN:¬ isSup B→getE B=5:=fun h=>by unfold getE;rw[if_neg (by simpa using hE),if_neg h]
  rw[hzr] at hH4
  simp only[c57,hH2,l1,e1,e2,e3,hH4,st5,e6,e7,e8,st6,bb1,e9,sliceF,oget,sy,tup,↓reduceIte,zA,zG,zC,zD,zF,zE,zB,zH,reduceCtorEq]
  obtain⟨f,hf⟩:∃ f,f=twoB fun i=>bc B (14+i):=⟨_,rfl⟩
  have htw:twos (fun i=>bc B (14+i)) 16=stl f 16 0:=by rw[twos_stl,hf]
  have hgSt:gSt B=stl f 16 0:=by rw[hf];rfl
  rw[htw] at hyu
  obtain⟨ku,eyu,hku,lyu⟩:=bload hyu (fun e=>by have:=stl_len f 16 0;rw[e] at this;exact absurd this (by decide))
  rw[stl_len] at eyu lyu
  have hlo:=bload_lo hyu eyu
  have hb10:=G6.hi.2.2
  rw[eyu]
  have hloop:∀ t:T,t.getP (Tr.path 1)=some (.ptr (some ⟨.run H.next,0⟩))→t.getP (Tr.path 3)=some (.ptr (some ⟨.run (H.next+1),0⟩))→t.getP (Tr.path 5)=some (.int .u64 ((sealN B:Nat):Int))→t.getP (Tr.path 6)=some (.slice (some ⟨.run k,0⟩) 44 44 1)→t.getP (Tr.path 10)=some (.ptr (some ⟨.run H3.next,0⟩))→t.getP (Tr.path 11)=some (.slice (some ⟨.run ku,0⟩) 16 16 1)→t.getP (Tr.path 13)=some (.int .i64 0) →
    wp (loopF (runC (callS Tryz.prog S0 lf (n+5)) lf c57_l0) lf ⟨t,H7,[]⟩) fun x s'=>x=.ex 0∧s'.d=[]∧s'.t.getP (Tr.path 1)=some (.ptr (some ⟨.run H.next,0⟩))∧s'.t.getP (Tr.path 3)=some (.ptr (some ⟨.run (H.next+1),0⟩))∧s'.t.getP (Tr.path 5)=some (.int .u64 ((sealN B:Nat):Int))∧s'.t.getP (Tr.path 6)=some (.slice (some ⟨.run k,0⟩) 44 44 1)∧s'.t.getP (Tr.path 10)=some (.ptr (some ⟨.run H3.next,0⟩))∧GJ H H.next (H.next+1) H3.next k B s'.H (scells (fld B 0 8) (fld B 13 1) (fld B 8 1) (fld B 9 2) (fld B 11 2) (gSt B) 0 false):=by
   intro t q1 q3 q5 q6 q10 q11 q13
   refine wp_loopF (fun j s'=>∃ i:Nat,j=16 - i∧i≤16∧s'.d=[]∧s'.t.getP (Tr.path 1)=some (.ptr (some ⟨.run H.next,0⟩))∧s'.t.getP (Tr.path 3)=some (.ptr (some ⟨.run (H.next+1),0⟩))∧s'.t.getP (Tr.path 5)=some (.int .u64 ((sealN B:Nat):Int))∧s'.t.getP (Tr.path 6)=some (.slice (some ⟨.run k,0⟩) 44 44 1)∧s'.t.getP (Tr.path 10)=some (.ptr (some ⟨.run H3.next,0⟩))∧s'.t.getP (Tr.path 11)=some (.slice (some ⟨.run ku,0⟩) 16 16 1)∧s'.t.getP (Tr.path 13)=some (.int .i64 (i:Int))∧(∀ q,q < 16→loadAt s'.H ⟨.run ku,q⟩ 1=some [.int .u8 (((stl f 16 0).getD q 0:Nat):Int)])∧GJ H H.next (H.next+1) H3.next k B s'.H (scells (fld B 0 8) (fld B 13 1) (fld B 8 1) (fld B 9 2) (fld B 11 2) (siN f i) 0 false)) ?_ lf 16 _ ⟨0,rfl,by omega,rfl,q1,q3,q5,q6,q10,q11,q13,lyu,G7⟩ (by omega)
   rintro j ⟨t,HH,d⟩ ⟨i,rfl,hi,hd',q1,q3,q5,q6,q10,q11,q13,lq,G⟩
   dsimp only at hd' q1 q3 q5 q6 q10 q11 q13 lq G
   subst hd'
   by_cases hlt:i < 16
   ·have hlt':(i:Int) < ((16:Nat):Int):=by omega
    have hle':i+1≤16:=hlt
    have w2:IntKind.i64.wrap ((i:Int)+1)=((i+1:Nat):Int):=by rw[wrap_i64 (by omega)];omega
    have lk:=lq i hlt
    rw[stl_getD hlt,Nat.zero_add] at lk
    have hp:Go.Am.put (scells (fld B 0 8) (fld B 13 1) (fld B 8 1) (fld B 9 2) (fld B 11 2) (siN f i) 0 false) (5+i) [.int .u8 (f i:Int)]=some (scells (fld B 0 8) (fld B 13 1) (fld B 8 1) (fld B 9 2) (fld B 11 2) (siN f (i+1)) 0 false):=by
     rw[put_one (s_thin _ _ _ _ _ _ _ _) (by rw[s_len (siN_len f hi)];omega) rfl,scells_set (siN_len f hi) _ _ _ _ _ _ _ hlt,siN_set f hlt]
    obtain⟨H',so,G',oth⟩:=G.put (o:=5+i) (by omega) hp
    have lq':∀ q,q < 16→loadAt H' ⟨.run ku,q⟩ 1=some [.int .u8 (((stl f 16 0).getD q 0:Nat):Int)]:=fun q hq=>(load_same (oth (.run ku) (run_ne (by omega)))).trans (lq q hq)
    simp only[c57_l0,q1,q3,q5,q6,q10,q11,q13,hlt',hle',w2,lk,so,iaddrAF,Nat.mul_one,sy,tup,↓reduceIte,zA,zG,zC,zD,zF,zE,zB,zH,reduceCtorEq]
    exact⟨16 - (i+1),by omega,i+1,rfl,by omega,trivial,trivial,trivial,trivial,trivial,trivial,trivial,by simp,lq',G'⟩
   ·have:i=16:=by omega
    subst this
    simp only[c57_l0,q1,q3,q5,q6,q10,q11,q13,Int.lt_irrefl,Nat.lt_irrefl,sy,tup,↓reduceIte,zA,zG,zC,zD,zF,zE,zB,zH,reduceCtorEq]
    exact⟨trivial,trivial,trivial,trivial,trivial,trivial,trivial,by rw[hgSt];unfold siN at G;simpa using G⟩
  refine wp_ctx (F:=fun r=>seqC _ _ _ (blockC _ r)) (hloop _ ?_ ?_ ?_ ?_ ?_ ?_ ?_) ?_
  ·simp only[sy,tup,↓reduceIte,zA,zG,zC,zD,zF,zE,zB,zH,reduceCtorEq]
  ·simp only[hn2,sy,tup,↓reduceIte,zA,zG,zC,zD,zF,zE,zB,zH,reduceCtorEq]
  ·simp only[sy,tup,↓reduceIte,zA,zG,zC,zD,zF,zE,zB,zH,reduceCtorEq]
  ·simp only[sy,tup,↓reduceIte,zA,zG,zC,zD,zF,zE,zB,zH,reduceCtorEq]
  ·simp only[sy,tup,↓reduceIte,zA,zG,zC,zD,zF,zE,zB,zH,reduceCtorEq]
  ·simp only[sy,tup,↓reduceIte,zA,zG,zC,zD,zF,zE,zB,zH,reduceCtorEq]
  ·simp only[sy,tup,↓reduceIte,zA,zG,zC,zD,zF,zE,zB,zH,reduceCtorEq]
  rintro x ⟨t,H8,d⟩ ⟨rfl,hd',q1,q3,q5,q6,q10,G8⟩
  dsimp only at hd' q1 q3 q5 q6 q10 G8
  subst hd'
  have hS16:(gSt B).length=16:=stl_len _ _ _
  have e10:callS Tryz.prog S0 lf (n+5) 121 [.slice (some ⟨.run k,0⟩) 44 44 1,.int .i64 18,.int .i64 2] H8=_:=num G8.body 18 2 (by omega) (by omega)
  obtain⟨H9,st9,G9,_⟩:=G8.put (o:=21) (vs:=[.int .i64 (fld B 18 2)]) (row':=scells (fld B 0 8) (fld B 13 1) (fld B 8 1) (fld B 9 2) (fld B 11 2) (gSt B) (fld B 18 2) false) (by omega) (put_c hS16 _ _ _ _ _ _ _ _)
  have l20:loadAt H9 ⟨.run k,20⟩ 1=some [.int .u8 ((fld B 20 1:Nat):Int)]:=by rw[fld_one];exact G9.body.load (i:=20) (by omega)
  obtain⟨H10,st10,G10,_⟩:=G9.put (o:=22) (vs:=[.bool (((fld B 20 1:Nat):Int)==1)]) (row':=scells (fld B 0 8) (fld B 13 1) (fld B 8 1) (fld B 9 2) (fld B 11 2) (gSt B) (fld B 18 2) (((fld B 20 1:Nat):Int)==1)) (by omega) (put_g hS16 _ _ _ _ _ _ _ _)
  have e11:=revent_ok H10 ((sealN B:Nat):Int) lf (n+4)
  have ls:=sup_all (⟨G10.sp,hS16⟩:SupAt H10 (.run H3.next) _ _ _ _ _ _ _ _)
  obtain⟨vm,H11,e12,⟨zm,rfl,hzm⟩,t11⟩:=rsmay_ok H10 (id:=fld B 0 8) (me:=fld B 13 1) (m:=fld B 8 1) (s:=fld B 9 2) (r:=fld B 11 2) (c:=fld B 18 2) (g:=((fld B 20 1:Nat):Int)==1) hS16 lf (n+2) (by omega)
  change callS Tryz.prog S0 lf (n+5) _ _ _=_ at e12
  unfold sup at e12
  have G11:=G10.on t11
  have ls11:=sup_all (⟨G11.sp,hS16⟩:SupAt H11 (.run H3.next) _ _ _ _ _ _ _ _)
  obtain⟨F1,sf1,lf1,tf1⟩:=G10.ans (row':=zrow) put_z rfl (s_thin 0 0 0 0 0 (List.replicate 16 0) 0 false)
  obtain⟨F2,sf2,lf2,tf2⟩:=G11.ans (row':=zrow) put_z rfl (s_thin 0 0 0 0 0 (List.replicate 16 0) 0 false)
  rw[hzr] at sf1 lf1 sf2 lf2 hwz ⊢
  have a20:asNat (.int .i64 20)=some 20:=rfl
  have d20:decide (20+1≤44)=true:=rfl
  cases hev:evt (sealN B) with
  | false=>
   have hno:¬ isSup B:=fun h=>by rw[h.1] at hev;cases hev
   rw[hev] at e11
   simp only[q1,q3,q5,q6,q10,e10,st9,a20,d20,l20,st10,e11,sf1,lf1,hwz,iaddrSF,sy,tup,↓reduceIte,zA,zG,zC,zD,zF,zE,zB,zH,reduceCtorEq]
   exact⟨trivial,.inr trivial,_,rfl,tf1,.inl ⟨by rw[hgN hno];decide,by rw[hgN hno]⟩⟩
  | true=>
   rw[hev] at e11
   cases hz:zm with
   | false=>
    subst hz
    have hno:¬ isSup B:=fun h=>by have:=hzm.2 h.2.1;cases this
    simp only[q1,q3,q5,q6,q10,e10,st9,a20,d20,l20,st10,e11,ls,e12,sf2,lf2,hwz,iaddrSF,sy,tup,↓reduceIte,zA,zG,zC,zD,zF,zE,zB,zH,reduceCtorEq]
    exact⟨trivial,.inr trivial,_,rfl,tf2,.inl ⟨by rw[hgN hno];decide,by rw[hgN hno]⟩⟩
   | true=>
    subst hz
    have hm:=hzm.1 rfl
    obtain⟨f1,f2,f3,f4,f5,f6⟩:=hm.2.2.2
    have hS4:∀ i,i < 16→(gSt B).getD i 0 < 4:=fun i hi=>by
     have:=(f2 i hi _ (getD_some (by omega))).1
     omega
    have hN:sealN B < 18446744073709551616:=leN_lt (by omega) (fun i _=>byte_lt _ _)
    have hid:fld B 0 8 < 18446744073709551616:=leN_lt (by omega) (fun i _=>bc_lt B _)
    have hN0:sealN B≠0:=fun e=>by rw[e] at hev;revert hev;decide
    obtain⟨vb,H12,e13,t12,K,hK,lb⟩:=rbody_ok H11 (id:=fld B 0 8) (me:=fld B 13 1) (m:=fld B 8 1) (s:=fld B 9 2) (r:=fld B 11 2) (c:=fld B 18 2) (g:=((fld B 20 1:Nat):Int)==1) (S:=gSt B) hid ⟨by have:=fld_1 B 13;omega,by have:=fld_1 B 8;omega,fld_2 B 9,fld_2 B 11,fld_2 B 18⟩ hS16 hS4 (lf:=lf) (by omega) (n+2)
    change callS Tryz.prog S0 lf (n+5) _ _ _=_ at e13
    unfold sup at e13
    obtain⟨vs,H13,e14,t13,rfl⟩:=rput7_ok lb (bodyN_le _ _ _ _ _ _ _ _) (bodyN_lt _ _ _ _ _ _ _ _) hN hN0 (lf:=lf) (by omega) n
    have hiff:blkOf (sealN B) (bodyN (fld B 0 8) (fld B 13 1) (fld B 8 1) (fld B 9 2) (fld B 11 2) (gSt B) (fld B 18 2) (((fld B 20 1:Nat):Int)==1))=B↔fld B 20 1≤1∧zeroTo (fun i=>bc B (21+i)) 23:=again_ok hB hE
    generalize blkOf (sealN B) (bodyN (fld B 0 8) (fld B 13 1) (fld B 8 1) (fld B 9 2) (fld B 11 2) (gSt B) (fld B 18 2) (((fld B 20 1:Nat):Int)==1))=X at e14 hiff
    have g14:(H13.add (.rows false 64 [[.blk 0]])).get (.run H13.next)=some (.rows false 64 [[.blk 0]]):=by rw[Heap.get_add,if_pos rfl]
    have s14:=disk.cell_store (v:=X) g14
    have t14:Turns Z H13 ((H13.add (.rows false 64 [[.blk 0]])).set (.run H13.next) (.rows false 64 [[.blk (X)]])):=(Turns.add Z H13 _).setnew (Nat.le_refl _) _
    have g14':((H13.add (.rows false 64 [[.blk 0]])).set (.run H13.next) (.rows false 64 [[.blk (X)]])).get (.run H13.next)=some (.rows false 64 [[.blk (X)]]):=by rw[Heap.get_set,if_pos rfl]
    obtain⟨H14,hH14⟩:∃ K,(H13.add (.rows false 64 [[.blk 0]])).set (.run H13.next) (.rows false 64 [[.blk (X)]])=K:=⟨_,rfl⟩
    rw[hH14] at s14 t14 g14'
    have l14:loadAt H14 ⟨.run H13.next,0⟩ 64=some [.blk (X)]:=by rw[loadAt_eq g14' (r:=[.blk (X)]) rfl];exact Dr _ _
    have G14:=G11.on ((t12.trans t13).trans t14)
    have lB:loadAt H14 ⟨.run H.next,0⟩ 64=some [.blk B]:=by rw[loadAt_eq G14.bx (r:=[.blk B]) rfl];exact Dr _ _
    have ls14:=sup_all (⟨G14.sp,hS16⟩:SupAt H14 (.run H3.next) _ _ _ _ _ _ _ _)
    obtain⟨F3,sf3,lf3,tf3⟩:=G14.ans (row':=zrow) put_z rfl (s_thin 0 0 0 0 0 (List.replicate 16 0) 0 false)
    obtain⟨F4,sf4,lf4,tf4⟩:=G14.ans (put_s hS16 (fld B 0 8) (fld B 13 1) (fld B 8 1) (fld B 9 2) (fld B 11 2) (fld B 18 2) (((fld B 20 1:Nat):Int)==1)) (s_len hS16 _ _ _ _ _ _ _) (s_thin _ _ _ _ _ _ _ _)
    have hsw:=s_width hS16 (fld B 0 8) (fld B 13 1) (fld B 8 1) (fld B 9 2) (fld B 11 2) (fld B 18 2) (((fld B 20 1:Nat):Int)==1)
    rw[hzr] at sf3 lf3
    simp only[q1,q3,q5,q6,q10,e10,st9,a20,d20,l20,st10,e11,ls,e12,ls11,e13,e14,s14,l14,iaddrSF,sy,tup,↓reduceIte,zA,zG,zC,zD,zF,zE,zB,zH,reduceCtorEq]
    simp only[lB,Bb,Option.bind_some,unc]
    simp only[Bx]
    simp only[Bi]
    simp only[Al,Ak,Au,sO_p,sE_p,Bm,Bl,Bo,Tr.getP_e,B8,↓reduceIte,zA]
    simp only[eqcF_blk,B6,B8,↓reduceIte,zA]
    simp only[eqBlk_some]
    simp only[Ba,Bx,Bi]
    cases hX:decide (X=B) with
    | true=>
     have hX:=of_decide_eq_true hX
     have hyes:isSup B:=⟨hev,hm,hiff.1 hX⟩
     simp only[ls14,sf4,lf4,hsw,q3,q5,q10,sy,tup,↓reduceIte,zA,zG,zC,zD,zF,zE,zB,zH,reduceCtorEq]
     rw[endD_ok (by kernel_rfl) (by kernel_rfl)]
     simp only[ls14,sf4,lf4,hsw,q3,q5,q10,sy,tup,↓reduceIte,zA,zG,zC,zD,zF,zE,zB,zH,reduceCtorEq]
     exact⟨trivial,.inr trivial,_,rfl,tf4,.inr ⟨hgY hyes,rfl⟩⟩
    | false=>
     have hX:=of_decide_eq_false hX
     have hno:¬ isSup B:=fun h=>hX (hiff.2 h.2.2)
     simp only[sf3,lf3,hwz,q3,q5,q10,sy,tup,↓reduceIte,zA,zG,zC,zD,zF,zE,zB,zH,reduceCtorEq]
     exact⟨trivial,.inr trivial,_,rfl,tf3,.inl ⟨by rw[hgN hno];decide,by rw[hgN hno]⟩⟩
end Go.Proofs.YtabebpemfinejaaGreat.draft
namespace Go.Proofs.YtabebpemfinejaaGreat.draft
open Go.Am
noncomputable def c18:CFn:=⟨[.tmp (pp 4),.cell (pp 5) 23 .ag,.tmp (pp 6)],
 .seq (.reg [
 qo 2 (.m (boxF 64 (tt 0))) [pp 0],
 qo 3 (.m (boxF 64 (tt 1))) [pp 1],
 qo 4 (.p (S.get (.c (.int .u64 0)))) [],
 qo 5 (.m (allocF 23 [.int .u64 0,.int .i64 0,.int .i64 0,.int .i64 0,.int .i64 0,.int .u8 0,.int .u8 0,.int .u8 0,.int .u8 0,.int .u8 0,.int .u8 0,.int .u8 0,.int .u8 0,.int .u8 0,.int .u8 0,.int .u8 0,.int .u8 0,.int .u8 0,.int .u8 0,.int .u8 0,.int .u8 0,.int .i64 0,.bool false])) [],
 qo 6 (.p (S.get (ii 0))) []]) (
 .seq (.reg [
 qo 14 (.r (loadF (tt 2) 64 .bk)) [pp 2],
 qo 15 (.c (callF (ff 57) [(tt 14)])) [pp 14],
 mv 13 15,
 qo 16 (.p (extF (tt 13) 0)) [pp 13],
 qo 17 (.p (extF (tt 13) 1)) [pp 13],
 qo 18 (.p (extF (tt 13) 2)) [pp 13],
 qo 8 (.m (allocF 23 [.int .u64 0,.int .i64 0,.int .i64 0,.int .i64 0,.int .i64 0,.int .u8 0,.int .u8 0,.int .u8 0,.int .u8 0,.int .u8 0,.int .u8 0,.int .u8 0,.int .u8 0,.int .u8 0,.int .u8 0,.int .u8 0,.int .u8 0,.int .u8 0,.int .u8 0,.int .u8 0,.int .u8 0,.int .i64 0,.bool false])) [],
 mv 7 16,
 qn (.a (storeF (tt 8) (tt 17) 23)) [pp 8,pp 17],
 mv 9 18]) (
 .seq (.reg [
 qo 20 (.r (loadF (tt 3) 64 .bk)) [pp 3],
 qo 21 (.c (callF (ff 57) [(tt 20)])) [pp 20],
 mv 19 21,
 qo 22 (.p (extF (tt 19) 0)) [pp 19],
 qo 23 (.p (extF (tt 19) 1)) [pp 19],
 qo 24 (.p (extF (tt 19) 2)) [pp 19],
 qo 11 (.m (allocF 23 [.int .u64 0,.int .i64 0,.int .i64 0,.int .i64 0,.int .i64 0,.int .u8 0,.int .u8 0,.int .u8 0,.int .u8 0,.int .u8 0,.int .u8 0,.int .u8 0,.int .u8 0,.int .u8 0,.int .u8 0,.int .u8 0,.int .u8 0,.int .u8 0,.int .u8 0,.int .u8 0,.int .u8 0,.int .i64 0,.bool false])) [],
 mv 10 22,
 qn (.a (storeF (tt 11) (tt 23) 23)) [pp 11,pp 23],
 mv 12 24]) (
 .seq (.seq (.reg [
 mv 25 9,
 qo 26 (.p (eqcF true false [.int .i64] (tt 25) (ii 0))) [pp 25],
 mv 27 26,
 mg 28 12 27 true,
 qg 29 (.p (eqcF true false [.int .i64] (tt 28) (ii 0))) 27 true [pp 28],
 qo 30 (.p (pickF (tt 27) (tt 29) (.c (.bool false)))) [pp 27,pp 29]]) (
 .cond (tt 30) (.seq (.reg [
 qo 31 (.p (buildF [.int .u64 0,.int .i64 0,.int .i64 0,.int .i64 0,.int .i64 0,.int .u8 0,.int .u8 0,.int .u8 0,.int .u8 0,.int .u8 0,.int .u8 0,.int .u8 0,.int .u8 0,.int .u8 0,.int .u8 0,.int .u8 0,.int .u8 0,.int .u8 0,.int .u8 0,.int .u8 0,.int .u8 0,.int .i64 0,.bool false] .ag [])) [],
 qo 4 (.p (S.get (.c (.int .u64 0)))) [],
 qn (.a (storeF (tt 5) (tt 31) 23)) [pp 5,pp 31],
 qo 6 (.p (S.get (ii 7))) []]) (
 .ret)) (.skip))) (
 .seq (.seq (.reg [
 mv 32 9,
 qo 33 (.p (eqcF true false [.int .i64] (tt 32) (ii 0))) [pp 32],
 mv 34 33,
 mg 35 12 34 false,
 qg 36 (.p (eqcF false false [.int .i64] (tt 35) (ii 0))) 34 false [pp 35],
 mg 37 36 34 false,
 mg 38 10 37 true,
 mg 39 7 37 true,
 qg 40 (.p (arF .gtr (tt 38) (tt 39))) 37 true [pp 38,pp 39],
 qg 41 (.p (pickF (tt 37) (tt 40) (.c (.bool false)))) 34 false [pp 37,pp 40],
 qo 42 (.p (pickF (tt 34) (.c (.bool true)) (tt 41))) [pp 34,pp 41]]) (
 .cond (tt 42) (.seq (.regD [
 mv 43 10,
 qo 44 (.r (loadF (tt 11) 23 .ag)) [pp 11],
 mv 4 43,
 qn (.a (storeF (tt 5) (tt 44) 23)) [pp 5,pp 44],
 qo 6 (.p (S.get (ii 0))) []] [0,0,1,7,15]) (
 .ret)) (.skip))) (
 .seq (.regD [
 mv 45 7,
 qo 46 (.r (loadF (tt 8) 23 .ag)) [pp 8],
 mv 4 45,
 qn (.a (storeF (tt 5) (tt 46) 23)) [pp 5,pp 46],
 qo 6 (.p (S.get (ii 0))) []] [0,0,1,7,15]) (
 .ret))))))⟩
theorem c18_eq:fnOf Tryz.prog 18=some c18:=by kernel_rfl
theorem rgr_ok (H:Heap) {B:Nat} (hB:B < 256 ^ 64) {lf:Nat} (hlf:90 < lf) (n:Nat):ret (callS Tryz.prog S0 lf (n+6) 57 [.blk B] H) fun v H'=>Turns Z H H'∧∃ row,v=.tuple [.int .u64 ((numOf B:Nat):Int),.agg row,.int .i64 (getE B)]∧SRow row∧(getE B=0→V.agg row=gSup B):=by
 refine(rgf_ok H hB hlf n).mono ?_
 rintro v H' ⟨t,⟨hE,rfl⟩ | ⟨hE,rfl⟩⟩
 ·exact⟨t,zrow,by unfold numOf;rw[if_neg hE];rfl,SRow.z,fun h=>absurd h hE⟩
 ·exact⟨t,scells (fld B 0 8) (fld B 13 1) (fld B 8 1) (fld B 9 2) (fld B 11 2) (gSt B) (fld B 18 2) (((fld B 20 1:Nat):Int)==1),by unfold numOf;rw[if_pos hE,hE];rfl,SRow.s (gSt_len B) _ _ _ _ _ _ _,fun _=>rfl⟩
theorem SRow.load {row:List V} (h:SRow row) {K:Heap} {b:Nat} (g:K.get (.run b)=some (.rows false 23 [row])):loadAt K ⟨.run b,0⟩ 23=some row:=by
 rw[loadAt_eq g (r:=row) rfl,cut_thin h.thin (by have:=h.len;omega)]
 simp[← h.len]
theorem rnew_ok (H:Heap) {A B:Nat} (hA:A < 256 ^ 64) (hB:B < 256 ^ 64) {lf:Nat} (hlf:90 < lf) (n:Nat):ret (callS Tryz.prog S0 lf (n+7) 18 [.blk A,.blk B] H) fun v H'=>Turns Z H H' ∧
  ((newC A B=none∧v=.tuple [.int .u64 0,.agg zrow,.int .i64 7])∨∃ C,newC A B=some C∧v=.tuple [.int .u64 ((sealN C:Nat):Int),gSup C,.int .i64 0]):=by
 have t3:=((Turns.add Z H (.rows false 64 [[.blk A]])).addm (.rows false 64 [[.blk B]])).addm (.rows false 23 [zrow])
 have hg0:(H.add (.rows false 64 [[.blk A]])).get (.run H.next)=some (.rows false 64 [[.blk A]]):=by rw[Heap.get_add,if_pos rfl]
 have hgA:(((H.add (.rows false 64 [[.blk A]])).add (.rows false 64 [[.blk B]])).add (.rows false 23 [zrow])).get (.run H.next)=some (.rows false 64 [[.blk A]]):=by
  rw[Heap.get_add,if_neg (run_ne (by simp;omega)),Heap.get_add,if_neg (run_ne (by simp)),hg0]
 have hgB:(((H.add (.rows false 64 [[.blk A]])).add (.rows false 64 [[.blk B]])).add (.rows false 23 [zrow])).get (.run (H.next+1))=some (.rows false 64 [[.blk B]]):=by
  rw[Heap.get_add,if_neg (run_ne (by simp)),Heap.get_add,if_pos (by simp)]
 have hgZ:(((H.add (.rows false 64 [[.blk A]])).add (.rows false 64 [[.blk B]])).add (.rows false 23 [zrow])).get (.run (H.next+1+1))=some (.rows false 23 [zrow]):=by
  rw[Heap.get_add,if_pos (by simp)]
 have hn:(((H.add (.rows false 64 [[.blk A]])).add (.rows false 64 [[.blk B]])).add (.rows false 23 [zrow])).next=H.next+3:=by simp
 have hzr:zrow=[.int .u64 0,.int .i64 0,.int .i64 0,.int .i64 0,.int .i64 0,.int .u8 0,.int .u8 0,.int .u8 0,.int .u8 0,.int .u8 0,.int .u8 0,.int .u8 0,.int .u8 0,.int .u8 0,.int .u8 0,.int .u8 0,.int .u8 0,.int .u8 0,.int .u8 0,.int .u8 0,.int .u8 0,.int .i64 0,.bool false]:=rfl
 generalize hH2:((H.add (.rows false 64 [[.blk A]])).add (.rows false 64 [[.blk B]])).add (.rows false 23 [zrow])=H2 at *
 rw[hzr] at hH2
 have lA:loadAt H2 ⟨.run H.next,0⟩ 64=some [.blk A]:=by rw[loadAt_eq hgA rfl];exact Dr _ _
 obtain⟨v1,H3,e1,t4,r1,rfl,R1,hr1⟩:=rgr_ok H2 hA hlf n
 obtain⟨H4,s4,g4,t5,n4⟩:=R1.new H3
 have lB:loadAt H4 ⟨.run (H.next+1),0⟩ 64=some [.blk B]:=by rw[loadAt_eq (((t4.trans t5).same (.run (H.next+1)) (by show _ < _;omega) id).trans hgB) rfl];exact Dr _ _
 obtain⟨v2,H5,e2,t6,r2,rfl,R2,hr2⟩:=rgr_ok H4 hB hlf n
 obtain⟨H6,s6,g6,t7,n6⟩:=R2.new H5
 have w1:=R1.width
 have w2:=R2.width
 have t26:Turns Z H2 H6:=((t4.trans t5).trans t6).trans t7
 have gZ:H6.get (.run (H.next+1+1))=some (.rows false 23 [zrow]):=(t26.same (.run (H.next+1+1)) (by show _ < _;omega) id).trans hgZ
 have sto:∀ {row:List V},SRow row→∃ F,storeAt H6 ⟨.run (H.next+1+1),0⟩ row=some F∧loadAt F ⟨.run (H.next+1+1),0⟩ 23=some row∧Turns Z H F:=fun {row} R=>by
  refine⟨_,storeAt_eq gZ (r:=zrow) (r':=row) rfl R.put,?_,(t3.trans t26).setnew (by omega) _⟩
  exact R.load (by rw[Heap.get_set,if_pos rfl];rfl)
 have l1:loadAt H6 ⟨.run H3.next,0⟩ 23=some r1:=R1.load (((t6.trans t7).same (.run H3.next) (by show _ < _;omega) id).trans g4)
 have l2:loadAt H6 ⟨.run H5.next,0⟩ 23=some r2:=R2.load g6
 have hW:newW A B=if getE A≠0∧getE B≠0 then none else if getE A≠0∨(getE B=0∧numOf A < numOf B) then some 1 else some 0:=rfl
 have hCB:newW A B=some 1→newC A B=some B:=fun h=>by unfold newC;rw[h];rfl
 have hCA:newW A B=some 0→newC A B=some A:=fun h=>by unfold newC;rw[h];rfl
 have hC0:newW A B=none→newC A B=none:=fun h=>by unfold newC;rw[h];rfl
 have hNA:getE A=0→numOf A=sealN A:=fun h=>by unfold numOf;rw[if_pos h]
 have hNB:getE B=0→numOf B=sealN B:=fun h=>by unfold numOf;rw[if_pos h]
 rw[hzr] at s4 s6
 generalize getE A=ea at *
 generalize getE B=eb at *
 obtain⟨na,hna⟩:∃ z,z=numOf A:=⟨_,rfl⟩
 obtain⟨nb,hnb⟩:∃ z,z=numOf B:=⟨_,rfl⟩
 rw[← hna] at e1 hW
 rw[← hnb] at e2 hW
 refine ret_call rfl c18_eq ?_
 by_cases ha:ea=0
 ·have ba:(ea==0)=true:=by simp[ha]
  by_cases hb:eb=0
  ·have bb:(eb==0)=true:=by simp[hb]
   by_cases hlt:na < nb
   ·have hlt':(na:Int) < (nb:Int):=by omega
    have hw:newW A B=some 1:=by rw[hW];simp[ha,hb,hlt]
    obtain⟨F,sf,lf',tf⟩:=sto R2
    have hr:=hr2 hb
    simp only[c18,hH2,lA,e1,w1,s4,lB,e2,w2,s6,ba,bb,hlt',l2,sf,lf',sy,tup,↓reduceIte,zA,zG,zC,zD,zF,zE,zB,zH,reduceCtorEq]
    rw[endD_ok (by kernel_rfl) (by kernel_rfl)]
    simp only[l2,sf,lf',w2,sy,tup,↓reduceIte,zA,zG,zC,zD,zF,zE,zB,zH,reduceCtorEq]
    exact⟨trivial,.inr trivial,_,rfl,tf,.inr ⟨B,hCB hw,by rw[← hr,← hNB hb,← hnb]⟩⟩
   ·have hlt':¬ (na:Int) < (nb:Int):=by omega
    have hw:newW A B=some 0:=by rw[hW];simp[ha,hb,hlt]
    obtain⟨F,sf,lf',tf⟩:=sto R1
    have hr:=hr1 ha
    simp only[c18,hH2,lA,e1,w1,s4,lB,e2,w2,s6,ba,bb,hlt',l1,sf,lf',sy,tup,↓reduceIte,zA,zG,zC,zD,zF,zE,zB,zH,reduceCtorEq]
    rw[endD_ok (by kernel_rfl) (by kernel_rfl)]
    simp only[l1,sf,lf',w1,sy,tup,↓reduceIte,zA,zG,zC,zD,zF,zE,zB,zH,reduceCtorEq]
    exact⟨trivial,.inr trivial,_,rfl,tf,.inr ⟨A,hCA hw,by rw[← hr,← hNA ha,← hna]⟩⟩
  ·have bb:(eb==0)=false:=by simp[hb]
   have hw:newW A B=some 0:=by rw[hW];simp[ha,hb]
   obtain⟨F,sf,lf',tf⟩:=sto R1
   have hr:=hr1 ha
   simp only[c18,hH2,lA,e1,w1,s4,lB,e2,w2,s6,ba,bb,l1,sf,lf',sy,tup,↓reduceIte,zA,zG,zC,zD,zF,zE,zB,zH,reduceCtorEq]
   rw[endD_ok (by kernel_rfl) (by kernel_rfl)]
   simp only[l1,sf,lf',w1,sy,tup,↓reduceIte,zA,zG,zC,zD,zF,zE,zB,zH,reduceCtorEq]
   exact⟨trivial,.inr trivial,_,rfl,tf,.inr ⟨A,hCA hw,by rw[← hr,← hNA ha,← hna]⟩⟩
 ·have ba:(ea==0)=false:=by simp[ha]
  by_cases hb:eb=0
  ·have bb:(eb==0)=true:=by simp[hb]
   have hw:newW A B=some 1:=by rw[hW];simp[ha,hb]
   obtain⟨F,sf,lf',tf⟩:=sto R2
   have hr:=hr2 hb
   simp only[c18,hH2,lA,e1,w1,s4,lB,e2,w2,s6,ba,bb,l2,sf,lf',sy,tup,↓reduceIte,zA,zG,zC,zD,zF,zE,zB,zH,reduceCtorEq]
   rw[endD_ok (by kernel_rfl) (by kernel_rfl)]
   simp only[l2,sf,lf',w2,sy,tup,↓reduceIte,zA,zG,zC,zD,zF,zE,zB,zH,reduceCtorEq]
   exact⟨trivial,.inr trivial,_,rfl,tf,.inr ⟨B,hCB hw,by rw[← hr,← hNB hb,← hnb]⟩⟩
  ·have bb:(eb==0)=false:=by simp[hb]
   have hw:newW A B=none:=by rw[hW];simp[ha,hb]
   obtain⟨F,sf,lf',tf⟩:=sto SRow.z
   have wz:=SRow.z.width
   rw[hzr] at sf lf' wz ⊢
   simp only[c18,hH2,lA,e1,w1,s4,lB,e2,w2,s6,ba,bb,sf,lf',wz,sy,tup,↓reduceIte,zA,zG,zC,zD,zF,zE,zB,zH,reduceCtorEq]
   exact⟨trivial,.inr trivial,_,rfl,tf,.inl ⟨hC0 hw,rfl⟩⟩
end Go.Proofs.YtabebpemfinejaaGreat.draft
namespace Go.Proofs.YtabebpemfinejaaGreat.draft
open Go.Am
open disk (bx Fit A1 R1 Low Bn Bok)
noncomputable def c8:CFn:=⟨[.cell (pp 4) 3 .ag],
 .seq (.reg [
 qo 4 (.m (allocF 3 [.int .i64 0,.int .i64 0,.int .i64 0])) []]) (
 .seq (.reg [
 mv 5 0,
 qo 6 (.p (arF .rem (tt 5) (.c (.int .u8 4)))) [pp 5],
 qo 7 (.p (convF .i64 (tt 6))) [pp 6],
 qo 8 (.p (arF .add (ii 3) (tt 7))) [pp 7],
 mv 9 1,
 qo 10 (.p (arF .rem (tt 9) (.c (.int .u8 8)))) [pp 9],
 qo 11 (.p (convF .i64 (tt 10))) [pp 10],
 qo 12 (.p (arF .add (ii 1) (tt 11))) [pp 11],
 qo 13 (.p (buildF [.int .i64 0,.int .i64 0,.int .i64 0] .ag [(0,1,(tt 8)),(1,1,(tt 12)),(2,1,(ii 40))])) [pp 8,pp 12],
 qn (.a (storeF (tt 4) (tt 13) 3)) [pp 4,pp 13]]) (
 .ret))⟩
theorem c8_eq:fnOf Tryz.prog 8=some c8:=by kernel_rfl
noncomputable def c10_l0:C:=.seq (.seq (.reg [
 mv 7 6,
 mv 8 0,
 qo 9 (.p (arF .lss (tt 7) (tt 8))) [pp 7,pp 8]]) (
 .cond (tt 9) (.skip) (.exit 0))) (
 .seq (.block 1 (.reg [
 mv 12 5,
 mv 13 1,
 qo 14 (.p (arF .add (ii 2) (tt 13))) [pp 13],
 qo 15 (.m (bsliceF 1 1 [.int .i64 0] [(0,1,(tt 14))])) [pp 14],
 qo 16 (.a (appF 1 8 (tt 12) (tt 15))) [pp 12,pp 15],
 mv 5 16])) (
 .reg [
 mv 10 6,
 qo 11 (.p (arF .add (tt 10) (ii 1))) [pp 10],
 mv 6 11]))
noncomputable def c10:CFn:=⟨[.tmp (pp 4)],
 .seq (.reg [
 qo 4 (.p (S.get (.c (.slice none 0 0 0)))) []]) (
 .seq (.reg [
 qo 5 (.p (S.get (.c (.slice none 0 0 0)))) []]) (
 .seq (.seq (.reg [
 qo 6 (.p (S.get (ii 0))) []]) (
 .block 0 (.loop c10_l0))) (
 .seq (.reg [
 mv 17 5,
 qo 18 (.m (bsliceF 1 1 [.int .i64 0] [(0,1,(ii 50))])) [],
 qo 19 (.a (appF 1 8 (tt 17) (tt 18))) [pp 17,pp 18],
 mv 4 19]) (
 .ret))))⟩
theorem c10_eq:fnOf Tryz.prog 10=some c10:=by kernel_rfl
noncomputable def c3_l0:C:=.seq (.seq (.reg [
 mv 92 14,
 qo 93 (.p (faddrF (tt 7) 0)) [pp 7],
 qo 94 (.r (loadF (tt 93) 1 .sc)) [pp 93],
 qo 95 (.p (arF .lss (tt 92) (tt 94))) [pp 92,pp 94]]) (
 .cond (tt 95) (.skip) (.exit 2))) (
 .seq (.block 3 (.seq (.reg [
 mv 98 12,
 qo 99 (.c (callF (ff 16) [(tt 98)])) [pp 98],
 qo 100 (.p (fldF (tt 99) 3 16 .ag)) [pp 99],
 mv 101 14,
 qo 102 (.p (idxAF (tt 100) (tt 101) 16 1 .sc)) [pp 100,pp 101],
 qo 103 (.p (eqcF false false [.int .u8] (tt 102) (.c (.int .u8 1)))) [pp 102],
 mv 15 103]) (
 .seq (.seq (.reg [
 mv 104 15,
 mv 105 1,
 mv 106 14,
 qo 107 (.p (convF .u64 (tt 106))) [pp 106],
 qo 108 (.p (arF .shr (tt 105) (tt 107))) [pp 105,pp 107],
 qo 109 (.p (arF .and (tt 108) (.c (.int .u16 1)))) [pp 108],
 qo 110 (.p (eqcF false false [.int .u16] (tt 109) (.c (.int .u16 1)))) [pp 109],
 qo 111 (.p (eqcF true false [.bool] (tt 104) (tt 110))) [pp 104,pp 110]]) (
 .cond (tt 111) (.seq (.reg [
 qo 6 (.p (S.get (.c (.bool false)))) []]) (
 .ret)) (.skip))) (
 .seq (.seq (.reg [
 mv 112 15]) (
 .cond (tt 112) (.exit 3) (.skip))) (
 .seq (.reg [
 mv 114 8,
 mv 115 14,
 qo 116 (.c (callF (ff 17) [(tt 114),(tt 115),(ii 0)])) [pp 114,pp 115],
 mv 113 116,
 qo 117 (.p (extF (tt 113) 0)) [pp 113],
 qo 118 (.p (extF (tt 113) 1)) [pp 113],
 qo 16 (.m (allocF 64 [.blk 0])) [],
 qn (.a (storeF (tt 16) (tt 117) 64)) [pp 16,pp 117],
 mv 17 118]) (
 .seq (.reg [
 mv 120 8,
 mv 121 14,
 qo 122 (.c (callF (ff 17) [(tt 120),(tt 121),(ii 1)])) [pp 120,pp 121],
 mv 119 122,
 qo 123 (.p (extF (tt 119) 0)) [pp 119],
 qo 124 (.p (extF (tt 119) 1)) [pp 119],
 qo 18 (.m (allocF 64 [.blk 0])) [],
 qn (.a (storeF (tt 18) (tt 123) 64)) [pp 18,pp 123],
 mv 19 124]) (
 .seq (.reg [
 qo 126 (.r (loadF (tt 16) 64 .bk)) [pp 16],
 qo 127 (.r (loadF (tt 18) 64 .bk)) [pp 18],
 qo 128 (.c (callF (ff 18) [(tt 126),(tt 127)])) [pp 126,pp 127],
 mv 125 128,
 qo 129 (.p (extF (tt 125) 0)) [pp 125],
 qo 130 (.p (extF (tt 125) 1)) [pp 125],
 qo 131 (.p (extF (tt 125) 2)) [pp 125],
 qo 21 (.m (allocF 23 [.int .u64 0,.int .i64 0,.int .i64 0,.int .i64 0,.int .i64 0,.int .u8 0,.int .u8 0,.int .u8 0,.int .u8 0,.int .u8 0,.int .u8 0,.int .u8 0,.int .u8 0,.int .u8 0,.int .u8 0,.int .u8 0,.int .u8 0,.int .u8 0,.int .u8 0,.int .u8 0,.int .u8 0,.int .i64 0,.bool false])) [],
 mv 20 129,
 qn (.a (storeF (tt 21) (tt 130) 23)) [pp 21,pp 130],
 mv 22 131]) (
 .seq (.regD [
 mv 132 22,
 qo 133 (.p (eqcF true false [.int .i64] (tt 132) (ii 0))) [pp 132],
 mv 134 133,
 mg 135 20 134 false,
 mg 136 12 134 false,
 qg 137 (.c (callF (ff 15) [(tt 136)])) 134 false [pp 136],
 qg 138 (.p (eqcF true false [.int .u64] (tt 135) (tt 137))) 134 false [pp 135,pp 137],
 qo 139 (.p (pickF (tt 134) (.c (.bool true)) (tt 138))) [pp 134,pp 138],
 mv 140 139,
 qg 141 (.p (faddrF (tt 21) 1)) 140 false [pp 21],
 qg 142 (.r (loadF (tt 141) 1 .sc)) 140 false [pp 141],
 mg 143 14 140 false,
 qg 144 (.p (eqcF true false [.int .i64] (tt 142) (tt 143))) 140 false [pp 142,pp 143],
 qo 145 (.p (pickF (tt 140) (.c (.bool true)) (tt 144))) [pp 140,pp 144],
 mv 146 145,
 qg 147 (.p (faddrF (tt 21) 0)) 146 false [pp 21],
 qg 148 (.r (loadF (tt 147) 1 .sc)) 146 false [pp 147],
 qg 149 (.p (eqcF true false [.int .u64] (tt 148) (.c (.int .u64 9)))) 146 false [pp 148],
 qo 150 (.p (pickF (tt 146) (.c (.bool true)) (tt 149))) [pp 146,pp 149],
 mv 151 150,
 qg 152 (.p (faddrF (tt 21) 2)) 151 false [pp 21],
 qg 153 (.r (loadF (tt 152) 21 .ag)) 151 false [pp 152],
 mg 154 12 151 false,
 qg 155 (.c (callF (ff 16) [(tt 154)])) 151 false [pp 154],
 qg 156 (.c (callF (ff 19) [(tt 153),(tt 155)])) 151 false [pp 153,pp 155],
 qg 157 (.p (unF .not (tt 156))) 151 false [pp 156],
 qo 158 (.p (pickF (tt 151) (.c (.bool true)) (tt 157))) [pp 151,pp 157]] [0,1,3,7,7,23,63,127,255,511,1023,511,4095,8191,16383,32767,65535,131071,262143,524287,1048575,2097151,1048575,5242879,16777215,33554431,67108863]) (
 .cond (tt 158) (.seq (.reg [
 qo 6 (.p (S.get (.c (.bool false)))) []]) (
 .ret)) (.skip)))))))))) (
 .reg [
 mv 96 14,
 qo 97 (.p (arF .add (tt 96) (ii 1))) [pp 96],
 mv 14 97]))
noncomputable def c3_l1:C:=.seq (.seq (.reg [
 mv 55 13,
 qo 56 (.p (faddrF (tt 7) 0)) [pp 7],
 qo 57 (.r (loadF (tt 56) 1 .sc)) [pp 56],
 qo 58 (.p (arF .lss (tt 55) (tt 57))) [pp 55,pp 57]]) (
 .cond (tt 58) (.skip) (.exit 0))) (
 .seq (.block 1 (.seq (.reg [
 mv 61 1,
 mv 62 13,
 qo 63 (.p (convF .u64 (tt 62))) [pp 62],
 qo 64 (.p (arF .shr (tt 61) (tt 63))) [pp 61,pp 63],
 qo 65 (.p (arF .and (tt 64) (.c (.int .u16 1)))) [pp 64],
 qo 66 (.p (eqcF false false [.int .u16] (tt 65) (.c (.int .u16 1)))) [pp 65]]) (
 .cond (tt 66) (.reg [
 mv 67 8,
 mv 68 13,
 qo 69 (.c (callF (ff 13) [(tt 67),(tt 68)])) [pp 67,pp 68]]) (.skip)))) (
 .reg [
 mv 59 13,
 qo 60 (.p (arF .add (tt 59) (ii 1))) [pp 59],
 mv 13 60]))
noncomputable def c3:CFn:=⟨[.tmp (pp 6)],
 .seq (.reg [
 qo 6 (.p (S.get (.c (.bool false)))) []]) (
 .seq (.reg [
 mv 23 0,
 qo 24 (.c (callF (ff 8) [(tt 23),(.c (.int .u8 3))])) [pp 23],
 qo 7 (.m (allocF 3 [.int .i64 0,.int .i64 0,.int .i64 0])) [],
 qn (.a (storeF (tt 7) (tt 24) 3)) [pp 7,pp 24]]) (
 .seq (.reg [
 qo 26 (.p (faddrF (tt 7) 0)) [pp 7],
 qo 27 (.r (loadF (tt 26) 1 .sc)) [pp 26],
 qo 28 (.p (faddrF (tt 7) 1)) [pp 7],
 qo 29 (.r (loadF (tt 28) 1 .sc)) [pp 28],
 qo 30 (.c (callF (ff 10) [(tt 27),(tt 29)])) [pp 27,pp 29],
 qo 31 (.c (callF (ff 9) [(tt 30)])) [pp 30],
 mv 25 31,
 qo 32 (.p (extF (tt 25) 0)) [pp 25],
 qo 33 (.p (extF (tt 25) 1)) [pp 25],
 mv 8 32,
 mv 9 33]) (
 .seq (.reg [
 qo 35 (.r (loadF (tt 7) 3 .ag)) [pp 7],
 qo 36 (.c (callF (ff 11) [(tt 35)])) [pp 35],
 mv 34 36,
 qo 37 (.p (extF (tt 34) 0)) [pp 34],
 qo 38 (.p (extF (tt 34) 1)) [pp 34],
 qo 10 (.m (allocF 21 [.int .i64 0,.int .i64 0,.int .i64 0,.int .u8 0,.int .u8 0,.int .u8 0,.int .u8 0,.int .u8 0,.int .u8 0,.int .u8 0,.int .u8 0,.int .u8 0,.int .u8 0,.int .u8 0,.int .u8 0,.int .u8 0,.int .u8 0,.int .u8 0,.int .u8 0,.int .i64 0,.bool false])) [],
 qn (.a (storeF (tt 10) (tt 37) 21)) [pp 10,pp 37],
 mv 11 38]) (
 .seq (.seq (.reg [
 mv 39 9,
 qo 40 (.p (eqcF true false [.int .i64] (tt 39) (ii 0))) [pp 39],
 mv 41 40,
 mg 42 11 41 false,
 qg 43 (.p (eqcF true false [.int .i64] (tt 42) (ii 0))) 41 false [pp 42],
 qo 44 (.p (pickF (tt 41) (.c (.bool true)) (tt 43))) [pp 41,pp 43]]) (
 .cond (tt 44) (.seq (.reg [
 qo 6 (.p (S.get (.c (.bool false)))) []]) (
 .ret)) (.skip))) (
 .seq (.reg [
 mv 46 8,
 mv 47 2,
 qo 48 (.p (convF .u64 (tt 47))) [pp 47],
 qo 49 (.r (loadF (tt 10) 21 .ag)) [pp 10],
 qo 50 (.c (callF (ff 12) [(tt 46),(.c (.int .u64 9)),(tt 48),(tt 49)])) [pp 46,pp 48,pp 49],
 mv 45 50,
 qo 51 (.p (extF (tt 45) 0)) [pp 45],
 qo 52 (.p (extF (tt 45) 1)) [pp 45],
 mv 12 51,
 mv 9 52]) (
 .seq (.seq (.reg [
 mv 53 9,
 qo 54 (.p (eqcF true false [.int .i64] (tt 53) (ii 0))) [pp 53]]) (
 .cond (tt 54) (.seq (.reg [
 qo 6 (.p (S.get (.c (.bool false)))) []]) (
 .ret)) (.skip))) (
 .seq (.seq (.reg [
 qo 13 (.p (S.get (ii 0))) []]) (
 .block 0 (.loop c3_l1))) (
 .seq (.seq (.regD [
 mv 70 12,
 qo 71 (.c (callF (ff 14) [(tt 70)])) [pp 70],
 qo 72 (.p (eqcF true false [.int .i64] (tt 71) (ii 0))) [pp 71],
 mv 73 72,
 mg 74 12 73 false,
 qg 75 (.c (callF (ff 15) [(tt 74)])) 73 false [pp 74],
 mg 76 2 73 false,
 qg 77 (.p (convF .u64 (tt 76))) 73 false [pp 76],
 qg 78 (.p (arF .leq (tt 75) (tt 77))) 73 false [pp 75,pp 77],
 qo 79 (.p (pickF (tt 73) (.c (.bool true)) (tt 78))) [pp 73,pp 78],
 mv 80 79,
 mg 81 12 80 false,
 qg 82 (.c (callF (ff 15) [(tt 81)])) 80 false [pp 81],
 mg 83 2 80 false,
 qg 84 (.p (convF .u64 (tt 83))) 80 false [pp 83],
 qg 85 (.p (faddrF (tt 7) 0)) 80 false [pp 7],
 qg 86 (.r (loadF (tt 85) 1 .sc)) 80 false [pp 85],
 qg 87 (.p (convF .u64 (tt 86))) 80 false [pp 86],
 qg 88 (.p (arF .add (tt 84) (tt 87))) 80 false [pp 84,pp 87],
 qg 89 (.p (arF .add (tt 88) (.c (.int .u64 1)))) 80 false [pp 88],
 qg 90 (.p (arF .gtr (tt 82) (tt 89))) 80 false [pp 82,pp 89],
 qo 91 (.p (pickF (tt 80) (.c (.bool true)) (tt 90))) [pp 80,pp 90]] [0,1,3,7,15,31,15,79,255,511,1023,2047,4095,2047,10239,2047,34815,100351,255999,518143,1048575,2097151]) (
 .cond (tt 91) (.seq (.reg [
 qo 6 (.p (S.get (.c (.bool false)))) []]) (
 .ret)) (.skip))) (
 .seq (.seq (.reg [
 qo 14 (.p (S.get (ii 0))) []]) (
 .block 2 (.loop c3_l0))) (
 .seq (.reg [
 qo 159 (.c (callF (ff 20) [])) [],
 mv 6 159]) (
 .ret)))))))))))⟩
theorem c3_eq:fnOf Tryz.prog 3=some c3:=by kernel_rfl
theorem gSup_of {M E ID:Nat} {s r:Int} {S:List Nat} {c:Int} (h1:evt (E:Int)=true) (hI:ID < 18446744073709551616) (hM:M≤16) {j:Nat} (hmay:smay (ID:Int) (j:Int) (M:Int) s r S c) (hS:S.length=16) (g:Bool):gSup (supBlk E ID j M s r S c g)=.agg (scells (ID:Int) (j:Int) (M:Int) s r S c g):=by
 obtain⟨x1,x2,x3,x4,x5,x6,x7,x8,x9,x10,_⟩:=sup_back h1 hI hM hmay hS g rfl
 rw[gSup_row,x3,x4,x5,x6,x7,x8,x9,x10]
section
variable {lf K:Nat} (hlf:1000 < lf)
include hlf
theorem ugeo18 (G:Heap) {u M:Nat} (hu:u < 256) (hM:M=3+u % 4) (n:Nat):ret (U lf K (n+1) 8 [.int .u8 (u:Int),.int .u8 3] G) fun v G'=>v=geo (M:Int) 4 40∧Turns Z G G':=by
 have r4:arith .rem (.int .u8 (u:Int)) (.int .u8 4)=some (.int .u8 ((u % 4:Nat):Int)):=rem_u8 u 4 (by decide)
 have r8:arith .rem (.int .u8 3) (.int .u8 8)=some (.int .u8 3):=by kernel_rfl
 have hu4:u % 4 < 4:=Nat.mod_lt _ (by decide)
 generalize u % 4=w at *
 have w1:IntKind.i64.wrap (w:Int)=(w:Int):=wrap_i64 (by omega)
 have w2:IntKind.i64.wrap (3+(w:Int))=(M:Int):=by rw[wrap_i64 (by omega)];omega
 have w3:IntKind.i64.wrap 3=3:=by kernel_rfl
 have w4:IntKind.i64.wrap (1+3)=4:=by kernel_rfl
 have hg:cut [V.int .i64 (M:Int),V.int .i64 4,V.int .i64 40] 0 3=some [V.int .i64 (M:Int),V.int .i64 4,V.int .i64 40]:=rfl
 have hp:Go.Am.put [V.int .i64 0,V.int .i64 0,V.int .i64 0] 0 [V.int .i64 (M:Int),V.int .i64 4,V.int .i64 40]=some [V.int .i64 (M:Int),V.int .i64 4,V.int .i64 40]:=rfl
 refine ret_callU rfl rfl c8_eq ?_
 unfold geo
 simp (maxDischargeDepth:=12) only[c8,r4,r8,w1,w2,w3,w4,hg,hp,hv,ldO_one,stO_one,sy,tup,↓reduceIte,zA,zG,zC,zD,zF,zE,zB,zH,reduceCtorEq]
 refine⟨trivial,.inr trivial,_,rfl,rfl,?_⟩
 repeat (first | exact Turns.refl _ _ | apply Turns.skip | apply Turns.addm | apply Turns.setb | apply Turns.setl | apply Turns.setr | refine Turns.setn ?_ _ (by omega) _ | refine Turns.trans ?_ (tF _))
theorem usizes18 (G:Heap) {M:Nat} (hM:3≤M∧M≤6) (n:Nat):ret (U lf K (n+1) 10 [.int .i64 (M:Int),.int .i64 4] G) fun v G'=>∃ p,v=.slice p (sizes M).length (sizes M).length 1∧disk.PicksAt G' p (sizes M) disk.Z∧Turns Z G G':=by
 refine ret_callU rfl rfl c10_eq ?_
 simp only[c10,sy,tup,↓reduceIte,zA,zG,zC,zD,zF,zE,zB,zH,reduceCtorEq]
 have w6:IntKind.i64.wrap (2+4)=6:=by kernel_rfl
 have hloop:∀ t:T,t.getP (Tr.path 0)=some (.int .i64 (M:Int))→t.getP (Tr.path 1)=some (.int .i64 4)→t.getP (Tr.path 5)=some (.slice none 0 0 0)→t.getP (Tr.path 6)=some (.int .i64 0) →
   wp (loopF (runC (U lf K n) lf c10_l0) lf ⟨t,G,[]⟩) fun x s'=>x=.ex 0∧s'.d=[]∧∃ y,s'.t.getP (Tr.path 5)=some y∧Lst G s'.H 1 (rowsI (List.replicate M 6)) y∧Turns Z G s'.H:=by
  intro t q0 q1 q5 q6
  refine wp_loopF (fun j s'=>∃ i:Nat,j=M - i∧i≤M∧s'.d=[]∧s'.t.getP (Tr.path 0)=some (.int .i64 (M:Int))∧s'.t.getP (Tr.path 1)=some (.int .i64 4)∧s'.t.getP (Tr.path 6)=some (.int .i64 (i:Int))∧∃ y,s'.t.getP (Tr.path 5)=some y∧Lst G s'.H 1 (rowsI (List.replicate i 6)) y∧Turns Z G s'.H) ?_ lf M _ ⟨0,rfl,by omega,rfl,q0,q1,q6,_,q5,Lst.nil _ _ _,Turns.refl _ _⟩ (by omega)
  rintro j ⟨t,HH,d⟩ ⟨i,rfl,hi,hd,q0,q1,q6,y,q5,hy,tz⟩
  dsimp only at hd q0 q1 q6 q5 hy tz
  subst hd
  by_cases hlt:i < M
  ·have hlt':(i:Int) < (M:Int):=by omega
   have w2:IntKind.i64.wrap ((i:Int)+1)=((i+1:Nat):Int):=by rw[wrap_i64 (by omega)];omega
   obtain⟨H',ea,hv',tz'⟩:=appI hy tz (by simp;omega) 6
   rw[← List.replicate_succ'] at hv'
   simp only[c10_l0,q0,q1,q5,q6,hlt',w2,w6,ea,sy,tup,↓reduceIte,zA,zG,zC,zD,zF,zE,zB,zH,reduceCtorEq]
   exact⟨M - (i+1),by omega,i+1,rfl,by omega,trivial,trivial,trivial,by simp,_,rfl,hv',tz'⟩
  ·have:i=M:=by omega
   subst this
   simp only[c10_l0,q0,q1,q5,q6,Int.lt_irrefl,sy,tup,↓reduceIte,zA,zG,zC,zD,zF,zE,zB,zH,reduceCtorEq]
   exact⟨trivial,trivial,y,rfl,hy,tz⟩
 refine wp_ctx (F:=fun r=>seqC _ _ _ (blockC _ r)) (hloop _ ?_ ?_ ?_ ?_) ?_
 ·simp only[sy,tup,↓reduceIte,zA,zG,zC,zD,zF,zE,zB,zH,reduceCtorEq]
 ·simp only[sy,tup,↓reduceIte,zA,zG,zC,zD,zF,zE,zB,zH,reduceCtorEq]
 ·simp only[sy,tup,↓reduceIte,zA,zG,zC,zD,zF,zE,zB,zH,reduceCtorEq]
 ·simp only[sy,tup,↓reduceIte,zA,zG,zC,zD,zF,zE,zB,zH,reduceCtorEq]
 rintro x ⟨t,HH,d⟩ ⟨rfl,hd,y,q5,hy,tz⟩
 dsimp only at hd q5 hy tz
 subst hd
 obtain⟨H1,ea,hv1,t1⟩:=appI hy tz (by simp;omega) 50
 obtain⟨p,ep,hP⟩:=picks_lst hv1 (by simp)
 change disk.PicksAt H1 p (sizes M) disk.Z at hP
 rw[ep] at ea
 simp only[q5,ea,sy,tup,↓reduceIte,zA,zG,zC,zD,zF,zE,zB,zH,reduceCtorEq]
 exact⟨trivial,.inr trivial,_,rfl,p,rfl,hP,t1⟩
theorem ulives18 (H:Heap) (n:Nat):U lf K (n+1) 20 [] H=some (.v (.bool true),H):=callU_told rfl
theorem u18loop1 {G G0:Heap} {h b:Bk} {M k E a w:Nat} {S:List Nat} {c:Int} {B:Bn} (hh:HB G h b 9 (E:Int) (M:Int) 4 40 S c false B) (hC:Calm M k B) (hM:3≤M∧M≤6) (hk:k≤10) (ha:a < 65536) (t0:QOk G0→QOk G)
  (hw:G.get (.run w)=some (.rows false 3 [[.int .i64 (M:Int),.int .i64 4,.int .i64 40]])) (wo:w < G.next) {V2:V} (n:Nat):∀ t:T,t.getP (Tr.path 1)=some (.int .u16 (a:Int))→t.getP (Tr.path 2)=some V2→t.getP (Tr.path 7)=some (.ptr (some ⟨.run w,0⟩))→t.getP (Tr.path 8)=some (.ptr (some ⟨b,0⟩))→t.getP (Tr.path 12)=some (.ptr (some ⟨h,0⟩))→t.getP (Tr.path 13)=some (.int .i64 0) →
  wp (loopF (runC (U lf K (n+1)) lf c3_l1) lf ⟨t,G,[]⟩) fun x s'=>x=.ex 0∧s'.d=[]∧s'.t.getP (Tr.path 1)=some (.int .u16 (a:Int))∧s'.t.getP (Tr.path 2)=some V2∧s'.t.getP (Tr.path 7)=some (.ptr (some ⟨.run w,0⟩))∧s'.t.getP (Tr.path 8)=some (.ptr (some ⟨b,0⟩))∧s'.t.getP (Tr.path 12)=some (.ptr (some ⟨h,0⟩))∧HB s'.H h b 9 (E:Int) (M:Int) 4 40 S c false (failL B a M)∧s'.H.get (.run w)=some (.rows false 3 [[.int .i64 (M:Int),.int .i64 4,.int .i64 40]])∧w < s'.H.next∧(QOk G0→QOk s'.H):=by
 intro t q1 q2 q7 q8 q12 q13
 refine wp_loopF (fun u s'=>∃ i:Nat,u=M - i∧i≤M∧s'.d=[]∧s'.t.getP (Tr.path 1)=some (.int .u16 (a:Int))∧s'.t.getP (Tr.path 2)=some V2∧s'.t.getP (Tr.path 7)=some (.ptr (some ⟨.run w,0⟩))∧s'.t.getP (Tr.path 8)=some (.ptr (some ⟨b,0⟩))∧s'.t.getP (Tr.path 12)=some (.ptr (some ⟨h,0⟩))∧s'.t.getP (Tr.path 13)=some (.int .i64 (i:Int))∧HB s'.H h b 9 (E:Int) (M:Int) 4 40 S c false (failL B a i)∧s'.H.get (.run w)=some (.rows false 3 [[.int .i64 (M:Int),.int .i64 4,.int .i64 40]])∧w < s'.H.next∧(QOk G0→QOk s'.H))
  ?_ lf M _ ⟨0,rfl,Nat.zero_le _,rfl,q1,q2,q7,q8,q12,q13,hh,hw,wo,t0⟩ (by omega)
 rintro u ⟨t,G1,d⟩ ⟨i,rfl,hi,hd,q1,q2,q7,q8,q12,q13,hh,hw,wo,t0⟩
 dsimp only at hd q1 q2 q7 q8 q12 q13 hh hw wo t0
 subst hd
 have hc0:cut [V.int .i64 (M:Int),V.int .i64 4,V.int .i64 40] 0 1=some [V.int .i64 (M:Int)]:=rfl
 by_cases hlt:i < M
 ·have hlt':(i:Int) < (M:Int):=by omega
  have w1:IntKind.i64.wrap ((i:Int)+1)=((i+1:Nat):Int):=by rw[wrap_i64 (by omega)];omega
  have w2:IntKind.u64.wrap (i:Int)=(i:Int):=wrap_u64 (by omega)
  have hF:=failed hC a i (by omega)
  have sh:=shr_u16w (a:=a) (m:=i) (by omega)
  have hx:a / 2 ^ i < 65536:=Nat.lt_of_le_of_lt (Nat.div_le_self _ _) ha
  have hbit:aBit a i=decide ((a / 2 ^ i)&&&1=1):=rfl
  generalize a / 2 ^ i=y at sh hx hbit
  have an:arith .and (.int .u16 (y:Int)) (.int .u16 1)=some (.int .u16 ((y&&&1:Nat):Int)):=and_u16 hx (by decide)
  have hb1:=bit_and y
  have eF:=qFail hh.bench hh.fit (i:Int) (lf:=lf) (K:=K) (w:=n)
  rw[(hF.calm.fail hlt).1] at eF
  cases hc:decide (y&&&1=1) with
  | true=>
   rw[hc] at hb1 hbit
   have e1:failL B a (i+1)=(failL B a i).fail (i:Int):=if_pos hbit
   have nwb:=ne_of_get hw hh.bench (by intro e;cases e)
   simp (maxDischargeDepth:=12) only[c3_l1,q1,q2,q7,q8,q12,q13,hw,hc0,hlt',w1,w2,sh,an,hb1,eF,nwb,hv,ldO_one,stO_one,sy,tup,↓reduceIte,zA,zG,zC,zD,zF,zE,zB,zH,reduceCtorEq]
   refine⟨M - (i+1),by omega,i+1,rfl,by omega,trivial,trivial,trivial,trivial,trivial,trivial,by simp,?_,trivial,?_,t0⟩
   ·rw[e1]
    exact hh.failed ((hF.calm.fail hlt).2.1.fit (by omega)) _
   ·show w < G1.next+(K+2);omega
  | false=>
   rw[hc] at hb1 hbit
   have e1:failL B a (i+1)=failL B a i:=if_neg (by rw[hbit];decide)
   simp (maxDischargeDepth:=12) only[c3_l1,q1,q2,q7,q8,q12,q13,hw,hc0,hlt',w1,w2,sh,an,hb1,hv,ldO_one,stO_one,sy,tup,↓reduceIte,zA,zG,zC,zD,zF,zE,zB,zH,reduceCtorEq]
   exact⟨M - (i+1),by omega,i+1,rfl,by omega,trivial,trivial,trivial,trivial,trivial,trivial,by simp,by rw[e1];exact hh,trivial,wo,t0⟩
 ·have:i=M:=by omega
  subst this
  simp (maxDischargeDepth:=12) only[c3_l1,q1,q2,q7,q8,q12,q13,hw,hc0,Int.lt_irrefl,hv,ldO_one,stO_one,sy,tup,↓reduceIte,zA,zG,zC,zD,zF,zE,zB,zH,reduceCtorEq]
  exact⟨trivial,trivial,trivial,trivial,trivial,trivial,trivial,hh,trivial,wo,t0⟩
theorem calm_sure {M k:Nat} {B:Bn} (h:Calm M k B) {i:Nat} (hi:i < M) (hd:dead B i=false) {j:Nat} (hj:j < 2):B.sure (i:Int) (j:Int)=sect B i j:=by
 unfold Bn.sure
 rw[if_pos (h.tc hi)]
 have:=h.sz i hi
 unfold dead at hd
 have e:disk.code (B.dev (i:Int)) (j:Int)=0:=by
  unfold disk.code
  rw[if_neg (by omega),hd]
  rfl
 unfold disk.Dev.sure sect
 rw[if_pos e]
 simp
theorem u18loop2 {G G0:Heap} {h b:Bk} {M E' a w:Nat} {S':List Nat} {B':Bn} (hh:HB G h b 9 (E':Int) (M:Int) 4 40 S' 0 false B') (hE:E' < 9007199254740992) (hM:3≤M∧M≤6) (hC:∃ k,k≤850∧Calm M k B') (hS:S'.length=16) (hf:fine (M:Int) 4 40 S' 0) (ha:a < 65536) (t0:QOk G0→QOk G)
  (hst:∀ j,j < M→(aBit a j=true→S'.getD j 0=1)∧(aBit a j=false→S'.getD j 0≠1∧dead B' j=false∧hasX B' j (E' - 1) (supBlk E' 9 j M 4 40 S' 0 false))) (hE1:1≤E')
  (hw:G.get (.run w)=some (.rows false 3 [[.int .i64 (M:Int),.int .i64 4,.int .i64 40]])) (wo:w < G.next) (n:Nat):∀ t:T,t.getP (Tr.path 1)=some (.int .u16 (a:Int))→t.getP (Tr.path 7)=some (.ptr (some ⟨.run w,0⟩))→t.getP (Tr.path 8)=some (.ptr (some ⟨b,0⟩))→t.getP (Tr.path 12)=some (.ptr (some ⟨h,0⟩))→t.getP (Tr.path 14)=some (.int .i64 0) →
  wp (loopF (runC (U lf K (n+2)) lf c3_l0) lf ⟨t,G,[]⟩) fun x s'=>x=.ex 2∧s'.d=[]∧(QOk G0→QOk s'.H):=by
 intro t q1 q7 q8 q12 q14
 refine wp_loopF (fun u s'=>∃ i:Nat,u=M - i∧i≤M∧s'.d=[]∧s'.t.getP (Tr.path 1)=some (.int .u16 (a:Int))∧s'.t.getP (Tr.path 7)=some (.ptr (some ⟨.run w,0⟩))∧s'.t.getP (Tr.path 8)=some (.ptr (some ⟨b,0⟩))∧s'.t.getP (Tr.path 12)=some (.ptr (some ⟨h,0⟩))∧s'.t.getP (Tr.path 14)=some (.int .i64 (i:Int))∧HB s'.H h b 9 (E':Int) (M:Int) 4 40 S' 0 false B'∧s'.H.get (.run w)=some (.rows false 3 [[.int .i64 (M:Int),.int .i64 4,.int .i64 40]])∧w < s'.H.next∧(QOk G0→QOk s'.H))
  ?_ lf M _ ⟨0,rfl,Nat.zero_le _,rfl,q1,q7,q8,q12,q14,hh,hw,wo,t0⟩ (by omega)
 rintro u ⟨t,G1,d⟩ ⟨i,rfl,hi,hd,q1,q7,q8,q12,q14,hh,hw,wo,t0⟩
 dsimp only at hd q1 q7 q8 q12 q14 hh hw wo t0
 subst hd
 have hc0:cut [V.int .i64 (M:Int),V.int .i64 4,V.int .i64 40] 0 1=some [V.int .i64 (M:Int)]:=rfl
 by_cases hlt:i < M
 ·have hlt':(i:Int) < (M:Int):=by omega
  have w1:IntKind.i64.wrap ((i:Int)+1)=((i+1:Nat):Int):=by rw[wrap_i64 (by omega)];omega
  have w2:IntKind.u64.wrap (i:Int)=(i:Int):=wrap_u64 (by omega)
  have sh:=shr_u16w (a:=a) (m:=i) (by omega)
  have hx:a / 2 ^ i < 65536:=Nat.lt_of_le_of_lt (Nat.div_le_self _ _) ha
  have hbit:aBit a i=decide ((a / 2 ^ i)&&&1=1):=rfl
  obtain⟨s1,s2⟩:=hst i hlt
  generalize a / 2 ^ i=y at sh hx hbit
  have an:arith .and (.int .u16 (y:Int)) (.int .u16 1)=some (.int .u16 ((y&&&1:Nat):Int)):=and_u16 hx (by decide)
  have hb1:=bit_and y
  obtain⟨v2,G2,e2,rfl,t2⟩:=uhroster hlf hh n (K:=K)
  have hi16:i < S'.length:=by omega
  have hlen16:i≤15:=by omega
  have hcu:cut (rcells (M:Int) 4 40 S' 0 false) 3 16=some (sts S'):=by
   rw[cut_thin (r_thin _ _ _ _ _ _) (by rw[r_len hS];decide)]
   show some (List.take 16 (sts S'++[V.int .i64 0,V.bool false]))=_
   rw[List.take_left' (by rw[sts_len,hS])]
  have hci:=sts_cut hi16
  have hh2:=hh.turns t2
  have hw2:=(t2.same (.run w) wo (fun h=>h)).trans hw
  have wo2:w < G2.next:=Nat.lt_of_lt_of_le wo t2.next
  have q2:QOk G0→QOk G2:=fun q=>t2.q (t0 q)
  unfold ros at e2
  cases hc:decide (y&&&1=1) with
  | true=>
   rw[hc] at hb1 hbit
   have g1:S'[i]=1:=by
    have:=s1 hbit
    simpa [List.getD,hi16] using this
   have hb2:(((S'[i]:Nat):Int)==1)=true:=by rw[g1];rfl
   simp (maxDischargeDepth:=12) only[c3_l0,q1,q7,q8,q12,q14,hw,hc0,hlt',hlen16,w1,w2,sh,an,hb1,e2,hcu,hci,hb2,hv,ldO_one,stO_one,sy,tup,↓reduceIte,zA,zG,zC,zD,zF,zE,zB,zH,reduceCtorEq]
   exact⟨M - (i+1),by omega,i+1,rfl,by omega,trivial,trivial,trivial,trivial,trivial,by simp,hh2,hw2,wo2,q2⟩
  | false=>
   rw[hc] at hb1 hbit
   obtain⟨g1,hd0,hx0⟩:=s2 hbit
   have g1':S'[i]≠1:=fun e=>g1 (by simpa [List.getD,hi16] using e)
   have hb2:(((S'[i]:Nat):Int)==1)=false:=by simp;omega
   obtain⟨kk,hkk,hCC⟩:=hC
   obtain⟨A0,hA0⟩:∃ A,A=sect B' i 0:=⟨_,rfl⟩
   obtain⟨A1,hA1⟩:∃ A,A=sect B' i 1:=⟨_,rfl⟩
   have z0:A0 < 256 ^ 64:=hA0 ▸ hCC.sm i 0 hlt (by decide)
   have z1:A1 < 256 ^ 64:=hA1 ▸ hCC.sm i 1 hlt (by decide)
   obtain⟨u0,eS0⟩:∃ u0,∀ H,HB H h b 9 (E':Int) (M:Int) 4 40 S' 0 false B'→U lf K (n+2) 17 [.ptr (some ⟨b,0⟩),.int .i64 (i:Int),.int .i64 0] H=some (.v (.tuple [.blk A0,.int .i64 u0]),H.skip (K+2)):=
    ⟨_,fun H x=>(qSure x.bench x.fit (i:Int) 0).trans (by rw[show B'.sure (i:Int) 0=A0 from(calm_sure hlf hCC hlt hd0 (j:=0) (by decide)).trans hA0.symm])⟩
   obtain⟨u1,eS1⟩:∃ u0,∀ H,HB H h b 9 (E':Int) (M:Int) 4 40 S' 0 false B'→U lf K (n+2) 17 [.ptr (some ⟨b,0⟩),.int .i64 (i:Int),.int .i64 1] H=some (.v (.tuple [.blk A1,.int .i64 u0]),H.skip (K+2)):=
    ⟨_,fun H x=>(qSure x.bench x.fit (i:Int) 1).trans (by rw[show B'.sure (i:Int) 1=A1 from(calm_sure hlf hCC hlt hd0 (j:=1) (by decide)).trans hA1.symm])⟩
   have e3:=eS0 _ hh2
   obtain⟨X,hX⟩:∃ X,X=supBlk E' 9 i M 4 40 S' 0 false:=⟨_,rfl⟩
   have hmay:smay ((9:Nat):Int) (i:Int) (M:Int) 4 40 S' 0:=⟨by decide,by omega,hlt',hf⟩
   have hev:evt (E':Int)=true:=by unfold evt;simp;omega
   obtain⟨x1,x2,_⟩:=sup_back hev (by decide) (by omega) hmay hS false hX
   have hgs:gSup X=.agg (scells 9 (i:Int) (M:Int) 4 40 S' 0 false):=by rw[hX];exact gSup_of hev (by decide) (by omega) hmay hS false
   rw[← hX] at hx0
   have hnew:=hx0.new x1 (by omega)
   rw[← hA0,← hA1] at hnew
   have eN:∀ H:Heap,U lf K (n+2) 18 [.blk A0,.blk A1] H=some (.v (.tuple [.int .u64 (E':Int),.agg (scells 9 (i:Int) (M:Int) 4 40 S' 0 false),.int .i64 0]),H.skip (K+2)):=fun H=>qp_ashlarref08_Newest (fun H=>by
    obtain⟨v,H',e,t,hv⟩:=rnew_ok H z0 z1 (lf:=lf) (by omega) 53
    refine⟨v,H',e,?_,t⟩
    rcases hv with ⟨h1,_⟩ | ⟨C,h1,h2⟩
    ·rw[hnew] at h1;cases h1
    ·rw[hnew] at h1
     cases h1
     rw[h2,x2,hgs])
   have t3:Turns Z G2 (((G2.skip (K+2)).add (.rows false 64 [[.blk 0]])).set (.run (G2.next+(K+2))) (.rows false 64 [[.blk A0]])):=by repeat (first | exact Turns.refl _ _ | apply Turns.skip | apply Turns.addm | apply Turns.setb | apply Turns.setl | apply Turns.setr | refine Turns.setn ?_ _ (by omega) _ | refine Turns.trans ?_ (tF _))
   have e4:=eS1 _ (hh2.turns t3)
   have wz:=s_width hS 9 (i:Int) (M:Int) 4 40 0 false
   have pz:=put_s hS 9 (i:Int) (M:Int) 4 40 0 false
   obtain⟨HH,hHH⟩:∃ HH,(((((((((G2.skip (K+2)).add (.rows false 64 [[.blk 0]])).set (.run (G2.next+(K+2))) (.rows false 64 [[.blk A0]])).skip (K+2)).add (.rows false 64 [[.blk 0]])).set (.run (G2.next+(K+2)+1+(K+2))) (.rows false 64 [[.blk A1]])).skip (K+2)).add (.rows false 23 [zrow])).set (.run (G2.next+(K+2)+1+(K+2)+1+(K+2))) (.rows false 23 [scells 9 (i:Int) (M:Int) 4 40 S' 0 false]))=HH:=⟨_,rfl⟩
   have t5:Turns Z G2 HH:=by
    rw[← hHH]
    repeat (first | exact Turns.refl _ _ | apply Turns.skip | apply Turns.addm | apply Turns.setb | apply Turns.setl | apply Turns.setr | refine Turns.setn ?_ _ (by omega) _ | refine Turns.trans ?_ (tF _))
   have hHg:HH.get (.run (G2.next+(K+2)+1+(K+2)+1+(K+2)))=some (.rows false 23 [scells 9 (i:Int) (M:Int) 4 40 S' 0 false]):=by
    rw[← hHH,Heap.get_set,if_pos rfl]
   have hNo:G2.next+(K+2)+1+(K+2)+1+(K+2) < HH.next:=by
    rw[← hHH];show _ < _+1;exact Nat.lt_succ_self _
   obtain⟨nb,hnb⟩:∃ nb,nb=G2.next+(K+2)+1+(K+2)+1+(K+2):=⟨_,rfl⟩
   have hh5:=hh2.turns t5
   have e5:=uhevent hlf hh5 n (K:=K)
   obtain⟨v6,G6,e6,rfl,t6⟩:=uhroster hlf hh5 n (K:=K)
   have hg6:=(t6.same (.run (G2.next+(K+2)+1+(K+2)+1+(K+2))) hNo (fun h=>h)).trans hHg
   have eR:∀ H:Heap,U lf K (n+2) 19 [ros (M:Int) 4 40 S' 0 false,ros (M:Int) 4 40 S' 0 false] H=some (.v (.bool true),H.skip (K+2)):=fun H=>qp_ashlarref08_Rosters (fun H=>by
    obtain⟨v,H',e,rfl,t⟩:=rosters_ok H hS lf 58 (by omega) (m:=(M:Int)) (s:=4) (r:=40) (c:=0) (g:=false)
    exact⟨_,H',e,rfl,t⟩)
   have c0:cut (scells 9 (i:Int) (M:Int) 4 40 S' 0 false) 0 1=some [.int .u64 9]:=rfl
   have c1:cut (scells 9 (i:Int) (M:Int) 4 40 S' 0 false) 1 1=some [.int .i64 (i:Int)]:=rfl
   have c2:cut (scells 9 (i:Int) (M:Int) 4 40 S' 0 false) 2 21=some (rcells (M:Int) 4 40 S' 0 false):=by
    rw[cut_thin (s_thin _ _ _ _ _ _ _ _) (by rw[s_len hS];exact Nat.le_refl _)]
    show some (List.take 21 (rcells (M:Int) 4 40 S' 0 false))=_
    rw[List.take_of_length_le (by rw[r_len hS];exact Nat.le_refl _)]
   unfold zrow at hHH pz
   unfold ros at e6 eR
   rw[← hnb] at hHg hg6 hHH hNo
   simp (maxDischargeDepth:=12) only[c3_l0,q1,q7,q8,q12,q14,hw,hc0,hlt',hlen16,w1,w2,sh,an,hb1,e2,hcu,hci,hb2,e3,e4,eN,wz,pz,← hnb,hHH,hHg,hg6,e5,e6,eR,c0,c1,c2,hv,ldO_one,stO_one,sy,tup,↓reduceIte,zA,zG,zC,zD,zF,zE,zB,zH,reduceCtorEq]
   obtain⟨Q,hQ⟩:∃ Q:List (Option V × Option V),Q=[(loadF (.t (Tr.path 152)) 21 .ag (Tr.setP (Tr.path 152) (.ptr (some ⟨.run nb,2⟩)) .e) HH,some (.agg (rcells (M:Int) 4 40 S' 0 false))),(loadF (.t (Tr.path 152)) 21 .ag (Tr.setP (Tr.path 152) (.ptr (some ⟨.run nb,2⟩)) .e) G6,some (.agg (rcells (M:Int) 4 40 S' 0 false)))]:=⟨_,rfl⟩
   rw[endD_q (q:=Q) (by kernel_rfl) (by rw[hQ];kernel_rfl)]
   have hQ':∀ x ∈ Q,x.1=x.2:=by
    rw[hQ]
    intro x hx
    simp only[List.mem_cons,List.not_mem_nil,or_false] at hx
    rcases hx with rfl | rfl<;>simp (maxDischargeDepth:=12) only[hHg,hg6,c2,hv,ldO_one,stO_one,sy,tup,↓reduceIte,zA,zG,zC,zD,zF,zE,zB,zH,reduceCtorEq]
   have t7:=(t6.skip (K+2)).owe hQ'
   simp (maxDischargeDepth:=12) only[q14,hlt',w1,hv,ldO_one,stO_one,sy,tup,↓reduceIte,zA,zG,zC,zD,zF,zE,zB,zH,reduceCtorEq]
   refine⟨M - (i+1),by omega,i+1,rfl,by omega,trivial,by simp[q1],by simp[q7],by simp[q8],by simp[q12],by simp,?_,?_,?_,fun q=>t7.q (t5.q (q2 q))⟩
   ·exact hh5.turns t7
   ·exact((t5.trans t7).same (.run w) wo2 (fun h=>h)).trans hw2
   ·exact Nat.lt_of_lt_of_le wo2 (t5.trans t7).next
 ·have:i=M:=by omega
  subst this
  simp (maxDischargeDepth:=12) only[c3_l0,q1,q7,q8,q12,q14,hw,hc0,Int.lt_irrefl,hv,ldO_one,stO_one,sy,tup,↓reduceIte,zA,zG,zC,zD,zF,zE,zB,zH,reduceCtorEq]
  exact⟨trivial,trivial,t0⟩
theorem hullsaves_run (G:Heap) {u E a:Nat} (hu:u < 256) (hE:E < 4294967296) (ha:a < 65536) (n:Nat) :
  ret (U lf K (n+9) 3 [.int .u8 (u:Int),.int .u16 (a:Int),.int .u32 (E:Int)] G) fun v G'=>v=.bool true∧(QOk G→QOk G'):=by
 obtain⟨M,hM⟩:∃ M,M=3+u % 4:=⟨_,rfl⟩
 have hM6:3≤M∧M≤6:=by omega
 have w3:IntKind.u64.wrap (E:Int)=(E:Int):=wrap_u64 (by omega)
 have w4:IntKind.u64.wrap (M:Int)=(M:Int):=wrap_u64 (by omega)
 have w5:IntKind.u64.wrap ((E:Int)+(M:Int))=(E:Int)+(M:Int):=wrap_u64 (by omega)
 have w6:IntKind.u64.wrap ((E:Int)+(M:Int)+1)=(E:Int)+(M:Int)+1:=Go.Am.wrap_u64 (by omega)
 have hz:=zeros_fine hM6
 obtain⟨cC,cd,cL,clen⟩:=zero_calm hM6
 obtain⟨v0,G0,e0,rfl,t0⟩:=ugeo18 hlf (K:=K) G hu hM (n+7)
 have t01:Turns Z G0 ((G0.add (.rows false 3 [[.int .i64 0,.int .i64 0,.int .i64 0]])).set (.run G0.next) (.rows false 3 [[.int .i64 (M:Int),.int .i64 4,.int .i64 40]])):=by repeat (first | exact Turns.refl _ _ | apply Turns.skip | apply Turns.addm | apply Turns.setb | apply Turns.setl | apply Turns.setr | refine Turns.setn ?_ _ (by omega) _ | refine Turns.trans ?_ (tF _))
 obtain⟨H1,hH1⟩:∃ H1,(G0.add (.rows false 3 [[.int .i64 0,.int .i64 0,.int .i64 0]])).set (.run G0.next) (.rows false 3 [[.int .i64 (M:Int),.int .i64 4,.int .i64 40]])=H1:=⟨_,rfl⟩
 have hw1:H1.get (.run G0.next)=some (.rows false 3 [[.int .i64 (M:Int),.int .i64 4,.int .i64 40]]):=by
  rw[← hH1,Heap.get_set,if_pos rfl]
 have wo1:H1.Old (.run G0.next):=by rw[← hH1];show _ < _+1;exact Nat.lt_succ_self _
 rw[hH1] at t01
 obtain⟨v1,G1,e1,p1,rfl,hP,t1⟩:=usizes18 hlf (K:=K) H1 hM6 (n+7)
 have hok:=okSizes_k (k:=M) (by omega)
 have e2:U lf K (n+8) 9 [.slice p1 (sizes M).length (sizes M).length 1] G1=_:=qNew hP hok _ _
 obtain⟨H2,hH2⟩:∃ H2,(G1.add (bx false (disk.newB (sizes M)))).skip (K+1)=H2:=⟨_,rfl⟩
 have t2:Turns Z G1 H2:=by
  rw[← hH2]
  repeat (first | exact Turns.refl _ _ | apply Turns.skip | apply Turns.addm | apply Turns.setb | apply Turns.setl | apply Turns.setr | refine Turns.setn ?_ _ (by omega) _ | refine Turns.trans ?_ (tF _))
 have hb2:H2.get (.run G1.next)=some (bx false (disk.newB (sizes M))):=by
  rw[← hH2,get_skip,Heap.get_add,if_pos rfl]
 have bo2:H2.Old (.run G1.next):=by rw[← hH2];show _ < _+1+(K+1);omega
 obtain⟨v3,G3,e3,rfl,t3⟩:=unew10 hlf (K:=K) hz H2 (n+6)
 have hwr:=r_width (S:=List.replicate 16 0) (by simp) (M:Int) 4 40 0 false
 have hpr:Go.Am.put zros 0 (rcells (M:Int) 4 40 (List.replicate 16 0) 0 false)=some (rcells (M:Int) 4 40 (List.replicate 16 0) 0 false):=put_r (by simp)
 have hcr:cut (rcells (M:Int) 4 40 (List.replicate 16 0) 0 false) 0 21=some (rcells (M:Int) 4 40 (List.replicate 16 0) 0 false):=by
  rw[cut_thin (r_thin _ _ _ _ _ _) (by rw[r_len (by simp)];exact Nat.le_refl _)]
  rw[List.drop_zero,List.take_of_length_le (by rw[r_len (by simp)];exact Nat.le_refl _)]
 have t4:Turns Z G3 ((G3.add (.rows false 21 [zros])).set (.run G3.next) (.rows false 21 [rcells (M:Int) 4 40 (List.replicate 16 0) 0 false])):=by repeat (first | exact Turns.refl _ _ | apply Turns.skip | apply Turns.addm | apply Turns.setb | apply Turns.setl | apply Turns.setr | refine Turns.setn ?_ _ (by omega) _ | refine Turns.trans ?_ (tF _))
 obtain⟨H3,hH3⟩:∃ H3,(G3.add (.rows false 21 [zros])).set (.run G3.next) (.rows false 21 [rcells (M:Int) 4 40 (List.replicate 16 0) 0 false])=H3:=⟨_,rfl⟩
 have hr3:H3.get (.run G3.next)=some (.rows false 21 [rcells (M:Int) 4 40 (List.replicate 16 0) 0 false]):=by
  rw[← hH3,Heap.get_set,if_pos rfl]
 rw[hH3] at t4
 have hb3:=((t3.trans t4).same _ bo2 (fun h=>h)).trans hb2
 have bo3:=bo2.mono (t3.trans t4).next
 have hw3:=((((t1.trans t2).trans t3).trans t4).same _ wo1 (fun h=>h)).trans hw1
 have wo3:=wo1.mono (((t1.trans t2).trans t3).trans t4).next
 have hsec:∀ d:Int,0≤d∧d < (M:Int)→(4:Int)+2≤(disk.newB (sizes M)).sectors d:=fun d hd=>by
  obtain⟨d',rfl⟩:∃ d':Nat,d=(d':Int):=⟨d.toNat,by omega⟩
  unfold Bn.sectors
  rw[cC.tc (i:=d') (by omega),if_pos rfl,cd d' (by omega)]
  decide
 obtain⟨v4,G4,e4,h,rfl,hh4,hnew4,t5⟩:=uhnew hlf (K:=K) hb3 (cC.fit (by omega)) bo3 (id:=9) (ev:=(E:Int)) (m:=(M:Int)) (s:=4) (r:=40) (c:=0) (g:=false) (by simp) (by decide) (by omega) hz (by rw[clen];simp) hsec (n+5)
 have q4:QOk G→QOk G4:=fun q=>t5.q (t4.q (t3.q (t2.q (t1.q (t01.q (t0.q q))))))
 have hw4:=(t5.same _ wo3 (fun h=>h)).trans hw3
 have wo4:=wo3.mono t5.next
 unfold zros at hpr hH3
 unfold ros at e3 e4
 have hgw:width [V.int .i64 (M:Int),V.int .i64 4,V.int .i64 40]=3:=rfl
 have hgp:Go.Am.put [V.int .i64 0,V.int .i64 0,V.int .i64 0] 0 [V.int .i64 (M:Int),V.int .i64 4,V.int .i64 40]=some [V.int .i64 (M:Int),V.int .i64 4,V.int .i64 40]:=rfl
 have hc0:cut [V.int .i64 (M:Int),V.int .i64 4,V.int .i64 40] 0 1=some [V.int .i64 (M:Int)]:=rfl
 have hc1:cut [V.int .i64 (M:Int),V.int .i64 4,V.int .i64 40] 1 1=some [V.int .i64 4]:=rfl
 have hc3:cut [V.int .i64 (M:Int),V.int .i64 4,V.int .i64 40] 0 3=some [V.int .i64 (M:Int),V.int .i64 4,V.int .i64 40]:=rfl
 have hw2:=((t1.trans t2).same _ wo1 (fun h=>h)).trans hw1
 unfold geo at e0 e3
 refine ret_callU rfl rfl c3_eq ?_
 simp (maxDischargeDepth:=12) only[c3,e0,hgw,hgp,hH1,hw1,hc0,hc1,hc3,e1,e2,hH2,hw2,e3,hwr,hpr,hH3,hr3,hcr,w3,e4,hv,ldO_one,stO_one,sy,tup,↓reduceIte,zA,zG,zC,zD,zF,zE,zB,zH,reduceCtorEq]
 refine wp_ctx (F:=fun r=>seqC _ _ _ (blockC _ r)) (u18loop1 hlf (n:=n+7) (V2:=.int .u32 (E:Int)) hh4 cC hM6 (by omega) ha q4 hw4 wo4 _ ?_ ?_ ?_ ?_ ?_ ?_) ?_
 ·simp only[sy,tup,↓reduceIte,zA,zG,zC,zD,zF,zE,zB,zH,reduceCtorEq]
 ·simp only[sy,tup,↓reduceIte,zA,zG,zC,zD,zF,zE,zB,zH,reduceCtorEq]
 ·simp only[sy,tup,↓reduceIte,zA,zG,zC,zD,zF,zE,zB,zH,reduceCtorEq]
 ·simp only[sy,tup,↓reduceIte,zA,zG,zC,zD,zF,zE,zB,zH,reduceCtorEq]
 ·simp only[sy,tup,↓reduceIte,zA,zG,zC,zD,zF,zE,zB,zH,reduceCtorEq]
 ·simp only[sy,tup,↓reduceIte,zA,zG,zC,zD,zF,zE,zB,zH,reduceCtorEq]
 rintro x ⟨t,G5,d⟩ ⟨rfl,hd,p1,p2,p7,p8,p12,hh5,hw5,wo5,q5⟩
 dsimp only at hd p1 p2 p7 p8 p12 hh5 hw5 wo5 q5
 subst hd
 have F1:=failed cC a M (Nat.le_refl _)
 have hs1:∀ j t:Nat,j < M→t < 2→sect (failL (disk.newB (sizes M)) a M) j t=0:=fun j t hj ht=>by
  unfold sect
  rw[F1.S j (by omega),cd j hj]
  have:t=0∨t=1:=by omega
  rcases this with rfl | rfl<;>rfl
 have hR:=zeros_ready (E:=E) F1.calm hM6 (by omega) hE hs1
 obtain⟨v6,G6,e6,rfl,E',S',c',B',hsv,hh6,t6⟩:=usave hlf (K:=K) hh5 hR (by omega) (by omega) (n+1)
 have q6:QOk G→QOk G6:=fun q=>t6.q (q5 q)
 have nwb:=ne_of_get hw5 hh5.bench (by intro e;cases e)
 have nwh:=ne_of_get hh5.hull.own hw5 (by simp)
 have hw6:=(t6.same (.run G0.next) wo5 (by
  rintro(e | e)
  ·rw[e] at nwb;simp at nwb
  ·rw[e] at nwh;simp at nwh)).trans hw5
 have wo6:=Nat.lt_of_lt_of_le wo5 t6.next
 have hS16:=hsv.len
 have h01:∀ j,S'.getD j 0=0∨(S'.getD j 0=1∧j < M∧dead (failL (disk.newB (sizes M)) a M) j=true):=fun j=>by
  rcases hsv.st j with h | h
  ·refine .inl (h.trans ?_)
   rw[List.getD,List.getElem?_replicate]
   split<;>rfl
  ·exact .inr h
 have hc0':c'=0:=by
  rcases hsv.fine.2.2.2.2.2 with h | h
  ·exfalso
   have:cnt S' 2=0:=by
    unfold cnt
    rw[List.length_eq_zero_iff,List.filter_eq_nil_iff]
    intro x hx
    obtain⟨i,hi,rfl⟩:=List.getElem_of_mem hx
    have:=h01 i
    simp only[List.getD,List.getElem?_eq_getElem hi,Option.getD_some] at this
    simp;omega
   omega
  ·exact h
 subst hc0'
 have hmu:=mu_le (failL (disk.newB (sizes M)) a M) (List.replicate 16 0) M
 obtain⟨ev1,ev2⟩:=hsv.ev
 have hdd:∀ j,j < M→dead (failL (disk.newB (sizes M)) a M) j=aBit a j:=fun j hj=>by
  rw[F1.dd j hj]
  unfold dead
  rw[cd j hj,decide_eq_true hj]
  simp[disk.blank]
 have hst:∀ j,j < M→(aBit a j=true→S'.getD j 0=1)∧(aBit a j=false→S'.getD j 0≠1∧dead B' j=false∧hasX B' j (E' - 1) (supBlk E' 9 j M 4 40 S' 0 false)):=fun j hj=>by
  refine⟨fun hb=>?_,fun hb=>?_⟩
  ·apply Classical.byContradiction
   intro hn
   have:=(hsv.has j hj hn).1
   rw[hdd j hj,hb] at this
   cases this
  ·have hn:S'.getD j 0≠1:=fun e=>by
    rcases h01 j with h | h
    ·omega
    ·rw[hdd j hj,hb] at h;cases h.2.2
   exact⟨hn,by rw[hsv.dd j hj,hdd j hj,hb],(hsv.has j hj hn).2⟩
 have e7:=uhevent hlf hh6 (n+6) (K:=K)
 have lq1:(E'≤E)=False:=eq_false (by omega)
 have lq2:((E:Int)+(M:Int)+1 < (E':Int))=False:=eq_false (by omega)
 simp (maxDischargeDepth:=12) only[p1,p2,p7,p8,p12,e6,e7,w3,w4,w5,w6,lq1,lq2,hw6,hc0,hv,ldO_one,stO_one,sy,tup,↓reduceIte,zA,zG,zC,zD,zF,zE,zB,zH,reduceCtorEq]
 obtain⟨Q,hQ⟩:∃ Q:List (Option V × Option V),Q=[(loadF (.t (Tr.path 85)) 1 .sc (Tr.setP (Tr.path 85) (.ptr (some ⟨.run G0.next,0⟩)) .e) G6,some (.int .i64 (M:Int))),(loadF (.t (Tr.path 85)) 1 .sc (Tr.setP (Tr.path 85) (.ptr (some ⟨.run G0.next,0⟩)) .e) G6,some (.int .i64 (M:Int)))]:=⟨_,rfl⟩
 rw[endD_q (q:=Q) (by kernel_rfl) (by rw[hQ];kernel_rfl)]
 have hQ':∀ x ∈ Q,x.1=x.2:=by
  rw[hQ]
  intro x hx
  simp only[List.mem_cons,List.not_mem_nil,or_false] at hx
  rcases hx with rfl | rfl<;>simp (maxDischargeDepth:=12) only[hw6,hc0,hv,ldO_one,stO_one,sy,tup,↓reduceIte,zA,zG,zC,zD,zF,zE,zB,zH,reduceCtorEq]
 have t7:=(Turns.refl Z G6).owe hQ'
 have hh7:=hh6.turns t7
 have hw7:=(t7.same (.run G0.next) wo6 (fun h=>h)).trans hw6
 have wo7:=Nat.lt_of_lt_of_le wo6 t7.next
 have q7:QOk G→QOk _:=fun q=>t7.q (q6 q)
 simp (maxDischargeDepth:=12) only[hv,ldO_one,stO_one,sy,tup,↓reduceIte,zA,zG,zC,zD,zF,zE,zB,zH,reduceCtorEq]
 refine wp_ctx (F:=fun r=>seqC _ _ _ (blockC _ r)) (u18loop2 hlf (n:=n+6) hh7 (by omega) hM6 (let ⟨k,h1,h2⟩:=hsv.calm;⟨k,h1,h2⟩) hS16 hsv.fine ha q7 hst (by omega) hw7 wo7 _ ?_ ?_ ?_ ?_ ?_) ?_
 ·simp only[p1,sy,tup,↓reduceIte,zA,zG,zC,zD,zF,zE,zB,zH,reduceCtorEq]
 ·simp only[p7,sy,tup,↓reduceIte,zA,zG,zC,zD,zF,zE,zB,zH,reduceCtorEq]
 ·simp only[p8,sy,tup,↓reduceIte,zA,zG,zC,zD,zF,zE,zB,zH,reduceCtorEq]
 ·simp only[p12,sy,tup,↓reduceIte,zA,zG,zC,zD,zF,zE,zB,zH,reduceCtorEq]
 ·simp only[sy,tup,↓reduceIte,zA,zG,zC,zD,zF,zE,zB,zH,reduceCtorEq]
 rintro x ⟨t,G9,d⟩ ⟨rfl,hd,q9⟩
 dsimp only at hd q9
 subst hd
 have eV:=fun H:Heap=>ulives18 hlf (K:=K) H (n+7)
 simp (maxDischargeDepth:=12) only[eV,hv,ldO_one,stO_one,sy,tup,↓reduceIte,zA,zG,zC,zD,zF,zE,zB,zH,reduceCtorEq]
 exact⟨trivial,.inr trivial,_,rfl,rfl,q9⟩
end
end Go.Proofs.YtabebpemfinejaaGreat.draft
namespace Go.Proofs.YtabebpemfinejaaGreat.disk
open Go.Am
theorem wf_u8 {n:Int} (h:(Lit.int .u8 n).wf=true):∃ s:Nat,s < 256∧n=(s:Int):=by
 have h:(decide (IntKind.u8.min≤n)&&decide (n≤IntKind.u8.max))=true:=h
 simp only[Bool.and_eq_true,decide_eq_true_eq] at h
 have h1:(0:Int)≤n:=h.1
 have h2:n≤255:=h.2
 exact⟨n.toNat,by omega,(Int.toNat_of_nonneg h1).symm⟩
theorem u8_of {a:Nat→Option Am.Obj} {u:V} (h:FitsV a (.int .u8) u):∃ s:Nat,s < 256∧u=.int .u8 (s:Int):=by
 obtain⟨C,⟨n,hw,rfl⟩,hu⟩:=h
 cases hu
 obtain⟨s,hs,rfl⟩:=wf_u8 hw
 exact⟨s,hs,rfl⟩
end Go.Proofs.YtabebpemfinejaaGreat.disk
