import Derived.Test.YtllkepkaimnodaaGreatDoorG4
import Derived.Test.YtllkepkaimnodaaGreatDoorG2
import Derived.Test.YtllkepkaimnodaaGreatDoorG3
set_option linter.unusedVariables false
set_option linter.unusedSectionVars false
set_option linter.unusedSimpArgs false
set_option maxRecDepth 10000
open Nat renaming reduceEqDiff → zA, reduceLeDiff → zB, reduceSub → zC, reduceMul → zD, reduceMod → zE, reduceDiv → zF, reduceAdd → zG
open Int renaming reduceBEq → zH
namespace Go.Proofs.YtllkepkaimnodaaGreatDoor.draft
open Go.Am
noncomputable def c121_l0:C:=.seq (.seq (.reg [
 mv 54 17,
 mv 55 6,
 qo 56 (.p (lenF (tt 55))) [pp 55],
 qo 57 (.p (arF .lss (tt 54) (tt 56))) [pp 54,pp 56]]) (
 .cond (tt 57) (.skip) (.exit 0))) (
 .seq (.block 1 (.seq (.reg [
 mv 60 6,
 mv 61 17,
 qo 62 (.p (iaddrSF (tt 60) (tt 61) 1)) [pp 60,pp 61],
 qo 63 (.r (loadF (tt 62) 1 .sc)) [pp 62],
 qo 64 (.p (eqcF true false [.int .u8] (tt 63) (.c (.int .u8 0)))) [pp 63]]) (
 .cond (tt 64) (.seq (.reg [
 qo 65 (.p (buildF [.int .u64 0,.int .i64 0,.int .u64 0,.int .u64 0] .ag [])) [],
 qo 2 (.p (S.get (.c (.int .u64 0)))) [],
 qn (.a (storeF (tt 3) (tt 65) 4)) [pp 3,pp 65],
 qo 4 (.p (S.get (ii 5))) []]) (
 .ret)) (.skip)))) (
 .reg [
 mv 58 17,
 qo 59 (.p (arF .add (tt 58) (ii 1))) [pp 58],
 mv 17 59]))
noncomputable def c121:CFn:=⟨[.tmp (pp 2),.cell (pp 3) 4 .ag,.tmp (pp 4)],
 .seq (.reg [
 qo 1 (.m (boxF 64 (tt 0))) [pp 0],
 qo 2 (.p (S.get (.c (.int .u64 0)))) [],
 qo 3 (.m (allocF 4 [.int .u64 0,.int .i64 0,.int .u64 0,.int .u64 0])) [],
 qo 4 (.p (S.get (ii 0))) []]) (
 .seq (.reg [
 qo 19 (.r (loadF (tt 1) 64 .bk)) [pp 1],
 qo 20 (.c (callF (ff 122) [(tt 19)])) [pp 19],
 mv 18 20,
 qo 21 (.p (extF (tt 18) 0)) [pp 18],
 qo 22 (.p (extF (tt 18) 1)) [pp 18],
 qo 23 (.p (extF (tt 18) 2)) [pp 18],
 mv 5 21,
 mv 6 22,
 mv 7 23]) (
 .seq (.seq (.reg [
 mv 24 7,
 qo 25 (.p (eqcF true false [.int .i64] (tt 24) (ii 0))) [pp 24]]) (
 .cond (tt 25) (.seq (.reg [
 qo 26 (.p (buildF [.int .u64 0,.int .i64 0,.int .u64 0,.int .u64 0] .ag [])) [],
 mv 27 7,
 qo 2 (.p (S.get (.c (.int .u64 0)))) [],
 qn (.a (storeF (tt 3) (tt 26) 4)) [pp 3,pp 26],
 mv 4 27]) (
 .ret)) (.skip))) (
 .seq (.reg [
 mv 29 6,
 qo 30 (.c (callF (ff 123) [(tt 29),(ii 0),(ii 8)])) [pp 29],
 mv 28 30,
 qo 31 (.p (extF (tt 28) 0)) [pp 28],
 qo 32 (.p (extF (tt 28) 1)) [pp 28],
 mv 8 31,
 mv 9 32]) (
 .seq (.reg [
 mv 34 6,
 qo 35 (.c (callF (ff 123) [(tt 34),(ii 8),(ii 2)])) [pp 34],
 mv 33 35,
 qo 36 (.p (extF (tt 33) 0)) [pp 33],
 qo 37 (.p (extF (tt 33) 1)) [pp 33],
 mv 10 36,
 mv 11 37]) (
 .seq (.reg [
 mv 39 6,
 qo 40 (.c (callF (ff 123) [(tt 39),(ii 10),(ii 8)])) [pp 39],
 mv 38 40,
 qo 41 (.p (extF (tt 38) 0)) [pp 38],
 qo 42 (.p (extF (tt 38) 1)) [pp 38],
 mv 12 41,
 mv 13 42]) (
 .seq (.reg [
 mv 44 6,
 qo 45 (.c (callF (ff 123) [(tt 44),(ii 18),(ii 8)])) [pp 44],
 mv 43 45,
 qo 46 (.p (extF (tt 43) 0)) [pp 43],
 qo 47 (.p (extF (tt 43) 1)) [pp 43],
 mv 14 46,
 mv 15 47]) (
 .seq (.reg [
 mv 48 8,
 mv 49 10,
 qo 50 (.p (convF .i64 (tt 49))) [pp 49],
 mv 51 12,
 mv 52 14,
 qo 53 (.p (buildF [.int .u64 0,.int .i64 0,.int .u64 0,.int .u64 0] .ag [(0,1,(tt 48)),(1,1,(tt 50)),(2,1,(tt 51)),(3,1,(tt 52))])) [pp 48,pp 50,pp 51,pp 52],
 qo 16 (.m (allocF 4 [.int .u64 0,.int .i64 0,.int .u64 0,.int .u64 0])) [],
 qn (.a (storeF (tt 16) (tt 53) 4)) [pp 16,pp 53]]) (
 .seq (.seq (.reg [
 qo 17 (.p (S.get (ii 26))) []]) (
 .block 0 (.loop c121_l0))) (
 .seq (.seq (.reg [
 mv 66 5,
 qo 67 (.p (arF .gtr (tt 66) (.c (.int .u64 4611686018427387904)))) [pp 66],
 mv 68 67,
 qg 69 (.r (loadF (tt 16) 4 .ag)) 68 false [pp 16],
 qg 70 (.c (callF (ff 106) [(tt 69)])) 68 false [pp 69],
 qg 71 (.p (unF .not (tt 70))) 68 false [pp 70],
 qo 72 (.p (pickF (tt 68) (.c (.bool true)) (tt 71))) [pp 68,pp 71]]) (
 .cond (tt 72) (.seq (.reg [
 qo 73 (.p (buildF [.int .u64 0,.int .i64 0,.int .u64 0,.int .u64 0] .ag [])) [],
 qo 2 (.p (S.get (.c (.int .u64 0)))) [],
 qn (.a (storeF (tt 3) (tt 73) 4)) [pp 3,pp 73],
 qo 4 (.p (S.get (ii 5))) []]) (
 .ret)) (.skip))) (
 .seq (.regD [
 mv 74 5,
 qo 75 (.r (loadF (tt 16) 4 .ag)) [pp 16],
 mv 2 74,
 qn (.a (storeF (tt 3) (tt 75) 4)) [pp 3,pp 75],
 qo 4 (.p (S.get (ii 0))) []] [0,0,1,7,15]) (
 .ret)))))))))))⟩
theorem c121_eq:fnOf Tryz.prog 121=some c121:=by kernel_rfl
noncomputable def c106:CFn:=⟨[.tmp (pp 2)],
 .seq (.reg [
 qo 1 (.m (boxF 4 (tt 0))) [pp 0],
 qo 2 (.p (S.get (.c (.bool false)))) []]) (
 .seq (.reg [
 qo 3 (.p (faddrF (tt 1) 0)) [pp 1],
 qo 4 (.r (loadF (tt 3) 1 .sc)) [pp 3],
 qo 5 (.p (eqcF true false [.int .u64] (tt 4) (.c (.int .u64 0)))) [pp 4],
 mv 6 5,
 qg 7 (.p (faddrF (tt 1) 1)) 6 true [pp 1],
 qg 8 (.r (loadF (tt 7) 1 .sc)) 6 true [pp 7],
 qg 9 (.p (arF .geq (tt 8) (ii 40))) 6 true [pp 8],
 qo 10 (.p (pickF (tt 6) (tt 9) (.c (.bool false)))) [pp 6,pp 9],
 mv 11 10,
 qg 12 (.p (faddrF (tt 1) 1)) 11 true [pp 1],
 qg 13 (.r (loadF (tt 12) 1 .sc)) 11 true [pp 12],
 qg 14 (.p (arF .leq (tt 13) (ii 256))) 11 true [pp 13],
 qo 15 (.p (pickF (tt 11) (tt 14) (.c (.bool false)))) [pp 11,pp 14],
 mv 16 15,
 qg 17 (.p (faddrF (tt 1) 2)) 16 true [pp 1],
 qg 18 (.r (loadF (tt 17) 1 .sc)) 16 true [pp 17],
 qg 19 (.p (arF .geq (tt 18) (.c (.int .u64 1)))) 16 true [pp 18],
 qo 20 (.p (pickF (tt 16) (tt 19) (.c (.bool false)))) [pp 16,pp 19],
 mv 21 20,
 qg 22 (.p (faddrF (tt 1) 2)) 21 true [pp 1],
 qg 23 (.r (loadF (tt 22) 1 .sc)) 21 true [pp 22],
 qg 24 (.p (arF .leq (tt 23) (.c (.int .u64 4611686018427387904)))) 21 true [pp 23],
 qo 25 (.p (pickF (tt 21) (tt 24) (.c (.bool false)))) [pp 21,pp 24],
 mv 26 25,
 qg 27 (.p (faddrF (tt 1) 3)) 26 true [pp 1],
 qg 28 (.r (loadF (tt 27) 1 .sc)) 26 true [pp 27],
 qg 29 (.p (arF .leq (tt 28) (.c (.int .u64 4611686018427387904)))) 26 true [pp 28],
 qo 30 (.p (pickF (tt 26) (tt 29) (.c (.bool false)))) [pp 26,pp 29],
 mv 2 30]) (
 .ret))⟩
theorem c106_eq:fnOf Tryz.prog 106=some c106:=by kernel_rfl
abbrev mkW (id:Nat) (R:Int) (first pos:Nat):List V:=[.int .u64 (id:Int),.int .i64 R,.int .u64 (first:Int),.int .u64 (pos:Int)]
abbrev mk0:List V:=[.int .u64 0,.int .i64 0,.int .u64 0,.int .u64 0]
def dmMay (id:Nat) (R:Int) (first pos:Nat):Bool:=decide (id≠0∧40≤R∧R≤256∧1≤first∧first≤4611686018427387904∧pos≤4611686018427387904)
theorem dmMay_mk (M:Mk):dmMay M.id M.R M.first M.pos=mkMay M:=by
 unfold dmMay mkMay
 apply decide_eq_decide.2
 omega
theorem markOk_eq (B:Nat):markOk B=(decide (sealE B=0)&&(zt B 34 18&&(decide (sealN B≤4611686018427387904)&&mkMay (mkG B)))):=by
 unfold markOk
 rw[Bool.eq_iff_iff]
 simp only[Bool.and_eq_true,decide_eq_true_iff,zt_iff]
 constructor
 ·exact fun⟨⟨⟨a,b⟩,c⟩,d⟩=>⟨a,d,b,c⟩
 ·exact fun⟨a,d,b,c⟩=>⟨⟨⟨a,b⟩,c⟩,d⟩
noncomputable def dmG (B:Nat):V:=if markOk B=true then .tuple [.int .u64 (sealN B:Int),.agg (mkG B).V,.int .i64 0] else .tuple [.int .u64 0,.agg mk0,.int .i64 (if sealE B=0 then 5 else sealE B)]
section
variable {lf:Nat} (hlf:1000 < lf)
include hlf
theorem dmmay (H:Heap) (id:Nat) (R:Int) (first pos n:Nat):ret (callS Tryz.prog S0 lf (n+1) 106 [.agg (mkW id R first pos)] H) fun w H'=>w=.bool (dmMay id R first pos)∧Turns Z H H':=by
 have hw:width (mkW id R first pos)=4:=rfl
 have k0:cut (mkW id R first pos) 0 1=some [.int .u64 (id:Int)]:=rfl
 have k1:cut (mkW id R first pos) 1 1=some [.int .i64 R]:=rfl
 have k2:cut (mkW id R first pos) 2 1=some [.int .u64 (first:Int)]:=rfl
 have k3:cut (mkW id R first pos) 3 1=some [.int .u64 (pos:Int)]:=rfl
 refine ret_call rfl c106_eq ?_
 unfold dmMay
 by_cases h0:id=0<;>by_cases h1:40≤R<;>by_cases h2:R≤256<;>by_cases h3:1≤first<;>by_cases h4:first≤4611686018427387904<;>by_cases h5:pos≤4611686018427387904
 all_goals
  try (exfalso;omega)
 all_goals
  simp (maxDischargeDepth:=12) (disch:=omega) only[c106,hw,k0,k1,k2,k3,om,hv,ldO_one,stO_one,sy,tup,↓reduceIte,zA,zG,zC,zD,zF,zE,zB,zH,reduceCtorEq]
  exact⟨trivial,.inr trivial,_,rfl,rfl,Turns.add Z H _⟩
theorem dmget_tail {G:Heap} {k q B:Nat} (hk:BodyAt G k (fun i=>byte B (8+i)) 44) (hq:G.get (.run q)=some (.rows false 4 [mk0])) {v5 v16:V} (n:Nat):∀ t:T,t.getP (Tr.path 3)=some (.ptr (some ⟨.run q,0⟩))→t.getP (Tr.path 5)=some v5→t.getP (Tr.path 6)=some (.slice (some ⟨.run k,0⟩) 44 44 1)→t.getP (Tr.path 16)=some v16→t.getP (Tr.path 17)=some (.int .i64 26) →
  wp (loopF (runC (callS Tryz.prog S0 lf n) lf c121_l0) lf ⟨t,G,[]⟩) fun x s=>s.d=[]∧s.t.getP (Tr.path 3)=some (.ptr (some ⟨.run q,0⟩))∧((x=.ex 0∧s.H=G∧s.t.getP (Tr.path 5)=some v5∧s.t.getP (Tr.path 16)=some v16∧zt B 34 18=true)∨(x=.ret∧s.H=G.set (.run q) (.rows false 4 [mk0])∧s.t.getP (Tr.path 2)=some (.int .u64 0)∧s.t.getP (Tr.path 4)=some (.int .i64 5)∧zt B 34 18=false)):=by
 intro t q3 q5 q6 q16 q17
 refine wp_loopF (fun m s=>∃ i:Nat,m=18 - i∧i≤18∧s.d=[]∧s.H=G∧s.t.getP (Tr.path 3)=some (.ptr (some ⟨.run q,0⟩))∧s.t.getP (Tr.path 5)=some v5∧s.t.getP (Tr.path 6)=some (.slice (some ⟨.run k,0⟩) 44 44 1)∧s.t.getP (Tr.path 16)=some v16∧s.t.getP (Tr.path 17)=some (.int .i64 ((26+i:Nat):Int))∧∀ j,j < i→byte B (34+j)=0) ?_ lf 18 _ ⟨0,rfl,by omega,rfl,rfl,q3,q5,q6,q16,q17,fun j h=>by omega⟩ (by omega)
 rintro m ⟨t,HH,d⟩ ⟨i,rfl,hi,hd,hH,q3,q5,q6,q16,q17,hz⟩
 dsimp only at hd hH q3 q5 q6 q16 q17
 subst hd;subst hH
 obtain⟨a,ha⟩:∃ a,a=26+i:=⟨_,rfl⟩
 rw[← ha] at q17
 by_cases hlt:a < 44
 ·have lk:=hk.load (i:=a) hlt
  rw[ld_get,show 8+a=34+i by omega] at lk
  obtain⟨b,hb⟩:∃ b,b=byte B (34+i):=⟨_,rfl⟩
  rw[← hb] at lk
  by_cases h0:b=0
  ·simp (maxDischargeDepth:=12) (disch:=omega) only[c121_l0,q3,q6,q17,lk,Nat.mul_one,om,hv,ldO_one,stO_one,sy,tup,↓reduceIte,zA,zG,zC,zD,zF,zE,zB,zH,reduceCtorEq]
   refine⟨18 - (i+1),by omega,i+1,rfl,by omega,trivial,trivial,by simp[q3],by simp[q5],by simp[q6],by simp[q16],by simp[ha];omega,fun j hj=>?_⟩
   by_cases e:j=i
   ·rw[e,← hb,h0]
   ·exact hz j (by omega)
  ·have w4:width mk0=4:=rfl
   have p4:put mk0 0 mk0=some mk0:=rfl
   simp (maxDischargeDepth:=12) (disch:=omega) only[c121_l0,q3,q6,q17,lk,hq,w4,p4,Nat.mul_one,om,hv,ldO_one,stO_one,sy,tup,↓reduceIte,zA,zG,zC,zD,zF,zE,zB,zH,reduceCtorEq]
   exact⟨trivial,by simp[q3],.inr ⟨trivial,trivial,by simp,trivial,Bool.eq_false_iff.2 fun h=>h0 (by rw[hb];exact zt_iff.1 h i (by omega))⟩⟩
 ·simp (maxDischargeDepth:=12) (disch:=omega) only[c121_l0,q6,q17,om,hv,ldO_one,stO_one,sy,tup,↓reduceIte,zA,zG,zC,zD,zF,zE,zB,zH,reduceCtorEq]
  exact⟨trivial,by simp[q3],.inl ⟨trivial,trivial,by simp[q5],by simp[q16],zt_iff.2 fun j hj=>hz j (by omega)⟩⟩
theorem dmget (H:Heap) (B:Nat) (n:Nat):ret (callS Tryz.prog S0 lf (n+6) 121 [.blk B] H) fun w H'=>w=dmG B∧Turns Z H H':=by
 have t1:Turns Z H ((H.add (.rows false 64 [[.blk B]])).add (.rows false 4 [mk0])):=by repeat (first | exact Turns.refl _ _ | apply Turns.skip | apply Turns.addm | apply Turns.setb | apply Turns.setl | apply Turns.setr | refine Turns.setn ?_ _ (by omega) _ | refine Turns.trans ?_ (tF _))
 have hb:((H.add (.rows false 64 [[.blk B]])).add (.rows false 4 [mk0])).get (.run H.next)=some (.rows false 64 [[.blk B]]):=by rw[Heap.get_add,if_neg (run_ne (by simp)),Heap.get_add,if_pos rfl]
 have hq:((H.add (.rows false 64 [[.blk B]])).add (.rows false 4 [mk0])).get (.run (H.next+1))=some (.rows false 4 [mk0]):=by rw[Heap.get_add,if_pos (by simp)]
 obtain⟨H1,hH1⟩:∃ X,(H.add (.rows false 64 [[.blk B]])).add (.rows false 4 [mk0])=X:=⟨_,rfl⟩
 have n1:H1.next=H.next+1+1:=by rw[← hH1];rfl
 rw[hH1] at t1 hb hq
 obtain⟨v2,H2,e2,t2,h2⟩:=rget7_ok H1 B (lf:=lf) (by omega) n
 have n2:=t2.next
 have hq2:=(t2.same (.run (H.next+1)) (by show _ < _;omega) id).trans hq
 have w4:width mk0=4:=rfl
 have p4:put mk0 0 mk0=some mk0:=rfl
 have c4:cut mk0 0 4=some mk0:=rfl
 have t12:=t1.trans t2
 refine ret_call rfl c121_eq ?_
 unfold dmG
 rw[markOk_eq]
 rcases h2 with ⟨hs,rfl⟩ | ⟨hs,k,rfl,hk,hkn⟩
 ·rw[decide_eq_false hs,Bool.false_and,if_neg (by decide),if_neg hs]
  generalize sealE B=e at e2 hs
  simp (maxDischargeDepth:=12) (disch:=omega) only[c121,hH1,hb,Dh,e2,hq2,w4,p4,c4,om,hv,ldO_one,stO_one,sy,tup,↓reduceIte,zA,zG,zC,zD,zF,zE,zB,zH,reduceCtorEq]
  exact⟨trivial,.inr trivial,_,rfl,rfl,t12.setn _ (by omega) _⟩
 rw[decide_eq_true hs,Bool.true_and,if_pos hs]
 have eg:∀ a s:Nat,1≤s∧s≤8→a+s≤44→callS Tryz.prog S0 lf (n+5) 123 [.slice (some ⟨.run k,0⟩) 44 44 1,.int .i64 (a:Int),.int .i64 (s:Int)] H2=some (.v (.tuple [.int .u64 ((bd B a s:Nat):Int),.int .i64 0]),H2):=fun a s h1 h2=>rnum_ok (p:=⟨.run k,0⟩) (a:=a) (sz:=s) (c:=fun i=>byte B (8+(a+i))) h1 (by omega) (by omega) (fun _ _=>byte_lt _ _) (fun i hi=>by simpa using hk.load (i:=a+i) (by omega)) lf (n+4) (by omega)
 have e3:callS Tryz.prog S0 lf (n+5) 123 [_,.int .i64 0,.int .i64 8] H2=_:=eg 0 8 (by omega) (by omega)
 have e4:callS Tryz.prog S0 lf (n+5) 123 [_,.int .i64 8,.int .i64 2] H2=_:=eg 8 2 (by omega) (by omega)
 have e5:callS Tryz.prog S0 lf (n+5) 123 [_,.int .i64 10,.int .i64 8] H2=_:=eg 10 8 (by omega) (by omega)
 have e6:callS Tryz.prog S0 lf (n+5) 123 [_,.int .i64 18,.int .i64 8] H2=_:=eg 18 8 (by omega) (by omega)
 have l8:bd B 8 2 < 65536:=bd_lt B 8
 have hnt:(mkG B).V=mkW (bd B 0 8) (bd B 8 2) (bd B 10 8) (bd B 18 8):=rfl
 have hm:=dmMay_mk (mkG B)
 change dmMay (bd B 0 8) (bd B 8 2) (bd B 10 8) (bd B 18 8)=_ at hm
 rw[hnt,← hm]
 generalize bd B 0 8=x0 at *
 generalize bd B 8 2=x1 at *
 generalize bd B 10 8=x2 at *
 generalize bd B 18 8=x3 at *
 generalize sealN B=sq at *
 have wW:width (mkW x0 x1 x2 x3)=4:=rfl
 have pW:put mk0 0 (mkW x0 x1 x2 x3)=some (mkW x0 x1 x2 x3):=rfl
 have cW:cut (mkW x0 x1 x2 x3) 0 4=some (mkW x0 x1 x2 x3):=rfl
 have t3:Turns Z H2 ((H2.add (.rows false 4 [mk0])).set (.run H2.next) (.rows false 4 [mkW x0 x1 x2 x3])):=by repeat (first | exact Turns.refl _ _ | apply Turns.skip | apply Turns.addm | apply Turns.setb | apply Turns.setl | apply Turns.setr | refine Turns.setn ?_ _ (by omega) _ | refine Turns.trans ?_ (tF _))
 have h3:((H2.add (.rows false 4 [mk0])).set (.run H2.next) (.rows false 4 [mkW x0 x1 x2 x3])).get (.run H2.next)=some (.rows false 4 [mkW x0 x1 x2 x3]):=by rw[Heap.get_set,if_pos rfl]
 obtain⟨H3,hH3⟩:∃ X,(H2.add (.rows false 4 [mk0])).set (.run H2.next) (.rows false 4 [mkW x0 x1 x2 x3])=X:=⟨_,rfl⟩
 have n3:H3.next=H2.next+1:=by rw[← hH3];rfl
 rw[hH3] at t3 h3
 have hq3:=(t3.same (.run (H.next+1)) (by show _ < _;omega) id).trans hq2
 have t13:=t12.trans t3
 have hloop:=dmget_tail hlf (B:=B) (hk.turns t3) hq3 (v5:=.int .u64 (sq:Int)) (v16:=.ptr (some ⟨.run H2.next,0⟩)) (n+5)
 simp (maxDischargeDepth:=12) (disch:=omega) only[c121,hH1,hb,Dh,e2,e3,e4,e5,e6,wW,pW,hH3,om,hv,ldO_one,stO_one,sy,tup,↓reduceIte,zA,zG,zC,zD,zF,zE,zB,zH,reduceCtorEq]
 refine wp_ctx (F:=fun r=>seqC _ _ _ (blockC _ r)) (hloop _ ?_ ?_ ?_ ?_ ?_) ?_
 ·simp only[sy,tup,↓reduceIte,zA,zG,zC,zD,zF,zE,zB,zH,reduceCtorEq]
 ·simp only[sy,tup,↓reduceIte,zA,zG,zC,zD,zF,zE,zB,zH,reduceCtorEq]
 ·simp only[sy,tup,↓reduceIte,zA,zG,zC,zD,zF,zE,zB,zH,reduceCtorEq]
 ·simp only[sy,tup,↓reduceIte,zA,zG,zC,zD,zF,zE,zB,zH,reduceCtorEq]
 ·simp only[sy,tup,↓reduceIte,zA,zG,zC,zD,zF,zE,zB,zH,reduceCtorEq]
 rintro x ⟨t,H4,d⟩ ⟨hd,q3,h⟩
 dsimp only at hd q3 h
 subst hd
 rcases h with ⟨rfl,rfl,q5,q16,hz⟩ | ⟨rfl,rfl,q2,q4,hz⟩
 rotate_left
 ·rw[hz,Bool.false_and,if_neg (by decide)]
  simp (maxDischargeDepth:=12) (disch:=omega) only[q2,q3,q4,c4,om,hv,ldO_one,stO_one,sy,tup,↓reduceIte,zA,zG,zC,zD,zF,zE,zB,zH,reduceCtorEq]
  exact⟨trivial,.inr trivial,_,rfl,rfl,t13.setn _ (by omega) _⟩
 rw[hz,Bool.true_and]
 by_cases hsq:4611686018427387904 < sq
 ·rw[decide_eq_false (by omega),Bool.false_and,if_neg (by decide)]
  simp (maxDischargeDepth:=12) (disch:=omega) only[q3,q5,hq3,w4,p4,c4,om,hv,ldO_one,stO_one,sy,tup,↓reduceIte,zA,zG,zC,zD,zF,zE,zB,zH,reduceCtorEq]
  exact⟨trivial,.inr trivial,_,rfl,rfl,t13.setn _ (by omega) _⟩
 rw[decide_eq_true (by omega),Bool.true_and]
 obtain⟨v5,H5,e5,rfl,t5⟩:=dmmay hlf H4 x0 x1 x2 x3 (n+4)
 have hq5:=(t5.same (.run (H.next+1)) (by show _ < _;omega) id).trans hq3
 have h5:=(t5.same (.run H2.next) (by show _ < _;omega) id).trans h3
 cases hmm:dmMay x0 x1 x2 x3
 ·rw[hmm] at e5
  rw[if_neg (by decide)]
  simp (maxDischargeDepth:=12) (disch:=omega) only[q3,q5,q16,h3,cW,e5,hq5,w4,p4,c4,om,hv,ldO_one,stO_one,sy,tup,↓reduceIte,zA,zG,zC,zD,zF,zE,zB,zH,reduceCtorEq]
  exact⟨trivial,.inr trivial,_,rfl,rfl,(t13.trans t5).setn _ (by omega) _⟩
 ·rw[hmm] at e5
  rw[if_pos rfl]
  simp (maxDischargeDepth:=12) (disch:=omega) only[q3,q5,q16,h3,cW,e5,h5,hq5,wW,pW,om,hv,ldO_one,stO_one,sy,tup,↓reduceIte,zA,zG,zC,zD,zF,zE,zB,zH,reduceCtorEq]
  rw[endD_ok (by kernel_rfl) (by kernel_rfl)]
  simp (maxDischargeDepth:=12) (disch:=omega) only[q3,cW,om,hv,ldO_one,stO_one,sy,tup,↓reduceIte,zA,zG,zC,zD,zF,zE,zB,zH,reduceCtorEq]
  exact⟨trivial,.inr trivial,_,rfl,rfl,(t13.trans t5).setn _ (by omega) _⟩
end
end Go.Proofs.YtllkepkaimnodaaGreatDoor.draft
namespace Go.Proofs.YtllkepkaimnodaaGreatDoor.draft
open Go.Am
noncomputable def c28:CFn:=⟨[.cell (pp 4) 64 .bk,.tmp (pp 5)],
 .seq (.reg [
 qo 3 (.m (boxF 4 (tt 1))) [pp 1],
 qo 4 (.m (allocF 64 [.blk 0])) [],
 qo 5 (.p (S.get (ii 0))) []]) (
 .seq (.seq (.reg [
 mv 6 0,
 qo 7 (.p (arF .lss (tt 6) (.c (.int .u64 1)))) [pp 6],
 mv 8 7,
 mg 9 0 8 false,
 qg 10 (.p (arF .gtr (tt 9) (.c (.int .u64 4611686018427387904)))) 8 false [pp 9],
 qo 11 (.p (pickF (tt 8) (.c (.bool true)) (tt 10))) [pp 8,pp 10],
 mv 12 11,
 qg 13 (.r (loadF (tt 3) 4 .ag)) 12 false [pp 3],
 qg 14 (.c (callF (ff 106) [(tt 13)])) 12 false [pp 13],
 qg 15 (.p (unF .not (tt 14))) 12 false [pp 14],
 qo 16 (.p (pickF (tt 12) (.c (.bool true)) (tt 15))) [pp 12,pp 15]]) (
 .cond (tt 16) (.seq (.reg [
 qo 17 (.p (buildF [.blk 0] .bk [])) [],
 qn (.a (storeF (tt 4) (tt 17) 64)) [pp 4,pp 17],
 qo 5 (.p (S.get (ii 2))) []]) (
 .ret)) (.skip))) (
 .seq (.reg [
 mv 18 0,
 qo 19 (.r (loadF (tt 3) 4 .ag)) [pp 3],
 qo 20 (.c (callF (ff 108) [(tt 19)])) [pp 19],
 qo 21 (.c (callF (ff 107) [(tt 18),(tt 20)])) [pp 18,pp 20],
 qo 22 (.p (extF (tt 21) 0)) [pp 21],
 qo 23 (.p (extF (tt 21) 1)) [pp 21],
 qn (.a (storeF (tt 4) (tt 22) 64)) [pp 4,pp 22],
 mv 5 23]) (
 .ret)))⟩
theorem c28_eq:fnOf Tryz.prog 28=some c28:=by kernel_rfl
noncomputable def c108:CFn:=⟨[.tmp (pp 2)],
 .seq (.reg [
 qo 1 (.m (boxF 4 (tt 0))) [pp 0],
 qo 2 (.p (S.get (.c (.slice none 0 0 0)))) []]) (
 .seq (.reg [
 qo 12 (.p (faddrF (tt 1) 0)) [pp 1],
 qo 13 (.r (loadF (tt 12) 1 .sc)) [pp 12],
 qo 14 (.c (callF (ff 110) [(tt 13),(ii 8)])) [pp 13],
 mv 11 14,
 qo 15 (.p (extF (tt 11) 0)) [pp 11],
 qo 16 (.p (extF (tt 11) 1)) [pp 11],
 mv 3 15,
 mv 4 16]) (
 .seq (.reg [
 qo 18 (.p (faddrF (tt 1) 1)) [pp 1],
 qo 19 (.r (loadF (tt 18) 1 .sc)) [pp 18],
 qo 20 (.p (convF .u64 (tt 19))) [pp 19],
 qo 21 (.c (callF (ff 110) [(tt 20),(ii 2)])) [pp 20],
 mv 17 21,
 qo 22 (.p (extF (tt 17) 0)) [pp 17],
 qo 23 (.p (extF (tt 17) 1)) [pp 17],
 mv 5 22,
 mv 6 23]) (
 .seq (.reg [
 qo 25 (.p (faddrF (tt 1) 2)) [pp 1],
 qo 26 (.r (loadF (tt 25) 1 .sc)) [pp 25],
 qo 27 (.c (callF (ff 110) [(tt 26),(ii 8)])) [pp 26],
 mv 24 27,
 qo 28 (.p (extF (tt 24) 0)) [pp 24],
 qo 29 (.p (extF (tt 24) 1)) [pp 24],
 mv 7 28,
 mv 8 29]) (
 .seq (.reg [
 qo 31 (.p (faddrF (tt 1) 3)) [pp 1],
 qo 32 (.r (loadF (tt 31) 1 .sc)) [pp 31],
 qo 33 (.c (callF (ff 110) [(tt 32),(ii 8)])) [pp 32],
 mv 30 33,
 qo 34 (.p (extF (tt 30) 0)) [pp 30],
 qo 35 (.p (extF (tt 30) 1)) [pp 30],
 mv 9 34,
 mv 10 35]) (
 .seq (.reg [
 mv 36 3,
 mv 37 5,
 qo 38 (.a (appF 1 1 (tt 36) (tt 37))) [pp 36,pp 37],
 mv 3 38]) (
 .seq (.reg [
 mv 39 3,
 mv 40 7,
 qo 41 (.a (appF 1 1 (tt 39) (tt 40))) [pp 39,pp 40],
 mv 3 41]) (
 .seq (.reg [
 mv 42 3,
 mv 43 9,
 qo 44 (.a (appF 1 1 (tt 42) (tt 43))) [pp 42,pp 43],
 mv 2 44]) (
 .ret))))))))⟩
theorem c108_eq:fnOf Tryz.prog 108=some c108:=by kernel_rfl
noncomputable def c29:CFn:=⟨[.cell (pp 2) 64 .bk,.tmp (pp 3)],
 .seq (.reg [
 qo 1 (.m (boxF 4 (tt 0))) [pp 0],
 qo 2 (.m (allocF 64 [.blk 0])) [],
 qo 3 (.p (S.get (ii 0))) []]) (
 .seq (.seq (.reg [
 qo 10 (.r (loadF (tt 1) 4 .ag)) [pp 1],
 qo 11 (.c (callF (ff 109) [(tt 10)])) [pp 10],
 qo 12 (.p (unF .not (tt 11))) [pp 11]]) (
 .cond (tt 12) (.seq (.reg [
 qo 13 (.p (buildF [.blk 0] .bk [])) [],
 qn (.a (storeF (tt 2) (tt 13) 64)) [pp 2,pp 13],
 qo 3 (.p (S.get (ii 2))) []]) (
 .ret)) (.skip))) (
 .seq (.reg [
 qo 15 (.p (faddrF (tt 1) 1)) [pp 1],
 qo 16 (.r (loadF (tt 15) 1 .sc)) [pp 15],
 qo 17 (.c (callF (ff 110) [(tt 16),(ii 8)])) [pp 16],
 mv 14 17,
 qo 18 (.p (extF (tt 14) 0)) [pp 14],
 qo 19 (.p (extF (tt 14) 1)) [pp 14],
 mv 4 18,
 mv 5 19]) (
 .seq (.reg [
 qo 21 (.p (faddrF (tt 1) 2)) [pp 1],
 qo 22 (.r (loadF (tt 21) 1 .sc)) [pp 21],
 qo 23 (.p (convF .u64 (tt 22))) [pp 22],
 qo 24 (.c (callF (ff 110) [(tt 23),(ii 2)])) [pp 23],
 mv 20 24,
 qo 25 (.p (extF (tt 20) 0)) [pp 20],
 qo 26 (.p (extF (tt 20) 1)) [pp 20],
 mv 6 25,
 mv 7 26]) (
 .seq (.reg [
 qo 28 (.p (faddrF (tt 1) 3)) [pp 1],
 qo 29 (.r (loadF (tt 28) 1 .sc)) [pp 28],
 qo 30 (.p (convF .u64 (tt 29))) [pp 29],
 qo 31 (.c (callF (ff 110) [(tt 30),(ii 4)])) [pp 30],
 mv 27 31,
 qo 32 (.p (extF (tt 27) 0)) [pp 27],
 qo 33 (.p (extF (tt 27) 1)) [pp 27],
 mv 8 32,
 mv 9 33]) (
 .seq (.reg [
 mv 34 4,
 mv 35 6,
 qo 36 (.a (appF 1 1 (tt 34) (tt 35))) [pp 34,pp 35],
 mv 4 36]) (
 .seq (.reg [
 mv 37 4,
 mv 38 8,
 qo 39 (.a (appF 1 1 (tt 37) (tt 38))) [pp 37,pp 38],
 mv 4 39]) (
 .seq (.reg [
 qo 40 (.p (faddrF (tt 1) 0)) [pp 1],
 qo 41 (.r (loadF (tt 40) 1 .sc)) [pp 40],
 mv 42 4,
 qo 43 (.c (callF (ff 107) [(tt 41),(tt 42)])) [pp 41,pp 42],
 qo 44 (.p (extF (tt 43) 0)) [pp 43],
 qo 45 (.p (extF (tt 43) 1)) [pp 43],
 qn (.a (storeF (tt 2) (tt 44) 64)) [pp 2,pp 44],
 mv 3 45]) (
 .ret))))))))⟩
theorem c29_eq:fnOf Tryz.prog 29=some c29:=by kernel_rfl
theorem lst_len {H0 H1 HH H':Heap} {R Q:List Nat} {x v:V} (hv:Lst H0 HH 1 (rowsN R) v) (hx:Lst H1 HH 1 (rowsN Q) x) (hne:R.length≠Q.length) (k:Turns (Bof v) HH H'):Lst H1 H' 1 (rowsN Q) x:=hx.turns k fun c hc hv'=>by
 obtain⟨_,_,_,_,g1⟩:=hx.bof hc
 obtain⟨_,_,_,_,g2⟩:=hv.bof hv'
 rw[g1] at g2
 have:=congrArg List.length (Am.Obj.rows.inj (Option.some.inj g2)).2.2
 rw[rowsN_len,rowsN_len] at this
 exact hne this.symm
theorem lst_far {H0 H1 H2 HH H':Heap} {R Q:List (List V)} {x y:V} (hy:Lst H0 H1 1 R y) (hx:Lst H2 HH 1 Q x) (h:H1.next≤H2.next) (k:Turns (Bof y) HH H'):Lst H2 H' 1 Q x:=hx.turns k fun c hc hy'=>by
 obtain⟨a,rfl,h1,_⟩:=hx.bof hc
 obtain⟨b,e,_,h2,_⟩:=hy.bof hy'
 cases e
 omega
noncomputable def dmPut (c id:Nat) (R:Int) (first pos:Nat):Nat:=if 1≤c∧c≤4611686018427387904∧dmMay id R first pos=true then markB c id R.toNat first pos else 0
noncomputable def dmPutC (c id:Nat) (R:Int) (first pos:Nat):Int:=if 1≤c∧c≤4611686018427387904∧dmMay id R first pos=true then 0 else 2
noncomputable def dnPut (s p:Nat) (c:Int) (u:Nat):Nat:=if dnMay s p c=true then noteB ⟨s,p,c.toNat,u⟩ else 0
def dnPutC (s p:Nat) (c:Int):Int:=if dnMay s p c=true then 0 else 2
section
variable {lf:Nat} (hlf:1000 < lf)
include hlf
theorem dnum (H:Heap) {N s:Nat} (hs:1≤s∧s≤8) (hN:N < 256 ^ s) (n:Nat):ret (callS Tryz.prog S0 lf (n+1) 110 [.int .u64 (N:Int),.int .i64 (s:Int)] H) fun v H'=>Turns Z H H'∧∃ y,v=.tuple [y,.int .i64 0]∧Lst H H' 1 (rowsN (stl (dig N) s 0)) y:=by
 have h8:(256:Nat) ^ s≤256 ^ 8:=Nat.pow_le_pow_right (by decide) hs.2
 rw[show (256:Nat) ^ 8=18446744073709551616 by decide +kernel] at h8
 obtain⟨v,H',e,t,⟨_,y,rfl,hy⟩ | ⟨h,_⟩⟩:=rnput_ok H (N:=N) (s:=s) (by omega) hs (lf:=lf) (by omega) n
 ·rw[digs_stl] at hy
  exact⟨_,H',e,t,y,rfl,hy⟩
 ·exact absurd (Nat.div_eq_of_lt hN) h
theorem dmbody (H:Heap) {id R first pos:Nat} (h1:id < 18446744073709551616) (h2:R < 65536) (h3:first < 18446744073709551616) (h4:pos < 18446744073709551616) (n:Nat):ret (callS Tryz.prog S0 lf (n+2) 108 [.agg (mkW id R first pos)] H) fun v H'=>Turns Z H H'∧∃ Hb,Lst Hb H' 1 (rowsN (markL id R first pos 4)) v:=by
 have hw:width (mkW id R first pos)=4:=rfl
 have k0:cut (mkW id R first pos) 0 1=some [.int .u64 (id:Int)]:=rfl
 have k1:cut (mkW id R first pos) 1 1=some [.int .i64 R]:=rfl
 have k2:cut (mkW id R first pos) 2 1=some [.int .u64 (first:Int)]:=rfl
 have k3:cut (mkW id R first pos) 3 1=some [.int .u64 (pos:Int)]:=rfl
 have t0:=Turns.add Z H (.rows false 4 [mkW id R first pos])
 have g0:(H.add (.rows false 4 [mkW id R first pos])).get (.run H.next)=some (.rows false 4 [mkW id R first pos]):=by rw[Heap.get_add,if_pos rfl]
 obtain⟨H0,hH0⟩:∃ X,H.add (.rows false 4 [mkW id R first pos])=X:=⟨_,rfl⟩
 have n0:H0.next=H.next+1:=by rw[← hH0];rfl
 rw[hH0] at t0 g0
 obtain⟨v1,H1,e1,t1,y1,rfl,l1⟩:=dnum hlf H0 (s:=8) (by omega) (N:=id) h1 n
 obtain⟨v2,H2,e2,t2,y2,rfl,l2⟩:=dnum hlf H1 (s:=2) (by omega) (N:=R) h2 n
 obtain⟨v3,H3,e3,t3,y3,rfl,l3⟩:=dnum hlf H2 (s:=8) (by omega) (N:=first) h3 n
 obtain⟨v4,H4,e4,t4,y4,rfl,l4⟩:=dnum hlf H3 (s:=8) (by omega) (N:=pos) h4 n
 change callS Tryz.prog S0 lf (n+1) _ [_,.int .i64 8] _=_ at e1
 change callS Tryz.prog S0 lf (n+1) _ [_,.int .i64 2] _=_ at e2
 change callS Tryz.prog S0 lf (n+1) _ [_,.int .i64 8] _=_ at e3
 change callS Tryz.prog S0 lf (n+1) _ [_,.int .i64 8] _=_ at e4
 have m1:=t1.next
 have m2:=t2.next
 have m3:=t3.next
 have m4:=t4.next
 have gg:∀ {K:Heap},Turns Z H0 K→K.get (.run H.next)=some (.rows false 4 [mkW id R first pos]):=fun k=>(k.same (.run H.next) (by show _ < _;omega) (fun h=>h)).trans g0
 have g1:=gg t1
 have g2:=gg (t1.trans t2)
 have g3:=gg ((t1.trans t2).trans t3)
 have b1:=l1.turns ((t2.trans t3).trans t4) (fun _ _ h=>h)
 have b2:=l2.turns (t3.trans t4) (fun _ _ h=>h)
 have b3:=l3.turns t4 (fun _ _ h=>h)
 have sl:=fun a b:Nat=>stl_len (dig a) b 0
 obtain⟨v5,H5,e5,l5,k5⟩:=appL b1 b2 (rowsN_bytes _) (by omega) (by rw[rowsN_len,rowsN_len,sl,sl];omega)
 rw[← rowsN_app] at l5
 have c3:=lst_far l1 b3 m2 k5
 have c4:=lst_far l1 l4 (by omega) k5
 have T5:=lst_away b1 ((((t0.trans t1).trans t2).trans t3).trans t4) (by omega) k5
 have m5:=T5.next
 obtain⟨v6,H6,e6,l6,k6⟩:=appL l5 c3 (rowsN_bytes _) (by have:=k5.next;omega) (by rw[rowsN_len,rowsN_len,apdLen (sl _ _) (sl _ _),sl];omega)
 rw[← rowsN_app] at l6
 have d4:=lst_len l5 c4 (by rw[apdLen (sl _ _) (sl _ _),sl];omega) k6
 have T6:=lst_away l5 T5 (by omega) k6
 obtain⟨v7,H7,e7,l7,k7⟩:=appL l6 d4 (rowsN_bytes _) (by have:=k5.next;have:=k6.next;omega) (by rw[rowsN_len,rowsN_len,apdLen (apdLen (sl _ _) (sl _ _)) (sl _ _),sl];omega)
 rw[← rowsN_app] at l7
 have T7:=lst_away l6 T6 (by omega) k7
 refine ret_call rfl c108_eq ?_
 simp (maxDischargeDepth:=12) (disch:=omega) only[c108,hw,hH0,g0,k0,e1,g1,k1,e2,g2,k2,e3,g3,k3,e4,e5,e6,e7,om,hv,ldO_one,stO_one,sy,tup,↓reduceIte,zA,zG,zC,zD,zF,zE,zB,zH,reduceCtorEq]
 exact⟨trivial,.inr trivial,_,rfl,T7,H0,l7⟩
theorem dmput (H:Heap) {c id:Nat} (R:Int) {first pos:Nat} (h0:c < 18446744073709551616) (h1:id < 18446744073709551616) (h3:first < 18446744073709551616) (h4:pos < 18446744073709551616) (n:Nat):ret (callS Tryz.prog S0 lf (n+6) 28 [.int .u64 (c:Int),.agg (mkW id R first pos)] H) fun v H'=>v=.tuple [.blk (dmPut c id R first pos),.int .i64 (dmPutC c id R first pos)]∧Turns Z H H':=by
 have hw:width (mkW id R first pos)=4:=rfl
 have k4:cut (mkW id R first pos) 0 4=some (mkW id R first pos):=rfl
 have t1:Turns Z H ((H.add (.rows false 4 [mkW id R first pos])).add (.rows false 64 [[.blk 0]])):=by repeat (first | exact Turns.refl _ _ | apply Turns.skip | apply Turns.addm | apply Turns.setb | apply Turns.setl | apply Turns.setr | refine Turns.setn ?_ _ (by omega) _ | refine Turns.trans ?_ (tF _))
 have hb:((H.add (.rows false 4 [mkW id R first pos])).add (.rows false 64 [[.blk 0]])).get (.run H.next)=some (.rows false 4 [mkW id R first pos]):=by rw[Heap.get_add,if_neg (run_ne (by simp)),Heap.get_add,if_pos rfl]
 have hq:((H.add (.rows false 4 [mkW id R first pos])).add (.rows false 64 [[.blk 0]])).get (.run (H.next+1))=some (.rows false 64 [[.blk 0]]):=by rw[Heap.get_add,if_pos (by simp)]
 obtain⟨H1,hH1⟩:∃ X,(H.add (.rows false 4 [mkW id R first pos])).add (.rows false 64 [[.blk 0]])=X:=⟨_,rfl⟩
 have n1:H1.next=H.next+1+1:=by rw[← hH1];rfl
 rw[hH1] at t1 hb hq
 refine ret_call rfl c28_eq ?_
 unfold dmPut dmPutC
 by_cases a1:c < 1
 ·rw[if_neg (by omega),if_neg (by omega)]
  simp (maxDischargeDepth:=12) (disch:=omega) only[c28,hw,hH1,hq,om,hv,ldO_one,stO_one,sy,tup,↓reduceIte,zA,zG,zC,zD,zF,zE,zB,zH,reduceCtorEq]
  exact⟨trivial,.inr trivial,_,rfl,rfl,t1.setn _ (by omega) _⟩
 by_cases a2:4611686018427387904 < c
 ·rw[if_neg (by omega),if_neg (by omega)]
  simp (maxDischargeDepth:=12) (disch:=omega) only[c28,hw,hH1,hq,om,hv,ldO_one,stO_one,sy,tup,↓reduceIte,zA,zG,zC,zD,zF,zE,zB,zH,reduceCtorEq]
  exact⟨trivial,.inr trivial,_,rfl,rfl,t1.setn _ (by omega) _⟩
 obtain⟨v2,H2,e2,rfl,t2⟩:=dmmay hlf H1 id R first pos (n+4)
 have n2:=t2.next
 have hq2:=(t2.same (.run (H.next+1)) (by show _ < _;omega) (fun h=>h)).trans hq
 have hb2:=(t2.same (.run H.next) (by show _ < _;omega) (fun h=>h)).trans hb
 cases hm:dmMay id R first pos
 ·rw[if_neg (fun h=>by cases h.2.2),if_neg (fun h=>by cases h.2.2)]
  rw[hm] at e2
  simp (maxDischargeDepth:=12) (disch:=omega) only[c28,hw,hH1,hb,k4,e2,hq2,om,hv,ldO_one,stO_one,sy,tup,↓reduceIte,zA,zG,zC,zD,zF,zE,zB,zH,reduceCtorEq]
  exact⟨trivial,.inr trivial,_,rfl,rfl,(t1.trans t2).setn _ (by omega) _⟩
 rw[if_pos ⟨by omega,by omega,rfl⟩,if_pos ⟨by omega,by omega,rfl⟩]
 rw[hm] at e2
 unfold dmMay at hm
 have hm:=of_decide_eq_true hm
 obtain⟨r,rfl⟩:∃ r:Nat,R=(r:Int):=⟨R.toNat,by omega⟩
 obtain⟨v3,H3,e3,t3,Hb,l3⟩:=dmbody hlf H2 h1 (R:=r) (by omega) h3 h4 (n+3)
 obtain⟨v4,H4,e4,t4,rfl⟩:=rput7_ok l3 (by have:=markL_len id r first pos 4;omega) (markL_lt hlf id r first pos 4) h0 (by omega) (show 80 < lf by omega) n
 have hq4:=((t3.trans t4).same (.run (H.next+1)) (by show _ < _;omega) (fun h=>h)).trans hq2
 change callS Tryz.prog S0 lf (n+5) _ _ _=_ at e3
 have em:blkOf c (markL id r first pos 4)=markB c id r first pos:=rfl
 rw[em] at e4
 generalize hX:markB c id r first pos=X at *
 simp (maxDischargeDepth:=12) (disch:=omega) only[c28,hw,hH1,hb,k4,e2,hb2,e3,e4,hq4,om,hv,ldO_one,stO_one,sy,tup,↓reduceIte,zA,zG,zC,zD,zF,zE,zB,zH,reduceCtorEq]
 exact⟨trivial,.inr trivial,_,rfl,by rw[Int.toNat_natCast,hX],(((t1.trans t2).trans t3).trans t4).setn _ (by omega) _⟩
theorem dnput (H:Heap) {s p:Nat} (c:Int) {u:Nat} (h0:s < 18446744073709551616) (h1:p < 18446744073709551616) (h3:u < 4294967296) (n:Nat):ret (callS Tryz.prog S0 lf (n+6) 29 [.agg (ntW s p c u)] H) fun v H'=>v=.tuple [.blk (dnPut s p c u),.int .i64 (dnPutC s p c)]∧Turns Z H H':=by
 have hw:width (ntW s p c u)=4:=rfl
 have k4:cut (ntW s p c u) 0 4=some (ntW s p c u):=rfl
 have k0:cut (ntW s p c u) 0 1=some [.int .u64 (s:Int)]:=rfl
 have k1:cut (ntW s p c u) 1 1=some [.int .u64 (p:Int)]:=rfl
 have k2:cut (ntW s p c u) 2 1=some [.int .i64 c]:=rfl
 have k3:cut (ntW s p c u) 3 1=some [.int .u32 (u:Int)]:=rfl
 have t1:Turns Z H ((H.add (.rows false 4 [ntW s p c u])).add (.rows false 64 [[.blk 0]])):=by repeat (first | exact Turns.refl _ _ | apply Turns.skip | apply Turns.addm | apply Turns.setb | apply Turns.setl | apply Turns.setr | refine Turns.setn ?_ _ (by omega) _ | refine Turns.trans ?_ (tF _))
 have hb:((H.add (.rows false 4 [ntW s p c u])).add (.rows false 64 [[.blk 0]])).get (.run H.next)=some (.rows false 4 [ntW s p c u]):=by rw[Heap.get_add,if_neg (run_ne (by simp)),Heap.get_add,if_pos rfl]
 have hq:((H.add (.rows false 4 [ntW s p c u])).add (.rows false 64 [[.blk 0]])).get (.run (H.next+1))=some (.rows false 64 [[.blk 0]]):=by rw[Heap.get_add,if_pos (by simp)]
 obtain⟨H1,hH1⟩:∃ X,(H.add (.rows false 4 [ntW s p c u])).add (.rows false 64 [[.blk 0]])=X:=⟨_,rfl⟩
 have n1:H1.next=H.next+1+1:=by rw[← hH1];rfl
 rw[hH1] at t1 hb hq
 obtain⟨v2,H2,e2,rfl,t2⟩:=dnmay hlf H1 s p c u (n+4)
 have n2:=t2.next
 have gg:∀ {K:Heap},Turns Z H2 K→K.get (.run H.next)=some (.rows false 4 [ntW s p c u]):=fun k=>((t2.trans k).same (.run H.next) (by show _ < _;omega) id).trans hb
 have hq2:=(t2.same (.run (H.next+1)) (by show _ < _;omega) (fun h=>h)).trans hq
 refine ret_call rfl c29_eq ?_
 unfold dnPut dnPutC
 cases hm:dnMay s p c
 ·rw[if_neg (by decide),if_neg (by decide)]
  rw[hm] at e2
  simp (maxDischargeDepth:=12) (disch:=omega) only[c29,hw,hH1,hb,k4,e2,hq2,om,hv,ldO_one,stO_one,sy,tup,↓reduceIte,zA,zG,zC,zD,zF,zE,zB,zH,reduceCtorEq]
  exact⟨trivial,.inr trivial,_,rfl,rfl,(t1.trans t2).setn _ (by omega) _⟩
 rw[if_pos rfl,if_pos rfl]
 rw[hm] at e2
 unfold dnMay at hm
 have hm:=of_decide_eq_true hm
 obtain⟨r,rfl⟩:∃ r:Nat,c=(r:Int):=⟨c.toNat,by omega⟩
 obtain⟨v3,H3,e3,t3,y3,rfl,l3⟩:=dnum hlf H2 (s:=8) (by omega) (N:=p) h1 (n+4)
 obtain⟨v4,H4,e4,t4,y4,rfl,l4⟩:=dnum hlf H3 (s:=2) (by omega) (N:=r) (by omega) (n+4)
 obtain⟨v5,H5,e5,t5,y5,rfl,l5⟩:=dnum hlf H4 (s:=4) (by omega) (N:=u) h3 (n+4)
 change callS Tryz.prog S0 lf (n+5) _ [_,.int .i64 8] _=_ at e3
 change callS Tryz.prog S0 lf (n+5) _ [_,.int .i64 2] _=_ at e4
 change callS Tryz.prog S0 lf (n+5) _ [_,.int .i64 4] _=_ at e5
 have m3:=t3.next
 have m4:=t4.next
 have m5:=t5.next
 have b2:=gg (Turns.refl Z H2)
 have b3:=gg t3
 have b4:=gg (t3.trans t4)
 have c3:=l3.turns (t4.trans t5) (fun _ _ h=>h)
 have c4:=l4.turns t5 (fun _ _ h=>h)
 have sl:=fun a b:Nat=>stl_len (dig a) b 0
 obtain⟨v6,H6,e6,l6,k6⟩:=appL c3 c4 (rowsN_bytes _) (by omega) (by rw[rowsN_len,rowsN_len,sl,sl];omega)
 rw[← rowsN_app] at l6
 have c5:=lst_far l3 l5 m4 k6
 have T6:=lst_away c3 ((t3.trans t4).trans t5) (by omega) k6
 obtain⟨v7,H7,e7,l7,k7⟩:=appL l6 c5 (rowsN_bytes _) (by have:=k6.next;omega) (by rw[rowsN_len,rowsN_len,apdLen (sl _ _) (sl _ _),sl];omega)
 rw[← rowsN_app] at l7
 have T7:=lst_away l6 T6 (by omega) k7
 have b7:=gg T7
 obtain⟨v8,H8,e8,t8,rfl⟩:=rput7_ok (N:=s) l7 (by rw[apdLen (apdLen (sl _ _) (sl _ _)) (sl _ _)];omega) (noteL_lt hlf ⟨s,p,r,u⟩) h0 (by omega) (show 80 < lf by omega) n
 have hq8:=((T7.trans t8).same (.run (H.next+1)) (by show _ < _;omega) (fun h=>h)).trans hq2
 have em:blkOf s (stl (dig p) 8 0++stl (dig r) 2 0++stl (dig u) 4 0)=noteB ⟨s,p,r,u⟩:=rfl
 rw[em] at e8
 generalize hX:noteB ⟨s,p,r,u⟩=X at *
 simp (maxDischargeDepth:=12) (disch:=omega) only[c29,hw,hH1,hb,k4,e2,b2,k1,e3,b3,k2,e4,b4,k3,e5,e6,e7,b7,k0,e8,hq8,om,hv,ldO_one,stO_one,sy,tup,↓reduceIte,zA,zG,zC,zD,zF,zE,zB,zH,reduceCtorEq]
 exact⟨trivial,.inr trivial,_,rfl,by rw[Int.toNat_natCast,hX],(((t1.trans t2).trans T7).trans t8).setn _ (by omega) _⟩
end
end Go.Proofs.YtllkepkaimnodaaGreatDoor.draft
namespace Go.Proofs.YtllkepkaimnodaaGreatDoor.draft
open Go.Am
noncomputable def c50:CFn:=⟨[.tmp (pp 2)],
 .seq (.reg [
 qo 2 (.p (S.get (ii 0))) []]) (
 .seq (.reg [
 mv 3 0,
 qo 4 (.p (arF .rem (tt 3) (.c (.int .u64 8)))) [pp 3],
 qo 5 (.p (convF .i64 (tt 4))) [pp 4],
 mv 2 5]) (
 .ret))⟩
theorem c50_eq:fnOf Tryz.prog 50=some c50:=by kernel_rfl
section
variable {lf K:Nat} (hlf:1000 < lf)
include hlf
theorem dplaces (H:Heap) {k:Nat} (hk:k≤1000) (n:Nat):U lf K (n+1) 124 [.int .i64 (k:Int)] H=some (.v (.int .i64 (((k+15) / 16:Nat):Int)),H):=by
 obtain⟨v,H',e',rfl,rfl⟩:ret (U lf K (n+1) 124 [.int .i64 (k:Int)] H) fun v H'=>v=.int .i64 (((k+15) / 16:Nat):Int)∧H'=H:=by
  have hloop:∀ t:T,t.getP (Tr.path 0)=some (.int .i64 (k:Int))→t.getP (Tr.path 3)=some (.int .i64 0) →
    wp (loopF (runC (U lf K n) lf c124_l0) lf ⟨t,H,[]⟩) fun x s=>x=.ex 0∧s.d=[]∧s.H=H∧s.t.getP (Tr.path 3)=some (.int .i64 (((k+15) / 16:Nat):Int)):=by
   intro t q0 q3
   refine wp_loopF (fun m s=>∃ i:Nat,m=(k+15) / 16 - i∧i≤(k+15) / 16∧s.d=[]∧s.H=H∧s.t.getP (Tr.path 0)=some (.int .i64 (k:Int))∧s.t.getP (Tr.path 3)=some (.int .i64 (i:Int))) ?_ lf ((k+15) / 16) _ ⟨0,rfl,by omega,rfl,rfl,q0,q3⟩ (by omega)
   rintro m ⟨t,HH,d⟩ ⟨i,rfl,hi,hd,hH,q0,q3⟩
   dsimp only at hd hH q0 q3
   subst hd;subst hH
   by_cases hlt:16*i < k
   ·simp (maxDischargeDepth:=12) (disch:=omega) only[c124_l0,q0,q3,arith_mul,om,hv,ldO_one,stO_one,sy,tup,↓reduceIte,zA,zG,zC,zD,zF,zE,zB,zH,reduceCtorEq]
    exact⟨(k+15) / 16 - (i+1),by omega,i+1,rfl,by omega,trivial,trivial,by simp[q0],by simp⟩
   ·simp (maxDischargeDepth:=12) (disch:=omega) only[c124_l0,q0,q3,arith_mul,om,hv,ldO_one,stO_one,sy,tup,↓reduceIte,zA,zG,zC,zD,zF,zE,zB,zH,reduceCtorEq]
    exact⟨trivial,trivial,trivial,by rw[show i=(k+15) / 16 by omega]⟩
  refine ret_callU rfl rfl c124_eq ?_
  simp (maxDischargeDepth:=12) (disch:=omega) only[c124,om,hv,ldO_one,stO_one,sy,tup,↓reduceIte,zA,zG,zC,zD,zF,zE,zB,zH,reduceCtorEq]
  refine wp_ctx (F:=fun r=>seqC _ _ _ (blockC _ r)) (hloop _ ?_ ?_) ?_
  ·simp only[sy,tup,↓reduceIte,zA,zG,zC,zD,zF,zE,zB,zH,reduceCtorEq]
  ·simp only[sy,tup,↓reduceIte,zA,zG,zC,zD,zF,zE,zB,zH,reduceCtorEq]
  rintro x ⟨t,G1,d⟩ ⟨rfl,hd,hH,q3⟩
  dsimp only at hd hH q3
  subst hd;subst hH
  simp (maxDischargeDepth:=12) (disch:=omega) only[q3,om,hv,ldO_one,stO_one,sy,tup,↓reduceIte,zA,zG,zC,zD,zF,zE,zB,zH,reduceCtorEq]
  exact⟨trivial,.inr trivial,_,rfl,rfl,trivial⟩
 exact e'
theorem dsize (H:Heap) {k:Nat} (hk:k≤1000) (n:Nat):U lf K (n+2) 54 [.int .i64 (k:Int)] H=some (.v (.int .i64 (szR k:Int)),H):=by
 obtain⟨v,H',e',rfl,rfl⟩:ret (U lf K (n+2) 54 [.int .i64 (k:Int)] H) fun v H'=>v=.int .i64 (szR k:Int)∧H'=H:=by
  have e1:=dplaces hlf (K:=K) H hk n
  refine ret_callU rfl rfl c54_eq ?_
  unfold szR
  obtain⟨q,hq⟩:∃ q,q=(k+15) / 16:=⟨_,rfl⟩
  rw[← hq] at e1 ⊢
  by_cases h1:k < 1
  ·rw[if_pos (by omega)]
   simp (maxDischargeDepth:=12) (disch:=omega) only[c54,om,hv,ldO_one,stO_one,sy,tup,↓reduceIte,zA,zG,zC,zD,zF,zE,zB,zH,reduceCtorEq]
   exact⟨trivial,.inr trivial,_,rfl,rfl,trivial⟩
  by_cases h2:32 < k
  ·rw[if_pos (by omega)]
   simp (maxDischargeDepth:=12) (disch:=omega) only[c54,om,hv,ldO_one,stO_one,sy,tup,↓reduceIte,zA,zG,zC,zD,zF,zE,zB,zH,reduceCtorEq]
   exact⟨trivial,.inr trivial,_,rfl,rfl,trivial⟩
  rw[if_neg (by omega)]
  simp (maxDischargeDepth:=12) (disch:=omega) only[c54,e1,om,hv,ldO_one,stO_one,sy,tup,↓reduceIte,zA,zG,zC,zD,zF,zE,zB,zH,reduceCtorEq]
  exact⟨trivial,.inr trivial,_,rfl,rfl,trivial⟩
 exact e'
theorem dslot (H:Heap) (q:Nat) (n:Nat):U lf K (n+1) 50 [.int .u64 (q:Int)] H=some (.v (.int .i64 ((q % 8:Nat):Int)),H):=by
 obtain⟨v,H',e',rfl,rfl⟩:ret (U lf K (n+1) 50 [.int .u64 (q:Int)] H) fun v H'=>v=.int .i64 ((q % 8:Nat):Int)∧H'=H:=by
  have e:arith .rem (.int .u64 (q:Int)) (.int .u64 8)=some (.int .u64 ((q % 8:Nat):Int)):=rem_u64 q 8 (by decide)
  have hz:q % 8 < 8:=Nat.mod_lt _ (by decide)
  refine ret_callU rfl rfl c50_eq ?_
  generalize q % 8=z at *
  simp (maxDischargeDepth:=12) (disch:=omega) only[c50,e,om,hv,ldO_one,stO_one,sy,tup,↓reduceIte,zA,zG,zC,zD,zF,zE,zB,zH,reduceCtorEq]
  exact⟨trivial,.inr trivial,_,rfl,rfl,trivial⟩
 exact e'
end
end Go.Proofs.YtllkepkaimnodaaGreatDoor.draft
namespace Go.Proofs.YtllkepkaimnodaaGreatDoor.draft
open Go.Am
noncomputable def c39:CFn:=⟨[.tmp (pp 4),.cell (pp 5) 4 .ag,.tmp (pp 6)],
 .seq (.reg [
 qo 2 (.m (boxF 64 (tt 0))) [pp 0],
 qo 3 (.m (boxF 64 (tt 1))) [pp 1],
 qo 4 (.p (S.get (.c (.int .u64 0)))) [],
 qo 5 (.m (allocF 4 [.int .u64 0,.int .i64 0,.int .u64 0,.int .u64 0])) [],
 qo 6 (.p (S.get (ii 0))) []]) (
 .seq (.reg [
 qo 14 (.r (loadF (tt 2) 64 .bk)) [pp 2],
 qo 15 (.c (callF (ff 114) [(tt 14)])) [pp 14],
 mv 13 15,
 qo 16 (.p (extF (tt 13) 0)) [pp 13],
 qo 17 (.p (extF (tt 13) 1)) [pp 13],
 qo 18 (.p (extF (tt 13) 2)) [pp 13],
 qo 8 (.m (allocF 4 [.int .u64 0,.int .i64 0,.int .u64 0,.int .u64 0])) [],
 mv 7 16,
 qn (.a (storeF (tt 8) (tt 17) 4)) [pp 8,pp 17],
 mv 9 18]) (
 .seq (.reg [
 qo 20 (.r (loadF (tt 3) 64 .bk)) [pp 3],
 qo 21 (.c (callF (ff 114) [(tt 20)])) [pp 20],
 mv 19 21,
 qo 22 (.p (extF (tt 19) 0)) [pp 19],
 qo 23 (.p (extF (tt 19) 1)) [pp 19],
 qo 24 (.p (extF (tt 19) 2)) [pp 19],
 qo 11 (.m (allocF 4 [.int .u64 0,.int .i64 0,.int .u64 0,.int .u64 0])) [],
 mv 10 22,
 qn (.a (storeF (tt 11) (tt 23) 4)) [pp 11,pp 23],
 mv 12 24]) (
 .seq (.block 0 (.seq (.reg [
 mv 26 9,
 qo 27 (.p (eqcF true false [.int .i64] (tt 26) (ii 0))) [pp 26],
 mv 28 27,
 mg 29 12 28 true,
 qg 30 (.p (eqcF true false [.int .i64] (tt 29) (ii 0))) 28 true [pp 29],
 qo 31 (.p (pickF (tt 28) (tt 30) (.c (.bool false)))) [pp 28,pp 30],
 mv 25 31]) (
 .cond (tt 25) (.seq (.reg [
 qo 32 (.p (buildF [.int .u64 0,.int .i64 0,.int .u64 0,.int .u64 0] .ag [])) [],
 qo 4 (.p (S.get (.c (.int .u64 0)))) [],
 qn (.a (storeF (tt 5) (tt 32) 4)) [pp 5,pp 32],
 qo 6 (.p (S.get (ii 7))) []]) (
 .ret)) (.seq (.seq (.reg [
 mv 34 9,
 qo 35 (.p (eqcF true false [.int .i64] (tt 34) (ii 0))) [pp 34],
 mv 33 35]) (
 .cond (tt 33) (.skip) (.reg [
 mv 36 12,
 qo 37 (.p (eqcF false false [.int .i64] (tt 36) (ii 0))) [pp 36],
 mv 38 37,
 mg 39 10 38 true,
 mg 40 7 38 true,
 qg 41 (.p (arF .gtr (tt 39) (tt 40))) 38 true [pp 39,pp 40],
 qo 42 (.p (pickF (tt 38) (tt 41) (.c (.bool false)))) [pp 38,pp 41],
 mv 33 42]))) (
 .cond (tt 33) (.seq (.regD [
 mv 43 10,
 qo 44 (.r (loadF (tt 11) 4 .ag)) [pp 11],
 mv 4 43,
 qn (.a (storeF (tt 5) (tt 44) 4)) [pp 5,pp 44],
 qo 6 (.p (S.get (ii 0))) []] [0,0,1,7,15]) (
 .ret)) (.skip)))))) (
 .seq (.regD [
 mv 45 7,
 qo 46 (.r (loadF (tt 8) 4 .ag)) [pp 8],
 mv 4 45,
 qn (.a (storeF (tt 5) (tt 46) 4)) [pp 5,pp 46],
 qo 6 (.p (S.get (ii 0))) []] [0,0,1,7,15]) (
 .ret)))))⟩
theorem c39_eq:fnOf Tryz.prog 39=some c39:=by kernel_rfl
noncomputable def newM (A B:Nat):Option Nat:=match markOk A,markOk B with
 | false,false=>none
 | false,true=>some B
 | true,false=>some A
 | true,true=>if sealN A < sealN B then some B else some A
section
variable {lf K:Nat} (hlf:1000 < lf)
include hlf
theorem umgetE {G:Heap} (hgl:G.get (.run 0)=some (.rows true 4 (intsR [8,2,8,8]))) (h00:0 < G.next) (B:Nat) (n:Nat):∃(G':Heap) (s:Nat) (M:Mk) (e:Int),U lf K (n+6) 114 [.blk B] G=some (.v (.tuple [.int .u64 (s:Int),.agg M.V,.int .i64 e]),G')∧Turns Z G G'∧((markOk B=true∧s=sealN B∧M=mkG B∧e=0)∨(markOk B=false∧e≠0)):=by
 obtain⟨v,G',e,t,⟨h1,rfl⟩ | ⟨h1,E,h2,rfl⟩⟩:=umget hlf hgl h00 B (K:=K) n
 ·exact⟨G',_,_,_,e,t,.inl ⟨h1,rfl,rfl,rfl⟩⟩
 ·exact⟨G',0,⟨0,0,0,0⟩,E,e,t,.inr ⟨h1,h2⟩⟩
theorem umnewest {G:Heap} (hgl:G.get (.run 0)=some (.rows true 4 (intsR [8,2,8,8]))) (h00:0 < G.next) (A B:Nat) (n:Nat):ret (U lf K (n+7) 39 [.blk A,.blk B] G) fun v G'=>Turns Z G G'∧((newM A B=none∧v=.tuple [.int .u64 0,.agg (mkV 0 0 0 0),.int .i64 7])∨∃ X,newM A B=some X∧v=.tuple [.int .u64 (sealN X:Int),.agg (mkG X).V,.int .i64 0]):=by
 obtain⟨Z4,hZ4⟩:∃ x:List V,x=[.int .u64 0,.int .i64 0,.int .u64 0,.int .u64 0]:=⟨_,rfl⟩
 have wZ:width Z4=4:=by rw[hZ4];rfl
 have cZ:cut Z4 0 4=some Z4:=by rw[hZ4];rfl
 have pZ:put Z4 0 Z4=some Z4:=by rw[hZ4];rfl
 have wM:∀ M:Mk,width M.V=4:=fun M=>rfl
 have cM:∀ M:Mk,cut M.V 0 4=some M.V:=fun M=>rfl
 have pM:∀ M:Mk,put Z4 0 M.V=some M.V:=fun M=>by rw[hZ4];rfl
 have hM0:mkV 0 0 0 0=Z4:=hZ4.symm
 rw[hM0]
 have t1:Turns Z G (((G.add (.rows false 64 [[.blk A]])).add (.rows false 64 [[.blk B]])).add (.rows false 4 [Z4])):=by repeat (first | exact Turns.refl _ _ | apply Turns.skip | apply Turns.addm | apply Turns.setb | apply Turns.setl | apply Turns.setr | refine Turns.setn ?_ _ (by omega) _ | refine Turns.trans ?_ (tF _))
 have ha1:(((G.add (.rows false 64 [[.blk A]])).add (.rows false 64 [[.blk B]])).add (.rows false 4 [Z4])).get (.run G.next)=some (.rows false 64 [[.blk A]]):=by rw[Heap.get_add,if_neg (run_ne (by show G.next≠G.next+1+1;omega)),Heap.get_add,if_neg (run_ne (by simp)),Heap.get_add,if_pos rfl]
 have hb1:(((G.add (.rows false 64 [[.blk A]])).add (.rows false 64 [[.blk B]])).add (.rows false 4 [Z4])).get (.run (G.next+1))=some (.rows false 64 [[.blk B]]):=by rw[Heap.get_add,if_neg (run_ne (by simp)),Heap.get_add,if_pos (by simp)]
 have hr1:(((G.add (.rows false 64 [[.blk A]])).add (.rows false 64 [[.blk B]])).add (.rows false 4 [Z4])).get (.run (G.next+1+1))=some (.rows false 4 [Z4]):=by rw[Heap.get_add,if_pos (by simp)]
 obtain⟨G1,hG1⟩:∃ G1,((G.add (.rows false 64 [[.blk A]])).add (.rows false 64 [[.blk B]])).add (.rows false 4 [Z4])=G1:=⟨_,rfl⟩
 have n1:G1.next=G.next+1+1+1:=by rw[← hG1];rfl
 rw[hG1] at t1 ha1 hb1 hr1
 have hg1:=(t1.same (.run 0) h00 (fun h=>h)).trans hgl
 obtain⟨G2,s1,M1,e1,c1,t2,h1⟩:=umgetE hlf hg1 (by omega) A (K:=K) n
 have nn2:=t2.next
 have t3:Turns Z G2 ((G2.add (.rows false 4 [Z4])).set (.run G2.next) (.rows false 4 [M1.V])):=by repeat (first | exact Turns.refl _ _ | apply Turns.skip | apply Turns.addm | apply Turns.setb | apply Turns.setl | apply Turns.setr | refine Turns.setn ?_ _ (by omega) _ | refine Turns.trans ?_ (tF _))
 have h3:((G2.add (.rows false 4 [Z4])).set (.run G2.next) (.rows false 4 [M1.V])).get (.run G2.next)=some (.rows false 4 [M1.V]):=by rw[Heap.get_set,if_pos rfl]
 obtain⟨G3,hG3⟩:∃ G3,(G2.add (.rows false 4 [Z4])).set (.run G2.next) (.rows false 4 [M1.V])=G3:=⟨_,rfl⟩
 have nn3:G3.next=G2.next+1:=by rw[← hG3];rfl
 rw[hG3] at t3 h3
 have hg3:=((t2.trans t3).same (.run 0) (by show _ < _;omega) (fun h=>h)).trans hg1
 have hb3:=((t2.trans t3).same (.run (G.next+1)) (by show _ < _;omega) (fun h=>h)).trans hb1
 have hr3:=((t2.trans t3).same (.run (G.next+1+1)) (by show _ < _;omega) (fun h=>h)).trans hr1
 obtain⟨G4,s2,M2,e2,c2,t4,h2⟩:=umgetE hlf hg3 (by omega) B (K:=K) n
 have nn4:=t4.next
 have t5:Turns Z G4 ((G4.add (.rows false 4 [Z4])).set (.run G4.next) (.rows false 4 [M2.V])):=by repeat (first | exact Turns.refl _ _ | apply Turns.skip | apply Turns.addm | apply Turns.setb | apply Turns.setl | apply Turns.setr | refine Turns.setn ?_ _ (by omega) _ | refine Turns.trans ?_ (tF _))
 have h5:((G4.add (.rows false 4 [Z4])).set (.run G4.next) (.rows false 4 [M2.V])).get (.run G4.next)=some (.rows false 4 [M2.V]):=by rw[Heap.get_set,if_pos rfl]
 obtain⟨G5,hG5⟩:∃ G5,(G4.add (.rows false 4 [Z4])).set (.run G4.next) (.rows false 4 [M2.V])=G5:=⟨_,rfl⟩
 have nn5:G5.next=G4.next+1:=by rw[← hG5];rfl
 rw[hG5] at t5 h5
 have hr5:=((t4.trans t5).same (.run (G.next+1+1)) (by show _ < _;omega) (fun h=>h)).trans hr3
 have h35:=((t4.trans t5).same (.run G2.next) (by show _ < _;omega) (fun h=>h)).trans h3
 have tF:=(((t1.trans t2).trans t3).trans t4).trans t5
 have b00:((0:Int)==0)=true:=rfl
 refine ret_callU rfl rfl c39_eq ?_
 obtain⟨z1,hz1,k1⟩:∃ z,(e1==0)=z∧(z=markOk A∧(z=true→s1=sealN A∧M1=mkG A)):=⟨_,rfl,by
  rcases h1 with ⟨a,b,c,d⟩ | ⟨a,b⟩
  ·rw[d,a];exact⟨rfl,fun _=>⟨b,c⟩⟩
  ·rw[a,beq_eq_false_iff_ne.2 b];exact⟨rfl,fun h=>by cases h⟩⟩
 obtain⟨z2,hz2,k2⟩:∃ z,(e2==0)=z∧(z=markOk B∧(z=true→s2=sealN B∧M2=mkG B)):=⟨_,rfl,by
  rcases h2 with ⟨a,b,c,d⟩ | ⟨a,b⟩
  ·rw[d,a];exact⟨rfl,fun _=>⟨b,c⟩⟩
  ·rw[a,beq_eq_false_iff_ne.2 b];exact⟨rfl,fun h=>by cases h⟩⟩
 cases z1<;>cases z2
 ·simp (maxDischargeDepth:=12) only[c39,hG1,ha1,Dh,c1,wM,pM,hG3,hb3,c2,hG5,hz1,hz2,← hZ4,wZ,cZ,pZ,hr5,hv,ldO_one,stO_one,sy,tup,↓reduceIte,zA,zG,zC,zD,zF,zE,zB,zH,reduceCtorEq]
  refine⟨trivial,.inr trivial,_,rfl,tF.setn _ (by omega) _,.inl ⟨?_,rfl⟩⟩
  unfold newM
  rw[← k1.1,← k2.1]
 ·simp (maxDischargeDepth:=12) only[c39,hG1,ha1,Dh,c1,wM,pM,hG3,hb3,c2,hG5,hz1,hz2,hr5,h5,h35,cM,← hZ4,hv,ldO_one,stO_one,sy,tup,↓reduceIte,zA,zG,zC,zD,zF,zE,zB,zH,reduceCtorEq]
  rw[endD_ok (by kernel_rfl) (by kernel_rfl)]
  simp (maxDischargeDepth:=12) only[cM,hv,ldO_one,stO_one,sy,tup,↓reduceIte,zA,zG,zC,zD,zF,zE,zB,zH,reduceCtorEq]
  refine⟨trivial,.inr trivial,_,rfl,tF.setn _ (by omega) _,.inr ⟨B,?_,by rw[(k2.2 rfl).1,(k2.2 rfl).2]⟩⟩
  unfold newM
  rw[← k1.1,← k2.1]
 ·simp (maxDischargeDepth:=12) only[c39,hG1,ha1,Dh,c1,wM,pM,hG3,hb3,c2,hG5,hz1,hz2,hr5,h5,h35,cM,← hZ4,hv,ldO_one,stO_one,sy,tup,↓reduceIte,zA,zG,zC,zD,zF,zE,zB,zH,reduceCtorEq]
  rw[endD_ok (by kernel_rfl) (by kernel_rfl)]
  simp (maxDischargeDepth:=12) only[cM,hv,ldO_one,stO_one,sy,tup,↓reduceIte,zA,zG,zC,zD,zF,zE,zB,zH,reduceCtorEq]
  refine⟨trivial,.inr trivial,_,rfl,tF.setn _ (by omega) _,.inr ⟨A,?_,by rw[(k1.2 rfl).1,(k1.2 rfl).2]⟩⟩
  unfold newM
  rw[← k1.1,← k2.1]
 ·by_cases hlt:(s1:Int) < (s2:Int)
  ·simp (maxDischargeDepth:=12) only[c39,hG1,ha1,Dh,c1,wM,pM,hG3,hb3,c2,hG5,hz1,hz2,hlt,hr5,h5,h35,cM,← hZ4,hv,ldO_one,stO_one,sy,tup,↓reduceIte,zA,zG,zC,zD,zF,zE,zB,zH,reduceCtorEq]
   rw[endD_ok (by kernel_rfl) (by kernel_rfl)]
   simp (maxDischargeDepth:=12) only[cM,hv,ldO_one,stO_one,sy,tup,↓reduceIte,zA,zG,zC,zD,zF,zE,zB,zH,reduceCtorEq]
   refine⟨trivial,.inr trivial,_,rfl,tF.setn _ (by omega) _,.inr ⟨B,?_,by rw[(k2.2 rfl).1,(k2.2 rfl).2]⟩⟩
   unfold newM
   rw[← k1.1,← k2.1]
   exact if_pos (by rw[← (k1.2 rfl).1,← (k2.2 rfl).1];omega)
  ·simp (maxDischargeDepth:=12) only[c39,hG1,ha1,Dh,c1,wM,pM,hG3,hb3,c2,hG5,hz1,hz2,hlt,hr5,h5,h35,cM,← hZ4,hv,ldO_one,stO_one,sy,tup,↓reduceIte,zA,zG,zC,zD,zF,zE,zB,zH,reduceCtorEq]
   rw[endD_ok (by kernel_rfl) (by kernel_rfl)]
   simp (maxDischargeDepth:=12) only[cM,hv,ldO_one,stO_one,sy,tup,↓reduceIte,zA,zG,zC,zD,zF,zE,zB,zH,reduceCtorEq]
   refine⟨trivial,.inr trivial,_,rfl,tF.setn _ (by omega) _,.inr ⟨A,?_,by rw[(k1.2 rfl).1,(k1.2 rfl).2]⟩⟩
   unfold newM
   rw[← k1.1,← k2.1]
   exact if_neg (by rw[← (k1.2 rfl).1,← (k2.2 rfl).1];omega)
end
end Go.Proofs.YtllkepkaimnodaaGreatDoor.draft
namespace Go.Proofs.YtllkepkaimnodaaGreatDoor.draft
open Go.Am
open disk (bx Fit A1 R1 Low Bn)
section
variable {lf K:Nat} (hlf:1000 < lf)
include hlf
end
end Go.Proofs.YtllkepkaimnodaaGreatDoor.draft
namespace Go.Proofs.YtllkepkaimnodaaGreatDoor.draft
open Go.Am
open disk (bx Fit A1 R1 Low Bn)
section
variable {lf K:Nat} (hlf:1000 < lf)
include hlf
end
end Go.Proofs.YtllkepkaimnodaaGreatDoor.draft
namespace Go.Proofs.YtllkepkaimnodaaGreatDoor.draft
open Go.Am
open disk (bx Fit A1 R1 Low Bn)
theorem rowsT_get {N:List Nt} {i:Nat} (hi:i < N.length):(rowsT N)[i]?=some (ntV N[i]):=by unfold rowsT;rw[List.getElem?_map,List.getElem?_eq_getElem hi];rfl
section
variable {lf K:Nat} (hlf:1000 < lf)
include hlf
end
end Go.Proofs.YtllkepkaimnodaaGreatDoor.draft
namespace Go.Proofs.YtllkepkaimnodaaGreatDoor.draft
open Go.Am
open disk (bx Fit A1 R1 Low Bn)
noncomputable def c38:CFn:=⟨[.tmp (pp 6)],
 .seq (.reg [
 qo 6 (.p (S.get (ii 0))) []]) (
 .seq (.block 0 (.seq (.reg [
 mv 8 0,
 qo 9 (.c (callF (ff 100) [(tt 8)])) [pp 8],
 qo 10 (.p (eqcF false false [.int .i64] (tt 9) (ii 0))) [pp 9],
 mv 7 10]) (
 .cond (tt 7) (.seq (.reg [
 qo 6 (.p (S.get (ii 1))) []]) (
 .ret)) (.seq (.reg [
 mv 12 1,
 qo 13 (.p (arF .lss (tt 12) (ii 0))) [pp 12],
 mv 14 13,
 mg 15 1 14 false,
 mg 16 0 14 false,
 qg 17 (.c (callF (ff 100) [(tt 16)])) 14 false [pp 16],
 qg 18 (.p (arF .geq (tt 15) (tt 17))) 14 false [pp 15,pp 17],
 qo 19 (.p (pickF (tt 14) (.c (.bool true)) (tt 18))) [pp 14,pp 18],
 mv 20 19,
 mg 21 0 20 false,
 mg 22 1 20 false,
 qg 23 (.c (callF (ff 40) [(tt 21),(tt 22)])) 20 false [pp 21,pp 22],
 mg 24 2 20 false,
 qg 25 (.p (arF .lss (tt 23) (tt 24))) 20 false [pp 23,pp 24],
 qo 26 (.p (pickF (tt 20) (.c (.bool true)) (tt 25))) [pp 20,pp 25],
 mv 11 26]) (
 .cond (tt 11) (.seq (.reg [
 qo 6 (.p (S.get (ii 2))) []]) (
 .ret)) (.skip)))))) (
 .seq (.reg [
 qo 6 (.p (S.get (ii 0))) []]) (
 .ret)))⟩
theorem c38_eq:fnOf Tryz.prog 38=some c38:=by kernel_rfl
def roomC (B:Bn) (d s:Int):Int:=if d < 0∨(B.l.length:Int)≤d∨B.sectors d < s then 2 else 0
section
variable {lf K:Nat} (hlf:1000 < lf)
include hlf
theorem ulroom {G:Heap} {b:Bk} {B:Bn} (hb:G.get b=some (bx false B)) (hf:Fit B) (d s:Int) (n:Nat):ret (U lf K (n+2) 38 [.ptr (some ⟨b,0⟩),.int .i64 d,.int .i64 s] G) fun v G'=>v=.int .i64 (roomC B d s)∧Turns Z G G':=by
 have hne:¬ (B.l.length=0):=fun e=>hf.ne (List.length_eq_zero_iff.1 e)
 have e1:=fun(w:Nat)=>qDevices (lf:=lf) (K:=K) (w:=w) hb hf
 have hne':((B.l.length:Int)==0)=false:=by rw[beq_eq_false_iff_ne];omega
 have hb1:(G.skip (K+2)).get b=some (bx false B):=by rw[get_skip];exact hb
 have hb2:((G.skip (K+2)).skip (K+2)).get b=some (bx false B):=by rw[get_skip];exact hb1
 have eD0:=qDevices (lf:=lf) (K:=K) (w:=n) hb hf
 have eD1:=qDevices (lf:=lf) (K:=K) (w:=n) hb1 hf
 have eS1:=qSectors (lf:=lf) (K:=K) (w:=n) hb1 hf d
 have eS2:=qSectors (lf:=lf) (K:=K) (w:=n) hb2 hf d
 obtain⟨L,hL⟩:∃ L,L=B.l.length:=⟨_,rfl⟩
 rw[← hL] at hne hne' eD0 eD1
 have hcode:roomC B d s=if d < 0∨(B.l.length:Int)≤d∨B.sectors d < s then 2 else 0:=rfl
 rw[← hL] at hcode
 refine ret_callU rfl rfl c38_eq ?_
 by_cases h1:d < 0
 ·rw[show roomC B d s=2 from if_pos (.inl h1)]
  simp (maxDischargeDepth:=12) only[c38,eD0,hne',h1,hv,ldO_one,stO_one,sy,tup,↓reduceIte,zA,zG,zC,zD,zF,zE,zB,zH,reduceCtorEq]
  refine⟨trivial,.inr trivial,_,rfl,rfl,?_⟩
  repeat (first | exact Turns.refl _ _ | apply Turns.skip | apply Turns.addm | apply Turns.setb | apply Turns.setl | apply Turns.setr | refine Turns.setn ?_ _ (by omega) _ | refine Turns.trans ?_ (tF _))
 by_cases h2:(L:Int)≤d
 ·rw[hcode,if_pos (.inr (.inl h2))]
  simp (maxDischargeDepth:=12) only[c38,eD0,eD1,hne',h1,h2,hv,ldO_one,stO_one,sy,tup,↓reduceIte,zA,zG,zC,zD,zF,zE,zB,zH,reduceCtorEq]
  refine⟨trivial,.inr trivial,_,rfl,rfl,?_⟩
  repeat (first | exact Turns.refl _ _ | apply Turns.skip | apply Turns.addm | apply Turns.setb | apply Turns.setl | apply Turns.setr | refine Turns.setn ?_ _ (by omega) _ | refine Turns.trans ?_ (tF _))
 by_cases h3:B.sectors d < s
 ·rw[hcode,if_pos (.inr (.inr h3))]
  simp (maxDischargeDepth:=12) only[c38,eD0,eD1,eS2,hne',h1,h2,h3,hv,ldO_one,stO_one,sy,tup,↓reduceIte,zA,zG,zC,zD,zF,zE,zB,zH,reduceCtorEq]
  refine⟨trivial,.inr trivial,_,rfl,rfl,?_⟩
  repeat (first | exact Turns.refl _ _ | apply Turns.skip | apply Turns.addm | apply Turns.setb | apply Turns.setl | apply Turns.setr | refine Turns.setn ?_ _ (by omega) _ | refine Turns.trans ?_ (tF _))
 ·rw[hcode,if_neg (fun h=>h.elim h1 (fun h=>h.elim h2 h3))]
  simp (maxDischargeDepth:=12) only[c38,eD0,eD1,eS2,hne',h1,h2,h3,hv,ldO_one,stO_one,sy,tup,↓reduceIte,zA,zG,zC,zD,zF,zE,zB,zH,reduceCtorEq]
  refine⟨trivial,.inr trivial,_,rfl,rfl,?_⟩
  repeat (first | exact Turns.refl _ _ | apply Turns.skip | apply Turns.addm | apply Turns.setb | apply Turns.setl | apply Turns.setr | refine Turns.setn ?_ _ (by omega) _ | refine Turns.trans ?_ (tF _))
end
end Go.Proofs.YtllkepkaimnodaaGreatDoor.draft
namespace Go.Proofs.YtllkepkaimnodaaGreatDoor.draft
open Go.Am
open disk (bx Fit A1 R1 Low Bn)
noncomputable def c10_l0:C:=.seq (.reg [
 qo 85 (.p (arF .lss (tt 84) (ii 8))) [pp 84]]) (
 .seq (.cond (tt 85) (.skip) (.exit 2)) (
 .seq (.block 3 (.seq (.reg [
 mv 87 0,
 mv 88 1,
 mv 89 13,
 qo 90 (.c (callF (ff 42) [(tt 89)])) [pp 89],
 qo 91 (.c (callF (ff 41) [(tt 90)])) [pp 90],
 qo 92 (.p (arF .add (ii 2) (tt 91))) [pp 91],
 qo 93 (.c (callF (ff 30) [(tt 87),(tt 88),(tt 92)])) [pp 87,pp 88,pp 92],
 mv 86 93,
 qo 94 (.p (extF (tt 86) 0)) [pp 86],
 qo 95 (.p (extF (tt 86) 1)) [pp 86],
 qo 14 (.m (allocF 64 [.blk 0])) [],
 qn (.a (storeF (tt 14) (tt 94) 64)) [pp 14,pp 94],
 mv 15 95]) (
 .seq (.seq (.reg [
 mv 96 15,
 qo 97 (.p (eqcF true false [.int .i64] (tt 96) (ii 0))) [pp 96]]) (
 .cond (tt 97) (.seq (.reg [
 mv 98 15,
 qo 4 (.p (S.get (.c (.ptr none)))) [],
 mv 5 98]) (
 .ret)) (.skip))) (
 .seq (.reg [
 qo 100 (.r (loadF (tt 14) 64 .bk)) [pp 14],
 qo 101 (.c (callF (ff 43) [(tt 100)])) [pp 100],
 mv 99 101,
 qo 102 (.p (extF (tt 99) 0)) [pp 99],
 qo 103 (.p (extF (tt 99) 1)) [pp 99],
 qo 16 (.m (allocF 4 [.int .u64 0,.int .u64 0,.int .i64 0,.int .u32 0])) [],
 qn (.a (storeF (tt 16) (tt 102) 4)) [pp 16,pp 102],
 mv 15 103]) (
 .seq (.seq (.regD [
 mv 104 15,
 qo 105 (.p (eqcF true false [.int .i64] (tt 104) (ii 0))) [pp 104],
 mv 106 105,
 qg 107 (.p (faddrF (tt 16) 0)) 106 false [pp 16],
 qg 108 (.r (loadF (tt 107) 1 .sc)) 106 false [pp 107],
 mg 109 13 106 false,
 qg 110 (.c (callF (ff 42) [(tt 109)])) 106 false [pp 109],
 qg 111 (.p (eqcF true false [.int .u64] (tt 108) (tt 110))) 106 false [pp 108,pp 110],
 qo 112 (.p (pickF (tt 106) (.c (.bool true)) (tt 111))) [pp 106,pp 111],
 mv 113 112,
 qg 114 (.p (faddrF (tt 16) 1)) 113 false [pp 16],
 qg 115 (.r (loadF (tt 114) 1 .sc)) 113 false [pp 114],
 mg 116 13 113 false,
 qg 117 (.p (nilcF (tt 116))) 113 false [pp 116],
 qg 118 (.p (faddrF (tt 117) 7)) 113 false [pp 117],
 qg 119 (.r (loadF (tt 118) 1 .sc)) 113 false [pp 118],
 qg 120 (.p (eqcF true false [.int .u64] (tt 115) (tt 119))) 113 false [pp 115,pp 119],
 qo 121 (.p (pickF (tt 113) (.c (.bool true)) (tt 120))) [pp 113,pp 120]] [0,1,3,7,15,7,39,127,255,511,1023,2047,1023,5119,13311,29695,65535,131071]) (
 .cond (tt 121) (.exit 2) (.skip))) (
 .seq (.regD [
 mv 123 13,
 qo 124 (.p (nilcF (tt 123))) [pp 123],
 qo 125 (.p (faddrF (tt 124) 3)) [pp 124],
 qo 126 (.r (loadF (tt 125) 1 .sc)) [pp 125],
 mv 127 13,
 qo 128 (.p (nilcF (tt 127))) [pp 127],
 qo 129 (.p (faddrF (tt 128) 6)) [pp 128],
 qo 130 (.r (loadF (tt 129) 1 .sc)) [pp 129],
 mv 131 13,
 qo 132 (.p (nilcF (tt 131))) [pp 131],
 qo 133 (.p (faddrF (tt 132) 7)) [pp 132],
 qo 134 (.r (loadF (tt 133) 1 .sc)) [pp 133],
 qo 135 (.p (faddrF (tt 16) 2)) [pp 16],
 qo 136 (.r (loadF (tt 135) 1 .sc)) [pp 135],
 qo 137 (.c (callF (ff 45) [(tt 136)])) [pp 136],
 qo 138 (.c (callF (ff 44) [(tt 126),(tt 130),(tt 134),(tt 137)])) [pp 126,pp 130,pp 134,pp 137],
 mv 122 138,
 qo 139 (.p (extF (tt 122) 0)) [pp 122],
 qo 140 (.p (extF (tt 122) 1)) [pp 122],
 mv 17 139,
 mv 15 140] [0,1,3,7,0,16,48,112,0,256,768,1792,0,4096,12288,32767,65535,131071,131071,262143,1048575]) (
 .seq (.seq (.reg [
 mv 141 15,
 qo 142 (.p (eqcF true false [.int .i64] (tt 141) (ii 0))) [pp 141]]) (
 .cond (tt 142) (.exit 2) (.skip))) (
 .regD [
 mv 143 13,
 mv 144 13,
 mv 145 13,
 qo 146 (.p (nilcF (tt 145))) [pp 145],
 qo 147 (.p (faddrF (tt 146) 8)) [pp 146],
 qo 148 (.r (loadF (tt 147) 1 .sc)) [pp 147],
 qo 149 (.r (loadF (tt 16) 4 .ag)) [pp 16],
 qo 150 (.m (bsliceF 1 4 [.int .u64 0,.int .u64 0,.int .i64 0,.int .u32 0] [(0,4,(tt 149))])) [pp 149],
 qo 151 (.a (appF 4 32 (tt 148) (tt 150))) [pp 148,pp 150],
 mv 152 17,
 qo 153 (.p (nilcF (tt 143))) [pp 143],
 qo 154 (.p (faddrF (tt 153) 8)) [pp 153],
 qn (.a (storeF (tt 154) (tt 151) 1)) [pp 154,pp 151],
 qo 155 (.p (nilcF (tt 144))) [pp 144],
 qo 156 (.p (faddrF (tt 155) 7)) [pp 155],
 qn (.a (storeF (tt 156) (tt 152) 1)) [pp 156,pp 152]] [0,0,0,4,12,28,0,64,252,0,509,1533,3581,8191,16383,32767])))))))) (
 .reg [
 qo 157 (.p (arF .add (tt 84) (ii 1))) [pp 84],
 mv 84 157])))
noncomputable def c10_l1:C:=.seq (.reg [
 qo 25 (.p (arF .lss (tt 24) (ii 2))) [pp 24]]) (
 .seq (.cond (tt 25) (.skip) (.exit 0)) (
 .seq (.block 1 (.seq (.reg [
 mv 26 24,
 mv 8 26]) (
 .seq (.reg [
 qo 9 (.p (S.get (ii 0))) []]) (
 .seq (.reg [
 mv 28 8,
 mv 29 0,
 mv 30 1,
 mv 31 8,
 qo 32 (.c (callF (ff 30) [(tt 29),(tt 30),(tt 31)])) [pp 29,pp 30,pp 31],
 mv 27 32,
 qo 33 (.p (extF (tt 27) 0)) [pp 27],
 qo 34 (.p (extF (tt 27) 1)) [pp 27],
 qo 35 (.p (iaddrAF (tt 7) (tt 28) 2 64)) [pp 7,pp 28],
 qn (.a (storeF (tt 35) (tt 33) 64)) [pp 35,pp 33],
 mv 9 34]) (
 .seq (.reg [
 mv 36 9,
 qo 37 (.p (eqcF true false [.int .i64] (tt 36) (ii 0))) [pp 36]]) (
 .cond (tt 37) (.seq (.reg [
 mv 38 9,
 qo 4 (.p (S.get (.c (.ptr none)))) [],
 mv 5 38]) (
 .ret)) (.skip))))))) (
 .reg [
 qo 39 (.p (arF .add (tt 24) (ii 1))) [pp 24],
 mv 24 39])))
noncomputable def c10:CFn:=⟨[.tmp (pp 4),.tmp (pp 5)],
 .seq (.reg [
 qo 4 (.p (S.get (.c (.ptr none)))) [],
 qo 5 (.p (S.get (ii 0))) []]) (
 .seq (.seq (.reg [
 mv 18 0,
 mv 19 1,
 qo 20 (.c (callF (ff 38) [(tt 18),(tt 19),(ii 50)])) [pp 18,pp 19],
 mv 6 20]) (
 .seq (.reg [
 mv 21 6,
 qo 22 (.p (eqcF true false [.int .i64] (tt 21) (ii 0))) [pp 21]]) (
 .cond (tt 22) (.seq (.reg [
 mv 23 6,
 qo 4 (.p (S.get (.c (.ptr none)))) [],
 mv 5 23]) (
 .ret)) (.skip)))) (
 .seq (.reg [
 qo 7 (.m (allocF 128 [.blk 0,.blk 0])) []]) (
 .seq (.seq (.reg [
 qo 24 (.p (S.get (ii 0))) []]) (
 .block 0 (.loop c10_l1))) (
 .seq (.reg [
 qo 41 (.p (iaddrAF (tt 7) (ii 0) 2 64)) [pp 7],
 qo 42 (.r (loadF (tt 41) 64 .bk)) [pp 41],
 qo 43 (.p (iaddrAF (tt 7) (ii 1) 2 64)) [pp 7],
 qo 44 (.r (loadF (tt 43) 64 .bk)) [pp 43],
 qo 45 (.c (callF (ff 39) [(tt 42),(tt 44)])) [pp 42,pp 44],
 mv 40 45,
 qo 46 (.p (extF (tt 40) 0)) [pp 40],
 qo 47 (.p (extF (tt 40) 1)) [pp 40],
 qo 48 (.p (extF (tt 40) 2)) [pp 40],
 qo 11 (.m (allocF 4 [.int .u64 0,.int .i64 0,.int .u64 0,.int .u64 0])) [],
 mv 10 46,
 qn (.a (storeF (tt 11) (tt 47) 4)) [pp 11,pp 47],
 mv 12 48]) (
 .seq (.seq (.regD [
 mv 49 12,
 qo 50 (.p (eqcF true false [.int .i64] (tt 49) (ii 0))) [pp 49],
 mv 51 50,
 qg 52 (.p (faddrF (tt 11) 1)) 51 false [pp 11],
 qg 53 (.r (loadF (tt 52) 1 .sc)) 51 false [pp 52],
 mg 54 0 51 false,
 mg 55 1 51 false,
 qg 56 (.c (callF (ff 40) [(tt 54),(tt 55)])) 51 false [pp 54,pp 55],
 qg 57 (.p (arF .sub (tt 56) (ii 10))) 51 false [pp 56],
 qg 58 (.p (arF .gtr (tt 53) (tt 57))) 51 false [pp 53,pp 57],
 qo 59 (.p (pickF (tt 51) (.c (.bool true)) (tt 58))) [pp 51,pp 58],
 mv 60 59,
 mg 61 10 60 false,
 qg 62 (.p (faddrF (tt 11) 2)) 60 false [pp 11],
 qg 63 (.r (loadF (tt 62) 1 .sc)) 60 false [pp 62],
 qg 64 (.p (faddrF (tt 11) 3)) 60 false [pp 11],
 qg 65 (.r (loadF (tt 64) 1 .sc)) 60 false [pp 64],
 qg 66 (.p (foldF max2 [(tt 61),(tt 63),(tt 65)])) 60 false [pp 61,pp 63,pp 65],
 qg 67 (.p (arF .gtr (tt 66) (.c (.int .u64 2305843009213693952)))) 60 false [pp 66],
 qo 68 (.p (pickF (tt 60) (.c (.bool true)) (tt 67))) [pp 60,pp 67]] [0,1,3,7,15,7,7,103,231,511,1023,2047,4095,4095,12287,4095,36863,131071,262143,524287]) (
 .cond (tt 68) (.seq (.reg [
 qo 4 (.p (S.get (.c (.ptr none)))) [],
 qo 5 (.p (S.get (ii 5))) []]) (
 .ret)) (.skip))) (
 .seq (.reg [
 mv 69 0,
 mv 70 1,
 qo 71 (.p (faddrF (tt 11) 0)) [pp 11],
 qo 72 (.r (loadF (tt 71) 1 .sc)) [pp 71],
 qo 73 (.p (faddrF (tt 11) 1)) [pp 11],
 qo 74 (.r (loadF (tt 73) 1 .sc)) [pp 73],
 mv 75 10,
 qo 76 (.p (faddrF (tt 11) 2)) [pp 11],
 qo 77 (.r (loadF (tt 76) 1 .sc)) [pp 76],
 qo 78 (.p (faddrF (tt 11) 3)) [pp 11],
 qo 79 (.r (loadF (tt 78) 1 .sc)) [pp 78],
 qo 80 (.p (faddrF (tt 11) 3)) [pp 11],
 qo 81 (.r (loadF (tt 80) 1 .sc)) [pp 80],
 qo 82 (.p (buildF [.ptr none,.int .i64 0,.int .u64 0,.int .i64 0,.int .u64 0,.int .u64 0,.int .u64 0,.int .u64 0,.slice none 0 0 0] .ag [(0,1,(tt 69)),(1,1,(tt 70)),(2,1,(tt 72)),(3,1,(tt 74)),(4,1,(tt 75)),(5,1,(tt 77)),(6,1,(tt 79)),(7,1,(tt 81))])) [pp 69,pp 70,pp 72,pp 74,pp 75,pp 77,pp 79,pp 81],
 qo 83 (.m (boxF 9 (tt 82))) [pp 82],
 mv 13 83]) (
 .seq (.seq (.reg [
 qo 84 (.p (S.get (ii 0))) []]) (
 .block 2 (.loop c10_l0))) (
 .seq (.reg [
 mv 158 13,
 mv 4 158,
 qo 5 (.p (S.get (ii 0))) []]) (
 .ret)))))))))⟩
theorem c10_eq:fnOf Tryz.prog 10=some c10:=by kernel_rfl
noncomputable def nextOk (R first tail:Nat) (i head X:Nat):Bool:=noteOk X&&decide ((ntG X).seq=first+i)&&decide ((ntG X).pos=head)&&roomR R tail head (recS (ntG X).cells)
noncomputable def goN (rd:Nat→Nat) (R first tail:Nat):Nat→List Nt→Nat→List Nt × Nat
 | 0,N,h=>(N,h)
 | k+1,N,h=>match nextOk R first tail N.length h (rd (2+(first+N.length) % 8)) with
  | true=>goN rd R first tail k (N++[ntG (rd (2+(first+N.length) % 8))]) (h+recS (ntG (rd (2+(first+N.length) % 8))).cells)
  | false=>(N,h)
section
variable {lf K:Nat} (hlf:1000 < lf)
include hlf
theorem ulopen_loop {G0:Heap} {l b:Bk} {lx:Nat} (hlx:l=.run lx) (lxo:G0.next≤lx) {id R cnt first tail:Nat} {B:Bn} (hf:Fit B) (bo:G0.Old b) (hR:1≤R∧R≤256) (hfirst:first≤2305843009213693952) (ht:tail≤2305843009213693952) (hrc:∀ j:Nat,j < 10→B.rc 0 (j:Int)=0) (n:Nat):∀(t:T) (G1:Heap),G1.get l=some (.rows false 9 [lcells b id R cnt first tail tail (.slice none 0 0 0)])→G1.Old l→G1.get b=some (bx false B)→Turns Z G0 G1→t.getP (Tr.path 0)=some (.ptr (some ⟨b,0⟩))→t.getP (Tr.path 1)=some (.int .i64 0)→t.getP (Tr.path 13)=some (.ptr (some ⟨l,0⟩))→t.getP (Tr.path 84)=some (.int .i64 0) →
  wp (loopF (runC (U lf K (n+7)) lf c10_l0) lf ⟨t,G1,[]⟩) fun x s=>x=.ex 2∧s.d=[]∧s.t.getP (Tr.path 13)=some (.ptr (some ⟨l,0⟩))∧s.H.get b=some (bx false B)∧Turns Z G0 s.H∧∃ lv,LogAt s.H l b id R cnt first tail (goN (fun j=>B.read 0 (j:Int)) R first tail 8 [] tail).2 (goN (fun j=>B.read 0 (j:Int)) R first tail 8 [] tail).1 lv∧∀ c,Bof lv c→¬ G0.Old c:=by
 intro t G1 hl1 ho1 hb1 hT1 q0 q1 q13 q84
 have lo:¬ G0.Old l:=by rw[hlx];exact Heap.not_old lxo
 have lb:l≠b:=fun e=>lo (e ▸ bo)
 obtain⟨W,hW⟩:∃ W,W=goN (fun j=>B.read 0 (j:Int)) R first tail 8 [] tail:=⟨_,rfl⟩
 rw[← hW]
 refine wp_loopF (fun m s=>∃(i:Nat) (N:List Nt) (head:Nat) (lv:V),m=8 - i∧i≤8∧N.length=i∧s.d=[]∧goN (fun j=>B.read 0 (j:Int)) R first tail (8 - i) N head=W∧Rg R tail head∧s.H.get l=some (.rows false 9 [lcells b id R cnt first tail head lv])∧s.H.Old l∧Lst G0 s.H 4 (rowsT N) lv∧s.H.get b=some (bx false B)∧Turns Z G0 s.H∧s.t.getP (Tr.path 0)=some (.ptr (some ⟨b,0⟩))∧s.t.getP (Tr.path 1)=some (.int .i64 0)∧s.t.getP (Tr.path 13)=some (.ptr (some ⟨l,0⟩))∧s.t.getP (Tr.path 84)=some (.int .i64 (i:Int)))
  ?_ lf 8 _ ⟨0,[],tail,_,rfl,Nat.zero_le _,rfl,rfl,hW.symm,⟨hR,Nat.le_refl _,by omega,by omega⟩,hl1,ho1,Lst.nil _ _ _,hb1,hT1,q0,q1,q13,q84⟩ (by omega)
 rintro m ⟨t,H,dd⟩ ⟨i,N,head,lv,rfl,hi,hNl,hd,hW2,hrg,hl,ho,hN,hb,hT,q0,q1,q13,q84⟩
 dsimp only at hd hl ho hN hb hT q0 q1 q13 q84
 subst hd
 have hLog:LogAt H l b id R cnt first tail head N lv:=⟨⟨hl,G0,hN,hT.next⟩,ho,hR,hrg,by omega,by omega⟩
 have hfin:∀ {H':Heap},Turns Z H H'→W=(N,head)→(H'.get b=some (bx false B)∧Turns Z G0 H'∧∃ lv,LogAt H' l b id R cnt first tail W.2 W.1 lv∧∀ c,Bof lv c→¬ G0.Old c):=by
  intro H' tt e
  rw[e]
  have hbo:H.Old b:=bo.mono hT.next
  refine⟨(tt.same b hbo (fun h=>h)).trans hb,hT.trans tt,lv,⟨⟨(tt.same l ho (fun h=>h)).trans hl,G0,hN.turns tt (fun _ _ h=>h),Nat.le_trans hT.next tt.next⟩,ho.mono tt.next,hR,hrg,hLog.fn,hLog.nl⟩,fun c hc=>?_⟩
  obtain⟨q,rfl,hq,_⟩:=hN.bof hc
  exact Heap.not_old hq
 by_cases hlt:i < 8
 rotate_left
 ·have:i=8:=by omega
  subst this
  have hnl:¬ (((8:Nat):Int) < 8):=by decide
  have:=hfin (Turns.refl Z H) hW2.symm
  simp (maxDischargeDepth:=12) only[c10_l0,q84,hnl,hv,ldO_one,stO_one,sy,tup,↓reduceIte,zA,zG,zC,zD,zF,zE,zB,zH,reduceCtorEq]
  exact⟨trivial,trivial,q13,this⟩
 have hlt':(i:Int) < 8:=by omega
 have w1:IntKind.i64.wrap ((i:Int)+1)=((i+1:Nat):Int):=by rw[Go.Am.wrap_i64 (by omega)];omega
 obtain⟨sq,hsq⟩:∃ sq,sq=first+N.length:=⟨_,rfl⟩
 have e1:=ulnext hlf hLog (K:=K) (n+6)
 rw[← hsq] at e1
 have eS:=fun H=>unslot hlf (K:=K) H (q:=sq) (n+6)
 obtain⟨z8,hz8⟩:∃ z,z=sq % 8:=⟨_,rfl⟩
 have hz8':z8 < 8:=by rw[hz8];exact Nat.mod_lt _ (by decide)
 rw[← hz8] at eS
 obtain⟨m,hm⟩:∃ m:Int,m=((2+z8:Nat):Int):=⟨_,rfl⟩
 have wm:IntKind.i64.wrap (2+(z8:Int))=m:=by rw[Go.Am.wrap_i64 (by omega)];omega
 have hrc1:=hrc (2+z8) (by omega)
 rw[← hm] at hrc1
 have eR:=qRead (lf:=lf) (K:=K) (w:=n+6) hb hf 0 m
 rw[hrc1] at eR
 obtain⟨X,hX⟩:∃ X,X=B.read 0 m:=⟨_,rfl⟩
 rw[← hX] at eR
 have hstep:goN (fun j=>B.read 0 (j:Int)) R first tail (8 - i) N head=match nextOk R first tail N.length head X with
  | true=>goN (fun j=>B.read 0 (j:Int)) R first tail (8 - (i+1)) (N++[ntG X]) (head+recS (ntG X).cells)
  | false=>(N,head):=by
  rw[show 8 - i=(8 - (i+1))+1 by omega,goN,hX,hm,hz8,hsq]
 rw[hW2] at hstep
 have t2:Turns Z H (((H.skip (K+2)).add (.rows false 64 [[.blk 0]])).set (.run (H.next+(K+2))) (.rows false 64 [[.blk X]])):=by
  refine Turns.setn ?_ _ (by omega) _
  exact((Turns.refl Z H).skip _).addm _
 have hx2:(((H.skip (K+2)).add (.rows false 64 [[.blk 0]])).set (.run (H.next+(K+2))) (.rows false 64 [[.blk X]])).get (.run (H.next+(K+2)))=some (.rows false 64 [[.blk X]]):=by rw[Heap.get_set,if_pos rfl]
 obtain⟨H2,hH2⟩:∃ H2,((H.skip (K+2)).add (.rows false 64 [[.blk 0]])).set (.run (H.next+(K+2))) (.rows false 64 [[.blk X]])=H2:=⟨_,rfl⟩
 have nn2:H2.next=H.next+(K+2)+1:=by rw[← hH2];rfl
 rw[hH2] at t2 hx2
 obtain⟨v3,H3,e3,t3,h3⟩:=unget hlf H2 X (K:=K) (n+1)
 have nn3:=t3.next
 have b00:((0:Int)==0)=true:=rfl
 have z4:put [V.int .u64 0,.int .u64 0,.int .i64 0,.int .u32 0] 0 [.int .u64 0,.int .u64 0,.int .i64 0,.int .u32 0]=some [V.int .u64 0,.int .u64 0,.int .i64 0,.int .u32 0]:=rfl
 have w4:width [V.int .u64 0,.int .u64 0,.int .i64 0,.int .u32 0]=4:=rfl
 rcases h3 with ⟨hok,rfl⟩ | ⟨hok,E,hE,rfl⟩
 rotate_left
 ·have hE':(E==0)=false:=beq_eq_false_iff_ne.2 hE
  have t4:Turns Z H3 ((H3.add (.rows false 4 [[.int .u64 0,.int .u64 0,.int .i64 0,.int .u32 0]])).set (.run H3.next) (.rows false 4 [[.int .u64 0,.int .u64 0,.int .i64 0,.int .u32 0]])):=by repeat (first | exact Turns.refl _ _ | apply Turns.skip | apply Turns.addm | apply Turns.setb | apply Turns.setl | apply Turns.setr | refine Turns.setn ?_ _ (by omega) _ | refine Turns.trans ?_ (tF _))
  obtain⟨H4,hH4⟩:∃ H4,(H3.add (.rows false 4 [[.int .u64 0,.int .u64 0,.int .i64 0,.int .u32 0]])).set (.run H3.next) (.rows false 4 [[.int .u64 0,.int .u64 0,.int .i64 0,.int .u32 0]])=H4:=⟨_,rfl⟩
  rw[hH4] at t4
  have hno:nextOk R first tail N.length head X=false:=by unfold nextOk;rw[hok];rfl
  rw[hno] at hstep
  simp (maxDischargeDepth:=12) only[c10_l0,q0,q1,q13,q84,hlt',e1,eS,wm,eR,hH2,b00,hx2,Dh,e3,z4,w4,hH4,hE',hv,ldO_one,stO_one,sy,tup,↓reduceIte,zA,zG,zC,zD,zF,zE,zB,zH,reduceCtorEq]
  rw[endD_ok (by kernel_rfl) (by kernel_rfl)]
  simp (maxDischargeDepth:=12) only[q13,hv,ldO_one,stO_one,sy,tup,↓reduceIte,zA,zG,zC,zD,zF,zE,zB,zH,reduceCtorEq]
  exact⟨trivial,trivial,trivial,hfin ((t2.trans t3).trans t4) hstep⟩
 obtain⟨nt,hnt⟩:∃ nt,nt=ntG X:=⟨_,rfl⟩
 rw[← hnt] at e3 hstep
 have hno:nextOk R first tail N.length head X=(decide (nt.seq=sq)&&decide (nt.pos=head)&&roomR R tail head (recS nt.cells)):=by unfold nextOk;rw[hok,← hnt,hsq,Bool.true_and]
 rw[hno] at hstep
 have hmay:NtOk nt:=by
  unfold noteOk at hok
  simp only[Bool.and_eq_true] at hok
  rw[hnt]
  exact ntMay_ok hok.1.2 (bd_lt X 10)
 have hntv:ntV nt=[.int .u64 (nt.seq:Int),.int .u64 (nt.pos:Int),.int .i64 (nt.cells:Int),.int .u32 (nt.sum:Int)]:=rfl
 have n0:cut (ntV nt) 0 1=some [.int .u64 (nt.seq:Int)]:=rfl
 have n1:cut (ntV nt) 1 1=some [.int .u64 (nt.pos:Int)]:=rfl
 have n2:cut (ntV nt) 2 1=some [.int .i64 (nt.cells:Int)]:=rfl
 have pn:put [V.int .u64 0,.int .u64 0,.int .i64 0,.int .u32 0] 0 (ntV nt)=some (ntV nt):=rfl
 have wn:width (ntV nt)=4:=rfl
 have t4:Turns Z H3 ((H3.add (.rows false 4 [[.int .u64 0,.int .u64 0,.int .i64 0,.int .u32 0]])).set (.run H3.next) (.rows false 4 [ntV nt])):=by repeat (first | exact Turns.refl _ _ | apply Turns.skip | apply Turns.addm | apply Turns.setb | apply Turns.setl | apply Turns.setr | refine Turns.setn ?_ _ (by omega) _ | refine Turns.trans ?_ (tF _))
 have h4:((H3.add (.rows false 4 [[.int .u64 0,.int .u64 0,.int .i64 0,.int .u32 0]])).set (.run H3.next) (.rows false 4 [ntV nt])).get (.run H3.next)=some (.rows false 4 [ntV nt]):=by rw[Heap.get_set,if_pos rfl]
 obtain⟨H4,hH4⟩:∃ H4,(H3.add (.rows false 4 [[.int .u64 0,.int .u64 0,.int .i64 0,.int .u32 0]])).set (.run H3.next) (.rows false 4 [ntV nt])=H4:=⟨_,rfl⟩
 have nn4:H4.next=H3.next+1:=by rw[← hH4];rfl
 rw[hH4] at t4 h4
 have tH4:=(t2.trans t3).trans t4
 have hl4:=(tH4.same l ho (fun h=>h)).trans hl
 have hLog4:LogAt H4 l b id R cnt first tail head N lv:=⟨⟨hl4,G0,hN.turns tH4 (fun _ _ h=>h),Nat.le_trans hT.next tH4.next⟩,ho.mono tH4.next,hR,hrg,hLog.fn,hLog.nl⟩
 have e5:=ulnext hlf hLog4 (K:=K) (n+6)
 rw[← hsq] at e5
 have k7:cut (lcells b id R cnt first tail head lv) 7 1=some [.int .u64 (head:Int)]:=rfl
 have k6:cut (lcells b id R cnt first tail head lv) 6 1=some [.int .u64 (tail:Int)]:=rfl
 have k3:cut (lcells b id R cnt first tail head lv) 3 1=some [.int .i64 (R:Int)]:=rfl
 obtain⟨Q,hQ⟩:∃ Q:List (Option V × Option V),Q=[(loadF (.t (Tr.path 107)) 1 .sc (Tr.setP (Tr.path 107) (.ptr (some ⟨.run H3.next,0⟩)) .e) H4,some (.int .u64 (nt.seq:Int))),(loadF (.t (Tr.path 107)) 1 .sc (Tr.setP (Tr.path 107) (.ptr (some ⟨.run H3.next,0⟩)) .e) H4,some (.int .u64 (nt.seq:Int)))]:=⟨_,rfl⟩
 have hQ':∀ x ∈ Q,x.1=x.2:=by
  rw[hQ]
  intro x hx
  simp only[List.mem_cons,List.not_mem_nil,or_false] at hx
  rcases hx with rfl | rfl<;>simp (maxDischargeDepth:=12) only[h4,n0,hv,ldO_one,stO_one,sy,tup,↓reduceIte,zA,zG,zC,zD,zF,zE,zB,zH,reduceCtorEq]
 by_cases h1:nt.seq=sq
 rotate_left
 ·have h1':((nt.seq:Int)==(sq:Int))=false:=by rw[beq_eq_false_iff_ne];omega
  rw[decide_eq_false h1,Bool.false_and,Bool.false_and] at hstep
  simp (maxDischargeDepth:=12) only[c10_l0,q0,q1,q13,q84,hlt',e1,eS,wm,eR,hH2,b00,hx2,Dh,e3,wn,pn,hH4,h4,n0,n1,e5,hl4,k7,h1',hv,ldO_one,stO_one,sy,tup,↓reduceIte,zA,zG,zC,zD,zF,zE,zB,zH,reduceCtorEq]
  rw[endD_q (q:=Q) (by kernel_rfl) (by rw[hQ];kernel_rfl)]
  simp (maxDischargeDepth:=12) only[q13,hv,ldO_one,stO_one,sy,tup,↓reduceIte,zA,zG,zC,zD,zF,zE,zB,zH,reduceCtorEq]
  exact⟨trivial,trivial,trivial,hfin (tH4.owe hQ') hstep⟩
 have h1':((nt.seq:Int)==(sq:Int))=true:=by rw[beq_iff_eq];omega
 by_cases h2:nt.pos=head
 rotate_left
 ·have h2':((nt.pos:Int)==(head:Int))=false:=by rw[beq_eq_false_iff_ne];omega
  rw[decide_eq_false h2,Bool.and_false,Bool.false_and] at hstep
  simp (maxDischargeDepth:=12) only[c10_l0,q0,q1,q13,q84,hlt',e1,eS,wm,eR,hH2,b00,hx2,Dh,e3,wn,pn,hH4,h4,n0,n1,e5,hl4,k7,h1',h2',hv,ldO_one,stO_one,sy,tup,↓reduceIte,zA,zG,zC,zD,zF,zE,zB,zH,reduceCtorEq]
  rw[endD_q (q:=Q) (by kernel_rfl) (by rw[hQ];kernel_rfl)]
  simp (maxDischargeDepth:=12) only[q13,hv,ldO_one,stO_one,sy,tup,↓reduceIte,zA,zG,zC,zD,zF,zE,zB,zH,reduceCtorEq]
  exact⟨trivial,trivial,trivial,hfin (tH4.owe hQ') hstep⟩
 have h2':((nt.pos:Int)==(head:Int))=true:=by rw[beq_iff_eq];omega
 rw[decide_eq_true h1,decide_eq_true h2,Bool.true_and,Bool.true_and] at hstep
 simp (maxDischargeDepth:=12) only[c10_l0,q0,q1,q13,q84,hlt',e1,eS,wm,eR,hH2,b00,hx2,Dh,e3,wn,pn,hH4,h4,n0,n1,e5,hl4,k7,h1',h2',hv,ldO_one,stO_one,sy,tup,↓reduceIte,zA,zG,zC,zD,zF,zE,zB,zH,reduceCtorEq]
 rw[endD_q (q:=Q) (by kernel_rfl) (by rw[hQ];kernel_rfl)]
 obtain⟨H5,hH5⟩:∃ H5,H4.owe Q=H5:=⟨_,rfl⟩
 have t5:Turns Z H H5:=by rw[← hH5];exact tH4.owe hQ'
 have get5:∀ c,H5.get c=H4.get c:=fun c=>by rw[← hH5,get_owe]
 have hl5:=(get5 l).trans hl4
 have h5:=(get5 _).trans h4
 have hcl:1≤nt.cells∧nt.cells≤32:=hmay.cells
 have e6:=usize hlf (K:=K) H5 (k:=nt.cells) (by omega) (n+5)
 rw[szR_rec hlf hcl.1 hcl.2] at e6
 obtain⟨k,hk⟩:∃ k,k=recS nt.cells:=⟨_,rfl⟩
 have hk34:1≤k∧k≤34:=by rw[hk];unfold recS;omega
 rw[← hk] at e6 hstep
 have e7:=urtake hlf (K:=K) H5 hrg (k:=k) (by omega) (n+4)
 rw[hH5]
 obtain⟨hd',hhd⟩:∃ hd',hd'=head+k:=⟨_,rfl⟩
 rw[← hhd] at e7 hstep
 obtain⟨Q5,hQ5⟩:∃ Q:List (Option V × Option V),Q=[(loadF (.t (Tr.path 125)) 1 .sc (Tr.setP (Tr.path 125) (.ptr (some ⟨l,3⟩)) .e) H5,some (.int .i64 (R:Int))),(loadF (.t (Tr.path 125)) 1 .sc (Tr.setP (Tr.path 125) (.ptr (some ⟨l,3⟩)) .e) H5,some (.int .i64 (R:Int))),(loadF (.t (Tr.path 129)) 1 .sc (Tr.setP (Tr.path 129) (.ptr (some ⟨l,6⟩)) .e) H5,some (.int .u64 (tail:Int))),(loadF (.t (Tr.path 129)) 1 .sc (Tr.setP (Tr.path 129) (.ptr (some ⟨l,6⟩)) .e) H5,some (.int .u64 (tail:Int))),(loadF (.t (Tr.path 133)) 1 .sc (Tr.setP (Tr.path 133) (.ptr (some ⟨l,7⟩)) .e) H5,some (.int .u64 (head:Int))),(loadF (.t (Tr.path 133)) 1 .sc (Tr.setP (Tr.path 133) (.ptr (some ⟨l,7⟩)) .e) H5,some (.int .u64 (head:Int)))]:=⟨_,rfl⟩
 have hQ5':∀ x ∈ Q5,x.1=x.2:=by
  rw[hQ5]
  intro x hx
  simp only[List.mem_cons,List.not_mem_nil,or_false] at hx
  rcases hx with rfl | rfl | rfl | rfl | rfl | rfl<;>simp (maxDischargeDepth:=12) only[hl5,k3,k6,k7,hv,ldO_one,stO_one,sy,tup,↓reduceIte,zA,zG,zC,zD,zF,zE,zB,zH,reduceCtorEq]
 cases hroom:roomR R tail head k
 ·rw[hroom] at e7 hstep
  rw[if_neg (by decide)] at e7
  have b10:((10:Int)==0)=false:=rfl
  simp (maxDischargeDepth:=12) only[q13,hl5,h5,k3,k6,k7,n2,e6,e7,hv,ldO_one,stO_one,sy,tup,↓reduceIte,zA,zG,zC,zD,zF,zE,zB,zH,reduceCtorEq]
  rw[endD_q (q:=Q5) (by kernel_rfl) (by rw[hQ5];kernel_rfl)]
  simp (maxDischargeDepth:=12) only[q13,b10,hv,ldO_one,stO_one,sy,tup,↓reduceIte,zA,zG,zC,zD,zF,zE,zB,zH,reduceCtorEq]
  exact⟨trivial,trivial,trivial,hfin (t5.owe hQ5') hstep⟩
 ·rw[hroom] at e7 hstep
  rw[if_pos rfl] at e7
  simp (maxDischargeDepth:=12) only[q13,hl5,h5,k3,k6,k7,n2,e6,e7,hv,ldO_one,stO_one,sy,tup,↓reduceIte,zA,zG,zC,zD,zF,zE,zB,zH,reduceCtorEq]
  rw[endD_q (q:=Q5) (by kernel_rfl) (by rw[hQ5];kernel_rfl)]
  obtain⟨H6,hH6⟩:∃ H6,H5.owe Q5=H6:=⟨_,rfl⟩
  have t6:Turns Z H H6:=by rw[← hH6];exact t5.owe hQ5'
  have get6:∀ c,H6.get c=H4.get c:=fun c=>by rw[← hH6,get_owe,get5]
  have hl6:=(get6 l).trans hl4
  have h6:=(get6 _).trans h4
  have nn6:=t6.next
  rw[hH6]
  have hrl:=rowsT_len N
  obtain⟨lp,lc,lo',rfl⟩:=hN.val
  rw[hrl] at hl6 hN
  have k8:cut (lcells b id R cnt first tail head (.slice lp N.length lc lo')) 8 1=some [.slice lp N.length lc lo']:=rfl
  have c4:cut (ntV nt) 0 4=some (ntV nt):=rfl
  have t7:=Turns.add Z H6 (.rows false 4 [ntV nt])
  have hx7:(H6.add (.rows false 4 [ntV nt])).get (.run H6.next)=some (.rows false 4 [ntV nt]):=by rw[Heap.get_add,if_pos rfl]
  obtain⟨H7,hH7⟩:∃ H7,H6.add (.rows false 4 [ntV nt])=H7:=⟨_,rfl⟩
  rw[hH7] at t7 hx7
  have tH7:=t6.trans t7
  have hN7:=hN.turns tH7 (fun _ _ h=>h)
  have tG7:=hT.trans tH7
  obtain⟨H8,ea,hN8,t8,nx8⟩:=hN7.app1 (by':=32) tG7.next hx7 c4 (by decide) (by rw[hrl];omega) (by rw[hrl];omega)
  rw[hrl] at ea hN8
  have hl7:=(t7.same l (ho.mono nn6) (fun h=>h)).trans hl6
  have lnB:¬ Bof (.slice lp N.length lc lo') l:=fun hB=>by
   obtain⟨_,_,_,_,hgB⟩:=hN7.bof hB
   rw[hl7] at hgB;cases hgB
  have hl8:=(t8.same l (ho.mono tH7.next) lnB).trans hl7
  have p8:put (lcells b id R cnt first tail head (.slice lp N.length lc lo')) 8 [.slice (some ⟨.run H7.next,0⟩) (N.length+1) (N.length+1) 4]=some (lcells b id R cnt first tail head (.slice (some ⟨.run H7.next,0⟩) (N.length+1) (N.length+1) 4)):=rfl
  have p7:put (lcells b id R cnt first tail head (.slice (some ⟨.run H7.next,0⟩) (N.length+1) (N.length+1) 4)) 7 [.int .u64 (hd':Int)]=some (lcells b id R cnt first tail hd' (.slice (some ⟨.run H7.next,0⟩) (N.length+1) (N.length+1) 4)):=rfl
  have wnt:width (ntV nt)=4:=rfl
  have cnt4:(V.agg (ntV nt)).cells=some (ntV nt):=rfl
  simp (maxDischargeDepth:=12) only[q13,q84,b00,hl6,k8,h6,c4,wnt,cnt4,hH7,ea,hl8,p8,p7,w1,hv,ldO_one,stO_one,sy,tup,↓reduceIte,zA,zG,zC,zD,zF,zE,zB,zH,reduceCtorEq]
  rw[endD_ok (by kernel_rfl) (by kernel_rfl)]
  simp (maxDischargeDepth:=12) only[q0,q1,q13,q84,w1,hv,ldO_one,stO_one,sy,tup,↓reduceIte,zA,zG,zC,zD,zF,zE,zB,zH,reduceCtorEq]
  have hRg:=hrg
  obtain⟨_,r1,r2,r3⟩:=hRg
  have hroom':=hroom
  unfold roomR at hroom'
  simp only[Bool.and_eq_true,decide_eq_true_eq] at hroom'
  have lnew:¬ (Bk.run H7.next=l):=fun e=>by
   have:=ho
   rw[← e] at this
   exact absurd this (Heap.not_old tH7.next)
  have t8':=lst_away hN7 tG7 (Nat.le_refl _) t8
  have hb8:=(t8'.same b bo (fun h=>h))
  have hbG:G0.get b=some (bx false B):=((hT.same b bo (fun h=>h)).symm).trans hb
  refine⟨8 - (i+1),by omega,i+1,N++[nt],hd',.slice (some ⟨.run H7.next,0⟩) (N.length+1) (N.length+1) 4,rfl,by omega,by simp[hNl],trivial,hstep.symm,⟨hR,by omega,by omega,by omega⟩,?_,?_,?_,?_,?_,by simp[q0],by simp[q1],by simp[q13],by simp⟩
  ·rfl
  ·exact(ho.mono (Nat.le_trans tH7.next t8.next))
  ·have er:rowsT (N++[nt])=rowsT N++[ntV nt]:=by
    unfold rowsT
    rw[List.map_append];rfl
   rw[er]
   have ts:∀(J:Heap) (o:Am.Obj),Lst G0 J 4 (rowsT N++[ntV nt]) (.slice (some ⟨.run H7.next,0⟩) (N.length+1) (N.length+1) 4)→Lst G0 (J.set l o) 4 (rowsT N++[ntV nt]) (.slice (some ⟨.run H7.next,0⟩) (N.length+1) (N.length+1) 4):=fun J o hJ=>hJ.turns (Turns.set (X:=fun c=>c=l) rfl J o) (fun c hc e=>by
    obtain⟨p,_,_,_,e1,e2⟩:=hc
    cases e1
    exact lnew (e2.symm.trans e))
   exact ts _ _ (ts _ _ hN8)
  ·rw[if_neg (fun e=>lb e.symm),if_neg (fun e=>lb e.symm),hb8]
   exact hbG
  ·rw[hlx]
   exact(t8'.setn _ lxo _).setn _ lxo _
end
end Go.Proofs.YtllkepkaimnodaaGreatDoor.draft
namespace Go.Proofs.YtllkepkaimnodaaGreatDoor.draft
open Go.Am
open disk (bx Fit A1 R1 Low Bn)
noncomputable def c49:CFn:=⟨[.tmp (pp 4),.cell (pp 5) 4 .ag,.tmp (pp 6)],
 .seq (.reg [
 qo 2 (.m (boxF 64 (tt 0))) [pp 0],
 qo 3 (.m (boxF 64 (tt 1))) [pp 1],
 qo 4 (.p (S.get (.c (.int .u64 0)))) [],
 qo 5 (.m (allocF 4 [.int .u64 0,.int .i64 0,.int .u64 0,.int .u64 0])) [],
 qo 6 (.p (S.get (ii 0))) []]) (
 .seq (.reg [
 qo 14 (.r (loadF (tt 2) 64 .bk)) [pp 2],
 qo 15 (.c (callF (ff 121) [(tt 14)])) [pp 14],
 mv 13 15,
 qo 16 (.p (extF (tt 13) 0)) [pp 13],
 qo 17 (.p (extF (tt 13) 1)) [pp 13],
 qo 18 (.p (extF (tt 13) 2)) [pp 13],
 qo 8 (.m (allocF 4 [.int .u64 0,.int .i64 0,.int .u64 0,.int .u64 0])) [],
 mv 7 16,
 qn (.a (storeF (tt 8) (tt 17) 4)) [pp 8,pp 17],
 mv 9 18]) (
 .seq (.reg [
 qo 20 (.r (loadF (tt 3) 64 .bk)) [pp 3],
 qo 21 (.c (callF (ff 121) [(tt 20)])) [pp 20],
 mv 19 21,
 qo 22 (.p (extF (tt 19) 0)) [pp 19],
 qo 23 (.p (extF (tt 19) 1)) [pp 19],
 qo 24 (.p (extF (tt 19) 2)) [pp 19],
 qo 11 (.m (allocF 4 [.int .u64 0,.int .i64 0,.int .u64 0,.int .u64 0])) [],
 mv 10 22,
 qn (.a (storeF (tt 11) (tt 23) 4)) [pp 11,pp 23],
 mv 12 24]) (
 .seq (.seq (.reg [
 mv 25 9,
 qo 26 (.p (eqcF true false [.int .i64] (tt 25) (ii 0))) [pp 25],
 mv 27 26,
 mg 28 12 27 true,
 qg 29 (.p (eqcF true false [.int .i64] (tt 28) (ii 0))) 27 true [pp 28],
 qo 30 (.p (pickF (tt 27) (tt 29) (.c (.bool false)))) [pp 27,pp 29]]) (
 .cond (tt 30) (.seq (.reg [
 qo 31 (.p (buildF [.int .u64 0,.int .i64 0,.int .u64 0,.int .u64 0] .ag [])) [],
 qo 4 (.p (S.get (.c (.int .u64 0)))) [],
 qn (.a (storeF (tt 5) (tt 31) 4)) [pp 5,pp 31],
 qo 6 (.p (S.get (ii 7))) []]) (
 .ret)) (.skip))) (
 .seq (.seq (.reg [
 mv 32 9,
 qo 33 (.p (eqcF true false [.int .i64] (tt 32) (ii 0))) [pp 32],
 mv 34 33,
 mg 35 12 34 false,
 qg 36 (.p (eqcF false false [.int .i64] (tt 35) (ii 0))) 34 false [pp 35],
 mg 37 36 34 false,
 mg 38 10 37 true,
 mg 39 7 37 true,
 qg 40 (.p (arF .gtr (tt 38) (tt 39))) 37 true [pp 38,pp 39],
 qg 41 (.p (pickF (tt 37) (tt 40) (.c (.bool false)))) 34 false [pp 37,pp 40],
 qo 42 (.p (pickF (tt 34) (.c (.bool true)) (tt 41))) [pp 34,pp 41]]) (
 .cond (tt 42) (.seq (.regD [
 mv 43 10,
 qo 44 (.r (loadF (tt 11) 4 .ag)) [pp 11],
 mv 4 43,
 qn (.a (storeF (tt 5) (tt 44) 4)) [pp 5,pp 44],
 qo 6 (.p (S.get (ii 0))) []] [0,0,1,7,15]) (
 .ret)) (.skip))) (
 .seq (.regD [
 mv 45 7,
 qo 46 (.r (loadF (tt 8) 4 .ag)) [pp 8],
 mv 4 45,
 qn (.a (storeF (tt 5) (tt 46) 4)) [pp 5,pp 46],
 qo 6 (.p (S.get (ii 0))) []] [0,0,1,7,15]) (
 .ret))))))⟩
theorem c49_eq:fnOf Tryz.prog 49=some c49:=by kernel_rfl
noncomputable def c51:CFn:=⟨[.tmp (pp 2)],
 .seq (.reg [
 qo 2 (.p (S.get (.c (.int .u64 0)))) []]) (
 .seq (.regD [
 mv 3 0,
 qo 4 (.p (nilcF (tt 3))) [pp 3],
 qo 5 (.p (faddrF (tt 4) 5)) [pp 4],
 qo 6 (.r (loadF (tt 5) 1 .sc)) [pp 5],
 mv 7 0,
 qo 8 (.p (nilcF (tt 7))) [pp 7],
 qo 9 (.p (faddrF (tt 8) 7)) [pp 8],
 qo 10 (.r (loadF (tt 9) 1 .sc)) [pp 9],
 qo 11 (.p (lenF (tt 10))) [pp 10],
 qo 12 (.p (convF .u64 (tt 11))) [pp 11],
 qo 13 (.p (arF .add (tt 6) (tt 12))) [pp 6,pp 12],
 mv 2 13] [0,1,3,7,0,16,48,112,240,496,1023,2047]) (
 .ret))⟩
theorem c51_eq:fnOf Tryz.prog 51=some c51:=by kernel_rfl
noncomputable def c53_l0:C:=.seq (.seq (.reg [
 mv 9 4,
 mv 10 0,
 qo 11 (.p (nilcF (tt 10))) [pp 10],
 qo 12 (.p (faddrF (tt 11) 7)) [pp 11],
 qo 13 (.r (loadF (tt 12) 1 .sc)) [pp 12],
 qo 14 (.p (lenF (tt 13))) [pp 13],
 qo 15 (.p (arF .lss (tt 9) (tt 14))) [pp 9,pp 14]]) (
 .cond (tt 15) (.skip) (.exit 0))) (
 .seq (.block 1 (.reg [
 mv 18 3,
 mv 19 0,
 qo 20 (.p (nilcF (tt 19))) [pp 19],
 qo 21 (.p (faddrF (tt 20) 7)) [pp 20],
 qo 22 (.r (loadF (tt 21) 1 .sc)) [pp 21],
 mv 23 4,
 qo 24 (.p (iaddrSF (tt 22) (tt 23) 4)) [pp 22,pp 23],
 qo 25 (.p (faddrF (tt 24) 2)) [pp 24],
 qo 26 (.r (loadF (tt 25) 1 .sc)) [pp 25],
 qo 27 (.c (callF (ff 54) [(tt 26)])) [pp 26],
 qo 28 (.p (convF .u64 (tt 27))) [pp 27],
 qo 29 (.p (arF .add (tt 18) (tt 28))) [pp 18,pp 28],
 mv 3 29])) (
 .reg [
 mv 16 4,
 qo 17 (.p (arF .add (tt 16) (ii 1))) [pp 16],
 mv 4 17]))
noncomputable def c53:CFn:=⟨[.tmp (pp 2)],
 .seq (.reg [
 qo 2 (.p (S.get (.c (.int .u64 0)))) []]) (
 .seq (.reg [
 mv 5 0,
 qo 6 (.p (nilcF (tt 5))) [pp 5],
 qo 7 (.p (faddrF (tt 6) 6)) [pp 6],
 qo 8 (.r (loadF (tt 7) 1 .sc)) [pp 7],
 mv 3 8]) (
 .seq (.seq (.reg [
 qo 4 (.p (S.get (ii 0))) []]) (
 .block 0 (.loop c53_l0))) (
 .seq (.reg [
 mv 30 3,
 mv 2 30]) (
 .ret))))⟩
theorem c53_eq:fnOf Tryz.prog 53=some c53:=by kernel_rfl
noncomputable def c55:CFn:=⟨[.tmp (pp 2)],
 .seq (.reg [
 qo 2 (.p (S.get (ii 0))) []]) (
 .seq (.regD [
 mv 3 0,
 qo 4 (.p (nilcF (tt 3))) [pp 3],
 qo 5 (.p (faddrF (tt 4) 3)) [pp 4],
 qo 6 (.r (loadF (tt 5) 1 .sc)) [pp 5],
 mv 7 0,
 qo 8 (.c (callF (ff 53) [(tt 7)])) [pp 7],
 mv 9 0,
 qo 10 (.p (nilcF (tt 9))) [pp 9],
 qo 11 (.p (faddrF (tt 10) 6)) [pp 10],
 qo 12 (.r (loadF (tt 11) 1 .sc)) [pp 11],
 qo 13 (.p (arF .sub (tt 8) (tt 12))) [pp 8,pp 12],
 qo 14 (.p (convF .i64 (tt 13))) [pp 13],
 qo 15 (.p (arF .sub (tt 6) (tt 14))) [pp 6,pp 14],
 mv 2 15] [0,1,3,7,0,16,0,64,192,448,1008,2032,4095,8191]) (
 .ret))⟩
theorem c55_eq:fnOf Tryz.prog 55=some c55:=by kernel_rfl
noncomputable def lq (i:Nat) (p:Ptr) (v:V) (H:Heap):Option V × Option V:=(loadF (.t (Tr.path i)) 1 .sc (Tr.setP (Tr.path i) (.ptr (some p)) .e) H,some v)
theorem lq_ok {i:Nat} {p:Ptr} {v:V} {H:Heap} (h:loadAt H p 1=some [v]) (hu:unc .sc [v]=some v):(lq i p v H).1=(lq i p v H).2:=by
 show loadF (.t (Tr.path i)) 1 .sc (Tr.setP (Tr.path i) (.ptr (some p)) .e) H=some v
 have e:(S.t (Tr.path i)).get (Tr.setP (Tr.path i) (V.ptr (some p)) .e)=some (.ptr (some p)):=by rw[Bt,Bv,if_pos rfl]
 unfold loadF
 rw[e]
 show (loadAt H p 1).bind _=_
 rw[h]
 exact hu
abbrev dcells (b:Bk) (id R cnt first tail:Nat) (v:V):List V:=[.ptr (some ⟨b,0⟩),.int .i64 0,.int .u64 (id:Int),.int .i64 (R:Int),.int .u64 (cnt:Int),.int .u64 (first:Int),.int .u64 (tail:Int),v]
def headN (t:Nat) (N:List Nt):Nat:=N.foldl (fun a n=>a+recS n.cells) t
theorem headN_app (t:Nat) (N:List Nt) (n:Nt):headN t (N++[n])=headN t N+recS n.cells:=by unfold headN;rw[List.foldl_append];rfl
theorem headN_le (t:Nat):∀ N:List Nt,t≤headN t N:=fun N=>by
 unfold headN
 induction N generalizing t with
 | nil=>exact Nat.le_refl _
 | cons n N ih=>exact Nat.le_trans (Nat.le_add_right _ _) (ih (t+recS n.cells))
theorem headN_take (t:Nat) (N:List Nt) (i:Nat):headN t (N.take i)≤headN t N:=by
 have:headN t N=headN (headN t (N.take i)) (N.drop i):=by
  unfold headN
  rw[← List.foldl_append,List.take_append_drop]
 rw[this];exact headN_le _ _
structure DLogAt (G:Heap) (l b:Bk) (id R cnt first tail:Nat) (N:List Nt) (lv:V):Prop where
 ex:G.get l=some (.rows false 8 [dcells b id R cnt first tail lv])∧∃ G0,Lst G0 G 4 (rowsT N) lv∧G0.next≤G.next
 old:G.Old l
 rb:1≤R∧R≤256
 rg:Rg R tail (headN tail N)
 fn:first+N.length≤4611686018427387904
 nl:N.length≤8
 nc:∀ n ∈ N,1≤n.cells∧n.cells≤32
theorem DLogAt.turns {G G':Heap} {l b:Bk} {id R cnt first tail:Nat} {N:List Nt} {lv:V} (h:DLogAt G l b id R cnt first tail N lv) (t:Turns Z G G'):DLogAt G' l b id R cnt first tail N lv:=by
 obtain⟨hg,G0,hN,h0⟩:=h.ex
 exact⟨⟨(t.same l h.old (fun h=>h)).trans hg,G0,hN.turns t (fun _ _ h=>h),Nat.le_trans h0 t.next⟩,h.old.mono t.next,h.rb,h.rg,h.fn,h.nl,h.nc⟩
section
variable {lf K:Nat} (hlf:1000 < lf)
include hlf
theorem dmG_ex (B:Nat):∃(s:Nat) (M:Mk) (e:Int),dmG B=.tuple [.int .u64 (s:Int),.agg M.V,.int .i64 e]∧((markOk B=true∧s=sealN B∧M=mkG B∧e=0)∨(markOk B=false∧e≠0)):=by
 unfold dmG
 cases h:markOk B
 ·refine⟨0,⟨0,0,0,0⟩,_,if_neg (by decide),.inr ⟨rfl,?_⟩⟩
  by_cases hs:sealE B=0
  ·rw[if_pos hs];decide
  ·rw[if_neg hs];exact hs
 ·exact⟨_,_,_,if_pos rfl,.inl ⟨rfl,rfl,rfl,rfl⟩⟩
theorem dunewest (G:Heap) (A B n:Nat):ret (U lf K (n+2) 49 [.blk A,.blk B] G) fun v G'=>Turns Z G G'∧((newM A B=none∧v=.tuple [.int .u64 0,.agg mk0,.int .i64 7])∨∃ X,newM A B=some X∧v=.tuple [.int .u64 (sealN X:Int),.agg (mkG X).V,.int .i64 0]):=by
 have eG:=fun(X:Nat) (G:Heap)=>qp_ashlarref09_Get (lf:=lf) (K:=K) (w:=n) (G:=G) (fun H=>dmget hlf H X 54)
 obtain⟨s1,M1,e1,d1,h1⟩:=dmG_ex hlf A
 obtain⟨s2,M2,e2,d2,h2⟩:=dmG_ex hlf B
 have eA:=eG A
 have eB:=eG B
 rw[d1] at eA
 rw[d2] at eB
 have wM:∀ M:Mk,width M.V=4:=fun M=>rfl
 have cM:∀ M:Mk,cut M.V 0 4=some M.V:=fun M=>rfl
 have pM:∀ M:Mk,put mk0 0 M.V=some M.V:=fun M=>rfl
 have w0:width mk0=4:=rfl
 have c0:cut mk0 0 4=some mk0:=rfl
 have p0:put mk0 0 mk0=some mk0:=rfl
 refine ret_callU rfl rfl c49_eq ?_
 unfold newM
 rcases h1 with ⟨a1,rfl,rfl,rfl⟩ | ⟨a1,b1⟩<;>rcases h2 with ⟨a2,rfl,rfl,rfl⟩ | ⟨a2,b2⟩<;>rw[a1,a2]
 ·by_cases hlt:sealN A < sealN B
  ·rw[if_pos hlt]
   simp (maxDischargeDepth:=12) (disch:=omega) only[c49,eA,eB,wM,cM,pM,Dh,om,hv,ldO_one,stO_one,sy,tup,↓reduceIte,zA,zG,zC,zD,zF,zE,zB,zH,reduceCtorEq]
   rw[endD_ok (by kernel_rfl) (by kernel_rfl)]
   simp (maxDischargeDepth:=12) (disch:=omega) only[cM,om,hv,ldO_one,stO_one,sy,tup,↓reduceIte,zA,zG,zC,zD,zF,zE,zB,zH,reduceCtorEq]
   exact⟨trivial,.inr trivial,_,rfl,by repeat (first | exact Turns.refl _ _ | apply Turns.skip | apply Turns.addm | apply Turns.setb | apply Turns.setl | apply Turns.setr | refine Turns.setn ?_ _ (by omega) _ | refine Turns.trans ?_ (tF _)),.inr ⟨B,rfl,rfl⟩⟩
  ·rw[if_neg hlt]
   simp (maxDischargeDepth:=12) (disch:=omega) only[c49,eA,eB,wM,cM,pM,Dh,om,hv,ldO_one,stO_one,sy,tup,↓reduceIte,zA,zG,zC,zD,zF,zE,zB,zH,reduceCtorEq]
   rw[endD_ok (by kernel_rfl) (by kernel_rfl)]
   simp (maxDischargeDepth:=12) (disch:=omega) only[cM,om,hv,ldO_one,stO_one,sy,tup,↓reduceIte,zA,zG,zC,zD,zF,zE,zB,zH,reduceCtorEq]
   exact⟨trivial,.inr trivial,_,rfl,by repeat (first | exact Turns.refl _ _ | apply Turns.skip | apply Turns.addm | apply Turns.setb | apply Turns.setl | apply Turns.setr | refine Turns.setn ?_ _ (by omega) _ | refine Turns.trans ?_ (tF _)),.inr ⟨A,rfl,rfl⟩⟩
 ·simp (maxDischargeDepth:=12) (disch:=omega) only[c49,eA,eB,wM,cM,pM,Dh,om,hv,ldO_one,stO_one,sy,tup,↓reduceIte,zA,zG,zC,zD,zF,zE,zB,zH,reduceCtorEq]
  rw[endD_ok (by kernel_rfl) (by kernel_rfl)]
  simp (maxDischargeDepth:=12) (disch:=omega) only[cM,om,hv,ldO_one,stO_one,sy,tup,↓reduceIte,zA,zG,zC,zD,zF,zE,zB,zH,reduceCtorEq]
  exact⟨trivial,.inr trivial,_,rfl,by repeat (first | exact Turns.refl _ _ | apply Turns.skip | apply Turns.addm | apply Turns.setb | apply Turns.setl | apply Turns.setr | refine Turns.setn ?_ _ (by omega) _ | refine Turns.trans ?_ (tF _)),.inr ⟨A,rfl,rfl⟩⟩
 ·simp (maxDischargeDepth:=12) (disch:=omega) only[c49,eA,eB,wM,cM,pM,Dh,om,hv,ldO_one,stO_one,sy,tup,↓reduceIte,zA,zG,zC,zD,zF,zE,zB,zH,reduceCtorEq]
  rw[endD_ok (by kernel_rfl) (by kernel_rfl)]
  simp (maxDischargeDepth:=12) (disch:=omega) only[cM,om,hv,ldO_one,stO_one,sy,tup,↓reduceIte,zA,zG,zC,zD,zF,zE,zB,zH,reduceCtorEq]
  exact⟨trivial,.inr trivial,_,rfl,by repeat (first | exact Turns.refl _ _ | apply Turns.skip | apply Turns.addm | apply Turns.setb | apply Turns.setl | apply Turns.setr | refine Turns.setn ?_ _ (by omega) _ | refine Turns.trans ?_ (tF _)),.inr ⟨B,rfl,rfl⟩⟩
 ·simp (maxDischargeDepth:=12) (disch:=omega) only[c49,eA,eB,wM,cM,pM,Dh,w0,c0,p0,om,hv,ldO_one,stO_one,sy,tup,↓reduceIte,zA,zG,zC,zD,zF,zE,zB,zH,reduceCtorEq]
  exact⟨trivial,.inr trivial,_,rfl,by repeat (first | exact Turns.refl _ _ | apply Turns.skip | apply Turns.addm | apply Turns.setb | apply Turns.setl | apply Turns.setr | refine Turns.setn ?_ _ (by omega) _ | refine Turns.trans ?_ (tF _)),.inl ⟨trivial,rfl⟩⟩
section
variable {G:Heap} {l b:Bk} {id R cnt first tail:Nat} {N:List Nt} {lv:V} (h:DLogAt G l b id R cnt first tail N lv)
include h
theorem dlnext (n:Nat):U lf K (n+1) 51 [.ptr (some ⟨l,0⟩)] G=some (.v (.int .u64 ((first+N.length:Nat):Int)),G):=by
 obtain⟨hg,G0,hN,_⟩:=h.ex
 have hfn:=h.fn
 have hnl:=h.nl
 obtain⟨p,c,o,rfl⟩:=hN.val
 rw[rowsT_len] at hg hN
 have k5:cut (dcells b id R cnt first tail (.slice p N.length c o)) 5 1=some [.int .u64 (first:Int)]:=rfl
 have k7:cut (dcells b id R cnt first tail (.slice p N.length c o)) 7 1=some [.slice p N.length c o]:=rfl
 obtain⟨q,hq⟩:∃ q,q=first+N.length:=⟨_,rfl⟩
 have w2:IntKind.u64.wrap ((first:Int)+(N.length:Int))=(q:Int):=by rw[Go.Am.wrap_u64 (by omega)];omega
 rw[← hq]
 obtain⟨v,H',e',rfl,rfl⟩:ret (U lf K (n+1) 51 [.ptr (some ⟨l,0⟩)] G) fun v H'=>v=.int .u64 (q:Int)∧H'=G:=by
  refine ret_callU rfl rfl c51_eq ?_
  simp (maxDischargeDepth:=12) (disch:=omega) only[c51,hg,k5,k7,w2,om,hv,ldO_one,stO_one,sy,tup,↓reduceIte,zA,zG,zC,zD,zF,zE,zB,zH,reduceCtorEq]
  rw[endD_ok (by kernel_rfl) (by kernel_rfl)]
  simp (maxDischargeDepth:=12) (disch:=omega) only[om,hv,ldO_one,stO_one,sy,tup,↓reduceIte,zA,zG,zC,zD,zF,zE,zB,zH,reduceCtorEq]
  exact⟨trivial,.inr trivial,_,rfl,rfl,trivial⟩
 exact e'
theorem dlhead (n:Nat):U lf K (n+3) 53 [.ptr (some ⟨l,0⟩)] G=some (.v (.int .u64 ((headN tail N:Nat):Int)),G):=by
 obtain⟨hg,G0,hN,_⟩:=h.ex
 have hrg:=h.rg
 obtain⟨_,r1,r2,r3⟩:=hrg
 have hnl:=h.nl
 obtain⟨p,c,o,rfl⟩:=hN.val
 rw[rowsT_len] at hg hN
 have k6:cut (dcells b id R cnt first tail (.slice p N.length c o)) 6 1=some [.int .u64 (tail:Int)]:=rfl
 have k7:cut (dcells b id R cnt first tail (.slice p N.length c o)) 7 1=some [.slice p N.length c o]:=rfl
 have hloop:∀ t:T,t.getP (Tr.path 0)=some (.ptr (some ⟨l,0⟩))→t.getP (Tr.path 3)=some (.int .u64 (tail:Int))→t.getP (Tr.path 4)=some (.int .i64 0) →
   wp (loopF (runC (U lf K (n+2)) lf c53_l0) lf ⟨t,G,[]⟩) fun x s=>x=.ex 0∧s.d=[]∧s.H=G∧s.t.getP (Tr.path 3)=some (.int .u64 ((headN tail N:Nat):Int)):=by
  intro t q0 q3 q4
  refine wp_loopF (fun m s=>∃ i:Nat,m=N.length - i∧i≤N.length∧s.d=[]∧s.H=G∧s.t.getP (Tr.path 0)=some (.ptr (some ⟨l,0⟩))∧s.t.getP (Tr.path 3)=some (.int .u64 ((headN tail (N.take i):Nat):Int))∧s.t.getP (Tr.path 4)=some (.int .i64 (i:Int))) ?_ lf N.length _ ⟨0,rfl,by omega,rfl,rfl,q0,q3,q4⟩ (by omega)
  rintro m ⟨t,HH,d⟩ ⟨i,rfl,hi,hd,hH,q0,q3,q4⟩
  dsimp only at hd hH q0 q3 q4
  subst hd;subst hH
  by_cases hlt:i < N.length
  ·obtain⟨m,em,hld⟩:=hN.load (i:=i) (o:=2) (k:=1) (r:=ntV N[i]) (rowsT_get hlt) (by decide)
   rw[ld_get,show cut (ntV N[i]) 2 1=some [.int .i64 (N[i].cells:Int)] from rfl] at hld
   have ep:p=some ⟨.run m,0⟩:=(V.slice.inj em).1
   subst ep
   have hc:=h.nc N[i] (List.getElem_mem hlt)
   have eS:=dsize hlf (K:=K) HH (k:=N[i].cells) (by omega) n
   rw[szR_rec hlf hc.1 hc.2] at eS
   have hk:headN tail (N.take (i+1))=headN tail (N.take i)+recS N[i].cells:=by rw[List.take_succ_eq_append_getElem hlt,headN_app]
   have hle:=headN_take tail N (i+1)
   generalize N[i].cells=cl at *
   generalize recS cl=k at *
   generalize headN tail (N.take i)=a at *
   simp (maxDischargeDepth:=12) (disch:=omega) only[c53_l0,q0,q3,q4,hg,k7,hld,eS,Nat.mul_one,om,hv,ldO_one,stO_one,sy,tup,↓reduceIte,zA,zG,zC,zD,zF,zE,zB,zH,reduceCtorEq]
   exact⟨N.length - (i+1),by omega,i+1,rfl,by omega,trivial,trivial,by simp[q0],by simp[hk],by simp⟩
  ·simp (maxDischargeDepth:=12) (disch:=omega) only[c53_l0,q0,q3,q4,hg,k7,om,hv,ldO_one,stO_one,sy,tup,↓reduceIte,zA,zG,zC,zD,zF,zE,zB,zH,reduceCtorEq]
   have:i=N.length:=by omega
   subst this
   rw[List.take_length] at q3
   exact⟨trivial,trivial,trivial,by simp[q3]⟩
 obtain⟨v,H',e',rfl,rfl⟩:ret (U lf K (n+3) 53 [.ptr (some ⟨l,0⟩)] G) fun v H'=>v=.int .u64 ((headN tail N:Nat):Int)∧H'=G:=by
  refine ret_callU rfl rfl c53_eq ?_
  simp (maxDischargeDepth:=12) (disch:=omega) only[c53,hg,k6,om,hv,ldO_one,stO_one,sy,tup,↓reduceIte,zA,zG,zC,zD,zF,zE,zB,zH,reduceCtorEq]
  refine wp_ctx (F:=fun r=>seqC _ _ _ (blockC _ r)) (hloop _ ?_ ?_ ?_) ?_
  ·simp only[sy,tup,↓reduceIte,zA,zG,zC,zD,zF,zE,zB,zH,reduceCtorEq]
  ·simp only[sy,tup,↓reduceIte,zA,zG,zC,zD,zF,zE,zB,zH,reduceCtorEq]
  ·simp only[sy,tup,↓reduceIte,zA,zG,zC,zD,zF,zE,zB,zH,reduceCtorEq]
  rintro x ⟨t,H,d⟩ ⟨rfl,hd,hH,q3⟩
  dsimp only at hd hH q3
  subst hd;subst hH
  simp (maxDischargeDepth:=12) (disch:=omega) only[q3,om,hv,ldO_one,stO_one,sy,tup,↓reduceIte,zA,zG,zC,zD,zF,zE,zB,zH,reduceCtorEq]
  exact⟨trivial,.inr trivial,_,rfl,rfl,trivial⟩
 exact e'
theorem dlfree (n:Nat):ret (U lf K (n+4) 55 [.ptr (some ⟨l,0⟩)] G) fun v G'=>v=.int .i64 ((R:Int) - ((headN tail N - tail:Nat):Int))∧G'.get=G.get∧G'.next=G.next∧Turns Z G G':=by
 have e1:=dlhead hlf h n (K:=K)
 obtain⟨hg,G0,hN,_⟩:=h.ex
 have hrg:=h.rg
 obtain⟨_,r1,r2,r3⟩:=hrg
 have hrb:=h.rb
 have k3:cut (dcells b id R cnt first tail lv) 3 1=some [.int .i64 (R:Int)]:=rfl
 have k6:cut (dcells b id R cnt first tail lv) 6 1=some [.int .u64 (tail:Int)]:=rfl
 generalize headN tail N=a at *
 have w1:IntKind.u64.wrap ((a:Int) - (tail:Int))=((a - tail:Nat):Int):=by rw[Go.Am.wrap_u64 (by omega)];omega
 generalize a - tail=z at *
 refine ret_callU rfl rfl c55_eq ?_
 simp (maxDischargeDepth:=12) (disch:=omega) only[c55,hg,k3,k6,e1,w1,om,hv,ldO_one,stO_one,sy,tup,↓reduceIte,zA,zG,zC,zD,zF,zE,zB,zH,reduceCtorEq]
 rw[endD_q (q:=[lq 5 ⟨l,3⟩ (.int .i64 (R:Int)) G,lq 5 ⟨l,3⟩ (.int .i64 (R:Int)) G,lq 11 ⟨l,6⟩ (.int .u64 (tail:Int)) G,lq 11 ⟨l,6⟩ (.int .u64 (tail:Int)) G]) (by kernel_rfl) (by kernel_rfl)]
 simp (maxDischargeDepth:=12) (disch:=omega) only[om,hv,ldO_one,stO_one,sy,tup,↓reduceIte,zA,zG,zC,zD,zF,zE,zB,zH,reduceCtorEq]
 refine⟨trivial,.inr trivial,_,rfl,rfl,by rfl,trivial,(Turns.refl Z G).owe fun x hx=>?_⟩
 simp only[List.mem_cons,List.not_mem_nil,or_false] at hx
 rcases hx with rfl | rfl | rfl | rfl<;>refine lq_ok ?_ rfl<;>simp (maxDischargeDepth:=12) (disch:=omega) only[hg,k3,k6,om,hv,ldO_one,stO_one,sy,tup,↓reduceIte,zA,zG,zC,zD,zF,zE,zB,zH,reduceCtorEq]
end
end
end Go.Proofs.YtllkepkaimnodaaGreatDoor.draft
