import Derived.Test.YtllkepkaimnodaaGreatDoorG3
import Derived.Test.YtllkepkaimnodaaGreatDoorG2
import Derived.Test.YtllkepkaimnodaaGreatDoorG1
import Derived.Test.YtllkepkaimnodaaGreatDoorAmOm
set_option linter.unusedVariables false
set_option linter.unusedSectionVars false
set_option linter.unusedSimpArgs false
set_option maxRecDepth 10000
open Nat renaming reduceEqDiff → zA, reduceLeDiff → zB, reduceSub → zC, reduceMul → zD, reduceMod → zE, reduceDiv → zF, reduceAdd → zG
open Int renaming reduceBEq → zH
namespace Go.Proofs.YtllkepkaimnodaaGreatDoor.draft
open Go.Am
noncomputable def c43:CFn:=⟨[.cell (pp 2) 4 .ag,.tmp (pp 3)],
 .seq (.reg [
 qo 1 (.m (boxF 64 (tt 0))) [pp 0],
 qo 2 (.m (allocF 4 [.int .u64 0,.int .u64 0,.int .i64 0,.int .u32 0])) [],
 qo 3 (.p (S.get (ii 0))) []]) (
 .seq (.reg [
 qo 15 (.r (loadF (tt 1) 64 .bk)) [pp 1],
 qo 16 (.c (callF (ff 116) [(tt 15)])) [pp 15],
 mv 14 16,
 qo 17 (.p (extF (tt 14) 0)) [pp 14],
 qo 18 (.p (extF (tt 14) 1)) [pp 14],
 qo 19 (.p (extF (tt 14) 2)) [pp 14],
 mv 4 17,
 mv 5 18,
 mv 6 19]) (
 .seq (.seq (.reg [
 mv 20 6,
 qo 21 (.p (eqcF true false [.int .i64] (tt 20) (ii 0))) [pp 20]]) (
 .cond (tt 21) (.seq (.reg [
 qo 22 (.p (buildF [.int .u64 0,.int .u64 0,.int .i64 0,.int .u32 0] .ag [])) [],
 mv 23 6,
 qn (.a (storeF (tt 2) (tt 22) 4)) [pp 2,pp 22],
 mv 3 23]) (
 .ret)) (.skip))) (
 .seq (.reg [
 mv 24 4,
 qo 25 (.p (buildF [.int .u64 0,.int .u64 0,.int .i64 0,.int .u32 0] .ag [(0,1,(tt 24))])) [pp 24],
 qo 7 (.m (allocF 4 [.int .u64 0,.int .u64 0,.int .i64 0,.int .u32 0])) [],
 qn (.a (storeF (tt 7) (tt 25) 4)) [pp 7,pp 25]]) (
 .seq (.reg [
 mv 27 5,
 qo 28 (.c (callF (ff 117) [(tt 27),(ii 0),(ii 8)])) [pp 27],
 mv 26 28,
 qo 29 (.p (extF (tt 26) 0)) [pp 26],
 qo 30 (.p (extF (tt 26) 1)) [pp 26],
 qo 31 (.p (faddrF (tt 7) 1)) [pp 7],
 qn (.a (storeF (tt 31) (tt 29) 1)) [pp 31,pp 29]]) (
 .seq (.reg [
 mv 33 5,
 qo 34 (.c (callF (ff 117) [(tt 33),(ii 8),(ii 2)])) [pp 33],
 mv 32 34,
 qo 35 (.p (extF (tt 32) 0)) [pp 32],
 qo 36 (.p (extF (tt 32) 1)) [pp 32],
 mv 8 35,
 mv 9 36]) (
 .seq (.reg [
 mv 38 5,
 qo 39 (.c (callF (ff 117) [(tt 38),(ii 10),(ii 4)])) [pp 38],
 mv 37 39,
 qo 40 (.p (extF (tt 37) 0)) [pp 37],
 qo 41 (.p (extF (tt 37) 1)) [pp 37],
 mv 10 40,
 mv 11 41]) (
 .seq (.reg [
 mv 42 8,
 qo 43 (.p (convF .i64 (tt 42))) [pp 42],
 mv 44 10,
 qo 45 (.p (convF .u32 (tt 44))) [pp 44],
 qo 46 (.p (faddrF (tt 7) 2)) [pp 7],
 qn (.a (storeF (tt 46) (tt 43) 1)) [pp 46,pp 43],
 qo 47 (.p (faddrF (tt 7) 3)) [pp 7],
 qn (.a (storeF (tt 47) (tt 45) 1)) [pp 47,pp 45]]) (
 .seq (.seq (.reg [
 qo 49 (.r (loadF (tt 7) 4 .ag)) [pp 7],
 qo 50 (.c (callF (ff 91) [(tt 49)])) [pp 49],
 mv 48 50,
 qo 51 (.p (extF (tt 48) 0)) [pp 48],
 qo 52 (.p (extF (tt 48) 1)) [pp 48],
 qo 12 (.m (allocF 64 [.blk 0])) [],
 qn (.a (storeF (tt 12) (tt 51) 64)) [pp 12,pp 51],
 mv 13 52]) (
 .seq (.reg [
 mv 53 13,
 qo 54 (.p (eqcF true false [.int .i64] (tt 53) (ii 0))) [pp 53],
 mv 55 54,
 qg 56 (.r (loadF (tt 12) 64 .bk)) 55 false [pp 12],
 qg 57 (.r (loadF (tt 1) 64 .bk)) 55 false [pp 1],
 qg 58 (.p (eqcF true true [.blk] (tt 56) (tt 57))) 55 false [pp 56,pp 57],
 qo 59 (.p (pickF (tt 55) (.c (.bool true)) (tt 58))) [pp 55,pp 58]]) (
 .cond (tt 59) (.seq (.reg [
 qo 60 (.p (buildF [.int .u64 0,.int .u64 0,.int .i64 0,.int .u32 0] .ag [])) [],
 qn (.a (storeF (tt 2) (tt 60) 4)) [pp 2,pp 60],
 qo 3 (.p (S.get (ii 5))) []]) (
 .ret)) (.skip)))) (
 .seq (.reg [
 qo 61 (.r (loadF (tt 7) 4 .ag)) [pp 7],
 qn (.a (storeF (tt 2) (tt 61) 4)) [pp 2,pp 61],
 qo 3 (.p (S.get (ii 0))) []]) (
 .ret))))))))))⟩
theorem c43_eq:fnOf Tryz.prog 43=some c43:=by kernel_rfl
noncomputable def bd (B a n:Nat):Nat:=leN (fun i=>byte B (8+(a+i))) n
noncomputable def ntG (B:Nat):Nt:=⟨sealN B,bd B 0 8,bd B 8 2,bd B 10 4⟩
def ntMay (N:Nt):Bool:=decide (1≤N.seq∧N.seq≤4611686018427387904∧N.pos≤4611686018427387904∧1≤N.cells∧N.cells≤32)
noncomputable def noteOk (B:Nat):Bool:=decide (sealE B=0)&&ntMay (ntG B)&&decide (noteB (ntG B)=B)
theorem bd_lt (B a:Nat) {n:Nat}:bd B a n < 256 ^ n:=by
 unfold bd
 rw[leN_sumD (fun i _=>byte_lt _ _)]
 exact sumD_lt (fun i _=>byte_lt _ _)
theorem ntMay_ok {N:Nt} (h:ntMay N=true) (hs:N.sum < 4294967296):NtOk N:=by
 have h:=of_decide_eq_true h
 exact⟨⟨h.1,h.2.1⟩,h.2.2.1,h.2.2.2,hs⟩
section
variable {lf K:Nat} (hlf:1000 < lf)
include hlf
theorem unmay' (G:Heap) (N:Nt) (n:Nat):ret (U lf K (n+1) 149 [.agg (ntV N)] G) fun v G'=>v=.bool (ntMay N)∧Turns Z G G':=by
 have k0:cut (ntV N) 0 1=some [.int .u64 (N.seq:Int)]:=rfl
 have k1:cut (ntV N) 1 1=some [.int .u64 (N.pos:Int)]:=rfl
 have k2:cut (ntV N) 2 1=some [.int .i64 (N.cells:Int)]:=rfl
 have hw:width (ntV N)=4:=rfl
 have e:∀(a b:Nat),decide ((a:Int)≤(b:Int))=decide (a≤b):=fun a b=>decide_eq_decide.2 (by omega)
 have key:ntMay N=(decide (1≤N.seq)&&decide (N.seq≤4611686018427387904)&&decide (N.pos≤4611686018427387904)&&decide (1≤N.cells)&&decide (N.cells≤32)):=by
  unfold ntMay
  simp only[Bool.decide_and,Bool.and_assoc]
 rw[key]
 refine ret_callU rfl rfl c149_eq ?_
 by_cases h1:1≤N.seq<;>by_cases h2:N.seq≤4611686018427387904<;>by_cases h3:N.pos≤4611686018427387904<;>by_cases h4:1≤N.cells<;>by_cases h5:N.cells≤32
 all_goals
  have i1:((1:Int)≤(N.seq:Int))=(1≤N.seq):=propext (by omega)
  have i2:((N.seq:Int)≤4611686018427387904)=(N.seq≤4611686018427387904):=propext (by omega)
  have i3:((N.pos:Int)≤4611686018427387904)=(N.pos≤4611686018427387904):=propext (by omega)
  have i4:((1:Int)≤(N.cells:Int))=(1≤N.cells):=propext (by omega)
  have i5:((N.cells:Int)≤32)=(N.cells≤32):=propext (by omega)
  simp (maxDischargeDepth:=12) only[c149,hw,k0,k1,k2,i1,i2,i3,i4,i5,h1,h2,h3,h4,h5,hv,ldO_one,stO_one,sy,tup,↓reduceIte,zA,zG,zC,zD,zF,zE,zB,zH,reduceCtorEq]
  exact⟨trivial,.inr trivial,_,rfl,rfl,Turns.add Z G _⟩
theorem unote_no (G:Heap) {N:Nt} (h:ntMay N=false) (n:Nat):ret (U lf K (n+2) 91 [.agg (ntV N)] G) fun v G'=>v=.tuple [.blk 0,.int .i64 2]∧Turns Z G G':=by
 have hw:width (ntV N)=4:=rfl
 have k4:cut (ntV N) 0 4=some (ntV N):=rfl
 have t1:Turns Z G ((G.add (.rows false 4 [ntV N])).add (.rows false 64 [[.blk 0]])):=by repeat (first | exact Turns.refl _ _ | apply Turns.skip | apply Turns.addm | apply Turns.setb | apply Turns.setl | apply Turns.setr | refine Turns.setn ?_ _ (by omega) _ | refine Turns.trans ?_ (tF _))
 have hg1:((G.add (.rows false 4 [ntV N])).add (.rows false 64 [[.blk 0]])).get (.run G.next)=some (.rows false 4 [ntV N]):=by rw[Heap.get_add,if_neg (run_ne (by simp)),Heap.get_add,if_pos rfl]
 have hb1:((G.add (.rows false 4 [ntV N])).add (.rows false 64 [[.blk 0]])).get (.run (G.next+1))=some (.rows false 64 [[.blk 0]]):=by rw[Heap.get_add,if_pos (by simp)]
 obtain⟨G1,hG1⟩:∃ G1,(G.add (.rows false 4 [ntV N])).add (.rows false 64 [[.blk 0]])=G1:=⟨_,rfl⟩
 have wo1:G1.Old (.run G.next):=by rw[← hG1];show _ < _+1+1;omega
 have bo1:G1.Old (.run (G.next+1)):=by rw[← hG1];show _ < _+1+1;omega
 rw[hG1] at t1 hg1 hb1
 obtain⟨v2,G2,e2,rfl,t2⟩:=unmay' hlf G1 N (K:=K) n
 rw[h] at e2
 have hb2:=(t2.same _ bo1 (fun h=>h)).trans hb1
 refine ret_callU rfl rfl c91_eq ?_
 simp (maxDischargeDepth:=12) only[c91,hw,hG1,hg1,k4,e2,hb2,hv,ldO_one,stO_one,sy,tup,↓reduceIte,zA,zG,zC,zD,zF,zE,zB,zH,reduceCtorEq]
 exact⟨trivial,.inr trivial,_,rfl,rfl,(t1.trans t2).setn _ (by omega) _⟩
theorem unget (G:Heap) (B:Nat) (n:Nat):ret (U lf K (n+6) 43 [.blk B] G) fun v G'=>Turns Z G G'∧((noteOk B=true∧v=.tuple [.agg (ntV (ntG B)),.int .i64 0])∨(noteOk B=false∧∃ e:Int,e≠0∧v=.tuple [.agg [.int .u64 0,.int .u64 0,.int .i64 0,.int .u32 0],.int .i64 e])):=by
 have t1:Turns Z G ((G.add (.rows false 64 [[.blk B]])).add (.rows false 4 [[.int .u64 0,.int .u64 0,.int .i64 0,.int .u32 0]])):=by repeat (first | exact Turns.refl _ _ | apply Turns.skip | apply Turns.addm | apply Turns.setb | apply Turns.setl | apply Turns.setr | refine Turns.setn ?_ _ (by omega) _ | refine Turns.trans ?_ (tF _))
 have hb1:((G.add (.rows false 64 [[.blk B]])).add (.rows false 4 [[.int .u64 0,.int .u64 0,.int .i64 0,.int .u32 0]])).get (.run G.next)=some (.rows false 64 [[.blk B]]):=by rw[Heap.get_add,if_neg (run_ne (by simp)),Heap.get_add,if_pos rfl]
 have hr1:((G.add (.rows false 64 [[.blk B]])).add (.rows false 4 [[.int .u64 0,.int .u64 0,.int .i64 0,.int .u32 0]])).get (.run (G.next+1))=some (.rows false 4 [[.int .u64 0,.int .u64 0,.int .i64 0,.int .u32 0]]):=by rw[Heap.get_add,if_pos (by simp)]
 obtain⟨G1,hG1⟩:∃ G1,(G.add (.rows false 64 [[.blk B]])).add (.rows false 4 [[.int .u64 0,.int .u64 0,.int .i64 0,.int .u32 0]])=G1:=⟨_,rfl⟩
 have n1:G1.next=G.next+1+1:=by rw[← hG1];rfl
 rw[hG1] at t1 hb1 hr1
 obtain⟨v2,G2,e2,t2,h2⟩:=u_sget_ok (K:=K) G1 B (lf:=lf) (by omega) (n+1)
 have hb2:=(t2.same (.run G.next) (by show _ < _;omega) (fun h=>h)).trans hb1
 have hr2:=(t2.same (.run (G.next+1)) (by show _ < _;omega) (fun h=>h)).trans hr1
 have nn2:=t2.next
 have put0:∀(a b:Nat) (c d:Int) (e f:Nat) (g h:Int),put [V.int .u64 (a:Int),.int .u64 (b:Int),.int .i64 c,.int .u32 d] 0 [.int .u64 (e:Int),.int .u64 (f:Int),.int .i64 g,.int .u32 h]=some [V.int .u64 (e:Int),.int .u64 (f:Int),.int .i64 g,.int .u32 h]:=fun _ _ _ _ _ _ _ _=>rfl
 have z4:put [V.int .u64 0,.int .u64 0,.int .i64 0,.int .u32 0] 0 [.int .u64 0,.int .u64 0,.int .i64 0,.int .u32 0]=some [V.int .u64 0,.int .u64 0,.int .i64 0,.int .u32 0]:=rfl
 have c4:cut [V.int .u64 0,.int .u64 0,.int .i64 0,.int .u32 0] 0 4=some [V.int .u64 0,.int .u64 0,.int .i64 0,.int .u32 0]:=rfl
 have w4:width [V.int .u64 0,.int .u64 0,.int .i64 0,.int .u32 0]=4:=rfl
 refine ret_callU rfl rfl c43_eq ?_
 rcases h2 with ⟨hs,rfl⟩ | ⟨hs,k,rfl,hbk,hk⟩
 ·have hno:noteOk B=false:=by unfold noteOk;rw[decide_eq_false hs,Bool.false_and,Bool.false_and]
  have hs':(sealE B==0)=false:=beq_eq_false_iff_ne.2 hs
  generalize sealE B=E at e2 hs hs'
  simp (maxDischargeDepth:=12) only[c43,hG1,hb1,Dh,e2,hs',z4,w4,hr2,c4,hv,ldO_one,stO_one,sy,tup,↓reduceIte,zA,zG,zC,zD,zF,zE,zB,zH,reduceCtorEq]
  exact⟨trivial,.inr trivial,_,rfl,(t1.trans t2).setn _ (by omega) _,.inr ⟨hno,E,hs,rfl⟩⟩
 ·obtain⟨sq,hsq⟩:∃ sq,sq=sealN B:=⟨_,rfl⟩
  rw[← hsq] at e2
  have b00:((0:Int)==0)=true:=rfl
  have hcb:∀ i,i < 44→(fun i=>byte B (8+i)) i < 256:=fun i _=>byte_lt _ _
  have eg:∀ {H:Heap},Turns Z G2 H→∀(a s:Nat),1≤s∧s≤8→a+s≤44→U lf K (n+5) 117 [.slice (some ⟨.run k,0⟩) 44 44 1,.int .i64 (a:Int),.int .i64 (s:Int)] H=some (.v (.tuple [.int .u64 ((bd B a s:Nat):Int),.int .i64 0]),H):=fun {H} tH a s hs1 hs2=>u_nget_ok (K:=K) (H:=H) (p:=⟨.run k,0⟩) (len:=44) (cap:=44) (loose:=1) (a:=a) (sz:=s) (c:=fun i=>byte B (8+(a+i))) hs1 hs2 (by omega) (by omega) (.inr rfl) (fun _ _=>byte_lt _ _) (fun i hi=>by
   have:=(hbk.turns tH).load (i:=a+i) (by omega)
   simpa [Nat.add_assoc] using this) lf (n+4) (by omega)
  obtain⟨ps,hps⟩:∃ ps,ps=bd B 0 8:=⟨_,rfl⟩
  obtain⟨cl,hcl⟩:∃ cl,cl=bd B 8 2:=⟨_,rfl⟩
  obtain⟨sm,hsm⟩:∃ sm,sm=bd B 10 4:=⟨_,rfl⟩
  have hcl2:cl < 65536:=by rw[hcl];exact bd_lt B 8
  have hsm2:sm < 4294967296:=by rw[hsm];exact bd_lt B 10
  have hnt:ntG B=⟨sq,ps,cl,sm⟩:=by rw[hsq,hps,hcl,hsm];rfl
  have wc:IntKind.i64.wrap (cl:Int)=(cl:Int):=Go.Am.wrap_i64 (by omega)
  have ws:IntKind.u32.wrap (sm:Int)=(sm:Int):=crc.u32_wrap hsm2
  have pf:put [V.int .u64 0,.int .u64 0,.int .i64 0,.int .u32 0] 0 [.int .u64 (sq:Int)]=some [.int .u64 (sq:Int),.int .u64 0,.int .i64 0,.int .u32 0]:=rfl
  have w1:width [V.int .u64 (sq:Int),.int .u64 0,.int .i64 0,.int .u32 0]=4:=rfl
  have p0:put [V.int .u64 0,.int .u64 0,.int .i64 0,.int .u32 0] 0 [.int .u64 (sq:Int),.int .u64 0,.int .i64 0,.int .u32 0]=some [.int .u64 (sq:Int),.int .u64 0,.int .i64 0,.int .u32 0]:=rfl
  have p1:put [V.int .u64 (sq:Int),.int .u64 0,.int .i64 0,.int .u32 0] 1 [.int .u64 (ps:Int)]=some [.int .u64 (sq:Int),.int .u64 (ps:Int),.int .i64 0,.int .u32 0]:=rfl
  have p2:put [V.int .u64 (sq:Int),.int .u64 (ps:Int),.int .i64 0,.int .u32 0] 2 [.int .i64 (cl:Int)]=some [.int .u64 (sq:Int),.int .u64 (ps:Int),.int .i64 (cl:Int),.int .u32 0]:=rfl
  have p3:put [V.int .u64 (sq:Int),.int .u64 (ps:Int),.int .i64 (cl:Int),.int .u32 0] 3 [.int .u32 (sm:Int)]=some [.int .u64 (sq:Int),.int .u64 (ps:Int),.int .i64 (cl:Int),.int .u32 (sm:Int)]:=rfl
  have cR:cut [V.int .u64 (sq:Int),.int .u64 (ps:Int),.int .i64 (cl:Int),.int .u32 (sm:Int)] 0 4=some [.int .u64 (sq:Int),.int .u64 (ps:Int),.int .i64 (cl:Int),.int .u32 (sm:Int)]:=rfl
  have wR:width [V.int .u64 (sq:Int),.int .u64 (ps:Int),.int .i64 (cl:Int),.int .u32 (sm:Int)]=4:=rfl
  have pR:put [V.int .u64 0,.int .u64 0,.int .i64 0,.int .u32 0] 0 [.int .u64 (sq:Int),.int .u64 (ps:Int),.int .i64 (cl:Int),.int .u32 (sm:Int)]=some [.int .u64 (sq:Int),.int .u64 (ps:Int),.int .i64 (cl:Int),.int .u32 (sm:Int)]:=rfl
  have t3:Turns Z G2 ((G2.add (.rows false 4 [[.int .u64 0,.int .u64 0,.int .i64 0,.int .u32 0]])).set (.run G2.next) (.rows false 4 [[.int .u64 (sq:Int),.int .u64 0,.int .i64 0,.int .u32 0]])):=by repeat (first | exact Turns.refl _ _ | apply Turns.skip | apply Turns.addm | apply Turns.setb | apply Turns.setl | apply Turns.setr | refine Turns.setn ?_ _ (by omega) _ | refine Turns.trans ?_ (tF _))
  have h3:((G2.add (.rows false 4 [[.int .u64 0,.int .u64 0,.int .i64 0,.int .u32 0]])).set (.run G2.next) (.rows false 4 [[.int .u64 (sq:Int),.int .u64 0,.int .i64 0,.int .u32 0]])).get (.run G2.next)=some (.rows false 4 [[.int .u64 (sq:Int),.int .u64 0,.int .i64 0,.int .u32 0]]):=by rw[Heap.get_set,if_pos rfl]
  obtain⟨G3,hG3⟩:∃ G3,(G2.add (.rows false 4 [[.int .u64 0,.int .u64 0,.int .i64 0,.int .u32 0]])).set (.run G2.next) (.rows false 4 [[.int .u64 (sq:Int),.int .u64 0,.int .i64 0,.int .u32 0]])=G3:=⟨_,rfl⟩
  have nn3:G3.next=G2.next+1:=by rw[← hG3];rfl
  rw[hG3] at t3 h3
  have eA:=eg t3 0 8 (by omega) (by omega)
  rw[← hps] at eA
  have t4:Turns Z G2 (G3.set (.run G2.next) (.rows false 4 [[.int .u64 (sq:Int),.int .u64 (ps:Int),.int .i64 0,.int .u32 0]])):=t3.setn _ (Nat.le_refl _) _
  have h4:(G3.set (.run G2.next) (.rows false 4 [[.int .u64 (sq:Int),.int .u64 (ps:Int),.int .i64 0,.int .u32 0]])).get (.run G2.next)=some (.rows false 4 [[.int .u64 (sq:Int),.int .u64 (ps:Int),.int .i64 0,.int .u32 0]]):=by rw[Heap.get_set,if_pos rfl]
  obtain⟨G4,hG4⟩:∃ G4,G3.set (.run G2.next) (.rows false 4 [[.int .u64 (sq:Int),.int .u64 (ps:Int),.int .i64 0,.int .u32 0]])=G4:=⟨_,rfl⟩
  have nn4:G4.next=G2.next+1:=by rw[← hG4];exact nn3
  rw[hG4] at t4 h4
  have eB:=eg t4 8 2 (by omega) (by omega)
  have eC:=eg t4 10 4 (by omega) (by omega)
  rw[← hcl] at eB
  rw[← hsm] at eC
  have t5:Turns Z G2 ((G4.set (.run G2.next) (.rows false 4 [[.int .u64 (sq:Int),.int .u64 (ps:Int),.int .i64 (cl:Int),.int .u32 0]])).set (.run G2.next) (.rows false 4 [[.int .u64 (sq:Int),.int .u64 (ps:Int),.int .i64 (cl:Int),.int .u32 (sm:Int)]])):=(t4.setn _ (Nat.le_refl _) _).setn _ (Nat.le_refl _) _
  have h5:((G4.set (.run G2.next) (.rows false 4 [[.int .u64 (sq:Int),.int .u64 (ps:Int),.int .i64 (cl:Int),.int .u32 0]])).set (.run G2.next) (.rows false 4 [[.int .u64 (sq:Int),.int .u64 (ps:Int),.int .i64 (cl:Int),.int .u32 (sm:Int)]])).get (.run G2.next)=some (.rows false 4 [[.int .u64 (sq:Int),.int .u64 (ps:Int),.int .i64 (cl:Int),.int .u32 (sm:Int)]]):=by rw[Heap.get_set,if_pos rfl]
  have h45:(G4.set (.run G2.next) (.rows false 4 [[.int .u64 (sq:Int),.int .u64 (ps:Int),.int .i64 (cl:Int),.int .u32 0]])).get (.run G2.next)=some (.rows false 4 [[.int .u64 (sq:Int),.int .u64 (ps:Int),.int .i64 (cl:Int),.int .u32 0]]):=by rw[Heap.get_set,if_pos rfl]
  obtain⟨G5,hG5⟩:∃ G5,(G4.set (.run G2.next) (.rows false 4 [[.int .u64 (sq:Int),.int .u64 (ps:Int),.int .i64 (cl:Int),.int .u32 0]])).set (.run G2.next) (.rows false 4 [[.int .u64 (sq:Int),.int .u64 (ps:Int),.int .i64 (cl:Int),.int .u32 (sm:Int)]])=G5:=⟨_,rfl⟩
  have nn5:G5.next=G2.next+1:=by rw[← hG5];exact nn4
  rw[hG5] at t5 h5
  have hvn:ntV (ntG B)=[.int .u64 (sq:Int),.int .u64 (ps:Int),.int .i64 (cl:Int),.int .u32 (sm:Int)]:=by rw[hnt];rfl
  obtain⟨Y,hY⟩:∃ Y,Y=noteB (ntG B):=⟨_,rfl⟩
  obtain⟨X,e,G6,e6,t6,hX⟩:∃ X e G6,U lf K (n+5) 91 [.agg [.int .u64 (sq:Int),.int .u64 (ps:Int),.int .i64 (cl:Int),.int .u32 (sm:Int)]] G5=some (.v (.tuple [.blk X,.int .i64 e]),G6)∧Turns Z G5 G6∧((ntMay (ntG B)=true∧e=0∧X=Y)∨(ntMay (ntG B)=false∧e=2)):=by
   by_cases hm:ntMay (ntG B)=true
   ·obtain⟨v,G6,e6,rfl,t6⟩:=unote hlf G5 (ntMay_ok hm (by rw[hnt];exact hsm2)) (K:=K) n
    rw[hvn,← hY] at e6
    exact⟨_,_,G6,e6,t6,.inl ⟨hm,rfl,rfl⟩⟩
   ·rw[Bool.not_eq_true] at hm
    obtain⟨v,G6,e6,rfl,t6⟩:=unote_no hlf G5 hm (K:=K) (n+3)
    rw[hvn] at e6
    exact⟨_,_,G6,e6,t6,.inr ⟨hm,rfl⟩⟩
  have nn6:=t6.next
  have hb6:=((t5.trans t6).same (.run G.next) (by show _ < _;omega) (fun h=>h)).trans hb2
  have hr6:=((t5.trans t6).same (.run (G.next+1)) (by show _ < _;omega) (fun h=>h)).trans hr2
  have h6:=(t6.same (.run G2.next) (by show _ < _;omega) (fun h=>h)).trans h5
  have t7:Turns Z G6 ((G6.add (.rows false 64 [[.blk 0]])).set (.run G6.next) (.rows false 64 [[.blk X]])):=by repeat (first | exact Turns.refl _ _ | apply Turns.skip | apply Turns.addm | apply Turns.setb | apply Turns.setl | apply Turns.setr | refine Turns.setn ?_ _ (by omega) _ | refine Turns.trans ?_ (tF _))
  have h7:((G6.add (.rows false 64 [[.blk 0]])).set (.run G6.next) (.rows false 64 [[.blk X]])).get (.run G6.next)=some (.rows false 64 [[.blk X]]):=by rw[Heap.get_set,if_pos rfl]
  obtain⟨G7,hG7⟩:∃ G7,(G6.add (.rows false 64 [[.blk 0]])).set (.run G6.next) (.rows false 64 [[.blk X]])=G7:=⟨_,rfl⟩
  have nn7:G7.next=G6.next+1:=by rw[← hG7];rfl
  rw[hG7] at t7 h7
  have hb7:=(t7.same (.run G.next) (by show _ < _;omega) (fun h=>h)).trans hb6
  have hr7:=(t7.same (.run (G.next+1)) (by show _ < _;omega) (fun h=>h)).trans hr6
  have hn7:=(t7.same (.run G2.next) (by show _ < _;omega) (fun h=>h)).trans h6
  have tF:Turns Z G G7:=(((t1.trans t2).trans t5).trans t6).trans t7
  change U lf K (n+5) 117 [.slice (some ⟨.run k,0⟩) 44 44 1,.int .i64 0,.int .i64 8] G3=_ at eA
  change U lf K (n+5) 117 [.slice (some ⟨.run k,0⟩) 44 44 1,.int .i64 8,.int .i64 2] G4=_ at eB
  change U lf K (n+5) 117 [.slice (some ⟨.run k,0⟩) 44 44 1,.int .i64 10,.int .i64 4] G4=_ at eC
  rcases hX with ⟨hm,rfl,rfl⟩ | ⟨hm,rfl⟩
  ·by_cases hYB:X=B
   ·have hYB':decide (X=B)=true:=decide_eq_true hYB
    simp (maxDischargeDepth:=12) only[c43,hG1,hb1,Dh,e2,b00,pf,w1,p0,hG3,eA,h3,p1,hG4,eB,eC,wc,ws,h4,p2,h45,p3,hG5,h5,cR,e6,hG7,h7,hb7,hYB',hn7,wR,hr7,pR,hv,ldO_one,stO_one,sy,tup,↓reduceIte,zA,zG,zC,zD,zF,zE,zB,zH,reduceCtorEq]
    refine⟨trivial,.inr trivial,_,rfl,tF.setn _ (by omega) _,.inl ⟨?_,by rw[hvn]⟩⟩
    unfold noteOk
    rw[decide_eq_true hs,hm,← hY,decide_eq_true hYB];rfl
   ·have hYB':decide (X=B)=false:=decide_eq_false hYB
    simp (maxDischargeDepth:=12) only[c43,hG1,hb1,Dh,e2,b00,pf,w1,p0,hG3,eA,h3,p1,hG4,eB,eC,wc,ws,h4,p2,h45,p3,hG5,h5,cR,e6,hG7,h7,hb7,hYB',hr7,z4,w4,c4,hv,ldO_one,stO_one,sy,tup,↓reduceIte,zA,zG,zC,zD,zF,zE,zB,zH,reduceCtorEq]
    refine⟨trivial,.inr trivial,_,rfl,tF.setn _ (by omega) _,.inr ⟨?_,5,by decide,rfl⟩⟩
    unfold noteOk
    rw[← hY,decide_eq_false hYB,Bool.and_false]
  ·have b20:((2:Int)==0)=false:=rfl
   simp (maxDischargeDepth:=12) only[c43,hG1,hb1,Dh,e2,b00,b20,pf,w1,p0,hG3,eA,h3,p1,hG4,eB,eC,wc,ws,h4,p2,h45,p3,hG5,h5,cR,e6,hG7,h7,hr7,z4,w4,c4,hv,ldO_one,stO_one,sy,tup,↓reduceIte,zA,zG,zC,zD,zF,zE,zB,zH,reduceCtorEq]
   refine⟨trivial,.inr trivial,_,rfl,tF.setn _ (by omega) _,.inr ⟨?_,5,by decide,rfl⟩⟩
   unfold noteOk
   rw[hm,Bool.and_false,Bool.false_and]
end
end Go.Proofs.YtllkepkaimnodaaGreatDoor.draft
namespace Go.Proofs.YtllkepkaimnodaaGreatDoor.draft
open Go.Am
noncomputable def c169:CFn:=⟨[.tmp (pp 2)],
 .seq (.reg [
 qo 2 (.p (S.get (.c (.bool false)))) []]) (
 .seq (.reg [
 mv 3 0,
 qo 4 (.p (eqcF true false [.int .u8] (tt 3) (.c (.int .u8 0)))) [pp 3],
 mv 2 4]) (
 .ret))⟩
theorem c169_eq:fnOf Tryz.prog 169=some c169:=by kernel_rfl
section
variable {K:Nat}
theorem u_nz_ok (H:Heap) (x:Nat) (lf n:Nat):U lf K (n+1) 169 [.int .u8 (x:Int)] H=some (.v (.bool (!((x:Int)==0))),H):=by
 obtain⟨v,H',e,rfl,rfl⟩:ret (U lf K (n+1) 169 [.int .u8 (x:Int)] H) fun v H'=>v=.bool (!((x:Int)==0))∧H'=H:=by
  refine ret_callU rfl rfl c169_eq ?_
  simp only[c169,sy,tup,↓reduceIte,zA,zG,zC,zD,zF,zE,zB,zH,reduceCtorEq]
  simp
 exact e
theorem u_index_ok {H:Heap} {p:Ptr} {len cap loose:Nat} {c:Nat→Nat} (hm:len < 1000000) (hd:∀ i,i < len→loadAt H ⟨p.b,p.o+i⟩ 1=some [.int .u8 (c i:Int)]) (lf n:Nat) (hlf:len+1 < lf) :
  ret (U lf K (n+2) 194 [.slice (some p) len cap loose,.func (.func 169) [] []] H) fun v H'=>H'=H∧((zeroTo c len∧v=.int .i64 (-1))∨(¬ zeroTo c len∧∃ i:Nat,v=.int .i64 (i:Int))):=by
 refine ret_callU rfl rfl c194_eq ?_
 simp only[c194,sy,tup,↓reduceIte,zA,zG,zC,zD,zF,zE,zB,zH,reduceCtorEq]
 have hloop:∀ t:T,t.getP (Tr.path 0)=some (.slice (some p) len cap loose)→t.getP (Tr.path 1)=some (.func (.func 169) [] [])→t.getP (Tr.path 7)=some (.int .i64 (len:Int))→t.getP (Tr.path 8)=some (.int .i64 0) →
   wp (loopF (runC (U lf K (n+1)) lf c194_l0) lf ⟨t,H,[]⟩) fun x s=>s.d=[]∧s.H=H∧((x=.ex 0∧zeroTo c len)∨(x=.ret∧¬ zeroTo c len∧∃ i:Nat,s.t.getP (Tr.path 4)=some (.int .i64 (i:Int)))):=by
  intro t q0 q1 q7 q8
  refine wp_loopF (fun k s=>∃ i:Nat,k=len - i∧i≤len∧s.d=[]∧s.H=H∧zeroTo c i∧s.t.getP (Tr.path 0)=some (.slice (some p) len cap loose)∧s.t.getP (Tr.path 1)=some (.func (.func 169) [] [])∧s.t.getP (Tr.path 7)=some (.int .i64 (len:Int))∧s.t.getP (Tr.path 8)=some (.int .i64 (i:Int))) ?_ lf len _ ⟨0,rfl,by omega,rfl,rfl,fun i hi=>absurd hi (by omega),q0,q1,q7,q8⟩ (by omega)
  rintro k ⟨t,HH,d⟩ ⟨i,rfl,hi,hd',hH,hz,q0,q1,q7,q8⟩
  dsimp only at hd' hH q0 q1 q7 q8
  subst hd';subst hH
  by_cases hlt:i < len
  ·have hlt':(i:Int) < (len:Int):=by omega
   have hle':i+1≤len:=hlt
   have lk:=hd i hlt
   have w3:IntKind.i64.wrap ((i:Int)+1)=((i+1:Nat):Int):=by rw[wrap_i64 (by omega)];omega
   have nz:=u_nz_ok (K:=K) HH (c i) lf n
   by_cases h0:c i=0
   ·have b0:((c i:Int)==0)=true:=by simp[h0]
    rw[b0] at nz
    simp only[c194_l0,q0,q1,q7,q8,hlt',hle',w3,lk,nz,Nat.mul_one,sy,tup,↓reduceIte,zA,zG,zC,zD,zF,zE,zB,zH,reduceCtorEq]
    refine⟨len - (i+1),by omega,i+1,rfl,by omega,trivial,trivial,fun j hj=>?_,trivial,trivial,trivial,by simp⟩
    by_cases e:j=i
    ·subst e;exact h0
    ·exact hz j (by omega)
   ·have b0:((c i:Int)==0)=false:=by simp[h0]
    rw[b0] at nz
    simp only[c194_l0,q0,q1,q7,q8,hlt',hle',w3,lk,nz,Nat.mul_one,sy,tup,↓reduceIte,zA,zG,zC,zD,zF,zE,zB,zH,reduceCtorEq]
    exact⟨trivial,trivial,.inr ⟨trivial,fun h=>h0 (h i hlt),i,rfl⟩⟩
  ·have:i=len:=by omega
   subst this
   simp only[c194_l0,q0,q1,q7,q8,Nat.lt_irrefl,Int.lt_irrefl,sy,tup,↓reduceIte,zA,zG,zC,zD,zF,zE,zB,zH,reduceCtorEq]
   exact⟨trivial,trivial,.inl ⟨trivial,hz⟩⟩
 refine wp_ctx (F:=fun r=>seqC _ _ _ (blockC _ r)) (hloop _ ?_ ?_ ?_ ?_) ?_
 ·simp only[sy,tup,↓reduceIte,zA,zG,zC,zD,zF,zE,zB,zH,reduceCtorEq]
 ·simp only[sy,tup,↓reduceIte,zA,zG,zC,zD,zF,zE,zB,zH,reduceCtorEq]
 ·simp only[sy,tup,↓reduceIte,zA,zG,zC,zD,zF,zE,zB,zH,reduceCtorEq]
 ·simp only[sy,tup,↓reduceIte,zA,zG,zC,zD,zF,zE,zB,zH,reduceCtorEq]
 rintro x ⟨t,HH,d⟩ ⟨hd',hH,⟨rfl,hz⟩ | ⟨rfl,hz,i,q4⟩⟩
 ·dsimp only at hd' hH
  subst hd';subst hH
  simp only[sy,tup,↓reduceIte,zA,zG,zC,zD,zF,zE,zB,zH,reduceCtorEq]
  exact⟨trivial,.inr trivial,_,rfl,trivial,.inl ⟨hz,rfl⟩⟩
 ·dsimp only at hd' hH q4
  subst hd';subst hH
  simp only[q4,sy,tup,↓reduceIte,zA,zG,zC,zD,zF,zE,zB,zH,reduceCtorEq]
  exact⟨trivial,.inr trivial,_,rfl,trivial,.inr ⟨hz,i,rfl⟩⟩
theorem u_contains_ok {H:Heap} {p:Ptr} {len cap loose:Nat} {c:Nat→Nat} (hm:len < 1000000) (hd:∀ i,i < len→loadAt H ⟨p.b,p.o+i⟩ 1=some [.int .u8 (c i:Int)]) (lf n:Nat) (hlf:len+1 < lf) :
  ret (U lf K (n+3) 168 [.slice (some p) len cap loose,.func (.func 169) [] []] H) fun v H'=>H'=H∧∃ z:Bool,v=.bool z∧(z=false↔zeroTo c len):=by
 obtain⟨v,H',e,rfl,hv⟩:=u_index_ok (K:=K) (cap:=cap) (loose:=loose) hm hd lf n hlf
 refine ret_callU rfl rfl c168_eq ?_
 rcases hv with ⟨hz,rfl⟩ | ⟨hz,i,rfl⟩
 ·have hn:¬ ((0:Int)≤-1):=by omega
  simp only[c168,e,hn,sy,tup,↓reduceIte,zA,zG,zC,zD,zF,zE,zB,zH,reduceCtorEq]
  exact⟨trivial,.inr trivial,_,rfl,trivial,false,rfl,by simp[hz]⟩
 ·have hn:(0:Int)≤(i:Int):=by omega
  simp only[c168,e,hn,sy,tup,↓reduceIte,zA,zG,zC,zD,zF,zE,zB,zH,reduceCtorEq]
  exact⟨trivial,.inr trivial,_,rfl,trivial,true,rfl,by simp[hz]⟩
end
end Go.Proofs.YtllkepkaimnodaaGreatDoor.draft
namespace Go.Proofs.YtllkepkaimnodaaGreatDoor.draft
open Go.Am
noncomputable def c114_l0:C:=.seq (.reg [
 qo 25 (.p (arF .lss (tt 24) (ii 4))) [pp 24]]) (
 .seq (.cond (tt 25) (.skip) (.exit 0)) (
 .seq (.block 1 (.seq (.reg [
 mv 26 24,
 qo 27 (.p (idxAF (tt 23) (tt 24) 4 1 .sc)) [pp 23,pp 24],
 mv 10 26,
 mv 11 27]) (
 .seq (.reg [
 mv 29 10,
 mv 30 6,
 mv 31 9,
 mv 32 11,
 qo 33 (.c (callF (ff 117) [(tt 30),(tt 31),(tt 32)])) [pp 30,pp 31,pp 32],
 mv 28 33,
 qo 34 (.p (extF (tt 28) 0)) [pp 28],
 qo 35 (.p (extF (tt 28) 1)) [pp 28],
 qo 36 (.p (iaddrAF (tt 8) (tt 29) 4 1)) [pp 8,pp 29],
 qn (.a (storeF (tt 36) (tt 34) 1)) [pp 36,pp 34]]) (
 .reg [
 mv 37 9,
 mv 38 11,
 qo 39 (.p (arF .add (tt 37) (tt 38))) [pp 37,pp 38],
 mv 9 39])))) (
 .reg [
 qo 40 (.p (arF .add (tt 24) (ii 1))) [pp 24],
 mv 24 40])))
noncomputable def c114:CFn:=⟨[.tmp (pp 2),.cell (pp 3) 4 .ag,.tmp (pp 4)],
 .seq (.reg [
 qo 1 (.m (boxF 64 (tt 0))) [pp 0],
 qo 2 (.p (S.get (.c (.int .u64 0)))) [],
 qo 3 (.m (allocF 4 [.int .u64 0,.int .i64 0,.int .u64 0,.int .u64 0])) [],
 qo 4 (.p (S.get (ii 0))) []]) (
 .seq (.reg [
 qo 14 (.r (loadF (tt 1) 64 .bk)) [pp 1],
 qo 15 (.c (callF (ff 116) [(tt 14)])) [pp 14],
 mv 13 15,
 qo 16 (.p (extF (tt 13) 0)) [pp 13],
 qo 17 (.p (extF (tt 13) 1)) [pp 13],
 qo 18 (.p (extF (tt 13) 2)) [pp 13],
 mv 5 16,
 mv 6 17,
 mv 7 18]) (
 .seq (.seq (.reg [
 mv 19 7,
 qo 20 (.p (eqcF true false [.int .i64] (tt 19) (ii 0))) [pp 19]]) (
 .cond (tt 20) (.seq (.reg [
 qo 21 (.p (buildF [.int .u64 0,.int .i64 0,.int .u64 0,.int .u64 0] .ag [])) [],
 mv 22 7,
 qo 2 (.p (S.get (.c (.int .u64 0)))) [],
 qn (.a (storeF (tt 3) (tt 21) 4)) [pp 3,pp 21],
 mv 4 22]) (
 .ret)) (.skip))) (
 .seq (.reg [
 qo 8 (.m (allocF 4 [.int .u64 0,.int .u64 0,.int .u64 0,.int .u64 0])) []]) (
 .seq (.reg [
 qo 9 (.p (S.get (ii 0))) []]) (
 .seq (.seq (.reg [
 qo 23 (.r (loadF (.c (.ptr (some ⟨.run 0,0⟩))) 4 .ag)) [],
 qo 24 (.p (S.get (ii 0))) []]) (
 .block 0 (.loop c114_l0))) (
 .seq (.reg [
 qo 41 (.p (iaddrAF (tt 8) (ii 0) 4 1)) [pp 8],
 qo 42 (.r (loadF (tt 41) 1 .sc)) [pp 41],
 qo 43 (.p (iaddrAF (tt 8) (ii 1) 4 1)) [pp 8],
 qo 44 (.r (loadF (tt 43) 1 .sc)) [pp 43],
 qo 45 (.p (convF .i64 (tt 44))) [pp 44],
 qo 46 (.p (iaddrAF (tt 8) (ii 2) 4 1)) [pp 8],
 qo 47 (.r (loadF (tt 46) 1 .sc)) [pp 46],
 qo 48 (.p (iaddrAF (tt 8) (ii 3) 4 1)) [pp 8],
 qo 49 (.r (loadF (tt 48) 1 .sc)) [pp 48],
 qo 50 (.p (buildF [.int .u64 0,.int .i64 0,.int .u64 0,.int .u64 0] .ag [(0,1,(tt 42)),(1,1,(tt 45)),(2,1,(tt 47)),(3,1,(tt 49))])) [pp 42,pp 45,pp 47,pp 49],
 qo 12 (.m (allocF 4 [.int .u64 0,.int .i64 0,.int .u64 0,.int .u64 0])) [],
 qn (.a (storeF (tt 12) (tt 50) 4)) [pp 12,pp 50]]) (
 .seq (.seq (.reg [
 mv 51 5,
 qo 52 (.p (arF .gtr (tt 51) (.c (.int .u64 4611686018427387904)))) [pp 51],
 mv 53 52,
 qg 54 (.r (loadF (tt 12) 4 .ag)) 53 false [pp 12],
 qg 55 (.c (callF (ff 167) [(tt 54)])) 53 false [pp 54],
 qg 56 (.p (unF .not (tt 55))) 53 false [pp 55],
 qo 57 (.p (pickF (tt 53) (.c (.bool true)) (tt 56))) [pp 53,pp 56],
 mv 58 57,
 mg 59 6 58 false,
 mg 60 9 58 false,
 qg 61 (.p (sliceF 1 (tt 59) (some (tt 60)) none none)) 58 false [pp 59,pp 60],
 qg 62 (.c (callF (ff 168) [(tt 61),(ff 169)])) 58 false [pp 61],
 qo 63 (.p (pickF (tt 58) (.c (.bool true)) (tt 62))) [pp 58,pp 62]]) (
 .cond (tt 63) (.seq (.reg [
 qo 64 (.p (buildF [.int .u64 0,.int .i64 0,.int .u64 0,.int .u64 0] .ag [])) [],
 qo 2 (.p (S.get (.c (.int .u64 0)))) [],
 qn (.a (storeF (tt 3) (tt 64) 4)) [pp 3,pp 64],
 qo 4 (.p (S.get (ii 5))) []]) (
 .ret)) (.skip))) (
 .seq (.regD [
 mv 65 5,
 qo 66 (.r (loadF (tt 12) 4 .ag)) [pp 12],
 mv 2 65,
 qn (.a (storeF (tt 3) (tt 66) 4)) [pp 3,pp 66],
 qo 4 (.p (S.get (ii 0))) []] [0,0,1,7,15]) (
 .ret)))))))))⟩
theorem c114_eq:fnOf Tryz.prog 114=some c114:=by kernel_rfl
structure Mk where
 id:Nat
 R:Nat
 first:Nat
 pos:Nat
def Mk.V (M:Mk):List V:=mkV M.id M.R M.first M.pos
noncomputable def mkG (B:Nat):Mk:=⟨bd B 0 8,bd B 8 2,bd B 10 8,bd B 18 8⟩
def mkMay (M:Mk):Bool:=decide (M.id≠0∧40≤M.R∧M.R≤256∧1≤M.first∧M.first≤4611686018427387904∧M.pos≤4611686018427387904)
open Classical in
noncomputable def markOk (B:Nat):Bool:=decide (sealE B=0)&&decide (sealN B≤4611686018427387904)&&mkMay (mkG B)&&decide (∀ i,i < 18→byte B (34+i)=0)
section
variable {lf K:Nat} (hlf:1000 < lf)
include hlf
theorem ummay' (G:Heap) (M:Mk) (n:Nat):ret (U lf K (n+1) 167 [.agg M.V] G) fun v G'=>v=.bool (mkMay M)∧Turns Z G G':=by
 have k0:cut M.V 0 1=some [.int .u64 (M.id:Int)]:=rfl
 have k1:cut M.V 1 1=some [.int .i64 (M.R:Int)]:=rfl
 have k2:cut M.V 2 1=some [.int .u64 (M.first:Int)]:=rfl
 have k3:cut M.V 3 1=some [.int .u64 (M.pos:Int)]:=rfl
 have hw:width M.V=4:=rfl
 have b0:((M.id:Int)==0)=!decide (M.id≠0):=by
  by_cases h:M.id=0
  ·rw[h];rfl
  ·rw[decide_eq_true h,Bool.not_true,beq_eq_false_iff_ne];omega
 have key:mkMay M=(decide (M.id≠0)&&decide (40≤M.R)&&decide (M.R≤256)&&decide (1≤M.first)&&decide (M.first≤4611686018427387904)&&decide (M.pos≤4611686018427387904)):=by
  unfold mkMay
  simp only[Bool.decide_and,Bool.and_assoc]
 rw[key]
 refine ret_callU rfl rfl c167_eq ?_
 by_cases h0:M.id≠0<;>by_cases h1:40≤M.R<;>by_cases h2:M.R≤256<;>by_cases h3:1≤M.first<;>by_cases h4:M.first≤4611686018427387904<;>by_cases h5:M.pos≤4611686018427387904
 all_goals
  have i1:((40:Int)≤(M.R:Int))=(40≤M.R):=propext (by omega)
  have i2:((M.R:Int)≤256)=(M.R≤256):=propext (by omega)
  have i3:((1:Int)≤(M.first:Int))=(1≤M.first):=propext (by omega)
  have i4:((M.first:Int)≤4611686018427387904)=(M.first≤4611686018427387904):=propext (by omega)
  have i5:((M.pos:Int)≤4611686018427387904)=(M.pos≤4611686018427387904):=propext (by omega)
  have d0:=b0
  simp only[h0,not_false_eq_true,not_true_eq_false,ne_eq,decide_true,decide_false,Bool.not_true,Bool.not_false] at d0
  simp (maxDischargeDepth:=12) only[c167,hw,k0,k1,k2,k3,d0,i1,i2,i3,i4,i5,h0,h1,h2,h3,h4,h5,hv,ldO_one,stO_one,sy,tup,↓reduceIte,zA,zG,zC,zD,zF,zE,zB,zH,reduceCtorEq]
  exact⟨trivial,.inr trivial,_,rfl,by simp[h0],Turns.add Z G _⟩
def arrM (M:Mk):Nat→List V
 | 0=>[.int .u64 0,.int .u64 0,.int .u64 0,.int .u64 0]
 | 1=>[.int .u64 (M.id:Int),.int .u64 0,.int .u64 0,.int .u64 0]
 | 2=>[.int .u64 (M.id:Int),.int .u64 (M.R:Int),.int .u64 0,.int .u64 0]
 | 3=>[.int .u64 (M.id:Int),.int .u64 (M.R:Int),.int .u64 (M.first:Int),.int .u64 0]
 | _=>[.int .u64 (M.id:Int),.int .u64 (M.R:Int),.int .u64 (M.first:Int),.int .u64 (M.pos:Int)]
def atM:Nat→Nat
 | 0=>0
 | 1=>8
 | 2=>10
 | 3=>18
 | _=>26
theorem umgetl {G2:Heap} {B k q:Nat} (hbk:BodyAt G2 k (fun i=>byte B (8+i)) 44) (hq:G2.next≤q) (n:Nat) {V1 V2 V3 V4 V5:V}:∀(t:T) (G3:Heap),Turns Z G2 G3→G3.get (.run q)=some (.rows false 4 [arrM (mkG B) 0])→t.getP (Tr.path 1)=some V1→t.getP (Tr.path 2)=some V2→t.getP (Tr.path 3)=some V3→t.getP (Tr.path 4)=some V4→t.getP (Tr.path 5)=some V5→t.getP (Tr.path 6)=some (.slice (some ⟨.run k,0⟩) 44 44 1)→t.getP (Tr.path 8)=some (.ptr (some ⟨.run q,0⟩))→t.getP (Tr.path 9)=some (.int .i64 0)→t.getP (Tr.path 23)=some (.agg [.int .i64 8,.int .i64 2,.int .i64 8,.int .i64 8])→t.getP (Tr.path 24)=some (.int .i64 0) →
  wp (loopF (runC (U lf K (n+1)) lf c114_l0) lf ⟨t,G3,[]⟩) fun x s=>x=.ex 0∧s.d=[]∧Turns Z G2 s.H∧s.H.get (.run q)=some (.rows false 4 [arrM (mkG B) 4])∧s.t.getP (Tr.path 1)=some V1∧s.t.getP (Tr.path 2)=some V2∧s.t.getP (Tr.path 3)=some V3∧s.t.getP (Tr.path 4)=some V4∧s.t.getP (Tr.path 5)=some V5∧s.t.getP (Tr.path 6)=some (.slice (some ⟨.run k,0⟩) 44 44 1)∧s.t.getP (Tr.path 8)=some (.ptr (some ⟨.run q,0⟩))∧s.t.getP (Tr.path 9)=some (.int .i64 26):=by
 intro t G3 t3 h3 q1 q2 q3 q4 q5 q6 q8 q9 q23 q24
 refine wp_loopF (fun f s=>∃ i,f=4 - i∧i≤4∧s.d=[]∧Turns Z G2 s.H∧s.H.get (.run q)=some (.rows false 4 [arrM (mkG B) i])∧s.t.getP (Tr.path 1)=some V1∧s.t.getP (Tr.path 2)=some V2∧s.t.getP (Tr.path 3)=some V3∧s.t.getP (Tr.path 4)=some V4∧s.t.getP (Tr.path 5)=some V5∧s.t.getP (Tr.path 6)=some (.slice (some ⟨.run k,0⟩) 44 44 1)∧s.t.getP (Tr.path 8)=some (.ptr (some ⟨.run q,0⟩))∧s.t.getP (Tr.path 9)=some (.int .i64 (atM i:Int))∧s.t.getP (Tr.path 23)=some (.agg [.int .i64 8,.int .i64 2,.int .i64 8,.int .i64 8])∧s.t.getP (Tr.path 24)=some (.int .i64 (i:Int))) ?_ lf 4 _ ⟨0,rfl,by omega,rfl,t3,h3,q1,q2,q3,q4,q5,q6,q8,q9,q23,q24⟩ (by omega)
 rintro f ⟨t,HH,d⟩ ⟨i,rfl,hi,rfl,t3,h3,q1,q2,q3,q4,q5,q6,q8,q9,q23,q24⟩
 dsimp only at t3 h3 q1 q2 q3 q4 q5 q6 q8 q9 q23 q24
 by_cases hlt:i < 4
 ·have hlt':(i:Int) < 4:=by omega
  have hle:i≤3:=by omega
  have hle':i+1≤4:=by omega
  have w1:IntKind.i64.wrap ((i:Int)+1)=((i+1:Nat):Int):=by rw[Go.Am.wrap_i64 (by omega)];omega
  have hcut:cut [V.int .i64 8,V.int .i64 2,V.int .i64 8,V.int .i64 8] i 1=some [.int .i64 (szM i:Int)]:=by
   have:i=0∨i=1∨i=2∨i=3:=by omega
   rcases this with rfl | rfl | rfl | rfl<;>rfl
  have hput:put (arrM (mkG B) i) i [.int .u64 ((bd B (atM i) (szM i):Nat):Int)]=some (arrM (mkG B) (i+1)):=by
   have:i=0∨i=1∨i=2∨i=3:=by omega
   rcases this with rfl | rfl | rfl | rfl<;>rfl
  have hat:atM i+szM i=atM (i+1)∧atM (i+1)≤26:=by
   have:i=0∨i=1∨i=2∨i=3:=by omega
   rcases this with rfl | rfl | rfl | rfl<;>decide
  have w2:IntKind.i64.wrap ((atM i:Int)+(szM i:Int))=(atM (i+1):Int):=by rw[Go.Am.wrap_i64 (by omega)];omega
  have hw4:width (arrM (mkG B) i)=4:=by
   have:i=0∨i=1∨i=2∨i=3:=by omega
   rcases this with rfl | rfl | rfl | rfl<;>rfl
  have eg:U lf K (n+1) 117 [.slice (some ⟨.run k,0⟩) 44 44 1,.int .i64 (atM i:Int),.int .i64 (szM i:Int)] HH=some (.v (.tuple [.int .u64 ((bd B (atM i) (szM i):Nat):Int),.int .i64 0]),HH):=u_nget_ok (K:=K) (H:=HH) (p:=⟨.run k,0⟩) (len:=44) (cap:=44) (loose:=1) (a:=atM i) (sz:=szM i) (c:=fun j=>byte B (8+(atM i+j))) (szM_le i) (by omega) (by omega) (by omega) (.inr rfl) (fun _ _=>byte_lt _ _) (fun j hj=>by
   have:=(hbk.turns t3).load (i:=atM i+j) (by omega)
   simpa [Nat.add_assoc] using this) lf n (by omega)
  simp (maxDischargeDepth:=12) only[c114_l0,q6,q8,q9,q23,q24,hlt',hle,hle',hcut,eg,h3,hput,w1,w2,Nat.mul_one,iaddrAF,idxAF,hv,ldO_one,stO_one,sy,tup,↓reduceIte,zA,zG,zC,zD,zF,zE,zB,zH,reduceCtorEq]
  refine⟨4 - (i+1),by omega,i+1,rfl,by omega,trivial,t3.setn _ hq _,?_,by simp[q1],by simp[q2],by simp[q3],by simp[q4],by simp[q5],by simp[q6],by simp[q8],by simp,by simp[q23],by simp⟩
  first | rfl | (rw[Heap.get_set,if_pos rfl])
 ·have:i=4:=by omega
  subst this
  have hnl:¬ (((4:Nat):Int) < 4):=by decide
  simp (maxDischargeDepth:=12) only[c114_l0,q24,hnl,hv,ldO_one,stO_one,sy,tup,↓reduceIte,zA,zG,zC,zD,zF,zE,zB,zH,reduceCtorEq]
  exact⟨trivial,trivial,t3,h3,by simp[q1],by simp[q2],by simp[q3],by simp[q4],by simp[q5],by simp[q6],by simp[q8],by simp[q9];rfl⟩
theorem umget {G:Heap} (hgl:G.get (.run 0)=some (.rows true 4 (intsR [8,2,8,8]))) (h00:0 < G.next) (B:Nat) (n:Nat):ret (U lf K (n+6) 114 [.blk B] G) fun v G'=>Turns Z G G'∧((markOk B=true∧v=.tuple [.int .u64 (sealN B:Int),.agg (mkG B).V,.int .i64 0])∨(markOk B=false∧∃ e:Int,e≠0∧v=.tuple [.int .u64 0,.agg (mkV 0 0 0 0),.int .i64 e])):=by
 have t1:Turns Z G ((G.add (.rows false 64 [[.blk B]])).add (.rows false 4 [mkV 0 0 0 0])):=by repeat (first | exact Turns.refl _ _ | apply Turns.skip | apply Turns.addm | apply Turns.setb | apply Turns.setl | apply Turns.setr | refine Turns.setn ?_ _ (by omega) _ | refine Turns.trans ?_ (tF _))
 have hb1:((G.add (.rows false 64 [[.blk B]])).add (.rows false 4 [mkV 0 0 0 0])).get (.run G.next)=some (.rows false 64 [[.blk B]]):=by rw[Heap.get_add,if_neg (run_ne (by simp)),Heap.get_add,if_pos rfl]
 have hr1:((G.add (.rows false 64 [[.blk B]])).add (.rows false 4 [mkV 0 0 0 0])).get (.run (G.next+1))=some (.rows false 4 [mkV 0 0 0 0]):=by rw[Heap.get_add,if_pos (by simp)]
 obtain⟨G1,hG1⟩:∃ G1,(G.add (.rows false 64 [[.blk B]])).add (.rows false 4 [[.int .u64 0,.int .i64 0,.int .u64 0,.int .u64 0]])=G1:=⟨_,rfl⟩
 have n1:G1.next=G.next+1+1:=by rw[← hG1];rfl
 change Turns Z G ((G.add (.rows false 64 [[.blk B]])).add (.rows false 4 [[.int .u64 0,.int .i64 0,.int .u64 0,.int .u64 0]])) at t1
 change ((G.add (.rows false 64 [[.blk B]])).add (.rows false 4 [[.int .u64 0,.int .i64 0,.int .u64 0,.int .u64 0]])).get _=_ at hb1 hr1
 rw[hG1] at t1 hb1 hr1
 obtain⟨v2,G2,e2,t2,h2⟩:=u_sget_ok (K:=K) G1 B (lf:=lf) (by omega) (n+1)
 have hb2:=(t2.same (.run G.next) (by show _ < _;omega) (fun h=>h)).trans hb1
 have hr2:=(t2.same (.run (G.next+1)) (by show _ < _;omega) (fun h=>h)).trans hr1
 have nn2:=t2.next
 have hgl2:=((t1.trans t2).same (.run 0) h00 (fun h=>h)).trans hgl
 have z4:put (mkV 0 0 0 0) 0 [.int .u64 0,.int .i64 0,.int .u64 0,.int .u64 0]=some (mkV 0 0 0 0):=rfl
 have c4:cut (mkV 0 0 0 0) 0 4=some (mkV 0 0 0 0):=rfl
 have w4:width [V.int .u64 0,.int .i64 0,.int .u64 0,.int .u64 0]=4:=rfl
 refine ret_callU rfl rfl c114_eq ?_
 rcases h2 with ⟨hs,rfl⟩ | ⟨hs,k,rfl,hbk,hk⟩
 ·have hno:markOk B=false:=by unfold markOk;rw[decide_eq_false hs,Bool.false_and,Bool.false_and,Bool.false_and]
  have hs':(sealE B==0)=false:=beq_eq_false_iff_ne.2 hs
  generalize sealE B=E at e2 hs hs'
  simp (maxDischargeDepth:=12) only[c114,hG1,hb1,Dh,e2,hs',z4,w4,hr2,c4,hv,ldO_one,stO_one,sy,tup,↓reduceIte,zA,zG,zC,zD,zF,zE,zB,zH,reduceCtorEq]
  exact⟨trivial,.inr trivial,_,rfl,(t1.trans t2).setn _ (by omega) _,.inr ⟨hno,E,hs,rfl⟩⟩
 ·obtain⟨sq,hsq⟩:∃ sq,sq=sealN B:=⟨_,rfl⟩
  rw[← hsq] at e2
  have b00:((0:Int)==0)=true:=rfl
  have n0:(0=G2.next)=False:=eq_false (by omega)
  have l0:ldO (some (.rows true 4 (intsR [8,2,8,8]))) 0 4=some [.int .i64 8,.int .i64 2,.int .i64 8,.int .i64 8]:=rfl
  have t3:Turns Z G2 (G2.add (.rows false 4 [[.int .u64 0,.int .u64 0,.int .u64 0,.int .u64 0]])):=by repeat (first | exact Turns.refl _ _ | apply Turns.skip | apply Turns.addm | apply Turns.setb | apply Turns.setl | apply Turns.setr | refine Turns.setn ?_ _ (by omega) _ | refine Turns.trans ?_ (tF _))
  have h3:(G2.add (.rows false 4 [[.int .u64 0,.int .u64 0,.int .u64 0,.int .u64 0]])).get (.run G2.next)=some (.rows false 4 [arrM (mkG B) 0]):=by rw[Heap.get_add,if_pos rfl];rfl
  simp (maxDischargeDepth:=12) only[c114,hG1,hb1,Dh,e2,b00,hgl2,n0,l0,hv,ldO_one,stO_one,sy,tup,↓reduceIte,zA,zG,zC,zD,zF,zE,zB,zH,reduceCtorEq]
  refine wp_ctx (F:=fun r=>seqC _ _ _ (blockC _ r)) (umgetl hlf hbk (Nat.le_refl _) (n+4) _ _ t3 h3 (V1:=.ptr (some ⟨.run G.next,0⟩)) (V2:=.int .u64 0) (V3:=.ptr (some ⟨.run (G.next+1),0⟩)) (V4:=.int .i64 0) (V5:=.int .u64 (sq:Int)) ?_ ?_ ?_ ?_ ?_ ?_ ?_ ?_ ?_ ?_) ?_
  ·simp only[sy,tup,↓reduceIte,zA,zG,zC,zD,zF,zE,zB,zH,reduceCtorEq]
  ·simp only[sy,tup,↓reduceIte,zA,zG,zC,zD,zF,zE,zB,zH,reduceCtorEq]
  ·simp only[sy,tup,↓reduceIte,zA,zG,zC,zD,zF,zE,zB,zH,reduceCtorEq]
  ·simp only[sy,tup,↓reduceIte,zA,zG,zC,zD,zF,zE,zB,zH,reduceCtorEq]
  ·simp only[sy,tup,↓reduceIte,zA,zG,zC,zD,zF,zE,zB,zH,reduceCtorEq]
  ·simp only[sy,tup,↓reduceIte,zA,zG,zC,zD,zF,zE,zB,zH,reduceCtorEq]
  ·simp only[sy,tup,↓reduceIte,zA,zG,zC,zD,zF,zE,zB,zH,reduceCtorEq]
  ·simp only[sy,tup,↓reduceIte,zA,zG,zC,zD,zF,zE,zB,zH,reduceCtorEq]
  ·simp only[sy,tup,↓reduceIte,zA,zG,zC,zD,zF,zE,zB,zH,reduceCtorEq]
  ·simp only[sy,tup,↓reduceIte,zA,zG,zC,zD,zF,zE,zB,zH,reduceCtorEq]
  rintro x ⟨t,G4,d⟩ ⟨rfl,hd,t4,h4,q1,q2,q3,q4,q5,q6,q8,q9⟩
  dsimp only at hd t4 h4 q1 q2 q3 q4 q5 q6 q8 q9
  subst hd
  have hR:bd B 8 2 < 65536:=bd_lt B 8
  obtain⟨M,hM⟩:∃ M,M=mkG B:=⟨_,rfl⟩
  have hMR:M.R < 65536:=by rw[hM];exact hR
  rw[← hM] at h4
  have c0:cut (arrM M 4) 0 1=some [.int .u64 (M.id:Int)]:=rfl
  have c1:cut (arrM M 4) 1 1=some [.int .u64 (M.R:Int)]:=rfl
  have c2:cut (arrM M 4) 2 1=some [.int .u64 (M.first:Int)]:=rfl
  have c3:cut (arrM M 4) 3 1=some [.int .u64 (M.pos:Int)]:=rfl
  have wR:IntKind.i64.wrap (M.R:Int)=(M.R:Int):=Go.Am.wrap_i64 (by omega)
  have a2:asNat (.int .i64 2)=some 2:=rfl
  have a3:asNat (.int .i64 3)=some 3:=rfl
  have hsl:∀(x lo:S) (t:T),x.get t=some (.slice (some ⟨.run k,0⟩) 44 44 1)→lo.get t=some (.int .i64 26)→sliceF 1 x (some lo) none none t=some (.slice (some ⟨.run k,26⟩) 18 18 1):=fun x lo t h1 h2=>by
   simp only[sliceF,h1,h2,oget,Option.map_some]
   rfl
  have g2:decide (2≤3)=true:=rfl
  have g3:decide (3≤3)=true:=rfl
  have hV:M.V=[.int .u64 (M.id:Int),.int .i64 (M.R:Int),.int .u64 (M.first:Int),.int .u64 (M.pos:Int)]:=rfl
  have hw:width [V.int .u64 (M.id:Int),.int .i64 (M.R:Int),.int .u64 (M.first:Int),.int .u64 (M.pos:Int)]=4:=rfl
  have pM:put [V.int .u64 0,.int .i64 0,.int .u64 0,.int .u64 0] 0 [.int .u64 (M.id:Int),.int .i64 (M.R:Int),.int .u64 (M.first:Int),.int .u64 (M.pos:Int)]=some [.int .u64 (M.id:Int),.int .i64 (M.R:Int),.int .u64 (M.first:Int),.int .u64 (M.pos:Int)]:=rfl
  have cM:cut [V.int .u64 (M.id:Int),.int .i64 (M.R:Int),.int .u64 (M.first:Int),.int .u64 (M.pos:Int)] 0 4=some [.int .u64 (M.id:Int),.int .i64 (M.R:Int),.int .u64 (M.first:Int),.int .u64 (M.pos:Int)]:=rfl
  have pR:put (mkV 0 0 0 0) 0 [.int .u64 (M.id:Int),.int .i64 (M.R:Int),.int .u64 (M.first:Int),.int .u64 (M.pos:Int)]=some [.int .u64 (M.id:Int),.int .i64 (M.R:Int),.int .u64 (M.first:Int),.int .u64 (M.pos:Int)]:=rfl
  have t5:Turns Z G4 ((G4.add (.rows false 4 [[.int .u64 0,.int .i64 0,.int .u64 0,.int .u64 0]])).set (.run G4.next) (.rows false 4 [[.int .u64 (M.id:Int),.int .i64 (M.R:Int),.int .u64 (M.first:Int),.int .u64 (M.pos:Int)]])):=by repeat (first | exact Turns.refl _ _ | apply Turns.skip | apply Turns.addm | apply Turns.setb | apply Turns.setl | apply Turns.setr | refine Turns.setn ?_ _ (by omega) _ | refine Turns.trans ?_ (tF _))
  have h5:((G4.add (.rows false 4 [[.int .u64 0,.int .i64 0,.int .u64 0,.int .u64 0]])).set (.run G4.next) (.rows false 4 [[.int .u64 (M.id:Int),.int .i64 (M.R:Int),.int .u64 (M.first:Int),.int .u64 (M.pos:Int)]])).get (.run G4.next)=some (.rows false 4 [[.int .u64 (M.id:Int),.int .i64 (M.R:Int),.int .u64 (M.first:Int),.int .u64 (M.pos:Int)]]):=by rw[Heap.get_set,if_pos rfl]
  obtain⟨G5,hG5⟩:∃ G5,(G4.add (.rows false 4 [[.int .u64 0,.int .i64 0,.int .u64 0,.int .u64 0]])).set (.run G4.next) (.rows false 4 [[.int .u64 (M.id:Int),.int .i64 (M.R:Int),.int .u64 (M.first:Int),.int .u64 (M.pos:Int)]])=G5:=⟨_,rfl⟩
  have nn4:=t4.next
  have nn5:G5.next=G4.next+1:=by rw[← hG5];rfl
  rw[hG5] at t5 h5
  have t25:=t4.trans t5
  have hr5:=(t25.same (.run (G.next+1)) (by show _ < _;omega) (fun h=>h)).trans hr2
  have tF:=(t1.trans t2).trans t25
  obtain⟨v6,G6,e6,rfl,t6⟩:=ummay' hlf G5 M (K:=K) (n+4)
  rw[hV] at e6
  have nn6:=t6.next
  have hr6:=(t6.same (.run (G.next+1)) (by show _ < _;omega) (fun h=>h)).trans hr5
  have h6:=(t6.same (.run G4.next) (by show _ < _;omega) (fun h=>h)).trans h5
  obtain⟨v7,G7,e7,rfl,z,rfl,hz⟩:=u_contains_ok (K:=K) (H:=G6) (p:=⟨.run k,26⟩) (len:=18) (cap:=18) (loose:=1) (c:=fun i=>byte B (8+(26+i))) (by omega) (fun i hi=>by
   have:=(hbk.turns (t25.trans t6)).load (i:=26+i) (by omega)
   simpa [Nat.add_assoc] using this) lf (n+2) (by omega)
  have hz':z=false↔∀ i,i < 18→byte B (34+i)=0:=by
   refine hz.trans ⟨fun h i hi=>?_,fun h i hi=>?_⟩
   ·have h2:byte B (8+(26+i))=0:=h i hi
    have e:8+(26+i)=34+i:=by omega
    rwa [e] at h2
   ·have e:8+(26+i)=34+i:=by omega
    show byte B (8+(26+i))=0
    rw[e];exact h i hi
  have hno:∀ v:V,(sq≤4611686018427387904→mkMay M=true→z=true)→v=.tuple [.int .u64 0,.agg (mkV 0 0 0 0),.int .i64 5]→(markOk B=true∧v=.tuple [.int .u64 (sealN B:Int),.agg (mkG B).V,.int .i64 0])∨(markOk B=false∧∃ e:Int,e≠0∧v=.tuple [.int .u64 0,.agg (mkV 0 0 0 0),.int .i64 e]):=by
   intro v h hv
   refine .inr ⟨?_,5,by decide,hv⟩
   unfold markOk
   rw[decide_eq_true hs,← hsq,← hM,Bool.true_and]
   by_cases c1:sq≤4611686018427387904
   ·by_cases c2:mkMay M=true
    ·have c3:¬ ∀ i,i < 18→byte B (34+i)=0:=fun c=>by
      have:=hz'.2 c
      rw[h c1 c2] at this;cases this
     simp only[c3,decide_false,Bool.and_false]
    ·rw[Bool.not_eq_true] at c2
     rw[c2,Bool.and_false,Bool.false_and]
   ·rw[decide_eq_false c1,Bool.false_and,Bool.false_and]
  by_cases hb:(4611686018427387904:Int) < (sq:Int)
  ·simp (maxDischargeDepth:=12) only[q1,q2,q3,q4,q5,q6,q8,q9,h4,c0,c1,c2,c3,wR,a2,a3,↓hsl,g2,g3,hb,hw,pM,hG5,hr5,z4,w4,c4,iaddrAF,idxAF,hv,ldO_one,stO_one,sy,tup,↓reduceIte,zA,zG,zC,zD,zF,zE,zB,zH,reduceCtorEq]
   exact⟨trivial,.inr trivial,_,rfl,tF.setn _ (by omega) _,hno _ (fun h=>by omega) rfl⟩
  ·cases hm:mkMay M
   ·rw[hm] at e6
    simp (maxDischargeDepth:=12) only[q1,q2,q3,q4,q5,q6,q8,q9,h4,c0,c1,c2,c3,wR,a2,a3,↓hsl,g2,g3,hb,hw,pM,hG5,h5,cM,e6,hr6,z4,w4,c4,iaddrAF,idxAF,hv,ldO_one,stO_one,sy,tup,↓reduceIte,zA,zG,zC,zD,zF,zE,zB,zH,reduceCtorEq]
    exact⟨trivial,.inr trivial,_,rfl,(tF.trans t6).setn _ (by omega) _,hno _ (fun _ h=>by rw[hm] at h;cases h) rfl⟩
   ·rw[hm] at e6
    cases z
    ·simp (maxDischargeDepth:=12) only[q1,q2,q3,q4,q5,q6,q8,q9,h4,c0,c1,c2,c3,wR,a2,a3,↓hsl,g2,g3,hb,hw,pM,hG5,h5,cM,e6,e7,h6,hr6,pR,iaddrAF,idxAF,hv,ldO_one,stO_one,sy,tup,↓reduceIte,zA,zG,zC,zD,zF,zE,zB,zH,reduceCtorEq]
     rw[endD_ok (by kernel_rfl) (by kernel_rfl)]
     simp (maxDischargeDepth:=12) only[q3,cM,hv,ldO_one,stO_one,sy,tup,↓reduceIte,zA,zG,zC,zD,zF,zE,zB,zH,reduceCtorEq]
     refine⟨trivial,.inr trivial,_,rfl,(tF.trans t6).setn _ (by omega) _,.inl ⟨?_,by rw[← hM,hV,← hsq]⟩⟩
     unfold markOk
     rw[decide_eq_true hs,← hsq,← hM,hm,decide_eq_true (show sq≤4611686018427387904 by omega)]
     have hzz:=hz'.1 rfl
     rw[eq_true hzz]
     simp
    ·simp (maxDischargeDepth:=12) only[q1,q2,q3,q4,q5,q6,q8,q9,h4,c0,c1,c2,c3,wR,a2,a3,↓hsl,g2,g3,hb,hw,pM,hG5,h5,cM,e6,e7,hr6,z4,w4,c4,iaddrAF,idxAF,hv,ldO_one,stO_one,sy,tup,↓reduceIte,zA,zG,zC,zD,zF,zE,zB,zH,reduceCtorEq]
     exact⟨trivial,.inr trivial,_,rfl,(tF.trans t6).setn _ (by omega) _,hno _ (fun _ _=>rfl) rfl⟩
end
end Go.Proofs.YtllkepkaimnodaaGreatDoor.draft
namespace Go.Proofs.YtllkepkaimnodaaGreatDoor.draft
open Go.Am
theorem stl_atD (f:Nat→Nat):∀ n j i,i < n→(stl f n j)[i]?=some (f (j+i))
 | n+1,j,0,_=>rfl
 | n+1,j,i+1,h=>by
  show (stl f n (j+1))[i]?=_
  rw[stl_atD f n (j+1) i (by omega),show j+1+i=j+(i+1) by omega]
theorem apdL {A B:List Nat} {a j:Nat} (hA:A.length=a) (h:j < a):(A++B)[j]?=A[j]?:=List.getElem?_append_left (by omega)
theorem apdR {A B:List Nat} {a j:Nat} (hA:A.length=a):(A++B)[a+j]?=B[j]?:=by
 rw[List.getElem?_append_right (by omega),show a+j - A.length=j by omega]
theorem apdLen {A B:List Nat} {a b:Nat} (hA:A.length=a) (hB:B.length=b):(A++B).length=a+b:=by rw[List.length_append,hA,hB]
theorem crcN_same {f g:Nat→Nat}:∀(m:Nat),(∀ i,i < m→f i=g i)→crcN f m=crcN g m
 | 0,_=>rfl
 | m+1,hh=>by
  show crc.takeN (crcN f m) (f m)=crc.takeN (crcN g m) (g m)
  rw[crcN_same m (fun i hi=>hh i (by omega)),hh m (by omega)]
structure Seald (N:Nat) (l:List Nat) (X:Nat):Prop where
 e:sealE X=0
 n:sealN X=N
 lo:∀ i,i < 8→byte X i=dig N i
 hi:∀ i,i < 8→byte X (56+i)=dig N i
 bd:∀ j,j < 44→byte X (8+j)=l.getD j 0
 lt:X < 256 ^ 64
theorem seal_back {N:Nat} {l:List Nat} (hN:N < 256 ^ 8) (hN0:N≠0) (hl:l.length≤44) (hlt:∀ x ∈ l,x < 256):Seald N l (blkOf N l):=by
 obtain⟨X,hX⟩:∃ X,X=blkOf N l:=⟨_,rfl⟩
 rw[← hX]
 have hrt:=row_lt (N:=N) hlt
 have hbyte:∀ j,j < 64→byte X j=(rowOf N l).getD j 0:=fun j hj=>by
  rw[hX]
  unfold blkOf
  rw[byte_fillN (fun i=>getD_lt (l:=rowOf N l) hrt i),if_pos hj]
 have hh:=head_len (N:=N) (l:=l) hl
 have hd8:=stl_len (dig N) 8 0
 have hro:rowOf N l=(headOf N l++stl (dig (sumOf N l)) 4 0)++stl (dig N) 8 0:=by unfold rowOf;rw[digs_stl,digs_stl]
 have hhd:headOf N l=stl (dig N) 8 0++(l++List.replicate (44 - l.length) 0):=by unfold headOf;rw[digs_stl]
 have ls:=stl_len (dig (sumOf N l)) 4 0
 have hk:=apdLen hh ls
 have ob:∀ {j x:Nat},j < 64→(rowOf N l)[j]?=some x→byte X j=x:=fun {j x} hj hx=>by
  rw[hbyte j hj,List.getD_eq_getElem?_getD,hx];rfl
 have b0:∀ i,i < 8→byte X i=dig N i:=fun i hi=>ob (by omega) (by
  rw[hro,apdL hk (by omega),apdL hh (by omega),hhd,apdL hd8 (by omega),stl_atD _ _ _ _ hi,Nat.zero_add])
 have b56:∀ i,i < 8→byte X (56+i)=dig N i:=fun i hi=>ob (by omega) (by
  rw[hro,apdR hk,stl_atD _ _ _ _ hi,Nat.zero_add])
 have b52:∀ i,i < 4→byte X (52+i)=dig (sumOf N l) i:=fun i hi=>ob (by omega) (by
  rw[hro,apdL hk (by omega),apdR hh,stl_atD _ _ _ _ hi,Nat.zero_add])
 have bh:∀ j,j < 52→byte X j=(headOf N l).getD j 0:=fun j hj=>by
  rw[hbyte j (by omega),List.getD_eq_getElem?_getD,List.getD_eq_getElem?_getD,hro,apdL hk (by omega),apdL hh hj]
 have bb:∀ j,j < 44→byte X (8+j)=l.getD j 0:=fun j hj=>by
  rw[bh _ (by omega),List.getD_eq_getElem?_getD,List.getD_eq_getElem?_getD,hhd,apdR hd8]
  by_cases h:j < l.length
  ·rw[List.getElem?_append_left h]
  ·rw[List.getElem?_append_right (by omega),List.getElem?_eq_none (l:=l) (by omega),List.getElem?_replicate,if_pos (by omega)];rfl
 have hsum:sumOf N l < 4294967296:=notN_lt (crcN_lt (fun i _=>getD_lt (head_lt hlt) i))
 have hcs:crcN (byte X) 52=crcN (fun i=>(headOf N l).getD i 0) 52:=crcN_same 52 bh
 have e1:sealN X=N:=leN_dig hN (fun i hi=>by rw[Nat.zero_add];exact b0 i hi)
 have e2:leN (fun i=>byte X (56+i)) 8=N:=leN_dig hN b56
 have e3:leN (fun i=>byte X (52+i)) 4=sumOf N l:=leN_dig (by show _ < 4294967296;exact hsum) b52
 have e4:notN (crcN (byte X) 52)=sumOf N l:=by rw[hcs];rfl
 have hE:sealE X=0:=by
  unfold sealE
  rw[e1,e2,e3,e4,if_neg (by intro h;rcases h with h | h;exact hN0 h;exact h rfl),if_neg (by intro h;exact h rfl)]
 exact⟨hE,e1,b0,b56,bb,by rw[hX];exact fillN_lt (fun i=>getD_lt (l:=rowOf N l) hrt i) 64 (Nat.le_refl _)⟩
def Plain (X:Nat) (N:Nat):Prop:=X < 256 ^ 64∧N < 256∧(∀ i,i < 8→byte X i=dig N i)∧∀ i,i < 8→byte X (56+i)=dig N i
theorem Seald.plain {N:Nat} {l:List Nat} {X:Nat} (h:Seald N l X) (hN:N < 256):Plain X N:=⟨h.lt,hN,h.lo,h.hi⟩
end Go.Proofs.YtllkepkaimnodaaGreatDoor.draft
namespace Go.Proofs.YtllkepkaimnodaaGreatDoor.draft
open Go.Am
theorem p256_8:(256:Nat) ^ 8=18446744073709551616:=by decide +kernel
theorem getD_of {l:List Nat} {i x:Nat} (h:l[i]?=some x):l.getD i 0=x:=by rw[List.getD_eq_getElem?_getD,h];rfl
theorem bd_of {N:Nat} {l:List Nat} {X a n x:Nat} (h:Seald N l X) (ha:a+n≤44) (hx:x < 256 ^ n) (hl:∀ i,i < n→l[a+i]?=some (dig x i)):bd X a n=x:=by
 unfold bd
 refine leN_dig hx (fun i hi=>?_)
 rw[h.bd (a+i) (by omega)]
 exact getD_of (hl i hi)
theorem note_back {nt:Nt} (h:NtOk nt):noteOk (noteB nt)=true∧ntG (noteB nt)=nt∧Seald nt.seq (noteL nt) (noteB nt):=by
 obtain⟨⟨s1,s2⟩,p1,⟨c1,c2⟩,m1⟩:=h
 have hl:noteL nt=(stl (dig nt.pos) 8 0++stl (dig nt.cells) 2 0)++stl (dig nt.sum) 4 0:=rfl
 have l1:=stl_len (dig nt.pos) 8 0
 have l2:=apdLen l1 (stl_len (dig nt.cells) 2 0)
 have l3:=apdLen l2 (stl_len (dig nt.sum) 4 0)
 obtain⟨l,hle⟩:∃ l,l=noteL nt:=⟨_,rfl⟩
 have hlt:∀ x ∈ l,x < 256:=by
  rw[hle,hl]
  intro x hx
  rcases List.mem_append.1 hx with hx | hx
  ·rcases List.mem_append.1 hx with hx | hx
   ·exact stl_lt (lf:=1001) (by decide) (dig_lt _) _ _ x hx
   ·exact stl_lt (lf:=1001) (by decide) (dig_lt _) _ _ x hx
  ·exact stl_lt (lf:=1001) (by decide) (dig_lt _) _ _ x hx
 have S:=seal_back (N:=nt.seq) (l:=l) (by rw[p256_8];omega) (by omega) (by rw[hle,hl,l3];decide) hlt
 have hX:noteB nt=blkOf nt.seq l:=by rw[hle];rfl
 rw[← hle] at hl
 rw[← hl] at l3
 have g0:bd (blkOf nt.seq l) 0 8=nt.pos:=bd_of S (by decide) (by rw[p256_8];omega) (fun i hi=>by
  rw[hl,apdL l2 (by omega),apdL l1 (by omega),Nat.zero_add,stl_atD _ _ _ _ hi,Nat.zero_add])
 have g1:bd (blkOf nt.seq l) 8 2=nt.cells:=bd_of S (by decide) (by show _ < 65536;omega) (fun i hi=>by
  rw[hl,apdL l2 (by omega),apdR l1,stl_atD _ _ _ _ hi,Nat.zero_add])
 have g2:bd (blkOf nt.seq l) 10 4=nt.sum:=bd_of S (by decide) (by show _ < 4294967296;exact m1) (fun i hi=>by
  rw[hl,apdR l2,stl_atD _ _ _ _ hi,Nat.zero_add])
 have hG:ntG (noteB nt)=nt:=by unfold ntG;rw[hX,S.n,g0,g1,g2]
 refine⟨?_,hG,by rw[hX,← hle];exact S⟩
 unfold noteOk
 rw[hG,hX,decide_eq_true S.e,← hX,decide_eq_true rfl,Bool.true_and,Bool.and_true]
 exact decide_eq_true ⟨s1,s2,p1,c1,c2⟩
end Go.Proofs.YtllkepkaimnodaaGreatDoor.draft
namespace Go.Proofs.YtllkepkaimnodaaGreatDoor.draft
open Go.Am
noncomputable def c123_l0:C:=.seq (.seq (.reg [
 mv 34 9,
 qo 35 (.p (arF .geq (tt 34) (ii 0))) [pp 34]]) (
 .cond (tt 35) (.skip) (.exit 0))) (
 .seq (.block 1 (.reg [
 mv 38 8,
 qo 39 (.p (arF .mul (.c (.int .u64 256)) (tt 38))) [pp 38],
 mv 40 0,
 mv 41 1,
 mv 42 9,
 qo 43 (.p (arF .add (tt 41) (tt 42))) [pp 41,pp 42],
 qo 44 (.p (iaddrSF (tt 40) (tt 43) 1)) [pp 40,pp 43],
 qo 45 (.r (loadF (tt 44) 1 .sc)) [pp 44],
 qo 46 (.p (convF .u64 (tt 45))) [pp 45],
 qo 47 (.p (arF .add (tt 39) (tt 46))) [pp 39,pp 46],
 mv 8 47])) (
 .reg [
 mv 36 9,
 qo 37 (.p (arF .sub (tt 36) (ii 1))) [pp 36],
 mv 9 37]))
noncomputable def c123:CFn:=⟨[.tmp (pp 6),.tmp (pp 7)],
 .seq (.reg [
 qo 6 (.p (S.get (.c (.int .u64 0)))) [],
 qo 7 (.p (S.get (ii 0))) []]) (
 .seq (.seq (.reg [
 mv 10 2,
 qo 11 (.p (arF .lss (tt 10) (ii 1))) [pp 10],
 mv 12 11,
 mg 13 2 12 false,
 qg 14 (.p (arF .gtr (tt 13) (ii 8))) 12 false [pp 13],
 qo 15 (.p (pickF (tt 12) (.c (.bool true)) (tt 14))) [pp 12,pp 14],
 mv 16 15,
 mg 17 1 16 false,
 qg 18 (.p (arF .lss (tt 17) (ii 0))) 16 false [pp 17],
 qo 19 (.p (pickF (tt 16) (.c (.bool true)) (tt 18))) [pp 16,pp 18],
 mv 20 19,
 mg 21 1 20 false,
 mg 22 0 20 false,
 qg 23 (.p (lenF (tt 22))) 20 false [pp 22],
 qg 24 (.p (arF .gtr (tt 21) (tt 23))) 20 false [pp 21,pp 23],
 qo 25 (.p (pickF (tt 20) (.c (.bool true)) (tt 24))) [pp 20,pp 24]]) (
 .cond (tt 25) (.seq (.reg [
 qo 6 (.p (S.get (.c (.int .u64 0)))) [],
 qo 7 (.p (S.get (ii 2))) []]) (
 .ret)) (.skip))) (
 .seq (.seq (.reg [
 mv 26 0,
 qo 27 (.p (lenF (tt 26))) [pp 26],
 mv 28 1,
 qo 29 (.p (arF .sub (tt 27) (tt 28))) [pp 27,pp 28],
 mv 30 2,
 qo 31 (.p (arF .lss (tt 29) (tt 30))) [pp 29,pp 30]]) (
 .cond (tt 31) (.seq (.reg [
 qo 6 (.p (S.get (.c (.int .u64 0)))) [],
 qo 7 (.p (S.get (ii 4))) []]) (
 .ret)) (.skip))) (
 .seq (.reg [
 qo 8 (.p (S.get (.c (.int .u64 0)))) []]) (
 .seq (.seq (.reg [
 mv 32 2,
 qo 33 (.p (arF .sub (tt 32) (ii 1))) [pp 32],
 mv 9 33]) (
 .block 0 (.loop c123_l0))) (
 .seq (.reg [
 mv 48 8,
 mv 6 48,
 qo 7 (.p (S.get (ii 0))) []]) (
 .ret))))))⟩
theorem c123_eq:fnOf Tryz.prog 123=some c123:=by kernel_rfl
noncomputable def sumV (c:Nat→Nat):Nat→Nat
 | 0=>0
 | i+1=>sumV c i+c i*256 ^ i
theorem sumV_lt {c:Nat→Nat}:∀ {n:Nat},(∀ i,i < n→c i < 256)→sumV c n < 256 ^ n
 | 0,_=>by show 0 < 1;decide
 | n+1,h=>by
  have a:=sumV_lt (c:=c) (n:=n) (fun i hi=>h i (by omega))
  have b:=h n (by omega)
  show sumV c n+c n*256 ^ n < 256 ^ (n+1)
  rw[Nat.pow_succ]
  have:c n*256 ^ n≤255*256 ^ n:=Nat.mul_le_mul_right _ (by omega)
  omega
theorem leN_sum {c:Nat→Nat}:∀ {n:Nat},(∀ i,i < n→c i < 256)→leN c n=sumV c n
 | 0,_=>rfl
 | n+1,h=>by
  have a:=sumV_lt (c:=c) (n:=n) (fun i hi=>h i (by omega))
  have ih:=leN_sum (c:=c) (n:=n) (fun i hi=>h i (by omega))
  show leN c n ||| up (c n) n=sumV c n+c n*256 ^ n
  rw[ih]
  unfold up
  have e:(256:Nat) ^ n=2 ^ (8*n):=by rw[Nat.pow_mul]
  rw[e] at a ⊢
  rw[Nat.or_comm,Nat.mul_comm,← Nat.two_pow_add_eq_or_of_lt a,Nat.add_comm]
noncomputable def valN (c:Nat→Nat) (s:Nat):Nat→Nat
 | 0=>0
 | m+1=>256*valN c s m+c (s - 1 - m)
theorem valN_lt {c:Nat→Nat} {s:Nat} (h:∀ i,i < s→c i < 256):∀ m,m≤s→valN c s m < 256 ^ m
 | 0,_=>by show 0 < 1;decide
 | m+1,hm=>by
  have a:=valN_lt h m (by omega)
  have b:=h (s - 1 - m) (by omega)
  show 256*valN c s m+c (s - 1 - m) < 256 ^ (m+1)
  rw[Nat.pow_succ]
  omega
theorem valN_sum (c:Nat→Nat) (s:Nat):∀ m,m≤s→sumV c s=valN c s m*256 ^ (s - m)+sumV c (s - m)
 | 0,_=>by simp[valN]
 | m+1,hm=>by
  have ih:=valN_sum c s m (by omega)
  rw[ih]
  have e:s - m=(s - (m+1))+1:=by omega
  rw[e]
  show _+(sumV c (s - (m+1))+c (s - (m+1))*256 ^ (s - (m+1)))=(256*valN c s m+c (s - 1 - m))*256 ^ (s - (m+1))+_
  rw[show s - 1 - m=s - (m+1) by omega,Nat.pow_succ,Nat.add_mul,Nat.mul_comm (256 ^ (s - (m+1))) 256,← Nat.mul_assoc,Nat.mul_comm (valN c s m) 256]
  omega
theorem valN_le {c:Nat→Nat} {s:Nat} (h:∀ i,i < s→c i < 256):valN c s s=leN c s:=by
 rw[leN_sum h,valN_sum c s s (Nat.le_refl _)]
 simp[sumV]
theorem rnum_ok {H:Heap} {p:Ptr} {len cap loose a sz:Nat} {c:Nat→Nat} (hs:1≤sz∧sz≤8) (ha:a+sz≤len) (hm:len < 1000000) (hb:∀ i,i < sz→c i < 256) (hd:∀ i,i < sz→loadAt H ⟨p.b,p.o+(a+i)⟩ 1=some [.int .u8 (c i:Int)]) (lf n:Nat) (hlf:17 < lf) :
  callS Tryz.prog S0 lf (n+1) 123 [.slice (some p) len cap loose,.int .i64 (a:Int),.int .i64 (sz:Int)] H=some (.v (.tuple [.int .u64 ((leN c sz:Nat):Int),.int .i64 0]),H):=by
 obtain⟨v,H',e,rfl,rfl⟩:ret (callS Tryz.prog S0 lf (n+1) 123 [.slice (some p) len cap loose,.int .i64 (a:Int),.int .i64 (sz:Int)] H) fun v H'=>v=.tuple [.int .u64 ((leN c sz:Nat):Int),.int .i64 0]∧H'=H:=by
  refine ret_call rfl c123_eq ?_
  have f1:¬ ((sz:Int) < 1):=by omega
  have f2:¬ ((8:Int) < (sz:Int)):=by omega
  have f3:¬ ((a:Int) < 0):=by omega
  have f4:¬ ((len:Int) < (a:Int)):=by omega
  have w1:IntKind.i64.wrap ((len:Int) - (a:Int))=((len - a:Nat):Int):=by rw[wrap_i64 (by omega)];omega
  have f5:¬ (((len - a:Nat):Int) < (sz:Int)):=by omega
  have w2:IntKind.i64.wrap ((sz:Int) - 1)=(sz:Int) - 1:=wrap_i64 (by omega)
  have hloop:∀ t:T,t.getP (Tr.path 0)=some (.slice (some p) len cap loose)→t.getP (Tr.path 1)=some (.int .i64 (a:Int))→t.getP (Tr.path 8)=some (.int .u64 0)→t.getP (Tr.path 9)=some (.int .i64 ((sz:Int) - 1)) →
    wp (loopF (runC (callS Tryz.prog S0 lf n) lf c123_l0) lf ⟨t,H,[]⟩) fun x s=>x=.ex 0∧s.d=[]∧s.H=H∧s.t.getP (Tr.path 8)=some (.int .u64 ((leN c sz:Nat):Int)):=by
   intro t q0 q1 q8 q9
   refine wp_loopF (fun k s=>∃ m:Nat,k=sz - m∧m≤sz∧s.d=[]∧s.H=H∧s.t.getP (Tr.path 0)=some (.slice (some p) len cap loose)∧s.t.getP (Tr.path 1)=some (.int .i64 (a:Int))∧s.t.getP (Tr.path 8)=some (.int .u64 ((valN c sz m:Nat):Int))∧s.t.getP (Tr.path 9)=some (.int .i64 ((sz:Int) - 1 - (m:Int)))) ?_ lf sz _ ⟨0,rfl,by omega,rfl,rfl,q0,q1,q8,by rw[q9];simp⟩ (by omega)
   rintro k ⟨t,HH,d⟩ ⟨m,rfl,hi,hd',hH,q0,q1,q8,q9⟩
   dsimp only at hd' hH q0 q1 q8 q9
   subst hd';subst hH
   by_cases hlt:m < sz
   ·have g0:(0:Int)≤(sz:Int) - 1 - (m:Int):=by omega
    obtain⟨i,hi'⟩:∃ i,i=sz - 1 - m:=⟨_,rfl⟩
    have ei:(sz:Int) - 1 - (m:Int)=(i:Int):=by omega
    rw[ei] at q9
    have k0:(0:Int)≤(i:Int):=by omega
    have hval:valN c sz (m+1)=256*valN c sz m+c i:=by rw[valN,hi']
    have vl:=valN_lt hb m (by omega)
    have vl':=valN_lt hb (m+1) (by omega)
    rw[hval] at vl'
    have p8:256 ^ (m+1)≤256 ^ 8:=Nat.pow_le_pow_right (by decide) (by omega)
    rw[show (256:Nat) ^ 8=18446744073709551616 by decide +kernel] at p8
    have lk:=hd i (by omega)
    have hcb:=hb i (by omega)
    obtain⟨e,he⟩:∃ e,e=a+i:=⟨_,rfl⟩
    rw[← he] at lk
    have hle:e+1≤len:=by omega
    have w3:IntKind.i64.wrap ((a:Int)+(i:Int))=(e:Int):=by rw[wrap_i64 (by omega)];omega
    have w4:IntKind.i64.wrap ((i:Int) - 1)=(sz:Int) - 1 - ((m+1:Nat):Int):=by rw[wrap_i64 (by omega)];omega
    generalize hv:valN c sz m=v at *
    generalize c i=ci at *
    have w5:IntKind.u64.wrap (256*(v:Int))=((256*v:Nat):Int):=by rw[show (256*(v:Int))=((256*v:Nat):Int) by omega];exact wrap_u64 (by omega)
    have w6:IntKind.u64.wrap (ci:Int)=(ci:Int):=wrap_u64 (by omega)
    obtain⟨v2,hv2⟩:∃ z,z=256*v:=⟨_,rfl⟩
    rw[← hv2] at w5 vl' hval
    have w7:IntKind.u64.wrap ((v2:Int)+(ci:Int))=((v2+ci:Nat):Int):=by rw[show ((v2:Int)+(ci:Int))=((v2+ci:Nat):Int) by omega];exact wrap_u64 (by omega)
    rw[← hval] at w7
    simp only[c123_l0,q0,q1,q8,q9,k0,hle,w3,w4,w5,w6,w7,lk,arith_mul,Nat.mul_one,sy,tup,↓reduceIte,zA,zG,zC,zD,zF,zE,zB,zH,reduceCtorEq]
    exact⟨sz - (m+1),by omega,m+1,rfl,by omega,trivial,trivial,trivial,trivial,rfl,by simp⟩
   ·have:m=sz:=by omega
    subst this
    have g0:¬ ((0:Int)≤(m:Int) - 1 - (m:Int)):=by omega
    simp only[c123_l0,q0,q1,q8,q9,g0,sy,tup,↓reduceIte,zA,zG,zC,zD,zF,zE,zB,zH,reduceCtorEq]
    exact⟨trivial,trivial,trivial,by rw[valN_le hb]⟩
  simp only[c123,f1,f2,f3,f4,f5,w1,w2,sy,tup,↓reduceIte,zA,zG,zC,zD,zF,zE,zB,zH,reduceCtorEq]
  refine wp_ctx (F:=fun r=>seqC _ _ _ (blockC _ r)) (hloop _ ?_ ?_ ?_ ?_) ?_
  ·simp only[sy,tup,↓reduceIte,zA,zG,zC,zD,zF,zE,zB,zH,reduceCtorEq]
  ·simp only[sy,tup,↓reduceIte,zA,zG,zC,zD,zF,zE,zB,zH,reduceCtorEq]
  ·simp only[sy,tup,↓reduceIte,zA,zG,zC,zD,zF,zE,zB,zH,reduceCtorEq]
  ·simp only[sy,tup,↓reduceIte,zA,zG,zC,zD,zF,zE,zB,zH,reduceCtorEq]
  rintro x ⟨t,HH,d⟩ ⟨rfl,hd',hH,q8⟩
  dsimp only at hd' hH q8
  subst hd';subst hH
  simp only[q8,sy,tup,↓reduceIte,zA,zG,zC,zD,zF,zE,zB,zH,reduceCtorEq]
  simp
 exact e
end Go.Proofs.YtllkepkaimnodaaGreatDoor.draft
namespace Go.Proofs.YtllkepkaimnodaaGreatDoor.draft
open Go.Am
noncomputable def c122:CFn:=⟨[.tmp (pp 2),.tmp (pp 3),.tmp (pp 4)],
 .seq (.reg [
 qo 1 (.m (boxF 64 (tt 0))) [pp 0],
 qo 2 (.p (S.get (.c (.int .u64 0)))) [],
 qo 3 (.p (S.get (.c (.slice none 0 0 0)))) [],
 qo 4 (.p (S.get (ii 0))) []]) (
 .seq (.reg [
 qo 12 (.p (sliceAF 64 1 (tt 1) none none none)) [pp 1],
 qo 13 (.c (callF (ff 165) [(tt 12)])) [pp 12],
 mv 5 13]) (
 .seq (.reg [
 mv 15 5,
 qo 16 (.c (callF (ff 123) [(tt 15),(ii 0),(ii 8)])) [pp 15],
 mv 14 16,
 qo 17 (.p (extF (tt 14) 0)) [pp 14],
 qo 18 (.p (extF (tt 14) 1)) [pp 14],
 mv 6 17,
 mv 7 18]) (
 .seq (.reg [
 mv 20 5,
 qo 21 (.c (callF (ff 123) [(tt 20),(ii 56),(ii 8)])) [pp 20],
 mv 19 21,
 qo 22 (.p (extF (tt 19) 0)) [pp 19],
 qo 23 (.p (extF (tt 19) 1)) [pp 19],
 mv 8 22,
 mv 9 23]) (
 .seq (.seq (.reg [
 mv 24 6,
 qo 25 (.p (eqcF false false [.int .u64] (tt 24) (.c (.int .u64 0)))) [pp 24],
 mv 26 25,
 mg 27 6 26 false,
 mg 28 8 26 false,
 qg 29 (.p (eqcF true false [.int .u64] (tt 27) (tt 28))) 26 false [pp 27,pp 28],
 qo 30 (.p (pickF (tt 26) (.c (.bool true)) (tt 29))) [pp 26,pp 29]]) (
 .cond (tt 30) (.seq (.reg [
 qo 2 (.p (S.get (.c (.int .u64 0)))) [],
 qo 3 (.p (S.get (.c (.slice none 0 0 0)))) [],
 qo 4 (.p (S.get (ii 5))) []]) (
 .ret)) (.skip))) (
 .seq (.reg [
 mv 32 5,
 qo 33 (.c (callF (ff 123) [(tt 32),(ii 52),(ii 4)])) [pp 32],
 mv 31 33,
 qo 34 (.p (extF (tt 31) 0)) [pp 31],
 qo 35 (.p (extF (tt 31) 1)) [pp 31],
 mv 10 34,
 mv 11 35]) (
 .seq (.seq (.reg [
 mv 36 5,
 qo 37 (.p (sliceF 1 (tt 36) none (some (ii 52)) none)) [pp 36],
 qo 38 (.c (callF (ff 166) [(tt 37)])) [pp 37],
 qo 39 (.p (convF .u64 (tt 38))) [pp 38],
 mv 40 10,
 qo 41 (.p (eqcF true false [.int .u64] (tt 39) (tt 40))) [pp 39,pp 40]]) (
 .cond (tt 41) (.seq (.reg [
 qo 2 (.p (S.get (.c (.int .u64 0)))) [],
 qo 3 (.p (S.get (.c (.slice none 0 0 0)))) [],
 qo 4 (.p (S.get (ii 6))) []]) (
 .ret)) (.skip))) (
 .seq (.reg [
 mv 42 6,
 mv 43 5,
 qo 44 (.p (sliceF 1 (tt 43) (some (ii 8)) (some (ii 52)) none)) [pp 43],
 qo 45 (.c (callF (ff 165) [(tt 44)])) [pp 44],
 mv 2 42,
 mv 3 45,
 qo 4 (.p (S.get (ii 0))) []]) (
 .ret))))))))⟩
theorem c122_eq:fnOf Tryz.prog 122=some c122:=by kernel_rfl
theorem rcopyE {H:Heap} {p:Ptr} {m cap loose:Nat} {f:Nat→Nat} (hm:0 < m∧m≤1000) (he:elems H p.b 1 m p.o=some (rowsB f m 0)) (lf n:Nat):ret (callS Tryz.prog S0 lf (n+1) 165 [.slice (some p) m cap loose] H) fun v H'=>Turns Z H H'∧∃ k,v=.slice (some ⟨.run k,0⟩) m m 1∧BodyAt H' k f m∧H.next≤k:=by
 have hl:=rowsB_len f m 0
 have hne:rowsB f m 0≠[]:=fun e=>by rw[e] at hl;simp at hl;omega
 obtain⟨H',ea,hw,ta,hn⟩:=(Lst.nil H H 1).app (by':=1) (x:=.slice (some p) m cap loose) (new:=rowsB f m 0) (Nat.le_refl _) (by show elems H p.b 1 m p.o=_;exact he) (by show some m=_;rw[hl]) hne (by decide) (by simp[hl];omega) (by simp[hl];omega)
 have tz:Turns Z H H':=lst_away (Lst.nil H H 1) (Turns.refl _ _) (Nat.le_refl _) ta
 simp only[List.length_nil,hl,Nat.zero_add,List.nil_append] at ea hw
 refine ret_call rfl c165_eq ?_
 simp only[c165,ea,sy,tup,↓reduceIte,zA,zG,zC,zD,zF,zE,zB,zH,reduceCtorEq]
 refine⟨trivial,.inr trivial,_,rfl,tz,H.next,rfl,?_,Nat.le_refl _⟩
 rcases hw with ⟨e,_⟩ | ⟨k,_,e,hg,_,h2⟩
 ·exact absurd e hne
 ·have e':=(V.slice.inj e).1
  cases e'
  exact⟨hg,h2⟩
theorem elems_body {H:Heap} {k:Nat} {c:Nat→Nat} {N:Nat} (h:BodyAt H k c N) (a:Nat):∀ n j,a+j+n≤N→elems H (.run k) 1 n (a+j)=some (rowsB (fun i=>c (a+i)) n j)
 | 0,_,_=>rfl
 | n+1,j,hj=>by
  unfold elems
  rw[h.load (show a+j < N by omega)]
  simp only
  rw[show Nat.add (a+j) 1=a+(j+1) from rfl,elems_body h a n (j+1) (by omega)]
  rfl
theorem rget7_ok (H:Heap) (B:Nat) {lf:Nat} (hlf:90 < lf) (n:Nat):ret (callS Tryz.prog S0 lf (n+5) 122 [.blk B] H) fun v H'=>Turns Z H H' ∧
  ((sealE B≠0∧v=.tuple [.int .u64 0,.slice none 0 0 0,.int .i64 (sealE B)])∨(sealE B=0∧∃ k,v=.tuple [.int .u64 ((sealN B:Nat):Int),.slice (some ⟨.run k,0⟩) 44 44 1,.int .i64 0]∧BodyAt H' k (fun i=>byte B (8+i)) 44∧H.next≤k)):=by
 have t1:=Turns.add Z H (.rows false 64 [[.blk B]])
 have hg:(H.add (.rows false 64 [[.blk B]])).get (.run H.next)=some (.rows false 64 [[.blk B]]):=by rw[Heap.get_add,if_pos rfl]
 generalize hH1:H.add (.rows false 64 [[.blk B]])=H1 at *
 obtain⟨vr,H2,e2,t2,k,rfl,hr,hk⟩:=rcopyE (p:=⟨.run H.next,0⟩) (cap:=64) (loose:=0) (f:=byte B) (by omega) (elems_blk hg 64 0 (by omega)) lf (n+3)
 change callS Tryz.prog S0 lf (n+4) _ _ _=_ at e2
 have g1:callS Tryz.prog S0 lf (n+4) 123 [.slice (some ⟨.run k,0⟩) 64 64 1,.int .i64 0,.int .i64 8] H2=some (.v (.tuple [.int .u64 ((leN (fun i=>byte B (0+i)) 8:Nat):Int),.int .i64 0]),H2):=rnum_ok (a:=0) (sz:=8) (c:=fun i=>byte B (0+i)) (by omega) (by omega) (by omega) (fun i _=>byte_lt _ _) (fun i hi=>by simpa using hr.load (i:=0+i) (by omega)) lf (n+3) (by omega)
 have g2:callS Tryz.prog S0 lf (n+4) 123 [.slice (some ⟨.run k,0⟩) 64 64 1,.int .i64 56,.int .i64 8] H2=some (.v (.tuple [.int .u64 ((leN (fun i=>byte B (56+i)) 8:Nat):Int),.int .i64 0]),H2):=rnum_ok (a:=56) (sz:=8) (c:=fun i=>byte B (56+i)) (by omega) (by omega) (by omega) (fun i _=>byte_lt _ _) (fun i hi=>by simpa using hr.load (i:=56+i) (by omega)) lf (n+3) (by omega)
 have g3:callS Tryz.prog S0 lf (n+4) 123 [.slice (some ⟨.run k,0⟩) 64 64 1,.int .i64 52,.int .i64 4] H2=some (.v (.tuple [.int .u64 ((leN (fun i=>byte B (52+i)) 4:Nat):Int),.int .i64 0]),H2):=rnum_ok (a:=52) (sz:=4) (c:=fun i=>byte B (52+i)) (by omega) (by omega) (by omega) (fun i _=>byte_lt _ _) (fun i hi=>by simpa using hr.load (i:=52+i) (by omega)) lf (n+3) (by omega)
 have g4:∀ cap loose,callS Tryz.prog S0 lf (n+4) 166 [.slice (some ⟨.run k,0⟩) 52 cap loose] H2=_:=fun cap loose=>rof_ok (H:=H2) (p:=⟨.run k,0⟩) (len:=52) (cap:=cap) (loose:=loose) (c:=byte B) (by omega) (fun i _=>byte_lt _ _) (fun i hi=>by simpa using hr.load (i:=i) (by omega)) lf n (by omega)
 have t12:=t1.trans t2
 have hk':H.next≤k:=Nat.le_trans t1.next hk
 have l1:leN (fun i=>byte B (0+i)) 8=sealN B:=rfl
 rw[l1] at g1
 generalize hN2:leN (fun i=>byte B (56+i)) 8=n2 at *
 generalize hN3:leN (fun i=>byte B (52+i)) 4=n3 at *
 have hcl:notN (crcN (byte B) 52) < 4294967296:=notN_lt (crcN_lt (fun i _=>byte_lt _ _))
 have hE:sealE B=if sealN B=0∨sealN B≠n2 then 5 else if notN (crcN (byte B) 52)≠n3 then 6 else 0:=by unfold sealE;rw[hN2,hN3]
 generalize hN4:notN (crcN (byte B) 52)=n4 at *
 have w4:IntKind.u64.wrap (n4:Int)=(n4:Int):=wrap_u64 (by omega)
 have b1:bound 52 (.int .i64 52)=some 52:=rfl
 have b2:bound 64 (.int .i64 52)=some 52:=rfl
 have b3:bound 52 (.int .i64 8)=some 8:=rfl
 have m1:Nat.beq 52 0=false:=rfl
 have m2:Nat.beq 64 8=false:=rfl
 have m3:Nat.beq 52 8=false:=rfl
 have m4:Nat.beq 64 0=false:=rfl
 rw[hE]
 obtain⟨n1,hn1⟩:∃ z,z=sealN B:=⟨_,rfl⟩
 rw[← hn1] at g1 ⊢
 refine ret_call rfl c122_eq ?_
 by_cases h0:n1=0
 ·rw[h0] at g1 ⊢
  have z0:(((0:Nat):Int)==0)=true:=rfl
  simp only[c122,hH1,e2,g1,g2,g3,g4,z0,sliceAF,oget,bounds,boundD,sy,tup,↓reduceIte,zA,zG,zC,zD,zF,zE,zB,zH,reduceCtorEq]
  exact⟨trivial,.inr trivial,_,rfl,t12,.inl ⟨by simp,by simp⟩⟩
 ·have z0:((n1:Int)==0)=false:=by simpa using h0
  by_cases h1:n1=n2
  ·rw[← h1] at g2 ⊢
   by_cases h2:n4=n3
   ·rw[← h2] at g3 ⊢
    obtain⟨vb,H3,e3,t3,k3,rfl,hb3,hk3⟩:ret (callS Tryz.prog S0 lf (n+4) 165 [.slice (some ⟨.run k,8⟩) 44 56 1] H2) _:=rcopyE (p:=⟨.run k,8⟩) (cap:=56) (loose:=1) (f:=fun i=>byte B (8+i)) (by omega) (by simpa using elems_body hr 8 44 0 (by omega)) lf (n+3)
    simp only[c122,hH1,e2,g1,g2,g3,g4,z0,w4,e3,b1,b2,b3,m1,m2,m3,m4,sliceF,sliceAF,oget,bounds,boundD,bne_self_eq_false,sy,tup,↓reduceIte,zA,zG,zC,zD,zF,zE,zB,zH,reduceCtorEq]
    exact⟨trivial,.inr trivial,_,rfl,t12.trans t3,.inr ⟨by simp[h0],k3,rfl,hb3,Nat.le_trans t12.next hk3⟩⟩
   ·have z2:((n4:Int)==(n3:Int))=false:=by simpa using (fun e=>h2 (Int.ofNat.inj e))
    simp only[c122,hH1,e2,g1,g2,g3,g4,z0,z2,w4,b1,b2,m1,m2,m3,m4,sliceAF,oget,bounds,boundD,sy,tup,↓reduceIte,zA,zG,zC,zD,zF,zE,zB,zH,reduceCtorEq]
    exact⟨trivial,.inr trivial,_,rfl,t12,.inl ⟨by simp[h0,h2],by simp[h0,h2]⟩⟩
  ·have z1:((n1:Int)==(n2:Int))=false:=by simpa using (fun e=>h1 (Int.ofNat.inj e))
   simp only[c122,hH1,e2,g1,g2,g3,g4,z0,z1,sliceAF,oget,bounds,boundD,sy,tup,↓reduceIte,zA,zG,zC,zD,zF,zE,zB,zH,reduceCtorEq]
   exact⟨trivial,.inr trivial,_,rfl,t12,.inl ⟨by simp[h1],by simp[h1]⟩⟩
end Go.Proofs.YtllkepkaimnodaaGreatDoor.draft
namespace Go.Proofs.YtllkepkaimnodaaGreatDoor.draft
open Go.Am
theorem sumV_split (c:Nat→Nat) (i:Nat):∀ m,sumV c (i+m)=sumV c i+256 ^ i*sumV (fun j=>c (i+j)) m
 | 0=>by simp[sumV]
 | m+1=>by
  have ih:=sumV_split c i m
  show sumV c (i+m)+c (i+m)*256 ^ (i+m)=sumV c i+256 ^ i*(sumV (fun j=>c (i+j)) m+c (i+m)*256 ^ m)
  rw[ih,Nat.mul_add,Nat.pow_add,← Nat.mul_assoc,← Nat.mul_assoc,Nat.mul_comm (c (i+m)) (256 ^ i)]
  omega
theorem sumV_digit {c:Nat→Nat} {n i:Nat} (h:∀ j,j < n→c j < 256) (hi:i < n):sumV c n / 256 ^ i % 256=c i:=by
 have e:n=i+(1+(n - i - 1)):=by omega
 have a:=sumV_split c i (1+(n - i - 1))
 rw[← e] at a
 have b:=sumV_split (fun j=>c (i+j)) 1 (n - i - 1)
 have l:=sumV_lt (c:=c) (n:=i) (fun j hj=>h j (by omega))
 have hp:0 < 256 ^ i:=Nat.pow_pos (by decide)
 rw[a,Nat.add_mul_div_left _ _ hp,Nat.div_eq_of_lt l,Nat.zero_add,b]
 have:sumV (fun j=>c (i+j)) 1=c i:=by simp[sumV]
 rw[this,show 256 ^ 1=256 from rfl,Nat.add_mul_mod_self_left]
 exact Nat.mod_eq_of_lt (h i hi)
theorem stl_snoc (f:Nat→Nat):∀ n j,stl f (n+1) j=stl f n j++[f (j+n)]
 | 0,j=>rfl
 | n+1,j=>by
  show f j::stl f (n+1) (j+1)=(f j::stl f n (j+1))++[f (j+(n+1))]
  rw[stl_snoc f n (j+1),List.cons_append,show j+1+n=j+(n+1) by omega]
theorem stl_shift (f:Nat→Nat) (a:Nat):∀ n j,stl (fun i=>f (a+i)) n j=stl f n (a+j)
 | 0,_=>rfl
 | n+1,j=>by
  show _::_=_::_
  rw[stl_shift f a n (j+1),show a+(j+1)=a+j+1 by omega]
theorem stl_get (f:Nat→Nat):∀ n j i,i < n→(stl f n j)[i]?=some (f (j+i))
 | n+1,j,0,_=>rfl
 | n+1,j,i+1,h=>by
  show (stl f n (j+1))[i]?=_
  rw[stl_get f n (j+1) i (by omega),show j+1+i=j+(i+1) by omega]
theorem digs_le {c:Nat→Nat} {n:Nat} (h:∀ j,j < n→c j < 256):∀ i,i≤n→digs (leN c n) i=stl c i 0
 | 0,_=>rfl
 | i+1,hi=>by
  rw[digs,digs_le h i (by omega),stl_snoc,leN_sum h,sumV_digit h (by omega),Nat.zero_add]
theorem seal_num {B:Nat} (h:sealE B=0):digs (sealN B) 8=stl (byte B) 8 0∧digs (sealN B) 8=stl (byte B) 8 56∧digs (notN (crcN (byte B) 52)) 4=stl (byte B) 4 52:=by
 unfold sealE at h
 have hb:∀ a sz:Nat,∀ j,j < sz→byte B (a+j) < 256:=fun a sz j _=>byte_lt _ _
 split at h
 ·cases h
 ·rename_i h1
  split at h
  ·cases h
  ·rename_i h2
   have h1':sealN B=leN (fun i=>byte B (56+i)) 8:=by
    apply Classical.byContradiction
    intro e;exact h1 (.inr e)
   have h2':notN (crcN (byte B) 52)=leN (fun i=>byte B (52+i)) 4:=by
    apply Classical.byContradiction
    intro e;exact h2 e
   refine⟨?_,?_,?_⟩
   ·unfold sealN
    rw[digs_le (hb 0 8) 8 (Nat.le_refl _),stl_shift (byte B) 0 8 0]
   ·rw[h1',digs_le (hb 56 8) 8 (Nat.le_refl _),stl_shift (byte B) 56 8 0]
   ·rw[h2',digs_le (hb 52 4) 4 (Nat.le_refl _),stl_shift (byte B) 52 4 0]
theorem crcN_congr {f g:Nat→Nat}:∀ {n:Nat},(∀ i,i < n→f i=g i)→crcN f n=crcN g n
 | 0,_=>rfl
 | n+1,h=>by
  show crc.takeN (crcN f n) (f n)=crc.takeN (crcN g n) (g n)
  rw[crcN_congr (fun i hi=>h i (by omega)),h n (by omega)]
noncomputable def again (B:Nat):Nat:=blkOf (sealN B) (bodyN (fld B 0 8) (fld B 13 1) (fld B 8 1) (fld B 9 2) (fld B 11 2) (gSt B) (fld B 18 2) (((fld B 20 1:Nat):Int)==1))
end Go.Proofs.YtllkepkaimnodaaGreatDoor.draft
namespace Go.Proofs.YtllkepkaimnodaaGreatDoor.draft
open Go.Am
theorem stl_eq {f g:Nat→Nat} {n a b:Nat} (h:stl f n a=stl g n b):∀ i,i < n→f (a+i)=g (b+i):=fun i hi=>by
 have:=congrArg (fun l:List Nat=>l[i]?) h
 simpa [stl_get _ _ _ _ hi] using this
theorem seal_uniq {X Y:Nat} (hX:X < 256 ^ 64) (hY:Y < 256 ^ 64) (eX:sealE X=0) (eY:sealE Y=0) (hn:sealN X=sealN Y) (hb:∀ j,j < 44→byte X (8+j)=byte Y (8+j)):X=Y:=by
 obtain⟨a1,a2,a3⟩:=seal_num eX
 obtain⟨b1,b2,b3⟩:=seal_num eY
 have h0:=stl_eq (a1.symm.trans ((congrArg (digs · 8) hn).trans b1))
 have h56:=stl_eq (a2.symm.trans ((congrArg (digs · 8) hn).trans b2))
 have h52:∀ j,j < 52→byte X j=byte Y j:=fun j hj=>by
  by_cases h:j < 8
  ·simpa using h0 j h
  ·have:=hb (j - 8) (by omega)
   rwa [show 8+(j - 8)=j by omega] at this
 have hc:=stl_eq (a3.symm.trans ((congrArg (fun z=>digs (notN z) 4) (crcN_congr h52)).trans b3))
 refine disk.eq_of_bytes hX hY fun j hj=>?_
 by_cases h:j < 52
 ·exact h52 j h
 ·by_cases h2:j < 56
  ·have:=hc (j - 52) (by omega)
   rwa [show 52+(j - 52)=j by omega] at this
  ·have:=h56 (j - 56) (by omega)
   rwa [show 56+(j - 56)=j by omega] at this
def zt (B a n:Nat):Bool:=(List.range n).all fun i=>byte B (a+i)==0
theorem zt_iff {B a n:Nat}:zt B a n=true↔∀ i,i < n→byte B (a+i)=0:=by unfold zt;simp
theorem noteOk_eq {B:Nat} (hB:B < 256 ^ 64):noteOk B=(decide (sealE B=0)&&(ntMay (ntG B)&&zt B 22 30)):=by
 unfold noteOk
 by_cases hs:sealE B=0
 rotate_left
 ·rw[decide_eq_false hs,Bool.false_and,Bool.false_and,Bool.false_and]
 by_cases hm:ntMay (ntG B)=true
 rotate_left
 ·rw[Bool.not_eq_true] at hm
  rw[hm,Bool.and_false,Bool.false_and,Bool.false_and,Bool.and_false]
 rw[decide_eq_true hs,hm,Bool.true_and,Bool.true_and,Bool.true_and]
 obtain⟨h1,h2,h3⟩:=note_back (ntMay_ok hm (bd_lt B 10))
 have key:∀ j,j < 14→byte B (8+j)=(noteL (ntG B)).getD j 0:=fun j hj=>by
  have hd:∀(a n i:Nat),i < n→byte B (8+(a+i))=dig (bd B a n) i:=fun a n i hi=>by
   have:=stl_eq ((digs_stl (bd B a n) n).symm.trans (digs_le (c:=fun i=>byte B (8+(a+i))) (n:=n) (fun j _=>byte_lt _ _) n (Nat.le_refl _))) i hi
   simpa using this.symm
  symm
  apply getD_of
  unfold noteL
  by_cases c1:j < 8
  ·rw[apdL (apdLen (stl_len _ _ _) (stl_len _ _ _)) (by omega),apdL (stl_len _ _ _) c1,stl_atD _ _ _ _ c1,Nat.zero_add]
   have:=hd 0 8 j c1
   rw[Nat.zero_add] at this
   rw[this];rfl
  ·by_cases c2:j < 10
   ·obtain⟨i,rfl⟩:∃ i,j=8+i:=⟨j - 8,by omega⟩
    rw[apdL (apdLen (stl_len _ _ _) (stl_len _ _ _)) (by omega),apdR (stl_len _ _ _),stl_atD _ _ _ _ (by omega),Nat.zero_add,hd 8 2 i (by omega)];rfl
   ·obtain⟨i,rfl⟩:∃ i,j=8+2+i:=⟨j - 10,by omega⟩
    rw[apdR (apdLen (stl_len _ _ _) (stl_len _ _ _)),stl_atD _ _ _ _ (by omega),Nat.zero_add,hd 10 4 i (by omega)];rfl
 rw[Bool.true_and,Bool.eq_iff_iff,decide_eq_true_iff,zt_iff]
 constructor
 ·intro e i hi
  have:=h3.bd (14+i) (by omega)
  rw[e,List.getD_eq_getElem?_getD,List.getElem?_eq_none (by rw[noteL_len];omega)] at this
  rwa [show 8+(14+i)=22+i by omega] at this
 ·intro hz
  refine seal_uniq h3.lt hB h3.e hs h3.n fun j hj=>?_
  rw[h3.bd j hj]
  by_cases c:j < 14
  ·exact(key j c).symm
  ·have:=hz (j - 14) (by omega)
   rw[show 22+(j - 14)=8+j by omega] at this
   rw[this,List.getD_eq_getElem?_getD,List.getElem?_eq_none (by rw[noteL_len];omega)];rfl
end Go.Proofs.YtllkepkaimnodaaGreatDoor.draft
namespace Go.Proofs.YtllkepkaimnodaaGreatDoor.draft
open Go.Am
noncomputable def c52_l0:C:=.seq (.seq (.reg [
 mv 47 14,
 mv 48 5,
 qo 49 (.p (lenF (tt 48))) [pp 48],
 qo 50 (.p (arF .lss (tt 47) (tt 49))) [pp 47,pp 49]]) (
 .cond (tt 50) (.skip) (.exit 0))) (
 .seq (.block 1 (.seq (.reg [
 mv 53 5,
 mv 54 14,
 qo 55 (.p (iaddrSF (tt 53) (tt 54) 1)) [pp 53,pp 54],
 qo 56 (.r (loadF (tt 55) 1 .sc)) [pp 55],
 qo 57 (.p (eqcF true false [.int .u8] (tt 56) (.c (.int .u8 0)))) [pp 56]]) (
 .cond (tt 57) (.seq (.reg [
 qo 58 (.p (buildF [.int .u64 0,.int .u64 0,.int .i64 0,.int .u32 0] .ag [])) [],
 qn (.a (storeF (tt 2) (tt 58) 4)) [pp 2,pp 58],
 qo 3 (.p (S.get (ii 5))) []]) (
 .ret)) (.skip)))) (
 .reg [
 mv 51 14,
 qo 52 (.p (arF .add (tt 51) (ii 1))) [pp 51],
 mv 14 52]))
noncomputable def c52:CFn:=⟨[.cell (pp 2) 4 .ag,.tmp (pp 3)],
 .seq (.reg [
 qo 1 (.m (boxF 64 (tt 0))) [pp 0],
 qo 2 (.m (allocF 4 [.int .u64 0,.int .u64 0,.int .i64 0,.int .u32 0])) [],
 qo 3 (.p (S.get (ii 0))) []]) (
 .seq (.reg [
 qo 16 (.r (loadF (tt 1) 64 .bk)) [pp 1],
 qo 17 (.c (callF (ff 122) [(tt 16)])) [pp 16],
 mv 15 17,
 qo 18 (.p (extF (tt 15) 0)) [pp 15],
 qo 19 (.p (extF (tt 15) 1)) [pp 15],
 qo 20 (.p (extF (tt 15) 2)) [pp 15],
 mv 4 18,
 mv 5 19,
 mv 6 20]) (
 .seq (.seq (.reg [
 mv 21 6,
 qo 22 (.p (eqcF true false [.int .i64] (tt 21) (ii 0))) [pp 21]]) (
 .cond (tt 22) (.seq (.reg [
 qo 23 (.p (buildF [.int .u64 0,.int .u64 0,.int .i64 0,.int .u32 0] .ag [])) [],
 mv 24 6,
 qn (.a (storeF (tt 2) (tt 23) 4)) [pp 2,pp 23],
 mv 3 24]) (
 .ret)) (.skip))) (
 .seq (.reg [
 mv 26 5,
 qo 27 (.c (callF (ff 123) [(tt 26),(ii 0),(ii 8)])) [pp 26],
 mv 25 27,
 qo 28 (.p (extF (tt 25) 0)) [pp 25],
 qo 29 (.p (extF (tt 25) 1)) [pp 25],
 mv 7 28,
 mv 8 29]) (
 .seq (.reg [
 mv 31 5,
 qo 32 (.c (callF (ff 123) [(tt 31),(ii 8),(ii 2)])) [pp 31],
 mv 30 32,
 qo 33 (.p (extF (tt 30) 0)) [pp 30],
 qo 34 (.p (extF (tt 30) 1)) [pp 30],
 mv 9 33,
 mv 10 34]) (
 .seq (.reg [
 mv 36 5,
 qo 37 (.c (callF (ff 123) [(tt 36),(ii 10),(ii 4)])) [pp 36],
 mv 35 37,
 qo 38 (.p (extF (tt 35) 0)) [pp 35],
 qo 39 (.p (extF (tt 35) 1)) [pp 35],
 mv 11 38,
 mv 12 39]) (
 .seq (.reg [
 mv 40 4,
 mv 41 7,
 mv 42 9,
 qo 43 (.p (convF .i64 (tt 42))) [pp 42],
 mv 44 11,
 qo 45 (.p (convF .u32 (tt 44))) [pp 44],
 qo 46 (.p (buildF [.int .u64 0,.int .u64 0,.int .i64 0,.int .u32 0] .ag [(0,1,(tt 40)),(1,1,(tt 41)),(2,1,(tt 43)),(3,1,(tt 45))])) [pp 40,pp 41,pp 43,pp 45],
 qo 13 (.m (allocF 4 [.int .u64 0,.int .u64 0,.int .i64 0,.int .u32 0])) [],
 qn (.a (storeF (tt 13) (tt 46) 4)) [pp 13,pp 46]]) (
 .seq (.seq (.reg [
 qo 14 (.p (S.get (ii 14))) []]) (
 .block 0 (.loop c52_l0))) (
 .seq (.seq (.reg [
 qo 59 (.r (loadF (tt 13) 4 .ag)) [pp 13],
 qo 60 (.c (callF (ff 109) [(tt 59)])) [pp 59],
 qo 61 (.p (unF .not (tt 60))) [pp 60]]) (
 .cond (tt 61) (.seq (.reg [
 qo 62 (.p (buildF [.int .u64 0,.int .u64 0,.int .i64 0,.int .u32 0] .ag [])) [],
 qn (.a (storeF (tt 2) (tt 62) 4)) [pp 2,pp 62],
 qo 3 (.p (S.get (ii 5))) []]) (
 .ret)) (.skip))) (
 .seq (.reg [
 qo 63 (.r (loadF (tt 13) 4 .ag)) [pp 13],
 qn (.a (storeF (tt 2) (tt 63) 4)) [pp 2,pp 63],
 qo 3 (.p (S.get (ii 0))) []]) (
 .ret))))))))))⟩
theorem c52_eq:fnOf Tryz.prog 52=some c52:=by kernel_rfl
noncomputable def c109:CFn:=⟨[.tmp (pp 2)],
 .seq (.reg [
 qo 1 (.m (boxF 4 (tt 0))) [pp 0],
 qo 2 (.p (S.get (.c (.bool false)))) []]) (
 .seq (.reg [
 qo 3 (.p (faddrF (tt 1) 0)) [pp 1],
 qo 4 (.r (loadF (tt 3) 1 .sc)) [pp 3],
 qo 5 (.p (arF .geq (tt 4) (.c (.int .u64 1)))) [pp 4],
 mv 6 5,
 qg 7 (.p (faddrF (tt 1) 0)) 6 true [pp 1],
 qg 8 (.r (loadF (tt 7) 1 .sc)) 6 true [pp 7],
 qg 9 (.p (arF .leq (tt 8) (.c (.int .u64 4611686018427387904)))) 6 true [pp 8],
 qo 10 (.p (pickF (tt 6) (tt 9) (.c (.bool false)))) [pp 6,pp 9],
 mv 11 10,
 qg 12 (.p (faddrF (tt 1) 1)) 11 true [pp 1],
 qg 13 (.r (loadF (tt 12) 1 .sc)) 11 true [pp 12],
 qg 14 (.p (arF .leq (tt 13) (.c (.int .u64 4611686018427387904)))) 11 true [pp 13],
 qo 15 (.p (pickF (tt 11) (tt 14) (.c (.bool false)))) [pp 11,pp 14],
 mv 16 15,
 qg 17 (.p (faddrF (tt 1) 2)) 16 true [pp 1],
 qg 18 (.r (loadF (tt 17) 1 .sc)) 16 true [pp 17],
 qg 19 (.p (arF .geq (tt 18) (ii 1))) 16 true [pp 18],
 qo 20 (.p (pickF (tt 16) (tt 19) (.c (.bool false)))) [pp 16,pp 19],
 mv 21 20,
 qg 22 (.p (faddrF (tt 1) 2)) 21 true [pp 1],
 qg 23 (.r (loadF (tt 22) 1 .sc)) 21 true [pp 22],
 qg 24 (.p (arF .leq (tt 23) (ii 32))) 21 true [pp 23],
 qo 25 (.p (pickF (tt 21) (tt 24) (.c (.bool false)))) [pp 21,pp 24],
 mv 2 25]) (
 .ret))⟩
theorem c109_eq:fnOf Tryz.prog 109=some c109:=by kernel_rfl
abbrev ntW (s p:Nat) (c:Int) (u:Nat):List V:=[.int .u64 (s:Int),.int .u64 (p:Int),.int .i64 c,.int .u32 (u:Int)]
abbrev nt0:List V:=[.int .u64 0,.int .u64 0,.int .i64 0,.int .u32 0]
def dnMay (s p:Nat) (c:Int):Bool:=decide (1≤s∧s≤4611686018427387904∧p≤4611686018427387904∧1≤c∧c≤32)
theorem dnMay_nt (N:Nt):dnMay N.seq N.pos N.cells=ntMay N:=by
 unfold dnMay ntMay
 apply decide_eq_decide.2
 omega
section
variable {lf:Nat} (hlf:1000 < lf)
include hlf
theorem dnmay (H:Heap) (s p:Nat) (c:Int) (u n:Nat):ret (callS Tryz.prog S0 lf (n+1) 109 [.agg (ntW s p c u)] H) fun w H'=>w=.bool (dnMay s p c)∧Turns Z H H':=by
 have hw:width (ntW s p c u)=4:=rfl
 have k0:cut (ntW s p c u) 0 1=some [.int .u64 (s:Int)]:=rfl
 have k1:cut (ntW s p c u) 1 1=some [.int .u64 (p:Int)]:=rfl
 have k2:cut (ntW s p c u) 2 1=some [.int .i64 c]:=rfl
 refine ret_call rfl c109_eq ?_
 unfold dnMay
 by_cases h1:1≤s<;>by_cases h2:s≤4611686018427387904<;>by_cases h3:p≤4611686018427387904<;>by_cases h4:1≤c<;>by_cases h5:c≤32
 all_goals
  try (exfalso;omega)
 all_goals
  simp (maxDischargeDepth:=12) (disch:=omega) only[c109,hw,k0,k1,k2,om,hv,ldO_one,stO_one,sy,tup,↓reduceIte,zA,zG,zC,zD,zF,zE,zB,zH,reduceCtorEq]
  exact⟨trivial,.inr trivial,_,rfl,rfl,Turns.add Z H _⟩
noncomputable def dnG (B:Nat):V:=if noteOk B=true then .tuple [.agg (ntV (ntG B)),.int .i64 0] else .tuple [.agg nt0,.int .i64 (if sealE B=0 then 5 else sealE B)]
theorem dnget_tail {G:Heap} {k q B:Nat} (hk:BodyAt G k (fun i=>byte B (8+i)) 44) {r:List V} (hq:G.get (.run q)=some (.rows false 4 [nt0])) {v13:V} (n:Nat):∀ t:T,t.getP (Tr.path 2)=some (.ptr (some ⟨.run q,0⟩))→t.getP (Tr.path 5)=some (.slice (some ⟨.run k,0⟩) 44 44 1)→t.getP (Tr.path 13)=some v13→t.getP (Tr.path 14)=some (.int .i64 14) →
  wp (loopF (runC (callS Tryz.prog S0 lf n) lf c52_l0) lf ⟨t,G,[]⟩) fun x s=>s.d=[]∧s.t.getP (Tr.path 2)=some (.ptr (some ⟨.run q,0⟩))∧((x=.ex 0∧s.H=G∧s.t.getP (Tr.path 13)=some v13∧∀ i,i < 30→byte B (22+i)=0)∨(x=.ret∧s.H=G.set (.run q) (.rows false 4 [nt0])∧s.t.getP (Tr.path 3)=some (.int .i64 5)∧∃ i,i < 30∧byte B (22+i)≠0)):=by
 intro t q2 q5 q13 q14
 refine wp_loopF (fun m s=>∃ i:Nat,m=30 - i∧i≤30∧s.d=[]∧s.H=G∧s.t.getP (Tr.path 2)=some (.ptr (some ⟨.run q,0⟩))∧s.t.getP (Tr.path 5)=some (.slice (some ⟨.run k,0⟩) 44 44 1)∧s.t.getP (Tr.path 13)=some v13∧s.t.getP (Tr.path 14)=some (.int .i64 ((14+i:Nat):Int))∧∀ j,j < i→byte B (22+j)=0) ?_ lf 30 _ ⟨0,rfl,by omega,rfl,rfl,q2,q5,q13,q14,fun j h=>by omega⟩ (by omega)
 rintro m ⟨t,HH,d⟩ ⟨i,rfl,hi,hd,hH,q2,q5,q13,q14,hz⟩
 dsimp only at hd hH q2 q5 q13 q14
 subst hd;subst hH
 obtain⟨a,ha⟩:∃ a,a=14+i:=⟨_,rfl⟩
 rw[← ha] at q14
 by_cases hlt:a < 44
 ·have lk:=hk.load (i:=a) hlt
  rw[ld_get,show 8+a=22+i by omega] at lk
  obtain⟨b,hb⟩:∃ b,b=byte B (22+i):=⟨_,rfl⟩
  rw[← hb] at lk
  by_cases h0:b=0
  ·simp (maxDischargeDepth:=12) (disch:=omega) only[c52_l0,q2,q5,q13,q14,lk,Nat.mul_one,om,hv,ldO_one,stO_one,sy,tup,↓reduceIte,zA,zG,zC,zD,zF,zE,zB,zH,reduceCtorEq]
   refine⟨30 - (i+1),by omega,i+1,rfl,by omega,trivial,trivial,by simp[q2],by simp[q5],by simp[q13],by simp[ha];omega,fun j hj=>?_⟩
   by_cases e:j=i
   ·rw[e,← hb,h0]
   ·exact hz j (by omega)
  ·have w4:width nt0=4:=rfl
   have p4:put nt0 0 nt0=some nt0:=rfl
   simp (maxDischargeDepth:=12) (disch:=omega) only[c52_l0,q2,q5,q13,q14,lk,hq,w4,p4,Nat.mul_one,om,hv,ldO_one,stO_one,sy,tup,↓reduceIte,zA,zG,zC,zD,zF,zE,zB,zH,reduceCtorEq]
   exact⟨trivial,by simp[q2],.inr ⟨trivial,trivial,trivial,i,by omega,by omega⟩⟩
 ·simp (maxDischargeDepth:=12) (disch:=omega) only[c52_l0,q2,q5,q13,q14,om,hv,ldO_one,stO_one,sy,tup,↓reduceIte,zA,zG,zC,zD,zF,zE,zB,zH,reduceCtorEq]
  exact⟨trivial,by simp[q2],.inl ⟨trivial,trivial,by simp[q13],fun j hj=>hz j (by omega)⟩⟩
theorem dnget (H:Heap) {B:Nat} (hB:B < 256 ^ 64) (n:Nat):ret (callS Tryz.prog S0 lf (n+6) 52 [.blk B] H) fun w H'=>w=dnG B∧Turns Z H H':=by
 have t1:Turns Z H ((H.add (.rows false 64 [[.blk B]])).add (.rows false 4 [nt0])):=by repeat (first | exact Turns.refl _ _ | apply Turns.skip | apply Turns.addm | apply Turns.setb | apply Turns.setl | apply Turns.setr | refine Turns.setn ?_ _ (by omega) _ | refine Turns.trans ?_ (tF _))
 have hb:((H.add (.rows false 64 [[.blk B]])).add (.rows false 4 [nt0])).get (.run H.next)=some (.rows false 64 [[.blk B]]):=by rw[Heap.get_add,if_neg (run_ne (by simp)),Heap.get_add,if_pos rfl]
 have hq:((H.add (.rows false 64 [[.blk B]])).add (.rows false 4 [nt0])).get (.run (H.next+1))=some (.rows false 4 [nt0]):=by rw[Heap.get_add,if_pos (by simp)]
 obtain⟨H1,hH1⟩:∃ X,(H.add (.rows false 64 [[.blk B]])).add (.rows false 4 [nt0])=X:=⟨_,rfl⟩
 have n1:H1.next=H.next+1+1:=by rw[← hH1];rfl
 rw[hH1] at t1 hb hq
 obtain⟨v2,H2,e2,t2,h2⟩:=rget7_ok H1 B (lf:=lf) (by omega) n
 have n2:=t2.next
 have hq2:=(t2.same (.run (H.next+1)) (by show _ < _;omega) id).trans hq
 have w4:width nt0=4:=rfl
 have p4:put nt0 0 nt0=some nt0:=rfl
 have c4:cut nt0 0 4=some nt0:=rfl
 have t12:=t1.trans t2
 refine ret_call rfl c52_eq ?_
 unfold dnG
 rw[noteOk_eq hB]
 rcases h2 with ⟨hs,rfl⟩ | ⟨hs,k,rfl,hk,hkn⟩
 ·rw[decide_eq_false hs,Bool.false_and,if_neg (by decide),if_neg hs]
  generalize sealE B=e at e2 hs
  simp (maxDischargeDepth:=12) (disch:=omega) only[c52,hH1,hb,Dh,e2,hq2,w4,p4,c4,om,hv,ldO_one,stO_one,sy,tup,↓reduceIte,zA,zG,zC,zD,zF,zE,zB,zH,reduceCtorEq]
  exact⟨trivial,.inr trivial,_,rfl,rfl,t12.setn _ (by omega) _⟩
 rw[decide_eq_true hs,Bool.true_and,if_pos hs]
 have eg:∀ a s:Nat,1≤s∧s≤8→a+s≤44→callS Tryz.prog S0 lf (n+5) 123 [.slice (some ⟨.run k,0⟩) 44 44 1,.int .i64 (a:Int),.int .i64 (s:Int)] H2=some (.v (.tuple [.int .u64 ((bd B a s:Nat):Int),.int .i64 0]),H2):=fun a s h1 h2=>rnum_ok (p:=⟨.run k,0⟩) (a:=a) (sz:=s) (c:=fun i=>byte B (8+(a+i))) h1 (by omega) (by omega) (fun _ _=>byte_lt _ _) (fun i hi=>by simpa using hk.load (i:=a+i) (by omega)) lf (n+4) (by omega)
 have e3:callS Tryz.prog S0 lf (n+5) 123 [_,.int .i64 0,.int .i64 8] H2=_:=eg 0 8 (by omega) (by omega)
 have e4:callS Tryz.prog S0 lf (n+5) 123 [_,.int .i64 8,.int .i64 2] H2=_:=eg 8 2 (by omega) (by omega)
 have e5:callS Tryz.prog S0 lf (n+5) 123 [_,.int .i64 10,.int .i64 4] H2=_:=eg 10 4 (by omega) (by omega)
 have l8:bd B 8 2 < 65536:=bd_lt B 8
 have l10:bd B 10 4 < 4294967296:=bd_lt B 10
 have hnt:ntV (ntG B)=ntW (sealN B) (bd B 0 8) (bd B 8 2) (bd B 10 4):=rfl
 have hm:=dnMay_nt (ntG B)
 change dnMay (sealN B) (bd B 0 8) (bd B 8 2)=_ at hm
 rw[hnt]
 generalize bd B 0 8=x0 at *
 generalize bd B 8 2=x1 at *
 generalize bd B 10 4=x2 at *
 generalize sealN B=sq at *
 have wW:width (ntW sq x0 x1 x2)=4:=rfl
 have pW:put nt0 0 (ntW sq x0 x1 x2)=some (ntW sq x0 x1 x2):=rfl
 have cW:cut (ntW sq x0 x1 x2) 0 4=some (ntW sq x0 x1 x2):=rfl
 have t3:Turns Z H2 ((H2.add (.rows false 4 [nt0])).set (.run H2.next) (.rows false 4 [ntW sq x0 x1 x2])):=by repeat (first | exact Turns.refl _ _ | apply Turns.skip | apply Turns.addm | apply Turns.setb | apply Turns.setl | apply Turns.setr | refine Turns.setn ?_ _ (by omega) _ | refine Turns.trans ?_ (tF _))
 have h3:((H2.add (.rows false 4 [nt0])).set (.run H2.next) (.rows false 4 [ntW sq x0 x1 x2])).get (.run H2.next)=some (.rows false 4 [ntW sq x0 x1 x2]):=by rw[Heap.get_set,if_pos rfl]
 obtain⟨H3,hH3⟩:∃ X,(H2.add (.rows false 4 [nt0])).set (.run H2.next) (.rows false 4 [ntW sq x0 x1 x2])=X:=⟨_,rfl⟩
 have n3:H3.next=H2.next+1:=by rw[← hH3];rfl
 rw[hH3] at t3 h3
 have hq3:=(t3.same (.run (H.next+1)) (by show _ < _;omega) id).trans hq2
 have hloop:=dnget_tail hlf (B:=B) (hk.turns t3) (r:=nt0) hq3 (v13:=.ptr (some ⟨.run H2.next,0⟩)) (n+5)
 simp (maxDischargeDepth:=12) (disch:=omega) only[c52,hH1,hb,Dh,e2,e3,e4,e5,wW,pW,hH3,om,hv,ldO_one,stO_one,sy,tup,↓reduceIte,zA,zG,zC,zD,zF,zE,zB,zH,reduceCtorEq]
 refine wp_ctx (F:=fun r=>seqC _ _ _ (blockC _ r)) (hloop _ ?_ ?_ ?_ ?_) ?_
 ·simp only[sy,tup,↓reduceIte,zA,zG,zC,zD,zF,zE,zB,zH,reduceCtorEq]
 ·simp only[sy,tup,↓reduceIte,zA,zG,zC,zD,zF,zE,zB,zH,reduceCtorEq]
 ·simp only[sy,tup,↓reduceIte,zA,zG,zC,zD,zF,zE,zB,zH,reduceCtorEq]
 ·simp only[sy,tup,↓reduceIte,zA,zG,zC,zD,zF,zE,zB,zH,reduceCtorEq]
 rintro x ⟨t,H4,d⟩ ⟨hd,q2,h⟩
 dsimp only at hd q2 h
 subst hd
 rcases h with ⟨rfl,rfl,q13,hz⟩ | ⟨rfl,rfl,q3,hz⟩
 rotate_left
 ·rw[show zt B 22 30=false from Bool.eq_false_iff.2 fun h=>by obtain⟨i,hi,h2⟩:=hz;exact h2 (zt_iff.1 h i hi),Bool.and_false,if_neg (by decide)]
  simp (maxDischargeDepth:=12) (disch:=omega) only[q2,q3,c4,om,hv,ldO_one,stO_one,sy,tup,↓reduceIte,zA,zG,zC,zD,zF,zE,zB,zH,reduceCtorEq]
  exact⟨trivial,.inr trivial,_,rfl,rfl,(t12.trans t3).setn _ (by omega) _⟩
 rw[zt_iff.2 hz,Bool.and_true,← hm]
 obtain⟨v5,H5,e5,rfl,t5⟩:=dnmay hlf H4 sq x0 x1 x2 (n+4)
 have hq5:=(t5.same (.run (H.next+1)) (by show _ < _;omega) id).trans hq3
 have h5:=(t5.same (.run H2.next) (by show _ < _;omega) id).trans h3
 cases hmm:dnMay sq x0 x1
 ·rw[hmm] at e5
  rw[if_neg (by decide)]
  simp (maxDischargeDepth:=12) (disch:=omega) only[q2,q13,h3,cW,e5,hq5,w4,p4,c4,om,hv,ldO_one,stO_one,sy,tup,↓reduceIte,zA,zG,zC,zD,zF,zE,zB,zH,reduceCtorEq]
  exact⟨trivial,.inr trivial,_,rfl,rfl,((t12.trans t3).trans t5).setn _ (by omega) _⟩
 ·rw[hmm] at e5
  rw[if_pos rfl]
  simp (maxDischargeDepth:=12) (disch:=omega) only[q2,q13,h3,cW,e5,h5,hq5,wW,pW,om,hv,ldO_one,stO_one,sy,tup,↓reduceIte,zA,zG,zC,zD,zF,zE,zB,zH,reduceCtorEq]
  exact⟨trivial,.inr trivial,_,rfl,rfl,((t12.trans t3).trans t5).setn _ (by omega) _⟩
end
end Go.Proofs.YtllkepkaimnodaaGreatDoor.draft
