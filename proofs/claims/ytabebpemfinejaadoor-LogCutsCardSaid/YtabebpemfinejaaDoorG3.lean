import Derived.Test.YtabebpemfinejaaDoorG2
set_option linter.unusedVariables false
set_option linter.unusedSectionVars false
set_option linter.unusedSimpArgs false
set_option maxRecDepth 10000
open Nat renaming reduceEqDiff → zA, reduceLeDiff → zB, reduceSub → zC, reduceMul → zD, reduceMod → zE, reduceDiv → zF, reduceAdd → zG
open Int renaming reduceBEq → zH
namespace Go.Proofs.YtabebpemfinejaaDoor.draft
open Go.Am
noncomputable def c63:CFn:=⟨[.tmp (pp 2)],
 .seq (.reg [
 qo 1 (.m (boxF 4 (tt 0))) [pp 0],
 qo 2 (.p (S.get (.c (.bool false)))) []]) (
 .seq (.reg [
 qo 3 (.p (faddrF (tt 1) 0)) [pp 1],
 qo 4 (.r (loadF (tt 3) 1 .sc)) [pp 3],
 qo 5 (.p (arF .geq (tt 4) (.c (.int .u64 1)))) [pp 4],
 mv 6 5,
 qg 7 (.p (faddrF (tt 1) 0)) 6 true [pp 1],
 qg 8 (.r (loadF (tt 7) 1 .sc)) 6 true [pp 7],
 qg 9 (.p (arF .leq (tt 8) (.c (.int .u64 4611686018427387904)))) 6 true [pp 8],
 qo 10 (.p (pickF (tt 6) (tt 9) (.c (.bool false)))) [pp 6,pp 9],
 mv 11 10,
 qg 12 (.p (faddrF (tt 1) 1)) 11 true [pp 1],
 qg 13 (.r (loadF (tt 12) 1 .sc)) 11 true [pp 12],
 qg 14 (.p (arF .leq (tt 13) (.c (.int .u64 4611686018427387904)))) 11 true [pp 13],
 qo 15 (.p (pickF (tt 11) (tt 14) (.c (.bool false)))) [pp 11,pp 14],
 mv 16 15,
 qg 17 (.p (faddrF (tt 1) 2)) 16 true [pp 1],
 qg 18 (.r (loadF (tt 17) 1 .sc)) 16 true [pp 17],
 qg 19 (.p (arF .geq (tt 18) (ii 1))) 16 true [pp 18],
 qo 20 (.p (pickF (tt 16) (tt 19) (.c (.bool false)))) [pp 16,pp 19],
 mv 21 20,
 qg 22 (.p (faddrF (tt 1) 2)) 21 true [pp 1],
 qg 23 (.r (loadF (tt 22) 1 .sc)) 21 true [pp 22],
 qg 24 (.p (arF .leq (tt 23) (ii 32))) 21 true [pp 23],
 qo 25 (.p (pickF (tt 21) (tt 24) (.c (.bool false)))) [pp 21,pp 24],
 mv 2 25]) (
 .ret))⟩
theorem c63_eq:fnOf Tryd.prog 63=some c63:=by kernel_rfl
noncomputable def c65:CFn:=⟨[.tmp (pp 2)],
 .seq (.reg [
 qo 1 (.m (boxF 4 (tt 0))) [pp 0],
 qo 2 (.p (S.get (.c (.slice none 0 0 0)))) []]) (
 .seq (.reg [
 qo 10 (.p (faddrF (tt 1) 1)) [pp 1],
 qo 11 (.r (loadF (tt 10) 1 .sc)) [pp 10],
 qo 12 (.c (callF (ff 58) [(tt 11),(ii 8)])) [pp 11],
 mv 9 12,
 qo 13 (.p (extF (tt 9) 0)) [pp 9],
 qo 14 (.p (extF (tt 9) 1)) [pp 9],
 mv 3 13,
 mv 4 14]) (
 .seq (.reg [
 qo 16 (.p (faddrF (tt 1) 2)) [pp 1],
 qo 17 (.r (loadF (tt 16) 1 .sc)) [pp 16],
 qo 18 (.p (convF .u64 (tt 17))) [pp 17],
 qo 19 (.c (callF (ff 58) [(tt 18),(ii 2)])) [pp 18],
 mv 15 19,
 qo 20 (.p (extF (tt 15) 0)) [pp 15],
 qo 21 (.p (extF (tt 15) 1)) [pp 15],
 mv 5 20,
 mv 6 21]) (
 .seq (.reg [
 qo 23 (.p (faddrF (tt 1) 3)) [pp 1],
 qo 24 (.r (loadF (tt 23) 1 .sc)) [pp 23],
 qo 25 (.p (convF .u64 (tt 24))) [pp 24],
 qo 26 (.c (callF (ff 58) [(tt 25),(ii 4)])) [pp 25],
 mv 22 26,
 qo 27 (.p (extF (tt 22) 0)) [pp 22],
 qo 28 (.p (extF (tt 22) 1)) [pp 22],
 mv 7 27,
 mv 8 28]) (
 .seq (.reg [
 mv 29 3,
 mv 30 5,
 qo 31 (.a (appF 1 1 (tt 29) (tt 30))) [pp 29,pp 30],
 mv 32 7,
 qo 33 (.a (appF 1 1 (tt 31) (tt 32))) [pp 31,pp 32],
 mv 2 33]) (
 .ret)))))⟩
theorem c65_eq:fnOf Tryd.prog 65=some c65:=by kernel_rfl
noncomputable def c34:CFn:=⟨[.cell (pp 2) 64 .bk,.tmp (pp 3)],
 .seq (.reg [
 qo 1 (.m (boxF 4 (tt 0))) [pp 0],
 qo 2 (.m (allocF 64 [.blk 0])) [],
 qo 3 (.p (S.get (ii 0))) []]) (
 .seq (.seq (.reg [
 qo 4 (.r (loadF (tt 1) 4 .ag)) [pp 1],
 qo 5 (.c (callF (ff 63) [(tt 4)])) [pp 4],
 qo 6 (.p (unF .not (tt 5))) [pp 5]]) (
 .cond (tt 6) (.seq (.reg [
 qo 7 (.p (buildF [.blk 0] .bk [])) [],
 qn (.a (storeF (tt 2) (tt 7) 64)) [pp 2,pp 7],
 qo 3 (.p (S.get (ii 2))) []]) (
 .ret)) (.skip))) (
 .seq (.regD [
 qo 8 (.p (faddrF (tt 1) 0)) [pp 1],
 qo 9 (.r (loadF (tt 8) 1 .sc)) [pp 8],
 qo 10 (.r (loadF (tt 1) 4 .ag)) [pp 1],
 qo 11 (.c (callF (ff 65) [(tt 10)])) [pp 10],
 qo 12 (.c (callF (ff 64) [(tt 9),(tt 11)])) [pp 9,pp 11],
 qo 13 (.p (extF (tt 12) 0)) [pp 12],
 qo 14 (.p (extF (tt 12) 1)) [pp 12],
 qn (.a (storeF (tt 2) (tt 13) 64)) [pp 2,pp 13],
 mv 3 14] [0,1,0,4,15,31,31,127,255]) (
 .ret)))⟩
theorem c34_eq:fnOf Tryd.prog 34=some c34:=by kernel_rfl
noncomputable def c36:CFn:=⟨[.tmp (pp 2)],
 .seq (.reg [
 qo 2 (.p (S.get (ii 0))) []]) (
 .seq (.reg [
 mv 3 0,
 qo 4 (.p (arF .rem (tt 3) (.c (.int .u64 8)))) [pp 3],
 qo 5 (.p (convF .i64 (tt 4))) [pp 4],
 mv 2 5]) (
 .ret))⟩
theorem c36_eq:fnOf Tryd.prog 36=some c36:=by kernel_rfl
noncomputable def c55:CFn:=⟨[.tmp (pp 2)],
 .seq (.reg [
 qo 2 (.p (S.get (ii 0))) []]) (
 .seq (.reg [
 mv 3 0,
 qo 4 (.p (arF .rem (tt 3) (.c (.int .u64 2)))) [pp 3],
 qo 5 (.p (convF .i64 (tt 4))) [pp 4],
 mv 2 5]) (
 .ret))⟩
theorem c55_eq:fnOf Tryd.prog 55=some c55:=by kernel_rfl
theorem app_new {H:Heap} {k m:Nat} {xs ys:List Nat} {x:V} (hx:elems H (.run k) 1 m 0=some (rowsN xs)) (hm:xs.length=m) (hy:firstE H 1 x=some (rowsN ys)) (hl:lenOf x=some ys.length) (h0:ys≠[]) (hs:m+ys.length≤1000) :
  appendV 1 1 H (.slice (some ⟨.run k,0⟩) m m 0) x=some (.slice (some ⟨.run H.next,0⟩) (m+ys.length) (m+ys.length) 1,H.add (.rows false 1 (rowsN (xs++ys)))):=by
 have hn0:ys.length≠0:=by simpa using h0
 have hn0':ys.length.beq 0=false:=beq_false.2 hn0
 have hb1:Nat.ble (Nat.mul (Nat.add m ys.length) 1) 1099511627776=true:=ble_iff.2 (by show (m+ys.length)*1≤_;omega)
 have hb2:Nat.ble (Nat.add m ys.length) 1099511627776=true:=ble_iff.2 (by show m+ys.length≤_;omega)
 have hr:Nat.ble (Nat.add m ys.length) m=false:=by
  cases he:Nat.ble (Nat.add m ys.length) m with
  | false=>rfl
  | true=>exact absurd (ble_iff.1 he) (by show ¬ m+ys.length≤m;omega)
 have hf:firstE H 1 (.slice (some ⟨.run k,0⟩) m m 0)=some (rowsN xs):=hx
 unfold appendV
 simp only[hl,hn0',hb1,hb2,hy,hr,hf,Bool.and_self,show Nat.beq 0 0=true from rfl]
 rw[← rowsN_app]
 rfl
theorem lst_new {H:Heap} {l:List Nat} (h0:l≠[]) {n:Nat} (hn:n=l.length):Lst H (H.add (.rows false 1 (rowsN l))) 1 (rowsN l) (.slice (some ⟨.run H.next,0⟩) n n 1):=by
 subst hn
 refine .inr ⟨H.next,fun e=>h0 (List.map_eq_nil_iff.1 e),by rw[rowsN_len],by rw[Heap.get_add,if_pos rfl],Nat.le_refl _,by show _ < _+1;exact Nat.lt_succ_self _⟩
structure NtOk (N:Nt):Prop where
 seq:1≤N.seq∧N.seq≤4611686018427387904
 pos:N.pos≤4611686018427387904
 cells:1≤N.cells∧N.cells≤32
 sum:N.sum < 4294967296
def noteL (N:Nt):List Nat:=stl (dig N.pos) 8 0++stl (dig N.cells) 2 0++stl (dig N.sum) 4 0
def ntV (N:Nt):List V:=[.int .u64 (N.seq:Int),.int .u64 (N.pos:Int),.int .i64 (N.cells:Int),.int .u32 (N.sum:Int)]
theorem noteL_len (N:Nt):(noteL N).length=14:=by unfold noteL;rw[List.length_append,List.length_append,stl_len,stl_len,stl_len]
section
variable {lf K:Nat} (hlf:1000 < lf)
include hlf
theorem unmay (G:Heap) {N:Nt} (hN:NtOk N) (n:Nat):ret (U lf K (n+1) 63 [.agg (ntV N)] G) fun v G'=>v=.bool true∧Turns Z G G':=by
 obtain⟨⟨s1,s2⟩,p1,⟨c1,c2⟩,_⟩:=hN
 have k0:cut (ntV N) 0 1=some [.int .u64 (N.seq:Int)]:=rfl
 have k1:cut (ntV N) 1 1=some [.int .u64 (N.pos:Int)]:=rfl
 have k2:cut (ntV N) 2 1=some [.int .i64 (N.cells:Int)]:=rfl
 have g1:(1:Int)≤(N.seq:Int):=by omega
 have g2:(N.seq:Int)≤4611686018427387904:=by omega
 have g3:(N.pos:Int)≤4611686018427387904:=by omega
 have g4:(1:Int)≤(N.cells:Int):=by omega
 have g5:(N.cells:Int)≤32:=by omega
 have hw:width (ntV N)=4:=rfl
 refine ret_callU rfl rfl c63_eq ?_
 simp (maxDischargeDepth:=12) only[c63,hw,k0,k1,k2,g1,g2,g3,g4,g5,s1,s2,p1,c1,c2,hv,ldO_one,stO_one,sy,tup,↓reduceIte,zA,zG,zC,zD,zF,zE,zB,zH,reduceCtorEq]
 exact⟨trivial,.inr trivial,_,rfl,rfl,Turns.add Z G _⟩
theorem unbody (G:Heap) {N:Nt} (hN:NtOk N) (n:Nat):ret (U lf K (n+2) 65 [.agg (ntV N)] G) fun v G'=>∃ G0,G.next≤G0.next∧Lst G0 G' 1 (rowsN (noteL N)) v∧Turns Z G G':=by
 obtain⟨⟨s1,s2⟩,p1,⟨c1,c2⟩,hsum⟩:=hN
 have k1:cut (ntV N) 1 1=some [.int .u64 (N.pos:Int)]:=rfl
 have k2:cut (ntV N) 2 1=some [.int .i64 (N.cells:Int)]:=rfl
 have k3:cut (ntV N) 3 1=some [.int .u32 (N.sum:Int)]:=rfl
 have hw:width (ntV N)=4:=rfl
 have w1:IntKind.u64.wrap (N.cells:Int)=(N.cells:Int):=Go.Am.wrap_u64 (by omega)
 have w2:IntKind.u64.wrap (N.sum:Int)=(N.sum:Int):=Go.Am.wrap_u64 (by omega)
 have t1:=Turns.add Z G (.rows false 4 [ntV N])
 have hg1:(G.add (.rows false 4 [ntV N])).get (.run G.next)=some (.rows false 4 [ntV N]):=by rw[Heap.get_add,if_pos rfl]
 have wo1:(G.add (.rows false 4 [ntV N])).Old (.run G.next):=by show _ < _+1;exact Nat.lt_succ_self _
 obtain⟨G1,hG1⟩:∃ G1,G.add (.rows false 4 [ntV N])=G1:=⟨_,rfl⟩
 rw[hG1] at t1 hg1 wo1
 obtain⟨v2,G2,e2,t2,h2⟩:=u_pnput_ok (K:=K) G1 (N:=N.pos) (by omega) (s:=8) (by omega) (lf:=lf) (by omega) n
 obtain⟨k,rfl,hk,_⟩:∃ k,v2=.tuple [.slice (some ⟨.run k,0⟩) 8 8 0,.int .i64 0]∧BodyAt G2 k (dig N.pos) 8∧G1.next≤k:=by
  rcases h2 with ⟨_,h⟩ | ⟨h,_⟩
  ·exact h
  ·exact absurd (Nat.div_eq_of_lt (Nat.lt_of_le_of_lt p1 (by decide))) h
 have hg2:=(t2.same _ wo1 (fun h=>h)).trans hg1
 obtain⟨v3,G3,e3,t3,h3⟩:=u_pnput_ok (K:=K) G2 (N:=N.cells) (by omega) (s:=2) (by omega) (lf:=lf) (by omega) n
 obtain⟨q,rfl,hq,_⟩:∃ k,v3=.tuple [.slice (some ⟨.run k,0⟩) 2 2 0,.int .i64 0]∧BodyAt G3 k (dig N.cells) 2∧G2.next≤k:=by
  rcases h3 with ⟨_,h⟩ | ⟨h,_⟩
  ·exact h
  ·exact absurd (Nat.div_eq_of_lt (Nat.lt_of_le_of_lt c2 (by decide))) h
 have hg3:=((t2.trans t3).same _ wo1 (fun h=>h)).trans hg1
 obtain⟨v4,G4,e4,t4,h4⟩:=u_pnput_ok (K:=K) G3 (N:=N.sum) (by omega) (s:=4) (by omega) (lf:=lf) (by omega) n
 obtain⟨r,rfl,hr,_⟩:∃ k,v4=.tuple [.slice (some ⟨.run k,0⟩) 4 4 0,.int .i64 0]∧BodyAt G4 k (dig N.sum) 4∧G3.next≤k:=by
  rcases h4 with ⟨_,h⟩ | ⟨h,_⟩
  ·exact h
  ·exact absurd (Nat.div_eq_of_lt (Nat.lt_of_lt_of_le hsum (by decide))) h
 have hk4:=(hk.turns t3).turns t4
 have hq4:=hq.turns t4
 have l8:(stl (dig N.pos) 8 0).length=8:=stl_len _ _ _
 have l2:(stl (dig N.cells) 2 0).length=2:=stl_len _ _ _
 have l4:(stl (dig N.sum) 4 0).length=4:=stl_len _ _ _
 have a1:=app_new (H:=G4) (x:=.slice (some ⟨.run q,0⟩) 2 2 0) (elems_bod hk4 8 0 (by omega)) l8 (elems_bod hq4 2 0 (by omega)) (by rw[l2];rfl) (fun e=>by rw[e] at l2;cases l2) (by omega)
 rw[l2] at a1
 have hy:=lst_new (H:=G4) (l:=stl (dig N.pos) 8 0++stl (dig N.cells) 2 0) (fun e=>by rw[List.append_eq_nil_iff] at e;rw[e.1] at l8;cases l8) (n:=10) (by rw[List.length_append,l8,l2])
 obtain⟨G5,hG5⟩:∃ G5,G4.add (.rows false 1 (rowsN (stl (dig N.pos) 8 0++stl (dig N.cells) 2 0)))=G5:=⟨_,rfl⟩
 have t5:Turns Z G4 G5:=by rw[← hG5];exact Turns.add Z G4 _
 rw[hG5] at a1 hy
 have hr5:=hr.turns t5
 have n4:rowsN (stl (dig N.sum) 4 0)≠[]:=fun e=>by
  have:=List.map_eq_nil_iff.1 e
  rw[this] at l4;cases l4
 obtain⟨G6,a2,hz,t6,_⟩:=hy.app (by':=1) (x:=.slice (some ⟨.run r,0⟩) 4 4 0) t5.next (elems_bod hr5 4 0 (by omega)) (by rw[rowsN_len,l4];rfl) n4 (by decide) (by rw[rowsN_len,rowsN_len,List.length_append];omega) (by rw[rowsN_len,rowsN_len,List.length_append];omega)
 rw[← rowsN_app] at hz
 rw[rowsN_len,rowsN_len,List.length_append,l8,l2,l4] at a2 hz
 change U lf K (n+1) 58 [.int .u64 (N.pos:Int),.int .i64 8] G1=_ at e2
 change U lf K (n+1) 58 [.int .u64 (N.cells:Int),.int .i64 2] G2=_ at e3
 change U lf K (n+1) 58 [.int .u64 (N.sum:Int),.int .i64 4] G3=_ at e4
 refine ret_callU rfl rfl c65_eq ?_
 simp (maxDischargeDepth:=12) only[c65,hw,hG1,hg1,k1,e2,hg2,k2,w1,e3,hg3,k3,w2,e4,a1,a2,hv,ldO_one,stO_one,sy,tup,↓reduceIte,zA,zG,zC,zD,zF,zE,zB,zH,reduceCtorEq]
 refine⟨trivial,.inr trivial,_,rfl,G4,(((t1.trans t2).trans t3).trans t4).next,hz,?_⟩
 exact((((t1.trans t2).trans t3).trans t4).trans t5).later t6 (fun c ho hb=>by
  obtain⟨j,e',h1,_⟩:=hy.bof hb
  subst e'
  exact absurd ho (Heap.not_old (Nat.le_trans (((t1.trans t2).trans t3).trans t4).next h1)))
noncomputable def noteB (N:Nt):Nat:=blkOf N.seq (noteL N)
theorem stl_lt {c:Nat→Nat} (hc:∀ i,c i < 256):∀ n j,∀ x ∈ stl c n j,x < 256
 | 0,_,x,h=>by cases h
 | n+1,j,x,h=>by
  rcases List.mem_cons.1 h with rfl | h
  ·exact hc _
  ·exact stl_lt hc n (j+1) x h
theorem noteL_lt (N:Nt):∀ x ∈ noteL N,x < 256:=fun x hx=>by
 unfold noteL at hx
 rcases List.mem_append.1 hx with hx | hx
 ·rcases List.mem_append.1 hx with hx | hx
  ·exact stl_lt hlf (dig_lt _) _ _ x hx
  ·exact stl_lt hlf (dig_lt _) _ _ x hx
 ·exact stl_lt hlf (dig_lt _) _ _ x hx
theorem unote (G:Heap) {N:Nt} (hN:NtOk N) (n:Nat):ret (U lf K (n+5) 34 [.agg (ntV N)] G) fun v G'=>v=.tuple [.blk (noteB N),.int .i64 0]∧Turns Z G G':=by
 have hw:width (ntV N)=4:=rfl
 have k0:cut (ntV N) 0 1=some [.int .u64 (N.seq:Int)]:=rfl
 have k4:cut (ntV N) 0 4=some (ntV N):=rfl
 have t1:Turns Z G ((G.add (.rows false 4 [ntV N])).add (.rows false 64 [[.blk 0]])):=by repeat (first | exact Turns.refl _ _ | apply Turns.skip | apply Turns.addm | apply Turns.setb | apply Turns.setl | apply Turns.setr | refine Turns.setn ?_ _ (by omega) _ | refine Turns.trans ?_ (tF _))
 have hg1:((G.add (.rows false 4 [ntV N])).add (.rows false 64 [[.blk 0]])).get (.run G.next)=some (.rows false 4 [ntV N]):=by rw[Heap.get_add,if_neg (run_ne (by simp)),Heap.get_add,if_pos rfl]
 have hb1:((G.add (.rows false 4 [ntV N])).add (.rows false 64 [[.blk 0]])).get (.run (G.next+1))=some (.rows false 64 [[.blk 0]]):=by rw[Heap.get_add,if_pos (by simp)]
 obtain⟨G1,hG1⟩:∃ G1,(G.add (.rows false 4 [ntV N])).add (.rows false 64 [[.blk 0]])=G1:=⟨_,rfl⟩
 have wo1:G1.Old (.run G.next):=by rw[← hG1];show _ < _+1+1;omega
 have bo1:G1.Old (.run (G.next+1)):=by rw[← hG1];show _ < _+1+1;omega
 rw[hG1] at t1 hg1 hb1
 obtain⟨v2,G2,e2,rfl,t2⟩:=unmay hlf G1 hN (K:=K) (n+3)
 have hg2:=(t2.same _ wo1 (fun h=>h)).trans hg1
 obtain⟨y,G3,e3,G0,h0,hy,t3⟩:=unbody hlf G2 hN (K:=K) (n+2)
 have hg3:=(t3.same _ (wo1.mono t2.next) (fun h=>h)).trans hg2
 have hlen:=noteL_len N
 obtain⟨v4,G4,e4,t4,rfl⟩:=u_pput7_ok (K:=K) hy (fun e=>by rw[e] at hlen;cases hlen) (by rw[hlen];decide) (noteL_lt hlf N) (N:=N.seq) (by have:=hN.seq;omega) (by have:=hN.seq;omega) (lf:=lf) (by omega) n
 have hb4:=(((t2.trans t3).trans t4).same _ bo1 (fun h=>h)).trans hb1
 refine ret_callU rfl rfl c34_eq ?_
 simp (maxDischargeDepth:=12) only[c34,hw,hG1,hg1,k4,e2,hg2,k0,e3,hg3,e4,hb4,hv,ldO_one,stO_one,sy,tup,↓reduceIte,zA,zG,zC,zD,zF,zE,zB,zH,reduceCtorEq]
 obtain⟨Q,hQ⟩:∃ Q:List (Option V × Option V),Q=[(loadF (.t (Tr.path 8)) 1 .sc (Tr.setP (Tr.path 8) (.ptr (some ⟨.run G.next,0⟩)) .e) G2,some (.int .u64 (N.seq:Int))),(loadF (.t (Tr.path 8)) 1 .sc (Tr.setP (Tr.path 8) (.ptr (some ⟨.run G.next,0⟩)) .e) G3,some (.int .u64 (N.seq:Int)))]:=⟨_,rfl⟩
 rw[endD_q (q:=Q) (by kernel_rfl) (by rw[hQ];kernel_rfl)]
 have hQ':∀ x ∈ Q,x.1=x.2:=by
  rw[hQ]
  intro x hx
  simp only[List.mem_cons,List.not_mem_nil,or_false] at hx
  rcases hx with rfl | rfl<;>simp (maxDischargeDepth:=12) only[hg2,hg3,k0,hv,ldO_one,stO_one,sy,tup,↓reduceIte,zA,zG,zC,zD,zF,zE,zB,zH,reduceCtorEq]
 simp (maxDischargeDepth:=12) only[hv,ldO_one,stO_one,sy,tup,↓reduceIte,zA,zG,zC,zD,zF,zE,zB,zH,reduceCtorEq]
 refine⟨trivial,.inr trivial,_,rfl,rfl,?_⟩
 exact((((t1.trans t2).trans t3).trans t4).setn _ (by omega) _).owe hQ'
end
end Go.Proofs.YtabebpemfinejaaDoor.draft
namespace Go.Proofs.YtabebpemfinejaaDoor.draft
open Go.Am
open disk (bx Fit A1 R1 Low Bn)
noncomputable def c32:CFn:=⟨[.tmp (pp 6)],
 .seq (.reg [
 qo 3 (.m (boxF 1 (tt 0))) [pp 0],
 qo 4 (.m (boxF 1 (tt 1))) [pp 1],
 qo 5 (.m (boxF 64 (tt 2))) [pp 2],
 qo 6 (.p (S.get (.c (.nilFunc)))) []]) (
 .seq (.reg [
 qo 7 (.p (mkfnF (.func 60) [] [(tt 3),(tt 4),(tt 5)])) [pp 3,pp 4,pp 5],
 mv 6 7]) (
 .ret))⟩
theorem c32_eq:fnOf Tryd.prog 32=some c32:=by kernel_rfl
noncomputable def c60:CFn:=⟨[.tmp (pp 3)],
 .seq (.reg [
 qo 3 (.p (S.get (ii 0))) []]) (
 .seq (.regD [
 qo 4 (.r (loadF (tt 0) 1 .sc)) [pp 0],
 qo 5 (.p (nilcF (tt 4))) [pp 4],
 qo 6 (.p (faddrF (tt 5) 0)) [pp 5],
 qo 7 (.r (loadF (tt 6) 1 .sc)) [pp 6],
 qo 8 (.r (loadF (tt 0) 1 .sc)) [pp 0],
 qo 9 (.p (nilcF (tt 8))) [pp 8],
 qo 10 (.p (faddrF (tt 9) 1)) [pp 9],
 qo 11 (.r (loadF (tt 10) 1 .sc)) [pp 10],
 qo 12 (.r (loadF (tt 1) 1 .sc)) [pp 1],
 qo 13 (.r (loadF (tt 2) 64 .bk)) [pp 2],
 qo 14 (.c (callF (ff 61) [(tt 7),(tt 11),(tt 12),(tt 13)])) [pp 7,pp 11,pp 12,pp 13],
 mv 3 14] [0,1,3,7,0,16,48,112,0,0,1023,2047]) (
 .ret))⟩
theorem c60_eq:fnOf Tryd.prog 60=some c60:=by kernel_rfl
noncomputable def c35:CFn:=⟨[.tmp (pp 2)],
 .seq (.reg [
 qo 2 (.p (S.get (ii 0))) []]) (
 .seq (.regD [
 mv 3 0,
 qo 4 (.p (nilcF (tt 3))) [pp 3],
 qo 5 (.p (faddrF (tt 4) 0)) [pp 4],
 qo 6 (.r (loadF (tt 5) 1 .sc)) [pp 5],
 mv 7 0,
 qo 8 (.p (nilcF (tt 7))) [pp 7],
 qo 9 (.p (faddrF (tt 8) 1)) [pp 8],
 qo 10 (.r (loadF (tt 9) 1 .sc)) [pp 9],
 qo 11 (.c (callF (ff 66) [(tt 6),(tt 10)])) [pp 6,pp 10],
 mv 2 11] [0,1,3,7,0,16,48,112,255,511]) (
 .ret))⟩
theorem c35_eq:fnOf Tryd.prog 35=some c35:=by kernel_rfl
noncomputable def c37_l0:C:=.seq (.reg [
 qo 9 (.p (arF .lss (tt 8) (tt 7))) [pp 8,pp 7]]) (
 .seq (.cond (tt 9) (.skip) (.exit 0)) (
 .seq (.block 1 (.seq (.reg [
 qo 10 (.p (iaddrSF (tt 6) (tt 8) 1)) [pp 6,pp 8],
 qo 11 (.r (loadF (tt 10) 1 .sc)) [pp 10],
 mv 4 11]) (
 .seq (.reg [
 mv 12 4,
 qo 13 (.c (callF (tt 12) [])) [pp 12],
 mv 5 13]) (
 .seq (.reg [
 mv 14 5,
 qo 15 (.p (eqcF true false [.int .i64] (tt 14) (ii 0))) [pp 14]]) (
 .cond (tt 15) (.seq (.reg [
 mv 16 5,
 mv 2 16]) (
 .ret)) (.skip)))))) (
 .reg [
 qo 17 (.p (arF .add (tt 8) (ii 1))) [pp 8],
 mv 8 17])))
noncomputable def c37:CFn:=⟨[.tmp (pp 2)],
 .seq (.reg [
 qo 2 (.p (S.get (ii 0))) []]) (
 .seq (.seq (.reg [
 mv 6 0,
 qo 7 (.p (lenF (tt 6))) [pp 6],
 qo 8 (.p (S.get (ii 0))) []]) (
 .block 0 (.loop c37_l0))) (
 .seq (.reg [
 qo 2 (.p (S.get (ii 0))) []]) (
 .ret)))⟩
theorem c37_eq:fnOf Tryd.prog 37=some c37:=by kernel_rfl
inductive Stp where
 | wr (n:Nat) (x:Nat)
 | fl
noncomputable def stepB (B:Bn):Stp→Bn
 | .wr n x=>B.write 0 (n:Int) x
 | .fl=>B.flush 0
def stepC (B:Bn):Stp→Int
 | .wr n _=>B.wc 0 (n:Int)
 | .fl=>B.wc 0 0
noncomputable def doneB:Bn→List Stp→Bn
 | B,[]=>B
 | B,s::l=>if stepC B s=0 then doneB (stepB B s) l else stepB B s
noncomputable def doneC:Bn→List Stp→Int
 | _,[]=>0
 | B,s::l=>if stepC B s=0 then doneC (stepB B s) l else stepC B s
noncomputable def runF:Bn→List (Bn→Int × Bn)→Int × Bn
 | B,[]=>(0,B)
 | B,F::l=>if(F B).1=0 then runF (F B).2 l else F B
structure Rm (k:Nat) (B:Bn):Prop where
 ne:B.l≠[]
 le:B.l.length≤17
 dev:∀ D ∈ B.l,D.S≠[]∧(∀ w ∈ D.L,w.1 < D.S.length)∧D.S.length≤512∧D.L.length+k≤900
 ar:0≤B.ar∧B.ar≤9223372036854775807
 st:0≤B.st∧B.st+(k:Int)≤100000
theorem Rm.fit {k:Nat} {B:Bn} (h:Rm k B):Fit B:=⟨h.ne,h.le,fun D hD=>by
 obtain⟨h1,h2,h3,h4⟩:=h.dev D hD
 exact⟨h1,h2,h3,by omega⟩,h.ar,by have:=h.st;omega⟩
theorem Rm.mono {k j:Nat} {B:Bn} (h:Rm k B) (hj:j≤k):Rm j B:=⟨h.ne,h.le,fun D hD=>by
 obtain⟨h1,h2,h3,h4⟩:=h.dev D hD
 exact⟨h1,h2,h3,by omega⟩,h.ar,by have:=h.st;omega⟩
theorem Rm.stepd {k:Nat} {B:Bn} (h:Rm (k+1) B) {d:Int} {D:disk.Dev} (hD:D.S≠[]∧(∀ w ∈ D.L,w.1 < D.S.length)∧D.S.length≤512∧D.L.length+k≤900):Rm k (B.step d D):=by
 unfold disk.Bn.step
 have h1:=h.st
 have h2:=h.ar
 split
 ·exact⟨h.ne,h.le,(h.mono (Nat.le_succ k)).dev,h.ar,by show 0≤B.st∧B.st+_≤_;omega⟩
 ·refine⟨fun e=>h.ne (List.length_eq_zero_iff.1 ?_),?_,fun E hE=>?_,?_,?_⟩
  ·have:=congrArg List.length e
   simpa using this
  ·show (B.l.set _ _).length≤17
   rw[List.length_set];exact h.le
  ·rcases List.mem_or_eq_of_mem_set hE with hE | rfl
   ·exact(h.mono (Nat.le_succ k)).dev E hE
   ·exact hD
  ·show 0≤disk.arLess B.ar∧disk.arLess B.ar≤_
   unfold disk.arLess;split<;>omega
  ·show 0≤B.st+1∧B.st+1+_≤_
   omega
theorem Rm.write {k:Nat} {B:Bn} (h:Rm (k+1) B) (d n:Int) (x:Nat):Rm k (B.write d n x):=by
 unfold disk.Bn.write
 split
 ·rename_i hc
  obtain⟨h1,h2,h3,h4⟩:=h.dev _ (disk.tc_dev (disk.lc_tc (disk.rc_lc hc)))
  refine h.stepd ?_
  unfold disk.Dev.write
  rcases disk.code_cases (B.dev d) n with ⟨j,rfl,hj,hd,hc⟩ | hc | hc
  ·rw[if_pos hc]
   refine⟨h1,fun w hw=>?_,h3,?_⟩
   ·rcases List.mem_append.1 hw with hw | hw
    ·exact h2 w hw
    ·rw[List.mem_singleton.1 hw];exact hj
   ·show (_++[_]).length+k≤900
    rw[List.length_append];simp only[List.length_singleton];omega
  ·rw[if_neg (by rw[hc];decide)];exact⟨h1,h2,h3,by omega⟩
  ·rw[if_neg (by rw[hc];decide)];exact⟨h1,h2,h3,by omega⟩
 ·exact h.mono (Nat.le_succ k)
theorem Rm.flush {k:Nat} {B:Bn} (h:Rm (k+1) B) (d:Int):Rm k (B.flush d):=by
 unfold disk.Bn.flush
 split
 ·rename_i hc
  obtain⟨h1,h2,h3,h4⟩:=h.dev _ (disk.tc_dev (disk.lc_tc (disk.rc_lc hc)))
  refine h.stepd ?_
  unfold disk.Dev.flush
  split
  ·exact⟨h1,h2,h3,by omega⟩
  ·have hl:=disk.flushS_length (B.dev d).L (B.dev d).S
   refine⟨fun e=>h1 (List.length_eq_zero_iff.1 ?_),fun w hw=>absurd hw (by simp),by rw[hl];exact h3,by simp only[List.length_nil];omega⟩
   have e:disk.flushS (B.dev d).S (B.dev d).L=[]:=e
   rw[← hl,e];rfl
 ·exact h.mono (Nat.le_succ k)
theorem Rm.step {k:Nat} {B:Bn} (h:Rm (k+1) B) (s:Stp):Rm k (stepB B s):=by
 cases s with
 | wr n x=>exact h.write 0 _ x
 | fl=>exact h.flush 0
def StepAt (G0 H:Heap) (l:Bk) (v:V):Stp→Prop
 | .fl=>v=.func (.func 35) [.ptr (some ⟨l,0⟩)] []
 | .wr n x=>∃ a1 a2 a3,v=.func (.func 60) [] [.ptr (some ⟨.run a1,0⟩),.ptr (some ⟨.run a2,0⟩),.ptr (some ⟨.run a3,0⟩)]∧G0.next≤a1∧G0.next≤a2∧G0.next≤a3∧a1 < H.next∧a2 < H.next∧a3 < H.next ∧
  H.get (.run a1)=some (.rows false 1 [[.ptr (some ⟨l,0⟩)]])∧H.get (.run a2)=some (.rows false 1 [[.int .i64 (n:Int)]])∧H.get (.run a3)=some (.rows false 64 [[.blk x]])
theorem StepAt.turns {X:Bk→Prop} {G0 H H':Heap} {l:Bk} {v:V} {s:Stp} (h:StepAt G0 H l v s) (t:Turns X H H') (hX:∀ n,G0.next≤n→n < H.next→¬ X (.run n)):StepAt G0 H' l v s:=by
 cases s with
 | fl=>exact h
 | wr n x=>
  obtain⟨a1,a2,a3,e,g1,g2,g3,l1,l2,l3,h1,h2,h3⟩:=h
  exact⟨a1,a2,a3,e,g1,g2,g3,Nat.lt_of_lt_of_le l1 t.next,Nat.lt_of_lt_of_le l2 t.next,Nat.lt_of_lt_of_le l3 t.next,(t.same (.run a1) l1 (hX _ g1 l1)).trans h1,(t.same (.run a2) l2 (hX _ g2 l2)).trans h2,(t.same (.run a3) l3 (hX _ g3 l3)).trans h3⟩
section
variable {lf K:Nat} (hlf:1000 < lf)
include hlf
theorem ulput (G:Heap) (l:Bk) (m x:Nat) (n:Nat):ret (U lf K (n+1) 32 [.ptr (some ⟨l,0⟩),.int .i64 (m:Int),.blk x] G) fun v G'=>StepAt G G' l v (.wr m x)∧Turns Z G G':=by
 refine ret_callU rfl rfl c32_eq ?_
 simp (maxDischargeDepth:=12) only[c32,hv,ldO_one,stO_one,sy,tup,↓reduceIte,zA,zG,zC,zD,zF,zE,zB,zH,reduceCtorEq]
 refine⟨trivial,.inr trivial,_,rfl,⟨G.next,G.next+1,G.next+2,rfl,Nat.le_refl _,by omega,by omega,?_,?_,?_,?_,?_,?_⟩,((Turns.add Z G _).addm _).addm _⟩
 ·show _ < _+1+1+1;omega
 ·show _ < _+1+1+1;omega
 ·show _ < _+1+1+1;omega
 ·rw[Heap.get_add,if_neg (run_ne (by simp;omega)),Heap.get_add,if_neg (run_ne (by simp)),Heap.get_add,if_pos rfl]
 ·rw[Heap.get_add,if_neg (run_ne (by simp)),Heap.get_add,if_pos (by simp)]
 ·rw[Heap.get_add,if_pos (by simp)]
variable {G:Heap} {l b:Bk} {id R cnt first tail head:Nat} {v:V} (hg:G.get l=some (.rows false 9 [lcells b id R cnt first tail head v])) {B:Bn} (hb:G.get b=some (bx false B)) (hf:Fit B)
include hg hb hf
theorem ulflush (n:Nat):ret (U lf K (n+2) 35 [.ptr (some ⟨l,0⟩)] G) fun v G'=>v=.int .i64 (B.wc 0 0)∧G'.get b=some (bx false (B.flush 0))∧Turns (fun c=>c=b) G G':=by
 have k0:cut (lcells b id R cnt first tail head v) 0 1=some [.ptr (some ⟨b,0⟩)]:=rfl
 have k1:cut (lcells b id R cnt first tail head v) 1 1=some [.int .i64 0]:=rfl
 have eF:=qFlush hb hf (0:Int) (lf:=lf) (K:=K) (w:=n)
 obtain⟨W,hW⟩:∃ W,W=B.wc 0 0:=⟨_,rfl⟩
 rw[← hW] at eF ⊢
 refine ret_callU rfl rfl c35_eq ?_
 simp (maxDischargeDepth:=12) only[c35,hg,k0,k1,eF,hv,ldO_one,stO_one,sy,tup,↓reduceIte,zA,zG,zC,zD,zF,zE,zB,zH,reduceCtorEq]
 rw[endD_ok (by kernel_rfl) (by kernel_rfl)]
 simp (maxDischargeDepth:=12) only[hv,ldO_one,stO_one,sy,tup,↓reduceIte,zA,zG,zC,zD,zF,zE,zB,zH,reduceCtorEq]
 refine⟨trivial,.inr trivial,_,rfl,rfl,trivial,?_⟩
 repeat (first | exact Turns.refl _ _ | apply Turns.skip | apply Turns.addm | apply Turns.setb | apply Turns.setl | apply Turns.setr | refine Turns.setn ?_ _ (by omega) _ | refine Turns.trans ?_ (tF _))
theorem ulput1 {a1 a2 a3:Nat} {m x:Nat} (h1:G.get (.run a1)=some (.rows false 1 [[.ptr (some ⟨l,0⟩)]])) (h2:G.get (.run a2)=some (.rows false 1 [[.int .i64 (m:Int)]])) (h3:G.get (.run a3)=some (.rows false 64 [[.blk x]])) (n:Nat) :
  ret (U lf K (n+2) 60 [.ptr (some ⟨.run a1,0⟩),.ptr (some ⟨.run a2,0⟩),.ptr (some ⟨.run a3,0⟩)] G) fun v G'=>v=.int .i64 (B.wc 0 (m:Int))∧G'.get b=some (bx false (B.write 0 (m:Int) x))∧Turns (fun c=>c=b) G G':=by
 have k0:cut (lcells b id R cnt first tail head v) 0 1=some [.ptr (some ⟨b,0⟩)]:=rfl
 have k1:cut (lcells b id R cnt first tail head v) 1 1=some [.int .i64 0]:=rfl
 have eF:=qWrite hb hf (0:Int) (m:Int) x (lf:=lf) (K:=K) (w:=n)
 obtain⟨W,hW⟩:∃ W,W=B.wc 0 (m:Int):=⟨_,rfl⟩
 rw[← hW] at eF ⊢
 refine ret_callU rfl rfl c60_eq ?_
 simp (maxDischargeDepth:=12) only[c60,hg,h1,h2,h3,k0,k1,eF,hv,ldO_one,stO_one,sy,tup,↓reduceIte,zA,zG,zC,zD,zF,zE,zB,zH,reduceCtorEq]
 rw[endD_ok (by kernel_rfl) (by kernel_rfl)]
 simp (maxDischargeDepth:=12) only[hv,ldO_one,stO_one,sy,tup,↓reduceIte,zA,zG,zC,zD,zF,zE,zB,zH,reduceCtorEq]
 refine⟨trivial,.inr trivial,_,rfl,rfl,trivial,?_⟩
 repeat (first | exact Turns.refl _ _ | apply Turns.skip | apply Turns.addm | apply Turns.setb | apply Turns.setl | apply Turns.setr | refine Turns.setn ?_ _ (by omega) _ | refine Turns.trans ?_ (tF _))
omit hg hb hf in
theorem ldV {ro:Bool} {Vs:List V} {i:Nat} (hi:i < Vs.length) {f:Fn} {a c:List V} (he:Vs[i]=.func f a c):ldO (some (.rows ro 1 (Vs.map fun v=>[v]))) i 1=some [.func f a c]:=by
 have h1:nth (Vs.map fun v=>[v]) (Nat.div i 1)=some [.func f a c]:=nth_of (by
  rw[show Nat.div i 1=i from Nat.div_one i,List.getElem?_map,List.getElem?_eq_getElem hi,he];rfl)
 have h2:Nat.mod i 1=0:=Nat.mod_one i
 unfold ldO
 simp only[h1,h2]
 rfl
end
theorem runF_cons (B:Bn) (F:Bn→Int × Bn) (l:List (Bn→Int × Bn)):runF B (F::l)=if(F B).1=0 then runF (F B).2 l else F B:=rfl
theorem drop_at {α:Type} {l:List α} {i:Nat} (h:i < l.length):l.drop i=l[i]::l.drop (i+1):=List.drop_eq_getElem_cons h
section
variable {lf K:Nat} (hlf:1000 < lf)
include hlf
theorem ulrunG {n:Nat} {G:Heap} {b:Bk} {w z c:Nat} {Vs:List V} {Fs:List (Bn→Int × Bn)} (P:Nat→Bn→Prop) (hlen:Vs.length=Fs.length) (hk:Fs.length≤900)
  (hstep:∀ i (h1:i < Vs.length) (h2:i < Fs.length),∃ f a k,Vs[i]=.func (.func f) a k∧∀(H:Heap) (B:Bn),Turns (fun c=>c=b) G H→H.get b=some (bx false B)→P i B→ret (U lf K n f (a++k) H) fun v H'=>v=.int .i64 (Fs[i] B).1∧H'.get b=some (bx false (Fs[i] B).2)∧Turns (fun c=>c=b) H H')
  (hP:∀ i (h2:i < Fs.length) (B:Bn),P i B→(Fs[i] B).1=0→P (i+1) (Fs[i] B).2)
  (hw:G.get (.run w)=some (.rows false 1 (Vs.map fun v=>[v]))) (wo:G.Old (.run w)) (wb:Bk.run w≠b) {B:Bn} (hb:G.get b=some (bx false B)) (h0:P 0 B) :
  ret (U lf K (n+1) 37 [.slice (some ⟨.run w,0⟩) Vs.length c z] G) fun v G'=>v=.int .i64 (runF B Fs).1∧G'.get b=some (bx false (runF B Fs).2)∧Turns (fun c=>c=b) G G':=by
 have hloop:∀ t:T,t.getP (Tr.path 6)=some (.slice (some ⟨.run w,0⟩) Vs.length c z)→t.getP (Tr.path 7)=some (.int .i64 (Vs.length:Int))→t.getP (Tr.path 8)=some (.int .i64 0) →
   wp (loopF (runC (U lf K n) lf c37_l0) lf ⟨t,G,[]⟩) fun x s'=>s'.d=[]∧s'.H.get b=some (bx false (runF B Fs).2)∧Turns (fun c=>c=b) G s'.H∧((x=.ex 0∧(runF B Fs).1=0)∨(x=.ret∧s'.t.getP (Tr.path 2)=some (.int .i64 (runF B Fs).1))):=by
  intro t q6 q7 q8
  refine wp_loopF (fun u s'=>∃(i:Nat) (B':Bn),u=Fs.length - i∧i≤Fs.length∧s'.d=[]∧s'.t.getP (Tr.path 6)=some (.slice (some ⟨.run w,0⟩) Vs.length c z)∧s'.t.getP (Tr.path 7)=some (.int .i64 (Vs.length:Int))∧s'.t.getP (Tr.path 8)=some (.int .i64 (i:Int))∧s'.H.get b=some (bx false B')∧P i B'∧runF B Fs=runF B' (Fs.drop i)∧Turns (fun c=>c=b) G s'.H)
   ?_ lf Fs.length _ ⟨0,B,rfl,Nat.zero_le _,rfl,q6,q7,q8,hb,h0,rfl,Turns.refl _ _⟩ (by omega)
  rintro u ⟨t,G2,d⟩ ⟨i,B',rfl,hi,hd,q6,q7,q8,hb2,hp,he,ht⟩
  dsimp only at hd q6 q7 q8 hb2 ht
  subst hd
  by_cases hlt:i < Fs.length
  ·have hltV:i < Vs.length:=by omega
   have hlt':(i:Int) < (Vs.length:Int):=by omega
   have hle:i+1≤Vs.length:=hltV
   have w1:IntKind.i64.wrap ((i:Int)+1)=((i+1:Nat):Int):=by rw[Go.Am.wrap_i64 (by omega)];omega
   have hw2:=(ht.same (.run w) wo wb).trans hw
   obtain⟨f,a,k,hVi,hs⟩:=hstep i hltV hlt
   have hld:=ldV hlf (ro:=false) hltV hVi
   obtain⟨v3,G3,e3,rfl,hb3,t3⟩:=hs G2 B' ht hb2 hp
   rw[drop_at hlt,runF_cons] at he
   by_cases hc:(Fs[i] B').1=0
   ·rw[if_pos hc] at he
    rw[hc] at e3
    simp (maxDischargeDepth:=12) only[c37_l0,q6,q7,q8,hlt',hle,hw2,hld,e3,w1,Nat.mul_one,hv,ldO_one,stO_one,sy,tup,↓reduceIte,zA,zG,zC,zD,zF,zE,zB,zH,reduceCtorEq]
    exact⟨Fs.length - (i+1),by omega,i+1,(Fs[i] B').2,rfl,by omega,trivial,by simp[q6],by simp[q7],by simp,hb3,hP i hlt B' hp hc,he,ht.trans t3⟩
   ·rw[if_neg hc] at he
    obtain⟨W,hW⟩:∃ W,W=(Fs[i] B').1:=⟨_,rfl⟩
    have hc':(W==0)=false:=beq_eq_false_iff_ne.2 (by rw[hW];exact hc)
    have e1:(runF B Fs).1=W:=by rw[he,hW]
    have e2:(runF B Fs).2=(Fs[i] B').2:=by rw[he]
    rw[e1,e2]
    rw[← hW] at e3
    simp (maxDischargeDepth:=12) only[c37_l0,q6,q7,q8,hlt',hle,hw2,hld,e3,w1,hc',Nat.mul_one,hv,ldO_one,stO_one,sy,tup,↓reduceIte,zA,zG,zC,zD,zF,zE,zB,zH,reduceCtorEq]
    exact⟨trivial,hb3,ht.trans t3,.inr ⟨trivial,trivial⟩⟩
  ·have:i=Fs.length:=by omega
   subst this
   rw[List.drop_length] at he
   have e1:(runF B Fs).1=0:=by rw[he];rfl
   have e2:(runF B Fs).2=B':=by rw[he];rfl
   rw[e1,e2]
   have hnl:¬ ((Fs.length:Int) < (Vs.length:Int)):=by omega
   simp (maxDischargeDepth:=12) only[c37_l0,q6,q7,q8,hnl,hv,ldO_one,stO_one,sy,tup,↓reduceIte,zA,zG,zC,zD,zF,zE,zB,zH,reduceCtorEq]
   exact⟨trivial,hb2,ht,.inl ⟨trivial,trivial⟩⟩
 refine ret_callU rfl rfl c37_eq ?_
 obtain⟨W,hW⟩:∃ W,W=(runF B Fs).1:=⟨_,rfl⟩
 obtain⟨B2,hB2⟩:∃ B2,B2=(runF B Fs).2:=⟨_,rfl⟩
 rw[← hW,← hB2] at hloop ⊢
 simp (maxDischargeDepth:=12) only[c37,hv,ldO_one,stO_one,sy,tup,↓reduceIte,zA,zG,zC,zD,zF,zE,zB,zH,reduceCtorEq]
 refine wp_ctx (F:=fun r=>seqC _ _ _ (blockC _ r)) (hloop _ ?_ ?_ ?_) ?_
 ·simp only[sy,tup,↓reduceIte,zA,zG,zC,zD,zF,zE,zB,zH,reduceCtorEq]
 ·simp only[sy,tup,↓reduceIte,zA,zG,zC,zD,zF,zE,zB,zH,reduceCtorEq]
 ·simp only[sy,tup,↓reduceIte,zA,zG,zC,zD,zF,zE,zB,zH,reduceCtorEq]
 rintro x ⟨t,G2,d⟩ ⟨hd,hb2,ht,hx⟩
 dsimp only at hd hb2 ht hx
 subst hd
 rcases hx with ⟨rfl,hW0⟩ | ⟨rfl,q2⟩
 ·simp only[sy,tup,↓reduceIte,zA,zG,zC,zD,zF,zE,zB,zH,reduceCtorEq]
  exact⟨trivial,.inr trivial,_,rfl,by rw[hW0],hb2,ht⟩
 ·simp only[q2,sy,tup,↓reduceIte,zA,zG,zC,zD,zF,zE,zB,zH,reduceCtorEq]
  exact⟨trivial,.inr trivial,_,rfl,rfl,hb2,ht⟩
theorem runF_steps:∀(Ss:List Stp) (B:Bn),runF B (Ss.map fun s B=>(stepC B s,stepB B s))=(doneC B Ss,doneB B Ss)
 | [],B=>rfl
 | s::l,B=>by
  show (if stepC B s=0 then runF (stepB B s) _ else(stepC B s,stepB B s))=_
  unfold doneC doneB
  rw[runF_steps l]
  split<;>rfl
theorem ulrun {G:Heap} {l b:Bk} {id R cnt first tail head:Nat} {v:V} (hg:G.get l=some (.rows false 9 [lcells b id R cnt first tail head v])) {G0:Heap} {w z c:Nat} {Vs:List V} {Ss:List Stp} (hlen:Vs.length=Ss.length) (hk:Ss.length≤900) (hstep:∀ i (h1:i < Vs.length) (h2:i < Ss.length),StepAt G0 G l Vs[i] Ss[i]) (hw:G.get (.run w)=some (.rows false 1 (Vs.map fun v=>[v]))) (ww:G0.next≤w∧w < G.next) (ho:G.Old l) (lb:l≠b) (bo:G0.Old b)
  {B:Bn} (hb:G.get b=some (bx false B)) (hR:Rm Ss.length B) (n:Nat) :
  ret (U lf K (n+3) 37 [.slice (some ⟨.run w,0⟩) Vs.length c z] G) fun v G'=>v=.int .i64 (doneC B Ss)∧G'.get b=some (bx false (doneB B Ss))∧Turns (fun c=>c=b) G G':=by
 have nbo:∀ m,G0.next≤m→¬ (Bk.run m=b):=fun m hm e=>by rw[← e] at bo;exact absurd bo (Heap.not_old hm)
 have h:=ulrunG hlf (K:=K) (n:=n+2) (c:=c) (z:=z) (Fs:=Ss.map fun s B=>(stepC B s,stepB B s)) (fun i=>Rm (Ss.length - i)) (by simpa using hlen) (by simpa using hk) (fun i h1 h2=>?_) (fun i h2 B' hp hc=>?_) hw (by show _ < _;exact ww.2) (nbo w ww.1) hb hR
 ·rw[runF_steps hlf] at h
  exact h
 ·have h2':i < Ss.length:=by simpa using h2
  simp only[List.getElem_map]
  have hs:=hstep i h1 h2'
  cases hS:Ss[i] with
  | fl=>
   rw[hS] at hs
   refine⟨_,_,_,hs,fun H B' ht hb' hp=>?_⟩
   exact ulflush hlf ((ht.same l ho lb).trans hg) hb' hp.fit (K:=K) n
  | wr m x=>
   rw[hS] at hs
   obtain⟨a1,a2,a3,hVi,g1,g2,g3,l1,l2,l3,h1,h2,h3⟩:=hs
   refine⟨_,_,_,hVi,fun H B' ht hb' hp=>?_⟩
   exact ulput1 hlf ((ht.same l ho lb).trans hg) hb' hp.fit (K:=K) ((ht.same _ (by show _ < _;exact l1) (nbo _ g1)).trans h1) ((ht.same _ (by show _ < _;exact l2) (nbo _ g2)).trans h2) ((ht.same _ (by show _ < _;exact l3) (nbo _ g3)).trans h3) n
 ·have h2':i < Ss.length:=by simpa using h2
  simp only[List.getElem_map]
  refine Rm.step ?_ _
  rw[show Ss.length - (i+1)+1=Ss.length - i by omega]
  exact hp
end
end Go.Proofs.YtabebpemfinejaaDoor.draft
namespace Go.Proofs.YtabebpemfinejaaDoor.draft
open Go.Am
noncomputable def c33_l0:C:=.seq (.reg [
 qo 9 (.p (arF .lss (tt 8) (tt 7))) [pp 8,pp 7]]) (
 .seq (.cond (tt 9) (.skip) (.exit 0)) (
 .seq (.block 1 (.seq (.reg [
 qo 10 (.p (iaddrSF (tt 6) (tt 8) 64)) [pp 6,pp 8],
 qo 11 (.r (loadF (tt 10) 64 .bk)) [pp 10],
 qo 5 (.m (allocF 64 [.blk 0])) [],
 qn (.a (storeF (tt 5) (tt 11) 64)) [pp 5,pp 11]]) (
 .reg [
 mv 12 3,
 qo 13 (.p (sliceAF 64 1 (tt 5) none none none)) [pp 5],
 qo 14 (.c (callF (ff 62) [(tt 12),(tt 13)])) [pp 12,pp 13],
 mv 3 14]))) (
 .reg [
 qo 15 (.p (arF .add (tt 8) (ii 1))) [pp 8],
 mv 8 15])))
noncomputable def c33:CFn:=⟨[.tmp (pp 2)],
 .seq (.reg [
 qo 2 (.p (S.get (.c (.int .u32 0)))) []]) (
 .seq (.reg [
 qo 3 (.p (S.get (.c (.int .u32 0)))) []]) (
 .seq (.seq (.reg [
 mv 6 0,
 qo 7 (.p (lenF (tt 6))) [pp 6],
 qo 8 (.p (S.get (ii 0))) []]) (
 .block 0 (.loop c33_l0))) (
 .seq (.reg [
 mv 16 3,
 mv 2 16]) (
 .ret))))⟩
theorem c33_eq:fnOf Tryd.prog 33=some c33:=by kernel_rfl
noncomputable def crcZ (z:Nat) (c:Nat→Nat):Nat→Nat
 | 0=>z
 | i+1=>crc.takeN (crcZ z c i) (c i)
theorem crcZ_lt {z:Nat} {c:Nat→Nat} (hz:z < 4294967296):∀ {n:Nat},(∀ i,i < n→c i < 256)→crcZ z c n < 4294967296
 | 0,_=>hz
 | n+1,hc=>take_lt (crcZ_lt hz (fun i hi=>hc i (by omega))) (hc n (by omega))
def rowsK (l:List Nat):List (List V):=l.map fun x:Nat=>[V.blk x]
theorem rowsK_len (l:List Nat):(rowsK l).length=l.length:=by unfold rowsK;simp
structure BlksAt (H:Heap) (v:V) (l:List Nat):Prop where
 ex:∃ p c o,v=.slice p l.length c o
 get:∀(i:Nat) (hi:i < l.length),∃ n o c z,v=.slice (some ⟨.run n,o⟩) l.length c z∧loadAt H ⟨.run n,o+i*64⟩ 64=some [.blk l[i]]
theorem blks_lst {H0 H:Heap} {l:List Nat} {v:V} (h:Lst H0 H 64 (rowsK l) v):BlksAt H v l:=by
 refine⟨?_,fun i hi=>?_⟩
 ·obtain⟨p,c,o,e⟩:=h.val
  rw[rowsK_len] at e
  exact⟨p,c,o,e⟩
 ·obtain⟨n,e,hl⟩:=h.load (i:=i) (o:=0) (k:=64) (r:=[.blk l[i]]) (by unfold rowsK;rw[List.getElem?_map,List.getElem?_eq_getElem hi];rfl) (by decide)
  rw[rowsK_len] at e
  exact⟨n,0,_,_,e,by have:=hl;rw[Nat.zero_add];exact this⟩
section
variable {K:Nat}
theorem umore {r:Nat} (hr0:r < 4294967296) {H:Heap} {p:Ptr} {len cap loose:Nat} {c:Nat→Nat} (hm:len < 1000000) (hb:∀ i,i < len→c i < 256) (hd:∀ i,i < len→loadAt H ⟨p.b,p.o+i⟩ 1=some [.int .u8 (c i:Int)]) (lf n:Nat) (hlf:len+1 < lf) :
  U lf K (n+2) 62 [.int .u32 (r:Int),.slice (some p) len cap loose] H=some (.v (.int .u32 ((notN (crcZ (notN r) c len):Nat):Int)),H):=by
 obtain⟨v,H',e,rfl,rfl⟩:ret (U lf K (n+2) 62 [.int .u32 (r:Int),.slice (some p) len cap loose] H) fun v H'=>v=.int .u32 ((notN (crcZ (notN r) c len):Nat):Int)∧H'=H:=by
  refine ret_callU rfl rfl c62_eq ?_
  have u0:=not_u32 hr0
  have hz:=notN_lt hr0
  have hloop:∀ t:T,t.getP (Tr.path 5)=some (.int .u32 ((notN r:Nat):Int))→t.getP (Tr.path 10)=some (.slice (some p) len cap loose)→t.getP (Tr.path 11)=some (.int .i64 (len:Int))→t.getP (Tr.path 12)=some (.int .i64 0) →
    wp (loopF (runC (U lf K (n+1)) lf c62_l0) lf ⟨t,H,[]⟩) fun x s=>x=.ex 0∧s.d=[]∧s.H=H∧s.t.getP (Tr.path 5)=some (.int .u32 ((crcZ (notN r) c len:Nat):Int)):=by
   intro t q5 q10 q11 q12
   refine wp_loopF (fun k s=>∃ i:Nat,k=len - i∧i≤len∧s.d=[]∧s.H=H∧s.t.getP (Tr.path 5)=some (.int .u32 ((crcZ (notN r) c i:Nat):Int))∧s.t.getP (Tr.path 10)=some (.slice (some p) len cap loose)∧s.t.getP (Tr.path 11)=some (.int .i64 (len:Int))∧s.t.getP (Tr.path 12)=some (.int .i64 (i:Int))) ?_ lf len _ ⟨0,rfl,by omega,rfl,rfl,q5,q10,q11,q12⟩ (by omega)
   rintro k ⟨t,HH,d⟩ ⟨i,rfl,hi,hd',hH,q5,q10,q11,q12⟩
   dsimp only at hd' hH q5 q10 q11 q12
   subst hd';subst hH
   by_cases hlt:i < len
   ·have hlt':(i:Int) < (len:Int):=by omega
    have hle':i+1≤len:=hlt
    have lk:=hd i hlt
    have w3:IntKind.i64.wrap ((i:Int)+1)=((i+1:Nat):Int):=by rw[wrap_i64 (by omega)];omega
    have tk:=u_take_ok (K:=K) HH (crcZ_lt (c:=c) (n:=i) hz (fun j hj=>hb j (by omega))) (hb i hlt) lf n
    simp only[c62_l0,q5,q10,q11,q12,hlt',hle',w3,lk,tk,Nat.mul_one,sy,tup,↓reduceIte,zA,zG,zC,zD,zF,zE,zB,zH,reduceCtorEq]
    exact⟨len - (i+1),by omega,i+1,rfl,by omega,trivial,trivial,rfl,trivial,trivial,by simp⟩
   ·have:i=len:=by omega
    subst this
    simp only[c62_l0,q5,q10,q11,q12,Nat.lt_irrefl,Int.lt_irrefl,sy,tup,↓reduceIte,zA,zG,zC,zD,zF,zE,zB,zH,reduceCtorEq]
    exact⟨trivial,trivial,trivial,trivial⟩
  have un:=not_u32 (crcZ_lt hz hb)
  simp only[c62,u0,sy,tup,↓reduceIte,zA,zG,zC,zD,zF,zE,zB,zH,reduceCtorEq]
  refine wp_ctx (F:=fun r=>seqC _ _ _ (blockC _ r)) (hloop _ ?_ ?_ ?_ ?_) ?_
  ·simp only[sy,tup,↓reduceIte,zA,zG,zC,zD,zF,zE,zB,zH,reduceCtorEq]
  ·simp only[sy,tup,↓reduceIte,zA,zG,zC,zD,zF,zE,zB,zH,reduceCtorEq]
  ·simp only[sy,tup,↓reduceIte,zA,zG,zC,zD,zF,zE,zB,zH,reduceCtorEq]
  ·simp only[sy,tup,↓reduceIte,zA,zG,zC,zD,zF,zE,zB,zH,reduceCtorEq]
  rintro x ⟨t,HH,d⟩ ⟨rfl,hd',hH,q5⟩
  dsimp only at hd' hH q5
  subst hd';subst hH
  simp only[q5,un,sy,tup,↓reduceIte,zA,zG,zC,zD,zF,zE,zB,zH,reduceCtorEq]
  simp
 exact e
noncomputable def sumB (l:List Nat):Nat:=l.foldl (fun r x=>notN (crcZ (notN r) (byte x) 64)) 0
theorem sumB_app (l:List Nat) (x:Nat):sumB (l++[x])=notN (crcZ (notN (sumB l)) (byte x) 64):=by unfold sumB;rw[List.foldl_append,List.foldl_cons,List.foldl_nil]
theorem sumB_lt (l:List Nat):sumB l < 4294967296:=by
 unfold sumB
 suffices h:∀(l:List Nat) (r:Nat),r < 4294967296→l.foldl (fun r x=>notN (crcZ (notN r) (byte x) 64)) r < 4294967296 from h l 0 (by decide)
 intro l
 induction l with
 | nil=>intro r h;rw[List.foldl_nil];exact h
 | cons x l ih=>intro r h;rw[List.foldl_cons];exact ih _ (notN_lt (crcZ_lt (notN_lt h) (fun i _=>byte_lt _ _)))
theorem usum {lf:Nat} (hlf:1000 < lf) {G:Heap} {v:V} {l:List Nat} (hl:∀ H,Turns Z G H→BlksAt H v l) (hs:l.length≤900) (n:Nat):ret (U lf K (n+3) 33 [v] G) fun v G'=>v=.int .u32 (sumB l:Int)∧Turns Z G G':=by
 have hloop:∀(t:T),t.getP (Tr.path 3)=some (.int .u32 0)→t.getP (Tr.path 6)=some v→t.getP (Tr.path 7)=some (.int .i64 (l.length:Int))→t.getP (Tr.path 8)=some (.int .i64 0) →
   wp (loopF (runC (U lf K (n+2)) lf c33_l0) lf ⟨t,G,[]⟩) fun x s=>x=.ex 0∧s.d=[]∧s.t.getP (Tr.path 3)=some (.int .u32 (sumB l:Int))∧Turns Z G s.H:=by
  intro t q3 q6 q7 q8
  refine wp_loopF (fun k s=>∃ i,k=l.length - i∧i≤l.length∧s.d=[]∧s.t.getP (Tr.path 3)=some (.int .u32 (sumB (l.take i):Int))∧s.t.getP (Tr.path 6)=some v∧s.t.getP (Tr.path 7)=some (.int .i64 (l.length:Int))∧s.t.getP (Tr.path 8)=some (.int .i64 (i:Int))∧Turns Z G s.H) ?_ lf l.length _ ⟨0,rfl,Nat.zero_le _,rfl,q3,q6,q7,q8,Turns.refl _ _⟩ (by omega)
  rintro k ⟨t,HH,d⟩ ⟨i,rfl,hi,rfl,q3,q6,q7,q8,hT⟩
  dsimp only at q3 q6 q7 q8 hT
  by_cases hlt:i < l.length
  ·have hlt':(i:Int) < (l.length:Int):=by omega
   obtain⟨nn,o,c,z,rfl,hld⟩:=(hl HH hT).get i hlt
   rw[ld_get] at hld
   have hsum:sumB (l.take (i+1))=notN (crcZ (notN (sumB (l.take i))) (byte l[i]) 64):=by rw[List.take_succ_eq_append_getElem hlt,sumB_app]
   have hw:IntKind.i64.wrap ((i:Int)+1)=((i+1:Nat):Int):=by rw[Go.Am.wrap_i64 (by omega)];rfl
   have hle:i+1≤l.length:=hlt
   obtain⟨H1,hH1⟩:∃ H1,(HH.add (.rows false 64 [[.blk 0]])).set (.run HH.next) (.rows false 64 [[.blk l[i]]])=H1:=⟨_,rfl⟩
   have hg1:H1.get (.run HH.next)=some (.rows false 64 [[.blk l[i]]]):=by rw[← hH1,Heap.get_set,if_pos rfl]
   have t1:Turns Z HH H1:=by rw[← hH1];repeat (first | exact Turns.refl _ _ | apply Turns.skip | apply Turns.addm | apply Turns.setb | apply Turns.setl | apply Turns.setr | refine Turns.setn ?_ _ (by omega) _ | refine Turns.trans ?_ (tF _))
   have em:=umore (K:=K) (sumB_lt (l.take i)) (H:=H1) (p:=⟨.run HH.next,0⟩) (len:=64) (cap:=64) (loose:=0) (c:=byte l[i]) (by decide) (fun j _=>byte_lt _ _) (fun j hj=>by rw[Nat.zero_add];exact load_byte hg1 hj) lf n (by omega)
   rw[← hsum] at em
   simp (maxDischargeDepth:=12) only[c33_l0,q3,q6,q7,q8,hlt',hle,hld,hH1,em,hw,sliceAF,bounds,boundD,oget,hv,ldO_one,stO_one,sy,tup,↓reduceIte,zA,zG,zC,zD,zF,zE,zB,zH,reduceCtorEq]
   exact⟨l.length - (i+1),by omega,i+1,rfl,hlt,trivial,by simp,by simp[q6],by simp[q7],by simp,hT.trans t1⟩
  ·have:i=l.length:=by omega
   subst this
   rw[List.take_length] at q3
   simp (maxDischargeDepth:=12) only[c33_l0,q3,q6,q7,q8,Int.lt_irrefl,hv,ldO_one,stO_one,sy,tup,↓reduceIte,zA,zG,zC,zD,zF,zE,zB,zH,reduceCtorEq]
   exact⟨trivial,trivial,trivial,hT⟩
 obtain⟨p,c,z,rfl⟩:=(hl G (Turns.refl Z G)).ex
 refine ret_callU rfl rfl c33_eq ?_
 simp (maxDischargeDepth:=12) only[c33,hv,ldO_one,stO_one,sy,tup,↓reduceIte,zA,zG,zC,zD,zF,zE,zB,zH,reduceCtorEq]
 refine wp_ctx (F:=fun r=>seqC _ _ _ (blockC _ r)) (hloop _ ?_ ?_ ?_ ?_) ?_
 ·simp only[sy,tup,↓reduceIte,zA,zG,zC,zD,zF,zE,zB,zH,reduceCtorEq]
 ·simp only[sy,tup,↓reduceIte,zA,zG,zC,zD,zF,zE,zB,zH,reduceCtorEq]
 ·simp only[sy,tup,↓reduceIte,zA,zG,zC,zD,zF,zE,zB,zH,reduceCtorEq]
 ·simp only[sy,tup,↓reduceIte,zA,zG,zC,zD,zF,zE,zB,zH,reduceCtorEq]
 rintro x ⟨t,HH,d⟩ ⟨rfl,rfl,q3,hT⟩
 dsimp only at q3 hT
 simp (maxDischargeDepth:=12) only[q3,hv,ldO_one,stO_one,sy,tup,↓reduceIte,zA,zG,zC,zD,zF,zE,zB,zH,reduceCtorEq]
 exact⟨trivial,.inr trivial,_,rfl,rfl,hT⟩
end
end Go.Proofs.YtabebpemfinejaaDoor.draft
namespace Go.Proofs.YtabebpemfinejaaDoor.draft
open Go.Am
noncomputable def c79:CFn:=⟨[.tmp (pp 2)],
 .seq (.reg [
 qo 1 (.m (boxF 4 (tt 0))) [pp 0],
 qo 2 (.p (S.get (.c (.bool false)))) []]) (
 .seq (.reg [
 qo 3 (.p (faddrF (tt 1) 0)) [pp 1],
 qo 4 (.r (loadF (tt 3) 1 .sc)) [pp 3],
 qo 5 (.p (eqcF true false [.int .u64] (tt 4) (.c (.int .u64 0)))) [pp 4],
 mv 6 5,
 qg 7 (.p (faddrF (tt 1) 1)) 6 true [pp 1],
 qg 8 (.r (loadF (tt 7) 1 .sc)) 6 true [pp 7],
 qg 9 (.p (arF .geq (tt 8) (ii 40))) 6 true [pp 8],
 qo 10 (.p (pickF (tt 6) (tt 9) (.c (.bool false)))) [pp 6,pp 9],
 mv 11 10,
 qg 12 (.p (faddrF (tt 1) 1)) 11 true [pp 1],
 qg 13 (.r (loadF (tt 12) 1 .sc)) 11 true [pp 12],
 qg 14 (.p (arF .leq (tt 13) (ii 256))) 11 true [pp 13],
 qo 15 (.p (pickF (tt 11) (tt 14) (.c (.bool false)))) [pp 11,pp 14],
 mv 16 15,
 qg 17 (.p (faddrF (tt 1) 2)) 16 true [pp 1],
 qg 18 (.r (loadF (tt 17) 1 .sc)) 16 true [pp 17],
 qg 19 (.p (arF .geq (tt 18) (.c (.int .u64 1)))) 16 true [pp 18],
 qo 20 (.p (pickF (tt 16) (tt 19) (.c (.bool false)))) [pp 16,pp 19],
 mv 21 20,
 qg 22 (.p (faddrF (tt 1) 2)) 21 true [pp 1],
 qg 23 (.r (loadF (tt 22) 1 .sc)) 21 true [pp 22],
 qg 24 (.p (arF .leq (tt 23) (.c (.int .u64 4611686018427387904)))) 21 true [pp 23],
 qo 25 (.p (pickF (tt 21) (tt 24) (.c (.bool false)))) [pp 21,pp 24],
 mv 26 25,
 qg 27 (.p (faddrF (tt 1) 3)) 26 true [pp 1],
 qg 28 (.r (loadF (tt 27) 1 .sc)) 26 true [pp 27],
 qg 29 (.p (arF .leq (tt 28) (.c (.int .u64 4611686018427387904)))) 26 true [pp 28],
 qo 30 (.p (pickF (tt 26) (tt 29) (.c (.bool false)))) [pp 26,pp 29],
 mv 2 30]) (
 .ret))⟩
theorem c79_eq:fnOf Tryd.prog 79=some c79:=by kernel_rfl
def mkV (id R first pos:Nat):List V:=[.int .u64 (id:Int),.int .i64 (R:Int),.int .u64 (first:Int),.int .u64 (pos:Int)]
structure MkOk (id R first pos:Nat):Prop where
 id:id≠0∧id < 18446744073709551616
 R:40≤R∧R≤256
 first:1≤first∧first≤4611686018427387904
 pos:pos≤4611686018427387904
section
variable {lf K:Nat} (hlf:1000 < lf)
include hlf
theorem unslot (G:Heap) {q:Nat} (n:Nat):U lf K (n+1) 36 [.int .u64 (q:Int)] G=some (.v (.int .i64 ((q % 8:Nat):Int)),G):=by
 have r1:arith .rem (.int .u64 (q:Int)) (.int .u64 8)=some (.int .u64 ((q % 8:Nat):Int)):=rem_u64 q 8 (by decide)
 have hlt:q % 8 < 8:=Nat.mod_lt _ (by decide)
 generalize q % 8=z at *
 have w2:IntKind.i64.wrap (z:Int)=(z:Int):=Go.Am.wrap_i64 (by omega)
 obtain⟨v,H',e',rfl,rfl⟩:ret (U lf K (n+1) 36 [.int .u64 (q:Int)] G) fun v H'=>v=.int .i64 (z:Int)∧H'=G:=by
  refine ret_callU rfl rfl c36_eq ?_
  simp only[c36,r1,w2,sy,tup,↓reduceIte,zA,zG,zC,zD,zF,zE,zB,zH,reduceCtorEq]
  simp
 exact e'
theorem umslot (G:Heap) {q:Nat} (n:Nat):U lf K (n+1) 55 [.int .u64 (q:Int)] G=some (.v (.int .i64 ((q % 2:Nat):Int)),G):=by
 have r1:arith .rem (.int .u64 (q:Int)) (.int .u64 2)=some (.int .u64 ((q % 2:Nat):Int)):=rem_u64 q 2 (by decide)
 have hlt:q % 2 < 2:=Nat.mod_lt _ (by decide)
 generalize q % 2=z at *
 have w2:IntKind.i64.wrap (z:Int)=(z:Int):=Go.Am.wrap_i64 (by omega)
 obtain⟨v,H',e',rfl,rfl⟩:ret (U lf K (n+1) 55 [.int .u64 (q:Int)] G) fun v H'=>v=.int .i64 (z:Int)∧H'=G:=by
  refine ret_callU rfl rfl c55_eq ?_
  simp only[c55,r1,w2,sy,tup,↓reduceIte,zA,zG,zC,zD,zF,zE,zB,zH,reduceCtorEq]
  simp
 exact e'
theorem ummay (G:Heap) {id R first pos:Nat} (h:MkOk id R first pos) (n:Nat):ret (U lf K (n+1) 79 [.agg (mkV id R first pos)] G) fun v G'=>v=.bool true∧Turns Z G G':=by
 obtain⟨⟨i1,_⟩,⟨r1,r2⟩,⟨f1,f2⟩,p1⟩:=h
 have k0:cut (mkV id R first pos) 0 1=some [.int .u64 (id:Int)]:=rfl
 have k1:cut (mkV id R first pos) 1 1=some [.int .i64 (R:Int)]:=rfl
 have k2:cut (mkV id R first pos) 2 1=some [.int .u64 (first:Int)]:=rfl
 have k3:cut (mkV id R first pos) 3 1=some [.int .u64 (pos:Int)]:=rfl
 have hw:width (mkV id R first pos)=4:=rfl
 have b0:((id:Int)==0)=false:=by rw[beq_eq_false_iff_ne];omega
 have g1:(40:Int)≤(R:Int):=by omega
 have g2:(R:Int)≤256:=by omega
 have g3:(1:Int)≤(first:Int):=by omega
 have g4:(first:Int)≤4611686018427387904:=by omega
 have g5:(pos:Int)≤4611686018427387904:=by omega
 refine ret_callU rfl rfl c79_eq ?_
 simp (maxDischargeDepth:=12) only[c79,hw,k0,k1,k2,k3,b0,g1,g2,g3,g4,g5,r1,r2,f1,f2,p1,hv,ldO_one,stO_one,sy,tup,↓reduceIte,zA,zG,zC,zD,zF,zE,zB,zH,reduceCtorEq]
 exact⟨trivial,.inr trivial,_,rfl,rfl,Turns.add Z G _⟩
end
end Go.Proofs.YtabebpemfinejaaDoor.draft
namespace Go.Proofs.YtabebpemfinejaaDoor.draft
open Go.Am
noncomputable def c54_l0:C:=.seq (.reg [
 qo 34 (.p (arF .lss (tt 33) (ii 4))) [pp 33]]) (
 .seq (.cond (tt 34) (.skip) (.exit 0)) (
 .seq (.block 1 (.seq (.reg [
 mv 35 33,
 qo 36 (.p (idxAF (tt 32) (tt 33) 4 1 .sc)) [pp 32,pp 33],
 mv 7 35,
 mv 8 36]) (
 .seq (.reg [
 mv 38 8,
 mv 39 7,
 qo 40 (.p (iaddrAF (.c (.ptr (some ⟨.run 0,0⟩))) (tt 39) 4 1)) [pp 39],
 qo 41 (.r (loadF (tt 40) 1 .sc)) [pp 40],
 qo 42 (.c (callF (ff 58) [(tt 38),(tt 41)])) [pp 38,pp 41],
 mv 37 42,
 qo 43 (.p (extF (tt 37) 0)) [pp 37],
 qo 44 (.p (extF (tt 37) 1)) [pp 37],
 mv 9 43,
 mv 10 44]) (
 .reg [
 mv 45 6,
 mv 46 9,
 qo 47 (.a (appF 1 1 (tt 45) (tt 46))) [pp 45,pp 46],
 mv 6 47])))) (
 .reg [
 qo 48 (.p (arF .add (tt 33) (ii 1))) [pp 33],
 mv 33 48])))
noncomputable def c54:CFn:=⟨[.cell (pp 4) 64 .bk,.tmp (pp 5)],
 .seq (.reg [
 qo 3 (.m (boxF 4 (tt 1))) [pp 1],
 qo 4 (.m (allocF 64 [.blk 0])) [],
 qo 5 (.p (S.get (ii 0))) []]) (
 .seq (.seq (.reg [
 mv 11 0,
 qo 12 (.p (arF .lss (tt 11) (.c (.int .u64 1)))) [pp 11],
 mv 13 12,
 mg 14 0 13 false,
 qg 15 (.p (arF .gtr (tt 14) (.c (.int .u64 4611686018427387904)))) 13 false [pp 14],
 qo 16 (.p (pickF (tt 13) (.c (.bool true)) (tt 15))) [pp 13,pp 15],
 mv 17 16,
 qg 18 (.r (loadF (tt 3) 4 .ag)) 17 false [pp 3],
 qg 19 (.c (callF (ff 79) [(tt 18)])) 17 false [pp 18],
 qg 20 (.p (unF .not (tt 19))) 17 false [pp 19],
 qo 21 (.p (pickF (tt 17) (.c (.bool true)) (tt 20))) [pp 17,pp 20]]) (
 .cond (tt 21) (.seq (.reg [
 qo 22 (.p (buildF [.blk 0] .bk [])) [],
 qn (.a (storeF (tt 4) (tt 22) 64)) [pp 4,pp 22],
 qo 5 (.p (S.get (ii 2))) []]) (
 .ret)) (.skip))) (
 .seq (.reg [
 qo 6 (.p (S.get (.c (.slice none 0 0 0)))) []]) (
 .seq (.seq (.reg [
 qo 23 (.p (faddrF (tt 3) 0)) [pp 3],
 qo 24 (.r (loadF (tt 23) 1 .sc)) [pp 23],
 qo 25 (.p (faddrF (tt 3) 1)) [pp 3],
 qo 26 (.r (loadF (tt 25) 1 .sc)) [pp 25],
 qo 27 (.p (convF .u64 (tt 26))) [pp 26],
 qo 28 (.p (faddrF (tt 3) 2)) [pp 3],
 qo 29 (.r (loadF (tt 28) 1 .sc)) [pp 28],
 qo 30 (.p (faddrF (tt 3) 3)) [pp 3],
 qo 31 (.r (loadF (tt 30) 1 .sc)) [pp 30],
 qo 32 (.p (buildF [.int .u64 0,.int .u64 0,.int .u64 0,.int .u64 0] .ag [(0,1,(tt 24)),(1,1,(tt 27)),(2,1,(tt 29)),(3,1,(tt 31))])) [pp 24,pp 27,pp 29,pp 31],
 qo 33 (.p (S.get (ii 0))) []]) (
 .block 0 (.loop c54_l0))) (
 .seq (.reg [
 mv 49 0,
 mv 50 6,
 qo 51 (.c (callF (ff 64) [(tt 49),(tt 50)])) [pp 49,pp 50],
 qo 52 (.p (extF (tt 51) 0)) [pp 51],
 qo 53 (.p (extF (tt 51) 1)) [pp 51],
 qn (.a (storeF (tt 4) (tt 52) 64)) [pp 4,pp 52],
 mv 5 53]) (
 .ret)))))⟩
theorem c54_eq:fnOf Tryd.prog 54=some c54:=by kernel_rfl
def mkN (id R first pos:Nat):Nat→Nat
 | 0=>id
 | 1=>R
 | 2=>first
 | _=>pos
def szM:Nat→Nat
 | 1=>2
 | _=>8
def markL (id R first pos:Nat):Nat→List Nat
 | 0=>[]
 | i+1=>markL id R first pos i++stl (dig (mkN id R first pos i)) (szM i) 0
theorem szM_le (i:Nat):1≤szM i∧szM i≤8:=by unfold szM;split<;>decide
theorem markL_len (id R first pos:Nat):∀ i,(markL id R first pos i).length≤8*i
 | 0=>Nat.le_refl _
 | i+1=>by
  have:=markL_len id R first pos i
  have:=(szM_le i).2
  unfold markL
  rw[List.length_append,stl_len];omega
section
variable {lf K:Nat} (hlf:1000 < lf)
include hlf
theorem ummarks {G G1:Heap} (hgl:G1.get (.run 0)=some (.rows true 4 (intsR [8,2,8,8]))) (h00:0 < G.next) {id R first pos:Nat} (h:MkOk id R first pos) (t1:Turns Z G G1) {V0 V4 V5:V} (n:Nat):∀ t:T,t.getP (Tr.path 6)=some (.slice none 0 0 0)→t.getP (Tr.path 32)=some (.agg [.int .u64 (id:Int),.int .u64 (R:Int),.int .u64 (first:Int),.int .u64 (pos:Int)])→t.getP (Tr.path 33)=some (.int .i64 0)→t.getP (Tr.path 0)=some V0→t.getP (Tr.path 4)=some V4 →
  wp (loopF (runC (U lf K (n+2)) lf c54_l0) lf ⟨t,G1,[]⟩) fun x s=>x=.ex 0∧s.d=[]∧s.t.getP (Tr.path 0)=some V0∧s.t.getP (Tr.path 4)=some V4∧∃ y,s.t.getP (Tr.path 6)=some y∧Lst G1 s.H 1 (rowsN (markL id R first pos 4)) y∧Turns Z G1 s.H:=by
 intro t q6 q32 q33 q0 q4
 obtain⟨⟨i1,i2⟩,⟨r1,r2⟩,⟨f1,f2⟩,p1⟩:=h
 refine wp_loopF (fun k s=>∃ i,k=4 - i∧i≤4∧s.d=[]∧s.t.getP (Tr.path 0)=some V0∧s.t.getP (Tr.path 4)=some V4∧s.t.getP (Tr.path 32)=some (.agg [.int .u64 (id:Int),.int .u64 (R:Int),.int .u64 (first:Int),.int .u64 (pos:Int)])∧s.t.getP (Tr.path 33)=some (.int .i64 (i:Int))∧∃ y,s.t.getP (Tr.path 6)=some y∧Lst G1 s.H 1 (rowsN (markL id R first pos i)) y∧Turns Z G1 s.H) ?_ lf 4 _ ⟨0,rfl,by omega,rfl,q0,q4,q32,q33,_,q6,Lst.nil _ _ _,Turns.refl _ _⟩ (by omega)
 rintro k ⟨t,HH,d⟩ ⟨i,rfl,hi,rfl,q0,q4,q32,q33,y,q6,hy,hT⟩
 dsimp only at q0 q4 q32 q33 q6 hy hT
 by_cases hlt:i < 4
 ·have hlt':(i:Int) < 4:=by omega
  have hle:i≤3:=by omega
  have hle':i+1≤4:=by omega
  have w1:IntKind.i64.wrap ((i:Int)+1)=((i+1:Nat):Int):=by rw[Go.Am.wrap_i64 (by omega)];omega
  have hcut:cut [V.int .u64 (id:Int),V.int .u64 (R:Int),V.int .u64 (first:Int),V.int .u64 (pos:Int)] i 1=some [.int .u64 (mkN id R first pos i:Int)]:=by
   have:i=0∨i=1∨i=2∨i=3:=by omega
   rcases this with rfl | rfl | rfl | rfl<;>rfl
  have hgl2:=(hT.same (.run 0) (Nat.lt_of_lt_of_le h00 t1.next) (fun h=>h)).trans hgl
  have hld:ldO (some (.rows true 4 (intsR [8,2,8,8]))) i 1=some [.int .i64 (szM i:Int)]:=by
   have:i=0∨i=1∨i=2∨i=3:=by omega
   rcases this with rfl | rfl | rfl | rfl<;>rfl
  have hsz:=szM_le i
  have hN:mkN id R first pos i < 18446744073709551616∧mkN id R first pos i / 256 ^ szM i=0:=by
   have:i=0∨i=1∨i=2∨i=3:=by omega
   rcases this with rfl | rfl | rfl | rfl
   ·exact⟨i2,Nat.div_eq_of_lt (Nat.lt_of_lt_of_le i2 (by decide))⟩
   ·exact⟨by show R < _;omega,Nat.div_eq_of_lt (Nat.lt_of_le_of_lt r2 (by decide))⟩
   ·exact⟨by show first < _;omega,Nat.div_eq_of_lt (Nat.lt_of_le_of_lt f2 (by decide))⟩
   ·exact⟨by show pos < _;omega,Nat.div_eq_of_lt (Nat.lt_of_le_of_lt p1 (by decide))⟩
  obtain⟨v2,G2,e2,t2,h2⟩:=u_pnput_ok (K:=K) HH (N:=mkN id R first pos i) hN.1 (s:=szM i) hsz (lf:=lf) (by omega) (n+1)
  obtain⟨q,rfl,hq,_⟩:∃ k,v2=.tuple [.slice (some ⟨.run k,0⟩) (szM i) (szM i) 0,.int .i64 0]∧BodyAt G2 k (dig (mkN id R first pos i)) (szM i)∧HH.next≤k:=by
   rcases h2 with ⟨_,h⟩ | ⟨h,_⟩
   ·exact h
   ·exact absurd hN.2 h
  have hy2:=hy.turns t2 (fun _ _ h=>h)
  have ls:(stl (dig (mkN id R first pos i)) (szM i) 0).length=szM i:=stl_len _ _ _
  have hll:=markL_len id R first pos i
  have n4:rowsN (stl (dig (mkN id R first pos i)) (szM i) 0)≠[]:=fun e=>by
   have:=List.map_eq_nil_iff.1 e
   rw[this] at ls
   simp at ls;omega
  obtain⟨G3,a2,hz,t3,_⟩:=hy2.app (by':=1) (x:=.slice (some ⟨.run q,0⟩) (szM i) (szM i) 0) (hT.trans t2).next (elems_bod hq (szM i) 0 (by omega)) (by rw[rowsN_len,ls];rfl) n4 (by decide) (by rw[rowsN_len,rowsN_len];omega) (by rw[rowsN_len,rowsN_len];omega)
  rw[← rowsN_app] at hz
  simp (maxDischargeDepth:=12) only[c54_l0,q32,q33,q6,hlt',hle,hle',hcut,hgl2,hld,e2,a2,w1,Nat.mul_one,iaddrAF,idxAF,hv,ldO_one,stO_one,sy,tup,↓reduceIte,zA,zG,zC,zD,zF,zE,zB,zH,reduceCtorEq]
  refine⟨4 - (i+1),by omega,i+1,rfl,by omega,trivial,by simp[q0],by simp[q4],by simp[q32],by simp,_,rfl,hz,?_⟩
  exact lst_away hy2 (hT.trans t2) (Nat.le_refl _) t3
 ·have:i=4:=by omega
  subst this
  have hnl:¬ (((4:Nat):Int) < 4):=by decide
  simp (maxDischargeDepth:=12) only[c54_l0,q32,q33,q6,hnl,hv,ldO_one,stO_one,sy,tup,↓reduceIte,zA,zG,zC,zD,zF,zE,zB,zH,reduceCtorEq]
  exact⟨trivial,trivial,by simp[q0],by simp[q4],y,rfl,hy,hT⟩
theorem markL_lt (id R first pos:Nat):∀ i,∀ x ∈ markL id R first pos i,x < 256
 | 0,x,h=>by cases h
 | i+1,x,h=>by
  unfold markL at h
  rcases List.mem_append.1 h with h | h
  ·exact markL_lt id R first pos i x h
  ·exact stl_lt hlf (dig_lt _) _ _ x h
noncomputable def markB (cnt id R first pos:Nat):Nat:=blkOf cnt (markL id R first pos 4)
theorem umark {G:Heap} (hgl:G.get (.run 0)=some (.rows true 4 (intsR [8,2,8,8]))) (h00:0 < G.next) {cnt id R first pos:Nat} (hc:1≤cnt∧cnt≤4611686018427387904) (h:MkOk id R first pos) (n:Nat):ret (U lf K (n+5) 54 [.int .u64 (cnt:Int),.agg (mkV id R first pos)] G) fun v G'=>v=.tuple [.blk (markB cnt id R first pos),.int .i64 0]∧Turns Z G G':=by
 have hw:width (mkV id R first pos)=4:=rfl
 have k0:cut (mkV id R first pos) 0 1=some [.int .u64 (id:Int)]:=rfl
 have k1:cut (mkV id R first pos) 1 1=some [.int .i64 (R:Int)]:=rfl
 have k2:cut (mkV id R first pos) 2 1=some [.int .u64 (first:Int)]:=rfl
 have k3:cut (mkV id R first pos) 3 1=some [.int .u64 (pos:Int)]:=rfl
 have k4:cut (mkV id R first pos) 0 4=some (mkV id R first pos):=rfl
 have g1:¬ (cnt:Int) < 1:=by omega
 have g2:¬ (4611686018427387904:Int) < (cnt:Int):=by omega
 have hR:=h.R
 have w1:IntKind.u64.wrap (R:Int)=(R:Int):=Go.Am.wrap_u64 (by omega)
 have t1:Turns Z G ((G.add (.rows false 4 [mkV id R first pos])).add (.rows false 64 [[.blk 0]])):=by repeat (first | exact Turns.refl _ _ | apply Turns.skip | apply Turns.addm | apply Turns.setb | apply Turns.setl | apply Turns.setr | refine Turns.setn ?_ _ (by omega) _ | refine Turns.trans ?_ (tF _))
 have hg1:((G.add (.rows false 4 [mkV id R first pos])).add (.rows false 64 [[.blk 0]])).get (.run G.next)=some (.rows false 4 [mkV id R first pos]):=by rw[Heap.get_add,if_neg (run_ne (by simp)),Heap.get_add,if_pos rfl]
 have hb1:((G.add (.rows false 4 [mkV id R first pos])).add (.rows false 64 [[.blk 0]])).get (.run (G.next+1))=some (.rows false 64 [[.blk 0]]):=by rw[Heap.get_add,if_pos (by simp)]
 obtain⟨G1,hG1⟩:∃ G1,(G.add (.rows false 4 [mkV id R first pos])).add (.rows false 64 [[.blk 0]])=G1:=⟨_,rfl⟩
 have wo1:G1.Old (.run G.next):=by rw[← hG1];show _ < _+1+1;omega
 have bo1:G1.Old (.run (G.next+1)):=by rw[← hG1];show _ < _+1+1;omega
 rw[hG1] at t1 hg1 hb1
 obtain⟨v2,G2,e2,rfl,t2⟩:=ummay hlf G1 h (K:=K) (n+3)
 have hg2:=(t2.same _ wo1 (fun h=>h)).trans hg1
 have hgl2:=((t1.trans t2).same (.run 0) h00 (fun h=>h)).trans hgl
 refine ret_callU rfl rfl c54_eq ?_
 simp (maxDischargeDepth:=12) only[c54,g1,g2,hw,hG1,hg1,k4,e2,hg2,k0,k1,k2,k3,w1,hv,ldO_one,stO_one,sy,tup,↓reduceIte,zA,zG,zC,zD,zF,zE,zB,zH,reduceCtorEq]
 refine wp_ctx (F:=fun r=>seqC _ _ _ (blockC _ r)) (ummarks hlf (n:=n+2) hgl2 h00 h (t1.trans t2) (V0:=.int .u64 (cnt:Int)) (V4:=.ptr (some ⟨.run (G.next+1),0⟩)) (V5:=.bool false) _ ?_ ?_ ?_ ?_ ?_) ?_
 ·simp only[sy,tup,↓reduceIte,zA,zG,zC,zD,zF,zE,zB,zH,reduceCtorEq]
 ·simp only[sy,tup,↓reduceIte,zA,zG,zC,zD,zF,zE,zB,zH,reduceCtorEq]
 ·simp only[sy,tup,↓reduceIte,zA,zG,zC,zD,zF,zE,zB,zH,reduceCtorEq]
 ·simp only[sy,tup,↓reduceIte,zA,zG,zC,zD,zF,zE,zB,zH,reduceCtorEq]
 ·simp only[sy,tup,↓reduceIte,zA,zG,zC,zD,zF,zE,zB,zH,reduceCtorEq]
 rintro x ⟨t,G3,d⟩ ⟨rfl,hd,q0,q4,y,q6,hy,t3⟩
 dsimp only at hd q0 q4 q6 hy t3
 subst hd
 have hlen:=markL_len id R first pos 4
 have hne:markL id R first pos 4≠[]:=fun e=>by
  have:(stl (dig (mkN id R first pos 3)) (szM 3) 0).length=8:=stl_len _ _ _
  unfold markL at e
  rw[List.append_eq_nil_iff] at e
  rw[e.2] at this
  cases this
 obtain⟨v4,G4,e4,t4,rfl⟩:=u_pput7_ok (K:=K) hy hne (by omega) (markL_lt hlf id R first pos 4) (N:=cnt) (by omega) (by omega) (lf:=lf) (by omega) n
 have hb4:=(((t2.trans t3).trans t4).same _ bo1 (fun h=>h)).trans hb1
 simp (maxDischargeDepth:=12) only[q0,q4,q6,e4,hb4,hv,ldO_one,stO_one,sy,tup,↓reduceIte,zA,zG,zC,zD,zF,zE,zB,zH,reduceCtorEq]
 refine⟨trivial,.inr trivial,_,rfl,rfl,?_⟩
 exact((((t1.trans t2).trans t3).trans t4).setn _ (by omega) _)
end
end Go.Proofs.YtabebpemfinejaaDoor.draft
namespace Go.Proofs.YtabebpemfinejaaDoor.draft
open Go.Am
open disk (Bn)
def recS (n:Nat):Nat:=(n+15) / 16+n
def Chain:Nat→Nat→List Nt→Nat→Prop
 | _,p,[],h=>p=h
 | f,p,n::N,h=>n.seq=f∧n.pos=p∧(1≤n.cells∧n.cells≤32)∧n.sum < 4294967296∧Chain (f+1) (p+recS n.cells) N h
theorem Chain.le:∀ {N:List Nt} {f p h:Nat},Chain f p N h→p≤h
 | [],_,_,_,e=>Nat.le_of_eq e
 | n::N,f,p,h,⟨_,_,_,_,c⟩=>Nat.le_trans (Nat.le_add_right _ _) c.le
theorem Chain.app:∀ {N:List Nt} {f p h:Nat},Chain f p N h→∀ {n:Nt},n.seq=f+N.length→n.pos=h→(1≤n.cells∧n.cells≤32)→n.sum < 4294967296→Chain f p (N++[n]) (h+recS n.cells)
 | [],f,p,h,e,n,e1,e2,e3,e4=>by
  have e:p=h:=e
  subst e
  exact⟨e1,e2,e3,e4,rfl⟩
 | m::N,f,p,h,⟨c1,c2,c3,c4,c⟩,n,e1,e2,e3,e4=>⟨c1,c2,c3,c4,c.app (by rw[e1,List.length_cons];omega) e2 e3 e4⟩
def posAt (N:List Nt) (h g:Nat):Nat:=match N[g]? with
 | some n=>n.pos
 | none=>h
theorem posAt_lt {N:List Nt} {h g:Nat} (hg:g < N.length):posAt N h g=N[g].pos:=by unfold posAt;rw[List.getElem?_eq_getElem hg]
theorem posAt_ge {N:List Nt} {h g:Nat} (hg:N.length≤g):posAt N h g=h:=by unfold posAt;rw[List.getElem?_eq_none hg]
theorem Chain.drop:∀ {N:List Nt} {f p h:Nat},Chain f p N h→∀ g,g≤N.length→Chain (f+g) (posAt N h g) (N.drop g) h∧p≤posAt N h g
 | [],f,p,h,e,g,hg=>by
  have:g=0:=by simpa using hg
  subst this
  exact⟨rfl,Nat.le_of_eq e⟩
 | n::N,f,p,h,c,0,_=>by
  rw[posAt_lt (by simp)]
  have e:n.pos=p:=c.2.1
  refine⟨?_,by simp[e]⟩
  simp only[List.getElem_cons_zero,List.drop_zero,Nat.add_zero,e]
  exact c
 | n::N,f,p,h,⟨c1,c2,c3,c4,c⟩,g+1,hg=>by
  obtain⟨h1,h2⟩:=c.drop g (by simpa using hg)
  have e:posAt (n::N) h (g+1)=posAt N h g:=by unfold posAt;rw[List.getElem?_cons_succ]
  rw[e,List.drop_succ_cons,show f+(g+1)=f+1+g by omega]
  exact⟨h1,by omega⟩
theorem Chain.get:∀ {N:List Nt} {f p h:Nat},Chain f p N h→∀ i (hi:i < N.length),N[i].seq=f+i∧p≤N[i].pos∧N[i].pos+recS N[i].cells≤h∧(1≤N[i].cells∧N[i].cells≤32)∧N[i].sum < 4294967296
 | n::N,f,p,h,⟨c1,c2,c3,c4,c⟩,0,_=>by
  have:=c.le
  exact⟨c1,Nat.le_of_eq c2.symm,by show n.pos+_≤h;rw[c2];exact this,c3,c4⟩
 | n::N,f,p,h,⟨c1,c2,c3,c4,c⟩,i+1,hi=>by
  obtain⟨h1,h2,h3⟩:=c.get i (by simpa using hi)
  simp only[List.getElem_cons_succ]
  exact⟨by rw[h1];omega,by omega,h3⟩
def devB (S:List Nat) (L:List (Nat × Nat)) (st:Nat):Bn:=⟨[⟨S,L,false⟩],(st:Int),0,false⟩
def stD (x:List Nat × List (Nat × Nat)):Stp→List Nat × List (Nat × Nat)
 | .wr n v=>(x.1,x.2++[(n,v)])
 | .fl=>(disk.flushS x.1 x.2,[])
def stepsD (x:List Nat × List (Nat × Nat)) (l:List Stp):List Nat × List (Nat × Nat):=l.foldl stD x
def Inside (n:Nat) (l:List Stp):Prop:=∀ s ∈ l,∀ m x,s=.wr m x→m < n
theorem devB_rc (S:List Nat) (L:List (Nat × Nat)) (st:Nat) {n:Nat} (hn:n < S.length):(devB S L st).rc 0 (n:Int)=0:=by
 unfold disk.Bn.rc
 have hl:(devB S L st).lc 0=0:=rfl
 rw[if_pos hl]
 exact disk.code_ok (D:=⟨S,L,false⟩) (by show ¬ ((n:Int) < 0∨(S.length:Int)≤(n:Int));omega) rfl
theorem devB_wr (S:List Nat) (L:List (Nat × Nat)) (st:Nat) {n:Nat} (hn:n < S.length) (x:Nat):stepC (devB S L st) (.wr n x)=0∧stepB (devB S L st) (.wr n x)=devB S (L++[(n,x)]) (st+1):=by
 have h:=devB_rc S L st hn
 constructor
 ·show disk.Bn.wc _ _ _=0
  unfold disk.Bn.wc
  rw[if_pos h];rfl
 ·show disk.Bn.write _ _ _ _=_
  unfold disk.Bn.write
  rw[if_pos h]
  have hc:disk.code ⟨S,L,false⟩ (n:Int)=0:=disk.code_ok (D:=⟨S,L,false⟩) (by show ¬ ((n:Int) < 0∨(S.length:Int)≤(n:Int));omega) rfl
  have hd:(devB S L st).dev 0=⟨S,L,false⟩:=rfl
  rw[hd]
  have hw:disk.Dev.write ⟨S,L,false⟩ (n:Int) x=⟨S,L++[(n,x)],false⟩:=by
   unfold disk.Dev.write
   rw[if_pos hc];rfl
  rw[hw]
  show disk.Bn.step _ _ _=_
  unfold disk.Bn.step
  rw[if_neg (show ¬ (devB S L st).ar=1 by show ¬ (0:Int)=1;decide)]
  rfl
theorem devB_fl (S:List Nat) (L:List (Nat × Nat)) (st:Nat) (hn:S≠[]):stepC (devB S L st) .fl=0∧stepB (devB S L st) .fl=devB (disk.flushS S L) [] (st+1):=by
 have hp:0 < S.length:=List.length_pos_iff.2 hn
 have h:(devB S L st).rc 0 0=0:=devB_rc S L st (n:=0) hp
 constructor
 ·show disk.Bn.wc _ _ _=0
  unfold disk.Bn.wc
  rw[if_pos h];rfl
 ·show disk.Bn.flush _ _=_
  unfold disk.Bn.flush
  rw[if_pos h]
  show disk.Bn.step _ _ _=_
  unfold disk.Bn.step
  rw[if_neg (show ¬ (devB S L st).ar=1 by show ¬ (0:Int)=1;decide)]
  rfl
theorem stepsD_len:∀(l:List Stp) (x:List Nat × List (Nat × Nat)),(stepsD x l).1.length=x.1.length
 | [],_=>rfl
 | s::l,x=>by
  show (stepsD (stD x s) l).1.length=_
  rw[stepsD_len l]
  cases s with
  | wr n v=>rfl
  | fl=>exact disk.flushS_length _ _
theorem devB_run:∀(l:List Stp) (S:List Nat) (L:List (Nat × Nat)) (st:Nat),S≠[]→Inside S.length l→doneC (devB S L st) l=0∧doneB (devB S L st) l=devB (stepsD (S,L) l).1 (stepsD (S,L) l).2 (st+l.length)
 | [],S,L,st,_,_=>⟨rfl,rfl⟩
 | .wr n x::l,S,L,st,hS,hI=>by
  obtain⟨e1,e2⟩:=devB_wr S L st (hI _ (List.mem_cons_self ..) n x rfl) x
  obtain⟨i1,i2⟩:=devB_run l S (L++[(n,x)]) (st+1) hS (fun s hs=>hI s (List.mem_cons_of_mem _ hs))
  unfold doneC doneB
  rw[if_pos e1,if_pos e1,e2,i1,i2]
  refine⟨rfl,?_⟩
  rw[List.length_cons,show st+1+l.length=st+(l.length+1) by omega]
  rfl
 | .fl::l,S,L,st,hS,hI=>by
  obtain⟨e1,e2⟩:=devB_fl S L st hS
  have hl:=disk.flushS_length L S
  have hS':disk.flushS S L≠[]:=fun e=>hS (List.length_eq_zero_iff.1 (by rw[← hl,e];rfl))
  obtain⟨i1,i2⟩:=devB_run l (disk.flushS S L) [] (st+1) hS' (fun s hs=>by rw[hl];exact hI s (List.mem_cons_of_mem _ hs))
  unfold doneC doneB
  rw[if_pos e1,if_pos e1,e2,i1,i2]
  refine⟨rfl,?_⟩
  rw[List.length_cons,show st+1+l.length=st+(l.length+1) by omega]
  rfl
theorem stepsD_app (x:List Nat × List (Nat × Nat)) (l k:List Stp):stepsD x (l++k)=stepsD (stepsD x l) k:=by unfold stepsD;rw[List.foldl_append]
theorem stepsD_fl (x:List Nat × List (Nat × Nat)) (l:List Stp):(stepsD x (l++[.fl])).2=[]:=by rw[stepsD_app];rfl
theorem devB_rm {S:List Nat} {st k:Nat} (hS:S≠[]) (hl:S.length≤512) (hk:k≤900) (hst:st+k≤100000):Rm k (devB S [] st):=by
 refine⟨(by intro e;cases e),Nat.le_of_ble_eq_true rfl,fun D hD=>?_,⟨by show (0:Int)≤0;decide,by show (0:Int)≤_;decide⟩,⟨by show (0:Int)≤(st:Int);omega,by show (st:Int)+_≤_;omega⟩⟩
 rw[show (devB S [] st).l=[⟨S,[],false⟩] from rfl,List.mem_singleton] at hD
 subst hD
 exact⟨hS,fun w hw=>absurd hw (by simp),hl,by simpa using hk⟩
end Go.Proofs.YtabebpemfinejaaDoor.draft
namespace Go.Proofs.YtabebpemfinejaaDoor.draft
open Go.Am
structure Cl where
 s:Int
 m:Int
 x:Nat
def rowC (c:Cl):List V:=[.int .i64 c.s,.int .i64 c.m,.blk c.x]
structure CellsAt (H:Heap) (pp:Option Ptr) (l:List Cl):Prop where
 has:l≠[]→∃ x ox ro rows,pp=some ⟨x,ox*66⟩∧H.Old x∧H.get x=some (.rows ro 66 rows)∧∀ i,(hi:i < l.length)→rows[ox+i]?=some (rowC l[i])
theorem CellsAt.turns {H H':Heap} {pp:Option Ptr} {l:List Cl} (h:CellsAt H pp l) {X:Bk→Prop} (k:Turns X H H') (hX:∀ c,H.Old c→(∃ ro rows,H.get c=some (.rows ro 66 rows))→¬ X c):CellsAt H' pp l:=⟨fun e=>by
 obtain⟨x,ox,ro,rows,hp,ho,hg,hr⟩:=h.has e
 exact⟨x,ox,ro,rows,hp,ho.mono k.next,(k.same x ho (hX x ho ⟨_,_,hg⟩)).trans hg,hr⟩⟩
theorem CellsAt.turnsZ {H H':Heap} {pp:Option Ptr} {l:List Cl} (h:CellsAt H pp l) (k:Turns Z H H'):CellsAt H' pp l:=h.turns k (fun _ _ _ h=>h)
theorem CellsAt.load {H:Heap} {pp:Option Ptr} {l:List Cl} (h:CellsAt H pp l) {i:Nat} (hi:i < l.length):∃ x ox,pp=some ⟨x,ox*66⟩∧∀ o k,o < 66→ldO (H.get x) (ox*66+i*66+o) k=cut (rowC l[i]) o k:=by
 obtain⟨x,ox,ro,rows,hp,ho,hg,hr⟩:=h.has (fun e=>by rw[e] at hi;simp at hi)
 refine⟨x,ox,hp,fun o k ho=>?_⟩
 show loadAt H ⟨x,ox*66+i*66+o⟩ k=_
 have e1:(ox*66+i*66+o) / 66=ox+i:=by omega
 have e2:(ox*66+i*66+o) % 66=o:=by omega
 rw[loadAt_eq hg (r:=rowC l[i]) (nth_of (by rw[e1];exact hr i hi)),e2]
def mayC (c:Cl):Bool:=mayP c.s c.m
theorem mayC_t {c:Cl} (h:mayC c=true):0≤c.s∧c.s < 64∧0≤c.m∧c.m < 16:=by
 unfold mayC mayP at h
 simp only[Bool.and_eq_true,decide_eq_true_eq] at h
 omega
theorem rowsK_get {A:List Nat} {q:Nat} (hq:q < A.length):(rowsK A)[q]?=some [.blk A[q]]:=by unfold rowsK;rw[List.getElem?_map,List.getElem?_eq_getElem hq];rfl
theorem rowsK_set (A:List Nat) (q x:Nat):rowsK (A.set q x)=(rowsK A).set q [.blk x]:=by unfold rowsK;rw[List.map_set]
theorem getD_get {A:List Nat} {q:Nat} (hq:q < A.length):A.getD q 0=A[q]:=by rw[List.getD_eq_getElem?_getD,List.getElem?_eq_getElem hq];rfl
theorem stK_byte {A:List Nat} {q j x:Nat} (hq:q < A.length) (hj:j < 64) (hx:x < 256):stO (some (.rows false 64 (rowsK A))) (q*64+j) [.int .u8 (x:Int)]=some (.rows false 64 (rowsK (A.set q (setByte (A.getD q 0) j x)))):=by
 have h0:Nat.div (q*64+j) 64=q:=by show (q*64+j) / 64=q;omega
 have h1:nth (rowsK A) q=some [.blk (A.getD q 0)]:=nth_of (by rw[rowsK_get hq,getD_get hq])
 have h2:Nat.mod (q*64+j) 64=j:=by show (q*64+j) % 64=j;omega
 have h3:put [.blk (A.getD q 0)] j [.int .u8 (x:Int)]=some [.blk (setByte (A.getD q 0) j x)]:=disk.put_byte _ _ _ hj hx
 unfold stO
 simp only[h0,h1,h2,h3,upd_eq]
 rw[rowsK_set]
theorem stK_blk {A:List Nat} {q:Nat} (hq:q < A.length) (x:Nat):stO (some (.rows false 64 (rowsK A))) (q*64) [.blk x]=some (.rows false 64 (rowsK (A.set q x))):=by
 have h0:Nat.div (q*64) 64=q:=by show (q*64) / 64=q;omega
 have h1:nth (rowsK A) q=some [.blk A[q]]:=nth_of (rowsK_get hq)
 have h2:Nat.mod (q*64) 64=0:=by show (q*64) % 64=0;omega
 have h3:put [.blk A[q]] 0 [.blk x]=some [.blk x]:=Di _ _ _
 unfold stO
 simp only[h0,h1,h2,h3,upd_eq]
 rw[rowsK_set]
theorem ldK {ro:Bool} {A:List Nat} {q:Nat} (hq:q < A.length):ldO (some (.rows ro 64 (rowsK A))) (q*64) 64=some [.blk A[q]]:=by
 have h0:Nat.div (q*64) 64=q:=by show (q*64) / 64=q;omega
 have h1:nth (rowsK A) q=some [.blk A[q]]:=nth_of (rowsK_get hq)
 have h2:Nat.mod (q*64) 64=0:=by show (q*64) % 64=0;omega
 unfold ldO
 simp only[h0,h1,h2]
 exact Dj _ _
theorem store_layK {w:Bk}:∀(xs:List Nat) (q o:Nat) (H:Heap) (A:List Nat) (hq:q < A.length),H.get w=some (.rows false 64 (rowsK A))→o+xs.length≤64→(∀ x ∈ xs,x < 256) →
  storeElems w 1 (rowsN xs) (q*64+o) H=some (match xs with | []=>H | _=>H.set w (.rows false 64 (rowsK (A.set q (layB (A.getD q 0) o xs)))))
 | [],q,o,H,A,hq,h,hl,hx=>rfl
 | x::xs,q,o,H,A,hq,h,hl,hx=>by
  rw[List.length_cons] at hl
  have st:=stK_byte (A:=A) hq (j:=o) (by omega) (hx x (List.mem_cons_self ..))
  have e1:storeAt H ⟨w,q*64+o⟩ [.int .u8 (x:Int)]=some (H.set w (.rows false 64 (rowsK (A.set q (setByte (A.getD q 0) o x))))):=by rw[st_get,h,st];rfl
  have hq':q < (A.set q (setByte (A.getD q 0) o x)).length:=by rw[List.length_set];exact hq
  have ih:=store_layK (w:=w) xs q (o+1) (H.set w (.rows false 64 (rowsK (A.set q (setByte (A.getD q 0) o x))))) _ hq' (by rw[Heap.get_set,if_pos rfl]) (by omega) (fun z hz=>hx z (List.mem_cons_of_mem _ hz))
  show (match storeAt H ⟨w,q*64+o⟩ [.int .u8 (x:Int)] with | some H'=>storeElems w 1 (rowsN xs) (Nat.add (q*64+o) 1) H' | none=>none)=_
  rw[e1]
  show storeElems w 1 (rowsN xs) (q*64+o+1) _=_
  rw[show q*64+o+1=q*64+(o+1) by omega,ih]
  cases xs with
  | nil=>rfl
  | cons y ys=>
   simp only
   rw[getD_get hq',List.getElem_set_self,List.set_set,Heap.set_set]
   rfl
def headsN (n:Nat):Nat:=(n+15) / 16
def noC:Cl:=⟨0,0,0⟩
def placeL (c:Cl):List Nat:=[dig c.s.toNat 0,dig c.s.toNat 1,c.m.toNat]
def hdN (l:List Cl):Nat→Nat→Nat
 | 0,_=>0
 | i+1,q=>if q=i / 16 then layB (hdN l i q) (i % 16*4) (placeL (l.getD i noC)) else hdN l i q
def outA (l:List Cl) (i:Nat):List Nat:=(List.range (headsN l.length+l.length)).map fun k=>if k < headsN l.length then hdN l i k else if k < headsN l.length+i then(l.getD (k - headsN l.length) noC).x else 0
def recL (l:List Cl):List Nat:=outA l l.length
theorem outA_len (l:List Cl) (i:Nat):(outA l i).length=headsN l.length+l.length:=by unfold outA;simp
theorem recL_len (l:List Cl):(recL l).length=recS l.length:=outA_len l _
theorem outA_get (l:List Cl) (i k:Nat) (h:k < (outA l i).length):(outA l i)[k]=if k < headsN l.length then hdN l i k else if k < headsN l.length+i then(l.getD (k - headsN l.length) noC).x else 0:=by
 have e:=List.getElem_map (f:=fun k=>if k < headsN l.length then hdN l i k else if k < headsN l.length+i then(l.getD (k - headsN l.length) noC).x else 0) (l:=List.range (headsN l.length+l.length)) (i:=k) (h:=h)
 rw[List.getElem_range] at e
 exact e
theorem outA_zero (l:List Cl):outA l 0=List.replicate (headsN l.length+l.length) 0:=by
 apply List.ext_getElem
 ·rw[outA_len,List.length_replicate]
 ·intro k h1 h2
  rw[outA_get,List.getElem_replicate]
  split
  ·rfl
  ·rw[if_neg (by omega)]
theorem outA_step {l:List Cl} {i:Nat} (hi:i < l.length) (hq:i / 16 < (outA l i).length) {X:Nat} (hX:X=layB ((outA l i).getD (i / 16) 0) (i % 16*4) (placeL l[i])):((outA l i).set (i / 16) X).set (headsN l.length+i) l[i].x=outA l (i+1):=by
 have hh:i / 16 < headsN l.length:=by unfold headsN;omega
 have hg:l.getD i noC=l[i]:=by rw[List.getD_eq_getElem?_getD,List.getElem?_eq_getElem hi];rfl
 apply List.ext_getElem
 ·simp[outA_len]
 ·intro k h1 h2
  rw[outA_get,List.getElem_set]
  by_cases e1:headsN l.length+i=k
  ·rw[if_pos e1,if_neg (by omega),if_pos (by omega),show k - headsN l.length=i by omega,hg]
  ·rw[if_neg e1,List.getElem_set]
   by_cases e2:i / 16=k
   ·rw[if_pos e2,if_pos (by omega)]
    show _=if k=i / 16 then _ else _
    rw[if_pos e2.symm,hg,hX,getD_get hq,outA_get,if_pos hh]
    subst e2;rfl
   ·rw[if_neg e2,outA_get]
    by_cases e3:k < headsN l.length
    ·rw[if_pos e3,if_pos e3]
     show _=if k=i / 16 then _ else _
     rw[if_neg (Ne.symm e2)]
    ·rw[if_neg e3,if_neg e3]
     by_cases e4:k < headsN l.length+i
     ·rw[if_pos e4,if_pos (by omega)]
     ·rw[if_neg e4,if_neg (by omega)]
end Go.Proofs.YtabebpemfinejaaDoor.draft
namespace Go.Proofs.YtabebpemfinejaaDoor.draft
open Go.Am
theorem getD_set (S:List Nat) (i x n:Nat) (hi:i < S.length):(S.set i x).getD n 0=if n=i then x else S.getD n 0:=by
 rw[List.getD_eq_getElem?_getD,List.getD_eq_getElem?_getD]
 by_cases e:n=i
 ·subst e;rw[List.getElem?_set_self hi,if_pos rfl];rfl
 ·rw[List.getElem?_set_ne (Ne.symm e),if_neg e]
theorem flushS_app (S:List Nat) (L M:List (Nat × Nat)):disk.flushS S (L++M)=disk.flushS (disk.flushS S L) M:=by unfold disk.flushS;rw[List.foldl_append]
theorem flushS_miss:∀(L:List (Nat × Nat)) (S:List Nat) (n:Nat),(∀ w ∈ L,w.1≠n)→(disk.flushS S L).getD n 0=S.getD n 0
 | [],S,n,_=>rfl
 | w::L,S,n,h=>by
  show (disk.flushS (S.set w.1 w.2) L).getD n 0=_
  rw[flushS_miss L _ n (fun w hw=>h w (List.mem_cons_of_mem _ hw)),List.getD_eq_getElem?_getD,List.getElem?_set_ne (h w (List.mem_cons_self ..)),← List.getD_eq_getElem?_getD]
theorem flushS_hit (L M:List (Nat × Nat)) (S:List Nat) (n x:Nat) (hn:n < S.length) (h:∀ w ∈ M,w.1≠n):(disk.flushS S (L++(n,x)::M)).getD n 0=x:=by
 rw[flushS_app]
 show (disk.flushS ((disk.flushS S L).set n x) M).getD n 0=x
 rw[flushS_miss M _ n h,getD_set _ _ _ _ (by rw[disk.flushS_length];exact hn),if_pos rfl]
def recW (R p:Nat) (A:List Nat):List (Nat × Nat):=(List.range A.length).map fun j=>((p+j) % R+10,A.getD j 0)
theorem mod_ne {R a b:Nat} (h1:a < b) (h2:b - a < R):a % R≠b % R:=fun e=>by
 have hR:0 < R:=by omega
 have e1:=Nat.div_add_mod a R
 have e2:=Nat.div_add_mod b R
 rw[e] at e1
 have:R*(a / R) < R*(b / R):=by omega
 have h3:a / R < b / R:=Nat.lt_of_mul_lt_mul_left this
 have h4:R*(a / R)+R≤R*(b / R):=by
  have:=Nat.mul_le_mul_left R h3
  rw[Nat.mul_succ] at this
  exact this
 omega
theorem recW_hit {R p:Nat} {A:List Nat} (hA:A.length≤R) {S:List Nat} (hS:R+10≤S.length) {j:Nat} (hj:j < A.length):(disk.flushS S (recW R p A)).getD ((p+j) % R+10) 0=A[j]:=by
 have hR:0 < R:=by omega
 have hm:(p+j) % R < R:=Nat.mod_lt _ hR
 have e:recW R p A=(List.range j).map (fun j=>((p+j) % R+10,A.getD j 0))++((p+j) % R+10,A.getD j 0)::(List.range (A.length - j - 1)).map (fun i=>((p+(j+1+i)) % R+10,A.getD (j+1+i) 0)):=by
  unfold recW
  apply List.ext_getElem
  ·simp;omega
  ·intro i h1 h2
   simp only[List.length_map,List.length_range] at h1
   rw[List.getElem_map,List.getElem_range,List.getElem_append]
   split
   ·rw[List.getElem_map,List.getElem_range]
   ·rename_i hi
    simp only[List.length_map,List.length_range] at hi ⊢
    rcases Nat.eq_or_lt_of_le (show j≤i by omega) with rfl | hlt
    ·simp
    ·rw[List.getElem_cons,dif_neg (by omega),List.getElem_map,List.getElem_range,show j+1+(i - j - 1)=i by omega]
 rw[e,flushS_hit _ _ _ _ _ (by omega),List.getD_eq_getElem?_getD,List.getElem?_eq_getElem hj]
 ·rfl
 ·intro w hw
  obtain⟨i,hi,rfl⟩:=List.mem_map.1 hw
  have hi:=List.mem_range.1 hi
  have:=mod_ne (R:=R) (a:=p+j) (b:=p+(j+1+i)) (by omega) (by omega)
  show (p+(j+1+i)) % R+10≠(p+j) % R+10
  omega
theorem recW_miss {R p:Nat} {A:List Nat} {S:List Nat} {n:Nat} (h:∀ j,j < A.length→(p+j) % R+10≠n):(disk.flushS S (recW R p A)).getD n 0=S.getD n 0:=flushS_miss _ _ _ fun w hw=>by
 obtain⟨i,hi,rfl⟩:=List.mem_map.1 hw
 exact h i (List.mem_range.1 hi)
def Fine (c:Cl):Prop:=mayC c=true∧c.x < 256 ^ 64
structure Held (R:Nat) (S:List Nat) (N:List Nt) (C:List (List Cl)):Prop where
 len:C.length=N.length
 recs:∀ i (h:i < N.length) (h':i < C.length),C[i].length=N[i].cells∧N[i].sum=sumB (recL C[i])∧(∀ c ∈ C[i],Fine c)∧∀ j (hj:j < (recL C[i]).length),S.getD ((N[i].pos+j) % R+10) 0=(recL C[i])[j]
theorem Held.drop {R:Nat} {S:List Nat} {N:List Nt} {C:List (List Cl)} (h:Held R S N C) (g:Nat):Held R S (N.drop g) (C.drop g):=by
 refine⟨by rw[List.length_drop,List.length_drop,h.len],fun i h1 h2=>?_⟩
 rw[List.length_drop] at h1 h2
 rw[List.getElem_drop,List.getElem_drop]
 exact h.recs (g+i) (by omega) (by omega)
theorem Held.same {R:Nat} {S S':List Nat} {N:List Nt} {C:List (List Cl)} (h:Held R S N C) (hS:∀ n,10≤n→S'.getD n 0=S.getD n 0):Held R S' N C:=
 ⟨h.len,fun i h1 h2=>by
  obtain⟨e1,e2,e3,e4⟩:=h.recs i h1 h2
  exact⟨e1,e2,e3,fun j hj=>by rw[hS _ (by omega)];exact e4 j hj⟩⟩
theorem Held.app {R:Nat} {S:List Nat} {N:List Nt} {C:List (List Cl)} (h:Held R S N C) {f t hd:Nat} (hc:Chain f t N hd) {l:List Cl} (hf:∀ c ∈ l,Fine c) (hfit:hd - t+recS l.length≤R) (hS:R+10≤S.length) {n:Nt} (e1:n.pos=hd) (e2:n.cells=l.length) (e3:n.sum=sumB (recL l)) :
  Held R (disk.flushS S (recW R hd (recL l))) (N++[n]) (C++[l]):=by
 have hl:=h.len
 have hrl:=recL_len l
 have hle:=hc.le
 refine⟨by simp[hl],fun i h1 h2=>?_⟩
 rw[List.length_append,List.length_singleton] at h1 h2
 by_cases hi:i < N.length
 ·rw[List.getElem_append_left hi,List.getElem_append_left (by omega)]
  obtain⟨a1,a2,a3,a4⟩:=h.recs i hi (by omega)
  refine⟨a1,a2,a3,fun j hj=>?_⟩
  rw[recW_miss,a4 j hj]
  intro k hk
  obtain⟨_,b2,b3,_⟩:=hc.get i hi
  rw[recL_len,a1] at hj
  have hj:j < recS N[i].cells:=hj
  have:=mod_ne (R:=R) (a:=N[i].pos+j) (b:=hd+k) (by omega) (by omega)
  omega
 ·have:i=N.length:=by omega
  subst this
  have g1:(N++[n])[N.length]'(by simp)=n:=by simp
  have g2:(C++[l])[N.length]'(by simp[hl])=l:=by simp[← hl]
  rw[g1,g2]
  refine⟨e2.symm,e3,hf,fun j hj=>?_⟩
  rw[e1]
  exact recW_hit (by omega) hS hj
end Go.Proofs.YtabebpemfinejaaDoor.draft
namespace Go.Proofs.YtabebpemfinejaaDoor.draft
open Go.Am
open disk (bx Fit A1 R1 Low Bn)
noncomputable def c28:CFn:=⟨[.tmp (pp 8)],
 .seq (.reg [
 qo 8 (.p (S.get (ii 0))) []]) (
 .seq (.regD [
 mv 12 1,
 mv 13 0,
 qo 14 (.p (nilcF (tt 13))) [pp 13],
 qo 15 (.p (faddrF (tt 14) 2)) [pp 14],
 qo 16 (.r (loadF (tt 15) 1 .sc)) [pp 15],
 mv 17 0,
 qo 18 (.p (nilcF (tt 17))) [pp 17],
 qo 19 (.p (faddrF (tt 18) 3)) [pp 18],
 qo 20 (.r (loadF (tt 19) 1 .sc)) [pp 19],
 mv 21 2,
 mv 22 3,
 qo 23 (.p (buildF [.int .u64 0,.int .i64 0,.int .u64 0,.int .u64 0] .ag [(0,1,(tt 16)),(1,1,(tt 20)),(2,1,(tt 21)),(3,1,(tt 22))])) [pp 16,pp 20,pp 21,pp 22],
 qo 24 (.c (callF (ff 54) [(tt 12),(tt 23)])) [pp 12,pp 23],
 mv 11 24,
 qo 25 (.p (extF (tt 11) 0)) [pp 11],
 qo 26 (.p (extF (tt 11) 1)) [pp 11],
 qo 9 (.m (allocF 64 [.blk 0])) [],
 qn (.a (storeF (tt 9) (tt 25) 64)) [pp 9,pp 25],
 mv 10 26] [0,0,2,6,14,0,32,96,224,0,0,2046,4095,8191,16383,16383,0,98303,262143]) (
 .seq (.regD [
 mv 27 0,
 mv 28 1,
 qo 29 (.c (callF (ff 55) [(tt 28)])) [pp 28],
 qo 30 (.r (loadF (tt 9) 64 .bk)) [pp 9],
 qo 31 (.c (callF (ff 32) [(tt 27),(tt 29),(tt 30)])) [pp 27,pp 29,pp 30],
 mv 32 0,
 qo 33 (.p (mkfnF (.func 35) [(tt 32)] [])) [pp 32],
 qo 34 (.m (bsliceF 2 1 [.nilFunc] [(0,1,(tt 31)),(1,1,(tt 33))])) [pp 31,pp 33],
 qo 35 (.c (callF (ff 37) [(tt 34)])) [pp 34],
 mv 8 35] [0,0,2,0,15,0,32,127,255,511]) (
 .ret)))⟩
theorem c28_eq:fnOf Tryd.prog 28=some c28:=by kernel_rfl
theorem rep2 {α:Type} (z:α):List.replicate 2 z=[z,z]:=rfl
theorem rep3 {α:Type} (z:α):List.replicate 3 z=[z,z,z]:=rfl
theorem upd_at1 {α:Type} (v a b:α) (l:List α):upd v (a::b::l) 1=a::v::l:=rfl
theorem upd_at2 {α:Type} (v a b c:α) (l:List α):upd v (a::b::c::l) 2=a::b::v::l:=rfl
section
variable {lf K:Nat} (hlf:1000 < lf)
include hlf
theorem ulmark {G:Heap} (hgl:G.get (.run 0)=some (.rows true 4 (intsR [8,2,8,8]))) (h00:0 < G.next) {l b:Bk} {id R cnt first tail head:Nat} {v:V} (hg:G.get l=some (.rows false 9 [lcells b id R cnt first tail head v])) (ho:G.Old l) (bo:G.Old b) (lb:l≠b) {B:Bn} (hb:G.get b=some (bx false B)) (hR:Rm 2 B)
  {cn f p:Nat} (hc:1≤cn∧cn≤4611686018427387904) (hm:MkOk id R f p) (n:Nat) :
  ret (U lf K (n+6) 28 [.ptr (some ⟨l,0⟩),.int .u64 (cn:Int),.int .u64 (f:Int),.int .u64 (p:Int)] G) fun v G'=>v=.int .i64 (doneC B [Stp.wr (cn % 2) (markB cn id R f p),Stp.fl])∧G'.get b=some (bx false (doneB B [Stp.wr (cn % 2) (markB cn id R f p),Stp.fl]))∧Turns (fun c=>c=b) G G':=by
 have k2:cut (lcells b id R cnt first tail head v) 2 1=some [.int .u64 (id:Int)]:=rfl
 have k3:cut (lcells b id R cnt first tail head v) 3 1=some [.int .i64 (R:Int)]:=rfl
 obtain⟨v1,G1,e1,rfl,t1⟩:=umark hlf hgl h00 hc hm (K:=K) n
 unfold mkV at e1
 obtain⟨X,hX⟩:∃ X,X=markB cn id R f p:=⟨_,rfl⟩
 rw[← hX] at e1 ⊢
 obtain⟨m,hm2⟩:∃ m,m=cn % 2:=⟨_,rfl⟩
 have eS:=fun H=>umslot hlf (K:=K) H (q:=cn) (n+4)
 rw[← hm2] at eS ⊢
 have t2:Turns Z G ((G1.add (.rows false 64 [[.blk 0]])).set (.run G1.next) (.rows false 64 [[.blk X]])):=by
  refine Turns.setn ?_ _ (by have:=t1.next;omega) _
  exact t1.addm _
 obtain⟨G2,hG2⟩:∃ G2,(G1.add (.rows false 64 [[.blk 0]])).set (.run G1.next) (.rows false 64 [[.blk X]])=G2:=⟨_,rfl⟩
 have hx2:G2.get (.run G1.next)=some (.rows false 64 [[.blk X]]):=by rw[← hG2,Heap.get_set,if_pos rfl]
 have n2:G2.next=G1.next+1:=by rw[← hG2];rfl
 rw[hG2] at t2
 obtain⟨v3,G3,e3,hs,t3⟩:=ulput hlf (K:=K) G2 l m X (n+4)
 have t23:=t2.trans t3
 have hs0:=hs
 obtain⟨a1,a2,a3,rfl,g1,g2,g3,l1,l2,l3,h1,h2,h3⟩:=hs0
 have hw0:((G3.add (.rows false 1 [[.func (.func 60) [] [.ptr (some ⟨.run a1,0⟩),.ptr (some ⟨.run a2,0⟩),.ptr (some ⟨.run a3,0⟩)]],[.func (.func 35) [.ptr (some ⟨l,0⟩)] []]])) ).get (.run G3.next)=some (.rows false 1 ([V.func (.func 60) [] [.ptr (some ⟨.run a1,0⟩),.ptr (some ⟨.run a2,0⟩),.ptr (some ⟨.run a3,0⟩)],.func (.func 35) [.ptr (some ⟨l,0⟩)] []].map fun v=>[v])):=by rw[Heap.get_add,if_pos rfl];rfl
 have t4:=Turns.add Z G3 (.rows false 1 [[.func (.func 60) [] [.ptr (some ⟨.run a1,0⟩),.ptr (some ⟨.run a2,0⟩),.ptr (some ⟨.run a3,0⟩)]],[.func (.func 35) [.ptr (some ⟨l,0⟩)] []]])
 obtain⟨G4,hG4⟩:∃ G4,G3.add (.rows false 1 [[.func (.func 60) [] [.ptr (some ⟨.run a1,0⟩),.ptr (some ⟨.run a2,0⟩),.ptr (some ⟨.run a3,0⟩)]],[.func (.func 35) [.ptr (some ⟨l,0⟩)] []]])=G4:=⟨_,rfl⟩
 have n4:G4.next=G3.next+1:=by rw[← hG4];rfl
 rw[hG4] at hw0 t4
 have hs4:=hs.turns t4 (fun _ _ _ h=>h)
 have t24:=t23.trans t4
 obtain⟨v5,G5,e5,rfl,hb5,t5⟩:=ulrun hlf (K:=K) (G:=G4) ((t24.same l ho (fun h=>h)).trans hg) (G0:=G) (b:=b) (w:=G3.next) (z:=0) (c:=2) (Vs:=[V.func (.func 60) [] [.ptr (some ⟨.run a1,0⟩),.ptr (some ⟨.run a2,0⟩),.ptr (some ⟨.run a3,0⟩)],.func (.func 35) [.ptr (some ⟨l,0⟩)] []]) (Ss:=[Stp.wr m X,Stp.fl]) rfl (show 2≤900 by decide) (fun i h1 h2=>by
   match i,h1 with
   | 0,_=>
    obtain⟨b1,b2,b3,e,j1,j2,j3,r⟩:=hs4
    have tn:=t2.next
    exact⟨b1,b2,b3,e,by omega,by omega,by omega,r⟩
   | 1,_=>rfl) hw0 ⟨by have:=t23.next;omega,by omega⟩ (ho.mono t24.next) lb bo (B:=B) ((t24.same b bo (fun h=>h)).trans hb) hR (n+2)
 refine ret_callU rfl rfl c28_eq ?_
 simp (maxDischargeDepth:=12) only[c28,hg,k2,k3,e1,hv,ldO_one,stO_one,sy,tup,↓reduceIte,zA,zG,zC,zD,zF,zE,zB,zH,reduceCtorEq]
 rw[endD_ok (by kernel_rfl) (by kernel_rfl)]
 change U lf K (n+5) 37 [.slice (some ⟨.run G3.next,0⟩) 2 2 0] G4=_ at e5
 obtain⟨W,hW⟩:∃ W,W=doneC B [Stp.wr m X,Stp.fl]:=⟨_,rfl⟩
 rw[← hW] at e5 ⊢
 simp (maxDischargeDepth:=12) only[hG2,eS,hx2,e3,rep2,upd_at1,hG4,e5,hv,ldO_one,stO_one,sy,tup,↓reduceIte,zA,zG,zC,zD,zF,zE,zB,zH,reduceCtorEq]
 obtain⟨Q,hQ⟩:∃ Q:List (Option V × Option V),Q=[(loadF (.t (Tr.path 9)) 64 .bk (Tr.setP (Tr.path 9) (.ptr (some ⟨.run G1.next,0⟩)) .e) G2,some (.blk X)),(loadF (.t (Tr.path 9)) 64 .bk (Tr.setP (Tr.path 9) (.ptr (some ⟨.run G1.next,0⟩)) .e) G2,some (.blk X))]:=⟨_,rfl⟩
 rw[endD_q (q:=Q) (by kernel_rfl) (by rw[hQ];kernel_rfl)]
 have hQ':∀ x ∈ Q,x.1=x.2:=by
  rw[hQ]
  intro x hx
  simp only[List.mem_cons,List.not_mem_nil,or_false] at hx
  rcases hx with rfl | rfl<;>simp (maxDischargeDepth:=12) only[hx2,hv,ldO_one,stO_one,sy,tup,↓reduceIte,zA,zG,zC,zD,zF,zE,zB,zH,reduceCtorEq]
 simp (maxDischargeDepth:=12) only[hv,ldO_one,stO_one,sy,tup,↓reduceIte,zA,zG,zC,zD,zF,zE,zB,zH,reduceCtorEq]
 exact⟨trivial,.inr trivial,_,rfl,rfl,hb5,((t24.wide (fun c h=>h.elim)).trans t5).owe hQ'⟩
end
end Go.Proofs.YtabebpemfinejaaDoor.draft
