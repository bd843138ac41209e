import Derived.Test.YtllkepkaimnodaaGreatDoorG3
import Derived.Test.YtllkepkaimnodaaGreatDoorG5
import Derived.Test.YtllkepkaimnodaaGreatDoorG2
import Derived.Test.YtllkepkaimnodaaGreatDoorAmOm
import Derived.Test.YtllkepkaimnodaaGreatDoorG4
set_option linter.unusedVariables false
set_option linter.unusedSectionVars false
set_option linter.unusedSimpArgs false
set_option maxRecDepth 10000
open Nat renaming reduceEqDiff → zA, reduceLeDiff → zB, reduceSub → zC, reduceMul → zD, reduceMod → zE, reduceDiv → zF, reduceAdd → zG
open Int renaming reduceBEq → zH
namespace Go.Proofs.YtllkepkaimnodaaGreatDoor.draft
open Go.Am
noncomputable def c179:CFn:=⟨[.cell (pp 4) 2 .ag,.tmp (pp 5)],
 .seq (.reg [
 qo 4 (.m (allocF 2 [.int .i64 0,.int .i64 0])) [],
 qo 5 (.p (S.get (.c (.bool false)))) []]) (
 .seq (.reg [
 mv 10 0,
 mv 11 1,
 qo 12 (.p (arF .quo (tt 11) (ii 16))) [pp 11],
 qo 13 (.p (iaddrSF (tt 10) (tt 12) 64)) [pp 10,pp 12],
 mv 14 1,
 qo 15 (.p (arF .rem (tt 14) (ii 16))) [pp 14],
 qo 16 (.p (arF .mul (tt 15) (ii 4))) [pp 15],
 qo 17 (.p (sliceAF 64 1 (tt 13) (some (tt 16)) none none)) [pp 13,pp 16],
 qo 18 (.p (sliceF 1 (tt 17) none (some (ii 4)) none)) [pp 17],
 mv 6 18]) (
 .seq (.reg [
 mv 20 6,
 qo 21 (.c (callF (ff 117) [(tt 20),(ii 0),(ii 2)])) [pp 20],
 mv 19 21,
 qo 22 (.p (extF (tt 19) 0)) [pp 19],
 qo 23 (.p (extF (tt 19) 1)) [pp 19],
 mv 7 22,
 mv 8 23]) (
 .seq (.reg [
 mv 24 7,
 qo 25 (.p (convF .i64 (tt 24))) [pp 24],
 mv 26 6,
 qo 27 (.p (iaddrSF (tt 26) (ii 2) 1)) [pp 26],
 qo 28 (.r (loadF (tt 27) 1 .sc)) [pp 27],
 qo 29 (.p (convF .i64 (tt 28))) [pp 28],
 qo 30 (.p (buildF [.int .i64 0,.int .i64 0] .ag [(0,1,(tt 25)),(1,1,(tt 29))])) [pp 25,pp 29],
 qo 9 (.m (allocF 2 [.int .i64 0,.int .i64 0])) [],
 qn (.a (storeF (tt 9) (tt 30) 2)) [pp 9,pp 30]]) (
 .seq (.regD [
 qo 31 (.r (loadF (tt 9) 2 .ag)) [pp 9],
 qo 32 (.r (loadF (tt 9) 2 .ag)) [pp 9],
 qo 33 (.c (callF (ff 144) [(tt 32)])) [pp 32],
 mv 34 33,
 mg 35 6 34 true,
 qg 36 (.p (iaddrSF (tt 35) (ii 3) 1)) 34 true [pp 35],
 qg 37 (.r (loadF (tt 36) 1 .sc)) 34 true [pp 36],
 qg 38 (.p (eqcF false false [.int .u8] (tt 37) (.c (.int .u8 0)))) 34 true [pp 37],
 qo 39 (.p (pickF (tt 34) (tt 38) (.c (.bool false)))) [pp 34,pp 38],
 qn (.a (storeF (tt 4) (tt 31) 2)) [pp 4,pp 31],
 mv 5 39] [0,0,2,6,14,30,62,126,254,15,1023]) (
 .ret)))))⟩
theorem c179_eq:fnOf Tryz.prog 179=some c179:=by kernel_rfl
noncomputable def c129_l0:C:=.seq (.seq (.reg [
 mv 55 12,
 mv 56 7,
 qo 57 (.p (arF .mul (tt 56) (ii 16))) [pp 56],
 qo 58 (.p (arF .lss (tt 55) (tt 57))) [pp 55,pp 57]]) (
 .cond (tt 58) (.skip) (.exit 3))) (
 .seq (.block 4 (.seq (.reg [
 mv 61 0,
 mv 62 12,
 qo 63 (.p (arF .quo (tt 62) (ii 16))) [pp 62],
 qo 64 (.p (iaddrSF (tt 61) (tt 63) 64)) [pp 61,pp 63],
 mv 65 12,
 qo 66 (.p (arF .rem (tt 65) (ii 16))) [pp 65],
 qo 67 (.p (arF .mul (tt 66) (ii 4))) [pp 66],
 qo 68 (.p (sliceAF 64 1 (tt 64) (some (tt 67)) none none)) [pp 64,pp 67],
 qo 69 (.p (sliceF 1 (tt 68) none (some (ii 4)) none)) [pp 68],
 qo 70 (.p (s2apF 4 (tt 69))) [pp 69],
 qo 71 (.r (loadF (tt 70) 4 .ag)) [pp 70],
 qo 72 (.p (buildF [.int .u8 0,.int .u8 0,.int .u8 0,.int .u8 0] .ag [])) [],
 qo 73 (.p (eqcF true true [.int .u8,.int .u8,.int .u8,.int .u8] (tt 71) (tt 72))) [pp 71,pp 72]]) (
 .cond (tt 73) (.seq (.reg [
 qo 4 (.p (S.get (.c (.slice none 0 0 0)))) [],
 qo 5 (.p (S.get (ii 5))) []]) (
 .ret)) (.skip)))) (
 .reg [
 mv 59 12,
 qo 60 (.p (arF .add (tt 59) (ii 1))) [pp 59],
 mv 12 60]))
noncomputable def c129_l1:C:=.seq (.reg [
 qo 32 (.p (arF .lss (tt 31) (tt 30))) [pp 31,pp 30]]) (
 .seq (.cond (tt 32) (.skip) (.exit 1)) (
 .seq (.block 2 (.seq (.reg [
 mv 33 31,
 mv 9 33]) (
 .seq (.reg [
 mv 35 0,
 mv 36 9,
 qo 37 (.c (callF (ff 179) [(tt 35),(tt 36)])) [pp 35,pp 36],
 mv 34 37,
 qo 38 (.p (extF (tt 34) 0)) [pp 34],
 qo 39 (.p (extF (tt 34) 1)) [pp 34],
 qo 10 (.m (allocF 2 [.int .i64 0,.int .i64 0])) [],
 qn (.a (storeF (tt 10) (tt 38) 2)) [pp 10,pp 38],
 mv 11 39]) (
 .seq (.seq (.reg [
 mv 40 11,
 qo 41 (.p (unF .not (tt 40))) [pp 40]]) (
 .cond (tt 41) (.seq (.reg [
 qo 4 (.p (S.get (.c (.slice none 0 0 0)))) [],
 qo 5 (.p (S.get (ii 5))) []]) (
 .ret)) (.skip))) (
 .regD [
 mv 42 8,
 qo 43 (.r (loadF (tt 10) 2 .ag)) [pp 10],
 mv 44 0,
 mv 45 7,
 mv 46 9,
 qo 47 (.p (arF .add (tt 45) (tt 46))) [pp 45,pp 46],
 qo 48 (.p (iaddrSF (tt 44) (tt 47) 64)) [pp 44,pp 47],
 qo 49 (.r (loadF (tt 48) 64 .bk)) [pp 48],
 qo 50 (.p (buildF [.int .i64 0,.int .i64 0,.blk 0] .ag [(0,2,(tt 43)),(2,64,(tt 49))])) [pp 43,pp 49],
 qo 51 (.m (bsliceF 1 66 [.int .i64 0,.int .i64 0,.blk 0] [(0,66,(tt 50))])) [pp 50],
 qo 52 (.a (appF 66 80 (tt 42) (tt 51))) [pp 42,pp 51],
 mv 8 52] [0,0,0,0,0,24,60,124,254,510,1023,2047]))))) (
 .reg [
 qo 53 (.p (arF .add (tt 31) (ii 1))) [pp 31],
 mv 31 53])))
noncomputable def c129:CFn:=⟨[.tmp (pp 4),.tmp (pp 5)],
 .seq (.reg [
 qo 4 (.p (S.get (.c (.slice none 0 0 0)))) [],
 qo 5 (.p (S.get (ii 0))) []]) (
 .seq (.seq (.reg [
 mv 13 1,
 qo 14 (.c (callF (ff 45) [(tt 13)])) [pp 13],
 mv 6 14]) (
 .block 0 (.seq (.reg [
 mv 16 6,
 qo 17 (.p (eqcF false false [.int .i64] (tt 16) (ii 0))) [pp 16],
 mv 15 17]) (
 .cond (tt 15) (.seq (.reg [
 qo 4 (.p (S.get (.c (.slice none 0 0 0)))) [],
 qo 5 (.p (S.get (ii 2))) []]) (
 .ret)) (.seq (.reg [
 mv 19 0,
 qo 20 (.p (lenF (tt 19))) [pp 19],
 mv 21 6,
 qo 22 (.p (arF .lss (tt 20) (tt 21))) [pp 20,pp 21],
 mv 18 22]) (
 .cond (tt 18) (.seq (.reg [
 qo 4 (.p (S.get (.c (.slice none 0 0 0)))) [],
 qo 5 (.p (S.get (ii 4))) []]) (
 .ret)) (.seq (.reg [
 mv 24 0,
 qo 25 (.p (lenF (tt 24))) [pp 24],
 mv 26 6,
 qo 27 (.p (arF .gtr (tt 25) (tt 26))) [pp 25,pp 26],
 mv 23 27]) (
 .cond (tt 23) (.seq (.reg [
 qo 4 (.p (S.get (.c (.slice none 0 0 0)))) [],
 qo 5 (.p (S.get (ii 5))) []]) (
 .ret)) (.skip))))))))) (
 .seq (.reg [
 mv 28 1,
 qo 29 (.c (callF (ff 119) [(tt 28)])) [pp 28],
 mv 7 29]) (
 .seq (.reg [
 qo 8 (.p (S.get (.c (.slice none 0 0 0)))) []]) (
 .seq (.seq (.reg [
 mv 30 1,
 qo 31 (.p (S.get (ii 0))) []]) (
 .block 1 (.loop c129_l1))) (
 .seq (.seq (.reg [
 mv 54 1,
 mv 12 54]) (
 .block 3 (.loop c129_l0))) (
 .seq (.reg [
 mv 74 8,
 mv 4 74,
 qo 5 (.p (S.get (ii 0))) []]) (
 .ret)))))))⟩
theorem c129_eq:fnOf Tryz.prog 129=some c129:=by kernel_rfl
theorem ldK_byte {ro:Bool} {A:List Nat} {q j:Nat} (hq:q < A.length) (hj:j < 64):ldO (some (.rows ro 64 (rowsK A))) (q*64+j) 1=some [.int .u8 (byte (A.getD q 0) j:Int)]:=by
 have h0:Nat.div (q*64+j) 64=q:=by show (q*64+j) / 64=q;omega
 have h1:nth (rowsK A) q=some [.blk (A.getD q 0)]:=nth_of (by rw[rowsK_get hq,getD_get hq])
 have h2:Nat.mod (q*64+j) 64=j:=by show (q*64+j) % 64=j;omega
 unfold ldO
 simp only[h0,h1,h2]
 exact disk.cut_byte _ j hj
theorem cut_four (B o:Nat) (ho:o+4≤64):cut [.blk B] o 4=some [.int .u8 (byte B o:Int),.int .u8 (byte B (o+1):Int),.int .u8 (byte B (o+2):Int),.int .u8 (byte B (o+3):Int)]:=by
 have h1:Nat.ble 64 o=false:=by
  cases he:Nat.ble 64 o with
  | false=>rfl
  | true=>exact absurd (ble_iff.1 he) (by omega)
 have h2:(o.beq 0&&Nat.ble 64 4)=false:=by rw[show Nat.ble 64 4=false from rfl,Bool.and_false]
 have h3:min 4 (64 - o)=4:=by omega
 unfold cut
 simp only[show Nat.beq 4 0=false from rfl,V.asBlk,h1,h2,h3]
 rfl
theorem ldK_four {ro:Bool} {A:List Nat} {q o:Nat} (hq:q < A.length) (ho:o+4≤64):ldO (some (.rows ro 64 (rowsK A))) (q*64+o) 4=some [.int .u8 (byte (A.getD q 0) o:Int),.int .u8 (byte (A.getD q 0) (o+1):Int),.int .u8 (byte (A.getD q 0) (o+2):Int),.int .u8 (byte (A.getD q 0) (o+3):Int)]:=by
 have h0:Nat.div (q*64+o) 64=q:=by show (q*64+o) / 64=q;omega
 have h1:nth (rowsK A) q=some [.blk (A.getD q 0)]:=nth_of (by rw[rowsK_get hq,getD_get hq])
 have h2:Nat.mod (q*64+o) 64=o:=by show (q*64+o) % 64=o;omega
 unfold ldO
 simp only[h0,h1,h2]
 exact cut_four _ o ho
def plB (A:List Nat) (i:Nat):Nat→Nat:=fun j=>byte (A.getD (i / 16) 0) (i % 16*4+j)
noncomputable def plS (A:List Nat) (i:Nat):Nat:=leN (plB A i) 2
noncomputable def plOk (A:List Nat) (i:Nat):Bool:=mayP (plS A i:Int) (plB A i 2:Int)&&decide (plB A i 3=0)
def plZ (A:List Nat) (i:Nat):Bool:=decide (plB A i 0=0)&&decide (plB A i 1=0)&&decide (plB A i 2=0)&&decide (plB A i 3=0)
noncomputable def cellA (A:List Nat) (k i:Nat):Cl:=⟨(plS A i:Int),(plB A i 2:Int),A.getD (k+i) 0⟩
noncomputable def getOk (A:List Nat) (n:Nat):Bool:=(List.range n).all (plOk A)&&(List.range (headsN n*16 - n)).all fun j=>plZ A (n+j)
noncomputable def getL (A:List Nat) (n:Nat):List Cl:=(List.range n).map (cellA A (headsN n))
section
variable {lf K:Nat} (hlf:1000 < lf)
include hlf
theorem plS_lt (A:List Nat) (i:Nat):plS A i < 65536:=by
 have e:plS A i=sumD (plB A i) 2:=leN_sumD (fun i _=>byte_lt _ _)
 rw[e]
 have:=sumD_lt (c:=plB A i) (n:=2) (fun i _=>byte_lt _ _)
 exact Nat.lt_of_lt_of_le this (by decide)
theorem ucread {G:Heap} {w c z L:Nat} {A:List Nat} (hw:G.get (.run w)=some (.rows false 64 (rowsK A))) (wo:w < G.next) (hL:A.length=L) {i:Nat} (hi:i / 16 < L) (hi2:i < 1000) (n:Nat):ret (U lf K (n+2) 179 [.slice (some ⟨.run w,0⟩) L c z,.int .i64 (i:Int)] G) fun v G'=>v=.tuple [.agg [.int .i64 (plS A i:Int),.int .i64 (plB A i 2:Int)],.bool (plOk A i)]∧Turns Z G G':=by
 subst hL
 obtain⟨q,hqe⟩:∃ q,q=i / 16:=⟨_,rfl⟩
 obtain⟨r,hre⟩:∃ r,r=i % 16:=⟨_,rfl⟩
 have hr16:r < 16:=by rw[hre];exact Nat.mod_lt _ (by decide)
 have aq:arith .quo (.int .i64 (i:Int)) (.int .i64 16)=some (.int .i64 (q:Int)):=by rw[hqe];exact quo_i64 i 16 (by decide) (by omega)
 have ar:arith .rem (.int .i64 (i:Int)) (.int .i64 16)=some (.int .i64 (r:Int)):=by rw[hre];exact rem_i64 i 16 (by decide)
 obtain⟨off,hoff⟩:∃ off,off=r*4:=⟨_,rfl⟩
 have hpl:∀ j,plB A i j=byte (A.getD q 0) (off+j):=fun j=>by unfold plB;rw[hoff,hre,hqe]
 have hS:plS A i=leN (fun j=>byte (A.getD q 0) (off+j)) 2:=leN_congr (fun j _=>hpl j)
 have hSl:=plS_lt hlf A i
 unfold plOk
 rw[hpl 2,hpl 3]
 obtain⟨S,hSe⟩:∃ S,S=plS A i:=⟨_,rfl⟩
 rw[← hSe] at hS hSl ⊢
 rw[← hqe] at hi
 have wm:IntKind.i64.wrap ((r:Int)*4)=(off:Int):=by rw[Go.Am.wrap_i64 (by omega)];omega
 have offle:off≤60:=by omega
 have b1:bounds 64 64 (some (.int .i64 (off:Int))) none none=some (off,64,64):=by
  simp only[bounds,boundD,bound,C3,nble]
  simp[show off≤64 by omega]
 have b2:bounds (64 - off) (64 - off) none (some (.int .i64 4)) none=some (0,4,64 - off):=by
  simp only[bounds,boundD,bound,nble]
  rw[show asNat (.int .i64 4)=some 4 from rfl]
  simp[show 4≤64 - off by omega]
 have f1:¬ (64=off):=by omega
 have f2:¬ (64 - off=0):=by omega
 have hq1:q+1≤A.length:=hi
 have as2:asNat (.int .i64 2)=some 2:=rfl
 have as3:asNat (.int .i64 3)=some 3:=rfl
 obtain⟨B,hB⟩:∃ B,B=A.getD q 0:=⟨_,rfl⟩
 have ld:∀ {H:Heap},Turns Z G H→∀ j,off+j < 64→ldO (H.get (.run w)) (q*64+off+j) 1=some [.int .u8 (byte B (off+j):Int)]:=fun tH j hj=>by
  rw[(tH.same (.run w) wo (fun h=>h)).trans hw,Nat.add_assoc,hB]
  exact ldK_byte hi hj
 rw[← hB] at hS ⊢
 have t1:=Turns.add Z G (.rows false 2 [[.int .i64 0,.int .i64 0]])
 have hg1:(G.add (.rows false 2 [[.int .i64 0,.int .i64 0]])).get (.run G.next)=some (.rows false 2 [[.int .i64 0,.int .i64 0]]):=by rw[Heap.get_add,if_pos rfl]
 obtain⟨H1,hH1⟩:∃ H1,G.add (.rows false 2 [[.int .i64 0,.int .i64 0]])=H1:=⟨_,rfl⟩
 have n1:H1.next=G.next+1:=by rw[← hH1];rfl
 rw[hH1] at t1 hg1
 have eg:=u_nget_ok (K:=K) (H:=H1) (p:=⟨.run w,q*64+off⟩) (len:=4) (cap:=64 - off) (loose:=0) (a:=0) (sz:=2) (c:=fun j=>byte B (off+j)) (by omega) (by omega) (by omega) (by omega) (.inl rfl) (fun _ _=>byte_lt _ _) (fun j hj=>by
  rw[ld_get,Nat.add_zero]
  exact ld t1 j (by omega)) lf (n:=n) (by omega)
 rw[← hS] at eg
 change U lf K (n+1) 117 [.slice (some ⟨.run w,q*64+off⟩) 4 (64 - off) 0,.int .i64 0,.int .i64 2] H1=_ at eg
 have ws:IntKind.i64.wrap (S:Int)=(S:Int):=Go.Am.wrap_i64 (by omega)
 have ld2:=ld t1 2 (by omega)
 have hm2:=byte_lt B (off+2)
 have hm3:=byte_lt B (off+3)
 obtain⟨M,hM⟩:∃ M,M=byte B (off+2):=⟨_,rfl⟩
 rw[← hM] at ld2 hm2 ⊢
 have w2:IntKind.i64.wrap (M:Int)=(M:Int):=Go.Am.wrap_i64 (by omega)
 have wid2:width [V.int .i64 (S:Int),.int .i64 (M:Int)]=2:=rfl
 have put2:put [V.int .i64 0,.int .i64 0] 0 [.int .i64 (S:Int),.int .i64 (M:Int)]=some [.int .i64 (S:Int),.int .i64 (M:Int)]:=rfl
 have cut2:cut [V.int .i64 (S:Int),.int .i64 (M:Int)] 0 2=some [.int .i64 (S:Int),.int .i64 (M:Int)]:=rfl
 have t2:Turns Z H1 ((H1.add (.rows false 2 [[.int .i64 0,.int .i64 0]])).set (.run H1.next) (.rows false 2 [[.int .i64 (S:Int),.int .i64 (M:Int)]])):=by repeat (first | exact Turns.refl _ _ | apply Turns.skip | apply Turns.addm | apply Turns.setb | apply Turns.setl | apply Turns.setr | refine Turns.setn ?_ _ (by omega) _ | refine Turns.trans ?_ (tF _))
 have hg2:((H1.add (.rows false 2 [[.int .i64 0,.int .i64 0]])).set (.run H1.next) (.rows false 2 [[.int .i64 (S:Int),.int .i64 (M:Int)]])).get (.run H1.next)=some (.rows false 2 [[.int .i64 (S:Int),.int .i64 (M:Int)]]):=by rw[Heap.get_set,if_pos rfl]
 obtain⟨H2,hH2⟩:∃ H2,(H1.add (.rows false 2 [[.int .i64 0,.int .i64 0]])).set (.run H1.next) (.rows false 2 [[.int .i64 (S:Int),.int .i64 (M:Int)]])=H2:=⟨_,rfl⟩
 have n2:H2.next=H1.next+1:=by rw[← hH2];rfl
 rw[hH2] at t2 hg2
 have hr2:=(t2.same (.run G.next) (by show _ < _;omega) (fun h=>h)).trans hg1
 obtain⟨v3,H3,e3,rfl,t3⟩:=ucmay hlf (K:=K) H2 (S:Int) (M:Int) n
 have hg3:=(t3.same (.run H1.next) (by show _ < _;omega) (fun h=>h)).trans hg2
 have hr3:=(t3.same (.run G.next) (by show _ < _;omega) (fun h=>h)).trans hr2
 have t13:=(t1.trans t2).trans t3
 have ld3:=ld t13 3 (by omega)
 obtain⟨N3,hN3⟩:∃ N3,N3=byte B (off+3):=⟨_,rfl⟩
 rw[← hN3] at ld3 hm3 ⊢
 obtain⟨b,hb⟩:∃ b,b=mayP (S:Int) (M:Int):=⟨_,rfl⟩
 rw[← hb] at e3 ⊢
 have e0:((N3:Int)==0)=decide (N3=0):=by
  by_cases h:N3=0
  ·subst h;rfl
  ·rw[decide_eq_false h,beq_eq_false_iff_ne];omega
 obtain⟨Q,hQ⟩:∃ Q:List (Option V × Option V),Q=[(loadF (.t (Tr.path 9)) 2 .ag (Tr.setP (Tr.path 9) (.ptr (some ⟨.run H1.next,0⟩)) .e) H2,some (.agg [.int .i64 (S:Int),.int .i64 (M:Int)])),(loadF (.t (Tr.path 9)) 2 .ag (Tr.setP (Tr.path 9) (.ptr (some ⟨.run H1.next,0⟩)) .e) H3,some (.agg [.int .i64 (S:Int),.int .i64 (M:Int)]))]:=⟨_,rfl⟩
 have hQ':∀ x ∈ Q,x.1=x.2:=by
  rw[hQ]
  intro x hx
  simp only[List.mem_cons,List.not_mem_nil,or_false] at hx
  rcases hx with rfl | rfl<;>simp (maxDischargeDepth:=12) only[hg2,hg3,cut2,hv,ldO_one,stO_one,sy,tup,↓reduceIte,zA,zG,zC,zD,zF,zE,zB,zH,reduceCtorEq]
 obtain⟨H4,hH4⟩:∃ H4,H3.set (.run G.next) (.rows false 2 [[.int .i64 (S:Int),.int .i64 (M:Int)]])=H4:=⟨_,rfl⟩
 have hr4:H4.get (.run G.next)=some (.rows false 2 [[.int .i64 (S:Int),.int .i64 (M:Int)]]):=by rw[← hH4,Heap.get_set,if_pos rfl]
 have t14:Turns Z G H4:=by rw[← hH4];exact t13.setn _ (Nat.le_refl _) _
 have ld4:=ld t14 3 (by omega)
 rw[← hN3] at ld4
 obtain⟨Q2,hQ2⟩:∃ Q2:List (Option V × Option V),Q2=Q++[(loadF (.t (Tr.path 36)) 1 .sc (Tr.setP (Tr.path 36) (.ptr (some ⟨.run w,q*64+off+3⟩)) .e) H3,some (.int .u8 (N3:Int))),(loadF (.t (Tr.path 36)) 1 .sc (Tr.setP (Tr.path 36) (.ptr (some ⟨.run w,q*64+off+3⟩)) .e) H4,some (.int .u8 (N3:Int)))]:=⟨_,rfl⟩
 have hQ2':∀ x ∈ Q2,x.1=x.2:=by
  rw[hQ2]
  intro x hx
  rcases List.mem_append.1 hx with hx | hx
  ·exact hQ' x hx
  ·simp only[List.mem_cons,List.not_mem_nil,or_false] at hx
   rcases hx with rfl | rfl<;>simp (maxDischargeDepth:=12) only[ld3,ld4,hv,ldO_one,stO_one,sy,tup,↓reduceIte,zA,zG,zC,zD,zF,zE,zB,zH,reduceCtorEq]
 refine ret_callU rfl rfl c179_eq ?_
 cases b with
 | true=>
  simp (maxDischargeDepth:=12) only[c179,hH1,aq,hq1,ar,arith_mul,wm,b1,f1,b2,f2,eg,ws,as2,as3,ld2,w2,wid2,put2,hH2,hg2,cut2,e3,ld3,e0,hr3,hH4,Nat.mul_one,Nat.sub_zero,hv,ldO_one,stO_one,sy,tup,↓reduceIte,zA,zG,zC,zD,zF,zE,zB,zH,reduceCtorEq]
  rw[endD_q (q:=Q2) (by kernel_rfl) (by rw[hQ2,hQ];kernel_rfl)]
  simp (maxDischargeDepth:=12) only[hr4,cut2,hv,ldO_one,stO_one,sy,tup,↓reduceIte,zA,zG,zC,zD,zF,zE,zB,zH,reduceCtorEq]
  exact⟨trivial,.inr trivial,_,rfl,rfl,t14.owe hQ2'⟩
 | false=>
  simp (maxDischargeDepth:=12) only[c179,hH1,aq,hq1,ar,arith_mul,wm,b1,f1,b2,f2,eg,ws,as2,as3,ld2,w2,wid2,put2,hH2,hg2,cut2,e3,ld3,e0,hr3,hH4,Nat.mul_one,Nat.sub_zero,hv,ldO_one,stO_one,sy,tup,↓reduceIte,zA,zG,zC,zD,zF,zE,zB,zH,reduceCtorEq]
  rw[endD_q (q:=Q) (by kernel_rfl) (by rw[hQ];kernel_rfl)]
  simp (maxDischargeDepth:=12) only[hr4,cut2,hv,ldO_one,stO_one,sy,tup,↓reduceIte,zA,zG,zC,zD,zF,zE,zB,zH,reduceCtorEq]
  exact⟨trivial,.inr trivial,_,rfl,rfl,t14.owe hQ'⟩
end
end Go.Proofs.YtllkepkaimnodaaGreatDoor.draft
namespace Go.Proofs.YtllkepkaimnodaaGreatDoor.draft
open Go.Am
def rowsC (l:List Cl):List (List V):=l.map rowC
theorem rowsC_len (l:List Cl):(rowsC l).length=l.length:=by unfold rowsC;rw[List.length_map]
section
variable {lf K:Nat} (hlf:1000 < lf)
include hlf
theorem ucget_cells {G:Heap} {w c z n:Nat} {A:List Nat} (hw:G.get (.run w)=some (.rows false 64 (rowsK A))) (wo:w < G.next) (h1:1≤n∧n≤32) (hA:A.length=recS n) {v1:V} (d:Nat):∀ t:T,t.getP (Tr.path 0)=some (.slice (some ⟨.run w,0⟩) (recS n) c z)→t.getP (Tr.path 1)=some v1→t.getP (Tr.path 7)=some (.int .i64 (headsN n:Int))→t.getP (Tr.path 8)=some (.slice none 0 0 0)→t.getP (Tr.path 30)=some (.int .i64 (n:Int))→t.getP (Tr.path 31)=some (.int .i64 0) →
  wp (loopF (runC (U lf K (d+2)) lf c129_l1) lf ⟨t,G,[]⟩) fun x s=>s.d=[]∧Turns Z G s.H∧((x=.ex 1∧(List.range n).all (plOk A)=true∧s.t.getP (Tr.path 0)=some (.slice (some ⟨.run w,0⟩) (recS n) c z)∧s.t.getP (Tr.path 1)=some v1∧s.t.getP (Tr.path 7)=some (.int .i64 (headsN n:Int))∧∃ y,s.t.getP (Tr.path 8)=some y∧Lst G s.H 66 (rowsC (getL A n)) y)∨(x=.ret∧(List.range n).all (plOk A)=false∧s.t.getP (Tr.path 4)=some (.slice none 0 0 0)∧s.t.getP (Tr.path 5)=some (.int .i64 5))):=by
 intro t q0 q1 q7 q8 q30 q31
 have hAr:A.length=headsN n+n:=hA
 have hh:headsN n=(n+15) / 16:=rfl
 refine wp_loopF (fun u s=>∃(i:Nat) (y:V),u=n - i∧i≤n∧s.d=[]∧s.t.getP (Tr.path 0)=some (.slice (some ⟨.run w,0⟩) (recS n) c z)∧s.t.getP (Tr.path 1)=some v1∧s.t.getP (Tr.path 7)=some (.int .i64 (headsN n:Int))∧s.t.getP (Tr.path 8)=some y∧s.t.getP (Tr.path 30)=some (.int .i64 (n:Int))∧s.t.getP (Tr.path 31)=some (.int .i64 (i:Int))∧Lst G s.H 66 (rowsC ((List.range i).map (cellA A (headsN n)))) y∧(List.range i).all (plOk A)=true∧Turns Z G s.H)
  ?_ lf n _ ⟨0,_,rfl,Nat.zero_le _,rfl,q0,q1,q7,q8,q30,q31,Lst.nil _ _ _,rfl,Turns.refl _ _⟩ (by omega)
 rintro u ⟨t,HH,dd⟩ ⟨i,y,rfl,hi,hd,q0,q1,q7,q8,q30,q31,hy,hok,hT⟩
 dsimp only at hd q0 q1 q7 q8 q30 q31 hy hT
 subst hd
 by_cases hlt:i < n
 rotate_left
 ·have:i=n:=by omega
  subst this
  simp (maxDischargeDepth:=12) only[c129_l1,q0,q30,q31,Int.lt_irrefl,Nat.lt_irrefl,hv,ldO_one,stO_one,sy,tup,↓reduceIte,zA,zG,zC,zD,zF,zE,zB,zH,reduceCtorEq]
  exact⟨trivial,hT,.inl ⟨trivial,hok,by simp[q0],by simp[q1],by simp[q7],y,by simp[q8],hy⟩⟩
 have hlt':(i:Int) < (n:Int):=by omega
 have w1:IntKind.i64.wrap ((i:Int)+1)=((i+1:Nat):Int):=by rw[Go.Am.wrap_i64 (by omega)];omega
 have hwH:=(hT.same (.run w) wo (fun h=>h)).trans hw
 have woH:w < HH.next:=Nat.lt_of_lt_of_le wo hT.next
 obtain⟨v2,H2,e2,rfl,t2⟩:=ucread hlf (K:=K) (c:=c) (z:=z) hwH woH hA (i:=i) (by rw[← hA,hAr];omega) (by omega) d
 have hall:(List.range (i+1)).all (plOk A)=plOk A i:=by rw[List.range_succ,List.all_append,hok,Bool.true_and];simp
 obtain⟨S,hS⟩:∃ S,S=plS A i:=⟨_,rfl⟩
 obtain⟨M,hM⟩:∃ M,M=plB A i 2:=⟨_,rfl⟩
 rw[← hS,← hM] at e2
 have wid2:width [V.int .i64 (S:Int),.int .i64 (M:Int)]=2:=rfl
 have put2:put [V.int .i64 0,.int .i64 0] 0 [.int .i64 (S:Int),.int .i64 (M:Int)]=some [.int .i64 (S:Int),.int .i64 (M:Int)]:=rfl
 have cut2:cut [V.int .i64 (S:Int),.int .i64 (M:Int)] 0 2=some [.int .i64 (S:Int),.int .i64 (M:Int)]:=rfl
 have t3:Turns Z H2 ((H2.add (.rows false 2 [[.int .i64 0,.int .i64 0]])).set (.run H2.next) (.rows false 2 [[.int .i64 (S:Int),.int .i64 (M:Int)]])):=by repeat (first | exact Turns.refl _ _ | apply Turns.skip | apply Turns.addm | apply Turns.setb | apply Turns.setl | apply Turns.setr | refine Turns.setn ?_ _ (by omega) _ | refine Turns.trans ?_ (tF _))
 have hg3:((H2.add (.rows false 2 [[.int .i64 0,.int .i64 0]])).set (.run H2.next) (.rows false 2 [[.int .i64 (S:Int),.int .i64 (M:Int)]])).get (.run H2.next)=some (.rows false 2 [[.int .i64 (S:Int),.int .i64 (M:Int)]]):=by rw[Heap.get_set,if_pos rfl]
 obtain⟨H3,hH3⟩:∃ H3,(H2.add (.rows false 2 [[.int .i64 0,.int .i64 0]])).set (.run H2.next) (.rows false 2 [[.int .i64 (S:Int),.int .i64 (M:Int)]])=H3:=⟨_,rfl⟩
 rw[hH3] at t3 hg3
 by_cases hpo:plOk A i=true
 rotate_left
 ·rw[Bool.not_eq_true] at hpo
  rw[hpo] at e2
  simp (maxDischargeDepth:=12) only[c129_l1,q0,q30,q31,hlt',hlt,e2,wid2,put2,hH3,hv,ldO_one,stO_one,sy,tup,↓reduceIte,zA,zG,zC,zD,zF,zE,zB,zH,reduceCtorEq]
  refine⟨trivial,(hT.trans t2).trans t3,.inr ⟨trivial,?_,trivial,trivial⟩⟩
  rw[List.all_eq_false]
  exact⟨i,List.mem_range.2 hlt,by rw[hpo];decide⟩
 rw[hpo] at e2
 obtain⟨q,hq⟩:∃ q,q=headsN n+i:=⟨_,rfl⟩
 have wq:IntKind.i64.wrap ((headsN n:Int)+(i:Int))=(q:Int):=by rw[Go.Am.wrap_i64 (by omega)];omega
 have hqA:q < A.length:=by omega
 have hq1:q+1≤recS n:=by rw[← hA];exact hqA
 have hw3:=((t2.trans t3).same (.run w) woH (fun h=>h)).trans hwH
 have ld:=ldK (ro:=false) hqA
 rw[← getD_get hqA] at ld
 obtain⟨X,hX⟩:∃ X,X=A.getD q 0:=⟨_,rfl⟩
 rw[← hX] at ld
 have hce:rowC (cellA A (headsN n) i)=[.int .i64 (S:Int),.int .i64 (M:Int),.blk X]:=by
  unfold cellA rowC
  rw[hS,hM,hX,hq]
 have hy3:=(hy.turns t2 (fun _ _ h=>h)).turns t3 (fun _ _ h=>h)
 have t4:=Turns.add Z H3 (.rows false 66 [[.int .i64 (S:Int),.int .i64 (M:Int),.blk X]])
 have hg4:(H3.add (.rows false 66 [[.int .i64 (S:Int),.int .i64 (M:Int),.blk X]])).get (.run H3.next)=some (.rows false 66 [[.int .i64 (S:Int),.int .i64 (M:Int),.blk X]]):=by rw[Heap.get_add,if_pos rfl]
 obtain⟨H4,hH4⟩:∃ H4,H3.add (.rows false 66 [[.int .i64 (S:Int),.int .i64 (M:Int),.blk X]])=H4:=⟨_,rfl⟩
 rw[hH4] at t4 hg4
 have hy4:=hy3.turns t4 (fun _ _ h=>h)
 have tt:=((hT.trans t2).trans t3).trans t4
 have hrl:(rowsC ((List.range i).map (cellA A (headsN n)))).length=i:=by rw[rowsC_len,List.length_map,List.length_range]
 obtain⟨H5,ea,hy5,t5,_⟩:=hy4.app1 (by':=80) tt.next hg4 rfl (by decide) (by rw[hrl];omega) (by rw[hrl];omega)
 rw[hrl] at ea hy5
 have t5':=lst_away hy4 tt (Nat.le_refl _) t5
 have pA:put [V.int .i64 0,.int .i64 0,.blk 0] 0 [.int .i64 (S:Int),.int .i64 (M:Int)]=some [.int .i64 (S:Int),.int .i64 (M:Int),.blk 0]:=rfl
 have pB:put [V.int .i64 (S:Int),.int .i64 (M:Int),.blk 0] 2 [.blk X]=some [.int .i64 (S:Int),.int .i64 (M:Int),.blk X]:=rfl
 have wid66:width [V.int .i64 (S:Int),.int .i64 (M:Int),.blk X]=66:=rfl
 simp (maxDischargeDepth:=12) only[c129_l1,q0,q7,q8,q30,q31,hlt',hlt,e2,wid2,put2,hH3,hg3,cut2,wq,hq1,hw3,ld,pA,pB,wid66,hH4,ea,Nat.mul_one,hv,ldO_one,stO_one,sy,tup,↓reduceIte,zA,zG,zC,zD,zF,zE,zB,zH,reduceCtorEq]
 rw[endD_ok (by kernel_rfl) (by kernel_rfl)]
 simp (maxDischargeDepth:=12) only[w1,q31,hv,ldO_one,stO_one,sy,tup,↓reduceIte,zA,zG,zC,zD,zF,zE,zB,zH,reduceCtorEq]
 refine⟨n - (i+1),by omega,i+1,_,rfl,by omega,trivial,by simp[q0],by simp[q1],by simp[q7],rfl,by simp[q30],by simp,?_,by rw[hall,hpo],t5'⟩
 have er:rowsC ((List.range (i+1)).map (cellA A (headsN n)))=rowsC ((List.range i).map (cellA A (headsN n)))++[[.int .i64 (S:Int),.int .i64 (M:Int),.blk X]]:=by
  rw[List.range_succ,List.map_append]
  unfold rowsC
  rw[List.map_append,← hce];rfl
 rw[er]
 exact hy5
theorem ucget_tail {G:Heap} {w c z n:Nat} {A:List Nat} (hw:G.get (.run w)=some (.rows false 64 (rowsK A))) (wo:w < G.next) (h1:1≤n∧n≤32) (hA:A.length=recS n) {y:V} (d:Nat):∀ t:T,t.getP (Tr.path 0)=some (.slice (some ⟨.run w,0⟩) (recS n) c z)→t.getP (Tr.path 7)=some (.int .i64 (headsN n:Int))→t.getP (Tr.path 8)=some y→t.getP (Tr.path 12)=some (.int .i64 (n:Int)) →
  wp (loopF (runC (U lf K (d+2)) lf c129_l0) lf ⟨t,G,[]⟩) fun x s=>s.d=[]∧s.H=G∧((x=.ex 3∧((List.range (headsN n*16 - n)).all fun j=>plZ A (n+j))=true∧s.t.getP (Tr.path 8)=some y)∨(x=.ret∧((List.range (headsN n*16 - n)).all fun j=>plZ A (n+j))=false∧s.t.getP (Tr.path 4)=some (.slice none 0 0 0)∧s.t.getP (Tr.path 5)=some (.int .i64 5))):=by
 intro t q0 q7 q8 q12
 have hAr:A.length=headsN n+n:=hA
 have hh:headsN n=(n+15) / 16:=rfl
 obtain⟨E,hE⟩:∃ E,E=headsN n*16:=⟨_,rfl⟩
 have hEi:(E:Int)=(headsN n:Int)*16:=by rw[hE];exact Int.natCast_mul _ _
 have wE:IntKind.i64.wrap ((headsN n:Int)*16)=(E:Int):=by rw[Go.Am.wrap_i64 (by omega)];omega
 rw[← hE]
 refine wp_loopF (fun u s=>∃(i:Nat),u=E - i∧n≤i∧i≤E∧s.d=[]∧s.H=G∧s.t.getP (Tr.path 0)=some (.slice (some ⟨.run w,0⟩) (recS n) c z)∧s.t.getP (Tr.path 7)=some (.int .i64 (headsN n:Int))∧s.t.getP (Tr.path 8)=some y∧s.t.getP (Tr.path 12)=some (.int .i64 (i:Int))∧((List.range (i - n)).all fun j=>plZ A (n+j))=true)
  ?_ lf (E - n) _ ⟨n,rfl,Nat.le_refl _,by omega,rfl,rfl,q0,q7,q8,q12,by rw[Nat.sub_self];rfl⟩ (by omega)
 rintro u ⟨t,HH,dd⟩ ⟨i,rfl,hni,hi,hd,hH,q0,q7,q8,q12,hok⟩
 dsimp only at hd hH q0 q7 q8 q12
 subst hd;subst hH
 by_cases hlt:i < E
 rotate_left
 ·have:i=E:=by omega
  subst this
  simp (maxDischargeDepth:=12) only[c129_l0,q7,q12,arith_mul,wE,Int.lt_irrefl,Nat.lt_irrefl,hv,ldO_one,stO_one,sy,tup,↓reduceIte,zA,zG,zC,zD,zF,zE,zB,zH,reduceCtorEq]
  exact⟨trivial,trivial,.inl ⟨trivial,hok,by simp[q8]⟩⟩
 have hlt':(i:Int) < (E:Int):=by omega
 have w1:IntKind.i64.wrap ((i:Int)+1)=((i+1:Nat):Int):=by rw[Go.Am.wrap_i64 (by omega)];omega
 obtain⟨q,hqe⟩:∃ q,q=i / 16:=⟨_,rfl⟩
 obtain⟨r,hre⟩:∃ r,r=i % 16:=⟨_,rfl⟩
 have hr16:r < 16:=by rw[hre];exact Nat.mod_lt _ (by decide)
 have aq:arith .quo (.int .i64 (i:Int)) (.int .i64 16)=some (.int .i64 (q:Int)):=by rw[hqe];exact quo_i64 i 16 (by decide) (by omega)
 have ar:arith .rem (.int .i64 (i:Int)) (.int .i64 16)=some (.int .i64 (r:Int)):=by rw[hre];exact rem_i64 i 16 (by decide)
 obtain⟨off,hoff⟩:∃ off,off=r*4:=⟨_,rfl⟩
 have hpl:∀ j,plB A i j=byte (A.getD q 0) (off+j):=fun j=>by unfold plB;rw[hoff,hre,hqe]
 have wm:IntKind.i64.wrap ((r:Int)*4)=(off:Int):=by rw[Go.Am.wrap_i64 (by omega)];omega
 have offle:off≤60:=by omega
 have b1:bounds 64 64 (some (.int .i64 (off:Int))) none none=some (off,64,64):=by
  simp only[bounds,boundD,bound,C3,nble]
  simp[show off≤64 by omega]
 have b2:bounds (64 - off) (64 - off) none (some (.int .i64 4)) none=some (0,4,64 - off):=by
  simp only[bounds,boundD,bound,nble]
  rw[show asNat (.int .i64 4)=some 4 from rfl]
  simp[show 4≤64 - off by omega]
 have f1:¬ (64=off):=by omega
 have f2:¬ (64 - off=0):=by omega
 have hq1:q+1≤recS n:=by rw[← hA,hAr];omega
 have ld:=ldK_four (ro:=false) (A:=A) (q:=q) (o:=off) (by omega) (by omega)
 rw[← hw] at ld
 have hall:((List.range (i+1 - n)).all fun j=>plZ A (n+j))=plZ A i:=by
  rw[show i+1 - n=(i - n)+1 by omega,List.range_succ,List.all_append,hok,Bool.true_and]
  simp only[List.all_cons,List.all_nil,Bool.and_true]
  rw[show n+(i - n)=i by omega]
 have hz:plZ A i=(decide (byte (A.getD q 0) off=0)&&decide (byte (A.getD q 0) (off+1)=0)&&decide (byte (A.getD q 0) (off+2)=0)&&decide (byte (A.getD q 0) (off+3)=0)):=by
  unfold plZ
  rw[hpl 0,hpl 1,hpl 2,hpl 3,Nat.add_zero]
 rw[hz] at hall
 generalize byte (A.getD q 0) off=y0 at ld hall hz
 generalize byte (A.getD q 0) (off+1)=y1 at ld hall hz
 generalize byte (A.getD q 0) (off+2)=y2 at ld hall hz
 generalize byte (A.getD q 0) (off+3)=y3 at ld hall hz
 have e0:∀ x:Nat,((x:Int)==0)=decide (x=0):=fun x=>by
  by_cases h:x=0
  ·subst h;rfl
  ·rw[decide_eq_false h,beq_eq_false_iff_ne];omega
 have hzb:∃ zb,zb=(decide (y0=0)&&(decide (y1=0)&&(decide (y2=0)&&decide (y3=0)))):=⟨_,rfl⟩
 obtain⟨zb,hzb⟩:=hzb
 rw[Bool.and_assoc,Bool.and_assoc,← hzb] at hall hz
 cases zb with
 | true=>
  simp (maxDischargeDepth:=12) only[c129_l0,q0,q7,q12,arith_mul,wE,hlt',hlt,aq,hq1,ar,wm,b1,f1,b2,f2,ld,e0,← hzb,s2apF,w1,Nat.mul_one,Nat.sub_zero,hv,ldO_one,stO_one,sy,tup,↓reduceIte,zA,zG,zC,zD,zF,zE,zB,zH,reduceCtorEq]
  exact⟨E - (i+1),by omega,i+1,rfl,by omega,by omega,trivial,trivial,by simp[q0],by simp[q7],by simp[q8],by simp,hall⟩
 | false=>
  simp (maxDischargeDepth:=12) only[c129_l0,q0,q7,q12,arith_mul,wE,hlt',hlt,aq,hq1,ar,wm,b1,f1,b2,f2,ld,e0,← hzb,s2apF,w1,Nat.mul_one,Nat.sub_zero,hv,ldO_one,stO_one,sy,tup,↓reduceIte,zA,zG,zC,zD,zF,zE,zB,zH,reduceCtorEq]
  refine⟨trivial,trivial,.inr ⟨trivial,?_,trivial,trivial⟩⟩
  rw[List.all_eq_false]
  exact⟨i - n,List.mem_range.2 (by omega),by rw[show n+(i - n)=i by omega,hz];decide⟩
theorem ucget {G:Heap} {w c z n:Nat} {A:List Nat} (hw:G.get (.run w)=some (.rows false 64 (rowsK A))) (wo:w < G.next) (h1:1≤n∧n≤32) (hA:A.length=recS n) (d:Nat):ret (U lf K (d+3) 129 [.slice (some ⟨.run w,0⟩) (recS n) c z,.int .i64 (n:Int)] G) fun v G'=>Turns Z G G'∧((getOk A n=true∧∃ y,v=.tuple [y,.int .i64 0]∧Lst G G' 66 (rowsC (getL A n)) y)∨(getOk A n=false∧v=.tuple [.slice none 0 0 0,.int .i64 5])):=by
 have e1:=usize hlf (K:=K) G (k:=n) (by omega) d
 have es:szR n=recS n:=szR_rec hlf h1.1 h1.2
 rw[es] at e1
 have e2:=uheads hlf (K:=K) G (k:=n) (by omega) (d+1)
 change U lf K (d+2) 119 [.int .i64 (n:Int)] G=some (.v (.int .i64 ((headsN n:Nat):Int)),G) at e2
 have hz:((recS n:Int)==0)=false:=by rw[beq_eq_false_iff_ne];unfold recS;omega
 have hl1:=ucget_cells hlf (K:=K) (c:=c) (z:=z) hw wo h1 hA (v1:=.int .i64 (n:Int)) d
 have hl2:=fun {G2:Heap} (t:Turns Z G G2) (y:V)=>ucget_tail hlf (K:=K) (c:=c) (z:=z) (y:=y) ((t.same (.run w) wo (fun h=>h)).trans hw) (Nat.lt_of_lt_of_le wo t.next) h1 hA d
 generalize recS n=RS at e1 hz hl1 hl2 ⊢
 refine ret_callU rfl rfl c129_eq ?_
 have hgo:getOk A n=((List.range n).all (plOk A)&&(List.range (headsN n*16 - n)).all fun j=>plZ A (n+j)):=rfl
 simp (maxDischargeDepth:=12) only[c129,e1,hz,e2,Int.lt_irrefl,Nat.lt_irrefl,hv,ldO_one,stO_one,sy,tup,↓reduceIte,zA,zG,zC,zD,zF,zE,zB,zH,reduceCtorEq]
 refine wp_ctx (F:=fun r=>seqC _ _ _ (blockC _ r)) (hl1 _ ?_ ?_ ?_ ?_ ?_ ?_) ?_
 ·simp only[sy,tup,↓reduceIte,zA,zG,zC,zD,zF,zE,zB,zH,reduceCtorEq]
 ·simp only[sy,tup,↓reduceIte,zA,zG,zC,zD,zF,zE,zB,zH,reduceCtorEq]
 ·simp only[sy,tup,↓reduceIte,zA,zG,zC,zD,zF,zE,zB,zH,reduceCtorEq]
 ·simp only[sy,tup,↓reduceIte,zA,zG,zC,zD,zF,zE,zB,zH,reduceCtorEq]
 ·simp only[sy,tup,↓reduceIte,zA,zG,zC,zD,zF,zE,zB,zH,reduceCtorEq]
 ·simp only[sy,tup,↓reduceIte,zA,zG,zC,zD,zF,zE,zB,zH,reduceCtorEq]
 rintro x ⟨t,G2,dd⟩ ⟨hd,tT,⟨rfl,hok,q0,q1,q7,y,q8,hy⟩ | ⟨rfl,hok,q4,q5⟩⟩
 ·dsimp only at hd tT q0 q1 q7 q8 hy
  subst hd
  simp (maxDischargeDepth:=12) only[q1,hv,ldO_one,stO_one,sy,tup,↓reduceIte,zA,zG,zC,zD,zF,zE,zB,zH,reduceCtorEq]
  refine wp_ctx (F:=fun r=>seqC _ _ _ (blockC _ r)) (hl2 tT y _ ?_ ?_ ?_ ?_) ?_
  ·simp only[q0,sy,tup,↓reduceIte,zA,zG,zC,zD,zF,zE,zB,zH,reduceCtorEq]
  ·simp only[q7,sy,tup,↓reduceIte,zA,zG,zC,zD,zF,zE,zB,zH,reduceCtorEq]
  ·simp only[q8,sy,tup,↓reduceIte,zA,zG,zC,zD,zF,zE,zB,zH,reduceCtorEq]
  ·simp only[sy,tup,↓reduceIte,zA,zG,zC,zD,zF,zE,zB,zH,reduceCtorEq]
  rintro x ⟨t,G3,dd⟩ ⟨hd,hG,⟨rfl,hok2,q8⟩ | ⟨rfl,hok2,q4,q5⟩⟩
  ·dsimp only at hd hG q8
   subst hd;subst hG
   simp (maxDischargeDepth:=12) only[q8,hv,ldO_one,stO_one,sy,tup,↓reduceIte,zA,zG,zC,zD,zF,zE,zB,zH,reduceCtorEq]
   exact⟨trivial,.inr trivial,_,rfl,tT,.inl ⟨by rw[hgo,hok,hok2];rfl,y,rfl,hy⟩⟩
  ·dsimp only at hd hG q4 q5
   subst hd;subst hG
   simp (maxDischargeDepth:=12) only[q4,q5,hv,ldO_one,stO_one,sy,tup,↓reduceIte,zA,zG,zC,zD,zF,zE,zB,zH,reduceCtorEq]
   exact⟨trivial,.inr trivial,_,rfl,tT,.inr ⟨by rw[hgo,hok2,Bool.and_false],rfl⟩⟩
 ·dsimp only at hd tT q4 q5
  subst hd
  simp (maxDischargeDepth:=12) only[q4,q5,hv,ldO_one,stO_one,sy,tup,↓reduceIte,zA,zG,zC,zD,zF,zE,zB,zH,reduceCtorEq]
  exact⟨trivial,.inr trivial,_,rfl,tT,.inr ⟨by rw[hgo,hok,Bool.false_and],rfl⟩⟩
end
end Go.Proofs.YtllkepkaimnodaaGreatDoor.draft
namespace Go.Proofs.YtllkepkaimnodaaGreatDoor.draft
open Go.Am
open disk (bx Fit A1 R1 Low Bn)
noncomputable def c64_l0:C:=.seq (.reg [
 qo 49 (.p (arF .lss (tt 48) (tt 47))) [pp 48,pp 47]]) (
 .seq (.cond (tt 49) (.skip) (.exit 1)) (
 .seq (.block 2 (.seq (.reg [
 qo 50 (.p (iaddrSF (tt 46) (tt 48) 1)) [pp 46,pp 48],
 qo 51 (.r (loadF (tt 50) 1 .sc)) [pp 50],
 mv 9 51]) (
 .seq (.regD [
 mv 53 0,
 qo 54 (.p (nilcF (tt 53))) [pp 53],
 qo 55 (.p (faddrF (tt 54) 0)) [pp 54],
 qo 56 (.r (loadF (tt 55) 1 .sc)) [pp 55],
 mv 57 0,
 qo 58 (.p (nilcF (tt 57))) [pp 57],
 qo 59 (.p (faddrF (tt 58) 1)) [pp 58],
 qo 60 (.r (loadF (tt 59) 1 .sc)) [pp 59],
 mv 61 9,
 qo 62 (.c (callF (ff 30) [(tt 56),(tt 60),(tt 61)])) [pp 56,pp 60,pp 61],
 mv 52 62,
 qo 63 (.p (extF (tt 52) 0)) [pp 52],
 qo 64 (.p (extF (tt 52) 1)) [pp 52],
 qo 10 (.m (allocF 64 [.blk 0])) [],
 qn (.a (storeF (tt 10) (tt 63) 64)) [pp 10,pp 63],
 mv 11 64] [0,1,3,7,0,16,48,112,0,511,1023,2047,2047,0,12287,32767]) (
 .seq (.seq (.reg [
 mv 65 11,
 qo 66 (.p (eqcF true false [.int .i64] (tt 65) (ii 0))) [pp 65]]) (
 .cond (tt 66) (.seq (.reg [
 mv 67 11,
 qo 4 (.p (S.get (.c (.slice none 0 0 0)))) [],
 mv 5 67]) (
 .ret)) (.skip))) (
 .reg [
 mv 68 7,
 qo 69 (.r (loadF (tt 10) 64 .bk)) [pp 10],
 qo 70 (.m (bsliceF 1 64 [.blk 0] [(0,64,(tt 69))])) [pp 69],
 qo 71 (.a (appF 64 64 (tt 68) (tt 70))) [pp 68,pp 70],
 mv 7 71]))))) (
 .reg [
 qo 72 (.p (arF .add (tt 48) (ii 1))) [pp 48],
 mv 48 72])))
noncomputable def c64:CFn:=⟨[.tmp (pp 4),.tmp (pp 5)],
 .seq (.reg [
 qo 4 (.p (S.get (.c (.slice none 0 0 0)))) [],
 qo 5 (.p (S.get (ii 0))) []]) (
 .seq (.block 0 (.seq (.reg [
 mv 13 0,
 qo 14 (.c (callF (ff 86) [(tt 13)])) [pp 13],
 mv 12 14]) (
 .cond (tt 12) (.seq (.reg [
 qo 4 (.p (S.get (.c (.slice none 0 0 0)))) [],
 qo 5 (.p (S.get (ii 1))) []]) (
 .ret)) (.seq (.reg [
 mv 16 1,
 mv 17 0,
 qo 18 (.p (nilcF (tt 17))) [pp 17],
 qo 19 (.p (faddrF (tt 18) 5)) [pp 18],
 qo 20 (.r (loadF (tt 19) 1 .sc)) [pp 19],
 qo 21 (.p (arF .lss (tt 16) (tt 20))) [pp 16,pp 20],
 mv 22 21,
 mg 23 1 22 false,
 mg 24 0 22 false,
 qg 25 (.c (callF (ff 42) [(tt 24)])) 22 false [pp 24],
 qg 26 (.p (arF .geq (tt 23) (tt 25))) 22 false [pp 23,pp 25],
 qo 27 (.p (pickF (tt 22) (.c (.bool true)) (tt 26))) [pp 22,pp 26],
 mv 15 27]) (
 .cond (tt 15) (.seq (.reg [
 qo 4 (.p (S.get (.c (.slice none 0 0 0)))) [],
 qo 5 (.p (S.get (ii 7))) []]) (
 .ret)) (.skip)))))) (
 .seq (.regD [
 mv 28 0,
 qo 29 (.p (nilcF (tt 28))) [pp 28],
 qo 30 (.p (faddrF (tt 29) 8)) [pp 29],
 qo 31 (.r (loadF (tt 30) 1 .sc)) [pp 30],
 mv 32 1,
 mv 33 0,
 qo 34 (.p (nilcF (tt 33))) [pp 33],
 qo 35 (.p (faddrF (tt 34) 5)) [pp 34],
 qo 36 (.r (loadF (tt 35) 1 .sc)) [pp 35],
 qo 37 (.p (arF .sub (tt 32) (tt 36))) [pp 32,pp 36],
 qo 38 (.p (iaddrSF (tt 31) (tt 37) 4)) [pp 31,pp 37],
 qo 39 (.r (loadF (tt 38) 4 .ag)) [pp 38],
 qo 6 (.m (allocF 4 [.int .u64 0,.int .u64 0,.int .i64 0,.int .u32 0])) [],
 qn (.a (storeF (tt 6) (tt 39) 4)) [pp 6,pp 39]] [0,1,3,7,0,0,32,96,224,496,1023,2047,0,8191]) (
 .seq (.reg [
 qo 7 (.p (S.get (.c (.slice none 0 0 0)))) []]) (
 .seq (.seq (.regD [
 mv 40 0,
 qo 41 (.p (faddrF (tt 6) 1)) [pp 6],
 qo 42 (.r (loadF (tt 41) 1 .sc)) [pp 41],
 qo 43 (.p (faddrF (tt 6) 2)) [pp 6],
 qo 44 (.r (loadF (tt 43) 1 .sc)) [pp 43],
 qo 45 (.c (callF (ff 45) [(tt 44)])) [pp 44],
 qo 46 (.c (callF (ff 88) [(tt 40),(tt 42),(tt 45)])) [pp 40,pp 42,pp 45],
 qo 47 (.p (lenF (tt 46))) [pp 46],
 qo 48 (.p (S.get (ii 0))) []] [0,0,2,0,8,24,63,127,0]) (
 .block 1 (.loop c64_l0))) (
 .seq (.seq (.regD [
 mv 73 7,
 qo 74 (.c (callF (ff 90) [(tt 73)])) [pp 73],
 qo 75 (.p (faddrF (tt 6) 3)) [pp 6],
 qo 76 (.r (loadF (tt 75) 1 .sc)) [pp 75],
 qo 77 (.p (eqcF true false [.int .u32] (tt 74) (tt 76))) [pp 74,pp 76]] [0,1,0,4,15]) (
 .cond (tt 77) (.seq (.reg [
 qo 4 (.p (S.get (.c (.slice none 0 0 0)))) [],
 qo 5 (.p (S.get (ii 6))) []]) (
 .ret)) (.skip))) (
 .seq (.reg [
 mv 78 7,
 qo 79 (.p (faddrF (tt 6) 2)) [pp 6],
 qo 80 (.r (loadF (tt 79) 1 .sc)) [pp 79],
 qo 81 (.c (callF (ff 129) [(tt 78),(tt 80)])) [pp 78,pp 80],
 qo 82 (.p (extF (tt 81) 0)) [pp 81],
 qo 83 (.p (extF (tt 81) 1)) [pp 81],
 mv 4 82,
 mv 5 83]) (
 .ret)))))))⟩
theorem c64_eq:fnOf Tryz.prog 64=some c64:=by kernel_rfl
noncomputable def recR (B:Bn) (R p k:Nat):List Nat:=(List.range k).map fun j=>B.read 0 (((p+j) % R+10:Nat):Int)
theorem recR_len (B:Bn) (R p k:Nat):(recR B R p k).length=k:=by unfold recR;rw[List.length_map,List.length_range]
section
variable {lf K:Nat} (hlf:1000 < lf)
include hlf
theorem ulrecord_read {G:Heap} {l b:Bk} {id R cnt first tail head:Nat} {lv:V} (hg:G.get l=some (.rows false 9 [lcells b id R cnt first tail head lv])) (ho:G.Old l) {B:Bn} (hb:G.get b=some (bx false B)) (bo:G.Old b) (hf:Fit B) {u p k:Nat} (hu:G.get (.run u)=some (.rows false 1 (rowsI (secs R p k)))) (uo:u < G.next) (hk:k≤100) (hR:1≤R∧R≤256) {c:Int} (hrc:∀ j,j < k→B.rc 0 (((p+j) % R+10:Nat):Int)=c) {t6:V} (n:Nat):∀ t:T,t.getP (Tr.path 0)=some (.ptr (some ⟨l,0⟩))→t.getP (Tr.path 6)=some t6→t.getP (Tr.path 7)=some (.slice none 0 0 0)→t.getP (Tr.path 46)=some (.slice (some ⟨.run u,0⟩) k k 0)→t.getP (Tr.path 47)=some (.int .i64 (k:Int))→t.getP (Tr.path 48)=some (.int .i64 0) →
  wp (loopF (runC (U lf K (n+1)) lf c64_l0) lf ⟨t,G,[]⟩) fun x s=>s.d=[]∧Turns Z G s.H∧((x=.ex 1∧(k=0∨c=0)∧s.t.getP (Tr.path 6)=some t6∧∃ y,s.t.getP (Tr.path 7)=some y∧Lst G s.H 64 (rowsK (recR B R p k)) y)∨(x=.ret∧c≠0∧s.t.getP (Tr.path 4)=some (.slice none 0 0 0)∧s.t.getP (Tr.path 5)=some (.int .i64 c))):=by
 intro t q0 q6 q7 q46 q47 q48
 refine wp_loopF (fun m s=>∃(i:Nat) (y:V),m=k - i∧i≤k∧s.d=[]∧s.t.getP (Tr.path 0)=some (.ptr (some ⟨l,0⟩))∧s.t.getP (Tr.path 6)=some t6∧s.t.getP (Tr.path 7)=some y∧s.t.getP (Tr.path 46)=some (.slice (some ⟨.run u,0⟩) k k 0)∧s.t.getP (Tr.path 47)=some (.int .i64 (k:Int))∧s.t.getP (Tr.path 48)=some (.int .i64 (i:Int))∧Lst G s.H 64 (rowsK (recR B R p i)) y∧(i=0∨c=0)∧Turns Z G s.H)
  ?_ lf k _ ⟨0,_,rfl,Nat.zero_le _,rfl,q0,q6,q7,q46,q47,q48,Lst.nil _ _ _,.inl rfl,Turns.refl _ _⟩ (by omega)
 rintro m ⟨t,HH,dd⟩ ⟨i,y,rfl,hi,hd,q0,q6,q7,q46,q47,q48,hy,hc0,hT⟩
 dsimp only at hd q0 q6 q7 q46 q47 q48 hy hT
 subst hd
 by_cases hlt:i < k
 rotate_left
 ·have:i=k:=by omega
  subst this
  simp (maxDischargeDepth:=12) only[c64_l0,q47,q48,Int.lt_irrefl,Nat.lt_irrefl,hv,ldO_one,stO_one,sy,tup,↓reduceIte,zA,zG,zC,zD,zF,zE,zB,zH,reduceCtorEq]
  exact⟨trivial,hT,.inl ⟨trivial,hc0,by simp[q6],y,by simp[q7],hy⟩⟩
 have hlt':(i:Int) < (k:Int):=by omega
 have hle:i+1≤k:=hlt
 have w1:IntKind.i64.wrap ((i:Int)+1)=((i+1:Nat):Int):=by rw[Go.Am.wrap_i64 (by omega)];omega
 have huH:=(hT.same (.run u) uo (fun h=>h)).trans hu
 have hgH:=(hT.same l ho (fun h=>h)).trans hg
 have hbH:=(hT.same b bo (fun h=>h)).trans hb
 have k0:cut (lcells b id R cnt first tail head lv) 0 1=some [.ptr (some ⟨b,0⟩)]:=rfl
 have k1:cut (lcells b id R cnt first tail head lv) 1 1=some [.int .i64 0]:=rfl
 have hsl:(secs R p k).length=k:=by unfold secs;simp
 have ld1:=ldI (ro:=false) (A:=secs R p k) (i:=i) (by omega)
 have hsi:(secs R p k)[i]'(by omega)=(((p+i) % R+10:Nat):Int):=by unfold secs;rw[List.getElem_map,List.getElem_range]
 rw[hsi] at ld1
 have hrc1:=hrc i hlt
 have hre:recR B R p (i+1)=recR B R p i++[B.read 0 (((p+i) % R+10:Nat):Int)]:=by unfold recR;rw[List.range_succ,List.map_append];rfl
 obtain⟨m,hm⟩:∃ m:Int,m=(((p+i) % R+10:Nat):Int):=⟨_,rfl⟩
 rw[← hm] at ld1 hrc1 hre
 have eR:=qRead (lf:=lf) (K:=K) (w:=n) hbH hf 0 m
 rw[hrc1] at eR
 obtain⟨X,hX⟩:∃ X,X=B.read 0 m:=⟨_,rfl⟩
 rw[← hX] at eR hre
 have t2:Turns Z HH (((HH.skip (K+2)).add (.rows false 64 [[.blk 0]])).set (.run (HH.next+(K+2))) (.rows false 64 [[.blk X]])):=by
  refine Turns.setn ?_ _ (by omega) _
  exact((Turns.refl Z HH).skip _).addm _
 have hx2:(((HH.skip (K+2)).add (.rows false 64 [[.blk 0]])).set (.run (HH.next+(K+2))) (.rows false 64 [[.blk X]])).get (.run (HH.next+(K+2)))=some (.rows false 64 [[.blk X]]):=by rw[Heap.get_set,if_pos rfl]
 obtain⟨H2,hH2⟩:∃ H2,((HH.skip (K+2)).add (.rows false 64 [[.blk 0]])).set (.run (HH.next+(K+2))) (.rows false 64 [[.blk X]])=H2:=⟨_,rfl⟩
 rw[hH2] at t2 hx2
 by_cases hcz:c=0
 rotate_left
 ·have hcz':(c==0)=false:=beq_eq_false_iff_ne.2 hcz
  simp (maxDischargeDepth:=12) only[c64_l0,q0,q46,q47,q48,hlt',hlt,hle,huH,ld1,hgH,k0,k1,eR,hcz',hH2,Nat.mul_one,hv,ldO_one,stO_one,sy,tup,↓reduceIte,zA,zG,zC,zD,zF,zE,zB,zH,reduceCtorEq]
  rw[endD_ok (by kernel_rfl) (by kernel_rfl)]
  simp (maxDischargeDepth:=12) only[hcz',hv,ldO_one,stO_one,sy,tup,↓reduceIte,zA,zG,zC,zD,zF,zE,zB,zH,reduceCtorEq]
  exact⟨trivial,hT.trans t2,.inr ⟨trivial,hcz,trivial,trivial⟩⟩
 have hcz':(c==0)=true:=by rw[hcz];rfl
 have hy2:=hy.turns t2 (fun _ _ h=>h)
 have t3:=Turns.add Z H2 (.rows false 64 [[.blk X]])
 have hg3:(H2.add (.rows false 64 [[.blk X]])).get (.run H2.next)=some (.rows false 64 [[.blk X]]):=by rw[Heap.get_add,if_pos rfl]
 obtain⟨H3,hH3⟩:∃ H3,H2.add (.rows false 64 [[.blk X]])=H3:=⟨_,rfl⟩
 rw[hH3] at t3 hg3
 have hy3:=hy2.turns t3 (fun _ _ h=>h)
 have tt:=(hT.trans t2).trans t3
 have hrl:(rowsK (recR B R p i)).length=i:=by rw[rowsK_len,recR_len]
 obtain⟨H4,ea,hy4,t4,_⟩:=hy3.app1 (by':=64) tt.next hg3 (Dh _ _) (by decide) (by rw[hrl];omega) (by rw[hrl];omega)
 rw[hrl] at ea hy4
 have t4':=lst_away hy3 tt (Nat.le_refl _) t4
 simp (maxDischargeDepth:=12) only[c64_l0,q0,q46,q47,q48,hlt',hlt,hle,huH,ld1,hgH,k0,k1,eR,hcz',hH2,Nat.mul_one,hv,ldO_one,stO_one,sy,tup,↓reduceIte,zA,zG,zC,zD,zF,zE,zB,zH,reduceCtorEq]
 rw[endD_ok (by kernel_rfl) (by kernel_rfl)]
 simp (maxDischargeDepth:=12) only[hcz',q7,hx2,hH3,ea,w1,q48,hv,ldO_one,stO_one,sy,tup,↓reduceIte,zA,zG,zC,zD,zF,zE,zB,zH,reduceCtorEq]
 refine⟨k - (i+1),by omega,i+1,_,rfl,by omega,trivial,by simp[q0],by simp[q6],rfl,by simp[q46],by simp[q47],by simp,?_,.inr hcz,t4'⟩
 rw[hre]
 unfold rowsK
 rw[List.map_append]
 exact hy4
end
end Go.Proofs.YtllkepkaimnodaaGreatDoor.draft
namespace Go.Proofs.YtllkepkaimnodaaGreatDoor.draft
open Go.Am
open disk (bx Fit A1 R1 Low Bn)
noncomputable def recC (B:Bn) (R:Nat) (nt:Nt) (c:Int):Int:=if c≠0 then c else if sumB (recR B R nt.pos (recS nt.cells))≠nt.sum then 6 else if getOk (recR B R nt.pos (recS nt.cells)) nt.cells=false then 5 else 0
section
variable {lf K:Nat} (hlf:1000 < lf)
include hlf
theorem ulrecord {G:Heap} {l b:Bk} {id R cnt first tail head:Nat} {N:List Nt} {lv:V} (h:LogAt G l b id R cnt first tail head N lv) (bo:G.Old b) {B:Bn} (hb:G.get b=some (bx false B)) (hf:Fit B) {q:Nat} (hq:q < 18446744073709551616) (hnt:∀ i (hi:i < N.length),(1≤N[i].cells∧N[i].cells≤32)∧N[i].sum < 4294967296∧recS N[i].cells≤R∧N[i].pos+recS N[i].cells≤4611686018427387904) {c:Int} (hrc:∀ i (hi:i < N.length),first+i=q→∀ j,j < recS N[i].cells→B.rc 0 (((N[i].pos+j) % R+10:Nat):Int)=c) (n:Nat) :
    ret (U lf K (n+4) 64 [.ptr (some ⟨l,0⟩),.int .u64 (q:Int)] G) fun v G'=>Turns Z G G' ∧
      (((q < first∨first+N.length≤q)∧v=.tuple [.slice none 0 0 0,.int .i64 7]) ∨
       (∃(i:Nat) (hi:i < N.length),first+i=q∧((recC B R N[i] c≠0∧v=.tuple [.slice none 0 0 0,.int .i64 (recC B R N[i] c)])∨(recC B R N[i] c=0∧∃ y,v=.tuple [y,.int .i64 0]∧Lst G G' 66 (rowsC (getL (recR B R N[i].pos (recS N[i].cells)) N[i].cells)) y)))):=by
  have e0:=ulnone hlf h (K:=K) (n+2)
  have eN:=ulnext hlf h (K:=K) (n+2)
  obtain⟨hg,G0,hN,hG0⟩:=h.ex
  have hfn:=h.fn
  have hnl:=h.nl
  have hRb:=h.rb
  have hrl:=rowsT_len N
  obtain⟨lp,lc,lo,rfl⟩:=hN.val
  rw[hrl] at hg hN
  have k5:cut (lcells b id R cnt first tail head (.slice lp N.length lc lo)) 5 1=some [.int .u64 (first:Int)]:=rfl
  have k8:cut (lcells b id R cnt first tail head (.slice lp N.length lc lo)) 8 1=some [.slice lp N.length lc lo]:=rfl
  obtain⟨nx,hnx⟩:∃ nx,nx=first+N.length:=⟨_,rfl⟩
  rw[← hnx] at eN ⊢
  obtain⟨PB,hPB⟩:∃ PB:Prop,PB=(q < first∨nx≤q):=⟨_,rfl⟩
  rw[← hPB]
  refine ret_callU rfl rfl c64_eq ?_
  by_cases h1:q < first
  · simp (maxDischargeDepth:=12) only[c64,e0,hg,k5,h1,hv,ldO_one,stO_one,sy,tup,↓reduceIte,zA,zG,zC,zD,zF,zE,zB,zH,reduceCtorEq]
    exact⟨trivial,.inr trivial,_,rfl,Turns.refl _ _,.inl ⟨by rw[hPB];exact .inl h1,rfl⟩⟩
  by_cases h2:nx≤q
  · simp (maxDischargeDepth:=12) only[c64,e0,hg,k5,h1,h2,eN,hv,ldO_one,stO_one,sy,tup,↓reduceIte,zA,zG,zC,zD,zF,zE,zB,zH,reduceCtorEq]
    exact⟨trivial,.inr trivial,_,rfl,Turns.refl _ _,.inl ⟨by rw[hPB];exact .inr h2,rfl⟩⟩
  obtain⟨i,hiq⟩:∃ i,i=q - first:=⟨_,rfl⟩
  have hi:i < N.length:=by omega
  have hqi:first+i=q:=by omega
  have w1:IntKind.u64.wrap ((q:Int) - (first:Int))=(i:Int):=by rw[Go.Am.wrap_u64 (by omega)];omega
  obtain⟨m,em,hld⟩:=hN.load (i:=i) (o:=0) (k:=4) (r:=ntV N[i]) (rowsT_get hi) (by decide)
  rw[ld_get,Nat.add_zero,show cut (ntV N[i]) 0 4=some (ntV N[i]) from rfl] at hld
  have elp:lp=some ⟨.run m,0⟩:=(V.slice.inj em).1
  subst elp
  have hle:i+1≤N.length:=hi
  obtain⟨⟨hc1,hc2⟩,hsum,hkR,hpk⟩:=hnt i hi
  have hrci:=hrc i hi hqi
  have hsel:∀(v:V) (G':Heap),(((recC B R N[i] c≠0∧v=.tuple [.slice none 0 0 0,.int .i64 (recC B R N[i] c)])∨(recC B R N[i] c=0∧∃ y,v=.tuple [y,.int .i64 0]∧Lst G G' 66 (rowsC (getL (recR B R N[i].pos (recS N[i].cells)) N[i].cells)) y)))→((PB∧v=.tuple [.slice none 0 0 0,.int .i64 7])∨(∃(i:Nat) (hi:i < N.length),first+i=q∧((recC B R N[i] c≠0∧v=.tuple [.slice none 0 0 0,.int .i64 (recC B R N[i] c)])∨(recC B R N[i] c=0∧∃ y,v=.tuple [y,.int .i64 0]∧Lst G G' 66 (rowsC (getL (recR B R N[i].pos (recS N[i].cells)) N[i].cells)) y)))):=fun v G' hx=>.inr ⟨i,hi,hqi,hx⟩
  have hcc:recC B R N[i] c=if c≠0 then c else if sumB (recR B R N[i].pos (recS N[i].cells))≠N[i].sum then 6 else if getOk (recR B R N[i].pos (recS N[i].cells)) N[i].cells=false then 5 else 0:=rfl
  have hge:∀ {P:Nt→Prop},P N[i]→∃ nt,nt=N[i]∧P nt:=fun h=>⟨_,rfl,h⟩
  generalize N[i]=nt at hld hc1 hc2 hsum hkR hpk hrci hsel hcc
  obtain⟨sq,pos,cl,sm⟩:=nt
  dsimp only at hc1 hc2 hsum hkR hpk hrci hsel hcc
  unfold ntV at hld
  dsimp only at hld
  have wid4:width [V.int .u64 (sq:Int),.int .u64 (pos:Int),.int .i64 (cl:Int),.int .u32 (sm:Int)]=4:=rfl
  have put4:put [V.int .u64 0,.int .u64 0,.int .i64 0,.int .u32 0] 0 [.int .u64 (sq:Int),.int .u64 (pos:Int),.int .i64 (cl:Int),.int .u32 (sm:Int)]=some [.int .u64 (sq:Int),.int .u64 (pos:Int),.int .i64 (cl:Int),.int .u32 (sm:Int)]:=rfl
  have c1:cut [V.int .u64 (sq:Int),.int .u64 (pos:Int),.int .i64 (cl:Int),.int .u32 (sm:Int)] 1 1=some [.int .u64 (pos:Int)]:=rfl
  have c2:cut [V.int .u64 (sq:Int),.int .u64 (pos:Int),.int .i64 (cl:Int),.int .u32 (sm:Int)] 2 1=some [.int .i64 (cl:Int)]:=rfl
  have c3:cut [V.int .u64 (sq:Int),.int .u64 (pos:Int),.int .i64 (cl:Int),.int .u32 (sm:Int)] 3 1=some [.int .u32 (sm:Int)]:=rfl
  have t1:Turns Z G ((G.add (.rows false 4 [[.int .u64 0,.int .u64 0,.int .i64 0,.int .u32 0]])).set (.run G.next) (.rows false 4 [[.int .u64 (sq:Int),.int .u64 (pos:Int),.int .i64 (cl:Int),.int .u32 (sm:Int)]])):=by repeat (first | exact Turns.refl _ _ | apply Turns.skip | apply Turns.addm | apply Turns.setb | apply Turns.setl | apply Turns.setr | refine Turns.setn ?_ _ (by omega) _ | refine Turns.trans ?_ (tF _))
  have hn1:((G.add (.rows false 4 [[.int .u64 0,.int .u64 0,.int .i64 0,.int .u32 0]])).set (.run G.next) (.rows false 4 [[.int .u64 (sq:Int),.int .u64 (pos:Int),.int .i64 (cl:Int),.int .u32 (sm:Int)]])).get (.run G.next)=some (.rows false 4 [[.int .u64 (sq:Int),.int .u64 (pos:Int),.int .i64 (cl:Int),.int .u32 (sm:Int)]]):=by rw[Heap.get_set,if_pos rfl]
  obtain⟨G1,hG1⟩:∃ G1,(G.add (.rows false 4 [[.int .u64 0,.int .u64 0,.int .i64 0,.int .u32 0]])).set (.run G.next) (.rows false 4 [[.int .u64 (sq:Int),.int .u64 (pos:Int),.int .i64 (cl:Int),.int .u32 (sm:Int)]])=G1:=⟨_,rfl⟩
  have n1:G1.next=G.next+1:=by rw[← hG1];rfl
  rw[hG1] at t1 hn1
  have eZ:=usize hlf (K:=K) G1 (k:=cl) (by omega) (n+1)
  rw[szR_rec hlf hc1 hc2] at eZ
  have hk1:1≤recS cl:=by unfold recS;omega
  have hk34:recS cl≤34:=by unfold recS;omega
  obtain⟨k,hk⟩:∃ k,k=recS cl:=⟨_,rfl⟩
  rw[← hk] at eZ hkR hpk hrci hk1 hk34
  have h1':LogAt G1 l b id R cnt first tail head N (.slice (some ⟨.run m,0⟩) N.length lc lo):=⟨⟨(t1.same l h.old (fun h=>h)).trans hg,G0,hN.turns t1 (fun _ _ h=>h),Nat.le_trans hG0 t1.next⟩,h.old.mono t1.next,h.rb,h.rg,h.fn,h.nl⟩
  obtain⟨Q,hQ⟩:∃ Q:List (Option V × Option V),Q=[(loadF (.t (Tr.path 41)) 1 .sc (Tr.setP (Tr.path 41) (.ptr (some ⟨.run G.next,1⟩)) .e) G1,some (.int .u64 (pos:Int))),(loadF (.t (Tr.path 41)) 1 .sc (Tr.setP (Tr.path 41) (.ptr (some ⟨.run G.next,1⟩)) .e) G1,some (.int .u64 (pos:Int)))]:=⟨_,rfl⟩
  have hQ':∀ x ∈ Q,x.1=x.2:=by
    rw[hQ]
    intro x hx
    simp only[List.mem_cons,List.not_mem_nil,or_false] at hx
    rcases hx with rfl | rfl<;>simp (maxDischargeDepth:=12) only[hn1,c1,hv,ldO_one,stO_one,sy,tup,↓reduceIte,zA,zG,zC,zD,zF,zE,zB,zH,reduceCtorEq]
  obtain⟨v2,G2,e2,u,rfl,hu0,hu1,hu,t2⟩:=ulsectors hlf (K:=K) h1' (p:=pos) (k:=k) hpk ⟨hk1,hkR⟩ n
  simp (maxDischargeDepth:=12) only[c64,e0,hg,k5,k8,h1,h2,eN,w1,hle,hld,wid4,put4,hG1,Nat.mul_one,hv,ldO_one,stO_one,sy,tup,↓reduceIte,zA,zG,zC,zD,zF,zE,zB,zH,reduceCtorEq]
  rw[endD_ok (by kernel_rfl) (by kernel_rfl)]
  simp (maxDischargeDepth:=12) only[hn1,c1,c2,eZ,e2,hv,ldO_one,stO_one,sy,tup,↓reduceIte,zA,zG,zC,zD,zF,zE,zB,zH,reduceCtorEq]
  rw[endD_q (q:=Q) (by kernel_rfl) (by rw[hQ];kernel_rfl)]
  have t2':=t2.owe hQ'
  have hu':(G2.owe Q).get (.run u)=some (.rows false 1 (rowsI (secs R pos k))):=by rw[get_owe];exact hu
  have hu1':u < (G2.owe Q).next:=hu1
  obtain⟨G3,hG3⟩:∃ G3,G2.owe Q=G3:=⟨_,rfl⟩
  rw[hG3] at t2' hu' hu1' ⊢
  have t13:=t1.trans t2'
  have hg3:=(t13.same l h.old (fun h=>h)).trans hg
  have hb3:=(t13.same b bo (fun h=>h)).trans hb
  have hn3:=(t2'.same (.run G.next) (by show _ < _;omega) (fun h=>h)).trans hn1
  have o3:G.next < G3.next:=by have:=t2'.next;omega
  have hloop:=ulrecord_read hlf (K:=K) hg3 (h.old.mono t13.next) hb3 (bo.mono t13.next) hf hu' hu1' (by omega) hRb hrci (t6:=.ptr (some ⟨.run G.next,0⟩)) (n+2)
  simp (maxDischargeDepth:=12) only[hv,ldO_one,stO_one,sy,tup,↓reduceIte,zA,zG,zC,zD,zF,zE,zB,zH,reduceCtorEq]
  refine wp_ctx (F:=fun r=>seqC _ _ _ (blockC _ r)) (hloop _ ?_ ?_ ?_ ?_ ?_ ?_) ?_
  · simp only[sy,tup,↓reduceIte,zA,zG,zC,zD,zF,zE,zB,zH,reduceCtorEq]
  · simp only[sy,tup,↓reduceIte,zA,zG,zC,zD,zF,zE,zB,zH,reduceCtorEq]
  · simp only[sy,tup,↓reduceIte,zA,zG,zC,zD,zF,zE,zB,zH,reduceCtorEq]
  · simp only[sy,tup,↓reduceIte,zA,zG,zC,zD,zF,zE,zB,zH,reduceCtorEq]
  · simp only[sy,tup,↓reduceIte,zA,zG,zC,zD,zF,zE,zB,zH,reduceCtorEq]
  · simp only[sy,tup,↓reduceIte,zA,zG,zC,zD,zF,zE,zB,zH,reduceCtorEq]
  rintro x ⟨t,G4,dd⟩ ⟨hd,t4,⟨rfl,hc0,q6,y,q7,hy⟩ | ⟨rfl,hc0,q4,q5⟩⟩
  rotate_left
  · dsimp only at hd t4 q4 q5
    subst hd
    simp (maxDischargeDepth:=12) only[q4,q5,hv,ldO_one,stO_one,sy,tup,↓reduceIte,zA,zG,zC,zD,zF,zE,zB,zH,reduceCtorEq]
    rw[if_pos hc0] at hcc
    rw[hcc] at hsel
    exact⟨trivial,.inr trivial,_,rfl,t13.trans t4,hsel _ _ (.inl ⟨hc0,rfl⟩)⟩
  dsimp only at hd t4 q6 q7 hy
  subst hd
  have hcz:c=0:=by
    rcases hc0 with h | h
    · omega
    · exact h
  rw[if_neg (fun h=>h hcz),← hk] at hcc
  have hAl:=recR_len B R pos k
  obtain⟨A,hA⟩:∃ A,A=recR B R pos k:=⟨_,rfl⟩
  rw[← hA] at hcc hy hAl
  have t14:=t13.trans t4
  have hn4:=(t4.same (.run G.next) (by show _ < _;exact o3) (fun h=>h)).trans hn3
  obtain⟨v5,G5,e5,rfl,t5⟩:=usum (K:=K) hlf (G:=G4) (v:=y) (l:=A) (fun H tH=>blks_lst (hy.turns tH (fun _ _ h=>h))) (by omega) n
  have hn5:=(t5.same (.run G.next) (by show _ < _;exact Nat.lt_of_lt_of_le o3 t4.next) (fun h=>h)).trans hn4
  obtain⟨Q2,hQ2⟩:∃ Q2:List (Option V × Option V),Q2=[(loadF (.t (Tr.path 75)) 1 .sc (Tr.setP (Tr.path 75) (.ptr (some ⟨.run G.next,3⟩)) .e) G4,some (.int .u32 (sm:Int))),(loadF (.t (Tr.path 75)) 1 .sc (Tr.setP (Tr.path 75) (.ptr (some ⟨.run G.next,3⟩)) .e) G5,some (.int .u32 (sm:Int)))]:=⟨_,rfl⟩
  have hQ2':∀ x ∈ Q2,x.1=x.2:=by
    rw[hQ2]
    intro x hx
    simp only[List.mem_cons,List.not_mem_nil,or_false] at hx
    rcases hx with rfl | rfl<;>simp (maxDischargeDepth:=12) only[hn4,hn5,c3,hv,ldO_one,stO_one,sy,tup,↓reduceIte,zA,zG,zC,zD,zF,zE,zB,zH,reduceCtorEq]
  obtain⟨sA,hsA⟩:∃ sA,sA=sumB A:=⟨_,rfl⟩
  rw[← hsA] at e5 hcc
  simp (maxDischargeDepth:=12) only[q6,q7,e5,hn5,c3,hv,ldO_one,stO_one,sy,tup,↓reduceIte,zA,zG,zC,zD,zF,zE,zB,zH,reduceCtorEq]
  rw[endD_q (q:=Q2) (by kernel_rfl) (by rw[hQ2];kernel_rfl)]
  have t5':=t5.owe hQ2'
  have hn6:(G5.owe Q2).get (.run G.next)=_:=(get_owe _ _ _).trans hn5
  obtain⟨G6,hG6⟩:∃ G6,G5.owe Q2=G6:=⟨_,rfl⟩
  rw[hG6] at t5' hn6 ⊢
  have t16:=t14.trans t5'
  by_cases hs:sA=sm
  rotate_left
  · have hs':((sA:Int)==(sm:Int))=false:=by rw[beq_eq_false_iff_ne];omega
    rw[if_pos hs] at hcc
    rw[hcc] at hsel
    simp (maxDischargeDepth:=12) only[hs',hv,ldO_one,stO_one,sy,tup,↓reduceIte,zA,zG,zC,zD,zF,zE,zB,zH,reduceCtorEq]
    exact⟨trivial,.inr trivial,_,rfl,t16,hsel _ _ (.inl ⟨by decide,rfl⟩)⟩
  have hs':((sA:Int)==(sm:Int))=true:=by rw[hs];exact beq_self_eq_true _
  rw[if_neg (fun h=>h hs)] at hcc
  have hy6:=hy.turns t5' (fun _ _ h=>h)
  have hAk:A.length=recS cl:=by rw[hAl,hk]
  obtain⟨w,ey,hw,wo⟩:∃ w,y=.slice (some ⟨.run w,0⟩) (recS cl) (recS cl) 64∧G6.get (.run w)=some (.rows false 64 (rowsK A))∧w < G6.next:=by
    rcases hy6 with ⟨e,_⟩ | ⟨w,_,e,hg,_,hw⟩
    · have:=congrArg List.length e
      rw[rowsK_len,hAl] at this
      simp only[List.length_nil] at this
      omega
    · rw[rowsK_len,hAk] at e
      exact⟨w,e,hg,hw⟩
  subst ey
  obtain⟨v7,G7,e7,t7,h7⟩:=ucget hlf (K:=K) (c:=recS cl) (z:=64) hw wo ⟨hc1,hc2⟩ hAk n
  rcases h7 with ⟨hgo,y7,rfl,hy7⟩ | ⟨hgo,rfl⟩
  · rw[if_neg (by rw[hgo];decide)] at hcc
    simp (maxDischargeDepth:=12) only[hs',q6,q7,hn6,c2,e7,hv,ldO_one,stO_one,sy,tup,↓reduceIte,zA,zG,zC,zD,zF,zE,zB,zH,reduceCtorEq]
    refine⟨trivial,.inr trivial,_,rfl,t16.trans t7,hsel _ _ (.inr ⟨hcc,y7,rfl,?_⟩)⟩
    rw[← hk,← hA]
    rcases hy7 with e | ⟨j,a1,a2,a3,a4,a5⟩
    · exact .inl e
    · exact .inr ⟨j,a1,a2,a3,Nat.le_trans t16.next a4,a5⟩
  · rw[if_pos hgo] at hcc
    rw[hcc] at hsel
    simp (maxDischargeDepth:=12) only[hs',q6,q7,hn6,c2,e7,hv,ldO_one,stO_one,sy,tup,↓reduceIte,zA,zG,zC,zD,zF,zE,zB,zH,reduceCtorEq]
    exact⟨trivial,.inr trivial,_,rfl,t16.trans t7,hsel _ _ (.inl ⟨by decide,rfl⟩)⟩
end
end Go.Proofs.YtllkepkaimnodaaGreatDoor.draft
namespace Go.Proofs.YtllkepkaimnodaaGreatDoor.draft
open Go.Am
open disk (bx Fit A1 R1 Low Bn)
noncomputable def c58:CFn:=⟨[.tmp (pp 2)],
 .seq (.reg [
 qo 2 (.p (S.get (.c (.int .u64 0)))) []]) (
 .seq (.seq (.reg [
 mv 3 0,
 qo 4 (.c (callF (ff 86) [(tt 3)])) [pp 3]]) (
 .cond (tt 4) (.seq (.reg [
 qo 2 (.p (S.get (.c (.int .u64 0)))) []]) (
 .ret)) (.skip))) (
 .seq (.reg [
 mv 5 0,
 qo 6 (.p (nilcF (tt 5))) [pp 5],
 qo 7 (.p (faddrF (tt 6) 2)) [pp 6],
 qo 8 (.r (loadF (tt 7) 1 .sc)) [pp 7],
 mv 2 8]) (
 .ret)))⟩
theorem c58_eq:fnOf Tryz.prog 58=some c58:=by kernel_rfl
noncomputable def c12:CFn:=⟨[.tmp (pp 2)],
 .seq (.reg [
 qo 2 (.p (S.get (.c (.bool false)))) []]) (
 .seq (.seq (.reg [
 mv 5 0,
 qo 6 (.p (nilcF (tt 5))) [pp 5],
 qo 7 (.p (faddrF (tt 6) 3)) [pp 6],
 qo 8 (.r (loadF (tt 7) 1 .sc)) [pp 7],
 qo 9 (.r (eqnF false .ptr (tt 8) (.c (.ptr none)))) [pp 8]]) (
 .cond (tt 9) (.seq (.reg [
 mv 10 0,
 qo 11 (.p (nilcF (tt 10))) [pp 10],
 qo 12 (.p (faddrF (tt 11) 2)) [pp 11],
 qo 13 (.r (loadF (tt 12) 1 .sc)) [pp 12],
 qo 14 (.r (eqnF false .ptr (tt 13) (.c (.ptr none)))) [pp 13],
 mv 2 14]) (
 .ret)) (.skip))) (
 .seq (.reg [
 mv 16 0,
 qo 17 (.p (nilcF (tt 16))) [pp 16],
 qo 18 (.p (faddrF (tt 17) 2)) [pp 17],
 qo 19 (.r (loadF (tt 18) 1 .sc)) [pp 18],
 qo 20 (.c (callF (ff 56) [(tt 19)])) [pp 19],
 mv 15 20,
 qo 21 (.p (extF (tt 15) 0)) [pp 15],
 qo 22 (.p (extF (tt 15) 1)) [pp 15],
 mv 3 21,
 mv 4 22]) (
 .seq (.regD [
 mv 23 3,
 mv 24 0,
 qo 25 (.p (nilcF (tt 24))) [pp 24],
 qo 26 (.p (faddrF (tt 25) 3)) [pp 25],
 qo 27 (.r (loadF (tt 26) 1 .sc)) [pp 26],
 qo 28 (.p (nilcF (tt 27))) [pp 27],
 qo 29 (.p (faddrF (tt 28) 5)) [pp 28],
 qo 30 (.r (loadF (tt 29) 1 .sc)) [pp 29],
 qo 31 (.p (eqcF false false [.int .u64] (tt 23) (tt 30))) [pp 23,pp 30],
 mv 32 31,
 mg 33 4 32 true,
 mg 34 0 32 true,
 qg 35 (.p (nilcF (tt 34))) 32 true [pp 34],
 qg 36 (.p (faddrF (tt 35) 3)) 32 true [pp 35],
 qg 37 (.r (loadF (tt 36) 1 .sc)) 32 true [pp 36],
 qg 38 (.c (callF (ff 51) [(tt 37)])) 32 true [pp 37],
 qg 39 (.p (eqcF false false [.int .u64] (tt 33) (tt 38))) 32 true [pp 33,pp 38],
 qo 40 (.p (pickF (tt 32) (tt 39) (.c (.bool false)))) [pp 32,pp 39],
 mv 41 40,
 mg 42 0 41 true,
 qg 43 (.p (nilcF (tt 42))) 41 true [pp 42],
 qg 44 (.p (faddrF (tt 43) 2)) 41 true [pp 43],
 qg 45 (.r (loadF (tt 44) 1 .sc)) 41 true [pp 44],
 qg 46 (.c (callF (ff 57) [(tt 45)])) 41 true [pp 45],
 mg 47 0 41 true,
 qg 48 (.p (nilcF (tt 47))) 41 true [pp 47],
 qg 49 (.p (faddrF (tt 48) 3)) 41 true [pp 48],
 qg 50 (.r (loadF (tt 49) 1 .sc)) 41 true [pp 49],
 qg 51 (.c (callF (ff 55) [(tt 50)])) 41 true [pp 50],
 qg 52 (.p (eqcF false false [.int .i64] (tt 46) (tt 51))) 41 true [pp 46,pp 51],
 qo 53 (.p (pickF (tt 41) (tt 52) (.c (.bool false)))) [pp 41,pp 52],
 mv 54 53,
 mg 55 0 54 true,
 qg 56 (.p (nilcF (tt 55))) 54 true [pp 55],
 qg 57 (.p (faddrF (tt 56) 2)) 54 true [pp 56],
 qg 58 (.r (loadF (tt 57) 1 .sc)) 54 true [pp 57],
 qg 59 (.c (callF (ff 58) [(tt 58)])) 54 true [pp 58],
 mg 60 0 54 true,
 qg 61 (.p (nilcF (tt 60))) 54 true [pp 60],
 qg 62 (.p (faddrF (tt 61) 3)) 54 true [pp 61],
 qg 63 (.r (loadF (tt 62) 1 .sc)) 54 true [pp 62],
 qg 64 (.p (nilcF (tt 63))) 54 true [pp 63],
 qg 65 (.p (faddrF (tt 64) 2)) 54 true [pp 64],
 qg 66 (.r (loadF (tt 65) 1 .sc)) 54 true [pp 65],
 qg 67 (.p (eqcF false false [.int .u64] (tt 59) (tt 66))) 54 true [pp 59,pp 66],
 qo 68 (.p (pickF (tt 54) (tt 67) (.c (.bool false)))) [pp 54,pp 67],
 mv 69 68,
 mg 70 0 69 true,
 qg 71 (.p (nilcF (tt 70))) 69 true [pp 70],
 qg 72 (.p (faddrF (tt 71) 2)) 69 true [pp 71],
 qg 73 (.r (loadF (tt 72) 1 .sc)) 69 true [pp 72],
 qg 74 (.c (callF (ff 59) [(tt 73)])) 69 true [pp 73],
 mg 75 0 69 true,
 qg 76 (.p (nilcF (tt 75))) 69 true [pp 75],
 qg 77 (.p (faddrF (tt 76) 3)) 69 true [pp 76],
 qg 78 (.r (loadF (tt 77) 1 .sc)) 69 true [pp 77],
 qg 79 (.p (nilcF (tt 78))) 69 true [pp 78],
 qg 80 (.p (faddrF (tt 79) 3)) 69 true [pp 79],
 qg 81 (.r (loadF (tt 80) 1 .sc)) 69 true [pp 80],
 qg 82 (.p (eqcF false false [.int .i64] (tt 74) (tt 81))) 69 true [pp 74,pp 81],
 qo 83 (.p (pickF (tt 69) (tt 82) (.c (.bool false)))) [pp 69,pp 82],
 mv 2 83] [0,0,2,6,14,30,62,126,255,511,1023,1023,3071,7167,15359,31743,65535,131071,262143,524287,1048575,2097151,4194303,8388607,524287,17301503,50855935,117964799,268435455,536870911,1073741823,2147483647,4294967295,8589934591,17179869183,34359738367,68719476735,4294967295,141733920767,416611827711,966367641599,2065879269375,4264902524927,8662949036031,17592186044415,35184372088831,70368744177663,140737488355327,281474976710655,562949953421311,1125899906842623,2251799813685247,140737488355327,4644337115725823,13651536370466815,31665934879948799,67694731898912767,139752325936840703,283867514012696575,576460752303423487,1152921504606846975,2305843009213693951]) (
 .ret))))⟩
theorem c12_eq:fnOf Tryz.prog 12=some c12:=by kernel_rfl
theorem LogAt.turns {G G':Heap} {l b:Bk} {id R cnt first tail head:Nat} {N:List Nt} {lv:V} (h:LogAt G l b id R cnt first tail head N lv) (t:Turns Z G G'):LogAt G' l b id R cnt first tail head N lv:=by
 obtain⟨hg,G0,hN,h0⟩:=h.ex
 exact⟨⟨(t.same l h.old (fun h=>h)).trans hg,G0,hN.turns t (fun _ _ h=>h),Nat.le_trans h0 t.next⟩,h.old.mono t.next,h.rb,h.rg,h.fn,h.nl⟩
section
variable {lf K:Nat} (hlf:1000 < lf)
include hlf
section
variable {G:Heap} {l b:Bk} {id R cnt first tail head:Nat} {N:List Nt} {lv:V} (h:LogAt G l b id R cnt first tail head N lv)
include h
theorem ulfreeX (n:Nat):U lf K (n+3) 57 [.ptr (some ⟨l,0⟩)] G=some (.v (.int .i64 ((R:Int) - ((head - tail:Nat):Int))),G):=by
 have e1:=ulnone hlf h (n+1) (K:=K)
 have e2:=urfree hlf (K:=K) G h.rg n
 obtain⟨hg,G0,hN,_⟩:=h.ex
 have k3:cut (lcells b id R cnt first tail head lv) 3 1=some [.int .i64 (R:Int)]:=rfl
 have k6:cut (lcells b id R cnt first tail head lv) 6 1=some [.int .u64 (tail:Int)]:=rfl
 have k7:cut (lcells b id R cnt first tail head lv) 7 1=some [.int .u64 (head:Int)]:=rfl
 obtain⟨v,H',e',rfl,rfl⟩:ret (U lf K (n+3) 57 [.ptr (some ⟨l,0⟩)] G) fun v H'=>v=.int .i64 ((R:Int) - ((head - tail:Nat):Int))∧H'=G:=by
  refine ret_callU rfl rfl c57_eq ?_
  simp (maxDischargeDepth:=12) only[c57,e1,hg,k3,k6,k7,e2,hv,ldO_one,stO_one,sy,tup,↓reduceIte,zA,zG,zC,zD,zF,zE,zB,zH,reduceCtorEq]
  rw[endD_ok (by kernel_rfl) (by kernel_rfl)]
  simp (maxDischargeDepth:=12) only[hv,ldO_one,stO_one,sy,tup,↓reduceIte,zA,zG,zC,zD,zF,zE,zB,zH,reduceCtorEq]
  exact⟨trivial,.inr trivial,_,rfl,rfl,trivial⟩
 exact e'
theorem ulringX (n:Nat):U lf K (n+2) 59 [.ptr (some ⟨l,0⟩)] G=some (.v (.int .i64 (R:Int)),G):=by
 have e1:=ulnone hlf h n (K:=K)
 obtain⟨hg,G0,hN,_⟩:=h.ex
 have k3:cut (lcells b id R cnt first tail head lv) 3 1=some [.int .i64 (R:Int)]:=rfl
 obtain⟨v,H',e',rfl,rfl⟩:ret (U lf K (n+2) 59 [.ptr (some ⟨l,0⟩)] G) fun v H'=>v=.int .i64 (R:Int)∧H'=G:=by
  refine ret_callU rfl rfl c59_eq ?_
  simp (maxDischargeDepth:=12) only[c59,e1,hg,k3,hv,ldO_one,stO_one,sy,tup,↓reduceIte,zA,zG,zC,zD,zF,zE,zB,zH,reduceCtorEq]
  exact⟨trivial,.inr trivial,_,rfl,rfl,trivial⟩
 exact e'
theorem ulidX (n:Nat):U lf K (n+2) 58 [.ptr (some ⟨l,0⟩)] G=some (.v (.int .u64 (id:Int)),G):=by
 have e1:=ulnone hlf h n (K:=K)
 obtain⟨hg,G0,hN,_⟩:=h.ex
 have k2:cut (lcells b id R cnt first tail head lv) 2 1=some [.int .u64 (id:Int)]:=rfl
 obtain⟨v,H',e',rfl,rfl⟩:ret (U lf K (n+2) 58 [.ptr (some ⟨l,0⟩)] G) fun v H'=>v=.int .u64 (id:Int)∧H'=G:=by
  refine ret_callU rfl rfl c58_eq ?_
  simp (maxDischargeDepth:=12) only[c58,e1,hg,k2,hv,ldO_one,stO_one,sy,tup,↓reduceIte,zA,zG,zC,zD,zF,zE,zB,zH,reduceCtorEq]
  exact⟨trivial,.inr trivial,_,rfl,rfl,trivial⟩
 exact e'
end
abbrev desk4 (b r:Bk) (x y:V):List V:=[.ptr (some ⟨b,0⟩),.ptr (some ⟨r,0⟩),x,y]
theorem dalike_nil {G:Heap} {p b r:Bk} (hd:G.get p=some (.rows false 4 [desk4 b r (.ptr none) (.ptr none)])) (n:Nat):ret (U lf K (n+1) 12 [.ptr (some ⟨p,0⟩)] G) fun v G'=>v=.bool true∧Turns Z G G':=by
 have k2:cut (desk4 b r (.ptr none) (.ptr none)) 2 1=some [.ptr none]:=rfl
 have k3:cut (desk4 b r (.ptr none) (.ptr none)) 3 1=some [.ptr none]:=rfl
 refine ret_callU rfl rfl c12_eq ?_
 simp (maxDischargeDepth:=12) (disch:=omega) only[c12,hd,k2,k3,om,hv,ldO_one,stO_one,sy,tup,↓reduceIte,zA,zG,zC,zD,zF,zE,zB,zH,reduceCtorEq]
 exact⟨trivial,.inr trivial,_,rfl,rfl,Turns.refl _ _⟩
theorem dalike {G:Heap} {p b r l m:Bk} (hd:G.get p=some (.rows false 4 [desk4 b r (.ptr (some ⟨l,0⟩)) (.ptr (some ⟨m,0⟩))])) (po:G.Old p) {id R cnt cnt' first tail head:Nat} {N:List Nt} {lv mv:V} (h:LogAt G l b id R cnt first tail head N lv) (k:DLogAt G m r id R cnt' first tail N mv) (hh:head=headN tail N) (n:Nat):ret (U lf K (n+5) 12 [.ptr (some ⟨p,0⟩)] G) fun v G'=>v=.bool true∧Turns Z G G':=by
 obtain⟨v1,G1,e1,rfl,t1⟩:=ullive hlf h (K:=K) (n+2)
 have h1:=h.turns t1
 have k1:=k.turns t1
 have hd1:=(t1.same p po (fun h=>h)).trans hd
 have kN:=dlnext hlf k1 (K:=K) (n+3)
 have hF:=ulfreeX hlf h1 (K:=K) (n+1)
 obtain⟨v2,G2,e2,rfl,g2,nx2,t2⟩:=dlfree hlf k1 (K:=K) n
 rw[← hh] at e2
 have h2:=h1.turns t2
 have hd2:G2.get p=_:=(g2 ▸ rfl:G2.get p=G1.get p).trans hd1
 have hI:=ulidX hlf h2 (K:=K) (n+2)
 have hR:=ulringX hlf h2 (K:=K) (n+2)
 have k2:=k1.turns t2
 have km1:=k1.ex.1
 have km2:=k2.ex.1
 have c2:cut (desk4 b r (.ptr (some ⟨l,0⟩)) (.ptr (some ⟨m,0⟩))) 2 1=some [.ptr (some ⟨l,0⟩)]:=rfl
 have c3:cut (desk4 b r (.ptr (some ⟨l,0⟩)) (.ptr (some ⟨m,0⟩))) 3 1=some [.ptr (some ⟨m,0⟩)]:=rfl
 have d2:cut (dcells r id R cnt' first tail mv) 2 1=some [.int .u64 (id:Int)]:=rfl
 have d3:cut (dcells r id R cnt' first tail mv) 3 1=some [.int .i64 (R:Int)]:=rfl
 have d5:cut (dcells r id R cnt' first tail mv) 5 1=some [.int .u64 (first:Int)]:=rfl
 generalize hfr:(R:Int) - ((head - tail:Nat):Int)=fr at *
 generalize hnx:first+N.length=nx at *
 have hQ:∀ x ∈ [lq 49 ⟨p,3⟩ (.ptr (some ⟨m,0⟩)) G1,lq 49 ⟨p,3⟩ (.ptr (some ⟨m,0⟩)) G1,lq 62 ⟨p,3⟩ (.ptr (some ⟨m,0⟩)) G2,lq 62 ⟨p,3⟩ (.ptr (some ⟨m,0⟩)) G2,lq 65 ⟨m,2⟩ (.int .u64 (id:Int)) G2,lq 65 ⟨m,2⟩ (.int .u64 (id:Int)) G2,lq 77 ⟨p,3⟩ (.ptr (some ⟨m,0⟩)) G2,lq 77 ⟨p,3⟩ (.ptr (some ⟨m,0⟩)) G2,lq 80 ⟨m,3⟩ (.int .i64 (R:Int)) G2,lq 80 ⟨m,3⟩ (.int .i64 (R:Int)) G2],x.1=x.2:=by
  intro x hx
  simp only[List.mem_cons,List.not_mem_nil,or_false] at hx
  rcases hx with rfl | rfl | rfl | rfl | rfl | rfl | rfl | rfl | rfl | rfl<;>refine lq_ok ?_ rfl<;>simp (maxDischargeDepth:=12) (disch:=omega) only[hd1,hd2,km2,c3,d2,d3,om,hv,ldO_one,stO_one,sy,tup,↓reduceIte,zA,zG,zC,zD,zF,zE,zB,zH,reduceCtorEq]
 have t3:=(t1.trans t2).owe hQ
 have c2':cut (desk4 b r (.ptr (some ⟨l,0⟩)) (.ptr (some ⟨m,0⟩))) 2 1=some [.ptr (some ⟨l,0⟩)]:=rfl
 refine ret_callU rfl rfl c12_eq ?_
 simp (maxDischargeDepth:=12) (disch:=omega) only[c12,hd,c2,c3,e1,hd1,km1,d5,kN,hF,e2,hd2,hI,km2,d2,hR,d3,om,hv,ldO_one,stO_one,sy,tup,↓reduceIte,zA,zG,zC,zD,zF,zE,zB,zH,reduceCtorEq]
 rw[endD_q (q:=[lq 49 ⟨p,3⟩ (.ptr (some ⟨m,0⟩)) G1,lq 49 ⟨p,3⟩ (.ptr (some ⟨m,0⟩)) G1,lq 62 ⟨p,3⟩ (.ptr (some ⟨m,0⟩)) G2,lq 62 ⟨p,3⟩ (.ptr (some ⟨m,0⟩)) G2,lq 65 ⟨m,2⟩ (.int .u64 (id:Int)) G2,lq 65 ⟨m,2⟩ (.int .u64 (id:Int)) G2,lq 77 ⟨p,3⟩ (.ptr (some ⟨m,0⟩)) G2,lq 77 ⟨p,3⟩ (.ptr (some ⟨m,0⟩)) G2,lq 80 ⟨m,3⟩ (.int .i64 (R:Int)) G2,lq 80 ⟨m,3⟩ (.int .i64 (R:Int)) G2]) (by kernel_rfl) (by kernel_rfl)]
 simp (maxDischargeDepth:=12) (disch:=omega) only[om,hv,ldO_one,stO_one,sy,tup,↓reduceIte,zA,zG,zC,zD,zF,zE,zB,zH,reduceCtorEq]
 exact⟨trivial,.inr trivial,_,rfl,rfl,t3⟩
end
end Go.Proofs.YtllkepkaimnodaaGreatDoor.draft
namespace Go.Proofs.YtllkepkaimnodaaGreatDoor.draft
open Go.Am
noncomputable def c173:CFn:=⟨[.tmp (pp 2)],
 .seq (.reg [
 qo 1 (.m (boxF 2 (tt 0))) [pp 0],
 qo 2 (.p (S.get (.c (.bool false)))) []]) (
 .seq (.reg [
 qo 3 (.p (faddrF (tt 1) 0)) [pp 1],
 qo 4 (.r (loadF (tt 3) 1 .sc)) [pp 3],
 qo 5 (.p (arF .geq (tt 4) (ii 0))) [pp 4],
 mv 6 5,
 qg 7 (.p (faddrF (tt 1) 0)) 6 true [pp 1],
 qg 8 (.r (loadF (tt 7) 1 .sc)) 6 true [pp 7],
 qg 9 (.p (arF .lss (tt 8) (ii 64))) 6 true [pp 8],
 qo 10 (.p (pickF (tt 6) (tt 9) (.c (.bool false)))) [pp 6,pp 9],
 mv 11 10,
 qg 12 (.p (faddrF (tt 1) 1)) 11 true [pp 1],
 qg 13 (.r (loadF (tt 12) 1 .sc)) 11 true [pp 12],
 qg 14 (.p (arF .geq (tt 13) (ii 0))) 11 true [pp 13],
 qo 15 (.p (pickF (tt 11) (tt 14) (.c (.bool false)))) [pp 11,pp 14],
 mv 16 15,
 qg 17 (.p (faddrF (tt 1) 1)) 16 true [pp 1],
 qg 18 (.r (loadF (tt 17) 1 .sc)) 16 true [pp 17],
 qg 19 (.p (arF .lss (tt 18) (ii 16))) 16 true [pp 18],
 qo 20 (.p (pickF (tt 16) (tt 19) (.c (.bool false)))) [pp 16,pp 19],
 mv 2 20]) (
 .ret))⟩
theorem c173_eq:fnOf Tryz.prog 173=some c173:=by kernel_rfl
theorem dcmay {lf:Nat} (hlf:1000 < lf) (H:Heap) (st m:Int) (n:Nat):ret (callS Tryz.prog S0 lf (n+1) 173 [.agg [.int .i64 st,.int .i64 m]] H) fun v H'=>v=.bool (mayP st m)∧Turns Z H H':=by
 have hw:width [V.int .i64 st,.int .i64 m]=2:=rfl
 have k0:cut [V.int .i64 st,.int .i64 m] 0 1=some [.int .i64 st]:=rfl
 have k1:cut [V.int .i64 st,.int .i64 m] 1 1=some [.int .i64 m]:=rfl
 refine ret_call rfl c173_eq ?_
 unfold mayP
 by_cases h0:0≤st<;>by_cases h1:st < 64<;>by_cases h2:0≤m<;>by_cases h3:m < 16
 all_goals
  try (exfalso;omega)
 all_goals
  simp (maxDischargeDepth:=12) (disch:=omega) only[c173,hw,k0,k1,om,hv,ldO_one,stO_one,sy,tup,↓reduceIte,zA,zG,zC,zD,zF,zE,zB,zH,reduceCtorEq]
  exact⟨trivial,.inr trivial,_,rfl,rfl,Turns.add Z H _⟩
end Go.Proofs.YtllkepkaimnodaaGreatDoor.draft
namespace Go.Proofs.YtllkepkaimnodaaGreatDoor.draft
open Go.Am
noncomputable def c128_l0:C:=.seq (.seq (.reg [
 mv 5 4,
 mv 6 0,
 qo 7 (.p (lenF (tt 6))) [pp 6],
 qo 8 (.p (arF .lss (tt 5) (tt 7))) [pp 5,pp 7]]) (
 .cond (tt 8) (.skip) (.exit 0))) (
 .seq (.block 1 (.reg [
 mv 11 3,
 mv 12 0,
 mv 13 4,
 qo 14 (.p (iaddrSF (tt 12) (tt 13) 64)) [pp 12,pp 13],
 qo 15 (.p (sliceAF 64 1 (tt 14) none none none)) [pp 14],
 qo 16 (.c (callF (ff 178) [(tt 11),(tt 15)])) [pp 11,pp 15],
 mv 3 16])) (
 .reg [
 mv 9 4,
 qo 10 (.p (arF .add (tt 9) (ii 1))) [pp 9],
 mv 4 10]))
noncomputable def c128:CFn:=⟨[.tmp (pp 2)],
 .seq (.reg [
 qo 2 (.p (S.get (.c (.int .u32 0)))) []]) (
 .seq (.reg [
 qo 3 (.p (S.get (.c (.int .u32 0)))) []]) (
 .seq (.seq (.reg [
 qo 4 (.p (S.get (ii 0))) []]) (
 .block 0 (.loop c128_l0))) (
 .seq (.reg [
 mv 17 3,
 mv 2 17]) (
 .ret))))⟩
theorem c128_eq:fnOf Tryz.prog 128=some c128:=by kernel_rfl
section
variable {lf K:Nat} (hlf:1000 < lf)
include hlf
theorem dmore {G:Heap} {r:Nat} (hr:r < 4294967296) {p:Ptr} {cp z:Nat} {c:Nat→Nat} (hc:∀ i,c i < 256) (hd:∀ i,i < 64→ldO (G.get p.b) (p.o+i) 1=some [.int .u8 (c i:Int)]) (po:G.Old p.b) (n:Nat) :
  ret (U lf K (n+2) 178 [.int .u32 (r:Int),.slice (some p) 64 cp z] G) fun v G'=>v=.int .u32 ((notN (crcZ (notN r) c 64):Nat):Int)∧Turns Z G G':=by
 have u0:=not_u32 hr
 have hz:=notN_lt hr
 have hloop:∀ t:T,t.getP (Tr.path 1)=some (.slice (some p) 64 cp z)→t.getP (Tr.path 5)=some (.int .u32 ((notN r:Nat):Int))→t.getP (Tr.path 6)=some (.int .i64 0) →
   wp (loopF (runC (U lf K (n+1)) lf c178_l0) lf ⟨t,G,[]⟩) fun x s=>x=.ex 0∧s.d=[]∧Turns Z G s.H∧s.t.getP (Tr.path 5)=some (.int .u32 ((crcZ (notN r) c 64:Nat):Int)):=by
  intro t q1 q5 q6
  refine wp_loopF (fun m s=>∃ i:Nat,m=64 - i∧i≤64∧s.d=[]∧Turns Z G s.H∧s.t.getP (Tr.path 1)=some (.slice (some p) 64 cp z)∧s.t.getP (Tr.path 5)=some (.int .u32 ((crcZ (notN r) c i:Nat):Int))∧s.t.getP (Tr.path 6)=some (.int .i64 (i:Int))) ?_ lf 64 _ ⟨0,rfl,by omega,rfl,Turns.refl _ _,q1,q5,q6⟩ (by omega)
  rintro m ⟨t,HH,d⟩ ⟨i,rfl,hi,hd',hT,q1,q5,q6⟩
  dsimp only at hd' hT q1 q5 q6
  subst hd'
  by_cases hlt:i < 64
  ·have lk:=hd i hlt
   rw[← hT.same p.b po (fun h=>h)] at lk
   have hcr:=crcZ_lt (c:=c) (n:=i) hz (fun j _=>hc j)
   have tk:=qp_ashlarref02_Take (lf:=lf) (K:=K) (w:=n) (G:=HH) (fun H=>⟨_,_,rtake8_ok H hcr (hc i) (show 17 < lf by omega) 58,rfl,Turns.refl _ _⟩)
   have hs:crcZ (notN r) c (i+1)=crc.takeN (crcZ (notN r) c i) (c i):=rfl
   rw[← hs] at tk
   obtain⟨a',ha'⟩:∃ a',a'=crcZ (notN r) c (i+1):=⟨_,rfl⟩
   rw[← ha'] at tk
   generalize crcZ (notN r) c i=a at *
   generalize c i=ci at *
   simp (maxDischargeDepth:=12) (disch:=omega) only[c178_l0,q1,q5,q6,lk,tk,Nat.mul_one,om,hv,ldO_one,stO_one,sy,tup,↓reduceIte,zA,zG,zC,zD,zF,zE,zB,zH,reduceCtorEq]
   exact⟨64 - (i+1),by omega,i+1,rfl,by omega,trivial,hT.skip _,by simp[q1],by simp[ha'],by simp⟩
  ·have:i=64:=by omega
   subst this
   simp (maxDischargeDepth:=12) (disch:=omega) only[c178_l0,q1,q6,om,hv,ldO_one,stO_one,sy,tup,↓reduceIte,zA,zG,zC,zD,zF,zE,zB,zH,reduceCtorEq]
   exact⟨trivial,trivial,hT,q5⟩
 have un:=not_u32 (crcZ_lt (c:=c) (n:=64) hz (fun j _=>hc j))
 refine ret_callU rfl rfl c178_eq ?_
 simp (maxDischargeDepth:=12) (disch:=omega) only[c178,u0,om,hv,ldO_one,stO_one,sy,tup,↓reduceIte,zA,zG,zC,zD,zF,zE,zB,zH,reduceCtorEq]
 refine wp_ctx (F:=fun r=>seqC _ _ _ (blockC _ r)) (hloop _ ?_ ?_ ?_) ?_
 ·simp only[sy,tup,↓reduceIte,zA,zG,zC,zD,zF,zE,zB,zH,reduceCtorEq]
 ·simp only[sy,tup,↓reduceIte,zA,zG,zC,zD,zF,zE,zB,zH,reduceCtorEq]
 ·simp only[sy,tup,↓reduceIte,zA,zG,zC,zD,zF,zE,zB,zH,reduceCtorEq]
 rintro x ⟨t,HH,d⟩ ⟨rfl,hd',hT,q5⟩
 dsimp only at hd' hT q5
 subst hd'
 simp (maxDischargeDepth:=12) (disch:=omega) only[q5,un,om,hv,ldO_one,stO_one,sy,tup,↓reduceIte,zA,zG,zC,zD,zF,zE,zB,zH,reduceCtorEq]
 exact⟨trivial,.inr trivial,_,rfl,rfl,hT⟩
theorem dsum {G:Heap} {m cp z L:Nat} {A:List Nat} (hm:G.get (.run m)=some (.rows false 64 (rowsK A))) (mo:m < G.next) (hA:A.length=L) (hL:L≤900) (n:Nat):ret (U lf K (n+3) 128 [.slice (some ⟨.run m,0⟩) L cp z] G) fun v G'=>v=.int .u32 (sumB A:Int)∧Turns Z G G':=by
 have hloop:∀ t:T,t.getP (Tr.path 0)=some (.slice (some ⟨.run m,0⟩) L cp z)→t.getP (Tr.path 3)=some (.int .u32 0)→t.getP (Tr.path 4)=some (.int .i64 0) →
   wp (loopF (runC (U lf K (n+2)) lf c128_l0) lf ⟨t,G,[]⟩) fun x s=>x=.ex 0∧s.d=[]∧Turns Z G s.H∧s.t.getP (Tr.path 3)=some (.int .u32 (sumB A:Int)):=by
  intro t q0 q3 q4
  refine wp_loopF (fun k s=>∃ i:Nat,k=L - i∧i≤L∧s.d=[]∧Turns Z G s.H∧s.t.getP (Tr.path 0)=some (.slice (some ⟨.run m,0⟩) L cp z)∧s.t.getP (Tr.path 3)=some (.int .u32 (sumB (A.take i):Int))∧s.t.getP (Tr.path 4)=some (.int .i64 (i:Int))) ?_ lf L _ ⟨0,rfl,by omega,rfl,Turns.refl _ _,q0,q3,q4⟩ (by omega)
  rintro k ⟨t,HH,d⟩ ⟨i,rfl,hi,hd,hT,q0,q3,q4⟩
  dsimp only at hd hT q0 q3 q4
  subst hd
  by_cases hlt:i < L
  ·have hgm:=(hT.same (.run m) mo (fun h=>h)).trans hm
   have hiA:i < A.length:=by omega
   have hs:sumB (A.take (i+1))=notN (crcZ (notN (sumB (A.take i))) (byte A[i]) 64):=by rw[List.take_succ_eq_append_getElem hiA,sumB_app]
   have hsl:=sumB_lt (A.take i)
   obtain⟨v1,H1,e1,rfl,t1⟩:=dmore hlf (K:=K) (G:=HH) hsl (p:=⟨.run m,i*64⟩) (cp:=64) (z:=0) (c:=byte A[i]) (fun j=>byte_lt _ _) (fun j hj=>by show ldO (HH.get (.run m)) (i*64+j) 1=_;rw[hgm,ldK_byte hiA hj,getD_get hiA]) (Nat.lt_of_lt_of_le mo hT.next) n
   rw[← hs] at e1
   obtain⟨a',ha'⟩:∃ a',a'=sumB (A.take (i+1)):=⟨_,rfl⟩
   rw[← ha'] at e1
   generalize sumB (A.take i)=a at *
   simp (maxDischargeDepth:=12) (disch:=omega) only[c128_l0,q0,q3,q4,e1,sliceAF,bounds,boundD,oget,om,hv,ldO_one,stO_one,sy,tup,↓reduceIte,zA,zG,zC,zD,zF,zE,zB,zH,reduceCtorEq]
   exact⟨L - (i+1),by omega,i+1,rfl,by omega,trivial,hT.trans t1,by simp[q0],by simp[ha'],by simp⟩
  ·simp (maxDischargeDepth:=12) (disch:=omega) only[c128_l0,q0,q4,om,hv,ldO_one,stO_one,sy,tup,↓reduceIte,zA,zG,zC,zD,zF,zE,zB,zH,reduceCtorEq]
   rw[List.take_of_length_le (by omega)] at q3
   exact⟨trivial,trivial,hT,q3⟩
 refine ret_callU rfl rfl c128_eq ?_
 simp (maxDischargeDepth:=12) (disch:=omega) only[c128,om,hv,ldO_one,stO_one,sy,tup,↓reduceIte,zA,zG,zC,zD,zF,zE,zB,zH,reduceCtorEq]
 refine wp_ctx (F:=fun r=>seqC _ _ _ (blockC _ r)) (hloop _ ?_ ?_ ?_) ?_
 ·simp only[sy,tup,↓reduceIte,zA,zG,zC,zD,zF,zE,zB,zH,reduceCtorEq]
 ·simp only[sy,tup,↓reduceIte,zA,zG,zC,zD,zF,zE,zB,zH,reduceCtorEq]
 ·simp only[sy,tup,↓reduceIte,zA,zG,zC,zD,zF,zE,zB,zH,reduceCtorEq]
 rintro x ⟨t,HH,d⟩ ⟨rfl,hd',hT,q3⟩
 dsimp only at hd' hT q3
 subst hd'
 simp (maxDischargeDepth:=12) (disch:=omega) only[q3,om,hv,ldO_one,stO_one,sy,tup,↓reduceIte,zA,zG,zC,zD,zF,zE,zB,zH,reduceCtorEq]
 exact⟨trivial,.inr trivial,_,rfl,rfl,hT⟩
end
end Go.Proofs.YtllkepkaimnodaaGreatDoor.draft
namespace Go.Proofs.YtllkepkaimnodaaGreatDoor.draft
open Go.Am
noncomputable def c130_l0:C:=.seq (.seq (.reg [
 mv 93 12,
 mv 94 7,
 qo 95 (.p (lenF (tt 94))) [pp 94],
 qo 96 (.p (arF .lss (tt 93) (tt 95))) [pp 93,pp 95]]) (
 .cond (tt 96) (.skip) (.exit 4))) (
 .seq (.block 5 (.seq (.reg [
 mv 99 7,
 mv 100 12,
 qo 101 (.p (iaddrSF (tt 99) (tt 100) 1)) [pp 99,pp 100],
 qo 102 (.r (loadF (tt 101) 1 .sc)) [pp 101],
 qo 103 (.p (eqcF true false [.int .u8] (tt 102) (.c (.int .u8 0)))) [pp 102]]) (
 .cond (tt 103) (.seq (.reg [
 qo 4 (.p (S.get (.c (.slice none 0 0 0)))) [],
 qo 5 (.p (S.get (ii 5))) []]) (
 .ret)) (.skip)))) (
 .reg [
 mv 97 12,
 qo 98 (.p (arF .add (tt 97) (ii 1))) [pp 97],
 mv 12 98]))
noncomputable def c130_l1:C:=.seq (.seq (.reg [
 mv 40 10,
 mv 41 1,
 qo 42 (.p (arF .lss (tt 40) (tt 41))) [pp 40,pp 41]]) (
 .cond (tt 42) (.skip) (.exit 2))) (
 .seq (.block 3 (.seq (.regD [
 mv 45 7,
 mv 46 10,
 qo 47 (.p (arF .mul (ii 4) (tt 46))) [pp 46],
 qo 48 (.p (iaddrSF (tt 45) (tt 47) 1)) [pp 45,pp 47],
 qo 49 (.r (loadF (tt 48) 1 .sc)) [pp 48],
 qo 50 (.p (convF .i64 (tt 49))) [pp 49],
 mv 51 7,
 mv 52 10,
 qo 53 (.p (arF .mul (ii 4) (tt 52))) [pp 52],
 qo 54 (.p (arF .add (tt 53) (ii 1))) [pp 53],
 qo 55 (.p (iaddrSF (tt 51) (tt 54) 1)) [pp 51,pp 54],
 qo 56 (.r (loadF (tt 55) 1 .sc)) [pp 55],
 qo 57 (.p (convF .i64 (tt 56))) [pp 56],
 qo 58 (.p (arF .mul (ii 256) (tt 57))) [pp 57],
 qo 59 (.p (arF .add (tt 50) (tt 58))) [pp 50,pp 58],
 mv 60 7,
 mv 61 10,
 qo 62 (.p (arF .mul (ii 4) (tt 61))) [pp 61],
 qo 63 (.p (arF .add (tt 62) (ii 2))) [pp 62],
 qo 64 (.p (iaddrSF (tt 60) (tt 63) 1)) [pp 60,pp 63],
 qo 65 (.r (loadF (tt 64) 1 .sc)) [pp 64],
 qo 66 (.p (convF .i64 (tt 65))) [pp 65],
 qo 67 (.p (buildF [.int .i64 0,.int .i64 0] .ag [(0,1,(tt 59)),(1,1,(tt 66))])) [pp 59,pp 66],
 qo 11 (.m (allocF 2 [.int .i64 0,.int .i64 0])) [],
 qn (.a (storeF (tt 11) (tt 67) 2)) [pp 11,pp 67]] [0,0,2,7,15,31,0,0,128,384,960,1984,4032,8128,16383,0,0,65536,196608,491520,1015808,2064384,4194303,0,16777215]) (
 .seq (.seq (.reg [
 qo 68 (.r (loadF (tt 11) 2 .ag)) [pp 11],
 qo 69 (.c (callF (ff 173) [(tt 68)])) [pp 68],
 qo 70 (.p (unF .not (tt 69))) [pp 69],
 mv 71 70,
 mg 72 7 71 false,
 mg 73 10 71 false,
 qg 74 (.p (arF .mul (ii 4) (tt 73))) 71 false [pp 73],
 qg 75 (.p (arF .add (tt 74) (ii 3))) 71 false [pp 74],
 qg 76 (.p (iaddrSF (tt 72) (tt 75) 1)) 71 false [pp 72,pp 75],
 qg 77 (.r (loadF (tt 76) 1 .sc)) 71 false [pp 76],
 qg 78 (.p (eqcF true false [.int .u8] (tt 77) (.c (.int .u8 0)))) 71 false [pp 77],
 qo 79 (.p (pickF (tt 71) (.c (.bool true)) (tt 78))) [pp 71,pp 78]]) (
 .cond (tt 79) (.seq (.reg [
 qo 4 (.p (S.get (.c (.slice none 0 0 0)))) [],
 qo 5 (.p (S.get (ii 5))) []]) (
 .ret)) (.skip))) (
 .regD [
 mv 80 9,
 qo 81 (.r (loadF (tt 11) 2 .ag)) [pp 11],
 mv 82 0,
 mv 83 6,
 mv 84 10,
 qo 85 (.p (arF .add (tt 83) (tt 84))) [pp 83,pp 84],
 qo 86 (.p (iaddrSF (tt 82) (tt 85) 64)) [pp 82,pp 85],
 qo 87 (.r (loadF (tt 86) 64 .bk)) [pp 86],
 qo 88 (.p (buildF [.int .i64 0,.int .i64 0,.blk 0] .ag [(0,2,(tt 81)),(2,64,(tt 87))])) [pp 81,pp 87],
 qo 89 (.m (bsliceF 1 66 [.int .i64 0,.int .i64 0,.blk 0] [(0,66,(tt 88))])) [pp 88],
 qo 90 (.a (appF 66 80 (tt 80) (tt 89))) [pp 80,pp 89],
 mv 9 90] [0,0,0,0,0,24,60,124,254,510,1023,2047])))) (
 .reg [
 mv 43 10,
 qo 44 (.p (arF .add (tt 43) (ii 1))) [pp 43],
 mv 10 44]))
noncomputable def c130_l2:C:=.seq (.seq (.reg [
 mv 28 8,
 mv 29 6,
 qo 30 (.p (arF .lss (tt 28) (tt 29))) [pp 28,pp 29]]) (
 .cond (tt 30) (.skip) (.exit 0))) (
 .seq (.block 1 (.reg [
 mv 33 7,
 mv 34 0,
 mv 35 8,
 qo 36 (.p (iaddrSF (tt 34) (tt 35) 64)) [pp 34,pp 35],
 qo 37 (.p (sliceAF 64 1 (tt 36) none none none)) [pp 36],
 qo 38 (.c (callF (ff 165) [(tt 37)])) [pp 37],
 qo 39 (.a (appF 1 1 (tt 33) (tt 38))) [pp 33,pp 38],
 mv 7 39])) (
 .reg [
 mv 31 8,
 qo 32 (.p (arF .add (tt 31) (ii 1))) [pp 31],
 mv 8 32]))
noncomputable def c130:CFn:=⟨[.tmp (pp 4),.tmp (pp 5)],
 .seq (.reg [
 qo 4 (.p (S.get (.c (.slice none 0 0 0)))) [],
 qo 5 (.p (S.get (ii 0))) []]) (
 .seq (.seq (.reg [
 mv 13 1,
 qo 14 (.c (callF (ff 54) [(tt 13)])) [pp 13],
 qo 15 (.p (eqcF false false [.int .i64] (tt 14) (ii 0))) [pp 14]]) (
 .cond (tt 15) (.seq (.reg [
 qo 4 (.p (S.get (.c (.slice none 0 0 0)))) [],
 qo 5 (.p (S.get (ii 2))) []]) (
 .ret)) (.skip))) (
 .seq (.seq (.reg [
 mv 16 0,
 qo 17 (.p (lenF (tt 16))) [pp 16],
 mv 18 1,
 qo 19 (.c (callF (ff 54) [(tt 18)])) [pp 18],
 qo 20 (.p (arF .lss (tt 17) (tt 19))) [pp 17,pp 19]]) (
 .cond (tt 20) (.seq (.reg [
 qo 4 (.p (S.get (.c (.slice none 0 0 0)))) [],
 qo 5 (.p (S.get (ii 4))) []]) (
 .ret)) (.skip))) (
 .seq (.seq (.reg [
 mv 21 0,
 qo 22 (.p (lenF (tt 21))) [pp 21],
 mv 23 1,
 qo 24 (.c (callF (ff 54) [(tt 23)])) [pp 23],
 qo 25 (.p (arF .gtr (tt 22) (tt 24))) [pp 22,pp 24]]) (
 .cond (tt 25) (.seq (.reg [
 qo 4 (.p (S.get (.c (.slice none 0 0 0)))) [],
 qo 5 (.p (S.get (ii 5))) []]) (
 .ret)) (.skip))) (
 .seq (.reg [
 mv 26 1,
 qo 27 (.c (callF (ff 124) [(tt 26)])) [pp 26],
 mv 6 27]) (
 .seq (.reg [
 qo 7 (.p (S.get (.c (.slice none 0 0 0)))) []]) (
 .seq (.seq (.reg [
 qo 8 (.p (S.get (ii 0))) []]) (
 .block 0 (.loop c130_l2))) (
 .seq (.reg [
 qo 9 (.p (S.get (.c (.slice none 0 0 0)))) []]) (
 .seq (.seq (.reg [
 qo 10 (.p (S.get (ii 0))) []]) (
 .block 2 (.loop c130_l1))) (
 .seq (.seq (.reg [
 mv 91 1,
 qo 92 (.p (arF .mul (ii 4) (tt 91))) [pp 91],
 mv 12 92]) (
 .block 4 (.loop c130_l0))) (
 .seq (.reg [
 mv 104 9,
 mv 4 104,
 qo 5 (.p (S.get (ii 0))) []]) (
 .ret)))))))))))⟩
theorem c130_eq:fnOf Tryz.prog 130=some c130:=by kernel_rfl
theorem elems_K {H:Heap} {m:Nat} {A:List Nat} {q:Nat} (hm:H.get (.run m)=some (.rows false 64 (rowsK A))) (hq:q < A.length):∀ n j,j+n≤64→elems H (.run m) 1 n (q*64+j)=some (rowsN (stl (byte A[q]) n j))
 | 0,_,_=>rfl
 | n+1,j,h=>by
  unfold elems
  rw[ld_get,hm,ldK_byte hq (by omega),getD_get hq]
  simp only
  rw[show Nat.add (q*64+j) 1=q*64+(j+1) from rfl,elems_K hm hq n (j+1) (by omega)]
  rfl
noncomputable def rowA (A:List Nat):Nat→List Nat
 | 0=>[]
 | k+1=>rowA A k++stl (byte (A.getD k 0)) 64 0
theorem rowA_len (A:List Nat):∀ k,(rowA A k).length=64*k
 | 0=>rfl
 | k+1=>by rw[rowA,List.length_append,rowA_len A k,stl_len];omega
theorem rowA_get (A:List Nat):∀ k j,j < 64*k→(rowA A k)[j]?=some (byte (A.getD (j / 64) 0) (j % 64))
 | 0,j,h=>by omega
 | k+1,j,h=>by
  rw[rowA]
  by_cases c:j < 64*k
  ·rw[apdL (rowA_len A k) c,rowA_get A k j c]
  ·obtain⟨i,rfl⟩:∃ i,j=64*k+i:=⟨j - 64*k,by omega⟩
   rw[apdR (rowA_len A k),stl_atD _ _ _ _ (by omega),Nat.zero_add,show (64*k+i) / 64=k by omega,show (64*k+i) % 64=i by omega]
theorem rowA_ld {H0 H:Heap} {A:List Nat} {k:Nat} {y:V} (h:Lst H0 H 1 (rowsN (rowA A k)) y) (hk:1≤k):∃ m,y=.slice (some ⟨.run m,0⟩) (64*k) (64*k) 1∧m < H.next∧∀ j,j < 64*k→ldO (H.get (.run m)) j 1=some [.int .u8 (byte (A.getD (j / 64) 0) (j % 64):Int)]:=by
 have hl:=rowA_len A k
 obtain⟨m,e,h1,h2⟩:=bload h (fun e=>by rw[e] at hl;simp at hl;omega)
 refine⟨m,by rw[e,hl],h1,fun j hj=>?_⟩
 have:=h2 j (by omega)
 rwa [ld_get,List.getD_eq_getElem?_getD,rowA_get A k j hj] at this
section
variable {lf K:Nat} (hlf:1000 < lf)
include hlf
theorem ducopy {G:Heap} {m:Nat} {A:List Nat} {q:Nat} (hm:G.get (.run m)=some (.rows false 64 (rowsK A))) (hq:q < A.length) (n:Nat):U lf K (n+1) 165 [.slice (some ⟨.run m,q*64⟩) 64 64 0] G=some (.v (.slice (some ⟨.run G.next,0⟩) 64 64 1),G.add (.rows false 1 (rowsN (stl (byte A[q]) 64 0)))):=by
 have he:firstE G 1 (.slice (some ⟨.run m,q*64⟩) 64 64 0)=some (rowsN (stl (byte A[q]) 64 0)):=elems_K hm hq 64 0 (by omega)
 generalize rowsN (stl (byte A[q]) 64 0)=R at *
 have ea:appendV 1 1 G (.slice none 0 0 0) (.slice (some ⟨.run m,q*64⟩) 64 64 0)=some (.slice (some ⟨.run G.next,0⟩) 64 64 1,G.add (.rows false 1 R)):=by
  unfold appendV
  simp only[lenOf,he]
  rfl
 obtain⟨v,H',e',rfl,rfl⟩:ret (U lf K (n+1) 165 [.slice (some ⟨.run m,q*64⟩) 64 64 0] G) fun v H'=>v=.slice (some ⟨.run G.next,0⟩) 64 64 1∧H'=G.add (.rows false 1 R):=by
  refine ret_callU rfl rfl c165_eq ?_
  simp (maxDischargeDepth:=12) (disch:=omega) only[c165,ea,om,hv,ldO_one,stO_one,sy,tup,↓reduceIte,zA,zG,zC,zD,zF,zE,zB,zH,reduceCtorEq]
  exact⟨trivial,.inr trivial,_,rfl,rfl,trivial⟩
 exact e'
theorem dget_row {G:Heap} {w cp z k L:Nat} {A:List Nat} (hw:G.get (.run w)=some (.rows false 64 (rowsK A))) (wo:w < G.next) (hA:A.length=L) (hk:k≤L) (hk2:k≤10) {v1:V} (n:Nat):∀ t:T,t.getP (Tr.path 0)=some (.slice (some ⟨.run w,0⟩) L cp z)→t.getP (Tr.path 1)=some v1→t.getP (Tr.path 6)=some (.int .i64 (k:Int))→t.getP (Tr.path 7)=some (.slice none 0 0 0)→t.getP (Tr.path 8)=some (.int .i64 0) →
  wp (loopF (runC (U lf K (n+1)) lf c130_l2) lf ⟨t,G,[]⟩) fun x s=>x=.ex 0∧s.d=[]∧Turns Z G s.H∧s.t.getP (Tr.path 0)=some (.slice (some ⟨.run w,0⟩) L cp z)∧s.t.getP (Tr.path 1)=some v1∧s.t.getP (Tr.path 6)=some (.int .i64 (k:Int))∧∃ y,s.t.getP (Tr.path 7)=some y∧Lst G s.H 1 (rowsN (rowA A k)) y:=by
 intro t q0 q1 q6 q7 q8
 refine wp_loopF (fun u s=>∃(i:Nat) (y:V),u=k - i∧i≤k∧s.d=[]∧Turns Z G s.H∧s.t.getP (Tr.path 0)=some (.slice (some ⟨.run w,0⟩) L cp z)∧s.t.getP (Tr.path 1)=some v1∧s.t.getP (Tr.path 6)=some (.int .i64 (k:Int))∧s.t.getP (Tr.path 7)=some y∧s.t.getP (Tr.path 8)=some (.int .i64 (i:Int))∧Lst G s.H 1 (rowsN (rowA A i)) y) ?_ lf k _ ⟨0,_,rfl,by omega,rfl,Turns.refl _ _,q0,q1,q6,q7,q8,Lst.nil _ _ _⟩ (by omega)
 rintro u ⟨t,HH,d⟩ ⟨i,y,rfl,hi,hd,hT,q0,q1,q6,q7,q8,hy⟩
 dsimp only at hd hT q0 q1 q6 q7 q8 hy
 subst hd
 by_cases hlt:i < k
 ·have hwH:=(hT.same (.run w) wo (fun h=>h)).trans hw
  have hiA:i < A.length:=by omega
  have eC:=ducopy hlf (K:=K) hwH hiA n
  have hr:rowA A (i+1)=rowA A i++stl (byte A[i]) 64 0:=by rw[rowA,getD_get hiA]
  have hsl:=stl_len (byte A[i]) 64 0
  obtain⟨R,hR⟩:∃ R,R=stl (byte A[i]) 64 0:=⟨_,rfl⟩
  rw[← hR] at eC hr hsl
  have t1:=Turns.add Z HH (.rows false 1 (rowsN R))
  have lx:Lst HH (HH.add (.rows false 1 (rowsN R))) 1 (rowsN R) (.slice (some ⟨.run HH.next,0⟩) 64 64 1):=lst_new (fun e=>by rw[e] at hsl;cases hsl) hsl.symm
  obtain⟨H1,hH1⟩:∃ X,HH.add (.rows false 1 (rowsN R))=X:=⟨_,rfl⟩
  rw[hH1] at eC t1 lx
  have hy1:=hy.turns t1 (fun _ _ h=>h)
  obtain⟨v2,H2,ea,hy2,t2⟩:=appL hy1 lx (rowsN_bytes _) (hT.trans t1).next (by rw[rowsN_len,rowsN_len,hsl,rowA_len];omega)
  have t2':=lst_away hy1 (hT.trans t1) (Nat.le_refl _) t2
  simp (maxDischargeDepth:=12) (disch:=omega) only[c130_l2,q0,q6,q7,q8,eC,ea,sliceAF,bounds,boundD,oget,om,hv,ldO_one,stO_one,sy,tup,↓reduceIte,zA,zG,zC,zD,zF,zE,zB,zH,reduceCtorEq]
  exact⟨k - (i+1),by omega,i+1,v2,rfl,by omega,trivial,t2',by simp[q0],by simp[q1],by simp[q6],by simp,by simp,by rw[hr,rowsN_app];exact hy2⟩
 ·have:i=k:=by omega
  subst this
  simp (maxDischargeDepth:=12) (disch:=omega) only[c130_l2,q6,q8,om,hv,ldO_one,stO_one,sy,tup,↓reduceIte,zA,zG,zC,zD,zF,zE,zB,zH,reduceCtorEq]
  exact⟨trivial,trivial,hT,by simp[q0],by simp[q1],by simp[q6],y,by simp[q7],hy⟩
end
end Go.Proofs.YtllkepkaimnodaaGreatDoor.draft
namespace Go.Proofs.YtllkepkaimnodaaGreatDoor.draft
open Go.Am
theorem plS_two (A:List Nat) (i:Nat):plS A i=plB A i 0+256*plB A i 1:=by
 unfold plS
 rw[leN_sumD (c:=plB A i) (fun j _=>byte_lt _ _)]
 simp[sumD]
 omega
theorem plB_at (A:List Nat) (i c:Nat) (hc:c < 4):byte (A.getD ((4*i+c) / 64) 0) ((4*i+c) % 64)=plB A i c:=by
 unfold plB
 rw[show (4*i+c) / 64=i / 16 by omega,show (4*i+c) % 64=i % 16*4+c by omega]
section
variable {lf K:Nat} (hlf:1000 < lf)
include hlf
theorem dget_cells {G:Heap} {w cp z n:Nat} {A:List Nat} (hw:G.get (.run w)=some (.rows false 64 (rowsK A))) (wo:w < G.next) (h1:1≤n∧n≤32) (hA:A.length=recS n) {y:V} {G0:Heap} (hy:Lst G0 G 1 (rowsN (rowA A (headsN n))) y) (d:Nat):∀ t:T,t.getP (Tr.path 0)=some (.slice (some ⟨.run w,0⟩) (recS n) cp z)→t.getP (Tr.path 1)=some (.int .i64 (n:Int))→t.getP (Tr.path 6)=some (.int .i64 (headsN n:Int))→t.getP (Tr.path 7)=some y→t.getP (Tr.path 9)=some (.slice none 0 0 0)→t.getP (Tr.path 10)=some (.int .i64 0) →
  wp (loopF (runC (U lf K (d+1)) lf c130_l1) lf ⟨t,G,[]⟩) fun x s=>s.d=[]∧Turns Z G s.H∧((x=.ex 2∧(List.range n).all (plOk A)=true∧s.t.getP (Tr.path 1)=some (.int .i64 (n:Int))∧s.t.getP (Tr.path 7)=some y∧∃ o,s.t.getP (Tr.path 9)=some o∧Lst G s.H 66 (rowsC (getL A n)) o)∨(x=.ret∧(List.range n).all (plOk A)=false∧s.t.getP (Tr.path 4)=some (.slice none 0 0 0)∧s.t.getP (Tr.path 5)=some (.int .i64 5))):=by
 intro t q0 q1 q6 q7 q9 q10
 have hAr:A.length=headsN n+n:=hA
 have hh:headsN n=(n+15) / 16:=rfl
 obtain⟨k,hk⟩:∃ k,k=headsN n:=⟨_,rfl⟩
 rw[← hk] at hy hAr hh q6
 have hgl:getL A n=(List.range n).map (cellA A k):=by unfold getL;rw[hk]
 rw[hgl]
 obtain⟨L,hL⟩:∃ L,L=recS n:=⟨_,rfl⟩
 rw[← hL] at hA q0
 obtain⟨m,rfl,mo,hld⟩:=rowA_ld hy (by omega)
 refine wp_loopF (fun u s=>∃(i:Nat) (o:V),u=n - i∧i≤n∧s.d=[]∧s.t.getP (Tr.path 0)=some (.slice (some ⟨.run w,0⟩) L cp z)∧s.t.getP (Tr.path 1)=some (.int .i64 (n:Int))∧s.t.getP (Tr.path 6)=some (.int .i64 (k:Int))∧s.t.getP (Tr.path 7)=some (.slice (some ⟨.run m,0⟩) (64*k) (64*k) 1)∧s.t.getP (Tr.path 9)=some o∧s.t.getP (Tr.path 10)=some (.int .i64 (i:Int))∧Lst G s.H 66 (rowsC ((List.range i).map (cellA A k))) o∧(List.range i).all (plOk A)=true∧Turns Z G s.H)
  ?_ lf n _ ⟨0,_,rfl,Nat.zero_le _,rfl,q0,q1,q6,q7,q9,q10,Lst.nil _ _ _,rfl,Turns.refl _ _⟩ (by omega)
 rintro u ⟨t,HH,dd⟩ ⟨i,o,rfl,hi,hd,q0,q1,q6,q7,q9,q10,ho,hok,hT⟩
 dsimp only at hd q0 q1 q6 q7 q9 q10 ho hT
 subst hd
 obtain⟨e64,he64⟩:∃ e,e=64*k:=⟨_,rfl⟩
 rw[← he64] at q7
 by_cases hlt:i < n
 rotate_left
 ·have:i=n:=by omega
  subst this
  simp (maxDischargeDepth:=12) (disch:=omega) only[c130_l1,q1,q10,om,hv,ldO_one,stO_one,sy,tup,↓reduceIte,zA,zG,zC,zD,zF,zE,zB,zH,reduceCtorEq]
  exact⟨trivial,hT,.inl ⟨trivial,hok,by simp[q1],by simp[q7,he64],o,by simp[q9],ho⟩⟩
 have hwH:=(hT.same (.run w) wo (fun h=>h)).trans hw
 have woH:w < HH.next:=Nat.lt_of_lt_of_le wo hT.next
 have moH:m < HH.next:=Nat.lt_of_lt_of_le mo hT.next
 have hb:∀ {J:Heap},Turns Z HH J→∀ c a,c < 4→a=4*i+c→ldO (J.get (.run m)) a 1=some [.int .u8 (plB A i c:Int)]:=fun {J} tJ c a hc ha=>by
  rw[tJ.same (.run m) moH (fun h=>h),hT.same (.run m) mo (fun h=>h),ha,← plB_at A i c hc]
  exact hld (4*i+c) (by omega)
 obtain⟨a0,ha0⟩:∃ a,a=4*i+0:=⟨_,rfl⟩
 obtain⟨a1,ha1⟩:∃ a,a=4*i+1:=⟨_,rfl⟩
 obtain⟨a2,ha2⟩:∃ a,a=4*i+2:=⟨_,rfl⟩
 obtain⟨a3,ha3⟩:∃ a,a=4*i+3:=⟨_,rfl⟩
 have x0:=hb (Turns.refl _ _) 0 a0 (by decide) ha0
 have x1:=hb (Turns.refl _ _) 1 a1 (by decide) ha1
 have x2:=hb (Turns.refl _ _) 2 a2 (by decide) ha2
 have v0:IntKind.i64.wrap (4*(i:Int))=(a0:Int):=by rw[Go.Am.wrap_i64 (by omega)];omega
 have v1:IntKind.i64.wrap ((a0:Int)+1)=(a1:Int):=by rw[Go.Am.wrap_i64 (by omega)];omega
 have v2:IntKind.i64.wrap ((a0:Int)+2)=(a2:Int):=by rw[Go.Am.wrap_i64 (by omega)];omega
 have v3:IntKind.i64.wrap ((a0:Int)+3)=(a3:Int):=by rw[Go.Am.wrap_i64 (by omega)];omega
 have hall:(List.range (i+1)).all (plOk A)=plOk A i:=by rw[List.range_succ,List.all_append,hok,Bool.true_and];simp
 have hpl:plOk A i=(mayP (plS A i:Int) (plB A i 2:Int)&&decide (plB A i 3=0)):=rfl
 have hS2:=plS_two A i
 have l0:plB A i 0 < 256:=byte_lt _ _
 have l1:plB A i 1 < 256:=byte_lt _ _
 have l2:plB A i 2 < 256:=byte_lt _ _
 have hce:rowC (cellA A k i)=[.int .i64 (plS A i:Int),.int .i64 (plB A i 2:Int),.blk (A.getD (k+i) 0)]:=rfl
 obtain⟨S,hS⟩:∃ S,S=plS A i:=⟨_,rfl⟩
 obtain⟨M,hM⟩:∃ M,M=plB A i 2:=⟨_,rfl⟩
 rw[← hS,← hM] at hpl hce
 rw[← hS] at hS2
 rw[← hM] at x2 l2
 have vS:IntKind.i64.wrap (256*(plB A i 1:Int))=((256*plB A i 1:Nat):Int):=by rw[Go.Am.wrap_i64 (by omega)];omega
 have vS2:IntKind.i64.wrap ((plB A i 0:Int)+((256*plB A i 1:Nat):Int))=(S:Int):=by rw[Go.Am.wrap_i64 (by omega)];omega
 obtain⟨b0,hb0⟩:∃ b,b=plB A i 0:=⟨_,rfl⟩
 obtain⟨b1,hb1⟩:∃ b,b=plB A i 1:=⟨_,rfl⟩
 obtain⟨b2,hb2⟩:∃ b,b=256*plB A i 1:=⟨_,rfl⟩
 rw[← hb2] at vS vS2
 rw[← hb0] at x0 vS2 l0
 rw[← hb1] at x1 vS l1
 have wid2:width [V.int .i64 (S:Int),.int .i64 (M:Int)]=2:=rfl
 have put2:put [V.int .i64 0,.int .i64 0] 0 [.int .i64 (S:Int),.int .i64 (M:Int)]=some [.int .i64 (S:Int),.int .i64 (M:Int)]:=rfl
 have cut2:cut [V.int .i64 (S:Int),.int .i64 (M:Int)] 0 2=some [.int .i64 (S:Int),.int .i64 (M:Int)]:=rfl
 have t3:Turns Z HH ((HH.add (.rows false 2 [[.int .i64 0,.int .i64 0]])).set (.run HH.next) (.rows false 2 [[.int .i64 (S:Int),.int .i64 (M:Int)]])):=by repeat (first | exact Turns.refl _ _ | apply Turns.skip | apply Turns.addm | apply Turns.setb | apply Turns.setl | apply Turns.setr | refine Turns.setn ?_ _ (by omega) _ | refine Turns.trans ?_ (tF _))
 have hg3:((HH.add (.rows false 2 [[.int .i64 0,.int .i64 0]])).set (.run HH.next) (.rows false 2 [[.int .i64 (S:Int),.int .i64 (M:Int)]])).get (.run HH.next)=some (.rows false 2 [[.int .i64 (S:Int),.int .i64 (M:Int)]]):=by rw[Heap.get_set,if_pos rfl]
 obtain⟨H3,hH3⟩:∃ H3,(HH.add (.rows false 2 [[.int .i64 0,.int .i64 0]])).set (.run HH.next) (.rows false 2 [[.int .i64 (S:Int),.int .i64 (M:Int)]])=H3:=⟨_,rfl⟩
 rw[hH3] at t3 hg3
 have eM:=qp_ashlarref11_may (lf:=lf) (K:=K) (w:=d) (G:=H3) (fun H=>dcmay hlf H (S:Int) (M:Int) 59)
 obtain⟨H4,hH4⟩:∃ X,H3.skip (K+2)=X:=⟨_,rfl⟩
 have t4:Turns Z HH H4:=by rw[← hH4];exact t3.skip _
 have hg4:H4.get (.run HH.next)=some (.rows false 2 [[.int .i64 (S:Int),.int .i64 (M:Int)]]):=by rw[← hH4,get_skip];exact hg3
 have x3:=hb t4 3 a3 (by decide) ha3
 rw[hH4] at eM
 have hfail:plOk A i=false→(List.range n).all (plOk A)=false:=fun h=>by
  rw[List.all_eq_false]
  exact⟨i,List.mem_range.2 hlt,by rw[h];decide⟩
 cases hmay:mayP (S:Int) (M:Int)
 ·rw[hmay] at eM hpl
  simp (maxDischargeDepth:=12) (disch:=omega) only[c130_l1,q1,q7,q10,arith_mul,v0,v1,v2,x0,x1,x2,vS,vS2,wid2,put2,hH3,Nat.mul_one,om,hv,ldO_one,stO_one,sy,tup,↓reduceIte,zA,zG,zC,zD,zF,zE,zB,zH,reduceCtorEq]
  rw[endD_ok (by kernel_rfl) (by kernel_rfl)]
  simp (maxDischargeDepth:=12) (disch:=omega) only[hg3,cut2,eM,om,hv,ldO_one,stO_one,sy,tup,↓reduceIte,zA,zG,zC,zD,zF,zE,zB,zH,reduceCtorEq]
  exact⟨trivial,hT.trans t4,.inr ⟨trivial,hfail hpl,trivial,trivial⟩⟩
 rw[hmay,Bool.true_and] at hpl
 rw[hmay] at eM
 obtain⟨b3,hb3⟩:∃ b,b=plB A i 3:=⟨_,rfl⟩
 rw[← hb3] at x3 hpl
 by_cases h30:b3=0
 rotate_left
 ·rw[decide_eq_false h30] at hpl
  simp (maxDischargeDepth:=12) (disch:=omega) only[c130_l1,q1,q7,q10,arith_mul,v0,v1,v2,x0,x1,x2,vS,vS2,wid2,put2,hH3,Nat.mul_one,om,hv,ldO_one,stO_one,sy,tup,↓reduceIte,zA,zG,zC,zD,zF,zE,zB,zH,reduceCtorEq]
  rw[endD_ok (by kernel_rfl) (by kernel_rfl)]
  simp (maxDischargeDepth:=12) (disch:=omega) only[q7,q10,hg3,cut2,eM,arith_mul,v0,v3,x3,Nat.mul_one,om,hv,ldO_one,stO_one,sy,tup,↓reduceIte,zA,zG,zC,zD,zF,zE,zB,zH,reduceCtorEq]
  exact⟨trivial,hT.trans t4,.inr ⟨trivial,hfail hpl,trivial,trivial⟩⟩
 rw[decide_eq_true h30] at hpl
 obtain⟨q,hq⟩:∃ q,q=k+i:=⟨_,rfl⟩
 have wq:IntKind.i64.wrap ((k:Int)+(i:Int))=(q:Int):=by rw[Go.Am.wrap_i64 (by omega)];omega
 have hqA:q < A.length:=by omega
 have hw4:=(t4.same (.run w) woH (fun h=>h)).trans hwH
 have ld:=ldK (ro:=false) hqA
 rw[← getD_get hqA] at ld
 rw[← hq] at hce
 obtain⟨X,hX⟩:∃ X,X=A.getD q 0:=⟨_,rfl⟩
 rw[← hX] at ld hce
 have ho4:=ho.turns t4 (fun _ _ h=>h)
 have t5:=Turns.add Z H4 (.rows false 66 [[.int .i64 (S:Int),.int .i64 (M:Int),.blk X]])
 have hg5:(H4.add (.rows false 66 [[.int .i64 (S:Int),.int .i64 (M:Int),.blk X]])).get (.run H4.next)=some (.rows false 66 [[.int .i64 (S:Int),.int .i64 (M:Int),.blk X]]):=by rw[Heap.get_add,if_pos rfl]
 obtain⟨H5,hH5⟩:∃ H5,H4.add (.rows false 66 [[.int .i64 (S:Int),.int .i64 (M:Int),.blk X]])=H5:=⟨_,rfl⟩
 rw[hH5] at t5 hg5
 have ho5:=ho4.turns t5 (fun _ _ h=>h)
 have tt:=(hT.trans t4).trans t5
 have hrl:(rowsC ((List.range i).map (cellA A k))).length=i:=by rw[rowsC_len,List.length_map,List.length_range]
 obtain⟨H6,ea,ho6,t6,_⟩:=ho5.app1 (by':=80) tt.next hg5 rfl (by decide) (by rw[hrl];omega) (by rw[hrl];omega)
 rw[hrl] at ea ho6
 have t6':=lst_away ho5 tt (Nat.le_refl _) t6
 have pA:put [V.int .i64 0,.int .i64 0,.blk 0] 0 [.int .i64 (S:Int),.int .i64 (M:Int)]=some [.int .i64 (S:Int),.int .i64 (M:Int),.blk 0]:=rfl
 have pB:put [V.int .i64 (S:Int),.int .i64 (M:Int),.blk 0] 2 [.blk X]=some [.int .i64 (S:Int),.int .i64 (M:Int),.blk X]:=rfl
 have wid66:width [V.int .i64 (S:Int),.int .i64 (M:Int),.blk X]=66:=rfl
 simp (maxDischargeDepth:=12) (disch:=omega) only[c130_l1,q1,q7,q10,arith_mul,v0,v1,v2,x0,x1,x2,vS,vS2,wid2,put2,hH3,Nat.mul_one,om,hv,ldO_one,stO_one,sy,tup,↓reduceIte,zA,zG,zC,zD,zF,zE,zB,zH,reduceCtorEq]
 rw[endD_ok (by kernel_rfl) (by kernel_rfl)]
 simp (maxDischargeDepth:=12) (disch:=omega) only[q0,q6,q7,q9,q10,hg3,cut2,eM,arith_mul,v0,v3,x3,hg4,wq,hw4,ld,pA,pB,wid66,hH5,ea,Nat.mul_one,om,hv,ldO_one,stO_one,sy,tup,↓reduceIte,zA,zG,zC,zD,zF,zE,zB,zH,reduceCtorEq]
 rw[endD_ok (by kernel_rfl) (by kernel_rfl)]
 simp (maxDischargeDepth:=12) (disch:=omega) only[q10,om,hv,ldO_one,stO_one,sy,tup,↓reduceIte,zA,zG,zC,zD,zF,zE,zB,zH,reduceCtorEq]
 refine⟨n - (i+1),by omega,i+1,_,rfl,by omega,trivial,by simp[q0],by simp[q1],by simp[q6],by simp[q7,he64],by simp;rfl,by simp,?_,by rw[hall,hpl],t6'⟩
 have er:rowsC ((List.range (i+1)).map (cellA A k))=rowsC ((List.range i).map (cellA A k))++[[.int .i64 (S:Int),.int .i64 (M:Int),.blk X]]:=by
  rw[List.range_succ,List.map_append]
  unfold rowsC
  rw[List.map_append,← hce];rfl
 rw[er]
 exact ho6
end
end Go.Proofs.YtllkepkaimnodaaGreatDoor.draft
