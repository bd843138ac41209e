import Derived.Test.YtabebpemfinejaaDoorG4
import Derived.Test.YtabebpemfinejaaDoorG0
set_option linter.unusedVariables false
set_option linter.unusedSectionVars false
set_option linter.unusedSimpArgs false
set_option maxRecDepth 10000
open Nat renaming reduceEqDiff → zA, reduceLeDiff → zB, reduceSub → zC, reduceMul → zD, reduceMod → zE, reduceDiv → zF, reduceAdd → zG
open Int renaming reduceBEq → zH
namespace Go.Proofs.YtabebpemfinejaaDoor.draft
open Go.Am
open disk (bx Fit A1 R1 Low Bn)
noncomputable def c3_l0:C:=.seq (.seq (.reg [
 mv 34 8,
 mv 35 1,
 qo 36 (.p (lenF (tt 35))) [pp 35],
 qo 37 (.p (arF .lss (tt 34) (tt 36))) [pp 34,pp 36],
 mv 38 37,
 mg 39 8 38 true,
 qg 40 (.p (arF .lss (tt 39) (ii 40))) 38 true [pp 39],
 qo 41 (.p (pickF (tt 38) (tt 40) (.c (.bool false)))) [pp 38,pp 40]]) (
 .cond (tt 41) (.skip) (.exit 0))) (
 .seq (.block 1 (.seq (.reg [
 mv 44 1,
 mv 45 8,
 qo 46 (.p (iaddrSF (tt 44) (tt 45) 3)) [pp 44,pp 45],
 qo 47 (.r (loadF (tt 46) 3 .ag)) [pp 46],
 qo 9 (.m (allocF 3 [.bool false,.int .u8 0,.slice none 0 0 0])) [],
 qn (.a (storeF (tt 9) (tt 47) 3)) [pp 9,pp 47]]) (
 .seq (.reg [
 mv 49 6,
 qo 50 (.c (callF (ff 9) [(tt 49)])) [pp 49],
 mv 48 50,
 qo 51 (.p (extF (tt 48) 0)) [pp 48],
 qo 52 (.p (extF (tt 48) 1)) [pp 48],
 mv 10 51,
 mv 11 52]) (
 .seq (.reg [
 mv 53 6,
 qo 54 (.c (callF (ff 7) [(tt 53)])) [pp 53],
 mv 12 54]) (
 .seq (.seq (.reg [
 qo 55 (.p (faddrF (tt 9) 0)) [pp 9],
 qo 56 (.r (loadF (tt 55) 1 .sc)) [pp 55]]) (
 .cond (tt 56) (.seq (.seq (.reg [
 mv 57 11,
 mv 58 10,
 qo 59 (.p (arF .lss (tt 57) (tt 58))) [pp 57,pp 58],
 mv 60 59,
 mg 61 6 60 false,
 mg 62 10 60 false,
 qg 63 (.p (faddrF (tt 9) 1)) 60 false [pp 9],
 qg 64 (.r (loadF (tt 63) 1 .sc)) 60 false [pp 63],
 qg 65 (.p (convF .u64 (tt 64))) 60 false [pp 64],
 mg 66 11 60 false,
 mg 67 10 60 false,
 qg 68 (.p (arF .sub (tt 66) (tt 67))) 60 false [pp 66,pp 67],
 qg 69 (.p (arF .add (tt 68) (.c (.int .u64 1)))) 60 false [pp 68],
 qg 70 (.p (arF .rem (tt 65) (tt 69))) 60 false [pp 65,pp 69],
 qg 71 (.p (arF .add (tt 62) (tt 70))) 60 false [pp 62,pp 70],
 qg 72 (.c (callF (ff 10) [(tt 61),(tt 71)])) 60 false [pp 61,pp 71],
 qg 73 (.p (eqcF true false [.int .i64] (tt 72) (ii 0))) 60 false [pp 72],
 qo 74 (.p (pickF (tt 60) (.c (.bool true)) (tt 73))) [pp 60,pp 73],
 mv 75 74,
 mg 76 6 75 false,
 qg 77 (.c (callF (ff 7) [(tt 76)])) 75 false [pp 76],
 mg 78 12 75 false,
 qg 79 (.p (arF .lss (tt 77) (tt 78))) 75 false [pp 77,pp 78],
 qo 80 (.p (pickF (tt 75) (.c (.bool true)) (tt 79))) [pp 75,pp 79]]) (
 .cond (tt 80) (.seq (.reg [
 qo 4 (.p (S.get (.c (.bool false)))) []]) (
 .ret)) (.skip))) (
 .exit 1)) (.skip))) (
 .seq (.seq (.reg [
 qo 81 (.p (faddrF (tt 9) 2)) [pp 9],
 qo 82 (.r (loadF (tt 81) 1 .sc)) [pp 81],
 qo 83 (.p (lenF (tt 82))) [pp 82],
 qo 84 (.p (eqcF false false [.int .i64] (tt 83) (ii 0))) [pp 83],
 mv 85 84,
 qg 86 (.p (faddrF (tt 9) 2)) 85 false [pp 9],
 qg 87 (.r (loadF (tt 86) 1 .sc)) 85 false [pp 86],
 qg 88 (.p (lenF (tt 87))) 85 false [pp 87],
 qg 89 (.p (arF .gtr (tt 88) (ii 32))) 85 false [pp 88],
 qo 90 (.p (pickF (tt 85) (.c (.bool true)) (tt 89))) [pp 85,pp 89]]) (
 .cond (tt 90) (.exit 1) (.skip))) (
 .seq (.reg [
 mv 92 6,
 qo 93 (.p (faddrF (tt 9) 2)) [pp 9],
 qo 94 (.r (loadF (tt 93) 1 .sc)) [pp 93],
 qo 95 (.c (callF (ff 11) [(tt 92),(tt 94)])) [pp 92,pp 94],
 mv 91 95,
 qo 96 (.p (extF (tt 91) 0)) [pp 91],
 qo 97 (.p (extF (tt 91) 1)) [pp 91],
 mv 13 96,
 mv 14 97]) (
 .seq (.seq (.reg [
 mv 98 14,
 qo 99 (.p (eqcF false false [.int .i64] (tt 98) (ii 2))) [pp 98]]) (
 .cond (tt 99) (.exit 1) (.skip))) (
 .seq (.reg [
 qo 100 (.p (faddrF (tt 9) 2)) [pp 9],
 qo 101 (.r (loadF (tt 100) 1 .sc)) [pp 100],
 qo 102 (.p (lenF (tt 101))) [pp 101],
 qo 103 (.c (callF (ff 12) [(tt 102)])) [pp 102],
 mv 15 103]) (
 .seq (.reg [
 mv 104 15,
 mv 105 12,
 qo 106 (.p (arF .leq (tt 104) (tt 105))) [pp 104,pp 105],
 mv 107 106,
 mg 108 11 107 true,
 mg 109 10 107 true,
 qg 110 (.p (arF .sub (tt 108) (tt 109))) 107 true [pp 108,pp 109],
 qg 111 (.p (arF .lss (tt 110) (.c (.int .u64 8)))) 107 true [pp 110],
 qo 112 (.p (pickF (tt 107) (tt 111) (.c (.bool false)))) [pp 107,pp 111],
 mv 16 112]) (
 .seq (.reg [
 mv 113 16,
 mv 114 14,
 qo 115 (.p (eqcF false false [.int .i64] (tt 114) (ii 0))) [pp 114],
 qo 116 (.p (eqcF true false [.bool] (tt 113) (tt 115))) [pp 113,pp 115],
 mv 117 116,
 mg 118 16 117 false,
 qg 119 (.p (unF .not (tt 118))) 117 false [pp 118],
 mg 120 119 117 false,
 mg 121 14 120 true,
 qg 122 (.p (eqcF true false [.int .i64] (tt 121) (ii 10))) 120 true [pp 121],
 qg 123 (.p (pickF (tt 120) (tt 122) (.c (.bool false)))) 117 false [pp 120,pp 122],
 qo 124 (.p (pickF (tt 117) (.c (.bool true)) (tt 123))) [pp 117,pp 123],
 mv 125 124,
 mg 126 16 125 false,
 mg 127 126 125 false,
 mg 128 13 127 true,
 mg 129 11 127 true,
 qg 130 (.p (eqcF true false [.int .u64] (tt 128) (tt 129))) 127 true [pp 128,pp 129],
 mg 131 130 127 true,
 mg 132 6 131 false,
 qg 133 (.c (callF (ff 7) [(tt 132)])) 131 false [pp 132],
 mg 134 12 131 false,
 mg 135 15 131 false,
 qg 136 (.p (arF .sub (tt 134) (tt 135))) 131 false [pp 134,pp 135],
 qg 137 (.p (eqcF true false [.int .i64] (tt 133) (tt 136))) 131 false [pp 133,pp 136],
 qg 138 (.p (pickF (tt 131) (.c (.bool true)) (tt 137))) 127 true [pp 131,pp 137],
 qg 139 (.p (pickF (tt 127) (tt 138) (.c (.bool false)))) 125 false [pp 127,pp 138],
 qo 140 (.p (pickF (tt 125) (.c (.bool true)) (tt 139))) [pp 125,pp 139],
 mv 141 140,
 mg 142 16 141 false,
 qg 143 (.p (unF .not (tt 142))) 141 false [pp 142],
 mg 144 143 141 false,
 mg 145 6 144 true,
 qg 146 (.c (callF (ff 7) [(tt 145)])) 144 true [pp 145],
 mg 147 12 144 true,
 qg 148 (.p (eqcF true false [.int .i64] (tt 146) (tt 147))) 144 true [pp 146,pp 147],
 qg 149 (.p (pickF (tt 144) (tt 148) (.c (.bool false)))) 141 false [pp 144,pp 148],
 qo 150 (.p (pickF (tt 141) (.c (.bool true)) (tt 149))) [pp 141,pp 149]]) (
 .cond (tt 150) (.seq (.reg [
 qo 4 (.p (S.get (.c (.bool false)))) []]) (
 .ret)) (.skip))))))))))))) (
 .reg [
 mv 42 8,
 qo 43 (.p (arF .add (tt 42) (ii 1))) [pp 42],
 mv 8 43]))
noncomputable def c3:CFn:=⟨[.tmp (pp 4)],
 .seq (.reg [
 qo 4 (.p (S.get (.c (.bool false)))) []]) (
 .seq (.reg [
 mv 20 0,
 qo 21 (.c (callF (ff 6) [(tt 20)])) [pp 20],
 mv 19 21,
 qo 22 (.p (extF (tt 19) 0)) [pp 19],
 qo 23 (.p (extF (tt 19) 1)) [pp 19],
 qo 24 (.p (extF (tt 19) 2)) [pp 19],
 mv 5 22,
 mv 6 23,
 mv 7 24]) (
 .seq (.seq (.reg [
 mv 25 7,
 qo 26 (.p (unF .not (tt 25))) [pp 25],
 mv 27 26,
 mg 28 6 27 false,
 qg 29 (.c (callF (ff 7) [(tt 28)])) 27 false [pp 28],
 mg 30 6 27 false,
 qg 31 (.c (callF (ff 8) [(tt 30)])) 27 false [pp 30],
 qg 32 (.p (eqcF true false [.int .i64] (tt 29) (tt 31))) 27 false [pp 29,pp 31],
 qo 33 (.p (pickF (tt 27) (.c (.bool true)) (tt 32))) [pp 27,pp 32]]) (
 .cond (tt 33) (.seq (.reg [
 qo 4 (.p (S.get (.c (.bool false)))) []]) (
 .ret)) (.skip))) (
 .seq (.seq (.reg [
 qo 8 (.p (S.get (ii 0))) []]) (
 .block 0 (.loop c3_l0))) (
 .seq (.reg [
 mv 152 6,
 qo 153 (.c (callF (ff 9) [(tt 152)])) [pp 152],
 mv 151 153,
 qo 154 (.p (extF (tt 151) 0)) [pp 151],
 qo 155 (.p (extF (tt 151) 1)) [pp 151],
 mv 17 154,
 mv 18 155]) (
 .seq (.seq (.reg [
 mv 156 18,
 mv 157 17,
 qo 158 (.p (arF .lss (tt 156) (tt 157))) [pp 156,pp 157],
 mv 159 158,
 mg 160 6 159 false,
 mg 161 18 159 false,
 qg 162 (.c (callF (ff 10) [(tt 160),(tt 161)])) 159 false [pp 160,pp 161],
 qg 163 (.p (eqcF true false [.int .i64] (tt 162) (ii 0))) 159 false [pp 162],
 qo 164 (.p (pickF (tt 159) (.c (.bool true)) (tt 163))) [pp 159,pp 163],
 mv 165 164,
 mg 166 6 165 false,
 qg 167 (.c (callF (ff 7) [(tt 166)])) 165 false [pp 166],
 mg 168 6 165 false,
 qg 169 (.c (callF (ff 8) [(tt 168)])) 165 false [pp 168],
 qg 170 (.p (eqcF true false [.int .i64] (tt 167) (tt 169))) 165 false [pp 167,pp 169],
 qo 171 (.p (pickF (tt 165) (.c (.bool true)) (tt 170))) [pp 165,pp 170]]) (
 .cond (tt 171) (.seq (.reg [
 qo 4 (.p (S.get (.c (.bool false)))) []]) (
 .ret)) (.skip))) (
 .seq (.reg [
 mv 172 6,
 mv 173 18,
 qo 174 (.p (arF .add (tt 173) (.c (.int .u64 1)))) [pp 173],
 qo 175 (.c (callF (ff 10) [(tt 172),(tt 174)])) [pp 172,pp 174],
 qo 176 (.p (eqcF false false [.int .i64] (tt 175) (ii 2))) [pp 175],
 mv 177 176,
 mg 178 6 177 true,
 mg 179 18 177 true,
 qg 180 (.p (arF .sub (tt 179) (.c (.int .u64 1)))) 177 true [pp 179],
 qg 181 (.c (callF (ff 10) [(tt 178),(tt 180)])) 177 true [pp 178,pp 180],
 qg 182 (.p (eqcF false false [.int .i64] (tt 181) (ii 2))) 177 true [pp 181],
 qo 183 (.p (pickF (tt 177) (tt 182) (.c (.bool false)))) [pp 177,pp 182],
 mv 184 183,
 qg 185 (.c (callF (ff 13) [])) 184 true [],
 qo 186 (.p (pickF (tt 184) (tt 185) (.c (.bool false)))) [pp 184,pp 185],
 mv 4 186]) (
 .ret)))))))⟩
theorem c3_eq:fnOf Tryd.prog 3=some c3:=by kernel_rfl
structure Sp where
 cl:Bool
 n:Nat
 pp:Option Ptr
 cs:List Cl
 pc:Nat
 po:Nat
def Sp.row (s:Sp):List V:=[.bool s.cl,.int .u8 (s.n:Int),.slice s.pp s.cs.length s.pc s.po]
structure SpsAt (H:Heap) (pp:Option Ptr) (L:List Sp):Prop where
 has:L≠[]→∃ x ox ro rows,pp=some ⟨x,ox*3⟩∧H.Old x∧H.get x=some (.rows ro 3 rows)∧∀ i,(hi:i < L.length)→rows[ox+i]?=some L[i].row
 cells:∀ s ∈ L,CellsAt H s.pp s.cs
 n:∀ s ∈ L,s.n < 256
theorem SpsAt.turns {H H':Heap} {pp:Option Ptr} {L:List Sp} (h:SpsAt H pp L) (k:Turns Z H H'):SpsAt H' pp L:=⟨fun e=>by
 obtain⟨x,ox,ro,rows,hp,ho,hg,hr⟩:=h.has e
 exact⟨x,ox,ro,rows,hp,ho.mono k.next,(k.same x ho (fun h=>h)).trans hg,hr⟩,fun s hs=>(h.cells s hs).turnsZ k,h.n⟩
theorem SpsAt.load {H:Heap} {pp:Option Ptr} {L:List Sp} (h:SpsAt H pp L) {i:Nat} (hi:i < L.length):∃ x ox,pp=some ⟨x,ox*3⟩∧ldO (H.get x) (ox*3+i*3) 3=some L[i].row:=by
 obtain⟨x,ox,ro,rows,hp,ho,hg,hr⟩:=h.has (fun e=>by rw[e] at hi;simp at hi)
 refine⟨x,ox,hp,?_⟩
 show loadAt H ⟨x,ox*3+i*3⟩ 3=_
 have e1:(ox*3+i*3) / 3=ox+i:=by omega
 have e2:(ox*3+i*3) % 3=0:=by omega
 rw[loadAt_eq hg (r:=L[i].row) (nth_of (by rw[e1];exact hr i hi)),e2]
 rfl
section
variable {lf K:Nat} (hlf:1000 < lf)
include hlf
theorem logroom_loop {G0 G:Heap} {l b:Bk} {R:Nat} (hgl:G0.get (.run 0)=some (.rows true 4 (intsR [8,2,8,8]))) (h00:0 < G0.next) {pp:Option Ptr} {L:List Sp} {pc po:Nat} (hL:SpsAt G0 pp L) (h0:∃ cnt first tail head N lv S st,LS G0 G l b R 0 cnt first tail head N lv S st) (n:Nat):∀ t:T,t.getP (Tr.path 1)=some (.slice pp L.length pc po)→t.getP (Tr.path 6)=some (.ptr (some ⟨l,0⟩))→t.getP (Tr.path 8)=some (.int .i64 0) →
  wp (loopF (runC (U lf K (n+8)) lf c3_l0) lf ⟨t,G,[]⟩) fun x s=>x=.ex 0∧s.d=[]∧s.t.getP (Tr.path 6)=some (.ptr (some ⟨l,0⟩))∧∃ cnt first tail head N lv S st,LS G0 s.H l b R 40 cnt first tail head N lv S st:=by
 intro t q1 q6 q8
 refine wp_loopF (fun u s=>∃ i:Nat,u=40 - i∧i≤40∧i≤L.length∧s.d=[]∧s.t.getP (Tr.path 1)=some (.slice pp L.length pc po)∧s.t.getP (Tr.path 6)=some (.ptr (some ⟨l,0⟩))∧s.t.getP (Tr.path 8)=some (.int .i64 (i:Int))∧∃ cnt first tail head N lv S st,LS G0 s.H l b R i cnt first tail head N lv S st)
  ?_ lf 40 _ ⟨0,rfl,Nat.zero_le _,Nat.zero_le _,rfl,q1,q6,q8,h0⟩ (by omega)
 rintro u ⟨t,HH,d⟩ ⟨i,rfl,hi,hiL,hd,q1,q6,q8,cnt,first,tail,head,N,lv,S,st,hS⟩
 dsimp only at hd q1 q6 q8 hS
 subst hd
 by_cases hlt:i < L.length
 rotate_left
 ·have:i=L.length:=by omega
  subst this
  have hup:∀(k j:Nat),j+k=40→∀ {H:Heap},(∃ cnt first tail head N lv S st,LS G0 H l b R j cnt first tail head N lv S st)→∃ cnt first tail head N lv S st,LS G0 H l b R 40 cnt first tail head N lv S st:=by
   intro k
   induction k with
   | zero=>intro j hj H h;rw[show j=40 by omega] at h;exact h
   | succ k ih=>
    rintro j hj H ⟨a1,a2,a3,a4,a5,a6,a7,a8,h⟩
    exact ih (j+1) (by omega) ⟨a1,a2,a3,a4,a5,a6,a7,a8,h.up⟩
  simp (maxDischargeDepth:=12) only[c3_l0,q1,q8,Int.lt_irrefl,Nat.lt_irrefl,hv,ldO_one,stO_one,sy,tup,↓reduceIte,zA,zG,zC,zD,zF,zE,zB,zH,reduceCtorEq]
  exact⟨trivial,trivial,by simp[q6],hup (40 - L.length) _ (by omega) ⟨_,_,_,_,_,_,_,_,hS⟩⟩
 by_cases h40:i < 40
 rotate_left
 ·have:i=40:=by omega
  subst this
  have hlt':((40:Nat):Int) < (L.length:Int):=by omega
  have h40':¬ (((40:Nat):Int) < 40):=by decide
  simp (maxDischargeDepth:=12) only[c3_l0,q1,q8,hlt',hlt,h40',hv,ldO_one,stO_one,sy,tup,↓reduceIte,zA,zG,zC,zD,zF,zE,zB,zH,reduceCtorEq]
  exact⟨trivial,trivial,q6,cnt,first,tail,head,N,lv,S,st,hS⟩
 have hlt':(i:Int) < (L.length:Int):=by omega
 have h40':(i:Int) < 40:=by omega
 have hle:i+1≤L.length:=hlt
 have w1:IntKind.i64.wrap ((i:Int)+1)=((i+1:Nat):Int):=by rw[Go.Am.wrap_i64 (by omega)];omega
 have hlens:S.length=R+10:=hS.len
 have hRb:=hS.R
 have hfs:=hS.fst
 have hhd:=hS.hd
 have hnl:=hS.log.nl
 have hrg:=hS.log.rg
 obtain⟨x,ox,rfl,ld⟩:=(hL.turns hS.t).load hlt
 have hcs:=(hL.turns hS.t).cells L[i] (List.getElem_mem _)
 have hspn:=hL.n L[i] (List.getElem_mem _)
 generalize L[i]=sp at ld hcs hspn
 obtain⟨scl,sn,spp,scs,spc,spo⟩:=sp
 unfold Sp.row at ld
 dsimp only at ld hcs hspn
 have wid3:width [V.bool scl,.int .u8 (sn:Int),.slice spp scs.length spc spo]=3:=rfl
 have put3:put [V.bool false,.int .u8 0,.slice none 0 0 0] 0 [.bool scl,.int .u8 (sn:Int),.slice spp scs.length spc spo]=some [.bool scl,.int .u8 (sn:Int),.slice spp scs.length spc spo]:=rfl
 have k0:cut [V.bool scl,.int .u8 (sn:Int),.slice spp scs.length spc spo] 0 1=some [.bool scl]:=rfl
 have k1:cut [V.bool scl,.int .u8 (sn:Int),.slice spp scs.length spc spo] 1 1=some [.int .u8 (sn:Int)]:=rfl
 have k2:cut [V.bool scl,.int .u8 (sn:Int),.slice spp scs.length spc spo] 2 1=some [.slice spp scs.length spc spo]:=rfl
 have t1:Turns Z HH ((HH.add (.rows false 3 [[.bool false,.int .u8 0,.slice none 0 0 0]])).set (.run HH.next) (.rows false 3 [[.bool scl,.int .u8 (sn:Int),.slice spp scs.length spc spo]])):=by repeat (first | exact Turns.refl _ _ | apply Turns.skip | apply Turns.addm | apply Turns.setb | apply Turns.setl | apply Turns.setr | refine Turns.setn ?_ _ (by omega) _ | refine Turns.trans ?_ (tF _))
 have hg1:((HH.add (.rows false 3 [[.bool false,.int .u8 0,.slice none 0 0 0]])).set (.run HH.next) (.rows false 3 [[.bool scl,.int .u8 (sn:Int),.slice spp scs.length spc spo]])).get (.run HH.next)=some (.rows false 3 [[.bool scl,.int .u8 (sn:Int),.slice spp scs.length spc spo]]):=by rw[Heap.get_set,if_pos rfl]
 obtain⟨H1,hH1⟩:∃ H1,(HH.add (.rows false 3 [[.bool false,.int .u8 0,.slice none 0 0 0]])).set (.run HH.next) (.rows false 3 [[.bool scl,.int .u8 (sn:Int),.slice spp scs.length spc spo]])=H1:=⟨_,rfl⟩
 have n1:H1.next=HH.next+1:=by rw[← hH1];rfl
 rw[hH1] at t1 hg1
 have hS1:=hS.same t1
 obtain⟨v2,H2,e2,rfl,t2⟩:=ullive hlf (K:=K) hS1.log (n+6)
 have hS2:=hS1.same t2
 obtain⟨v3,H3,e3,rfl,t3⟩:=ulfree hlf (K:=K) hS2.log (n+5)
 have hS3:=hS2.same t3
 have hg3:=((t2.trans t3).same (.run HH.next) (by show _ < _;omega) (fun h=>h)).trans hg1
 obtain⟨nx,hnx⟩:∃ nx,nx=first+N.length:=⟨_,rfl⟩
 rw[← hnx] at e2
 obtain⟨fr,hfr⟩:∃ fr:Int,fr=(R:Int) - ((head - tail:Nat):Int):=⟨_,rfl⟩
 rw[← hfr] at e3
 have o3:HH.next < H3.next:=by have:=t2.next;have:=t3.next;omega
 cases scl with
 | true=>
  have g1:¬ nx < first:=by omega
  have w2:IntKind.u64.wrap (sn:Int)=(sn:Int):=Go.Am.wrap_u64 (by omega)
  have w3:IntKind.u64.wrap ((nx:Int) - (first:Int))=(N.length:Int):=by rw[Go.Am.wrap_u64 (by omega)];omega
  obtain⟨L1,hL1⟩:∃ L1,L1=N.length+1:=⟨_,rfl⟩
  have w4:IntKind.u64.wrap ((N.length:Int)+1)=(L1:Int):=by rw[Go.Am.wrap_u64 (by omega)];omega
  obtain⟨z,hz⟩:∃ z,z=sn % L1:=⟨_,rfl⟩
  have hzl:z < L1:=by rw[hz];exact Nat.mod_lt _ (by omega)
  have r1:arith .rem (.int .u64 (sn:Int)) (.int .u64 (L1:Int))=some (.int .u64 (z:Int)):=by rw[hz];exact rem_u64 sn L1 (by omega)
  obtain⟨f,hf⟩:∃ f,f=first+z:=⟨_,rfl⟩
  have w5:IntKind.u64.wrap ((first:Int)+(z:Int))=(f:Int):=by rw[Go.Am.wrap_u64 (by omega)];omega
  obtain⟨v4,H4,e4,rfl,hge,lv',S',hS4⟩:=hS3.clear hlf (K:=K) (by omega) hgl h00 (f:=f) (by omega) (n+1)
  obtain⟨v5,H5,e5,rfl,t5⟩:=ulfree hlf (K:=K) hS4.log (n+5)
  obtain⟨fr2,hfr2⟩:∃ fr2:Int,fr2=(R:Int) - ((head - posAt N head (f - first):Nat):Int):=⟨_,rfl⟩
  rw[← hfr2] at e5
  have hlt2:¬ fr2 < fr:=by
   have:=hS4.log.rg.th
   omega
  simp (maxDischargeDepth:=12) only[c3_l0,q1,q6,q8,hlt',hlt,h40',hle,ld,wid3,put3,hH1,e2,e3,hg3,k0,g1,k1,w2,w3,w4,r1,w5,e4,e5,hlt2,w1,Nat.mul_one,hv,ldO_one,stO_one,sy,tup,↓reduceIte,zA,zG,zC,zD,zF,zE,zB,zH,reduceCtorEq]
  exact⟨40 - (i+1),by omega,i+1,rfl,by omega,hle,trivial,by simp[q1],by simp[q6],by simp,_,_,_,_,_,_,_,_,hS4.same t5⟩
 | false=>
  have next:∀ {J:Heap},Turns Z H3 J→∃ cnt first tail head N lv S st,LS G0 J l b R (i+1) cnt first tail head N lv S st:=fun tJ=>⟨_,_,_,_,_,_,_,_,(hS3.same tJ).up⟩
  by_cases hz:scs.length=0
  ·have hz':((scs.length:Int)==0)=true:=by rw[hz];rfl
   simp (maxDischargeDepth:=12) only[c3_l0,q1,q6,q8,hlt',hlt,h40',hle,ld,wid3,put3,hH1,e2,e3,hg3,k0,k2,hz',w1,Nat.mul_one,hv,ldO_one,stO_one,sy,tup,↓reduceIte,zA,zG,zC,zD,zF,zE,zB,zH,reduceCtorEq]
   exact⟨40 - (i+1),by omega,i+1,rfl,by omega,hle,trivial,by simp[q1],by simp[q6],by simp,next (Turns.refl _ _)⟩
  have hz':((scs.length:Int)==0)=false:=by rw[beq_eq_false_iff_ne];omega
  by_cases h32:32 < scs.length
  ·have h32':(32:Int) < (scs.length:Int):=by omega
   simp (maxDischargeDepth:=12) only[c3_l0,q1,q6,q8,hlt',hlt,h40',hle,ld,wid3,put3,hH1,e2,e3,hg3,k0,k2,hz',h32',h32,w1,Nat.mul_one,hv,ldO_one,stO_one,sy,tup,↓reduceIte,zA,zG,zC,zD,zF,zE,zB,zH,reduceCtorEq]
   exact⟨40 - (i+1),by omega,i+1,rfl,by omega,hle,trivial,by simp[q1],by simp[q6],by simp,next (Turns.refl _ _)⟩
  have h32':¬ (32:Int) < (scs.length:Int):=by omega
  have tc3:=(t1.trans t2).trans t3
  obtain⟨v4,H4,e4,t4,h4⟩:=hS3.append hlf (K:=K) (by omega) hgl h00 (hcs.turnsZ tc3) (by omega) (by omega) (pc:=spc) (po:=spo) (n+2)
  obtain⟨k,hk⟩:∃ k,k=recS scs.length:=⟨_,rfl⟩
  have hk34:1≤k∧k≤34:=by rw[hk];unfold recS;omega
  have hromm:roomN R tail head N scs=(decide ((k:Int)≤fr)&&decide (N.length < 8)):=by
   unfold roomN roomR
   rw[← hk]
   congr 1
   have h1:decide (k≤4611686018427387904 - head)=true:=decide_eq_true (by omega)
   rw[h1,Bool.and_true]
   apply decide_eq_decide.2
   have:=hrg.th
   have:=hrg.le
   omega
  have hcell:¬ LX b l lv (.run HH.next):=by
   obtain⟨_,G1,hN,_⟩:=hS.log.ex
   rintro(e | e | e)
   ·have:=hS.bo
    rw[← e] at this
    exact absurd this (Heap.not_old (Nat.le_refl _))
   ·have:=hS.log.old
    rw[← e] at this
    exact absurd this (Heap.not_old (Nat.le_refl _))
   ·obtain⟨m,em,_,hlt,_⟩:=hN.bof e
    have em:=Bk.run.inj em
    omega
  have hg4:=(t4.same (.run HH.next) (by show _ < _;exact o3) hcell).trans hg3
  have eZ:=ursize hlf (K:=K) H4 (k:=scs.length) (by omega) (by omega) (n+6)
  rw[← hk] at eZ
  have w3:IntKind.u64.wrap ((nx:Int) - (first:Int))=(N.length:Int):=by rw[Go.Am.wrap_u64 (by omega)];omega
  have b102:((10:Int)==2)=false:=rfl
  have b1010:((10:Int)==10)=true:=rfl
  have b100:((10:Int)==0)=false:=rfl
  have b00:((0:Int)==0)=true:=rfl
  have b02:((0:Int)==2)=false:=rfl
  rcases h4 with ⟨rfl,hS4⟩ | ⟨hr,rfl,hS4⟩ | ⟨hr,rfl,lv',S',st',hS4⟩
  ·have b22:((2:Int)==2)=true:=rfl
   simp (maxDischargeDepth:=12) only[c3_l0,q1,q6,q8,hlt',hlt,h40',hle,ld,wid3,put3,hH1,e2,e3,hg3,k0,k2,hz',h32',h32,e4,b22,w1,Nat.mul_one,hv,ldO_one,stO_one,sy,tup,↓reduceIte,zA,zG,zC,zD,zF,zE,zB,zH,reduceCtorEq]
   exact⟨40 - (i+1),by omega,i+1,rfl,by omega,hle,trivial,by simp[q1],by simp[q6],by simp,_,_,_,_,_,_,_,_,hS4⟩
  ·obtain⟨v5,H5,e5,rfl,t5⟩:=ulfree hlf (K:=K) hS4.log (n+5)
   rw[← hfr] at e5
   have fin:∃ m',m' < 40 - i∧m'=40 - (i+1):=⟨40 - (i+1),by omega,rfl⟩
   by_cases hkf:(k:Int)≤fr
   ·have hl8:¬ (N.length < 8):=fun e=>by rw[hromm,decide_eq_true hkf,decide_eq_true e] at hr;cases hr
    have hl8':¬ ((N.length:Int) < 8):=by omega
    simp (maxDischargeDepth:=12) only[c3_l0,q1,q6,q8,hlt',hlt,h40',hle,ld,wid3,put3,hH1,e2,e3,hg3,k0,k2,hz',h32',h32,e4,hg4,eZ,w3,w1,Nat.mul_one,b102,b1010,b100,hkf,hl8,hl8',e5,hv,ldO_one,stO_one,sy,tup,↓reduceIte,zA,zG,zC,zD,zF,zE,zB,zH,reduceCtorEq]
    exact⟨40 - (i+1),by omega,i+1,rfl,by omega,hle,trivial,by simp[q1],by simp[q6],by simp,_,_,_,_,_,_,_,_,hS4.same t5⟩
   ·simp (maxDischargeDepth:=12) only[c3_l0,q1,q6,q8,hlt',hlt,h40',hle,ld,wid3,put3,hH1,e2,e3,hg3,k0,k2,hz',h32',h32,e4,hg4,eZ,w3,w1,Nat.mul_one,b102,b1010,b100,hkf,e5,hv,ldO_one,stO_one,sy,tup,↓reduceIte,zA,zG,zC,zD,zF,zE,zB,zH,reduceCtorEq]
    exact⟨40 - (i+1),by omega,i+1,rfl,by omega,hle,trivial,by simp[q1],by simp[q6],by simp,_,_,_,_,_,_,_,_,hS4.same t5⟩
  ·obtain⟨v5,H5,e5,rfl,t5⟩:=ulfree hlf (K:=K) hS4.log (n+5)
   have hkf:(k:Int)≤fr:=by
    rw[hromm,Bool.and_eq_true] at hr
    exact of_decide_eq_true hr.1
   have hl8:N.length < 8:=by
    rw[hromm,Bool.and_eq_true] at hr
    exact of_decide_eq_true hr.2
   have hl8':(N.length:Int) < 8:=by omega
   have hth:=hrg.th
   have hfe:(R:Int) - ((head+recS scs.length - tail:Nat):Int)=fr - (k:Int):=by rw[← hk];omega
   rw[hfe] at e5
   rw[← hnx] at e4
   have w6:IntKind.i64.wrap (fr - (k:Int))=fr - (k:Int):=Go.Am.wrap_i64 (by omega)
   have bnx:((nx:Int)==(nx:Int))=true:=beq_self_eq_true _
   have bfr:((fr - (k:Int))==(fr - (k:Int)))=true:=beq_self_eq_true _
   simp (maxDischargeDepth:=12) only[c3_l0,q1,q6,q8,hlt',hlt,h40',hle,ld,wid3,put3,hH1,e2,e3,hg3,k0,k2,hz',h32',h32,e4,hg4,eZ,w3,w1,Nat.mul_one,b00,b02,hkf,hl8,hl8',e5,w6,bnx,bfr,hv,ldO_one,stO_one,sy,tup,↓reduceIte,zA,zG,zC,zD,zF,zE,zB,zH,reduceCtorEq]
   exact⟨40 - (i+1),by omega,i+1,rfl,by omega,hle,trivial,by simp[q1],by simp[q6],by simp,_,_,_,_,_,_,_,_,hS4.same t5⟩
end
end Go.Proofs.YtabebpemfinejaaDoor.draft
namespace Go.Proofs.YtabebpemfinejaaDoor.disk
open Go.Am
theorem wf_u8 {n:Int} (h:(Lit.int .u8 n).wf=true):∃ s:Nat,s < 256∧n=(s:Int):=by
 have h:(decide (IntKind.u8.min≤n)&&decide (n≤IntKind.u8.max))=true:=h
 simp only[Bool.and_eq_true,decide_eq_true_eq] at h
 have h1:(0:Int)≤n:=h.1
 have h2:n≤255:=h.2
 exact⟨n.toNat,by omega,(Int.toNat_of_nonneg h1).symm⟩
theorem u8_of {a:Nat→Option Am.Obj} {u:V} (h:FitsV a (.int .u8) u):∃ s:Nat,s < 256∧u=.int .u8 (s:Int):=by
 obtain⟨C,⟨n,hw,rfl⟩,hu⟩:=h
 cases hu
 obtain⟨s,hs,rfl⟩:=wf_u8 hw
 exact⟨s,hs,rfl⟩
end Go.Proofs.YtabebpemfinejaaDoor.disk
namespace Go.Proofs.YtabebpemfinejaaDoor.draft
open Go.Am
def cellSh:Sh:=.seq (.seq (.int .i64) (.seq (.int .i64) .nil)) (.seq .blk .nil)
def stepSh:Sh:=.seq .bool (.seq (.int .u8) (.seq (.slice 66 cellSh) .nil))
section
variable {a:Nat→Option Am.Obj} {H:Heap} (hH:∀ n,H.get (.arg n)=a n)
include hH
theorem cell_of {r:List V} (h:Fits a cellSh r):∃ c:Cl,r=rowC c∧c.x < 256 ^ 64:=by
 obtain⟨_,_,rfl,⟨_,_,rfl,⟨s,_,rfl⟩,_,_,rfl,⟨m,_,rfl⟩,rfl⟩,_,_,rfl,⟨B,hB,rfl⟩,rfl⟩:=h
 exact⟨⟨s,m,B⟩,rfl,hB⟩
theorem cells_list:∀(R:List (List V)),(∀ r ∈ R,Fits a cellSh r)→∃ l:List Cl,l.map rowC=R∧∀ c ∈ l,c.x < 256 ^ 64
 | [],_=>⟨[],rfl,fun c h=>by cases h⟩
 | r::R,h=>by
  obtain⟨c,e,hc⟩:=cell_of hH (h r (List.mem_cons_self ..))
  obtain⟨l,el,hl⟩:=cells_list R (fun r hr=>h r (List.mem_cons_of_mem _ hr))
  refine⟨c::l,by rw[List.map_cons,e,el],fun x hx=>?_⟩
  rcases List.mem_cons.1 hx with rfl | hx
  ·exact hc
  ·exact hl x hx
theorem cells_of {C:List V} (h:Fits a (.slice 66 cellSh) C):∃ p lc l,C=[.slice p (List.length l) lc 0]∧CellsAt H p l∧(∀ c ∈ l,c.x < 256 ^ 64)∧l.length≤maxLen:=by
 rcases h with rfl | ⟨b,len,rows,rfl,hb,hl,hm,hr⟩
 ·exact⟨none,0,[],rfl,⟨fun e=>absurd rfl e⟩,fun c h=>(by cases h),Nat.zero_le _⟩
 ·obtain⟨l,el,hc⟩:=cells_list hH rows hr
  have hll:l.length=rows.length:=by rw[← el,List.length_map]
  refine⟨some ⟨.arg b,0⟩,rows.length,l.take len,by rw[List.length_take,Nat.min_eq_left (by omega)],⟨fun _=>⟨.arg b,0,true,rows,rfl,trivial,(hH b).trans hb,fun i hi=>?_⟩⟩,fun c h=>hc c (List.mem_of_mem_take h),by rw[List.length_take];omega⟩
  rw[List.length_take] at hi
  rw[Nat.zero_add,← el,List.getElem?_map,List.getElem?_eq_getElem (by omega),List.getElem_take]
  rfl
theorem step_of {r:List V} (h:Fits a stepSh r):∃ s:Sp,r=s.row∧CellsAt H s.pp s.cs∧s.n < 256:=by
 obtain⟨_,_,rfl,⟨cl,rfl⟩,_,_,rfl,⟨n,hn,rfl⟩,_,_,rfl,hs,rfl⟩:=h
 obtain⟨p,lc,l,rfl,hc,_,_⟩:=cells_of hH hs
 have hn:(decide (0≤n)&&decide (n≤255))=true:=hn
 simp only[Bool.and_eq_true,decide_eq_true_eq] at hn
 refine⟨⟨cl,n.toNat,p,l,lc,0⟩,?_,hc,by show n.toNat < 256;omega⟩
 show _=[V.bool cl,.int .u8 ((n.toNat:Nat):Int),.slice p l.length lc 0]
 rw[Int.toNat_of_nonneg hn.1];rfl
theorem steps_list:∀(R:List (List V)),(∀ r ∈ R,Fits a stepSh r)→∃ l:List Sp,l.map Sp.row=R∧∀ s ∈ l,CellsAt H s.pp s.cs∧s.n < 256
 | [],_=>⟨[],rfl,fun c h=>by cases h⟩
 | r::R,h=>by
  obtain⟨c,e,hc⟩:=step_of hH (h r (List.mem_cons_self ..))
  obtain⟨l,el,hl⟩:=steps_list R (fun r hr=>h r (List.mem_cons_of_mem _ hr))
  refine⟨c::l,by rw[List.map_cons,e,el],fun x hx=>?_⟩
  rcases List.mem_cons.1 hx with rfl | hx
  ·exact hc
  ·exact hl x hx
theorem steps_of {u:V} (h:FitsV a (.slice 3 stepSh) u):∃ p lc L,u=.slice p (List.length L) lc 0∧SpsAt H p L:=by
 obtain⟨C,hf,hu⟩:=h
 rcases hf with rfl | ⟨b,len,rows,rfl,hb,hl,hm,hr⟩
 ·cases hu
  exact⟨none,0,[],rfl,⟨fun e=>absurd rfl e,fun s h=>(by cases h),fun s h=>(by cases h)⟩⟩
 ·cases hu
  obtain⟨l,el,hc⟩:=steps_list hH rows hr
  have hll:l.length=rows.length:=by rw[← el,List.length_map]
  refine⟨some ⟨.arg b,0⟩,rows.length,l.take len,by rw[List.length_take,Nat.min_eq_left (by omega)],⟨fun _=>⟨.arg b,0,true,rows,rfl,trivial,(hH b).trans hb,fun i hi=>?_⟩,fun s hs=>(hc s (List.mem_of_mem_take hs)).1,fun s hs=>(hc s (List.mem_of_mem_take hs)).2⟩⟩
  rw[List.length_take] at hi
  rw[Nat.zero_add,← el,List.getElem?_map,List.getElem?_eq_getElem (by omega),List.getElem_take]
  rfl
end
end Go.Proofs.YtabebpemfinejaaDoor.draft
namespace Go.Proofs.YtabebpemfinejaaDoor.draft
open Go.Am
open disk (bx Fit A1 R1 Low Bn)
section
variable {lf K:Nat} (hlf:1000 < lf)
include hlf
theorem LS.refuse {G0 G:Heap} {l b:Bk} {R i cnt first tail head:Nat} {N:List Nt} {lv:V} {S:List Nat} {st:Nat} (h:LS G0 G l b R i cnt first tail head N lv S st) (hi:i≤45) (hgl:G0.get (.run 0)=some (.rows true 4 (intsR [8,2,8,8]))) (h00:0 < G0.next) {f:Nat} (hf64:f < 18446744073709551616) (hf:f < first∨first+N.length < f) (n:Nat):ret (U lf K (n+7) 10 [.ptr (some ⟨l,0⟩),.int .u64 (f:Int)] G) fun v G'=>v=.int .i64 2∧LS G0 G' l b R i cnt first tail head N lv S st:=by
 have h1:=h.len
 have h2:=h.R
 have h3:=h.cnt
 have h4:=h.fst
 have h6:=h.st
 have hS0:S≠[]:=fun e=>by rw[e] at h1;simp at h1
 obtain⟨v,G',e,hr⟩:=ulclear hlf (K:=K) ((h.t.same (.run 0) h00 (fun h=>h)).trans hgl) (Nat.lt_of_lt_of_le h00 h.t.next) h.log h.ch h.bo h.lb h.hb (devB_rm hS0 (by omega) (by decide) (by omega)) (by decide) h2.1 (by omega) h4.1 (f:=f) hf64 n
 refine⟨v,G',e,?_⟩
 rcases hr with ⟨_,rfl,t⟩ | ⟨h7,_⟩
 ·exact⟨rfl,h.same t⟩
 ·omega
theorem logroom_run (G:Heap) (hgl:G.get (.run 0)=some (.rows true 4 (intsR [8,2,8,8]))) (h00:0 < G.next) {m:Nat} (hm:m < 256) {pp:Option Ptr} {L:List Sp} {pc po:Nat} (hL:SpsAt G pp L) (n:Nat):ret (U lf K (n+11) 3 [.int .u8 (m:Int),.slice pp L.length pc po] G) fun v G'=>v=.bool true∧Turns Z G G':=by
 obtain⟨R,hR⟩:∃ R,R=40+m % 216:=⟨_,rfl⟩
 obtain⟨v1,G1,e1,b,l,rfl,hl1,hb1,lb,bn,ln,bo,t1⟩:=ulaid hlf (K:=K) hgl h00 hm hR n
 have hlS:(layS (List.replicate (10+R) 0) 7 R).length=R+10:=by unfold layS;rw[stepsD_len,List.length_replicate];omega
 have h1:LS G G1 l b R 0 1 1 0 0 [] (.slice none 0 0 0) (layS (List.replicate (10+R) 0) 7 R) 13:=
  ⟨hl1,rfl,hb1,hlS,by omega,by decide,by decide,by decide,by decide,fun c ⟨_,_,_,_,e,_⟩=>(by cases e),bo,lb,bn,ln,t1⟩
 obtain⟨v2,G2,e2,rfl,t2⟩:=ulfree hlf (K:=K) h1.log (n+7)
 have h2:=h1.same t2
 obtain⟨v3,G3,e3,rfl,t3⟩:=ulring hlf (K:=K) h2.log (n+8)
 have h3:=h2.same t3
 have e2':(R:Int) - ((0 - 0:Nat):Int)=(R:Int):=by omega
 rw[e2'] at e2
 have hloop:=logroom_loop hlf (K:=K) (G:=G3) hgl h00 hL ⟨_,_,_,_,_,_,_,_,h3⟩ (pc:=pc) (po:=po) (n+2)
 refine ret_callU rfl rfl c3_eq ?_
 have bRR:((R:Int)==(R:Int))=true:=beq_self_eq_true _
 simp (maxDischargeDepth:=12) only[c3,e1,e2,e3,bRR,hv,ldO_one,stO_one,sy,tup,↓reduceIte,zA,zG,zC,zD,zF,zE,zB,zH,reduceCtorEq]
 refine wp_ctx (F:=fun r=>seqC _ _ _ (blockC _ r)) (hloop _ ?_ ?_ ?_) ?_
 ·simp only[sy,tup,↓reduceIte,zA,zG,zC,zD,zF,zE,zB,zH,reduceCtorEq]
 ·simp only[sy,tup,↓reduceIte,zA,zG,zC,zD,zF,zE,zB,zH,reduceCtorEq]
 ·simp only[sy,tup,↓reduceIte,zA,zG,zC,zD,zF,zE,zB,zH,reduceCtorEq]
 rintro x ⟨t,G4,d⟩ ⟨rfl,hd,q6,cnt,first,tail,head,N,lv,S,st,h4⟩
 dsimp only at hd q6 h4
 subst hd
 have hfs:=h4.fst
 obtain⟨v5,G5,e5,rfl,t5⟩:=ullive hlf (K:=K) h4.log (n+8)
 have h5:=h4.same t5
 obtain⟨nx,hnx⟩:∃ nx,nx=first+N.length:=⟨_,rfl⟩
 rw[← hnx] at e5
 obtain⟨v6,G6,e6,rfl,_,lv6,S6,h6⟩:=h5.clear hlf (K:=K) (by omega) hgl h00 (f:=nx) (by omega) (n+3)
 rw[show nx - first=N.length by omega,posAt_ge (Nat.le_refl _),List.drop_length] at h6
 obtain⟨v7,G7,e7,rfl,t7⟩:=ulfree hlf (K:=K) h6.log (n+7)
 have h7:=h6.same t7
 have e7':(R:Int) - ((head - head:Nat):Int)=(R:Int):=by omega
 rw[e7'] at e7
 obtain⟨v8,G8,e8,rfl,t8⟩:=ulring hlf (K:=K) h7.log (n+8)
 have h8:=h7.same t8
 obtain⟨ny,hny⟩:∃ ny,ny=nx+1:=⟨_,rfl⟩
 obtain⟨nz,hnz⟩:∃ nz,nz=nx - 1:=⟨_,rfl⟩
 obtain⟨v9,G9,e9,rfl,h9⟩:=h8.refuse hlf (K:=K) (by omega) hgl h00 (f:=ny) (by omega) (.inr (by simp only[List.length_nil];omega)) (n+3)
 obtain⟨v10,G10,e10,rfl,h10⟩:=h9.refuse hlf (K:=K) (by omega) hgl h00 (f:=nz) (by omega) (.inl (by omega)) (n+3)
 have eL:=qLives (lf:=lf) (K:=K) (w:=n+9) (G:=G10) ((h10.t.same (.run 0) h00 (fun h=>h)).trans hgl)
 have g1:¬ nx < first:=by omega
 have w1:IntKind.u64.wrap ((nx:Int)+1)=(ny:Int):=by rw[Go.Am.wrap_u64 (by omega)];omega
 have w2:IntKind.u64.wrap ((nx:Int) - 1)=(nz:Int):=by rw[Go.Am.wrap_u64 (by omega)];omega
 have b00:((0:Int)==0)=true:=rfl
 have b22:((2:Int)==2)=true:=rfl
 simp (maxDischargeDepth:=12) only[q6,e5,g1,e6,e7,e8,bRR,w1,w2,e9,e10,eL,b00,b22,hv,ldO_one,stO_one,sy,tup,↓reduceIte,zA,zG,zC,zD,zF,zE,zB,zH,reduceCtorEq]
 refine⟨trivial,.inr trivial,_,rfl,rfl,?_⟩
 have:=h10.t
 repeat (first | exact Turns.refl _ _ | apply Turns.skip | apply Turns.addm | apply Turns.setb | apply Turns.setl | apply Turns.setr | refine Turns.setn ?_ _ (by omega) _ | refine Turns.trans ?_ (tF _))
 exact this
end
end Go.Proofs.YtabebpemfinejaaDoor.draft
