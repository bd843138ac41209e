import Derived.Test.YtabebpemfinejaaDoorG7
import Derived.Test.YtabebpemfinejaaDoorG5
import Derived.Test.YtabebpemfinejaaDoorG6
set_option linter.unusedVariables false
set_option linter.unusedSectionVars false
set_option linter.unusedSimpArgs false
set_option maxRecDepth 10000
open Nat renaming reduceEqDiff → zA, reduceLeDiff → zB, reduceSub → zC, reduceMul → zD, reduceMod → zE, reduceDiv → zF, reduceAdd → zG
open Int renaming reduceBEq → zH
namespace Go.Proofs.YtabebpemfinejaaDoor.draft
open Go.Am
open disk (bx Fit A1 R1 Low Bn)
noncomputable def c5_l0:C:=.seq (.seq (.reg [
 mv 169 28,
 mv 170 26,
 qo 171 (.p (arF .lss (tt 169) (tt 170))) [pp 169,pp 170]]) (
 .cond (tt 171) (.skip) (.exit 2))) (
 .seq (.block 3 (.seq (.reg [
 mv 175 23,
 mv 176 28,
 qo 177 (.c (callF (ff 16) [(tt 175),(tt 176)])) [pp 175,pp 176],
 mv 174 177,
 qo 178 (.p (extF (tt 174) 0)) [pp 174],
 qo 179 (.p (extF (tt 174) 1)) [pp 174],
 mv 29 178,
 mv 30 179]) (
 .seq (.reg [
 mv 180 15,
 mv 31 180]) (
 .seq (.seq (.reg [
 mv 181 28,
 mv 182 27,
 qo 183 (.p (arF .lss (tt 181) (tt 182))) [pp 181,pp 182]]) (
 .cond (tt 183) (.reg [
 mv 184 12,
 mv 185 28,
 qo 186 (.p (arF .sub (tt 185) (.c (.int .u64 1)))) [pp 185],
 qo 187 (.p (convF .i64 (tt 186))) [pp 186],
 qo 188 (.p (iaddrSF (tt 184) (tt 187) 1)) [pp 184,pp 187],
 qo 189 (.r (loadF (tt 188) 1 .sc)) [pp 188],
 mv 31 189]) (.skip))) (
 .seq (.reg [
 mv 190 30,
 qo 191 (.p (eqcF true false [.int .i64] (tt 190) (ii 0))) [pp 190],
 mv 192 191,
 mg 193 29 192 false,
 mg 194 31 192 false,
 qg 195 (.c (callF (ff 17) [(tt 193),(tt 194)])) 192 false [pp 193,pp 194],
 qg 196 (.p (unF .not (tt 195))) 192 false [pp 195],
 qo 197 (.p (pickF (tt 192) (.c (.bool true)) (tt 196))) [pp 192,pp 196]]) (
 .cond (tt 197) (.seq (.reg [
 qo 8 (.p (S.get (.c (.bool false)))) []]) (
 .ret)) (.skip))))))) (
 .reg [
 mv 172 28,
 qo 173 (.p (arF .add (tt 172) (.c (.int .u64 1)))) [pp 172],
 mv 28 173]))
noncomputable def c5_l1:C:=.seq (.seq (.reg [
 mv 50 16,
 mv 51 1,
 qo 52 (.p (lenF (tt 51))) [pp 51],
 qo 53 (.p (arF .lss (tt 50) (tt 52))) [pp 50,pp 52],
 mv 54 53,
 mg 55 16 54 true,
 qg 56 (.p (arF .lss (tt 55) (ii 40))) 54 true [pp 55],
 qo 57 (.p (pickF (tt 54) (tt 56) (.c (.bool false)))) [pp 54,pp 56],
 mv 58 57,
 mg 59 9 58 true,
 qg 60 (.c (callF (ff 19) [(tt 59)])) 58 true [pp 59],
 qg 61 (.p (unF .not (tt 60))) 58 true [pp 60],
 qo 62 (.p (pickF (tt 58) (tt 61) (.c (.bool false)))) [pp 58,pp 61]]) (
 .cond (tt 62) (.skip) (.exit 0))) (
 .seq (.block 1 (.seq (.reg [
 mv 65 1,
 mv 66 16,
 qo 67 (.p (iaddrSF (tt 65) (tt 66) 3)) [pp 65,pp 66],
 qo 68 (.r (loadF (tt 67) 3 .ag)) [pp 67],
 qo 17 (.m (allocF 3 [.bool false,.int .u8 0,.slice none 0 0 0])) [],
 qn (.a (storeF (tt 17) (tt 68) 3)) [pp 17,pp 68]]) (
 .seq (.reg [
 mv 69 12,
 qo 70 (.p (lenF (tt 69))) [pp 69],
 qo 71 (.p (convF .u64 (tt 70))) [pp 70],
 qo 72 (.p (arF .add (tt 71) (.c (.int .u64 1)))) [pp 71],
 mv 18 72]) (
 .seq (.seq (.reg [
 qo 73 (.p (faddrF (tt 17) 0)) [pp 17],
 qo 74 (.r (loadF (tt 73) 1 .sc)) [pp 73]]) (
 .cond (tt 74) (.seq (.reg [
 mv 75 13,
 qo 76 (.p (faddrF (tt 17) 1)) [pp 17],
 qo 77 (.r (loadF (tt 76) 1 .sc)) [pp 76],
 qo 78 (.p (convF .u64 (tt 77))) [pp 77],
 mv 79 18,
 mv 80 13,
 qo 81 (.p (arF .sub (tt 79) (tt 80))) [pp 79,pp 80],
 qo 82 (.p (arF .add (tt 81) (.c (.int .u64 1)))) [pp 81],
 qo 83 (.p (arF .rem (tt 78) (tt 82))) [pp 78,pp 82],
 qo 84 (.p (arF .add (tt 75) (tt 83))) [pp 75,pp 83],
 mv 19 84]) (
 .seq (.reg [
 mv 85 10,
 mv 86 19,
 qo 87 (.c (callF (ff 10) [(tt 85),(tt 86)])) [pp 85,pp 86],
 mv 20 87]) (
 .seq (.seq (.reg [
 mv 88 20,
 qo 89 (.p (eqcF false false [.int .i64] (tt 88) (ii 0))) [pp 88]]) (
 .cond (tt 89) (.reg [
 mv 90 19,
 mv 13 90]) (.skip))) (
 .seq (.reg [
 mv 91 19,
 mv 14 91]) (
 .seq (.seq (.reg [
 mv 92 20,
 qo 93 (.p (eqcF true false [.int .i64] (tt 92) (ii 0))) [pp 92],
 mv 94 93,
 mg 95 20 94 true,
 qg 96 (.p (eqcF true false [.int .i64] (tt 95) (ii 8))) 94 true [pp 95],
 qo 97 (.p (pickF (tt 94) (tt 96) (.c (.bool false)))) [pp 94,pp 96]]) (
 .cond (tt 97) (.seq (.reg [
 qo 8 (.p (S.get (.c (.bool false)))) []]) (
 .ret)) (.skip))) (
 .exit 1)))))) (.skip))) (
 .seq (.reg [
 mv 98 13,
 mv 14 98]) (
 .seq (.seq (.reg [
 qo 99 (.p (faddrF (tt 17) 2)) [pp 17],
 qo 100 (.r (loadF (tt 99) 1 .sc)) [pp 99],
 qo 101 (.c (callF (ff 20) [(tt 100)])) [pp 100]]) (
 .cond (tt 101) (.exit 1) (.skip))) (
 .seq (.reg [
 mv 103 10,
 qo 104 (.p (faddrF (tt 17) 2)) [pp 17],
 qo 105 (.r (loadF (tt 104) 1 .sc)) [pp 104],
 qo 106 (.c (callF (ff 11) [(tt 103),(tt 105)])) [pp 103,pp 105],
 mv 102 106,
 qo 107 (.p (extF (tt 102) 0)) [pp 102],
 qo 108 (.p (extF (tt 102) 1)) [pp 102],
 mv 21 107,
 mv 22 108]) (
 .seq (.seq (.reg [
 mv 109 22,
 qo 110 (.p (eqcF false false [.int .i64] (tt 109) (ii 0))) [pp 109]]) (
 .cond (tt 110) (.seq (.seq (.reg [
 mv 111 21,
 mv 112 18,
 qo 113 (.p (eqcF true false [.int .u64] (tt 111) (tt 112))) [pp 111,pp 112]]) (
 .cond (tt 113) (.seq (.reg [
 qo 8 (.p (S.get (.c (.bool false)))) []]) (
 .ret)) (.skip))) (
 .reg [
 mv 114 12,
 qo 115 (.p (faddrF (tt 17) 2)) [pp 17],
 qo 116 (.r (loadF (tt 115) 1 .sc)) [pp 115],
 qo 117 (.c (callF (ff 14) [(tt 116)])) [pp 116],
 qo 118 (.m (bsliceF 1 1 [.slice none 0 0 0] [(0,1,(tt 117))])) [pp 117],
 qo 119 (.a (appF 1 24 (tt 114) (tt 118))) [pp 114,pp 118],
 mv 12 119])) (.skip))) (
 .seq (.reg [
 qo 15 (.p (S.get (.c (.slice none 0 0 0)))) []]) (
 .seq (.reg [
 mv 120 22,
 qo 121 (.p (eqcF false false [.int .i64] (tt 120) (ii 8))) [pp 120]]) (
 .cond (tt 121) (.reg [
 qo 122 (.p (faddrF (tt 17) 2)) [pp 17],
 qo 123 (.r (loadF (tt 122) 1 .sc)) [pp 122],
 mv 15 123]) (.skip)))))))))))) (
 .reg [
 mv 63 16,
 qo 64 (.p (arF .add (tt 63) (ii 1))) [pp 63],
 mv 16 64]))
noncomputable def c5:CFn:=⟨[.tmp (pp 8)],
 .seq (.reg [
 qo 8 (.p (S.get (.c (.bool false)))) []]) (
 .seq (.reg [
 mv 33 0,
 qo 34 (.c (callF (ff 6) [(tt 33)])) [pp 33],
 mv 32 34,
 qo 35 (.p (extF (tt 32) 0)) [pp 32],
 qo 36 (.p (extF (tt 32) 1)) [pp 32],
 qo 37 (.p (extF (tt 32) 2)) [pp 32],
 mv 9 35,
 mv 10 36,
 mv 11 37]) (
 .seq (.seq (.reg [
 mv 38 11,
 qo 39 (.p (unF .not (tt 38))) [pp 38],
 mv 40 39,
 mg 41 9 40 false,
 mg 42 2 40 false,
 qg 43 (.p (arF .rem (tt 42) (.c (.int .u16 400)))) 40 false [pp 42],
 qg 44 (.p (convF .i64 (tt 43))) 40 false [pp 43],
 qg 45 (.p (arF .add (ii 1) (tt 44))) 40 false [pp 44],
 qg 46 (.c (callF (ff 18) [(tt 41),(tt 45)])) 40 false [pp 41,pp 45],
 qg 47 (.p (eqcF true false [.int .i64] (tt 46) (ii 0))) 40 false [pp 46],
 qo 48 (.p (pickF (tt 40) (.c (.bool true)) (tt 47))) [pp 40,pp 47]]) (
 .cond (tt 48) (.seq (.reg [
 qo 8 (.p (S.get (.c (.bool false)))) []]) (
 .ret)) (.skip))) (
 .seq (.reg [
 qo 12 (.p (S.get (.c (.slice none 0 0 0)))) []]) (
 .seq (.reg [
 qo 13 (.p (S.get (.c (.int .u64 1)))) []]) (
 .seq (.reg [
 mv 49 13,
 mv 14 49]) (
 .seq (.reg [
 qo 15 (.p (S.get (.c (.slice none 0 0 0)))) []]) (
 .seq (.seq (.reg [
 qo 16 (.p (S.get (ii 0))) []]) (
 .block 0 (.loop c5_l1))) (
 .seq (.seq (.reg [
 mv 124 9,
 mv 125 3,
 qo 126 (.c (callF (ff 21) [(tt 124),(tt 125)])) [pp 124,pp 125],
 qo 127 (.p (eqcF true false [.int .i64] (tt 126) (ii 0))) [pp 126]]) (
 .cond (tt 127) (.seq (.reg [
 qo 8 (.p (S.get (.c (.bool false)))) []]) (
 .ret)) (.skip))) (
 .seq (.reg [
 mv 129 9,
 qo 130 (.c (callF (ff 22) [(tt 129),(ii 0)])) [pp 129],
 mv 128 130,
 qo 131 (.p (extF (tt 128) 0)) [pp 128],
 qo 132 (.p (extF (tt 128) 1)) [pp 128],
 mv 23 131,
 mv 24 132]) (
 .seq (.seq (.reg [
 mv 133 24,
 qo 134 (.p (eqcF true false [.int .i64] (tt 133) (ii 0))) [pp 133]]) (
 .cond (tt 134) (.seq (.reg [
 qo 8 (.p (S.get (.c (.bool false)))) []]) (
 .ret)) (.skip))) (
 .seq (.reg [
 mv 136 23,
 qo 137 (.c (callF (ff 9) [(tt 136)])) [pp 136],
 mv 135 137,
 qo 138 (.p (extF (tt 135) 0)) [pp 135],
 qo 139 (.p (extF (tt 135) 1)) [pp 135],
 mv 25 138,
 mv 26 139]) (
 .seq (.reg [
 mv 140 12,
 qo 141 (.p (lenF (tt 140))) [pp 140],
 qo 142 (.p (convF .u64 (tt 141))) [pp 141],
 qo 143 (.p (arF .add (tt 142) (.c (.int .u64 1)))) [pp 142],
 mv 27 143]) (
 .seq (.seq (.reg [
 mv 144 25,
 mv 145 13,
 qo 146 (.p (eqcF true false [.int .u64] (tt 144) (tt 145))) [pp 144,pp 145],
 mv 147 146,
 mg 148 25 147 true,
 mg 149 14 147 true,
 qg 150 (.p (eqcF true false [.int .u64] (tt 148) (tt 149))) 147 true [pp 148,pp 149],
 qo 151 (.p (pickF (tt 147) (tt 150) (.c (.bool false)))) [pp 147,pp 150],
 mv 152 151,
 mg 153 26 152 false,
 mg 154 27 152 false,
 qg 155 (.p (eqcF true false [.int .u64] (tt 153) (tt 154))) 152 false [pp 153,pp 154],
 mg 156 155 152 false,
 mg 157 15 156 true,
 qg 158 (.p (lenF (tt 157))) 156 true [pp 157],
 qg 159 (.p (eqcF false false [.int .i64] (tt 158) (ii 0))) 156 true [pp 158],
 mg 160 159 156 true,
 mg 161 26 160 false,
 mg 162 27 160 false,
 qg 163 (.p (arF .add (tt 162) (.c (.int .u64 1)))) 160 false [pp 162],
 qg 164 (.p (eqcF true false [.int .u64] (tt 161) (tt 163))) 160 false [pp 161,pp 163],
 qg 165 (.p (pickF (tt 160) (.c (.bool true)) (tt 164))) 156 true [pp 160,pp 164],
 qg 166 (.p (pickF (tt 156) (tt 165) (.c (.bool false)))) 152 false [pp 156,pp 165],
 qo 167 (.p (pickF (tt 152) (.c (.bool true)) (tt 166))) [pp 152,pp 166]]) (
 .cond (tt 167) (.seq (.reg [
 qo 8 (.p (S.get (.c (.bool false)))) []]) (
 .ret)) (.skip))) (
 .seq (.seq (.reg [
 mv 168 25,
 mv 28 168]) (
 .block 2 (.loop c5_l0))) (
 .seq (.reg [
 qo 198 (.c (callF (ff 13) [])) [],
 mv 8 198]) (
 .ret))))))))))))))))⟩
theorem c5_eq:fnOf Tryd.prog 5=some c5:=by kernel_rfl
noncomputable def c20:CFn:=⟨[.tmp (pp 2)],
 .seq (.reg [
 qo 2 (.p (S.get (.c (.bool false)))) []]) (
 .seq (.reg [
 mv 3 0,
 qo 4 (.p (lenF (tt 3))) [pp 3],
 qo 5 (.p (arF .gtr (tt 4) (ii 60))) [pp 4],
 mv 2 5]) (
 .ret))⟩
theorem c20_eq:fnOf Tryd.prog 20=some c20:=by kernel_rfl
theorem LA.sameX {X:Bk→Prop} {G0 G G':Heap} {l b:Bk} {R i cnt first tail head:Nat} {N:List Nt} {lv:V} {S:List Nat} {st a:Nat} {C:List (List Cl)} (h:LA G0 G l b R i cnt first tail head N lv S st a C) (t:Turns X G G') (hb:¬ X b) (hl:¬ X l) (hv:∀ c,Bof lv c→¬ X c) (h0:∀ c,G0.Old c→¬ X c):LA G0 G' l b R i cnt first tail head N lv S st a C:=by
 obtain⟨hg,G1,hN,hn⟩:=h.log.ex
 exact { h with log:=⟨⟨(t.same l h.log.old hl).trans hg,G1,hN.turns t hv,Nat.le_trans hn t.next⟩,h.log.old.mono t.next,h.log.rb,h.log.rg,h.log.fn,h.log.nl⟩,hb:=(t.same b h.bo hb).trans h.hb,bo:=h.bo.mono t.next,t:=h.t.later t (fun c ho hc=>h0 c ho hc) }
theorem LA.lx {G0 G:Heap} {l b:Bk} {R i cnt first tail head:Nat} {N:List Nt} {lv:V} {S:List Nat} {st a:Nat} {C:List (List Cl)} (h:LA G0 G l b R i cnt first tail head N lv S st a C) {c:Bk} {w:Nat} {r:List (List V)} (hc:G.get c=some (.rows false w r)) (h9:w≠9) (h4:w≠4):¬ LX b l lv c:=by
 obtain⟨hg,G1,hN,hn⟩:=h.log.ex
 rintro(e | e | e)
 ·rw[e,h.hb] at hc;cases hc
 ·rw[e,hg] at hc;cases hc;exact h9 rfl
 ·obtain⟨_,_,_,_,hgB⟩:=hN.bof e
  rw[hgB] at hc;cases hc;exact h4 rfl
theorem LD.same {G0 G G':Heap} {b:Bk} {Q:List Nat→Prop} (h:LD G0 G b Q) (t:Turns Z G G'):LD G0 G' b Q:=by
 obtain⟨⟨S,L,st,h1,h2,h3⟩,h4,h5,h6⟩:=h
 exact⟨⟨S,L,st,(t.same b h4 (fun h=>h)).trans h1,h2,h3⟩,h4.mono t.next,h5,h6.trans t⟩
structure QE (G0 G:Heap) (b:Bk) (Q:List Nat→Prop):Prop where
 ex:∃ B:Bn,G.get b=some (bx false B)∧Fit B∧∀ P:List Int,∃ Sx st,B.crash P=devB Sx [] st∧st≤100000∧Q Sx
 bo:G.Old b
 bn:¬ G0.Old b
 t:Turns Z G0 G
theorem LD.qe {G0 G:Heap} {b:Bk} {Q:List Nat→Prop} (h:LD G0 G b Q):QE G0 G b Q:=by
 obtain⟨⟨S,L,st,h1,h2,h3⟩,h4,h5,h6⟩:=h
 have h7:(st:Int)≤100000:=h2.st.2
 exact⟨⟨_,h1,h2,fun P=>⟨_,st,(crash_dev S L st P).1,by omega,h3 P⟩⟩,h4,h5,h6⟩
theorem LA.qe {G0 G:Heap} {l b:Bk} {R i cnt first tail head:Nat} {N:List Nt} {lv:V} {S:List Nat} {st a:Nat} {C:List (List Cl)} (h:LA G0 G l b R i cnt first tail head N lv S st a C) (hi:i≤41):QE G0 G b (QF R first first C []):=by
 have h1:=h.std.op.len
 have h2:=h.std.op.hR
 have h3:=h.st
 have h4:=h.ar
 have h5:=h.cl
 have h6:=h.std.op.f
 have hS0:S≠[]:=fun e=>by rw[e] at h1;simp at h1
 refine⟨⟨_,h.hb,(devA_rm (k:=0) hS0 (by omega) (by decide) (by omega) (by omega)).fit,fun P=>⟨_,st,(crash_dev S [] st P).2 a,by omega,?_⟩⟩,h.bo,h.bn,h.t⟩
 exact⟨_,_,_,_,_,_,h.std.was,.inl rfl,.inl ⟨rfl,by omega⟩⟩
structure CK (G0 H:Heap) (C:List (List Cl)) (Ys:List V) (y:V) (last:List Cl) (v:V):Prop where
 all:Lst G0 H 1 (Ys.map fun v=>[v]) y
 len:Ys.length=C.length
 each:∀ j (h1:j < Ys.length) (h2:j < C.length),Lst G0 H 66 (rowsC C[j]) Ys[j]
 lst:(last=[]∧v=.slice none 0 0 0)∨(last.length≤32∧∃ pp pc po,v=.slice pp last.length pc po∧CellsAt G0 pp last)
theorem CK.same {G0 H H':Heap} {C:List (List Cl)} {Ys:List V} {y:V} {last:List Cl} {v:V} (h:CK G0 H C Ys y last v) (t:Turns Z H H'):CK G0 H' C Ys y last v:=
 ⟨h.all.turns t (fun _ _ h=>h),h.len,fun j h1 h2=>(h.each j h1 h2).turns t (fun _ _ h=>h),h.lst⟩
section
variable {lf K:Nat} (hlf:1000 < lf)
include hlf
theorem ugreat (G:Heap) {pp:Option Ptr} {k pc po:Nat} (n:Nat):U lf K (n+1) 20 [.slice pp k pc po] G=some (.v (.bool (decide (60 < k))),G):=by
 obtain⟨v,H',e',rfl,rfl⟩:ret (U lf K (n+1) 20 [.slice pp k pc po] G) fun v H'=>v=.bool (decide (60 < k))∧H'=G:=by
  refine ret_callU rfl rfl c20_eq ?_
  by_cases h:60 < k
  ·have h':(60:Int) < (k:Int):=by omega
   simp (maxDischargeDepth:=12) only[c20,h,h',hv,ldO_one,stO_one,sy,tup,↓reduceIte,zA,zG,zC,zD,zF,zE,zB,zH,reduceCtorEq]
   simp
  ·have h':¬ (60:Int) < (k:Int):=by omega
   simp (maxDischargeDepth:=12) only[c20,h,h',hv,ldO_one,stO_one,sy,tup,↓reduceIte,zA,zG,zC,zD,zF,zE,zB,zH,reduceCtorEq]
   simp
 exact e'
end
end Go.Proofs.YtabebpemfinejaaDoor.draft
namespace Go.Proofs.YtabebpemfinejaaDoor.draft
open Go.Am
open disk (bx Fit A1 R1 Low Bn)
section
variable {lf K:Nat} (hlf:1000 < lf)
include hlf
theorem logcuts_steps {G0 G:Heap} {l b:Bk} {R:Nat} (hgl:G0.get (.run 0)=some (.rows true 4 (intsR [8,2,8,8]))) (h00:0 < G0.next) {pp:Option Ptr} {L:List Sp} {pc po:Nat} (hL:SpsAt G0 pp L) (hsm:∀ s ∈ L,∀ c ∈ s.cs,c.x < 256 ^ 64) (hln:∀ s ∈ L,s.cs.length≤9223372036854775807) (hLf:∀ s ∈ L,s.cs.length+1 < lf) {cnt tail head:Nat} {lv:V} {S:List Nat} {st a:Nat} (h0:LA G0 G l b R 0 cnt 1 tail head [] lv S st a []) {t3:V} (n:Nat):∀ t:T,t.getP (Tr.path 1)=some (.slice pp L.length pc po)→t.getP (Tr.path 3)=some t3→t.getP (Tr.path 9)=some (.ptr (some ⟨b,0⟩))→t.getP (Tr.path 10)=some (.ptr (some ⟨l,0⟩))→t.getP (Tr.path 12)=some (.slice none 0 0 0)→t.getP (Tr.path 13)=some (.int .u64 1)→t.getP (Tr.path 14)=some (.int .u64 1)→t.getP (Tr.path 15)=some (.slice none 0 0 0)→t.getP (Tr.path 16)=some (.int .i64 0) →
  wp (loopF (runC (U lf K (n+10)) lf c5_l1) lf ⟨t,G,[]⟩) fun x s=>x=.ex 0∧s.d=[]∧s.t.getP (Tr.path 3)=some t3∧s.t.getP (Tr.path 9)=some (.ptr (some ⟨b,0⟩))∧∃(first under:Nat) (C:List (List Cl)) (last:List Cl) (Ys:List V) (y v:V),first≤60∧under≤60∧C.length≤60∧s.t.getP (Tr.path 12)=some y∧s.t.getP (Tr.path 13)=some (.int .u64 (first:Int))∧s.t.getP (Tr.path 14)=some (.int .u64 (under:Int))∧s.t.getP (Tr.path 15)=some v∧CK G0 s.H C Ys y last v∧QE G0 s.H b (QF R first under C last):=by
 intro t q1 q3 q9 q10 q12 q13 q14 q15 q16
 refine wp_loopF (fun u s=>∃ i:Nat,u=40 - i∧i≤40∧i≤L.length∧s.d=[]∧s.t.getP (Tr.path 1)=some (.slice pp L.length pc po)∧s.t.getP (Tr.path 3)=some t3∧s.t.getP (Tr.path 9)=some (.ptr (some ⟨b,0⟩))∧s.t.getP (Tr.path 10)=some (.ptr (some ⟨l,0⟩))∧s.t.getP (Tr.path 16)=some (.int .i64 (i:Int))∧∃(first under:Nat) (C:List (List Cl)) (last:List Cl) (Ys:List V) (y v:V),first≤60∧under≤60∧C.length≤60∧s.t.getP (Tr.path 12)=some y∧s.t.getP (Tr.path 13)=some (.int .u64 (first:Int))∧s.t.getP (Tr.path 14)=some (.int .u64 (under:Int))∧s.t.getP (Tr.path 15)=some v∧CK G0 s.H C Ys y last v ∧
   ((under=first∧last=[]∧∃ cnt tail head N lv S st a,LA G0 s.H l b R i cnt first tail head N lv S st a C)∨LD G0 s.H b (QF R first under C last)))
  ?_ lf 40 _ ⟨0,rfl,Nat.zero_le _,Nat.zero_le _,rfl,q1,q3,q9,q10,q16,1,1,[],[],[],_,_,by decide,by decide,by decide,q12,q13,q14,q15,⟨Lst.nil _ _ _,rfl,fun j h=>absurd h (by simp),.inl ⟨rfl,rfl⟩⟩,.inl ⟨rfl,rfl,_,_,_,_,_,_,_,_,h0⟩⟩ (by omega)
 rintro u ⟨t,HH,d⟩ ⟨i,rfl,hi,hiL,hd,q1,q3,q9,q10,q16,first,under,C,last,Ys,y,v15,hb1,hb2,hb3,q12,q13,q14,q15,hK,hS⟩
 dsimp only at hd q1 q3 q9 q10 q16 q12 q13 q14 q15 hK hS
 subst hd
 have hQE:∀ {J:Heap},Turns Z HH J→QE G0 J b (QF R first under C last):=fun {J} tJ=>by
  rcases hS with ⟨rfl,rfl,_,_,_,_,_,_,_,_,h⟩ | h
  ·exact(h.same tJ).qe (by omega)
  ·exact(h.same tJ).qe
 by_cases hlt:i < L.length
 rotate_left
 ·have:i=L.length:=by omega
  subst this
  simp (maxDischargeDepth:=12) only[c5_l1,q1,q16,Int.lt_irrefl,Nat.lt_irrefl,hv,ldO_one,stO_one,sy,tup,↓reduceIte,zA,zG,zC,zD,zF,zE,zB,zH,reduceCtorEq]
  exact⟨trivial,trivial,by simp[q3],by simp[q9],first,under,C,last,Ys,y,v15,hb1,hb2,hb3,by simp[q12],by simp[q13],by simp[q14],by simp[q15],hK,hQE (Turns.refl _ _)⟩
 have hlt':(i:Int) < (L.length:Int):=by omega
 by_cases h40:i < 40
 rotate_left
 ·have:i=40:=by omega
  subst this
  have h40':¬ (((40:Nat):Int) < 40):=by decide
  simp (maxDischargeDepth:=12) only[c5_l1,q1,q16,hlt',hlt,h40',hv,ldO_one,stO_one,sy,tup,↓reduceIte,zA,zG,zC,zD,zF,zE,zB,zH,reduceCtorEq]
  exact⟨trivial,trivial,q3,q9,first,under,C,last,Ys,y,v15,hb1,hb2,hb3,q12,q13,q14,q15,hK,hQE (Turns.refl _ _)⟩
 have h40':(i:Int) < 40:=by omega
 have tsk:Turns Z HH (HH.skip (K+2)):=(Turns.refl Z HH).skip _
 rcases hS with ⟨hu,hla,cnt,tail,head,N,lv,S,st,a,hS⟩ | hS
 rotate_left
 ·
  obtain⟨⟨S',L',st',hbD,hfD,_⟩,_⟩:=hS
  have eD:=qDark (lf:=lf) (K:=K) (w:=n+9) hbD hfD
  rw[show (devD S' L' st').dk=true from rfl] at eD
  simp (maxDischargeDepth:=12) only[c5_l1,q1,q9,q16,hlt',hlt,h40',eD,hv,ldO_one,stO_one,sy,tup,↓reduceIte,zA,zG,zC,zD,zF,zE,zB,zH,reduceCtorEq]
  exact⟨trivial,trivial,by simp[q3],by simp[q9],first,under,C,last,Ys,y,v15,hb1,hb2,hb3,by simp[q12],by simp[q13],by simp[q14],by simp[q15],hK.same tsk,hQE tsk⟩
 clear hQE
 subst hla
 have hle:i+1≤L.length:=hlt
 have w1:IntKind.i64.wrap ((i:Int)+1)=((i+1:Nat):Int):=by rw[Go.Am.wrap_i64 (by omega)];omega
 have op:=hS.std.op
 have hfs:=hS.fst
 have hff:=op.f
 have hcl:=hS.cl
 have hS0:S≠[]:=fun e=>by have:=op.len;rw[e] at this;simp at this
 have hfit:Fit (devA S [] st a):=(devA_rm (k:=0) hS0 (by have:=op.len;have:=op.hR;omega) (by decide) (by have:=hS.st;omega) (by have:=hS.ar;omega)).fit
 have eD:=qDark (lf:=lf) (K:=K) (w:=n+9) hS.hb hfit
 rw[show (devA S [] st a).dk=false from rfl] at eD
 have hSk:=hS.same tsk
 obtain⟨x,ox,rfl,ld⟩:=(hL.turns hSk.t).load hlt
 have hcs0:=hL.cells L[i] (List.getElem_mem _)
 have hspn:=hL.n L[i] (List.getElem_mem _)
 have hsm':=hsm L[i] (List.getElem_mem _)
 have hln':=hln L[i] (List.getElem_mem _)
 have hLf':=hLf L[i] (List.getElem_mem _)
 generalize L[i]=sp at ld hcs0 hspn hsm' hln' hLf'
 obtain⟨scl,sn,spp,scs,spc,spo⟩:=sp
 unfold Sp.row at ld
 dsimp only at ld hcs0 hspn hsm' hln' hLf'
 rw[get_skip] at ld
 have wid3:width [V.bool scl,.int .u8 (sn:Int),.slice spp scs.length spc spo]=3:=rfl
 have put3:put [V.bool false,.int .u8 0,.slice none 0 0 0] 0 [.bool scl,.int .u8 (sn:Int),.slice spp scs.length spc spo]=some [.bool scl,.int .u8 (sn:Int),.slice spp scs.length spc spo]:=rfl
 have k0:cut [V.bool scl,.int .u8 (sn:Int),.slice spp scs.length spc spo] 0 1=some [.bool scl]:=rfl
 have k1:cut [V.bool scl,.int .u8 (sn:Int),.slice spp scs.length spc spo] 1 1=some [.int .u8 (sn:Int)]:=rfl
 have k2:cut [V.bool scl,.int .u8 (sn:Int),.slice spp scs.length spc spo] 2 1=some [.slice spp scs.length spc spo]:=rfl
 have t1:Turns Z HH (((HH.skip (K+2)).add (.rows false 3 [[.bool false,.int .u8 0,.slice none 0 0 0]])).set (.run (HH.next+(K+2))) (.rows false 3 [[.bool scl,.int .u8 (sn:Int),.slice spp scs.length spc spo]])):=by
  refine Turns.setn ?_ _ (by omega) _
  exact tsk.addm _
 have hg1:(((HH.skip (K+2)).add (.rows false 3 [[.bool false,.int .u8 0,.slice none 0 0 0]])).set (.run (HH.next+(K+2))) (.rows false 3 [[.bool scl,.int .u8 (sn:Int),.slice spp scs.length spc spo]])).get (.run (HH.next+(K+2)))=some (.rows false 3 [[.bool scl,.int .u8 (sn:Int),.slice spp scs.length spc spo]]):=by rw[Heap.get_set,if_pos rfl]
 obtain⟨H1,hH1⟩:∃ H1,((HH.skip (K+2)).add (.rows false 3 [[.bool false,.int .u8 0,.slice none 0 0 0]])).set (.run (HH.next+(K+2))) (.rows false 3 [[.bool scl,.int .u8 (sn:Int),.slice spp scs.length spc spo]])=H1:=⟨_,rfl⟩
 have n1:H1.next=HH.next+(K+2)+1:=by rw[← hH1];rfl
 rw[hH1] at t1 hg1
 obtain⟨cc,hcc⟩:∃ cc,cc=HH.next+(K+2):=⟨_,rfl⟩
 have hS1:=hS.same t1
 have hK1:=hK.same t1
 have hYl:lenOf y=some Ys.length:=by
  obtain⟨p,q,z,e⟩:=hK.all.val
  rw[e,List.length_map];rfl
 obtain⟨yp,yc,yz,hy⟩:=hK.all.val
 rw[List.length_map] at hy
 have hlenY:=hK.len
 have wl:IntKind.u64.wrap (Ys.length:Int)=(Ys.length:Int):=Go.Am.wrap_u64 (by omega)
 obtain⟨nx,hnx⟩:∃ nx,nx=first+N.length:=⟨_,rfl⟩
 have wn:IntKind.u64.wrap ((Ys.length:Int)+1)=(nx:Int):=by rw[Go.Am.wrap_u64 (by omega)];omega
 subst hy
 have keep:∀ {J:Heap} {t':T},True:=trivial
 cases scl with
 | true=>
  have w2:IntKind.u64.wrap (sn:Int)=(sn:Int):=Go.Am.wrap_u64 (by omega)
  have w3:IntKind.u64.wrap ((nx:Int) - (first:Int))=(N.length:Int):=by rw[Go.Am.wrap_u64 (by omega)];omega
  obtain⟨L1,hL1⟩:∃ L1,L1=N.length+1:=⟨_,rfl⟩
  have w4:IntKind.u64.wrap ((N.length:Int)+1)=(L1:Int):=by rw[Go.Am.wrap_u64 (by omega)];omega
  obtain⟨z,hz⟩:∃ z,z=sn % L1:=⟨_,rfl⟩
  have hzl:z < L1:=by rw[hz];exact Nat.mod_lt _ (by omega)
  have r1:arith .rem (.int .u64 (sn:Int)) (.int .u64 (L1:Int))=some (.int .u64 (z:Int)):=by rw[hz];exact rem_u64 sn L1 (by omega)
  obtain⟨f,hf⟩:∃ f,f=first+z:=⟨_,rfl⟩
  have w5:IntKind.u64.wrap ((first:Int)+(z:Int))=(f:Int):=by rw[Go.Am.wrap_u64 (by omega)];omega
  obtain⟨v4,H4,e4,t4,h4⟩:=hS1.clear hlf (K:=K) (by omega) hgl h00 (f:=f) (by omega) (n+3)
  have hK4:CK G0 H4 C Ys (.slice yp Ys.length yc yz) [] v15:=⟨hK1.all.turns t4 (fun c hc=>by
    obtain⟨_,_,_,_,hg⟩:=hK1.all.bof hc
    exact hS1.lx hg (by decide) (by decide)),hK1.len,fun j j1 j2=>(hK1.each j j1 j2).turns t4 (fun c hc=>by
    obtain⟨_,_,_,_,hg⟩:=(hK1.each j j1 j2).bof hc
    exact hS1.lx hg (by decide) (by decide)),hK1.lst⟩
  have b00:((0:Int)==0)=true:=rfl
  have b80:((8:Int)==0)=false:=rfl
  have b88:((8:Int)==8)=true:=rfl
  rcases h4 with ⟨rfl,hA⟩ | ⟨rfl,hD⟩
  ·simp (maxDischargeDepth:=12) only[c5_l1,q1,q9,q10,q12,q13,q14,q15,q16,hlt',hlt,h40',hle,eD,ld,wid3,put3,hH1,hg1,wl,wn,k0,k1,w2,w3,w4,r1,w5,e4,b00,w1,Nat.mul_one,hv,ldO_one,stO_one,sy,tup,↓reduceIte,zA,zG,zC,zD,zF,zE,zB,zH,reduceCtorEq]
   exact⟨40 - (i+1),by omega,i+1,rfl,by omega,hle,trivial,by simp[q1],by simp[q3],by simp[q9],by simp[q10],by simp,f,f,C,[],Ys,_,v15,by omega,by omega,hb3,by simp[q12],by simp,by simp,by simp[q15],hK4,.inl ⟨rfl,rfl,(by obtain⟨a1,a2,a3,a4,a5,a6,a7,h⟩:=hA;exact⟨a1,a2,head,a3,a4,a5,a6,a7,h⟩)⟩⟩
  ·simp (maxDischargeDepth:=12) only[c5_l1,q1,q9,q10,q12,q13,q14,q15,q16,hlt',hlt,h40',hle,eD,ld,wid3,put3,hH1,hg1,wl,wn,k0,k1,w2,w3,w4,r1,w5,e4,b80,b88,w1,Nat.mul_one,hv,ldO_one,stO_one,sy,tup,↓reduceIte,zA,zG,zC,zD,zF,zE,zB,zH,reduceCtorEq]
   exact⟨40 - (i+1),by omega,i+1,rfl,by omega,hle,trivial,by simp[q1],by simp[q3],by simp[q9],by simp[q10],by simp,first,f,C,[],Ys,_,v15,hb1,by omega,hb3,by simp[q12],by simp[q13],by simp,by simp[q15],hK4,.inr hD⟩
 | false=>
  have eG:=fun H=>ugreat hlf (K:=K) H (pp:=spp) (k:=scs.length) (pc:=spc) (po:=spo) (n+9)
  by_cases hgr:60 < scs.length
  ·rw[show decide (60 < scs.length)=true from decide_eq_true hgr] at eG
   simp (maxDischargeDepth:=12) only[c5_l1,q1,q9,q10,q12,q13,q14,q15,q16,hlt',hlt,h40',hle,eD,ld,wid3,put3,hH1,hg1,wl,wn,k0,k2,eG,w1,Nat.mul_one,hv,ldO_one,stO_one,sy,tup,↓reduceIte,zA,zG,zC,zD,zF,zE,zB,zH,reduceCtorEq]
   exact⟨40 - (i+1),by omega,i+1,rfl,by omega,hle,trivial,by simp[q1],by simp[q3],by simp[q9],by simp[q10],by simp,first,first,C,[],Ys,_,v15,hb1,hb1,hb3,by simp[q12],by simp[q13],by simp,by simp[q15],hK1,.inl ⟨rfl,rfl,_,_,_,_,_,_,_,_,hS1.up⟩⟩
  rw[show decide (60 < scs.length)=false from decide_eq_false hgr] at eG
  obtain⟨v4,H4,e4,t4,h4⟩:=hS1.append hlf (K:=K) (by omega) hgl h00 (hcs0.turnsZ hS1.t) hLf' hln' hsm' (pc:=spc) (po:=spo) (n+4)
  have hK4:CK G0 H4 C Ys (.slice yp Ys.length yc yz) [] (.slice none 0 0 0):=⟨hK1.all.turns t4 (fun c hc=>by
    obtain⟨_,_,_,_,hg⟩:=hK1.all.bof hc
    exact hS1.lx hg (by decide) (by decide)),hK1.len,fun j j1 j2=>(hK1.each j j1 j2).turns t4 (fun c hc=>by
    obtain⟨_,_,_,_,hg⟩:=(hK1.each j j1 j2).bof hc
    exact hS1.lx hg (by decide) (by decide)),.inl ⟨rfl,rfl⟩⟩
  have hcell:¬ LX b l lv (.run (HH.next+(K+2))):=hS1.lx hg1 (by decide) (by decide)
  have hg4:=(t4.same (.run (HH.next+(K+2))) (by show _ < _;omega) hcell).trans hg1
  have b00:((0:Int)==0)=true:=rfl
  have b08:((0:Int)==8)=false:=rfl
  have b80:((8:Int)==0)=false:=rfl
  have b88:((8:Int)==8)=true:=rfl
  rcases h4 with ⟨e,he0,he8,rfl,hA⟩ | ⟨hp,rfl,head',N',lv',S',st',a',hA⟩ | ⟨hp,rfl,hD⟩
  ·have he0':(e==0)=false:=beq_eq_false_iff_ne.2 he0
   have he8':(e==8)=false:=beq_eq_false_iff_ne.2 he8
   simp (maxDischargeDepth:=12) only[c5_l1,q1,q9,q10,q12,q13,q14,q15,q16,hlt',hlt,h40',hle,eD,ld,wid3,put3,hH1,hg1,wl,wn,k0,k2,eG,e4,he0',he8',w1,Nat.mul_one,hv,ldO_one,stO_one,sy,tup,↓reduceIte,zA,zG,zC,zD,zF,zE,zB,zH,reduceCtorEq]
   exact⟨40 - (i+1),by omega,i+1,rfl,by omega,hle,trivial,by simp[q1],by simp[q3],by simp[q9],by simp[q10],by simp,first,first,C,[],Ys,_,_,hb1,hb1,hb3,by simp[q12],by simp[q13],by simp,by simp,hK4,.inl ⟨rfl,rfl,_,_,_,_,_,_,_,_,hA⟩⟩
  ·obtain⟨hc1,hc2,hmay⟩:=pcode_ok hlf hp
   rw[← hnx] at e4
   have bnx:((nx:Int)==(nx:Int))=true:=beq_self_eq_true _
   obtain⟨yi,H5,e5,hyi,t5⟩:=ucopy hlf (K:=K) (c:=spc) (z:=spo) (hcs0.turnsZ hA.t) (by omega) (n+9)
   have hyv:yi.cells=some [yi]∧width [yi]=1∧cut [yi] 0 1=some [yi]:=by
    obtain⟨p,c,o,rfl⟩:=hyi.val
    exact⟨rfl,rfl,rfl⟩
   have t6:=Turns.add Z H5 (.rows false 1 [[yi]])
   have hx6:(H5.add (.rows false 1 [[yi]])).get (.run H5.next)=some (.rows false 1 [[yi]]):=by rw[Heap.get_add,if_pos rfl]
   obtain⟨H6,hH6⟩:∃ H6,H5.add (.rows false 1 [[yi]])=H6:=⟨_,rfl⟩
   rw[hH6] at t6 hx6
   have t56:=t5.trans t6
   have hA6:=hA.same t56
   have hK6:=hK4.same t56
   have hYl2:(Ys.map fun v=>[v]).length=Ys.length:=List.length_map _
   obtain⟨H7,ea,hall7,t7,_⟩:=hK6.all.app1 (by':=24) hA6.t.next hx6 hyv.2.2 (by decide) (by rw[hYl2];omega) (by rw[hYl2];omega)
   rw[hYl2] at ea hall7
   have hB1:∀ c,Bof (V.slice yp Ys.length yc yz) c→∃ m,c=.run m∧G0.next≤m∧H6.get c=some (.rows false 1 (Ys.map fun v=>[v])):=fun c hc=>by
    obtain⟨m,e,hm,_,hg⟩:=hK6.all.bof hc
    exact⟨m,e,hm,hg⟩
   have hA7:=hA6.sameX t7 (fun hc=>by
    obtain⟨_,_,_,hg⟩:=hB1 _ hc
    rw[hA6.hb] at hg;cases hg) (fun hc=>by
    obtain⟨_,_,_,hg⟩:=hB1 _ hc
    rw[hA6.log.ex.1] at hg;cases hg) (fun c hv hc=>by
    obtain⟨_,_,_,hg⟩:=hB1 _ hc
    obtain⟨_,G1,hN,_⟩:=hA6.log.ex
    obtain⟨_,_,_,_,hgB⟩:=hN.bof hv
    rw[hgB] at hg;cases hg) (fun c ho hc=>by
    obtain⟨m,e,hm,_⟩:=hB1 _ hc
    rw[e] at ho
    exact absurd ho (Heap.not_old hm))
   have keep7:∀ {w:Nat} {r:List (List V)} {v:V},w≠1→Lst G0 H6 w r v→Lst G0 H7 w r v:=fun h1 h=>h.turns t7 (fun c hc hb=>by
    obtain⟨_,_,_,hg⟩:=hB1 _ hb
    obtain⟨_,_,_,_,hgB⟩:=h.bof hc
    rw[hgB] at hg;cases hg;exact h1 rfl)
   have hK7:CK G0 H7 (C++[scs]) (Ys++[yi]) (.slice (some ⟨.run H6.next,0⟩) (Ys.length+1) (Ys.length+1) 1) [] (.slice none 0 0 0):=by
    refine⟨by rw[List.map_append];exact hall7,by simp[hlenY],fun j j1 j2=>?_,.inl ⟨rfl,rfl⟩⟩
    rw[List.length_append,List.length_singleton] at j1 j2
    by_cases hj:j < Ys.length
    ·rw[List.getElem_append_left hj,List.getElem_append_left (by omega)]
     exact keep7 (by decide) (hK6.each j hj (by omega))
    ·have:j=Ys.length:=by omega
     subst this
     have g1:(Ys++[yi])[Ys.length]'(by simp)=yi:=by simp
     have g2:(C++[scs])[Ys.length]'(by simp[hlenY])=scs:=by simp[hlenY]
     rw[g1,g2]
     exact keep7 (by decide) ((Lst.base hyi hA.t.next).turns t6 (fun _ _ h=>h))
   simp (maxDischargeDepth:=12) only[c5_l1,q1,q9,q10,q12,q13,q14,q15,q16,hlt',hlt,h40',hle,eD,ld,wid3,put3,hH1,hg1,wl,wn,k0,k2,eG,e4,b00,b08,bnx,hg4,e5,hyv.1,hyv.2.1,hH6,ea,w1,Nat.mul_one,hv,ldO_one,stO_one,sy,tup,↓reduceIte,zA,zG,zC,zD,zF,zE,zB,zH,reduceCtorEq]
   exact⟨40 - (i+1),by omega,i+1,rfl,by omega,hle,trivial,by simp[q1],by simp[q3],by simp[q9],by simp[q10],by simp,first,first,C++[scs],[],Ys++[yi],_,_,hb1,hb1,by rw[List.length_append,List.length_singleton];omega,rfl,by simp[q13],by simp,by simp,hK7,.inl ⟨rfl,rfl,_,_,_,_,_,_,_,_,hA7⟩⟩
  ·obtain⟨hc1,hc2,hmay⟩:=pcode_ok hlf hp
   have hK5:CK G0 H4 C Ys (.slice yp Ys.length yc yz) scs (.slice spp scs.length spc spo):=⟨hK4.all,hK4.len,hK4.each,.inr ⟨hc2,spp,spc,spo,rfl,hcs0⟩⟩
   simp (maxDischargeDepth:=12) only[c5_l1,q1,q9,q10,q12,q13,q14,q15,q16,hlt',hlt,h40',hle,eD,ld,wid3,put3,hH1,hg1,wl,wn,k0,k2,eG,e4,b80,b88,hg4,w1,Nat.mul_one,hv,ldO_one,stO_one,sy,tup,↓reduceIte,zA,zG,zC,zD,zF,zE,zB,zH,reduceCtorEq]
   exact⟨40 - (i+1),by omega,i+1,rfl,by omega,hle,trivial,by simp[q1],by simp[q3],by simp[q9],by simp[q10],by simp,first,first,C,scs,Ys,_,_,hb1,hb1,hb3,by simp[q12],by simp[q13],by simp,by simp,hK5,.inr hD⟩
end
end Go.Proofs.YtabebpemfinejaaDoor.draft
namespace Go.Proofs.YtabebpemfinejaaDoor.draft
open Go.Am
open disk (bx Fit A1 R1 Low Bn)
theorem devB_read {S:List Nat} {st n:Nat} (hn:n < S.length):(devB S [] st).read 0 (n:Int)=S.getD n 0:=by
 unfold disk.Bn.read
 rw[if_pos (show disk.Bn.lc (devB S [] st) 0=0 from rfl)]
 show disk.Dev.read ⟨S,[],false⟩ (n:Int)=_
 unfold disk.Dev.read
 rw[if_pos (disk.code_ok (D:=⟨S,[],false⟩) (by show ¬ ((n:Int) < 0∨(S.length:Int)≤(n:Int));omega) rfl),Int.toNat_natCast]
 rw[getD_get hn]
 unfold disk.readN disk.look
 simp[hn]
theorem recR_get (B:Bn) (R p k j:Nat) (h:j < (recR B R p k).length):(recR B R p k)[j]=B.read 0 (((p+j) % R+10:Nat):Int):=by simp[recR]
theorem recR_held {R st:Nat} {S:List Nat} {N:List Nt} {C:List (List Cl)} (h:Held R S N C) (hS:S.length=R+10) (hR:1≤R) {i:Nat} (hi:i < N.length) (hi':i < C.length):recR (devB S [] st) R N[i].pos (recS N[i].cells)=recL C[i]:=by
 obtain⟨e1,e2,e3,e4⟩:=h.recs i hi hi'
 apply List.ext_getElem
 ·rw[recR_len,recL_len,e1]
 ·intro j h1 h2
  rw[recR_len] at h1
  rw[recR_get,devB_read (by have:=Nat.mod_lt (N[i].pos+j) (show 0 < R by omega);omega)]
  exact e4 j h2
theorem lst_ld1 {G0 H:Heap} {Ys:List V} {y:V} (h:Lst G0 H 1 (Ys.map fun v=>[v]) y) {i:Nat} (hi:i < Ys.length) (hc:cut [Ys[i]] 0 1=some [Ys[i]]):∃ m,y=.slice (some ⟨.run m,0⟩) Ys.length Ys.length 1∧ldO (H.get (.run m)) i 1=some [Ys[i]]:=by
 obtain⟨m,e,hl⟩:=h.load (i:=i) (o:=0) (k:=1) (r:=[Ys[i]]) (by rw[List.getElem?_map,List.getElem?_eq_getElem hi];rfl) (by decide)
 rw[List.length_map] at e
 rw[hc,Nat.mul_one,Nat.add_zero,ld_get] at hl
 exact⟨m,e,hl⟩
theorem lst_cut {G0 H:Heap} {w:Nat} {r:List (List V)} {v:V} (h:Lst G0 H w r v):cut [v] 0 1=some [v]∧v.cells=some [v]∧width [v]=1:=by
 obtain⟨p,c,o,rfl⟩:=h.val
 exact⟨rfl,rfl,rfl⟩
section
variable {lf K:Nat} (hlf:1000 < lf)
include hlf
end
end Go.Proofs.YtabebpemfinejaaDoor.draft
namespace Go.Proofs.YtabebpemfinejaaDoor.draft
open Go.Am
open disk (bx Fit A1 R1 Low Bn)
section
variable {lf K:Nat} (hlf:1000 < lf)
include hlf
theorem was_record {G:Heap} {l b:Bk} {R cnt first tail head:Nat} {N:List Nt} {lv:V} {S:List Nat} {st:Nat} {C:List (List Cl)} (h:LogAt G l b 7 R cnt first tail head N lv) (bo:G.Old b) (hb:G.get b=some (bx false (devB S [] st))) (hst:st≤100000) (hw:Was R cnt first tail head N C S) {i:Nat} (hi:i < N.length) (n:Nat) :
  ret (U lf K (n+4) 16 [.ptr (some ⟨l,0⟩),.int .u64 ((first+i:Nat):Int)] G) fun v G'=>Turns Z G G'∧∃(hi':i < C.length) (y:V),v=.tuple [y,.int .i64 0]∧Lst G G' 66 (rowsC C[i]) y∧C[i].length≤32:=by
 obtain⟨op,hh⟩:=hw
 have hlen:=op.len
 have hR:=op.hR
 have hf:=op.f
 have hS0:S≠[]:=fun e=>by rw[e] at hlen;simp at hlen
 have hfit:Fit (devB S [] st):=(devB_rm (k:=0) hS0 (by omega) (by decide) (by omega)).fit
 have hnt:∀ i (hi:i < N.length),(1≤N[i].cells∧N[i].cells≤32)∧N[i].sum < 4294967296∧recS N[i].cells≤R∧N[i].pos+recS N[i].cells≤4611686018427387904:=fun i hi=>by
  obtain⟨_,g2,g3,g4,g5⟩:=op.ch.get i hi
  have:=op.rg.le
  have:=op.hd
  exact⟨g4,g5,by omega,by omega⟩
 obtain⟨v,G',e,t,hx⟩:=ulrecord hlf (K:=K) h bo hb hfit (q:=first+i) (by omega) hnt (c:=0) (fun j hj _ m _=>devB_rc _ _ _ (by have:=Nat.mod_lt (N[j].pos+m) (show 0 < R by omega);omega)) n
 refine⟨v,G',e,t,?_⟩
 rcases hx with ⟨h7,_⟩ | ⟨i',hi',he,hx⟩
 ·omega
 ·have:i'=i:=by omega
  subst this
  have hic:i' < C.length:=by rw[hh.len];exact hi
  obtain⟨a1,a2,a3,_⟩:=hh.recs i' hi' hic
  have hmay:C[i'].all mayC=true:=List.all_eq_true.2 fun c hc=>(a3 c hc).1
  have hrr:=recR_held (st:=st) hh hlen (by omega) hi' hic
  obtain⟨g1,g2⟩:=get_rec hmay
  have hcc:recC (devB S [] st) R N[i'] 0=0:=by
   unfold recC
   rw[if_neg (by decide),hrr,a2,if_neg (fun h=>h rfl),← a1,g1]
   rfl
  rw[hcc,hrr,← a1,g2] at hx
  rcases hx with ⟨h7,_⟩ | ⟨_,y,hv,hy⟩
  ·exact absurd rfl h7
  ·exact⟨hic,y,hv,hy,by rw[a1];exact(hnt i' hi').1.2⟩
theorem logcuts_get {G0 G:Heap} {l b:Bk} {R cnt f tail head:Nat} {N:List Nt} {lv:V} {S:List Nat} {st:Nat} {C C':List (List Cl)} {last:List Cl} {Ys:List V} {y v15:V} (hL:LogAt G l b 7 R cnt f tail head N lv) (bo:G.Old b) (hb:G.get b=some (bx false (devB S [] st))) (hst:st≤100000) (hw:Was R cnt f tail head N C' S) (hK:CK G0 G C Ys y last v15) (hT0:Turns Z G0 G) (hC60:C.length≤60) (hC:(C'=C.drop (f - 1)∧f+N.length=C.length+1)∨(last≠[]∧C'=(C++[last]).drop (f - 1)∧f+N.length=C.length+2)) {sure:Nat} (hsure:sure=C.length+1) {nn:Nat} (hnn:nn=f+N.length) (n:Nat):∀ t:T,t.getP (Tr.path 12)=some y→t.getP (Tr.path 15)=some v15→t.getP (Tr.path 23)=some (.ptr (some ⟨l,0⟩))→t.getP (Tr.path 26)=some (.int .u64 (nn:Int))→t.getP (Tr.path 27)=some (.int .u64 (sure:Int))→t.getP (Tr.path 28)=some (.int .u64 (f:Int)) →
  wp (loopF (runC (U lf K (n+4)) lf c5_l0) lf ⟨t,G,[]⟩) fun x s=>x=.ex 2∧s.d=[]∧Turns Z G s.H:=by
 intro t q12 q15 q23 q26 q27 q28
 have hf1:=hw.1.f
 refine wp_loopF (fun u s=>∃ i:Nat,u=N.length - i∧i≤N.length∧s.d=[]∧s.t.getP (Tr.path 12)=some y∧s.t.getP (Tr.path 15)=some v15∧s.t.getP (Tr.path 23)=some (.ptr (some ⟨l,0⟩))∧s.t.getP (Tr.path 26)=some (.int .u64 (nn:Int))∧s.t.getP (Tr.path 27)=some (.int .u64 (sure:Int))∧s.t.getP (Tr.path 28)=some (.int .u64 ((f+i:Nat):Int))∧Turns Z G s.H)
  ?_ lf N.length _ ⟨0,rfl,Nat.zero_le _,rfl,q12,q15,q23,q26,q27,q28,Turns.refl _ _⟩ (by have:=hw.1.nl;omega)
 rintro u ⟨t,HH,d⟩ ⟨i,rfl,hi,hd,q12,q15,q23,q26,q27,q28,hT⟩
 dsimp only at hd q12 q15 q23 q26 q27 q28 hT
 subst hd
 obtain⟨k,hk⟩:∃ k,k=f+i:=⟨_,rfl⟩
 rw[← hk] at q28
 by_cases hlt:i < N.length
 rotate_left
 ·have hkn:¬ (k:Int) < (nn:Int):=by omega
  simp (maxDischargeDepth:=12) only[c5_l0,q26,q28,hkn,hv,ldO_one,stO_one,sy,tup,↓reduceIte,zA,zG,zC,zD,zF,zE,zB,zH,reduceCtorEq]
  exact⟨trivial,trivial,hT⟩
 have hkn:(k:Int) < (nn:Int):=by omega
 have w1:IntKind.u64.wrap ((k:Int)+1)=((f+(i+1):Nat):Int):=by rw[Go.Am.wrap_u64 (by omega)];omega
 have hboH:HH.Old b:=bo.mono hT.next
 have hbH:=(hT.same b bo (fun h=>h)).trans hb
 obtain⟨hg,G1,hN,hn⟩:=hL.ex
 have hLH:LogAt HH l b 7 R cnt f tail head N lv:=⟨⟨(hT.same l hL.old (fun h=>h)).trans hg,G1,hN.turns hT (fun _ _ h=>h),Nat.le_trans hn hT.next⟩,hL.old.mono hT.next,hL.rb,hL.rg,hL.fn,hL.nl⟩
 obtain⟨v2,H2,e2,t2,hi',y2,rfl,hy2,h32⟩:=was_record hlf (K:=K) hLH hboH hbH hst hw hlt n
 rw[← hk] at e2
 have hK2:=hK.same (hT.trans t2)
 obtain⟨p4,c4,o4,ey4⟩:=hy2.val
 have b00:((0:Int)==0)=true:=rfl
 obtain⟨f2,hf2⟩:∃ f2,f2=f+(i+1):=⟨_,rfl⟩
 rw[← hf2] at w1
 by_cases hks:k < sure
 ·
  have hks':(k:Int) < (sure:Int):=by omega
  obtain⟨j,hj⟩:∃ j,j+1=k:=⟨k - 1,by omega⟩
  have hkC:j < C.length:=by omega
  have hkY:j < Ys.length:=by rw[hK.len];exact hkC
  have hCi:C'[i]=C[j]:=by
   rcases hC with ⟨e,_⟩ | ⟨_,e,_⟩
   ·simp only[e]
    rw[List.getElem_drop]
    congr 1;omega
   ·simp only[e]
    rw[List.getElem_drop,List.getElem_append_left (by omega)]
    congr 1;omega
  have hyi:=hK2.each j hkY hkC
  rw[hCi] at hy2 h32
  obtain⟨m2,ey2,ld2⟩:=lst_ld1 hK2.all hkY (lst_cut hyi).1
  have eC:=ucells hlf (K:=K) (G:=H2) (a:=y2) (b:=Ys[j]) (l:=C[j]) (cls_lst hy2) (cls_lst hyi) (by omega) (by omega) (n+3)
  obtain⟨yi,hyie⟩:∃ yi,yi=Ys[j]:=⟨_,rfl⟩
  rw[← hyie] at ld2 eC hyi
  obtain⟨p3,c3,o3,eyv⟩:=hyi.val
  subst eyv
  subst ey4
  have w2:IntKind.u64.wrap ((k:Int) - 1)=(j:Int):=by rw[Go.Am.wrap_u64 (by omega)];omega
  have w3:IntKind.i64.wrap (j:Int)=(j:Int):=Go.Am.wrap_i64 (by omega)
  have hle:j+1≤Ys.length:=hkY
  have hjY:(j:Int) < (Ys.length:Int):=by omega
  rw[ey2] at q12
  simp (maxDischargeDepth:=12) only[c5_l0,q12,q15,q23,q26,q27,q28,hkn,e2,hks',w2,w3,hle,hjY,hkY,ld2,b00,eC,w1,Nat.mul_one,hv,ldO_one,stO_one,sy,tup,↓reduceIte,zA,zG,zC,zD,zF,zE,zB,zH,reduceCtorEq]
  exact⟨N.length - (i+1),by omega,i+1,rfl,hlt,trivial,by simp[q12,ey2],by simp[q15],by simp[q23],by simp[q26],by simp[q27],by simp[hf2],hT.trans t2⟩
 ·
  have hks':¬ (k:Int) < (sure:Int):=by omega
  rcases hC with ⟨_,e⟩ | ⟨hne,e,e2'⟩
  ·omega
  have hkC:k - 1=C.length:=by omega
  have hCi:C'[i]=last:=by
   simp only[e]
   rw[List.getElem_drop,List.getElem_append_right (by omega)]
   simp only[show f - 1+i - C.length=0 by omega,List.getElem_cons_zero]
  rw[hCi] at hy2 h32
  rcases hK.lst with ⟨e5,_⟩ | ⟨_,pp,pc,po,e5,hcs⟩
  ·exact absurd e5 hne
  have eC:=ucells hlf (K:=K) (G:=H2) (a:=y2) (b:=v15) (l:=last) (cls_lst hy2) (by rw[e5];exact cls_cells (hcs.turnsZ (hT0.trans (hT.trans t2)))) (by omega) (by omega) (n+3)
  subst e5
  subst ey4
  simp (maxDischargeDepth:=12) only[c5_l0,q12,q15,q23,q26,q27,q28,hkn,e2,hks',b00,eC,w1,Nat.mul_one,hv,ldO_one,stO_one,sy,tup,↓reduceIte,zA,zG,zC,zD,zF,zE,zB,zH,reduceCtorEq]
  exact⟨N.length - (i+1),by omega,i+1,rfl,hlt,trivial,by simp[q12],by simp[q15],by simp[q23],by simp[q26],by simp[q27],by simp[hf2],hT.trans t2⟩
end
end Go.Proofs.YtabebpemfinejaaDoor.draft
namespace Go.Proofs.YtabebpemfinejaaDoor.draft
open Go.Am
open disk (bx Fit A1 R1 Low Bn)
section
variable {lf K:Nat} (hlf:1000 < lf)
include hlf
theorem LS.refuse {G0 G:Heap} {l b:Bk} {R i cnt first tail head:Nat} {N:List Nt} {lv:V} {S:List Nat} {st:Nat} (h:LS G0 G l b R i cnt first tail head N lv S st) (hi:i≤45) (hgl:G0.get (.run 0)=some (.rows true 4 (intsR [8,2,8,8]))) (h00:0 < G0.next) {f:Nat} (hf64:f < 18446744073709551616) (hf:f < first∨first+N.length < f) (n:Nat):ret (U lf K (n+7) 10 [.ptr (some ⟨l,0⟩),.int .u64 (f:Int)] G) fun v G'=>v=.int .i64 2∧LS G0 G' l b R i cnt first tail head N lv S st:=by
 have h1:=h.len
 have h2:=h.R
 have h3:=h.cnt
 have h4:=h.fst
 have h6:=h.st
 have hS0:S≠[]:=fun e=>by rw[e] at h1;simp at h1
 obtain⟨v,G',e,hr⟩:=ulclear hlf (K:=K) ((h.t.same (.run 0) h00 (fun h=>h)).trans hgl) (Nat.lt_of_lt_of_le h00 h.t.next) h.log h.ch h.bo h.lb h.hb (devB_rm hS0 (by omega) (by decide) (by omega)) (by decide) h2.1 (by omega) h4.1 (f:=f) hf64 n
 refine⟨v,G',e,?_⟩
 rcases hr with ⟨_,rfl,t⟩ | ⟨h7,_⟩
 ·exact⟨rfl,h.same t⟩
 ·omega
end
end Go.Proofs.YtabebpemfinejaaDoor.draft
namespace Go.Proofs.YtabebpemfinejaaDoor.draft
open Go.Am
open disk (bx Fit A1 R1 Low Bn PicksAt)
theorem rem_u16 (a b:Nat) (hb:b≠0):arith .rem (.int .u16 (a:Int)) (.int .u16 (b:Int))=some (.int .u16 ((a % b:Nat):Int)):=by
 have h0:eqI (b:Int) 0=false:=by
  rw[C0];simpa using hb
 show (match eqI (b:Int) 0 with | true=>none | false=>frc (remI (a:Int) (b:Int)) fun n=>some (V.int .u16 n))=_
 rw[h0]
 show frc (((a % b:Nat)):Int) _=_
 generalize a % b=z
 cases z<;>rfl
section
variable {lf K:Nat} (hlf:1000 < lf)
include hlf
theorem logcuts_run (G:Heap) (hgl:G.get (.run 0)=some (.rows true 4 (intsR [8,2,8,8]))) (h00:0 < G.next) {m:Nat} (hm:m < 256) {pp:Option Ptr} {L:List Sp} {pc po:Nat} (hL:SpsAt G pp L) (hsm:∀ s ∈ L,∀ c ∈ s.cs,c.x < 256 ^ 64) (hln:∀ s ∈ L,s.cs.length≤9223372036854775807) (hLf:∀ s ∈ L,s.cs.length+1 < lf) {at':Nat} (hat:at' < 65536) {pk:Option Ptr} {P:List Int} {pkc:Nat} (hP:PicksAt G pk P Z) (hpk:P.length≤pkc) (n:Nat):ret (U lf K (n+11) 5 [.int .u8 (m:Int),.slice pp L.length pc po,.int .u16 (at':Int),.slice pk P.length pkc 0] G) fun v G'=>v=.bool true∧Turns Z G G':=by
 obtain⟨R,hR⟩:∃ R,R=40+m % 216:=⟨_,rfl⟩
 obtain⟨v1,G1,e1,b,l,rfl,hl1,hb1,lb,bn,ln,bo,t1⟩:=ulaid hlf (K:=K) hgl h00 hm hR n
 obtain⟨S,hSe⟩:∃ S:List Nat,S=layS (List.replicate (10+R) 0) 7 R:=⟨_,rfl⟩
 have hstd:=std_lay (R:=R) (by omega)
 rw[← hSe] at hb1 hstd
 have hlS:=hstd.op.len
 have hS0:S≠[]:=fun e=>by rw[e] at hlS;simp at hlS
 have hfit:Fit (devB S [] 13):=(devB_rm (k:=0) hS0 (by omega) (by decide) (by decide)).fit
 obtain⟨a,ha⟩:∃ a,a=1+at' % 400:=⟨_,rfl⟩
 have r1:arith .rem (.int .u16 (at':Int)) (.int .u16 400)=some (.int .u16 ((at' % 400:Nat):Int)):=rem_u16 at' 400 (by decide)
 obtain⟨z,hz⟩:∃ z,z=at' % 400:=⟨_,rfl⟩
 have hz4:z < 400:=by rw[hz];exact Nat.mod_lt _ (by decide)
 rw[← hz] at r1 ha
 have w1:IntKind.i64.wrap (z:Int)=(z:Int):=Go.Am.wrap_i64 (by omega)
 have w2:IntKind.i64.wrap (1+(z:Int))=(a:Int):=by rw[Go.Am.wrap_i64 (by omega)];omega
 have eA:=qArm (lf:=lf) (K:=K) (w:=n+9) hb1 hfit (a:Int)
 obtain⟨a1,a2⟩:=arm_dev S 13 a
 rw[a1,a2] at eA
 have t2:Turns (fun c=>c=b) G1 ((G1.set b (bx false (devA S [] 13 a))).skip (K+2)):=by
  exact(Turns.set (X:=fun c=>c=b) rfl G1 _).skip _
 have hb2:((G1.set b (bx false (devA S [] 13 a))).skip (K+2)).get b=some (bx false (devA S [] 13 a)):=by rw[get_skip,Heap.get_set,if_pos rfl]
 obtain⟨G2,hG2⟩:∃ G2,(G1.set b (bx false (devA S [] 13 a))).skip (K+2)=G2:=⟨_,rfl⟩
 rw[hG2] at t2 hb2 eA
 have tG2:Turns Z G G2:=t1.later t2 (fun c ho hc=>by rw[hc] at ho;exact absurd ho bn)
 obtain⟨hg1,Gx,hNx,hnx⟩:=hl1.ex
 have h0:LA G G2 l b R 0 1 1 0 0 [] (.slice none 0 0 0) S 13 a []:=
  ⟨⟨⟨(t2.same l hl1.old lb).trans hg1,G2,Lst.nil _ _ _,Nat.le_refl _⟩,hl1.old.mono t2.next,hl1.rb,hl1.rg,hl1.fn,hl1.nl⟩,hb2,hstd,rfl,by decide,by decide,by decide,by decide,by omega,fun c ⟨_,_,_,_,e,_⟩=>(by cases e),bo.mono t2.next,lb,bn,ln,tG2⟩
 have hloop:=logcuts_steps hlf (K:=K) (G:=G2) hgl h00 hL hsm hln hLf h0 (pc:=pc) (po:=po) (t3:=.slice pk P.length pkc 0) n
 have b00:((0:Int)==0)=true:=rfl
 refine ret_callU rfl rfl c5_eq ?_
 simp (maxDischargeDepth:=12) only[c5,e1,r1,w1,w2,eA,b00,hv,ldO_one,stO_one,sy,tup,↓reduceIte,zA,zG,zC,zD,zF,zE,zB,zH,reduceCtorEq]
 refine wp_ctx (F:=fun r=>seqC _ _ _ (blockC _ r)) (hloop _ ?_ ?_ ?_ ?_ ?_ ?_ ?_ ?_ ?_) ?_
 ·simp only[sy,tup,↓reduceIte,zA,zG,zC,zD,zF,zE,zB,zH,reduceCtorEq]
 ·simp only[sy,tup,↓reduceIte,zA,zG,zC,zD,zF,zE,zB,zH,reduceCtorEq]
 ·simp only[sy,tup,↓reduceIte,zA,zG,zC,zD,zF,zE,zB,zH,reduceCtorEq]
 ·simp only[sy,tup,↓reduceIte,zA,zG,zC,zD,zF,zE,zB,zH,reduceCtorEq]
 ·simp only[sy,tup,↓reduceIte,zA,zG,zC,zD,zF,zE,zB,zH,reduceCtorEq]
 ·simp only[sy,tup,↓reduceIte,zA,zG,zC,zD,zF,zE,zB,zH,reduceCtorEq]
 ·simp only[sy,tup,↓reduceIte,zA,zG,zC,zD,zF,zE,zB,zH,reduceCtorEq]
 ·simp only[sy,tup,↓reduceIte,zA,zG,zC,zD,zF,zE,zB,zH,reduceCtorEq]
 ·simp only[sy,tup,↓reduceIte,zA,zG,zC,zD,zF,zE,zB,zH,reduceCtorEq]
 rintro x ⟨t,G3,d⟩ ⟨rfl,hd,q3,q9,first,under,C,last,Ys,y,v15,hb60,hu60,hC60,q12,q13,q14,q15,hK,⟨B,hbB,hfB,hcr⟩,bo3,bn3,t3⟩
 dsimp only at hd q3 q9 q12 q13 q14 q15 hK hbB bo3 t3
 subst hd
 obtain⟨Sx,st,ecr,hst,cnt,f,tail,head,N,C',hw,hff,hcc⟩:=hcr P
 have eC:=qCrash (lf:=lf) (K:=K) (w:=n+9) hbB hfB (hP.turns t3) hpk
 rw[ecr] at eC
 have t4:Turns (fun c=>c=b) G3 ((G3.set b (bx false (devB Sx [] st))).skip (K+2)):=(Turns.set (X:=fun c=>c=b) rfl G3 _).skip _
 have hb4:((G3.set b (bx false (devB Sx [] st))).skip (K+2)).get b=some (bx false (devB Sx [] st)):=by rw[get_skip,Heap.get_set,if_pos rfl]
 obtain⟨G4,hG4⟩:∃ G4,(G3.set b (bx false (devB Sx [] st))).skip (K+2)=G4:=⟨_,rfl⟩
 rw[hG4] at t4 hb4 eC
 have tG4:Turns Z G G4:=t3.later t4 (fun c ho hc=>by rw[hc] at ho;exact absurd ho bn3)
 have bo4:=bo3.mono t4.next
 have hK4:CK G G4 C Ys y last v15:=⟨hK.all.turns t4 (fun c hc e=>by
   obtain⟨_,_,_,_,hg⟩:=hK.all.bof hc
   rw[e,hbB] at hg;cases hg),hK.len,fun j j1 j2=>(hK.each j j1 j2).turns t4 (fun c hc e=>by
   obtain⟨_,_,_,_,hg⟩:=(hK.each j j1 j2).bof hc
   rw[e,hbB] at hg;cases hg),hK.lst⟩
 have op:=hw.1
 obtain⟨o1,o2,o3,o4,o5,o6⟩:=op.opens st
 have hlx:=op.len
 have hRx:=op.hR
 have hSx0:Sx≠[]:=fun e=>by rw[e] at hlx;simp at hlx
 have hfx:Fit (devB Sx [] st):=(devB_rm (k:=0) hSx0 (by omega) (by decide) (by omega)).fit
 obtain⟨v5,G5,e5,hb5,t5,h5⟩:=ulopen hlf (K:=K) ((tG4.same (.run 0) h00 (fun h=>h)).trans hgl) (Nat.lt_of_lt_of_le h00 tG4.next) bo4 hb4 hfx (fun _=>o6) (by show ((Sx.length:Nat):Int)≤_;omega) (n+2)
 rcases h5 with ⟨h5,_⟩ | ⟨_,h5,_⟩ | ⟨_,X,l',lv,hX,rfl,ln',lvn,hL'⟩
 ·exact absurd o5 h5
 ·rw[o1] at h5;exact absurd h5 (Option.some_ne_none _)
 rw[o1] at hX
 have hX:=Option.some.inj hX
 rw[← hX,o2,o3] at hL'
 dsimp only at hL'
 rw[o4] at hL'
 have hK5:=hK4.same t5
 obtain⟨v6,G6,e6,rfl,t6⟩:=ullive hlf (K:=K) hL' (n+8)
 have hK6:=hK5.same t6
 obtain⟨hg5,Gy,hNy,hny⟩:=hL'.ex
 have hL6:LogAt G6 l' b 7 R cnt f tail head N lv:=⟨⟨(t6.same l' hL'.old (fun h=>h)).trans hg5,Gy,hNy.turns t6 (fun _ _ h=>h),Nat.le_trans hny t6.next⟩,hL'.old.mono t6.next,hL'.rb,hL'.rg,hL'.fn,hL'.nl⟩
 have bo6:=(bo4.mono t5.next).mono t6.next
 have hb6:=(t6.same b (bo4.mono t5.next) (fun h=>h)).trans hb5
 have tG6:=(tG4.trans t5).trans t6
 have hfb:=op.f
 obtain⟨nn,hnn⟩:∃ nn,nn=f+N.length:=⟨_,rfl⟩
 obtain⟨sure,hsure⟩:∃ sure,sure=C.length+1:=⟨_,rfl⟩
 rw[← hnn] at e6
 obtain⟨yp,yc,yz,hy⟩:=hK6.all.val
 rw[List.length_map] at hy
 have hYC:=hK6.len
 have q12':=q12
 rw[hy] at q12'
 have w3:IntKind.u64.wrap (Ys.length:Int)=(Ys.length:Int):=Go.Am.wrap_u64 (by omega)
 have w4:IntKind.u64.wrap ((Ys.length:Int)+1)=(sure:Int):=by rw[Go.Am.wrap_u64 (by omega)];omega
 have hget:=logcuts_get hlf (K:=K) hL6 bo6 hb6 hst hw hK6 tG6 hC60 hcc hsure hnn (n+6)
 have hbf:(((f:Int)==(first:Int))=true)∨(((f:Int)==(first:Int))=false∧((f:Int)==(under:Int))=true):=by
  by_cases e:f=first
  ·left;rw[e];exact beq_self_eq_true _
  ·rcases hff with h | h
   ·exact absurd h e
   ·exact .inr ⟨by rw[beq_eq_false_iff_ne];omega,by rw[h];exact beq_self_eq_true _⟩
 obtain⟨sure1,hs1⟩:∃ s,s=sure+1:=⟨_,rfl⟩
 have w5:IntKind.u64.wrap ((sure:Int)+1)=(sure1:Int):=by rw[Go.Am.wrap_u64 (by omega)];omega
 have hbn:(((nn:Int)==(sure:Int))=true)∨(((nn:Int)==(sure:Int))=false∧((nn:Int)==(sure1:Int))=true∧((last.length:Int)==0)=false∧∃ p c o,v15=.slice p last.length c o):=by
  rcases hcc with ⟨_,h⟩ | ⟨h1,_,h⟩
  ·left
   rw[show nn=sure by omega];exact beq_self_eq_true _
  ·right
   refine⟨by rw[beq_eq_false_iff_ne];omega,by rw[show nn=sure1 by omega];exact beq_self_eq_true _,?_,?_⟩
   ·rw[beq_eq_false_iff_ne]
    have:=List.length_pos_iff.2 h1
    omega
   ·rcases hK6.lst with ⟨h2,_⟩ | ⟨_,p,c,o,h2,_⟩
    ·exact absurd h2 h1
    ·exact⟨p,c,o,h2⟩
 rcases hbn with hn1 | ⟨hn1,hn2,hn3,p5,c5,o5,ev⟩
 ·rcases hbf with hf1 | ⟨hf1,hf2⟩
  ·simp (maxDischargeDepth:=12) only[q3,q9,q12',q13,q14,q15,eC,b00,e5,e6,w3,w4,w5,hf1,hn1,hv,ldO_one,stO_one,sy,tup,↓reduceIte,zA,zG,zC,zD,zF,zE,zB,zH,reduceCtorEq]
   refine wp_ctx (F:=fun r=>seqC _ _ _ (blockC _ r)) (hget _ ?_ ?_ ?_ ?_ ?_ ?_) ?_
   ·simp (maxDischargeDepth:=12) only[q12',hy,hv,ldO_one,stO_one,sy,tup,↓reduceIte,zA,zG,zC,zD,zF,zE,zB,zH,reduceCtorEq]
   ·simp (maxDischargeDepth:=12) only[q15,hv,ldO_one,stO_one,sy,tup,↓reduceIte,zA,zG,zC,zD,zF,zE,zB,zH,reduceCtorEq]
   ·simp only[sy,tup,↓reduceIte,zA,zG,zC,zD,zF,zE,zB,zH,reduceCtorEq]
   ·simp only[sy,tup,↓reduceIte,zA,zG,zC,zD,zF,zE,zB,zH,reduceCtorEq]
   ·simp only[sy,tup,↓reduceIte,zA,zG,zC,zD,zF,zE,zB,zH,reduceCtorEq]
   ·simp only[sy,tup,↓reduceIte,zA,zG,zC,zD,zF,zE,zB,zH,reduceCtorEq]
   rintro x ⟨t',G7,d⟩ ⟨rfl,hd,t7⟩
   dsimp only at hd t7
   subst hd
   have tG7:=tG6.trans t7
   have eL:=qLives (lf:=lf) (K:=K) (w:=n+9) (G:=G7) ((tG7.same (.run 0) h00 (fun h=>h)).trans hgl)
   simp (maxDischargeDepth:=12) only[eL,hv,ldO_one,stO_one,sy,tup,↓reduceIte,zA,zG,zC,zD,zF,zE,zB,zH,reduceCtorEq]
   exact⟨trivial,.inr trivial,_,rfl,rfl,tG7.trans ((Turns.refl Z G7).skip _)⟩
  ·simp (maxDischargeDepth:=12) only[q3,q9,q12',q13,q14,q15,eC,b00,e5,e6,w3,w4,w5,hf1,hf2,hn1,hv,ldO_one,stO_one,sy,tup,↓reduceIte,zA,zG,zC,zD,zF,zE,zB,zH,reduceCtorEq]
   refine wp_ctx (F:=fun r=>seqC _ _ _ (blockC _ r)) (hget _ ?_ ?_ ?_ ?_ ?_ ?_) ?_
   ·simp (maxDischargeDepth:=12) only[q12',hy,hv,ldO_one,stO_one,sy,tup,↓reduceIte,zA,zG,zC,zD,zF,zE,zB,zH,reduceCtorEq]
   ·simp (maxDischargeDepth:=12) only[q15,hv,ldO_one,stO_one,sy,tup,↓reduceIte,zA,zG,zC,zD,zF,zE,zB,zH,reduceCtorEq]
   ·simp only[sy,tup,↓reduceIte,zA,zG,zC,zD,zF,zE,zB,zH,reduceCtorEq]
   ·simp only[sy,tup,↓reduceIte,zA,zG,zC,zD,zF,zE,zB,zH,reduceCtorEq]
   ·simp only[sy,tup,↓reduceIte,zA,zG,zC,zD,zF,zE,zB,zH,reduceCtorEq]
   ·simp only[sy,tup,↓reduceIte,zA,zG,zC,zD,zF,zE,zB,zH,reduceCtorEq]
   rintro x ⟨t',G7,d⟩ ⟨rfl,hd,t7⟩
   dsimp only at hd t7
   subst hd
   have tG7:=tG6.trans t7
   have eL:=qLives (lf:=lf) (K:=K) (w:=n+9) (G:=G7) ((tG7.same (.run 0) h00 (fun h=>h)).trans hgl)
   simp (maxDischargeDepth:=12) only[eL,hv,ldO_one,stO_one,sy,tup,↓reduceIte,zA,zG,zC,zD,zF,zE,zB,zH,reduceCtorEq]
   exact⟨trivial,.inr trivial,_,rfl,rfl,tG7.trans ((Turns.refl Z G7).skip _)⟩
 ·rw[ev] at q15
  rcases hbf with hf1 | ⟨hf1,hf2⟩
  ·simp (maxDischargeDepth:=12) only[q3,q9,q12',q13,q14,q15,eC,b00,e5,e6,w3,w4,w5,hf1,hn1,hn2,hn3,hv,ldO_one,stO_one,sy,tup,↓reduceIte,zA,zG,zC,zD,zF,zE,zB,zH,reduceCtorEq]
   refine wp_ctx (F:=fun r=>seqC _ _ _ (blockC _ r)) (hget _ ?_ ?_ ?_ ?_ ?_ ?_) ?_
   ·simp (maxDischargeDepth:=12) only[q12',hy,hv,ldO_one,stO_one,sy,tup,↓reduceIte,zA,zG,zC,zD,zF,zE,zB,zH,reduceCtorEq]
   ·simp (maxDischargeDepth:=12) only[q15,ev,hv,ldO_one,stO_one,sy,tup,↓reduceIte,zA,zG,zC,zD,zF,zE,zB,zH,reduceCtorEq]
   ·simp only[sy,tup,↓reduceIte,zA,zG,zC,zD,zF,zE,zB,zH,reduceCtorEq]
   ·simp only[sy,tup,↓reduceIte,zA,zG,zC,zD,zF,zE,zB,zH,reduceCtorEq]
   ·simp only[sy,tup,↓reduceIte,zA,zG,zC,zD,zF,zE,zB,zH,reduceCtorEq]
   ·simp only[sy,tup,↓reduceIte,zA,zG,zC,zD,zF,zE,zB,zH,reduceCtorEq]
   rintro x ⟨t',G7,d⟩ ⟨rfl,hd,t7⟩
   dsimp only at hd t7
   subst hd
   have tG7:=tG6.trans t7
   have eL:=qLives (lf:=lf) (K:=K) (w:=n+9) (G:=G7) ((tG7.same (.run 0) h00 (fun h=>h)).trans hgl)
   simp (maxDischargeDepth:=12) only[eL,hv,ldO_one,stO_one,sy,tup,↓reduceIte,zA,zG,zC,zD,zF,zE,zB,zH,reduceCtorEq]
   exact⟨trivial,.inr trivial,_,rfl,rfl,tG7.trans ((Turns.refl Z G7).skip _)⟩
  ·simp (maxDischargeDepth:=12) only[q3,q9,q12',q13,q14,q15,eC,b00,e5,e6,w3,w4,w5,hf1,hf2,hn1,hn2,hn3,hv,ldO_one,stO_one,sy,tup,↓reduceIte,zA,zG,zC,zD,zF,zE,zB,zH,reduceCtorEq]
   refine wp_ctx (F:=fun r=>seqC _ _ _ (blockC _ r)) (hget _ ?_ ?_ ?_ ?_ ?_ ?_) ?_
   ·simp (maxDischargeDepth:=12) only[q12',hy,hv,ldO_one,stO_one,sy,tup,↓reduceIte,zA,zG,zC,zD,zF,zE,zB,zH,reduceCtorEq]
   ·simp (maxDischargeDepth:=12) only[q15,ev,hv,ldO_one,stO_one,sy,tup,↓reduceIte,zA,zG,zC,zD,zF,zE,zB,zH,reduceCtorEq]
   ·simp only[sy,tup,↓reduceIte,zA,zG,zC,zD,zF,zE,zB,zH,reduceCtorEq]
   ·simp only[sy,tup,↓reduceIte,zA,zG,zC,zD,zF,zE,zB,zH,reduceCtorEq]
   ·simp only[sy,tup,↓reduceIte,zA,zG,zC,zD,zF,zE,zB,zH,reduceCtorEq]
   ·simp only[sy,tup,↓reduceIte,zA,zG,zC,zD,zF,zE,zB,zH,reduceCtorEq]
   rintro x ⟨t',G7,d⟩ ⟨rfl,hd,t7⟩
   dsimp only at hd t7
   subst hd
   have tG7:=tG6.trans t7
   have eL:=qLives (lf:=lf) (K:=K) (w:=n+9) (G:=G7) ((tG7.same (.run 0) h00 (fun h=>h)).trans hgl)
   simp (maxDischargeDepth:=12) only[eL,hv,ldO_one,stO_one,sy,tup,↓reduceIte,zA,zG,zC,zD,zF,zE,zB,zH,reduceCtorEq]
   exact⟨trivial,.inr trivial,_,rfl,rfl,tG7.trans ((Turns.refl Z G7).skip _)⟩
end
end Go.Proofs.YtabebpemfinejaaDoor.draft
