import Derived.Test.YtabebpemfinejaaGreatG2
import Derived.Test.YtabebpemfinejaaGreatG1
import Derived.Test.YtabebpemfinejaaGreatAmVeil4
import Derived.Test.YtabebpemfinejaaGreatG0
import Derived.Test.YtabebpemfinejaaGreatAmVeil5
import Derived.Test.YtabebpemfinejaaGreatAmList
set_option linter.unusedVariables false
set_option linter.unusedSimpArgs false
set_option maxRecDepth 10000
set_option linter.unusedSectionVars false
open Nat renaming reduceEqDiff → zA, reduceLeDiff → zB, reduceSub → zC, reduceMul → zD, reduceMod → zE, reduceDiv → zF, reduceAdd → zG
open Int renaming reduceBEq → zH
namespace Go.Proofs.YtabebpemfinejaaGreat.draft
open Go.Am
noncomputable def c239:CFn:=⟨[.tmp (pp 2),.cell (pp 3) 23 .ag,.tmp (pp 4)],
 .seq (.reg [
 qo 1 (.m (boxF 64 (tt 0))) [pp 0],
 qo 2 (.p (S.get (.c (.int .u64 0)))) [],
 qo 3 (.m (allocF 23 [.int .u64 0,.int .i64 0,.int .i64 0,.int .i64 0,.int .i64 0,.int .u8 0,.int .u8 0,.int .u8 0,.int .u8 0,.int .u8 0,.int .u8 0,.int .u8 0,.int .u8 0,.int .u8 0,.int .u8 0,.int .u8 0,.int .u8 0,.int .u8 0,.int .u8 0,.int .u8 0,.int .u8 0,.int .i64 0,.bool false])) [],
 qo 4 (.p (S.get (ii 0))) []]) (
 .seq (.reg [
 qo 15 (.r (loadF (tt 1) 64 .bk)) [pp 1],
 qo 16 (.c (callF (ff 246) [(tt 15)])) [pp 15],
 mv 14 16,
 qo 17 (.p (extF (tt 14) 0)) [pp 14],
 qo 18 (.p (extF (tt 14) 1)) [pp 14],
 qo 19 (.p (extF (tt 14) 2)) [pp 14],
 mv 5 17,
 mv 6 18,
 mv 7 19]) (
 .seq (.seq (.reg [
 mv 20 7,
 qo 21 (.p (eqcF true false [.int .i64] (tt 20) (ii 0))) [pp 20]]) (
 .cond (tt 21) (.seq (.reg [
 qo 22 (.p (buildF [.int .u64 0,.int .i64 0,.int .i64 0,.int .i64 0,.int .i64 0,.int .u8 0,.int .u8 0,.int .u8 0,.int .u8 0,.int .u8 0,.int .u8 0,.int .u8 0,.int .u8 0,.int .u8 0,.int .u8 0,.int .u8 0,.int .u8 0,.int .u8 0,.int .u8 0,.int .u8 0,.int .u8 0,.int .i64 0,.bool false] .ag [])) [],
 mv 23 7,
 qo 2 (.p (S.get (.c (.int .u64 0)))) [],
 qn (.a (storeF (tt 3) (tt 22) 23)) [pp 3,pp 22],
 mv 4 23]) (
 .ret)) (.skip))) (
 .seq (.reg [
 mv 24 6,
 qo 25 (.p (buildF [.slice none 0 0 0,.int .i64 0] .ag [(0,1,(tt 24))])) [pp 24],
 qo 26 (.m (boxF 2 (tt 25))) [pp 25],
 mv 8 26]) (
 .seq (.reg [
 mv 27 8,
 qo 28 (.c (callF (ff 247) [(tt 27),(ii 8)])) [pp 27],
 qo 29 (.p (buildF [.int .u64 0,.int .i64 0,.int .i64 0,.int .i64 0,.int .i64 0,.int .u8 0,.int .u8 0,.int .u8 0,.int .u8 0,.int .u8 0,.int .u8 0,.int .u8 0,.int .u8 0,.int .u8 0,.int .u8 0,.int .u8 0,.int .u8 0,.int .u8 0,.int .u8 0,.int .u8 0,.int .u8 0,.int .i64 0,.bool false] .ag [(0,1,(tt 28))])) [pp 28],
 qo 9 (.m (allocF 23 [.int .u64 0,.int .i64 0,.int .i64 0,.int .i64 0,.int .i64 0,.int .u8 0,.int .u8 0,.int .u8 0,.int .u8 0,.int .u8 0,.int .u8 0,.int .u8 0,.int .u8 0,.int .u8 0,.int .u8 0,.int .u8 0,.int .u8 0,.int .u8 0,.int .u8 0,.int .u8 0,.int .u8 0,.int .i64 0,.bool false])) [],
 qn (.a (storeF (tt 9) (tt 29) 23)) [pp 9,pp 29]]) (
 .seq (.reg [
 mv 30 8,
 qo 31 (.c (callF (ff 247) [(tt 30),(ii 1)])) [pp 30],
 qo 32 (.p (convF .i64 (tt 31))) [pp 31],
 mv 33 8,
 qo 34 (.c (callF (ff 247) [(tt 33),(ii 2)])) [pp 33],
 qo 35 (.p (convF .i64 (tt 34))) [pp 34],
 mv 36 8,
 qo 37 (.c (callF (ff 247) [(tt 36),(ii 2)])) [pp 36],
 qo 38 (.p (convF .i64 (tt 37))) [pp 37],
 qo 39 (.p (buildF [.int .i64 0,.int .i64 0,.int .i64 0] .ag [(0,1,(tt 32)),(1,1,(tt 35)),(2,1,(tt 38))])) [pp 32,pp 35,pp 38],
 qo 40 (.p (faddrF (tt 9) 2)) [pp 9],
 qo 41 (.p (faddrF (tt 40) 0)) [pp 40],
 qn (.a (storeF (tt 41) (tt 39) 3)) [pp 41,pp 39]]) (
 .seq (.reg [
 mv 42 8,
 qo 43 (.c (callF (ff 247) [(tt 42),(ii 1)])) [pp 42],
 qo 44 (.p (convF .i64 (tt 43))) [pp 43],
 qo 45 (.p (faddrF (tt 9) 1)) [pp 9],
 qn (.a (storeF (tt 45) (tt 44) 1)) [pp 45,pp 44]]) (
 .seq (.regD [
 mv 47 8,
 qo 48 (.p (nilcF (tt 47))) [pp 47],
 qo 49 (.p (faddrF (tt 48) 0)) [pp 48],
 qo 50 (.r (loadF (tt 49) 1 .sc)) [pp 49],
 mv 51 8,
 qo 52 (.p (nilcF (tt 51))) [pp 51],
 qo 53 (.p (faddrF (tt 52) 1)) [pp 52],
 qo 54 (.r (loadF (tt 53) 1 .sc)) [pp 53],
 qo 55 (.p (sliceF 1 (tt 50) (some (tt 54)) none none)) [pp 50,pp 54],
 qo 56 (.c (callF (ff 248) [(tt 55),(ii 2),(ii 16)])) [pp 55],
 mv 46 56,
 qo 57 (.p (extF (tt 46) 0)) [pp 46],
 qo 58 (.p (extF (tt 46) 1)) [pp 46],
 mv 10 57,
 mv 11 58] [0,1,3,7,0,16,48,112,255,511,1023,2047,2047,4095,16383]) (
 .seq (.reg [
 qo 59 (.p (faddrF (tt 9) 2)) [pp 9],
 qo 60 (.p (faddrF (tt 59) 3)) [pp 59],
 qo 61 (.p (sliceAF 16 1 (tt 60) none none none)) [pp 60],
 mv 62 10,
 qo 63 (.a (cpyF 1 (tt 61) (tt 62))) [pp 61,pp 62]]) (
 .seq (.reg [
 mv 64 8,
 qo 65 (.p (nilcF (tt 64))) [pp 64],
 qo 66 (.p (faddrF (tt 65) 1)) [pp 65],
 qo 67 (.r (loadF (tt 66) 1 .sc)) [pp 66],
 mv 68 10,
 qo 69 (.p (lenF (tt 68))) [pp 68],
 qo 70 (.p (arF .mul (tt 69) (ii 2))) [pp 69],
 qo 71 (.p (arF .quo (tt 70) (ii 8))) [pp 70],
 qo 72 (.p (arF .add (tt 67) (tt 71))) [pp 67,pp 71],
 qo 73 (.p (nilcF (tt 64))) [pp 64],
 qo 74 (.p (faddrF (tt 73) 1)) [pp 73],
 qn (.a (storeF (tt 74) (tt 72) 1)) [pp 74,pp 72]]) (
 .seq (.reg [
 mv 75 8,
 qo 76 (.c (callF (ff 247) [(tt 75),(ii 2)])) [pp 75],
 qo 77 (.p (convF .i64 (tt 76))) [pp 76],
 qo 78 (.p (faddrF (tt 9) 2)) [pp 9],
 qo 79 (.p (faddrF (tt 78) 19)) [pp 78],
 qn (.a (storeF (tt 79) (tt 77) 1)) [pp 79,pp 77]]) (
 .seq (.reg [
 mv 80 8,
 qo 81 (.c (callF (ff 247) [(tt 80),(ii 1)])) [pp 80],
 mv 12 81]) (
 .seq (.reg [
 mv 82 12,
 qo 83 (.p (eqcF false false [.int .u64] (tt 82) (.c (.int .u64 1)))) [pp 82],
 qo 84 (.p (faddrF (tt 9) 2)) [pp 9],
 qo 85 (.p (faddrF (tt 84) 20)) [pp 84],
 qn (.a (storeF (tt 85) (tt 83) 1)) [pp 85,pp 83]]) (
 .seq (.regD [
 mv 86 8,
 qo 87 (.p (nilcF (tt 86))) [pp 86],
 qo 88 (.p (faddrF (tt 87) 0)) [pp 87],
 qo 89 (.r (loadF (tt 88) 1 .sc)) [pp 88],
 mv 90 8,
 qo 91 (.p (nilcF (tt 90))) [pp 90],
 qo 92 (.p (faddrF (tt 91) 1)) [pp 91],
 qo 93 (.r (loadF (tt 92) 1 .sc)) [pp 92],
 qo 94 (.p (sliceF 1 (tt 89) (some (tt 93)) none none)) [pp 89,pp 93],
 qo 95 (.c (callF (ff 249) [(tt 94),(ff 250)])) [pp 94],
 mv 13 95] [0,1,3,7,0,16,48,112,255,511,1023]) (
 .seq (.seq (.reg [
 mv 96 5,
 qo 97 (.c (callF (ff 180) [(tt 96)])) [pp 96],
 qo 98 (.p (unF .not (tt 97))) [pp 97],
 mv 99 98,
 qg 100 (.r (loadF (tt 9) 23 .ag)) 99 false [pp 9],
 qg 101 (.c (callF (ff 181) [(tt 100)])) 99 false [pp 100],
 qg 102 (.p (unF .not (tt 101))) 99 false [pp 101],
 qo 103 (.p (pickF (tt 99) (.c (.bool true)) (tt 102))) [pp 99,pp 102],
 mv 104 103,
 mg 105 12 104 false,
 qg 106 (.p (arF .gtr (tt 105) (.c (.int .u64 1)))) 104 false [pp 105],
 qo 107 (.p (pickF (tt 104) (.c (.bool true)) (tt 106))) [pp 104,pp 106],
 mv 108 107,
 mg 109 13 108 false,
 qo 110 (.p (pickF (tt 108) (.c (.bool true)) (tt 109))) [pp 108,pp 109]]) (
 .cond (tt 110) (.seq (.reg [
 qo 111 (.p (buildF [.int .u64 0,.int .i64 0,.int .i64 0,.int .i64 0,.int .i64 0,.int .u8 0,.int .u8 0,.int .u8 0,.int .u8 0,.int .u8 0,.int .u8 0,.int .u8 0,.int .u8 0,.int .u8 0,.int .u8 0,.int .u8 0,.int .u8 0,.int .u8 0,.int .u8 0,.int .u8 0,.int .u8 0,.int .i64 0,.bool false] .ag [])) [],
 qo 2 (.p (S.get (.c (.int .u64 0)))) [],
 qn (.a (storeF (tt 3) (tt 111) 23)) [pp 3,pp 111],
 qo 4 (.p (S.get (ii 5))) []]) (
 .ret)) (.skip))) (
 .seq (.regD [
 mv 112 5,
 qo 113 (.r (loadF (tt 9) 23 .ag)) [pp 9],
 mv 2 112,
 qn (.a (storeF (tt 3) (tt 113) 23)) [pp 3,pp 113],
 qo 4 (.p (S.get (ii 0))) []] [0,0,1,7,15]) (
 .ret))))))))))))))))⟩
theorem c239_eq:fnOf Tryz.prog 239=some c239:=by kernel_rfl
theorem put_one:∀ {cs:List V} {o:Nat} {v:V},Thin cs→o < cs.length→v.flat=true→put cs o [v]=some (cs.set o v)
 | c::cs,0,v,h,_,hv=>by
  have h1:c.asBlk=none:=h c (List.mem_cons_self ..)
  unfold put
  simp only[h1,show Nat.beq 0 0=true from rfl,hv]
  cases cs<;>rfl
 | c::cs,o+1,v,h,hl,hv=>by
  have h1:c.asBlk=none:=h c (List.mem_cons_self ..)
  unfold put
  simp only[h1,show Nat.beq (o+1) 0=false from rfl]
  rw[show Nat.sub (o+1) 1=o from rfl,put_one (fun v hv=>h v (List.mem_cons_of_mem _ hv)) (by simpa using hl) hv]
  rfl
 | [],o,v,_,hl,_=>by simp at hl
theorem thin_set {cs:List V} {o:Nat} {v:V} (h:Thin cs) (hv:v.asBlk=none):Thin (cs.set o v):=fun u hu=>by
 rcases List.mem_or_eq_of_mem_set hu with hu | rfl
 ·exact h u hu
 ·exact hv
def laid (row:List V):Nat→List Nat→List V
 | _,[]=>row
 | o,x::xs=>laid (row.set o (.int .u8 (x:Int))) (o+1) xs
def cellB (x:Nat):List V:=[.int .u8 (x:Int)]
theorem store_cells {b:Bk} {W:Nat}:∀(xs:List Nat) (o:Nat) (H:Heap) (row:List V),H.get b=some (.rows false W [row])→row.length=W→Thin row→o+xs.length≤W →
  ∃ H',storeElems b 1 (xs.map cellB) o H=some H'∧H'.get b=some (.rows false W [laid row o xs])∧Turns (fun c=>c=b) H H'∧H'.next=H.next
 | [],o,H,row,h,hl,ht,hn=>⟨H,rfl,h,Turns.refl _ _,rfl⟩
 | x::xs,o,H,row,h,hl,ht,hn=>by
  rw[List.length_cons] at hn
  have hW:o / W=0:=Nat.div_eq_of_lt (by omega)
  have hM:o % W=o:=Nat.mod_eq_of_lt (by omega)
  have st:storeAt H ⟨b,o⟩ (cellB x)=some (H.set b (.rows false W [row.set o (.int .u8 (x:Int))])):=by
   have:=storeAt_eq h (o:=o) (vs:=cellB x) (r:=row) (r':=row.set o (.int .u8 (x:Int))) (by rw[hW];rfl) (by rw[hM];exact put_one ht (by omega) rfl)
   rw[hW] at this
   exact this
  obtain⟨H',e,hg,hT,hx⟩:=store_cells (b:=b) (W:=W) xs (o+1) (H.set b (.rows false W [row.set o (.int .u8 (x:Int))])) (row.set o (.int .u8 (x:Int))) (by rw[Heap.get_set,if_pos rfl]) (by simpa using hl) (thin_set ht rfl) (by omega)
  refine⟨H',?_,hg,(Turns.set (X:=fun c=>c=b) rfl H _).trans hT,by rw[hx];simp⟩
  show (match storeAt H ⟨b,o⟩ (cellB x) with | some H'=>storeElems b 1 (xs.map cellB) (Nat.add o 1) H' | none=>none)=_
  rw[st]
  exact e
def stl (f:Nat→Nat):Nat→Nat→List Nat
 | 0,_=>[]
 | n+1,j=>f j::stl f n (j+1)
theorem stl_len (f:Nat→Nat):∀ n j,(stl f n j).length=n
 | 0,_=>rfl
 | n+1,j=>by simp[stl,stl_len f n (j+1)]
theorem elems_rows {H:Heap} {k:Nat} {f:Nat→Nat} {N:Nat} (h:H.get (.run k)=some (.rows false 1 (rowsB f N 0))):∀ n j,j+n≤N→elems H (.run k) 1 n j=some ((stl f n j).map cellB)
 | 0,_,_=>rfl
 | n+1,j,hj=>by
  unfold elems
  have l:loadAt H ⟨.run k,j⟩ 1=some [.int .u8 (f j:Int)]:=by
   rw[loadAt_eq h (r:=[.int .u8 (f j:Int)]) (by rw[Nat.div_one,nth_eq,rowsB_get f N 0 j (by omega),Nat.zero_add]),Nat.mod_one]
   rfl
  rw[l]
  simp only
  rw[show Nat.add j 1=j+1 from rfl,elems_rows h n (j+1) (by omega)]
  rfl
theorem copy_states {H:Heap} {b k:Nat} {f:Nat→Nat} {row:List V} (hk:H.get (.run k)=some (.rows false 1 (rowsB f 16 0))) (hb:H.get (.run b)=some (.rows false 23 [row])) (hl:row.length=23) (ht:Thin row) :
  ∃ H',copyV 1 H (.slice (some ⟨.run b,5⟩) 16 16 0) (.slice (some ⟨.run k,0⟩) 16 16 0)=some (.int .i64 16,H')∧H'.get (.run b)=some (.rows false 23 [laid row 5 (stl f 16 0)])∧Turns (fun c=>c=.run b) H H'∧H'.next=H.next:=by
 obtain⟨H',e,hg,hT,hx⟩:=store_cells (b:=.run b) (W:=23) (stl f 16 0) 5 H row hb hl ht (by rw[stl_len];omega)
 refine⟨H',?_,hg,hT,hx⟩
 have he:=elems_rows hk 16 0 (by omega)
 unfold copyV
 simp only[lenOf,firstE]
 rw[show min 16 16=16 from rfl,he]
 simp only[show Nat.beq 16 0=false from rfl,e]
 rfl
noncomputable def bc (B i:Nat):Nat:=byte B (8+i)
theorem bc_lt (B i:Nat):bc B i < 256:=byte_lt _ _
noncomputable def fld (B a sz:Nat):Nat:=leN (fun i=>bc B (a+i)) sz
noncomputable def gSt (B:Nat):List Nat:=stl (twoB fun i=>bc B (14+i)) 16 0
noncomputable def gSup (B:Nat):V:=sup (fld B 0 8) (fld B 13 1) (fld B 8 1) (fld B 9 2) (fld B 11 2) (gSt B) (fld B 18 2) (((fld B 20 1:Nat):Int)==1)
def isSup (B:Nat):Prop:=evt (sealN B)=true∧smay (fld B 0 8) (fld B 13 1) (fld B 8 1) (fld B 9 2) (fld B 11 2) (gSt B) (fld B 18 2)∧fld B 20 1≤1∧zeroTo (fun i=>bc B (21+i)) 23
open Classical in
noncomputable def getE (B:Nat):Int:=if sealE B≠0 then sealE B else if isSup B then 0 else 5
def zrow:List V:=[.int .u64 0,.int .i64 0,.int .i64 0,.int .i64 0,.int .i64 0,.int .u8 0,.int .u8 0,.int .u8 0,.int .u8 0,.int .u8 0,.int .u8 0,.int .u8 0,.int .u8 0,.int .u8 0,.int .u8 0,.int .u8 0,.int .u8 0,.int .u8 0,.int .u8 0,.int .u8 0,.int .u8 0,.int .i64 0,.bool false]
structure GI (H0:Heap) (b8 b9 b3 kb:Nat) (c:Nat→Nat) (H:Heap) (a:Nat) (row:List V):Prop where
 rd:H.get (.run b8)=some (rdr kb a)
 sp:H.get (.run b9)=some (.rows false 23 [row])
 an:H.get (.run b3)=some (.rows false 23 [zrow])
 body:BodyAt H kb c 44
 t:Turns Z H0 H
 lo:H0.next≤b8∧H0.next≤b9∧H0.next≤b3
 hi:b8 < H.next∧b9 < H.next∧b3 < H.next
 ne:b8≠b9∧b8≠b3∧b9≠b3∧kb≠b8∧kb≠b9∧kb≠b3
theorem run_ne {a b:Nat} (h:a≠b):¬ (Bk.run a=Bk.run b):=fun e=>h (by cases e;rfl)
theorem GI.set8 {H0 H:Heap} {b8 b9 b3 kb a:Nat} {c:Nat→Nat} {row:List V} (g:GI H0 b8 b9 b3 kb c H a row) (a':Nat):GI H0 b8 b9 b3 kb c (H.set (.run b8) (rdr kb a')) a' row:=by
 obtain⟨n1,n2,n3,n4,n5,n6⟩:=g.ne
 refine⟨by rw[Heap.get_set,if_pos rfl],?_,?_,⟨?_,by simpa using g.body.old⟩,g.t.setnew g.lo.1 _,g.lo,by simpa using g.hi,g.ne⟩
 ·rw[Heap.get_set,if_neg (run_ne (Ne.symm n1))];exact g.sp
 ·rw[Heap.get_set,if_neg (run_ne (Ne.symm n2))];exact g.an
 ·rw[Heap.get_set,if_neg (run_ne n4)];exact g.body.own
theorem GI.set9 {H0 H:Heap} {b8 b9 b3 kb a:Nat} {c:Nat→Nat} {row:List V} (g:GI H0 b8 b9 b3 kb c H a row) (row':List V):GI H0 b8 b9 b3 kb c (H.set (.run b9) (.rows false 23 [row'])) a row':=by
 obtain⟨n1,n2,n3,n4,n5,n6⟩:=g.ne
 refine⟨?_,by rw[Heap.get_set,if_pos rfl],?_,⟨?_,by simpa using g.body.old⟩,g.t.setnew g.lo.2.1 _,g.lo,by simpa using g.hi,g.ne⟩
 ·rw[Heap.get_set,if_neg (run_ne n1)];exact g.rd
 ·rw[Heap.get_set,if_neg (run_ne (Ne.symm n3))];exact g.an
 ·rw[Heap.get_set,if_neg (run_ne n5)];exact g.body.own
theorem GI.on {H0 H H':Heap} {b8 b9 b3 kb a:Nat} {c:Nat→Nat} {row:List V} (g:GI H0 b8 b9 b3 kb c H a row) (t:Turns Z H H'):GI H0 b8 b9 b3 kb c H' a row:=
 ⟨(t.same (.run b8) g.hi.1 id).trans g.rd,(t.same (.run b9) g.hi.2.1 id).trans g.sp,(t.same (.run b3) g.hi.2.2 id).trans g.an,g.body.turns t,g.t.trans t,g.lo,⟨Nat.lt_of_lt_of_le g.hi.1 t.next,Nat.lt_of_lt_of_le g.hi.2.1 t.next,Nat.lt_of_lt_of_le g.hi.2.2 t.next⟩,g.ne⟩
theorem GI.on9 {H0 H H':Heap} {b8 b9 b3 kb a:Nat} {c:Nat→Nat} {row row':List V} (g:GI H0 b8 b9 b3 kb c H a row) (t:Turns (fun c=>c=.run b9) H H') (h:H'.get (.run b9)=some (.rows false 23 [row'])):GI H0 b8 b9 b3 kb c H' a row':=by
 obtain⟨n1,n2,n3,n4,n5,n6⟩:=g.ne
 refine⟨(t.same (.run b8) g.hi.1 (run_ne n1)).trans g.rd,h,(t.same (.run b3) g.hi.2.2 (run_ne (Ne.symm n3))).trans g.an,⟨(t.same (.run kb) g.body.old (run_ne n5)).trans g.body.own,Nat.lt_of_lt_of_le g.body.old t.next⟩,?_,g.lo,⟨Nat.lt_of_lt_of_le g.hi.1 t.next,Nat.lt_of_lt_of_le g.hi.2.1 t.next,Nat.lt_of_lt_of_le g.hi.2.2 t.next⟩,g.ne⟩
 exact g.t.later t (fun c ho e=>by subst e;exact absurd ho (Heap.not_old g.lo.2.1))
theorem GI.take {H0 H:Heap} {b8 b9 b3 kb a:Nat} {c:Nat→Nat} {row:List V} (g:GI H0 b8 b9 b3 kb c H a row) (hc:∀ i,c i < 256) {sz:Nat} (hs:1≤sz∧sz≤8) (ha:a+sz≤44) {lf:Nat} (hlf:60 < lf) (n:Nat) :
  ∃ H',callS Tryz.prog S0 lf (n+2) 247 [.ptr (some ⟨.run b8,0⟩),.int .i64 (sz:Int)] H=some (.v (.int .u64 ((leN (fun i=>c (a+i)) sz:Nat):Int)),H')∧GI H0 b8 b9 b3 kb c H' (a+sz) row:=
 ⟨_,rtake_ok g.rd g.body hc hs ha hlf n,g.set8 (a+sz)⟩
theorem GI.put {H0 H:Heap} {b8 b9 b3 kb a:Nat} {c:Nat→Nat} {row:List V} (g:GI H0 b8 b9 b3 kb c H a row) {o:Nat} {vs row':List V} (ho:o < 23) (hp:put row o vs=some row') :
  ∃ H',storeAt H ⟨.run b9,o⟩ vs=some H'∧GI H0 b8 b9 b3 kb c H' a row':=by
 refine⟨_,?_,g.set9 row'⟩
 have:=storeAt_eq g.sp (o:=o) (vs:=vs) (r:=row) (r':=row') (by rw[Nat.div_eq_of_lt ho];rfl) (by rw[Nat.mod_eq_of_lt ho];exact hp)
 rw[Nat.div_eq_of_lt ho] at this
 exact this
end Go.Proofs.YtabebpemfinejaaGreat.draft
namespace Go.Proofs.YtabebpemfinejaaGreat.draft
open Go.Am
theorem up_lt' {c i:Nat} (hc:c < 256):up c i < 2 ^ (8*(i+1)):=by
 unfold up
 have:2 ^ (8*(i+1))=256*2 ^ (8*i):=by rw[show 8*(i+1)=8+8*i by omega,Nat.pow_add]
 rw[this]
 exact Nat.mul_lt_mul_of_pos_right hc (Nat.pow_pos (by decide))
theorem leN_lt' {c:Nat→Nat} (hc:∀ i,c i < 256):∀ n,leN c n < 2 ^ (8*n)
 | 0=>by show 0 < _;exact Nat.pow_pos (by decide)
 | n+1=>Nat.or_lt_two_pow (Nat.lt_of_lt_of_le (leN_lt' hc n) (Nat.pow_le_pow_right (by decide) (by omega))) (up_lt' (hc n))
theorem fld_1 (B a:Nat):fld B a 1 < 256:=leN_lt' (fun i=>bc_lt B (a+i)) 1
theorem fld_2 (B a:Nat):fld B a 2 < 65536:=leN_lt' (fun i=>bc_lt B (a+i)) 2
theorem set_c {S:List Nat} (hS:S.length=16) (id me m s r c c':Int) (g:Bool):(scells id me m s r S c g).set 21 (.int .i64 c')=scells id me m s r S c' g:=by
 match S,hS with
 | [_,_,_,_,_,_,_,_,_,_,_,_,_,_,_,_],_=>rfl
theorem set_g {S:List Nat} (hS:S.length=16) (id me m s r c:Int) (g g':Bool):(scells id me m s r S c g).set 22 (.bool g')=scells id me m s r S c g':=by
 match S,hS with
 | [_,_,_,_,_,_,_,_,_,_,_,_,_,_,_,_],_=>rfl
theorem put_c {S:List Nat} (hS:S.length=16) (id me m s r c c':Int) (g:Bool):put (scells id me m s r S c g) 21 [.int .i64 c']=some (scells id me m s r S c' g):=by
 rw[put_one (s_thin id me m s r S c g) (by rw[s_len hS];omega) rfl,set_c hS]
theorem put_g {S:List Nat} (hS:S.length=16) (id me m s r c:Int) (g g':Bool):put (scells id me m s r S c g) 22 [.bool g']=some (scells id me m s r S c g'):=by
 rw[put_one (s_thin id me m s r S c g) (by rw[s_len hS];omega) rfl,set_g hS]
theorem laid_s {S:List Nat} (hS:S.length=16) (id me m s r c:Int) (g:Bool):laid (scells id me m s r (List.replicate 16 0) c g) 5 S=scells id me m s r S c g:=by
 match S,hS with
 | [_,_,_,_,_,_,_,_,_,_,_,_,_,_,_,_],_=>simp[laid,scells,rcells,sts,List.replicate]
theorem put_s {S:List Nat} (hS:S.length=16) (id me m s r c:Int) (g:Bool):put zrow 0 (scells id me m s r S c g)=some (scells id me m s r S c g):=by
 match S,hS with
 | [_,_,_,_,_,_,_,_,_,_,_,_,_,_,_,_],_=>rfl
theorem GI.ans {H0 H:Heap} {b8 b9 b3 kb a:Nat} {c:Nat→Nat} {row:List V} (G:GI H0 b8 b9 b3 kb c H a row) {row':List V} (hp:Go.Am.put zrow 0 row'=some row') (hl:row'.length=23) (ht:Thin row') :
  ∃ H',storeAt H ⟨.run b3,0⟩ row'=some H'∧loadAt H' ⟨.run b3,0⟩ 23=some row'∧Turns Z H0 H':=by
 refine⟨_,storeAt_eq G.an (r:=zrow) (r':=row') rfl hp,?_,G.t.setnew G.lo.2.2 _⟩
 rw[loadAt_eq (b:=.run b3) (r:=row') (by rw[Heap.get_set,if_pos rfl]) rfl,cut_thin ht (by omega)]
 simp[← hl]
theorem put_z:put zrow 0 zrow=some zrow:=rfl
theorem width_z:width zrow=23:=rfl
theorem sgf_ok (H:Heap) (B:Nat) {lf:Nat} (hlf:60 < lf) (n:Nat):ret (callS Tryz.prog S0 lf (n+5) 239 [.blk B] H) fun v H'=>Turns Z H H' ∧
  ((getE B≠0∧v=.tuple [.int .u64 0,.agg zrow,.int .i64 (getE B)])∨(getE B=0∧v=.tuple [.int .u64 ((sealN B:Nat):Int),gSup B,.int .i64 0])):=by
 have t1:=Turns.add Z H (.rows false 64 [[.blk B]])
 have hg1:(H.add (.rows false 64 [[.blk B]])).get (.run H.next)=some (.rows false 64 [[.blk B]]):=by rw[Heap.get_add,if_pos rfl]
 have t2:=t1.addm (.rows false 23 [zrow])
 have hg2:((H.add (.rows false 64 [[.blk B]])).add (.rows false 23 [zrow])).get (.run H.next)=some (.rows false 64 [[.blk B]]):=by
  rw[Heap.get_add,if_neg (run_ne (by simp)),hg1]
 have hg3:((H.add (.rows false 64 [[.blk B]])).add (.rows false 23 [zrow])).get (.run (H.next+1))=some (.rows false 23 [zrow]):=by
  rw[Heap.get_add,if_pos (by simp)]
 have hn2:((H.add (.rows false 64 [[.blk B]])).add (.rows false 23 [zrow])).next=H.next+2:=by simp
 have hzr:zrow=[.int .u64 0,.int .i64 0,.int .i64 0,.int .i64 0,.int .i64 0,.int .u8 0,.int .u8 0,.int .u8 0,.int .u8 0,.int .u8 0,.int .u8 0,.int .u8 0,.int .u8 0,.int .u8 0,.int .u8 0,.int .u8 0,.int .u8 0,.int .u8 0,.int .u8 0,.int .u8 0,.int .u8 0,.int .i64 0,.bool false]:=rfl
 generalize hH2:(H.add (.rows false 64 [[.blk B]])).add (.rows false 23 [zrow])=H2 at *
 have l1:loadAt H2 ⟨.run H.next,0⟩ 64=some [.blk B]:=by rw[loadAt_eq hg2 rfl];exact Dp _ _
 obtain⟨v,H3,e1,t3,hv⟩:=sget_ok H2 B hlf n
 have hg3':H3.get (.run (H.next+1))=some (.rows false 23 [zrow]):=(t3.same (.run (H.next+1)) (by show _ < _;omega) id).trans hg3
 have hn3:H.next+2≤H3.next:=by rw[← hn2];exact t3.next
 refine ret_call rfl c239_eq ?_
 rw[hzr] at hH2
 rcases hv with ⟨hE,rfl⟩ | ⟨hE,k,rfl,hb,hk⟩
 ·have b0:(sealE B==0)=false:=by simpa using hE
  have st:storeAt H3 ⟨.run (H.next+1),0⟩ zrow=some (H3.set (.run (H.next+1)) (.rows false 23 [zrow])):=storeAt_eq hg3' (r:=zrow) (r':=zrow) rfl put_z
  have lz:loadAt (H3.set (.run (H.next+1)) (.rows false 23 [zrow])) ⟨.run (H.next+1),0⟩ 23=some zrow:=by
   rw[loadAt_eq (b:=.run (H.next+1)) (r:=zrow) (by rw[Heap.get_set,if_pos rfl]) rfl];rfl
  have hw:=width_z
  have hge:getE B=sealE B:=by unfold getE;rw[if_pos hE]
  rw[hge]
  generalize hH4:H3.set (.run (H.next+1)) (.rows false 23 [zrow])=H4 at *
  rw[hzr] at st lz hw ⊢
  simp only[c239,hH2,l1,e1,b0,st,lz,hw,sy,tup,↓reduceIte,zA,zG,zC,zD,zF,zE,zB,zH,reduceCtorEq]
  refine⟨trivial,.inr trivial,_,rfl,?_,.inl ⟨hE,rfl⟩⟩
  rw[← hH4]
  exact(t2.trans t3).setnew (by omega) _
 ·have hcB:∀ i,bc B i < 256:=bc_lt B
  have hb:BodyAt H3 k (bc B) 44:=hb
  obtain⟨H4,hH4⟩:∃ H4,H3.add (.rows false 2 [[.slice (some ⟨.run k,0⟩) 44 44 1,.int .i64 0]])=H4:=⟨_,rfl⟩
  have g4:H4.get (.run H3.next)=some (rdr k 0):=by rw[← hH4,Heap.get_add,if_pos rfl];rfl
  have t4:Turns Z H3 H4:=by rw[← hH4];exact Turns.add Z H3 _
  have n4:H4.next=H3.next+1:=by rw[← hH4];simp
  have e2:callS Tryz.prog S0 lf (n+4) 247 [.ptr (some ⟨.run H3.next,0⟩),.int .i64 8] H4=some (.v (.int .u64 ((fld B 0 8:Nat):Int)),H4.set (.run H3.next) (rdr k 8)):=rtake_ok g4 (hb.turns t4) hcB (a:=0) (sz:=8) (by omega) (by omega) hlf (n+2)
  obtain⟨H5,hH5⟩:∃ H5,H4.set (.run H3.next) (rdr k 8)=H5:=⟨_,rfl⟩
  rw[hH5] at e2
  have g5:H5.get (.run H3.next)=some (rdr k 8):=by rw[← hH5,Heap.get_set,if_pos rfl]
  have n5:H5.next=H3.next+1:=by rw[← hH5];simpa using n4
  have bk:=hb.old
  have b5:BodyAt H5 k (bc B) 44:=⟨by rw[← hH5,Heap.get_set,if_neg (run_ne (by omega))];exact(hb.turns t4).own,by omega⟩
  have a5:H5.get (.run (H.next+1))=some (.rows false 23 [zrow]):=by
   rw[← hH5,Heap.get_set,if_neg (run_ne (by omega))]
   exact(t4.same (.run (H.next+1)) (by show _ < _;omega) id).trans hg3'
  have T5:Turns Z H H5:=by rw[← hH5];exact((t2.trans t3).trans t4).setnew (by omega) _
  obtain⟨H6,hH6⟩:∃ H6,H5.add (.rows false 23 [zrow])=H6:=⟨_,rfl⟩
  have t6:Turns Z H5 H6:=by rw[← hH6];exact Turns.add Z H5 _
  have G6:GI H H3.next H5.next (H.next+1) k (bc B) H6 8 zrow:=by
   refine⟨(t6.same (.run H3.next) (by show _ < _;omega) id).trans g5,by rw[← hH6,Heap.get_add,if_pos rfl],(t6.same (.run (H.next+1)) (by show _ < _;omega) id).trans a5,b5.turns t6,T5.trans t6,⟨by omega,by omega,by omega⟩,?_,⟨by omega,by omega,by omega,by omega,by omega,by omega⟩⟩
   have:H6.next=H5.next+1:=by rw[← hH6];simp
   exact⟨by omega,by omega,by omega⟩
  obtain⟨H7,st7,G7⟩:=G6.put (o:=0) (vs:=scells (fld B 0 8) 0 0 0 0 (List.replicate 16 0) 0 false) (row':=scells (fld B 0 8) 0 0 0 0 (List.replicate 16 0) 0 false) (by omega) rfl
  obtain⟨H8,e8,G8⟩:=G7.take hcB (sz:=1) (by omega) (by omega) hlf (n+2)
  have e8:callS Tryz.prog S0 lf (n+4) 247 [.ptr (some ⟨.run H3.next,0⟩),.int .i64 1] H7=some (.v (.int .u64 ((fld B 8 1:Nat):Int)),H8):=e8
  have G8:GI H H3.next H5.next (H.next+1) k (bc B) H8 9 _:=G8
  obtain⟨H9,e9,G9⟩:=G8.take hcB (sz:=2) (by omega) (by omega) hlf (n+2)
  have e9:callS Tryz.prog S0 lf (n+4) 247 [.ptr (some ⟨.run H3.next,0⟩),.int .i64 2] H8=some (.v (.int .u64 ((fld B 9 2:Nat):Int)),H9):=e9
  have G9:GI H H3.next H5.next (H.next+1) k (bc B) H9 11 _:=G9
  obtain⟨H10,e10,G10⟩:=G9.take hcB (sz:=2) (by omega) (by omega) hlf (n+2)
  have e10:callS Tryz.prog S0 lf (n+4) 247 [.ptr (some ⟨.run H3.next,0⟩),.int .i64 2] H9=some (.v (.int .u64 ((fld B 11 2:Nat):Int)),H10):=e10
  have G10:GI H H3.next H5.next (H.next+1) k (bc B) H10 13 _:=G10
  obtain⟨H11,st11,G11⟩:=G10.put (o:=2) (vs:=[.int .i64 (fld B 8 1),.int .i64 (fld B 9 2),.int .i64 (fld B 11 2)]) (row':=scells (fld B 0 8) 0 (fld B 8 1) (fld B 9 2) (fld B 11 2) (List.replicate 16 0) 0 false) (by omega) rfl
  obtain⟨H12,e12,G12⟩:=G11.take hcB (sz:=1) (by omega) (by omega) hlf (n+2)
  have e12:callS Tryz.prog S0 lf (n+4) 247 [.ptr (some ⟨.run H3.next,0⟩),.int .i64 1] H11=some (.v (.int .u64 ((fld B 13 1:Nat):Int)),H12):=e12
  have G12:GI H H3.next H5.next (H.next+1) k (bc B) H12 14 _:=G12
  obtain⟨H13,st13,G13⟩:=G12.put (o:=1) (vs:=[.int .i64 (fld B 13 1)]) (row':=scells (fld B 0 8) (fld B 13 1) (fld B 8 1) (fld B 9 2) (fld B 11 2) (List.replicate 16 0) 0 false) (by omega) rfl
  have r13:loadAt H13 ⟨.run H3.next,0⟩ 1=some [.slice (some ⟨.run k,0⟩) 44 44 1]:=by rw[loadAt_eq G13.rd rfl];rfl
  have a13:loadAt H13 ⟨.run H3.next,1⟩ 1=some [.int .i64 14]:=by rw[loadAt_eq G13.rd rfl];rfl
  obtain⟨vu,H14,e14,t14,ku,rfl,gu,ou⟩:=unbits_ok (H:=H13) (p:=⟨.run k,14⟩) (len:=30) (cap:=30) (loose:=1) (c:=fun i=>bc B (14+i)) (by omega) (by omega) G13.body.old (fun i=>hcB _) (fun t i hi=>(G13.body.turns t).load (i:=14+i) (by omega)) lf (n+2) (by omega)
  change callS Tryz.prog S0 lf (n+4) 248 _ _=_ at e14
  have G14:=G13.on t14
  have hS16:(gSt B).length=16:=stl_len _ _ _
  obtain⟨H15,e15,g15,t15,n15⟩:=copy_states gu G14.sp rfl (s_thin _ _ _ _ _ _ _ _)
  have G15:GI H H3.next H5.next (H.next+1) k (bc B) H15 14 (scells (fld B 0 8) (fld B 13 1) (fld B 8 1) (fld B 9 2) (fld B 11 2) (gSt B) 0 false):=G14.on9 t15 (by rw[g15];exact congrArg (fun r=>some (Am.Obj.rows false 23 [r])) (laid_s hS16 _ _ _ _ _ _ _))
  have a15:loadAt H15 ⟨.run H3.next,1⟩ 1=some [.int .i64 14]:=by rw[loadAt_eq G15.rd rfl];rfl
  have w1:IntKind.i64.wrap (((16:Nat):Int)*2)=32:=by kernel_rfl
  have w2:arith .quo (.int .i64 32) (.int .i64 8)=some (.int .i64 4):=by kernel_rfl
  have w3:IntKind.i64.wrap (14+4)=18:=by kernel_rfl
  have st16:storeAt H15 ⟨.run H3.next,1⟩ [.int .i64 18]=some (H15.set (.run H3.next) (rdr k 18)):=storeAt_eq G15.rd (r:=[.slice (some ⟨.run k,0⟩) 44 44 1,.int .i64 14]) (r':=[.slice (some ⟨.run k,0⟩) 44 44 1,.int .i64 18]) rfl rfl
  have G16:=G15.set8 18
  obtain⟨H16,hH16⟩:∃ H16,H15.set (.run H3.next) (rdr k 18)=H16:=⟨_,rfl⟩
  rw[hH16] at st16 G16
  obtain⟨H17,e17,G17⟩:=G16.take hcB (sz:=2) (by omega) (by omega) hlf (n+2)
  have e17:callS Tryz.prog S0 lf (n+4) 247 [.ptr (some ⟨.run H3.next,0⟩),.int .i64 2] H16=some (.v (.int .u64 ((fld B 18 2:Nat):Int)),H17):=e17
  have G17:GI H H3.next H5.next (H.next+1) k (bc B) H17 20 _:=G17
  obtain⟨H18,st18,G18⟩:=G17.put (o:=21) (vs:=[.int .i64 (fld B 18 2)]) (row':=scells (fld B 0 8) (fld B 13 1) (fld B 8 1) (fld B 9 2) (fld B 11 2) (gSt B) (fld B 18 2) false) (by omega) (put_c hS16 _ _ _ _ _ _ _ _)
  obtain⟨H19,e19,G19⟩:=G18.take hcB (sz:=1) (by omega) (by omega) hlf (n+2)
  have e19:callS Tryz.prog S0 lf (n+4) 247 [.ptr (some ⟨.run H3.next,0⟩),.int .i64 1] H18=some (.v (.int .u64 ((fld B 20 1:Nat):Int)),H19):=e19
  have G19:GI H H3.next H5.next (H.next+1) k (bc B) H19 21 _:=G19
  obtain⟨H20,st20,G20⟩:=G19.put (o:=22) (vs:=[.bool (((fld B 20 1:Nat):Int)==1)]) (row':=scells (fld B 0 8) (fld B 13 1) (fld B 8 1) (fld B 9 2) (fld B 11 2) (gSt B) (fld B 18 2) (((fld B 20 1:Nat):Int)==1)) (by omega) (put_g hS16 _ _ _ _ _ _ _ _)
  have r20:loadAt H20 ⟨.run H3.next,0⟩ 1=some [.slice (some ⟨.run k,0⟩) 44 44 1]:=by rw[loadAt_eq G20.rd rfl];rfl
  have a20:loadAt H20 ⟨.run H3.next,1⟩ 1=some [.int .i64 21]:=by rw[loadAt_eq G20.rd rfl];rfl
  obtain⟨vz,H21,e21,rfl,zl,rfl,hzl⟩:=contains_ok (H:=H20) (p:=⟨.run k,21⟩) (len:=23) (cap:=23) (loose:=1) (c:=fun i=>bc B (21+i)) (by omega) (fun i hi=>G20.body.load (i:=21+i) (by omega)) lf (n+1) (by omega)
  change callS Tryz.prog S0 lf (n+4) 249 _ _=_ at e21
  have e22:callS Tryz.prog S0 lf (n+4) 180 [.int .u64 ((sealN B:Nat):Int)] H21=_:=event_ok H21 _ lf (n+3)
  have S20:SupAt H21 (.run H5.next) (fld B 0 8) (fld B 13 1) (fld B 8 1) (fld B 9 2) (fld B 11 2) (gSt B) (fld B 18 2) (((fld B 20 1:Nat):Int)==1):=⟨G20.sp,hS16⟩
  have ls:=sup_all S20
  obtain⟨vm,H23,e23,⟨zm,rfl,hzm⟩,t23⟩:=smay_ok H21 (id:=fld B 0 8) (me:=fld B 13 1) (m:=fld B 8 1) (s:=fld B 9 2) (r:=fld B 11 2) (c:=fld B 18 2) (g:=((fld B 20 1:Nat):Int)==1) hS16 lf n (by omega)
  unfold sup at e23
  have c1:IntKind.i64.wrap ((fld B 8 1:Nat):Int)=((fld B 8 1:Nat):Int):=wrap_nat (by have:=fld_1 B 8;omega)
  have c2:IntKind.i64.wrap ((fld B 9 2:Nat):Int)=((fld B 9 2:Nat):Int):=wrap_nat (by have:=fld_2 B 9;omega)
  have c3:IntKind.i64.wrap ((fld B 11 2:Nat):Int)=((fld B 11 2:Nat):Int):=wrap_nat (by have:=fld_2 B 11;omega)
  have c4:IntKind.i64.wrap ((fld B 13 1:Nat):Int)=((fld B 13 1:Nat):Int):=wrap_nat (by have:=fld_1 B 13;omega)
  have c5:IntKind.i64.wrap ((fld B 18 2:Nat):Int)=((fld B 18 2:Nat):Int):=wrap_nat (by have:=fld_2 B 18;omega)
  have bb1:bounds 44 44 (some (.int .i64 14)) none none=some (14,44,44):=rfl
  have bb2:bounds 44 44 (some (.int .i64 21)) none none=some (21,44,44):=rfl
  have bb3:bounds 16 16 none none none=some (0,16,16):=rfl
  have st7:storeAt H6 ⟨.run H5.next,0⟩ [.int .u64 ((fld B 0 8:Nat):Int),.int .i64 0,.int .i64 0,.int .i64 0,.int .i64 0,.int .u8 0,.int .u8 0,.int .u8 0,.int .u8 0,.int .u8 0,.int .u8 0,.int .u8 0,.int .u8 0,.int .u8 0,.int .u8 0,.int .u8 0,.int .u8 0,.int .u8 0,.int .u8 0,.int .u8 0,.int .u8 0,.int .i64 0,.bool false]=some H7:=st7
  rw[hzr] at hH6
  simp only[c239,hH2,l1,e1,hH4,e2,hH6,st7,e8,e9,e10,c1,c2,c3,st11,e12,c4,st13,r13,a13,bb1,e14,sy,tup,↓reduceIte,zA,zG,zC,zD,zF,zE,zB,zH,reduceCtorEq]
  rw[endD_ok (by kernel_rfl) (by kernel_rfl)]
  simp only[r13,a13,bb1,bb2,bb3,e14,e15,a15,w1,w2,w3,st16,e17,c5,st18,e19,st20,r20,a20,e21,e22,arith_mul,sy,tup,↓reduceIte,zA,zG,zC,zD,zF,zE,zB,zH,reduceCtorEq]
  rw[endD_ok (by kernel_rfl) (by kernel_rfl)]
  have hgY:isSup B→getE B=0:=fun h=>by unfold getE;rw[if_neg (by simpa using hE),if_pos h]
  have hgN:¬ isSup B→getE B=5:=fun h=>by unfold getE;rw[if_neg (by simpa using hE),if_neg h]
  have G23:=G20.on t23
  have ls23:loadAt H23 ⟨.run H5.next,0⟩ 23=_:=sup_all ⟨G23.sp,hS16⟩
  obtain⟨F1,sf1,lf1,tf1⟩:=G20.ans (row':=zrow) put_z rfl (s_thin 0 0 0 0 0 (List.replicate 16 0) 0 false)
  obtain⟨F2,sf2,lf2,tf2⟩:=G23.ans (row':=zrow) put_z rfl (s_thin 0 0 0 0 0 (List.replicate 16 0) 0 false)
  obtain⟨F3,sf3,lf3,tf3⟩:=G23.ans (put_s hS16 (fld B 0 8) (fld B 13 1) (fld B 8 1) (fld B 9 2) (fld B 11 2) (fld B 18 2) (((fld B 20 1:Nat):Int)==1)) (s_len hS16 _ _ _ _ _ _ _) (s_thin _ _ _ _ _ _ _ _)
  have hsw:=s_width hS16 (fld B 0 8) (fld B 13 1) (fld B 8 1) (fld B 9 2) (fld B 11 2) (fld B 18 2) (((fld B 20 1:Nat):Int)==1)
  have hwz:=width_z
  rw[hzr] at sf1 lf1 sf2 lf2 hwz ⊢
  cases hev:evt (sealN B) with
  | false=>
   have hno:¬ isSup B:=fun h=>by rw[h.1] at hev;cases hev
   rw[hev] at e22
   simp only[r20,a20,bb2,e21,e22,sf1,lf1,hwz,sy,tup,↓reduceIte,zA,zG,zC,zD,zF,zE,zB,zH,reduceCtorEq]
   exact⟨trivial,.inr trivial,_,rfl,tf1,.inl ⟨by rw[hgN hno];decide,by rw[hgN hno]⟩⟩
  | true=>
   rw[hev] at e22
   cases hz:zm with
   | false=>
    subst hz
    have hno:¬ isSup B:=fun h=>by have:=hzm.2 h.2.1;cases this
    simp only[r20,a20,bb2,e21,e22,ls,e23,sf2,lf2,hwz,sy,tup,↓reduceIte,zA,zG,zC,zD,zF,zE,zB,zH,reduceCtorEq]
    exact⟨trivial,.inr trivial,_,rfl,tf2,.inl ⟨by rw[hgN hno];decide,by rw[hgN hno]⟩⟩
   | true=>
    subst hz
    by_cases hg1:1 < fld B 20 1
    ·have hno:¬ isSup B:=fun h=>by have:=h.2.2.1;omega
     have hg1':(1:Int) < ((fld B 20 1:Nat):Int):=by omega
     simp only[r20,a20,bb2,e21,e22,ls,e23,sf2,lf2,hwz,hg1',sy,tup,↓reduceIte,zA,zG,zC,zD,zF,zE,zB,zH,reduceCtorEq]
     exact⟨trivial,.inr trivial,_,rfl,tf2,.inl ⟨by rw[hgN hno];decide,by rw[hgN hno]⟩⟩
    ·have hg1':¬ (1:Int) < ((fld B 20 1:Nat):Int):=by omega
     cases hl:zl with
     | true=>
      subst hl
      have hno:¬ isSup B:=fun h=>by have:=hzl.2 h.2.2.2;cases this
      simp only[r20,a20,bb2,e21,e22,ls,e23,sf2,lf2,hwz,hg1',sy,tup,↓reduceIte,zA,zG,zC,zD,zF,zE,zB,zH,reduceCtorEq]
      exact⟨trivial,.inr trivial,_,rfl,tf2,.inl ⟨by rw[hgN hno];decide,by rw[hgN hno]⟩⟩
     | false=>
      subst hl
      have hyes:isSup B:=⟨hev,hzm.1 rfl,by omega,hzl.1 rfl⟩
      simp only[r20,a20,bb2,e21,e22,ls,e23,hg1',ls23,sf3,lf3,hsw,sy,tup,↓reduceIte,zA,zG,zC,zD,zF,zE,zB,zH,reduceCtorEq]
      rw[endD_ok (by kernel_rfl) (by kernel_rfl)]
      simp only[ls23,sf3,lf3,hsw,sy,tup,↓reduceIte,zA,zG,zC,zD,zF,zE,zB,zH,reduceCtorEq]
      exact⟨trivial,.inr trivial,_,rfl,tf3,.inr ⟨hgY hyes,rfl⟩⟩
end Go.Proofs.YtabebpemfinejaaGreat.draft
namespace Go.Proofs.YtabebpemfinejaaGreat.draft
open Go.Am
noncomputable def c222:CFn:=⟨[.tmp (pp 4),.tmp (pp 5)],
 .seq (.reg [
 qo 2 (.m (boxF 64 (tt 0))) [pp 0],
 qo 3 (.m (boxF 64 (tt 1))) [pp 1],
 qo 4 (.p (S.get (ii 0))) [],
 qo 5 (.p (S.get (.c (.bool false)))) []]) (
 .seq (.reg [
 qo 13 (.r (loadF (tt 2) 64 .bk)) [pp 2],
 qo 14 (.c (callF (ff 239) [(tt 13)])) [pp 13],
 mv 12 14,
 qo 15 (.p (extF (tt 12) 0)) [pp 12],
 qo 16 (.p (extF (tt 12) 1)) [pp 12],
 qo 17 (.p (extF (tt 12) 2)) [pp 12],
 qo 7 (.m (allocF 23 [.int .u64 0,.int .i64 0,.int .i64 0,.int .i64 0,.int .i64 0,.int .u8 0,.int .u8 0,.int .u8 0,.int .u8 0,.int .u8 0,.int .u8 0,.int .u8 0,.int .u8 0,.int .u8 0,.int .u8 0,.int .u8 0,.int .u8 0,.int .u8 0,.int .u8 0,.int .u8 0,.int .u8 0,.int .i64 0,.bool false])) [],
 mv 6 15,
 qn (.a (storeF (tt 7) (tt 16) 23)) [pp 7,pp 16],
 mv 8 17]) (
 .seq (.reg [
 qo 19 (.r (loadF (tt 3) 64 .bk)) [pp 3],
 qo 20 (.c (callF (ff 239) [(tt 19)])) [pp 19],
 mv 18 20,
 qo 21 (.p (extF (tt 18) 0)) [pp 18],
 qo 22 (.p (extF (tt 18) 1)) [pp 18],
 qo 23 (.p (extF (tt 18) 2)) [pp 18],
 qo 10 (.m (allocF 23 [.int .u64 0,.int .i64 0,.int .i64 0,.int .i64 0,.int .i64 0,.int .u8 0,.int .u8 0,.int .u8 0,.int .u8 0,.int .u8 0,.int .u8 0,.int .u8 0,.int .u8 0,.int .u8 0,.int .u8 0,.int .u8 0,.int .u8 0,.int .u8 0,.int .u8 0,.int .u8 0,.int .u8 0,.int .i64 0,.bool false])) [],
 mv 9 21,
 qn (.a (storeF (tt 10) (tt 22) 23)) [pp 10,pp 22],
 mv 11 23]) (
 .seq (.block 0 (.seq (.reg [
 mv 25 8,
 qo 26 (.p (eqcF true false [.int .i64] (tt 25) (ii 0))) [pp 25],
 mv 27 26,
 mg 28 11 27 true,
 qg 29 (.p (eqcF true false [.int .i64] (tt 28) (ii 0))) 27 true [pp 28],
 qo 30 (.p (pickF (tt 27) (tt 29) (.c (.bool false)))) [pp 27,pp 29],
 mv 24 30]) (
 .cond (tt 24) (.seq (.reg [
 qo 4 (.p (S.get (ii 0))) [],
 qo 5 (.p (S.get (.c (.bool true)))) []]) (
 .ret)) (.seq (.seq (.reg [
 mv 32 8,
 qo 33 (.p (eqcF true false [.int .i64] (tt 32) (ii 0))) [pp 32],
 mv 31 33]) (
 .cond (tt 31) (.skip) (.reg [
 mv 34 11,
 qo 35 (.p (eqcF false false [.int .i64] (tt 34) (ii 0))) [pp 34],
 mv 36 35,
 mg 37 9 36 true,
 mg 38 6 36 true,
 qg 39 (.p (arF .gtr (tt 37) (tt 38))) 36 true [pp 37,pp 38],
 qo 40 (.p (pickF (tt 36) (tt 39) (.c (.bool false)))) [pp 36,pp 39],
 mv 31 40]))) (
 .cond (tt 31) (.seq (.reg [
 qo 4 (.p (S.get (ii 1))) [],
 qo 5 (.p (S.get (.c (.bool false)))) []]) (
 .ret)) (.skip)))))) (
 .seq (.reg [
 qo 4 (.p (S.get (ii 0))) [],
 qo 5 (.p (S.get (.c (.bool false)))) []]) (
 .ret)))))⟩
theorem c222_eq:fnOf Tryz.prog 222=some c222:=by kernel_rfl
structure SRow (row:List V):Prop where
 len:row.length=23
 thin:Thin row
 put:Go.Am.put zrow 0 row=some row
theorem SRow.z:SRow zrow:=⟨rfl,s_thin 0 0 0 0 0 (List.replicate 16 0) 0 false,put_z⟩
theorem SRow.s {S:List Nat} (hS:S.length=16) (id me m s r c:Int) (g:Bool):SRow (scells id me m s r S c g):=⟨s_len hS _ _ _ _ _ _ _,s_thin _ _ _ _ _ _ _ _,put_s hS _ _ _ _ _ _ _⟩
theorem SRow.width {row:List V} (h:SRow row):width row=23:=by rw[width_thin h.thin,h.len]
noncomputable def numOf (B:Nat):Nat:=if getE B=0 then sealN B else 0
theorem gSt_len (B:Nat):(gSt B).length=16:=stl_len _ _ _
theorem sgr_ok (H:Heap) (B:Nat) {lf:Nat} (hlf:60 < lf) (n:Nat):ret (callS Tryz.prog S0 lf (n+5) 239 [.blk B] H) fun v H'=>Turns Z H H'∧∃ row,v=.tuple [.int .u64 ((numOf B:Nat):Int),.agg row,.int .i64 (getE B)]∧SRow row∧(getE B=0→V.agg row=gSup B):=by
 refine(sgf_ok H B hlf n).mono ?_
 rintro v H' ⟨t,⟨hE,rfl⟩ | ⟨hE,rfl⟩⟩
 ·exact⟨t,zrow,by unfold numOf;rw[if_neg hE];rfl,SRow.z,fun h=>absurd h hE⟩
 ·exact⟨t,scells (fld B 0 8) (fld B 13 1) (fld B 8 1) (fld B 9 2) (fld B 11 2) (gSt B) (fld B 18 2) (((fld B 20 1:Nat):Int)==1),by unfold numOf;rw[if_pos hE,hE];rfl,SRow.s (gSt_len B) _ _ _ _ _ _ _,fun _=>rfl⟩
theorem SRow.new {row:List V} (h:SRow row) (H:Heap):∃ H',storeAt (H.add (.rows false 23 [zrow])) ⟨.run H.next,0⟩ row=some H'∧H'.get (.run H.next)=some (.rows false 23 [row])∧Turns Z H H'∧H'.next=H.next+1:=by
 have hg:(H.add (.rows false 23 [zrow])).get (.run H.next)=some (.rows false 23 [zrow]):=by rw[Heap.get_add,if_pos rfl]
 exact⟨_,storeAt_eq hg (r:=zrow) (r':=row) rfl h.put,by rw[Heap.get_set,if_pos rfl];rfl,(Turns.add Z H _).setnew (Nat.le_refl _) _,by simp⟩
noncomputable def newW (A B:Nat):Option Nat:=
 if getE A≠0∧getE B≠0 then none else if getE A≠0∨(getE B=0∧numOf A < numOf B) then some 1 else some 0
theorem newest_ok (H:Heap) (A B:Nat) {lf:Nat} (hlf:60 < lf) (n:Nat):ret (callS Tryz.prog S0 lf (n+6) 222 [.blk A,.blk B] H) fun v H'=>Turns Z H H' ∧
  ((newW A B=none∧v=.tuple [.int .i64 0,.bool true])∨(newW A B=some 1∧v=.tuple [.int .i64 1,.bool false])∨(newW A B=some 0∧v=.tuple [.int .i64 0,.bool false])):=by
 have t1:=Turns.add Z H (.rows false 64 [[.blk A]])
 have hg1:(H.add (.rows false 64 [[.blk A]])).get (.run H.next)=some (.rows false 64 [[.blk A]]):=by rw[Heap.get_add,if_pos rfl]
 have t2:=t1.addm (.rows false 64 [[.blk B]])
 have hgA:((H.add (.rows false 64 [[.blk A]])).add (.rows false 64 [[.blk B]])).get (.run H.next)=some (.rows false 64 [[.blk A]]):=by
  rw[Heap.get_add,if_neg (run_ne (by simp)),hg1]
 have hgB:((H.add (.rows false 64 [[.blk A]])).add (.rows false 64 [[.blk B]])).get (.run (H.next+1))=some (.rows false 64 [[.blk B]]):=by
  rw[Heap.get_add,if_pos (by simp)]
 have hn:((H.add (.rows false 64 [[.blk A]])).add (.rows false 64 [[.blk B]])).next=H.next+2:=by simp
 generalize hH2:(H.add (.rows false 64 [[.blk A]])).add (.rows false 64 [[.blk B]])=H2 at *
 have lA:loadAt H2 ⟨.run H.next,0⟩ 64=some [.blk A]:=by rw[loadAt_eq hgA rfl];exact Dp _ _
 obtain⟨v1,H3,e1,t3,r1,rfl,R1,_⟩:=sgr_ok H2 A hlf n
 obtain⟨H4,s4,_,t4,_⟩:=R1.new H3
 have hgB4:H4.get (.run (H.next+1))=some (.rows false 64 [[.blk B]]):=((t3.trans t4).same (.run (H.next+1)) (by show _ < _;omega) id).trans hgB
 have lB:loadAt H4 ⟨.run (H.next+1),0⟩ 64=some [.blk B]:=by rw[loadAt_eq hgB4 rfl];exact Dp _ _
 obtain⟨v2,H5,e2,t5,r2,rfl,R2,_⟩:=sgr_ok H4 B hlf n
 obtain⟨H6,s6,_,t6,_⟩:=R2.new H5
 have tt:Turns Z H H6:=(((t2.trans t3).trans t4).trans t5).trans t6
 have w1:=R1.width
 have w2:=R2.width
 have hzr:zrow=[.int .u64 0,.int .i64 0,.int .i64 0,.int .i64 0,.int .i64 0,.int .u8 0,.int .u8 0,.int .u8 0,.int .u8 0,.int .u8 0,.int .u8 0,.int .u8 0,.int .u8 0,.int .u8 0,.int .u8 0,.int .u8 0,.int .u8 0,.int .u8 0,.int .u8 0,.int .u8 0,.int .u8 0,.int .i64 0,.bool false]:=rfl
 obtain⟨K4,hK4⟩:∃ K,H3.add (.rows false 23 [zrow])=K:=⟨_,rfl⟩
 obtain⟨K6,hK6⟩:∃ K,H5.add (.rows false 23 [zrow])=K:=⟨_,rfl⟩
 rw[hK4] at s4
 rw[hK6] at s6
 rw[hzr] at hK4 hK6
 unfold newW
 generalize getE A=eA at *
 generalize getE B=eB at *
 generalize numOf A=nA at *
 generalize numOf B=nB at *
 refine ret_call rfl c222_eq ?_
 by_cases hA:eA=0
 ·have bA:(eA==0)=true:=by simpa using hA
  by_cases hB:eB=0
  ·have bB:(eB==0)=true:=by simpa using hB
   by_cases hlt:nA < nB
   ·have hlt':(nA:Int) < (nB:Int):=by omega
    simp only[c222,hH2,lA,e1,hK4,s4,w1,lB,e2,hK6,s6,w2,bA,bB,hlt',sy,tup,↓reduceIte,zA,zG,zC,zD,zF,zE,zB,zH,reduceCtorEq]
    exact⟨trivial,.inr trivial,_,rfl,tt,.inr (.inl ⟨by simp[hA,hB,hlt],rfl⟩)⟩
   ·have hlt':¬ (nA:Int) < (nB:Int):=by omega
    simp only[c222,hH2,lA,e1,hK4,s4,w1,lB,e2,hK6,s6,w2,bA,bB,hlt',sy,tup,↓reduceIte,zA,zG,zC,zD,zF,zE,zB,zH,reduceCtorEq]
    exact⟨trivial,.inr trivial,_,rfl,tt,.inr (.inr ⟨by simp[hA,hB,hlt],rfl⟩)⟩
  ·have bB:(eB==0)=false:=by simpa using hB
   simp only[c222,hH2,lA,e1,hK4,s4,w1,lB,e2,hK6,s6,w2,bA,bB,sy,tup,↓reduceIte,zA,zG,zC,zD,zF,zE,zB,zH,reduceCtorEq]
   exact⟨trivial,.inr trivial,_,rfl,tt,.inr (.inr ⟨by simp[hA,hB],rfl⟩)⟩
 ·have bA:(eA==0)=false:=by simpa using hA
  by_cases hB:eB=0
  ·have bB:(eB==0)=true:=by simpa using hB
   simp only[c222,hH2,lA,e1,hK4,s4,w1,lB,e2,hK6,s6,w2,bA,bB,sy,tup,↓reduceIte,zA,zG,zC,zD,zF,zE,zB,zH,reduceCtorEq]
   exact⟨trivial,.inr trivial,_,rfl,tt,.inr (.inl ⟨by simp[hA,hB],rfl⟩)⟩
  ·have bB:(eB==0)=false:=by simpa using hB
   simp only[c222,hH2,lA,e1,hK4,s4,w1,lB,e2,hK6,s6,w2,bA,bB,sy,tup,↓reduceIte,zA,zG,zC,zD,zF,zE,zB,zH,reduceCtorEq]
   exact⟨trivial,.inr trivial,_,rfl,tt,.inl ⟨by simp[hA,hB],rfl⟩⟩
noncomputable def newC (A B:Nat):Option Nat:=(newW A B).map fun w=>if w=1 then B else A
end Go.Proofs.YtabebpemfinejaaGreat.draft
namespace Go.Proofs.YtabebpemfinejaaGreat.draft
open Go.Am
structure GeoAt (H:Heap) (b:Bk) (m s r:Int):Prop where
 own:H.get b=some (.rows false 3 [[.int .i64 m,.int .i64 s,.int .i64 r]])
theorem GeoAt.m {H:Heap} {b:Bk} {m s r:Int} (h:GeoAt H b m s r):loadAt H ⟨b,0⟩ 1=some [.int .i64 m]:=by rw[loadAt_eq h.own rfl];rfl
theorem GeoAt.s {H:Heap} {b:Bk} {m s r:Int} (h:GeoAt H b m s r):loadAt H ⟨b,1⟩ 1=some [.int .i64 s]:=by rw[loadAt_eq h.own rfl];rfl
theorem GeoAt.r {H:Heap} {b:Bk} {m s r:Int} (h:GeoAt H b m s r):loadAt H ⟨b,2⟩ 1=some [.int .i64 r]:=by rw[loadAt_eq h.own rfl];rfl
def fits (N:Nat) (sec:Int→Int) (m s r:Int):Prop:=(N:Int)=m+1∧r+10≤sec m∧∀ d,0≤d∧d < m→s+2≤sec d
end Go.Proofs.YtabebpemfinejaaGreat.draft
namespace Go.Proofs.YtabebpemfinejaaGreat.disk
open Go.Am
theorem bdevs {H:Heap} {b ds:Bk} {so:Nat} {l:List Dv} {B:Bn} (h:BRep H b ds so l B) (hl:l≠[]) (lf m:Nat):callS Tryz.prog S0 lf (m+2) 46 [.ptr (some ⟨b,0⟩)] H=some (.v (.int .i64 (l.length:Int)),H):=by
 have e1:=bnone h.at' hl lf m
 have l0:=bload0 h.at'
 obtain⟨v,H',e,rfl,rfl⟩:ret (callS Tryz.prog S0 lf (m+2) 46 [.ptr (some ⟨b,0⟩)] H) fun v H'=>v=.int .i64 (l.length:Int)∧H'=H:=by
  refine ret_call rfl c46_eq ?_
  simp only[c46,e1,l0,sy,tup,↓reduceIte,zA,zG,zC,zD,zF,zE,zB,zH,reduceCtorEq]
  exact⟨trivial,.inr trivial,_,rfl,rfl,trivial⟩
 exact e
end Go.Proofs.YtabebpemfinejaaGreat.disk
namespace Go.Proofs.YtabebpemfinejaaGreat.draft
open Go.Am
def fitsC (N:Nat) (sec:Int→Int) (C:Nat):Prop:=fits N sec (fld C 8 1) (fld C 9 2) (fld C 11 2)
open Classical in
noncomputable def gC (B:disk.Bn) (N:Nat) (d:Int):Option Nat:=
 if d < 0∨(N:Int) - 1≤d then none else if B.rc d 0≠0∨B.rc d 1≠0 then none else match newC (B.read d 0) (B.read d 1) with
  | none=>none
  | some C=>if sealN C≤2305843009213693952∧fitsC N B.sectors C then some C else none
end Go.Proofs.YtabebpemfinejaaGreat.draft
namespace Go.Proofs.YtabebpemfinejaaGreat.disk
open Go.Am
open Classical in
noncomputable def pick {α:Type} (p:α→Prop):Option α:=if h:∃ x,p x then some (Classical.choose h) else none
theorem pick_some {α:Type} {p:α→Prop} {x:α} (h:pick p=some x):p x:=by
 unfold pick at h
 split at h
 ·rename_i hx;cases h;exact Classical.choose_spec hx
 ·cases h
theorem pick_eq {α:Type} {p:α→Prop} {x:α} (h:p x) (u:∀ y,p y→y=x):pick p=some x:=by
 unfold pick
 rw[dif_pos ⟨x,h⟩]
 exact congrArg some (u _ (Classical.choose_spec ⟨x,h⟩))
def encDev (D:Dev):V:=.tuple [.tuple (D.S.map .blk),.tuple (D.L.map fun w=>.tuple [.int .i64 w.1,.blk w.2]),.bool D.dead]
def encB (r:Bool) (B:Bn):V:=.tuple [.bool r,.tuple (B.l.map encDev),.int .i64 B.st,.int .i64 B.ar,.bool B.dk]
theorem map_inj {α β:Type} {f:α→β} (hf:∀ x y,f x=f y→x=y):∀ {l l':List α},l.map f=l'.map f→l=l'
 | [],[],_=>rfl
 | a::l,b::l',h=>by
  simp only[List.map_cons,List.cons.injEq] at h
  rw[hf _ _ h.1,map_inj hf h.2]
 | [],_::_,h=>by simp at h
 | _::_,[],h=>by simp at h
theorem encDev_inj (D D':Dev) (h:encDev D=encDev D'):D=D':=by
 obtain⟨S,L,d⟩:=D
 obtain⟨S',L',d'⟩:=D'
 simp only[encDev,V.tuple.injEq,List.cons.injEq,V.bool.injEq,and_true] at h
 obtain⟨h1,h2,h3⟩:=h
 have e1:=map_inj (fun x y h=>V.blk.inj h) h1
 have e2:=map_inj (fun x y h=>by
  simp only[V.tuple.injEq,List.cons.injEq,V.int.injEq,V.blk.injEq,true_and,and_true] at h
  exact Prod.ext (by omega) h.2) h2
 rw[e1,e2,h3]
theorem encB_inj {r r':Bool} {B B':Bn} (h:encB r B=encB r' B'):r=r'∧B=B':=by
 obtain⟨l,st,ar,dk⟩:=B
 obtain⟨l',st',ar',dk'⟩:=B'
 simp only[encB,V.tuple.injEq,List.cons.injEq,V.bool.injEq,V.int.injEq,true_and,and_true] at h
 obtain⟨h0,h1,h2,h3,h4⟩:=h
 exact⟨h0,by rw[map_inj encDev_inj h1,h2,h3,h4]⟩
def bx (r:Bool) (B:Bn):Am.Obj:=.box (encB r B)
theorem bx_inj {r r':Bool} {B B':Bn} (h:some (bx r B)=some (bx r' B')):r=r'∧B=B':=encB_inj (by simpa [bx] using h)
def A1 (v:V):Prop:=∃ r B,v=encB r B
def R1:RepT:=fun v H b F=>∃ r B ds so l,v=encB r B∧Rep r H b ds so l B∧F=BFoot b ds l
theorem DevAt.regq {H H':Heap} (hn:H'.next=H.next) (hg:H'.get=H.get) {b:Bk} {y:Lay} {D:Dev} (h:DevAt H b y D):DevAt H' b y D:=
 ⟨by rw[hg];exact h.own,by rw[hg];exact h.sure,h.nil,fun e=>by rw[hg];exact h.loose e,⟨(Heap.old_iff hn b).2 h.old.1,(Heap.old_iff hn _).2 h.old.2.1,fun e=>(Heap.old_iff hn _).2 (h.old.2.2 e)⟩,h.ne⟩
theorem DvsAt.regq {H H':Heap} (hn:H'.next=H.next) (hg:H'.get=H.get) {b ds:Bk} {so:Nat} {l:List Dv} {r1 r2 r3:V} (h:DvsAt H b ds so l r1 r2 r3):DvsAt H' b ds so l r1 r2 r3:=
 ⟨by rw[hg];exact h.own,by rw[hg];exact h.ptrs,fun i hi=>(h.dev i hi).regq hn hg,h.sep,⟨(Heap.old_iff hn b).2 h.old.1,(Heap.old_iff hn _).2 h.old.2⟩,h.ne,h.out⟩
theorem ok1:RepOk A1 R1:=by
 refine⟨?_,?_,?_⟩
 ·rintro v H b F _ ⟨r,B,ds,so,l,_,_,rfl⟩
  exact .inl rfl
 ·rintro v H b F c _ ⟨r,B,ds,so,l,_,h,rfl⟩ hc
  exact h.foot_old c hc
 ·rintro v H H' b F _ ⟨r,B,ds,so,l,rfl,h,rfl⟩ hs hn
  refine⟨r,B,ds,so,l,rfl,?_,rfl⟩
  have h0:Rep r ⟨H.m,H.next,H.a,[(none,some Am.undef)]⟩ b ds so l B:=⟨DvsAt.regq (H:=H) (H':=⟨H.m,H.next,H.a,[(none,some Am.undef)]⟩) rfl (by funext c;cases c<;>rfl) h.row,h.map⟩
  refine h0.turnsX (X:=fun c=>¬ BFoot b ds l c) ⟨hn,fun c _ hc=>?_,fun q=>?_⟩ (fun c hc hn=>hn hc)
  ·have hc:BFoot b ds l c:=Classical.byContradiction hc
   rw[hs c hc]
   cases c<;>rfl
  ·have:=q (none,some Am.undef) (List.mem_cons_self ..)
   cases this
structure Fit (B:Bn):Prop where
 ne:B.l≠[]
 le:B.l.length≤17
 good:∀ D ∈ B.l,Good D
 ar:0≤B.ar∧B.ar≤9223372036854775807
 st:0≤B.st∧B.st≤100000
theorem Bok.fit {k:Nat} {B:Bn} (h:Bok k B) (hk:k≤900) (ne:B.l≠[]) (le:B.l.length≤17):Fit B:=⟨ne,le,h.good hk,h.ar,by have:=h.st;omega⟩
abbrev Rel:=List V→Heap→Rs × Heap→Prop
noncomputable def relRow (p:Rel):List V→Heap→Option (Rs × Heap):=fun args G=>pick (p args G)
noncomputable abbrev Low (lf D:Nat):CallT:=callS Tryz.prog S0 lf D
section
variable {r:Bool} {G H:Heap} (u:Under A1 R1 G H) {b:Bk} {B:Bn}
include u
theorem opened (h:G.get b=some (bx r B)):∃ F ds so l,Cov A1 R1 F G H∧Rep r H b ds so l B∧F b=BFoot b ds l:=by
 obtain⟨F,c⟩:=u.ex
 obtain⟨r',B',ds,so,l,e,hR,hF⟩:=c.abs b _ h ⟨r,B,rfl⟩
 obtain⟨rfl,rfl⟩:=encB_inj e
 exact⟨F,ds,so,l,c,hR,hF⟩
theorem asked (K:Nat) {H1:Heap} (t:Turns Z H H1) (hK:H1.next≤H.next+K):Under A1 R1 (G.skip K) (H1.pad (H.next+K)):=u.pure ok1 t hK
theorem turned {F:Bk→Bk→Prop} {ds:Bk} {so:Nat} {l l':List Dv} {B':Bn} {H1:Heap} (c:Cov A1 R1 F G H) (h:G.get b=some (bx r B)) (hF:F b=BFoot b ds l) (k:RNext r H b ds so l H1 l' B') (K:Nat) (hK:H1.next≤H.next+K):Under A1 R1 ((G.set b (bx r B')).skip K) (H1.pad (H.next+K)):=
 u.op ok1 c h ⟨r,B,rfl⟩ ⟨r,B',rfl⟩ (F':=BFoot b ds l') ⟨r,B',ds,so,l',rfl,k.rep,rfl⟩ (fun d hd=>by rw[hF];exact k.foot d hd) (by rw[hF];exact k.turns) hK
theorem made {P:List Int} {ds:Bk} {l:List Dv} {H1:Heap} (hR:Rep r H1 (.run H.next) ds 1 l (newB P)) (hN:∀ c,BFoot (.run H.next) ds l c→¬ H.Old c) (t:Turns Z H H1) (K:Nat) (hK:H1.next≤H.next+K) (hK1:1≤K):Under A1 R1 ((G.add (bx r (newB P))).skip (K - 1)) (H1.pad (H.next+K)):=
 u.made ok1 ⟨r,newB P,rfl⟩ (F':=BFoot (.run H.next) ds l) ⟨r,newB P,ds,1,l,rfl,hR,rfl⟩ hN t hK hK1
theorem picks_low {pp:Option Ptr} {P:List Int} (h:PicksAt G pp P Z):PicksAt H pp P Z:=⟨fun e=>by
 obtain⟨x,ox,ro,rows,h1,h2,h3,h4,h5⟩:=h.has e
 exact⟨x,ox,ro,rows,h1,(Heap.old_iff u.next x).1 h2,h3,u.con h4 (veil_rows _ _ _),h5⟩⟩
end
theorem picks_uniq {G:Heap} {pp:Option Ptr} {P P':List Int} (h:PicksAt G pp P Z) (h':PicksAt G pp P' Z) (hl:P.length=P'.length):P=P':=by
 apply List.ext_getElem hl
 intro i h1 h2
 obtain⟨x,ox,ro,rows,e1,_,_,e4,e5⟩:=h.has (fun e=>by rw[e] at h1;simp at h1)
 obtain⟨x',ox',ro',rows',e1',_,_,e4',e5'⟩:=h'.has (fun e=>by rw[e] at h2;simp at h2)
 rw[e1] at e1';cases e1'
 rw[e4] at e4';cases e4'
 have:=(e5 i h1).symm.trans (e5' i h2)
 simpa using this
def wRead (K:Nat):Rel:=fun args G r=>∃(b:Bk) (d:Int) (n:Int) (B:Bn),args=[.ptr (some ⟨b,0⟩),.int .i64 d,.int .i64 n]∧G.get b=some (bx false B)∧Fit B∧r=(.v (.tuple [.blk (B.read d n),.int .i64 (B.rc d n)]),G.skip K)
theorem tRead {lf:Nat} (hlf:1000 < lf) (D K:Nat):RowTold A1 R1 (Low lf (D+4)) K (127,relRow (wRead K)):=by
 intro args G r G' h H u
 obtain⟨b,d,n,B,rfl,hb,hf,e⟩:=pick_some h
 cases e
 obtain⟨F,ds,so,l,c,hR,hF⟩:=opened u hb
 have hl:l≠[]:=fun e=>hf.ne (List.length_eq_zero_iff.1 (by rw[← hR.len,e];rfl))
 obtain⟨v,H1,e1,rfl,t⟩:=bread_all hR hl hf.good d n hlf D
 exact⟨_,H1,rfl,e1,fun hK=>asked u K t hK⟩
theorem uRead {K:Nat} {G:Heap} {b:Bk} {B:Bn} (hb:G.get b=some (bx false B)) (hf:Fit B) (d:Int) (n:Int):relRow (wRead K) [.ptr (some ⟨b,0⟩),.int .i64 d,.int .i64 n] G=some (.v (.tuple [.blk (B.read d n),.int .i64 (B.rc d n)]),G.skip K):=
 pick_eq ⟨b,d,n,B,rfl,hb,hf,rfl⟩ (by
  rintro q ⟨b',d',n',B',ha,hb',_,rfl⟩
  cases ha
  rw[hb] at hb'
  obtain⟨_,rfl⟩:=bx_inj hb'
  rfl)
def wSure (K:Nat):Rel:=fun args G r=>∃(b:Bk) (d:Int) (n:Int) (B:Bn),args=[.ptr (some ⟨b,0⟩),.int .i64 d,.int .i64 n]∧G.get b=some (bx false B)∧Fit B∧r=(.v (.tuple [.blk (B.sure d n),.int .i64 (B.uc d n)]),G.skip K)
theorem tSure {lf:Nat} (hlf:1000 < lf) (D K:Nat):RowTold A1 R1 (Low lf (D+4)) K (17,relRow (wSure K)):=by
 intro args G r G' h H u
 obtain⟨b,d,n,B,rfl,hb,hf,e⟩:=pick_some h
 cases e
 obtain⟨F,ds,so,l,c,hR,hF⟩:=opened u hb
 have hl:l≠[]:=fun e=>hf.ne (List.length_eq_zero_iff.1 (by rw[← hR.len,e];rfl))
 obtain⟨v,H1,e1,rfl,t⟩:=bsure_all hR hl hf.good d n lf D
 exact⟨_,H1,rfl,e1,fun hK=>asked u K t hK⟩
def wSectors (K:Nat):Rel:=fun args G r=>∃(b:Bk) (d:Int) (B:Bn),args=[.ptr (some ⟨b,0⟩),.int .i64 d]∧G.get b=some (bx false B)∧Fit B∧r=(.v (.int .i64 (B.sectors d)),G.skip K)
theorem tSectors {lf:Nat} (hlf:1000 < lf) (D K:Nat):RowTold A1 R1 (Low lf (D+3)) K (48,relRow (wSectors K)):=by
 intro args G r G' h H u
 obtain⟨b,d,B,rfl,hb,hf,e⟩:=pick_some h
 cases e
 obtain⟨F,ds,so,l,c,hR,hF⟩:=opened u hb
 have hl:l≠[]:=fun e=>hf.ne (List.length_eq_zero_iff.1 (by rw[← hR.len,e];rfl))
 exact⟨_,H,rfl,bsectors_all hR hl hf.good d lf D,fun hK=>asked u K (Turns.refl Z H) hK⟩
theorem uSectors {K:Nat} {G:Heap} {b:Bk} {B:Bn} (hb:G.get b=some (bx false B)) (hf:Fit B) (d:Int):relRow (wSectors K) [.ptr (some ⟨b,0⟩),.int .i64 d] G=some (.v (.int .i64 (B.sectors d)),G.skip K):=
 pick_eq ⟨b,d,B,rfl,hb,hf,rfl⟩ (by
  rintro q ⟨b',d',B',ha,hb',_,rfl⟩
  cases ha
  rw[hb] at hb'
  obtain⟨_,rfl⟩:=bx_inj hb'
  rfl)
def wDevices (K:Nat):Rel:=fun args G r=>∃(b:Bk) (B:Bn),args=[.ptr (some ⟨b,0⟩)]∧G.get b=some (bx false B)∧Fit B∧r=(.v (.int .i64 (B.l.length:Int)),G.skip K)
theorem tDevices {lf:Nat} (hlf:1000 < lf) (D K:Nat):RowTold A1 R1 (Low lf (D+2)) K (46,relRow (wDevices K)):=by
 intro args G r G' h H u
 obtain⟨b,B,rfl,hb,hf,e⟩:=pick_some h
 cases e
 obtain⟨F,ds,so,l,c,hR,hF⟩:=opened u hb
 have hl:l≠[]:=fun e=>hf.ne (List.length_eq_zero_iff.1 (by rw[← hR.len,e];rfl))
 exact⟨_,H,rfl,(by rw[← hR.len];exact bdevs hR hl lf D),fun hK=>asked u K (Turns.refl Z H) hK⟩
theorem uDevices {K:Nat} {G:Heap} {b:Bk} {B:Bn} (hb:G.get b=some (bx false B)) (hf:Fit B):relRow (wDevices K) [.ptr (some ⟨b,0⟩)] G=some (.v (.int .i64 (B.l.length:Int)),G.skip K):=
 pick_eq ⟨b,B,rfl,hb,hf,rfl⟩ (by
  rintro q ⟨b',B',ha,hb',_,rfl⟩
  cases ha
  rw[hb] at hb'
  obtain⟨_,rfl⟩:=bx_inj hb'
  rfl)
def wWrite (K:Nat):Rel:=fun args G r=>∃(b:Bk) (d:Int) (n:Int) (x:Nat) (B:Bn),args=[.ptr (some ⟨b,0⟩),.int .i64 d,.int .i64 n,.blk x]∧G.get b=some (bx false B)∧Fit B∧r=(.v (.int .i64 (B.wc d n)),(G.set b (bx false (B.write d n x))).skip K)
theorem tWrite {lf:Nat} (hlf:1000 < lf) (D K:Nat):RowTold A1 R1 (Low lf (D+6)) K (67,relRow (wWrite K)):=by
 intro args G r G' h H u
 obtain⟨b,d,n,x,B,rfl,hb,hf,e⟩:=pick_some h
 cases e
 obtain⟨F,ds,so,l,c,hR,hF⟩:=opened u hb
 have hl:l≠[]:=fun e=>hf.ne (List.length_eq_zero_iff.1 (by rw[← hR.len,e];rfl))
 obtain⟨v,H1,e1,rfl,l',k⟩:=bwrite_all hR hl hf.good hf.ar hf.st d n x hlf D
 exact⟨_,H1,rfl,e1,fun hK=>turned u c hb hF k K hK⟩
theorem uWrite {K:Nat} {G:Heap} {b:Bk} {B:Bn} (hb:G.get b=some (bx false B)) (hf:Fit B) (d:Int) (n:Int) (x:Nat):relRow (wWrite K) [.ptr (some ⟨b,0⟩),.int .i64 d,.int .i64 n,.blk x] G=some (.v (.int .i64 (B.wc d n)),(G.set b (bx false (B.write d n x))).skip K):=
 pick_eq ⟨b,d,n,x,B,rfl,hb,hf,rfl⟩ (by
  rintro q ⟨b',d',n',x',B',ha,hb',_,rfl⟩
  cases ha
  rw[hb] at hb'
  obtain⟨_,rfl⟩:=bx_inj hb'
  rfl)
def wFlush (K:Nat):Rel:=fun args G r=>∃(b:Bk) (d:Int) (B:Bn),args=[.ptr (some ⟨b,0⟩),.int .i64 d]∧G.get b=some (bx false B)∧Fit B∧r=(.v (.int .i64 (B.wc d 0)),(G.set b (bx false (B.flush d))).skip K)
theorem tFlush {lf:Nat} (hlf:1000 < lf) (D K:Nat):RowTold A1 R1 (Low lf (D+5)) K (116,relRow (wFlush K)):=by
 intro args G r G' h H u
 obtain⟨b,d,B,rfl,hb,hf,e⟩:=pick_some h
 cases e
 obtain⟨F,ds,so,l,c,hR,hF⟩:=opened u hb
 have hl:l≠[]:=fun e=>hf.ne (List.length_eq_zero_iff.1 (by rw[← hR.len,e];rfl))
 obtain⟨v,H1,e1,rfl,l',k⟩:=bflush_all hR hl hf.good hf.ar hf.st d hlf D
 exact⟨_,H1,rfl,e1,fun hK=>turned u c hb hF k K hK⟩
theorem uFlush {K:Nat} {G:Heap} {b:Bk} {B:Bn} (hb:G.get b=some (bx false B)) (hf:Fit B) (d:Int):relRow (wFlush K) [.ptr (some ⟨b,0⟩),.int .i64 d] G=some (.v (.int .i64 (B.wc d 0)),(G.set b (bx false (B.flush d))).skip K):=
 pick_eq ⟨b,d,B,rfl,hb,hf,rfl⟩ (by
  rintro q ⟨b',d',B',ha,hb',_,rfl⟩
  cases ha
  rw[hb] at hb'
  obtain⟨_,rfl⟩:=bx_inj hb'
  rfl)
def wFail (K:Nat):Rel:=fun args G r=>∃(b:Bk) (d:Int) (B:Bn),args=[.ptr (some ⟨b,0⟩),.int .i64 d]∧G.get b=some (bx false B)∧Fit B∧r=(.v (.int .i64 (B.tc d)),(G.set b (bx false (B.fail d))).skip K)
theorem tFail {lf:Nat} (hlf:1000 < lf) (D K:Nat):RowTold A1 R1 (Low lf (D+3)) K (13,relRow (wFail K)):=by
 intro args G r G' h H u
 obtain⟨b,d,B,rfl,hb,hf,e⟩:=pick_some h
 cases e
 obtain⟨F,ds,so,l,c,hR,hF⟩:=opened u hb
 have hl:l≠[]:=fun e=>hf.ne (List.length_eq_zero_iff.1 (by rw[← hR.len,e];rfl))
 obtain⟨v,H1,e1,rfl,l',k⟩:=bfail_all hR hl hf.good d lf D
 exact⟨_,H1,rfl,e1,fun hK=>turned u c hb hF k K hK⟩
theorem uFail {K:Nat} {G:Heap} {b:Bk} {B:Bn} (hb:G.get b=some (bx false B)) (hf:Fit B) (d:Int):relRow (wFail K) [.ptr (some ⟨b,0⟩),.int .i64 d] G=some (.v (.int .i64 (B.tc d)),(G.set b (bx false (B.fail d))).skip K):=
 pick_eq ⟨b,d,B,rfl,hb,hf,rfl⟩ (by
  rintro q ⟨b',d',B',ha,hb',_,rfl⟩
  cases ha
  rw[hb] at hb'
  obtain⟨_,rfl⟩:=bx_inj hb'
  rfl)
def wRDevices (K:Nat):Rel:=fun args G r=>∃(b:Bk) (B:Bn),args=[.ptr (some ⟨b,0⟩)]∧G.get b=some (bx true B)∧Fit B∧r=(.v (.int .i64 (B.l.length:Int)),G.skip K)
theorem tRDevices {lf:Nat} (hlf:1000 < lf) (D K:Nat):RowTold A1 R1 (Low lf (D+1)) K (131,relRow (wRDevices K)):=by
 intro args G r G' h H u
 obtain⟨b,B,rfl,hb,hf,e⟩:=pick_some h
 cases e
 obtain⟨F,ds,so,l,c,hR,hF⟩:=opened u hb
 have hl:l≠[]:=fun e=>hf.ne (List.length_eq_zero_iff.1 (by rw[← hR.len,e];rfl))
 exact⟨_,H,rfl,(by rw[← hR.len];exact rdevices hR lf D),fun hK=>asked u K (Turns.refl Z H) hK⟩
theorem uRDevices {K:Nat} {G:Heap} {b:Bk} {B:Bn} (hb:G.get b=some (bx true B)) (hf:Fit B):relRow (wRDevices K) [.ptr (some ⟨b,0⟩)] G=some (.v (.int .i64 (B.l.length:Int)),G.skip K):=
 pick_eq ⟨b,B,rfl,hb,hf,rfl⟩ (by
  rintro q ⟨b',B',ha,hb',_,rfl⟩
  cases ha
  rw[hb] at hb'
  obtain⟨_,rfl⟩:=bx_inj hb'
  rfl)
def wRSectors (K:Nat):Rel:=fun args G r=>∃(b:Bk) (d:Int) (B:Bn),args=[.ptr (some ⟨b,0⟩),.int .i64 d]∧G.get b=some (bx true B)∧Fit B∧r=(.v (.int .i64 (B.sectors d)),G.skip K)
theorem tRSectors {lf:Nat} (hlf:1000 < lf) (D K:Nat):RowTold A1 R1 (Low lf (D+2)) K (132,relRow (wRSectors K)):=by
 intro args G r G' h H u
 obtain⟨b,d,B,rfl,hb,hf,e⟩:=pick_some h
 cases e
 obtain⟨F,ds,so,l,c,hR,hF⟩:=opened u hb
 have hl:l≠[]:=fun e=>hf.ne (List.length_eq_zero_iff.1 (by rw[← hR.len,e];rfl))
 exact⟨_,H,rfl,rsectors hR d lf D,fun hK=>asked u K (Turns.refl Z H) hK⟩
theorem uRSectors {K:Nat} {G:Heap} {b:Bk} {B:Bn} (hb:G.get b=some (bx true B)) (hf:Fit B) (d:Int):relRow (wRSectors K) [.ptr (some ⟨b,0⟩),.int .i64 d] G=some (.v (.int .i64 (B.sectors d)),G.skip K):=
 pick_eq ⟨b,d,B,rfl,hb,hf,rfl⟩ (by
  rintro q ⟨b',d',B',ha,hb',_,rfl⟩
  cases ha
  rw[hb] at hb'
  obtain⟨_,rfl⟩:=bx_inj hb'
  rfl)
def wNew (K:Nat):Rel:=fun args G r=>∃(pp:Option Ptr) (P:List Int) (pc po:Nat),args=[.slice pp P.length pc po]∧PicksAt G pp P Z∧okSizes P∧r=(.v (.tuple [.ptr (some ⟨.run G.next,0⟩),.int .i64 0]),(G.add (bx false (newB P))).skip (K - 1))
theorem tNew {lf:Nat} (hlf:1000 < lf) (D K:Nat) (hK1:1≤K):RowTold A1 R1 (Low lf (D+2)) K (9,relRow (wNew K)):=by
 intro args G r G' h H u
 obtain⟨pp,P,pc,po,rfl,hP,hok,e⟩:=pick_some h
 cases e
 obtain⟨v,H1,e1,t,⟨hn,_⟩ | ⟨_,ds,l,rfl,hR,hN⟩⟩:=bnew_at H (picks_low u hP) hlf D (pc:=pc) (po:=po)
 ·exact absurd hok hn
 ·rw[u.next]
  exact⟨_,H1,rfl,e1,fun hK=>made u hR hN t K hK hK1⟩
theorem uNew {K:Nat} {G:Heap} {pp:Option Ptr} {P:List Int} (hP:PicksAt G pp P Z) (hok:okSizes P) (pc po:Nat):relRow (wNew K) [.slice pp P.length pc po] G=some (.v (.tuple [.ptr (some ⟨.run G.next,0⟩),.int .i64 0]),(G.add (bx false (newB P))).skip (K - 1)):=
 pick_eq ⟨pp,P,pc,po,rfl,hP,hok,rfl⟩ (by
  rintro q ⟨pp',P',pc',po',ha,hP',_,rfl⟩
  simp only[List.cons.injEq,V.slice.injEq,and_true] at ha
  obtain⟨rfl,hl,_⟩:=ha
  rw[picks_uniq hP hP' hl])
def wRNew (K:Nat):Rel:=fun args G r=>∃(pp:Option Ptr) (P:List Int) (pc po:Nat),args=[.slice pp P.length pc po]∧PicksAt G pp P Z∧okSizes P∧r=(.v (.tuple [.ptr (some ⟨.run G.next,0⟩),.int .i64 0]),(G.add (bx true (newB P))).skip (K - 1))
theorem tRNew {lf:Nat} (hlf:1000 < lf) (D K:Nat) (hK1:1≤K):RowTold A1 R1 (Low lf (D+2)) K (62,relRow (wRNew K)):=by
 intro args G r G' h H u
 obtain⟨pp,P,pc,po,rfl,hP,hok,e⟩:=pick_some h
 cases e
 obtain⟨v,H1,e1,t,⟨hn,_⟩ | ⟨_,ds,l,rfl,hR,hN⟩⟩:=rbnew_at H (picks_low u hP) hlf D (pc:=pc) (po:=po)
 ·exact absurd hok hn
 ·rw[u.next]
  exact⟨_,H1,rfl,e1,fun hK=>made u hR hN t K hK hK1⟩
theorem uRNew {K:Nat} {G:Heap} {pp:Option Ptr} {P:List Int} (hP:PicksAt G pp P Z) (hok:okSizes P) (pc po:Nat):relRow (wRNew K) [.slice pp P.length pc po] G=some (.v (.tuple [.ptr (some ⟨.run G.next,0⟩),.int .i64 0]),(G.add (bx true (newB P))).skip (K - 1)):=
 pick_eq ⟨pp,P,pc,po,rfl,hP,hok,rfl⟩ (by
  rintro q ⟨pp',P',pc',po',ha,hP',_,rfl⟩
  simp only[List.cons.injEq,V.slice.injEq,and_true] at ha
  obtain⟨rfl,hl,_⟩:=ha
  rw[picks_uniq hP hP' hl])
end Go.Proofs.YtabebpemfinejaaGreat.disk
namespace Go.Proofs.YtabebpemfinejaaGreat.draft
open Go.Am
noncomputable def c55:CFn:=⟨[.cell (pp 4) 21 .ag,.tmp (pp 5)],
 .seq (.reg [
 qo 2 (.m (boxF 21 (tt 0))) [pp 0],
 qo 4 (.m (allocF 21 [.int .i64 0,.int .i64 0,.int .i64 0,.int .u8 0,.int .u8 0,.int .u8 0,.int .u8 0,.int .u8 0,.int .u8 0,.int .u8 0,.int .u8 0,.int .u8 0,.int .u8 0,.int .u8 0,.int .u8 0,.int .u8 0,.int .u8 0,.int .u8 0,.int .u8 0,.int .i64 0,.bool false])) [],
 qo 5 (.p (S.get (.c (.bool false)))) []]) (
 .seq (.seq (.reg [
 qo 7 (.r (loadF (tt 2) 21 .ag)) [pp 2],
 mv 8 1,
 qo 9 (.c (callF (ff 117) [(tt 7),(tt 8)])) [pp 7,pp 8],
 qo 10 (.p (unF .not (tt 9))) [pp 9]]) (
 .cond (tt 10) (.seq (.reg [
 qo 11 (.r (loadF (tt 2) 21 .ag)) [pp 2],
 qn (.a (storeF (tt 4) (tt 11) 21)) [pp 4,pp 11],
 qo 5 (.p (S.get (.c (.bool false)))) []]) (
 .ret)) (.skip))) (
 .seq (.reg [
 mv 12 1,
 qo 13 (.p (faddrF (tt 2) 3)) [pp 2],
 qo 14 (.p (iaddrAF (tt 13) (tt 12) 16 1)) [pp 13,pp 12],
 qo 15 (.r (loadF (tt 14) 1 .sc)) [pp 14],
 mv 6 15]) (
 .seq (.seq (.reg [
 mv 16 6,
 qo 17 (.p (eqcF false false [.int .u8] (tt 16) (.c (.int .u8 2)))) [pp 16]]) (
 .cond (tt 17) (.reg [
 qo 18 (.p (faddrF (tt 2) 19)) [pp 2],
 qn (.a (storeF (tt 18) (ii 0) 1)) [pp 18]]) (.skip))) (
 .seq (.reg [
 mv 19 1,
 qo 20 (.p (faddrF (tt 2) 3)) [pp 2],
 qo 21 (.p (iaddrAF (tt 20) (tt 19) 16 1)) [pp 20,pp 19],
 qn (.a (storeF (tt 21) (.c (.int .u8 1)) 1)) [pp 21]]) (
 .seq (.reg [
 qo 22 (.r (loadF (tt 2) 21 .ag)) [pp 2],
 mv 23 6,
 qo 24 (.p (eqcF true false [.int .u8] (tt 23) (.c (.int .u8 1)))) [pp 23],
 qn (.a (storeF (tt 4) (tt 22) 21)) [pp 4,pp 22],
 mv 5 24]) (
 .ret))))))⟩
theorem c55_eq:fnOf Tryz.prog 55=some c55:=by kernel_rfl
noncomputable def c117:CFn:=⟨[.tmp (pp 4)],
 .seq (.reg [
 qo 2 (.m (boxF 21 (tt 0))) [pp 0],
 qo 4 (.p (S.get (.c (.bool false)))) []]) (
 .seq (.reg [
 qo 5 (.r (loadF (tt 2) 21 .ag)) [pp 2],
 qo 6 (.c (callF (ff 47) [(tt 5)])) [pp 5],
 mv 7 6,
 mg 8 1 7 true,
 qg 9 (.p (arF .geq (tt 8) (ii 0))) 7 true [pp 8],
 qo 10 (.p (pickF (tt 7) (tt 9) (.c (.bool false)))) [pp 7,pp 9],
 mv 11 10,
 mg 12 1 11 true,
 qg 13 (.p (faddrF (tt 2) 0)) 11 true [pp 2],
 qg 14 (.p (faddrF (tt 13) 0)) 11 true [pp 13],
 qg 15 (.r (loadF (tt 14) 1 .sc)) 11 true [pp 14],
 qg 16 (.p (arF .lss (tt 12) (tt 15))) 11 true [pp 12,pp 15],
 qo 17 (.p (pickF (tt 11) (tt 16) (.c (.bool false)))) [pp 11,pp 16],
 mv 4 17]) (
 .ret))⟩
theorem c117_eq:fnOf Tryz.prog 117=some c117:=by kernel_rfl
def loseC (S:List Nat) (c:Int) (i:Nat):Int:=if S.getD i 0=2 then 0 else c
theorem cnt_set:∀(S:List Nat) (i:Nat),i < S.length→cnt (S.set i 1) 2+(if S.getD i 0=2 then 1 else 0)=cnt S 2
 | y::S,0,_=>by
  show cnt (1::S) 2+(if y=2 then 1 else 0)=cnt (y::S) 2
  rw[cnt_cons,cnt_cons,if_neg (by decide:¬ (1:Nat)=2)]
  omega
 | y::S,i+1,h=>by
  show cnt (y::S.set i 1) 2+(if S.getD i 0=2 then 1 else 0)=cnt (y::S) 2
  have:=cnt_set S i (by simpa using h)
  rw[cnt_cons,cnt_cons]
  omega
 | [],i,h=>by simp at h
theorem lose_fine {m s r c:Int} {S:List Nat} {i:Nat} (hS:S.length=16) (h:fine m s r S c) (hi:(i:Int) < m):fine m s r (S.set i 1) (loseC S c i):=by
 obtain⟨h1,h2,h3,h4,h5,h6⟩:=h
 obtain⟨b1,b2,b3⟩:=may_t h1
 have hi16:i < S.length:=by omega
 have hc:=cnt_set S i hi16
 refine⟨h1,fun j hj x hx=>?_,?_,?_,?_,?_⟩
 ·by_cases e:j=i
  ·subst e
   rw[List.getElem?_set_self hi16] at hx
   cases hx
   exact⟨by omega,fun hm=>by omega⟩
  ·rw[List.getElem?_set_ne (Ne.symm e)] at hx
   exact h2 j hj x hx
 ·split at hc<;>omega
 ·unfold loseC;split<;>omega
 ·unfold loseC;split<;>omega
 ·unfold loseC
  by_cases e:S.getD i 0=2
  ·rw[if_pos e];exact .inr rfl
  ·rw[if_neg e] at hc ⊢
   rw[Nat.add_zero] at hc
   rw[hc];exact h6
def zro:List V:=[.int .i64 0,.int .i64 0,.int .i64 0,.int .u8 0,.int .u8 0,.int .u8 0,.int .u8 0,.int .u8 0,.int .u8 0,.int .u8 0,.int .u8 0,.int .u8 0,.int .u8 0,.int .u8 0,.int .u8 0,.int .u8 0,.int .u8 0,.int .u8 0,.int .u8 0,.int .i64 0,.bool false]
theorem put_zro {S:List Nat} (hS:S.length=16) (m s r c:Int) (g:Bool):Go.Am.put zro 0 (rcells m s r S c g)=some (rcells m s r S c g):=by
 match S,hS with
 | [_,_,_,_,_,_,_,_,_,_,_,_,_,_,_,_],_=>rfl
theorem rset_c {S:List Nat} (hS:S.length=16) (m s r c c':Int) (g:Bool):(rcells m s r S c g).set 19 (.int .i64 c')=rcells m s r S c' g:=by
 match S,hS with
 | [_,_,_,_,_,_,_,_,_,_,_,_,_,_,_,_],_=>rfl
theorem rset_s {S:List Nat} (hS:S.length=16) (m s r c:Int) (g:Bool) {i:Nat} (hi:i < 16) (x:Nat):(rcells m s r S c g).set (3+i) (.int .u8 (x:Int))=rcells m s r (S.set i x) c g:=by
 unfold rcells sts
 rw[List.set_append,if_neg (by simp),show 3+i - [V.int .i64 m,.int .i64 s,.int .i64 r].length=i from by simp,List.set_append,if_pos (by rw[List.length_map];omega)]
 simp[List.map_set]
theorem member_ok (H:Heap) {m s r c:Int} {g:Bool} {S:List Nat} (hS:S.length=16) (hf:fine m s r S c) {i:Nat} (hi:(i:Int) < m) (lf n:Nat) (hlf:17 < lf):ret (callS Tryz.prog S0 lf (n+4) 117 [ros m s r S c g,.int .i64 (i:Int)] H) fun v H'=>v=.bool true∧Turns Z H H':=by
 have t1:=Turns.add Z H (.rows false 21 [rcells m s r S c g])
 have hg:(H.add (.rows false 21 [rcells m s r S c g])).get (.run H.next)=some (.rows false 21 [rcells m s r S c g]):=by rw[Heap.get_add,if_pos rfl]
 have og:(H.add (.rows false 21 [rcells m s r S c g])).Old (.run H.next):=by show _ < _;simp
 have hr:∀ {H':Heap},Turns Z (H.add (.rows false 21 [rcells m s r S c g])) H'→RosAt H' (.run H.next) m s r S c g:=fun t=>⟨(t.same _ og id).trans hg,hS⟩
 have hw:=r_width hS m s r c g
 have la:=ros_all (hr (Turns.refl Z _))
 generalize hH1:H.add (.rows false 21 [rcells m s r S c g])=H1 at *
 obtain⟨v,H2,e2,⟨z,rfl,hz⟩,t2⟩:=pmay_ok H1 (m:=m) (s:=s) (r:=r) (c:=c) (g:=g) hS lf n hlf
 have hz:=hz.2 hf
 subst hz
 unfold ros at e2
 have lm:=ros_m (hr t2)
 have h0:(0:Int)≤(i:Int):=by omega
 refine ret_call rfl c117_eq ?_
 simp only[c117,ros,hw,hH1,la,e2,lm,h0,hi,sy,tup,↓reduceIte,zA,zG,zC,zD,zF,zE,zB,zH,reduceCtorEq]
 exact⟨trivial,.inr trivial,_,rfl,rfl,t1.trans t2⟩
theorem lose_at (H:Heap) {m s r c:Int} {g:Bool} {S:List Nat} (hS:S.length=16) (hf:fine m s r S c) {i:Nat} (hi:(i:Int) < m) (hiS:i < S.length) (lf n:Nat) (hlf:17 < lf):ret (callS Tryz.prog S0 lf (n+5) 55 [ros m s r S c g,.int .i64 (i:Int)] H) fun v H'=>v=.tuple [ros m s r (S.set i 1) (loseC S c i) g,.bool (!(((S[i]:Nat):Int)==1))]∧Turns Z H H':=by
 obtain⟨bm,bs,br⟩:=may_t hf.1
 have hi16:i < 16:=by omega
 have t1:=Turns.add Z H (.rows false 21 [rcells m s r S c g])
 have t2:=t1.addm (.rows false 21 [zro])
 have hg1:(H.add (.rows false 21 [rcells m s r S c g])).get (.run H.next)=some (.rows false 21 [rcells m s r S c g]):=by rw[Heap.get_add,if_pos rfl]
 have hg2:((H.add (.rows false 21 [rcells m s r S c g])).add (.rows false 21 [zro])).get (.run H.next)=some (.rows false 21 [rcells m s r S c g]):=by
  rw[Heap.get_add,if_neg (run_ne (by simp)),hg1]
 have hg3:((H.add (.rows false 21 [rcells m s r S c g])).add (.rows false 21 [zro])).get (.run (H.next+1))=some (.rows false 21 [zro]):=by
  rw[Heap.get_add,if_pos (by simp)]
 have hn:((H.add (.rows false 21 [rcells m s r S c g])).add (.rows false 21 [zro])).next=H.next+2:=by simp
 have hw:=r_width hS m s r c g
 generalize hH2:(H.add (.rows false 21 [rcells m s r S c g])).add (.rows false 21 [zro])=H2 at *
 have la:=ros_all (H:=H2) ⟨hg2,hS⟩
 obtain⟨v3,H3,e3,rfl,t3⟩:=member_ok H2 (m:=m) (s:=s) (r:=r) (c:=c) (g:=g) hS hf hi lf n hlf
 unfold ros at e3
 have R3:RosAt H3 (.run H.next) m s r S c g:=⟨(t3.same (.run H.next) (by show _ < _;omega) id).trans hg2,hS⟩
 have hg33:H3.get (.run (H.next+1))=some (.rows false 21 [zro]):=(t3.same (.run (H.next+1)) (by show _ < _;omega) id).trans hg3
 have ls:=ros_st R3 hi16
 have hget:S.getD i 0=S[i]:=by simp[List.getD,hiS]
 have hle:i+1≤16:=hi16
 have hT3:Turns Z H H3:=t2.trans t3
 have hzro:zro=[.int .i64 0,.int .i64 0,.int .i64 0,.int .u8 0,.int .u8 0,.int .u8 0,.int .u8 0,.int .u8 0,.int .u8 0,.int .u8 0,.int .u8 0,.int .u8 0,.int .u8 0,.int .u8 0,.int .u8 0,.int .u8 0,.int .u8 0,.int .u8 0,.int .u8 0,.int .i64 0,.bool false]:=rfl
 rw[hzro] at hH2
 rw[Nat.mul_one] at ls
 have stS:∀ {K:Heap} {c':Int},K.get (.run H.next)=some (.rows false 21 [rcells m s r S c' g])→storeAt K ⟨.run H.next,3+i⟩ [.int .u8 1]=some (K.set (.run H.next) (.rows false 21 [rcells m s r (S.set i 1) c' g])):=fun {K c'} h=>by
  have:=storeAt_eq h (o:=3+i) (vs:=[.int .u8 1]) (r:=rcells m s r S c' g) (r':=rcells m s r (S.set i 1) c' g) (by rw[Nat.div_eq_of_lt (by omega)];rfl) (by rw[Nat.mod_eq_of_lt (by omega),put_one (r_thin m s r S c' g) (by rw[r_len hS];omega) rfl];exact congrArg some (rset_s hS m s r c' g hi16 1))
  rw[Nat.div_eq_of_lt (by omega)] at this
  exact this
 have fin:∀ {K:Heap} {c':Int},K.get (.run H.next)=some (.rows false 21 [rcells m s r S c' g])→K.get (.run (H.next+1))=some (.rows false 21 [zro])→Turns Z H K→∃ F,loadAt (K.set (.run H.next) (.rows false 21 [rcells m s r (S.set i 1) c' g])) ⟨.run H.next,0⟩ 21=some (rcells m s r (S.set i 1) c' g)∧storeAt (K.set (.run H.next) (.rows false 21 [rcells m s r (S.set i 1) c' g])) ⟨.run (H.next+1),0⟩ (rcells m s r (S.set i 1) c' g)=some F∧loadAt F ⟨.run (H.next+1),0⟩ 21=some (rcells m s r (S.set i 1) c' g)∧Turns Z H F:=fun {K c'} h1 h2 hT=>by
  have hS':(S.set i 1).length=16:=by simp[hS]
  have ha:(K.set (.run H.next) (.rows false 21 [rcells m s r (S.set i 1) c' g])).get (.run (H.next+1))=some (.rows false 21 [zro]):=by rw[Heap.get_set,if_neg (run_ne (by omega))];exact h2
  refine⟨_,ros_all ⟨by rw[Heap.get_set,if_pos rfl],hS'⟩,storeAt_eq ha (r:=zro) (r':=rcells m s r (S.set i 1) c' g) rfl (put_zro hS' _ _ _ _ _),ros_all ⟨by rw[Heap.get_set,if_pos rfl];rfl,hS'⟩,(hT.setnew (Nat.le_refl _) _).setnew (by omega) _⟩
 refine ret_call rfl c55_eq ?_
 by_cases h2:S[i]=2
 ·have b2:(((S[i]:Nat):Int)==2)=true:=by simp[h2]
  have hc':loseC S c i=0:=by unfold loseC;rw[hget,if_pos h2]
  rw[hc']
  have st0:storeAt H3 ⟨.run H.next,19⟩ [.int .i64 0]=some (H3.set (.run H.next) (.rows false 21 [rcells m s r S 0 g])):=by
   have:=storeAt_eq R3.own (o:=19) (vs:=[.int .i64 0]) (r:=rcells m s r S c g) (r':=rcells m s r S 0 g) rfl (by rw[put_one (r_thin m s r S c g) (by rw[r_len hS];omega) rfl,rset_c hS])
   exact this
  have gK:(H3.set (.run H.next) (.rows false 21 [rcells m s r S 0 g])).get (.run H.next)=some (.rows false 21 [rcells m s r S 0 g]):=by rw[Heap.get_set,if_pos rfl]
  have st1:=stS gK
  obtain⟨F,l1,s2,l2,tF⟩:=fin gK (by rw[Heap.get_set,if_neg (run_ne (by omega))];exact hg33) (hT3.setnew (Nat.le_refl _) _)
  have hw':=r_width (S:=S.set i 1) (by simp[hS]) m s r 0 g
  simp only[c55,ros,hw,hH2,la,e3,iaddrAF,hle,ls,b2,st0,st1,l1,s2,l2,hw',Nat.mul_one,sy,tup,↓reduceIte,zA,zG,zC,zD,zF,zE,zB,zH,reduceCtorEq]
  exact⟨trivial,.inr trivial,_,rfl,rfl,tF⟩
 ·have b2:(((S[i]:Nat):Int)==2)=false:=by simp;omega
  have hc':loseC S c i=c:=by unfold loseC;rw[hget,if_neg h2]
  rw[hc']
  have st1:=stS R3.own
  obtain⟨F,l1,s2,l2,tF⟩:=fin R3.own hg33 hT3
  have hw':=r_width (S:=S.set i 1) (by simp[hS]) m s r c g
  simp only[c55,ros,hw,hH2,la,e3,iaddrAF,hle,ls,b2,st1,l1,s2,l2,hw',Nat.mul_one,sy,tup,↓reduceIte,zA,zG,zC,zD,zF,zE,zB,zH,reduceCtorEq]
  exact⟨trivial,.inr trivial,_,rfl,rfl,tF⟩
end Go.Proofs.YtabebpemfinejaaGreat.draft
namespace Go.Proofs.YtabebpemfinejaaGreat.draft
open Go.Am
def fcells (ev id m s r:Int) (S:List Nat) (c:Int) (g:Bool):List V:=[.int .u64 ev,.int .u64 id]++rcells m s r S c g
def fnd (ev id m s r:Int) (S:List Nat) (c:Int) (g:Bool):V:=.agg (fcells ev id m s r S c g)
structure FndAt (H:Heap) (b:Bk) (ev id m s r:Int) (S:List Nat) (c:Int) (g:Bool):Prop where
 own:H.get b=some (.rows false 23 [fcells ev id m s r S c g])
 len:S.length=16
section
variable {H:Heap} {b:Bk} {ev id m s r:Int} {S:List Nat} {c:Int} {g:Bool} (h:FndAt H b ev id m s r S c g)
include h
theorem FndAt.turns {H':Heap} (t:Turns Z H H') (ho:H.Old b):FndAt H' b ev id m s r S c g:=⟨(t.same b ho (fun h=>h)).trans h.own,h.len⟩
end
def zf:List V:=fcells 0 0 0 0 0 (List.replicate 16 0) 0 false
noncomputable def evOf:Option Nat→Nat
 | none=>0
 | some C=>sealN C
noncomputable def bestC (B:disk.Bn) (N:Nat):Nat→Option Nat
 | 0=>none
 | d+1=>match gC B N d with
  | none=>bestC B N d
  | some C=>if sealN C≤evOf (bestC B N d) then bestC B N d else some C
def keepM (B:disk.Bn) (N C i:Nat):Prop:=∃ C',gC B N i=some C'∧fld C' 0 8=fld C 0 8∧(fld C' 8 1=fld C 8 1∧fld C' 9 2=fld C 9 2∧fld C' 11 2=fld C 11 2)∧fld C' 13 1=i
open Classical in
noncomputable def lostS (B:disk.Bn) (N C:Nat):Nat→List Nat × Nat
 | 0=>(gSt C,fld C 18 2)
 | i+1=>if keepM B N C i then lostS B N C i else((lostS B N C i).1.set i 1,if(lostS B N C i).1.getD i 0=2 then 0 else(lostS B N C i).2)
end Go.Proofs.YtabebpemfinejaaGreat.draft
namespace Go.Proofs.YtabebpemfinejaaGreat.draft
open Go.Am
section
variable {H:Heap} {b ds:Bk} {so:Nat} {l:List disk.Dv} {B:disk.Bn}
end
end Go.Proofs.YtabebpemfinejaaGreat.draft
namespace Go.Proofs.YtabebpemfinejaaGreat.draft
open Go.Am
section
variable {H:Heap} {b ds:Bk} {so:Nat} {l:List disk.Dv} {B:disk.Bn}
end
end Go.Proofs.YtabebpemfinejaaGreat.draft
namespace Go.Proofs.YtabebpemfinejaaGreat.draft
open Go.Am
noncomputable def foundC (B:disk.Bn) (N C:Nat):V:=fnd (sealN C) (fld C 0 8) (fld C 8 1) (fld C 9 2) (fld C 11 2) (lostS B N C (fld C 8 1)).1 ((lostS B N C (fld C 8 1)).2:Int) (((fld C 20 1:Nat):Int)==1)
end Go.Proofs.YtabebpemfinejaaGreat.draft
namespace Go.Proofs.YtabebpemfinejaaGreat.draft
open Go.Am
open disk (bx Fit A1 R1 relRow pick pick_eq pick_some Low ok1 opened asked bx_inj Rel)
def blankH:Heap:=⟨.e,0,fun _=>none,[]⟩
open Classical in
noncomputable def pureRow (call:CallT) (f:FuncId) (K:Nat):List V→Heap→Option (Rs × Heap):=fun args G=>match call f args blankH with
 | some (.v v,_)=>if ∀ H,∃ H1,call f args H=some (.v v,H1)∧Turns Z H H1 then some (.v v,G.skip K) else none
 | _=>none
theorem pure_told (call:CallT) (f:FuncId) (K:Nat):RowTold A1 R1 call K (f,pureRow call f K):=by
 intro args G r G' h H u
 have h:pureRow call f K args G=some (r,G'):=h
 unfold pureRow at h
 split at h
 ·rename_i v H0 h0
  split at h
  ·rename_i hall
   cases h
   obtain⟨H1,e1,t⟩:=hall H
   exact⟨v,H1,rfl,e1,fun hK=>asked u K t hK⟩
  ·cases h
 ·cases h
theorem pure_use {call:CallT} {f:FuncId} {args:List V} {v:V} (h:∀ H,ret (call f args H) fun w H'=>w=v∧Turns Z H H') (K:Nat) (G:Heap):pureRow call f K args G=some (.v v,G.skip K):=by
 unfold pureRow
 obtain⟨w,H1,e,rfl,t⟩:=h blankH
 rw[e]
 dsimp only
 rw[if_pos (fun H=>by
  obtain⟨w',H2,e2,e3,t2⟩:=h H
  exact⟨H2,by rw[e2,e3],t2⟩)]
noncomputable def lookV (B:disk.Bn):V:=match bestC B B.l.length (B.l.length - 1) with
 | none=>.tuple [.agg zf,.int .i64 7]
 | some C=>.tuple [foundC B B.l.length C,.int .i64 0]
noncomputable def tab (lf K:Nat):List Row:=[
 (9,relRow (disk.wNew (K+2))),
 (62,relRow (disk.wRNew (K+2))),
 (131,relRow (disk.wRDevices (K+2))),
 (132,relRow (disk.wRSectors (K+2))),
 (127,relRow (disk.wRead (K+2))),
 (67,relRow (disk.wWrite (K+2))),
 (116,relRow (disk.wFlush (K+2))),
 (13,relRow (disk.wFail (K+2))),
 (48,relRow (disk.wSectors (K+2))),
 (46,relRow (disk.wDevices (K+2))),
 (17,relRow (disk.wSure (K+2))),
 (222,pureRow (Low lf 60) 222 (K+2)),
 (115,pureRow (Low lf 60) 115 (K+2)),
 (55,pureRow (Low lf 60) 55 (K+2)),
 (47,pureRow (Low lf 60) 47 (K+2)),
 (128,pureRow (Low lf 60) 128 (K+2)),
 (135,pureRow (Low lf 60) 135 (K+2)),
 (194,pureRow (Low lf 60) 194 (K+2)),
 (130,pureRow (Low lf 60) 130 (K+2)),
 (140,pureRow (Low lf 60) 140 (K+2)),
 (64,pureRow (Low lf 60) 64 (K+2)),
 (45,pureRow (Low lf 60) 45 (K+2)),
 (19,pureRow (Low lf 60) 19 (K+2)),
 (18,pureRow (Low lf 60) 18 (K+2))]
def dom0 (f:FuncId):Bool:=Nat.beq f 27 || Nat.beq f 251
noncomputable abbrev U (lf K n:Nat):CallT:=callU Tryz.prog (upS (tab lf K) S0) (upD (tab lf K) dom0) lf n
theorem tab_told {lf:Nat} (hlf:1000 < lf) (K:Nat):∀ e ∈ tab lf K,RowTold A1 R1 (Low lf 60) (K+2) e:=by
 intro e he
 unfold tab at he
 simp only[List.mem_cons,List.not_mem_nil,or_false] at he
 rcases he with rfl | rfl | rfl | rfl | rfl | rfl | rfl | rfl | rfl | rfl | rfl | rfl | rfl | rfl | rfl | rfl | rfl | rfl | rfl | rfl | rfl | rfl | rfl | rfl
 ·exact disk.tNew hlf 58 (K+2) (Nat.le_add_left _ _)
 ·exact disk.tRNew hlf 58 (K+2) (Nat.le_add_left _ _)
 ·exact disk.tRDevices hlf 59 (K+2)
 ·exact disk.tRSectors hlf 58 (K+2)
 ·exact disk.tRead hlf 56 (K+2)
 ·exact disk.tWrite hlf 54 (K+2)
 ·exact disk.tFlush hlf 55 (K+2)
 ·exact disk.tFail hlf 57 (K+2)
 ·exact disk.tSectors hlf 57 (K+2)
 ·exact disk.tDevices hlf 58 (K+2)
 ·exact disk.tSure hlf 56 (K+2)
 ·exact pure_told _ _ _
 ·exact pure_told _ _ _
 ·exact pure_told _ _ _
 ·exact pure_told _ _ _
 ·exact pure_told _ _ _
 ·exact pure_told _ _ _
 ·exact pure_told _ _ _
 ·exact pure_told _ _ _
 ·exact pure_told _ _ _
 ·exact pure_told _ _ _
 ·exact pure_told _ _ _
 ·exact pure_told _ _ _
 ·exact pure_told _ _ _
theorem s0_blind:Blind S0:=by
 refine Blind.or (fun f args G r G' h=>?_) (fun f args G r G' h=>?_) (fun f args G H h=>by
  unfold sumT at h ⊢
  cases args<;>cases hb:Nat.beq f 27<;>simp_all)
 ·unfold sumT at h
  split at h
  ·rename_i hfi
   cases h
   refine⟨rfl,fun H=>?_⟩
   unfold sumT
   rw[hfi]
  ·cases h
 ·unfold crc.takeS at h
  split at h
  ·rename_i r c hfi
   split at h
   ·rename_i hb
    cases h
    refine⟨rfl,fun H=>?_⟩
    unfold crc.takeS
    simp only[hfi,hb]
   ·cases h
  ·cases h
theorem s0_dom (f:FuncId) (h:dom0 f=false) (args:List V) (H:Heap):S0 f args H=none:=by
 unfold dom0 at h
 rw[Bool.or_eq_false_iff] at h
 have e1:sumT 27 f args H=none:=by unfold sumT;rw[h.1]
 have e2:crc.takeS f args H=none:=by unfold crc.takeS;rw[h.2]
 show orS (sumT 27) crc.takeS f args H=none
 unfold orS
 rw[e1]
 exact e2
theorem tab_dom (lf K:Nat) (f:FuncId) (h:inTab (tab lf K) f=true):dom0 f=false:=by
 unfold tab at h
 simp only[inTab] at h
 repeat' (split at h)
 all_goals first
  | (rename_i hf;rw[beq_iff.1 hf];rfl)
  | cases h
theorem up_low {lf:Nat} (hlf:1000 < lf) (h0:CallSnd Tryz.prog S0) (d:Nat):∃ K S,CallSnd Tryz.prog S∧CallU A1 R1 (U lf K d) (callS Tryz.prog S lf d):=by
 obtain⟨Y,hY⟩:=callU_grow (P:=Tryz.prog) s0_blind.grow (fun _=>false) lf 60
 rw[callU_none] at hY
 exact⟨Y,_,loS_snd h0 (callS_sound h0 lf 60) (tab lf Y) (Y+2),level_under ok1 s0_blind s0_dom (GrowS.mono hY (Nat.le_add_right _ _)) (tab_told hlf Y) (tab_dom lf Y) lf d⟩
theorem qNew {lf K w:Nat} {G:Heap} {pp:Option Ptr} {P:List Int} (hP:disk.PicksAt G pp P disk.Z) (hok:disk.okSizes P) (pc po:Nat):U lf K (w+1) 9 [.slice pp P.length pc po] G=some (.v (.tuple [.ptr (some ⟨.run G.next,0⟩),.int .i64 0]),(G.add (bx false (disk.newB P))).skip (K+1)):=callU_tab (fun _ _=>rfl) (disk.uNew (K:=K+2) hP hok pc po)
theorem qRNew {lf K w:Nat} {G:Heap} {pp:Option Ptr} {P:List Int} (hP:disk.PicksAt G pp P disk.Z) (hok:disk.okSizes P) (pc po:Nat):U lf K (w+1) 62 [.slice pp P.length pc po] G=some (.v (.tuple [.ptr (some ⟨.run G.next,0⟩),.int .i64 0]),(G.add (bx true (disk.newB P))).skip (K+1)):=callU_tab (fun _ _=>rfl) (disk.uRNew (K:=K+2) hP hok pc po)
theorem qRDevices {lf K w:Nat} {G:Heap} {b:Bk} {B:disk.Bn} (hb:G.get b=some (bx true B)) (hf:Fit B):U lf K (w+1) 131 [.ptr (some ⟨b,0⟩)] G=some (.v (.int .i64 (B.l.length:Int)),G.skip (K+2)):=callU_tab (fun _ _=>rfl) (disk.uRDevices (K:=K+2) hb hf )
theorem qRSectors {lf K w:Nat} {G:Heap} {b:Bk} {B:disk.Bn} (hb:G.get b=some (bx true B)) (hf:Fit B) (d:Int):U lf K (w+1) 132 [.ptr (some ⟨b,0⟩),.int .i64 d] G=some (.v (.int .i64 (B.sectors d)),G.skip (K+2)):=callU_tab (fun _ _=>rfl) (disk.uRSectors (K:=K+2) hb hf d)
theorem qRead {lf K w:Nat} {G:Heap} {b:Bk} {B:disk.Bn} (hb:G.get b=some (bx false B)) (hf:Fit B) (d:Int) (n:Int):U lf K (w+1) 127 [.ptr (some ⟨b,0⟩),.int .i64 d,.int .i64 n] G=some (.v (.tuple [.blk (B.read d n),.int .i64 (B.rc d n)]),G.skip (K+2)):=callU_tab (fun _ _=>rfl) (disk.uRead (K:=K+2) hb hf d n)
theorem qWrite {lf K w:Nat} {G:Heap} {b:Bk} {B:disk.Bn} (hb:G.get b=some (bx false B)) (hf:Fit B) (d:Int) (n:Int) (x:Nat):U lf K (w+1) 67 [.ptr (some ⟨b,0⟩),.int .i64 d,.int .i64 n,.blk x] G=some (.v (.int .i64 (B.wc d n)),(G.set b (bx false (B.write d n x))).skip (K+2)):=callU_tab (fun _ _=>rfl) (disk.uWrite (K:=K+2) hb hf d n x)
theorem qFlush {lf K w:Nat} {G:Heap} {b:Bk} {B:disk.Bn} (hb:G.get b=some (bx false B)) (hf:Fit B) (d:Int):U lf K (w+1) 116 [.ptr (some ⟨b,0⟩),.int .i64 d] G=some (.v (.int .i64 (B.wc d 0)),(G.set b (bx false (B.flush d))).skip (K+2)):=callU_tab (fun _ _=>rfl) (disk.uFlush (K:=K+2) hb hf d)
theorem qFail {lf K w:Nat} {G:Heap} {b:Bk} {B:disk.Bn} (hb:G.get b=some (bx false B)) (hf:Fit B) (d:Int):U lf K (w+1) 13 [.ptr (some ⟨b,0⟩),.int .i64 d] G=some (.v (.int .i64 (B.tc d)),(G.set b (bx false (B.fail d))).skip (K+2)):=callU_tab (fun _ _=>rfl) (disk.uFail (K:=K+2) hb hf d)
theorem qSectors {lf K w:Nat} {G:Heap} {b:Bk} {B:disk.Bn} (hb:G.get b=some (bx false B)) (hf:Fit B) (d:Int):U lf K (w+1) 48 [.ptr (some ⟨b,0⟩),.int .i64 d] G=some (.v (.int .i64 (B.sectors d)),G.skip (K+2)):=callU_tab (fun _ _=>rfl) (disk.uSectors (K:=K+2) hb hf d)
theorem qDevices {lf K w:Nat} {G:Heap} {b:Bk} {B:disk.Bn} (hb:G.get b=some (bx false B)) (hf:Fit B):U lf K (w+1) 46 [.ptr (some ⟨b,0⟩)] G=some (.v (.int .i64 (B.l.length:Int)),G.skip (K+2)):=callU_tab (fun _ _=>rfl) (disk.uDevices (K:=K+2) hb hf )
theorem qp_super_newest {lf K w:Nat} {G:Heap} {args:List V} {v:V} (h:∀ H,ret (callS Tryz.prog S0 lf 60 222 args H) fun w H'=>w=v∧Turns Z H H'):U lf K (w+1) 222 args G=some (.v v,G.skip (K+2)):=callU_tab (fun _ _=>rfl) (pure_use h (K+2) G)
theorem qp_super_Put {lf K w:Nat} {G:Heap} {args:List V} {v:V} (h:∀ H,ret (callS Tryz.prog S0 lf 60 115 args H) fun w H'=>w=v∧Turns Z H H'):U lf K (w+1) 115 args G=some (.v v,G.skip (K+2)):=callU_tab (fun _ _=>rfl) (pure_use h (K+2) G)
theorem qp_roster_Lose {lf K w:Nat} {G:Heap} {args:List V} {v:V} (h:∀ H,ret (callS Tryz.prog S0 lf 60 55 args H) fun w H'=>w=v∧Turns Z H H'):U lf K (w+1) 55 args G=some (.v v,G.skip (K+2)):=callU_tab (fun _ _=>rfl) (pure_use h (K+2) G)
theorem qp_roster_May {lf K w:Nat} {G:Heap} {args:List V} {v:V} (h:∀ H,ret (callS Tryz.prog S0 lf 60 47 args H) fun w H'=>w=v∧Turns Z H H'):U lf K (w+1) 47 args G=some (.v v,G.skip (K+2)):=callU_tab (fun _ _=>rfl) (pure_use h (K+2) G)
theorem qp_roster_State {lf K w:Nat} {G:Heap} {args:List V} {v:V} (h:∀ H,ret (callS Tryz.prog S0 lf 60 128 args H) fun w H'=>w=v∧Turns Z H H'):U lf K (w+1) 128 args G=some (.v v,G.skip (K+2)):=callU_tab (fun _ _=>rfl) (pure_use h (K+2) G)
theorem qp_roster_Has {lf K w:Nat} {G:Heap} {args:List V} {v:V} (h:∀ H,ret (callS Tryz.prog S0 lf 60 135 args H) fun w H'=>w=v∧Turns Z H H'):U lf K (w+1) 135 args G=some (.v v,G.skip (K+2)):=callU_tab (fun _ _=>rfl) (pure_use h (K+2) G)
theorem qp_geom_Sector {lf K w:Nat} {G:Heap} {args:List V} {v:V} (h:∀ H,ret (callS Tryz.prog S0 lf 60 194 args H) fun w H'=>w=v∧Turns Z H H'):U lf K (w+1) 194 args G=some (.v v,G.skip (K+2)):=callU_tab (fun _ _=>rfl) (pure_use h (K+2) G)
theorem qp_ashlarref10_May {lf K w:Nat} {G:Heap} {args:List V} {v:V} (h:∀ H,ret (callS Tryz.prog S0 lf 60 130 args H) fun w H'=>w=v∧Turns Z H H'):U lf K (w+1) 130 args G=some (.v v,G.skip (K+2)):=callU_tab (fun _ _=>rfl) (pure_use h (K+2) G)
theorem qp_wall_Xor {lf K w:Nat} {G:Heap} {args:List V} {v:V} (h:∀ H,ret (callS Tryz.prog S0 lf 60 140 args H) fun w H'=>w=v∧Turns Z H H'):U lf K (w+1) 140 args G=some (.v v,G.skip (K+2)):=callU_tab (fun _ _=>rfl) (pure_use h (K+2) G)
theorem qp_ashlarref03_Xor {lf K w:Nat} {G:Heap} {args:List V} {v:V} (h:∀ H,ret (callS Tryz.prog S0 lf 60 64 args H) fun w H'=>w=v∧Turns Z H H'):U lf K (w+1) 64 args G=some (.v v,G.skip (K+2)):=callU_tab (fun _ _=>rfl) (pure_use h (K+2) G)
theorem qp_ashlarref08_Fine {lf K w:Nat} {G:Heap} {args:List V} {v:V} (h:∀ H,ret (callS Tryz.prog S0 lf 60 45 args H) fun w H'=>w=v∧Turns Z H H'):U lf K (w+1) 45 args G=some (.v v,G.skip (K+2)):=callU_tab (fun _ _=>rfl) (pure_use h (K+2) G)
end Go.Proofs.YtabebpemfinejaaGreat.draft
namespace Go.Proofs.YtabebpemfinejaaGreat.draft
open Go.Am
noncomputable def c12_l0:C:=.seq (.reg [
 qo 38 (.p (arF .lss (tt 37) (tt 36))) [pp 37,pp 36]]) (
 .seq (.cond (tt 38) (.skip) (.exit 0)) (
 .seq (.block 1 (.seq (.reg [
 mv 39 37,
 mv 10 39]) (
 .seq (.regD [
 mv 40 0,
 mv 41 10,
 qo 42 (.c (callF (ff 48) [(tt 40),(tt 41)])) [pp 40,pp 41],
 qo 43 (.p (faddrF (tt 7) 0)) [pp 7],
 qo 44 (.p (faddrF (tt 43) 1)) [pp 43],
 qo 45 (.r (loadF (tt 44) 1 .sc)) [pp 44],
 qo 46 (.p (arF .add (ii 2) (tt 45))) [pp 45],
 qo 47 (.p (arF .lss (tt 42) (tt 46))) [pp 42,pp 46]] [0,0,3,0,8,24,56,127]) (
 .cond (tt 47) (.seq (.reg [
 qo 8 (.p (S.get (.c (.ptr none)))) [],
 qo 9 (.p (S.get (ii 2))) []]) (
 .ret)) (.skip))))) (
 .reg [
 qo 48 (.p (arF .add (tt 37) (ii 1))) [pp 37],
 mv 37 48])))
noncomputable def c12:CFn:=⟨[.tmp (pp 8),.tmp (pp 9)],
 .seq (.reg [
 qo 7 (.m (boxF 21 (tt 3))) [pp 3],
 qo 8 (.p (S.get (.c (.ptr none)))) [],
 qo 9 (.p (S.get (ii 0))) []]) (
 .seq (.seq (.reg [
 mv 11 0,
 qo 12 (.c (callF (ff 46) [(tt 11)])) [pp 11],
 qo 13 (.p (eqcF false false [.int .i64] (tt 12) (ii 0))) [pp 12]]) (
 .cond (tt 13) (.seq (.reg [
 qo 8 (.p (S.get (.c (.ptr none)))) [],
 qo 9 (.p (S.get (ii 1))) []]) (
 .ret)) (.skip))) (
 .seq (.seq (.regD [
 mv 14 1,
 qo 15 (.p (eqcF false false [.int .u64] (tt 14) (.c (.int .u64 0)))) [pp 14],
 mv 16 15,
 mg 17 2 16 false,
 qg 18 (.p (arF .gtr (tt 17) (.c (.int .u64 2305843009213693952)))) 16 false [pp 17],
 qo 19 (.p (pickF (tt 16) (.c (.bool true)) (tt 18))) [pp 16,pp 18],
 mv 20 19,
 qg 21 (.r (loadF (tt 7) 21 .ag)) 20 false [pp 7],
 qg 22 (.c (callF (ff 47) [(tt 21)])) 20 false [pp 21],
 qg 23 (.p (unF .not (tt 22))) 20 false [pp 22],
 qo 24 (.p (pickF (tt 20) (.c (.bool true)) (tt 23))) [pp 20,pp 23],
 mv 25 24,
 mg 26 0 25 false,
 qg 27 (.c (callF (ff 46) [(tt 26)])) 25 false [pp 26],
 qg 28 (.p (faddrF (tt 7) 0)) 25 false [pp 7],
 qg 29 (.p (faddrF (tt 28) 0)) 25 false [pp 28],
 qg 30 (.r (loadF (tt 29) 1 .sc)) 25 false [pp 29],
 qg 31 (.p (arF .add (tt 30) (ii 1))) 25 false [pp 30],
 qg 32 (.p (eqcF true false [.int .i64] (tt 27) (tt 31))) 25 false [pp 27,pp 31],
 qo 33 (.p (pickF (tt 25) (.c (.bool true)) (tt 32))) [pp 25,pp 32]] [0,1,3,7,15,31,63,127,255,511,1023,2047,4095,8191,4095,20479,53247,118783,262143,524287]) (
 .cond (tt 33) (.seq (.reg [
 qo 8 (.p (S.get (.c (.ptr none)))) [],
 qo 9 (.p (S.get (ii 2))) []]) (
 .ret)) (.skip))) (
 .seq (.seq (.reg [
 qo 34 (.p (faddrF (tt 7) 0)) [pp 7],
 qo 35 (.p (faddrF (tt 34) 0)) [pp 34],
 qo 36 (.r (loadF (tt 35) 1 .sc)) [pp 35],
 qo 37 (.p (S.get (ii 0))) []]) (
 .block 0 (.loop c12_l0))) (
 .seq (.reg [
 mv 49 0,
 mv 50 1,
 mv 51 2,
 qo 52 (.r (loadF (tt 7) 21 .ag)) [pp 7],
 qo 53 (.p (buildF [.ptr none,.int .u64 0,.int .u64 0,.int .i64 0,.int .i64 0,.int .i64 0,.int .u8 0,.int .u8 0,.int .u8 0,.int .u8 0,.int .u8 0,.int .u8 0,.int .u8 0,.int .u8 0,.int .u8 0,.int .u8 0,.int .u8 0,.int .u8 0,.int .u8 0,.int .u8 0,.int .u8 0,.int .u8 0,.int .i64 0,.bool false] .ag [(0,1,(tt 49)),(1,1,(tt 50)),(2,1,(tt 51)),(3,21,(tt 52))])) [pp 49,pp 50,pp 51,pp 52],
 qo 54 (.m (boxF 24 (tt 53))) [pp 53],
 mv 8 54,
 qo 9 (.p (S.get (ii 0))) []]) (
 .ret)))))⟩
theorem c12_eq:fnOf Tryz.prog 12=some c12:=by kernel_rfl
noncomputable def c63_l0:C:=.seq (.seq (.reg [
 mv 31 10,
 qo 32 (.p (faddrF (tt 7) 0)) [pp 7],
 qo 33 (.p (faddrF (tt 32) 0)) [pp 32],
 qo 34 (.r (loadF (tt 33) 1 .sc)) [pp 33],
 qo 35 (.p (arF .lss (tt 31) (tt 34))) [pp 31,pp 34]]) (
 .cond (tt 35) (.skip) (.exit 0))) (
 .seq (.block 1 (.seq (.regD [
 mv 38 0,
 mv 39 10,
 qo 40 (.c (callF (ff 132) [(tt 38),(tt 39)])) [pp 38,pp 39],
 qo 41 (.p (faddrF (tt 7) 0)) [pp 7],
 qo 42 (.p (faddrF (tt 41) 1)) [pp 41],
 qo 43 (.r (loadF (tt 42) 1 .sc)) [pp 42],
 qo 44 (.p (arF .add (tt 43) (ii 2))) [pp 43],
 qo 45 (.p (arF .lss (tt 40) (tt 44))) [pp 40,pp 44]] [0,0,3,0,8,24,56,127]) (
 .cond (tt 45) (.seq (.reg [
 qo 8 (.p (S.get (.c (.ptr none)))) [],
 qo 9 (.p (S.get (ii 2))) []]) (
 .ret)) (.skip)))) (
 .reg [
 mv 36 10,
 qo 37 (.p (arF .add (tt 36) (ii 1))) [pp 36],
 mv 10 37]))
noncomputable def c63:CFn:=⟨[.tmp (pp 8),.tmp (pp 9)],
 .seq (.reg [
 qo 7 (.m (boxF 21 (tt 3))) [pp 3],
 qo 8 (.p (S.get (.c (.ptr none)))) [],
 qo 9 (.p (S.get (ii 0))) []]) (
 .seq (.seq (.regD [
 mv 11 1,
 qo 12 (.p (eqcF false false [.int .u64] (tt 11) (.c (.int .u64 0)))) [pp 11],
 mv 13 12,
 mg 14 2 13 false,
 qg 15 (.p (arF .gtr (tt 14) (.c (.int .u64 2305843009213693952)))) 13 false [pp 14],
 qo 16 (.p (pickF (tt 13) (.c (.bool true)) (tt 15))) [pp 13,pp 15],
 mv 17 16,
 qg 18 (.r (loadF (tt 7) 21 .ag)) 17 false [pp 7],
 qg 19 (.c (callF (ff 130) [(tt 18)])) 17 false [pp 18],
 qg 20 (.p (unF .not (tt 19))) 17 false [pp 19],
 qo 21 (.p (pickF (tt 17) (.c (.bool true)) (tt 20))) [pp 17,pp 20],
 mv 22 21,
 mg 23 0 22 false,
 qg 24 (.c (callF (ff 131) [(tt 23)])) 22 false [pp 23],
 qg 25 (.p (faddrF (tt 7) 0)) 22 false [pp 7],
 qg 26 (.p (faddrF (tt 25) 0)) 22 false [pp 25],
 qg 27 (.r (loadF (tt 26) 1 .sc)) 22 false [pp 26],
 qg 28 (.p (arF .add (tt 27) (ii 1))) 22 false [pp 27],
 qg 29 (.p (eqcF true false [.int .i64] (tt 24) (tt 28))) 22 false [pp 24,pp 28],
 qo 30 (.p (pickF (tt 22) (.c (.bool true)) (tt 29))) [pp 22,pp 29]] [0,1,3,7,15,31,63,127,255,511,1023,2047,4095,8191,4095,20479,53247,118783,262143,524287]) (
 .cond (tt 30) (.seq (.reg [
 qo 8 (.p (S.get (.c (.ptr none)))) [],
 qo 9 (.p (S.get (ii 2))) []]) (
 .ret)) (.skip))) (
 .seq (.seq (.reg [
 qo 10 (.p (S.get (ii 0))) []]) (
 .block 0 (.loop c63_l0))) (
 .seq (.reg [
 mv 46 0,
 mv 47 1,
 mv 48 2,
 qo 49 (.r (loadF (tt 7) 21 .ag)) [pp 7],
 qo 50 (.p (buildF [.ptr none,.int .u64 0,.int .u64 0,.int .i64 0,.int .i64 0,.int .i64 0,.int .u8 0,.int .u8 0,.int .u8 0,.int .u8 0,.int .u8 0,.int .u8 0,.int .u8 0,.int .u8 0,.int .u8 0,.int .u8 0,.int .u8 0,.int .u8 0,.int .u8 0,.int .u8 0,.int .u8 0,.int .u8 0,.int .i64 0,.bool false] .ag [(0,1,(tt 46)),(1,1,(tt 47)),(2,1,(tt 48)),(3,21,(tt 49))])) [pp 46,pp 47,pp 48,pp 49],
 qo 51 (.m (boxF 24 (tt 50))) [pp 50],
 mv 8 51,
 qo 9 (.p (S.get (ii 0))) []]) (
 .ret))))⟩
theorem c63_eq:fnOf Tryz.prog 63=some c63:=by kernel_rfl
def hok (id ev:Int) (m s r:Int) (S:List Nat) (c:Int) (n:Nat) (sec:Int→Int):Prop:=id≠0∧ev≤2305843009213693952∧fine m s r S c∧(n:Int)=m+1∧∀ d,0≤d∧d < m→s+2≤sec d
def hcells (b:Bk) (id ev:Int) (m s r:Int) (S:List Nat) (c:Int) (g:Bool):List V:=[.ptr (some ⟨b,0⟩),.int .u64 id,.int .u64 ev]++rcells m s r S c g
theorem h_thin (b:Bk) (id ev m s r:Int) (S:List Nat) (c:Int) (g:Bool):Thin (hcells b id ev m s r S c g):=by
 intro v hv
 unfold hcells at hv
 rcases List.mem_append.1 hv with h | h
 ·simp at h;rcases h with rfl | rfl | rfl<;>rfl
 ·exact r_thin m s r S c g v h
theorem h_width {S:List Nat} (hS:S.length=16) (b:Bk) (id ev m s r c:Int) (g:Bool):width (hcells b id ev m s r S c g)=24:=by
 rw[width_thin (h_thin b id ev m s r S c g)]
 unfold hcells
 rw[List.length_append,r_len hS]
 rfl
theorem put_h {b:Bk} {id ev m s r c:Int} {g:Bool} {S:List Nat} (hS:S.length=16):put [.ptr (some ⟨b,0⟩),.int .u64 id,.int .u64 ev,.int .i64 0,.int .i64 0,.int .i64 0,.int .u8 0,.int .u8 0,.int .u8 0,.int .u8 0,.int .u8 0,.int .u8 0,.int .u8 0,.int .u8 0,.int .u8 0,.int .u8 0,.int .u8 0,.int .u8 0,.int .u8 0,.int .u8 0,.int .u8 0,.int .u8 0,.int .i64 0,.bool false] 3 (rcells m s r S c g)=some (hcells b id ev m s r S c g):=by
 match S,hS with
 | [x0,x1,x2,x3,x4,x5,x6,x7,x8,x9,x10,x11,x12,x13,x14,x15],_=>rfl
end Go.Proofs.YtabebpemfinejaaGreat.draft
namespace Go.Proofs.YtabebpemfinejaaGreat.draft
open Go.Am
end Go.Proofs.YtabebpemfinejaaGreat.draft
namespace Go.Proofs.YtabebpemfinejaaGreat.draft
open Go.Am
noncomputable def c51:CFn:=⟨[.tmp (pp 2)],
 .seq (.reg [
 qo 2 (.p (S.get (.c (.bool false)))) []]) (
 .seq (.reg [
 mv 3 0,
 qo 4 (.r (eqnF false .ptr (tt 3) (.c (.ptr none)))) [pp 3],
 mv 5 4,
 mg 6 0 5 false,
 qg 7 (.p (nilcF (tt 6))) 5 false [pp 6],
 qg 8 (.p (faddrF (tt 7) 0)) 5 false [pp 7],
 qg 9 (.r (loadF (tt 8) 1 .sc)) 5 false [pp 8],
 qg 10 (.r (eqnF false .ptr (tt 9) (.c (.ptr none)))) 5 false [pp 9],
 qo 11 (.p (pickF (tt 5) (.c (.bool true)) (tt 10))) [pp 5,pp 10],
 mv 2 11]) (
 .ret))⟩
theorem c51_eq:fnOf Tryz.prog 51=some c51:=by kernel_rfl
noncomputable def c16:CFn:=⟨[.cell (pp 2) 21 .ag],
 .seq (.reg [
 qo 2 (.m (allocF 21 [.int .i64 0,.int .i64 0,.int .i64 0,.int .u8 0,.int .u8 0,.int .u8 0,.int .u8 0,.int .u8 0,.int .u8 0,.int .u8 0,.int .u8 0,.int .u8 0,.int .u8 0,.int .u8 0,.int .u8 0,.int .u8 0,.int .u8 0,.int .u8 0,.int .u8 0,.int .i64 0,.bool false])) []]) (
 .seq (.seq (.reg [
 mv 3 0,
 qo 4 (.c (callF (ff 51) [(tt 3)])) [pp 3]]) (
 .cond (tt 4) (.seq (.reg [
 qo 5 (.p (buildF [.int .i64 0,.int .i64 0,.int .i64 0,.int .u8 0,.int .u8 0,.int .u8 0,.int .u8 0,.int .u8 0,.int .u8 0,.int .u8 0,.int .u8 0,.int .u8 0,.int .u8 0,.int .u8 0,.int .u8 0,.int .u8 0,.int .u8 0,.int .u8 0,.int .u8 0,.int .i64 0,.bool false] .ag [])) [],
 qn (.a (storeF (tt 2) (tt 5) 21)) [pp 2,pp 5]]) (
 .ret)) (.skip))) (
 .seq (.reg [
 mv 6 0,
 qo 7 (.p (nilcF (tt 6))) [pp 6],
 qo 8 (.p (faddrF (tt 7) 3)) [pp 7],
 qo 9 (.r (loadF (tt 8) 21 .ag)) [pp 8],
 qn (.a (storeF (tt 2) (tt 9) 21)) [pp 2,pp 9]]) (
 .ret)))⟩
theorem c16_eq:fnOf Tryz.prog 16=some c16:=by kernel_rfl
noncomputable def c68:CFn:=⟨[.tmp (pp 2)],
 .seq (.reg [
 qo 2 (.p (S.get (.c (.int .u64 0)))) []]) (
 .seq (.seq (.reg [
 mv 3 0,
 qo 4 (.c (callF (ff 51) [(tt 3)])) [pp 3]]) (
 .cond (tt 4) (.seq (.reg [
 qo 2 (.p (S.get (.c (.int .u64 0)))) []]) (
 .ret)) (.skip))) (
 .seq (.reg [
 mv 5 0,
 qo 6 (.p (nilcF (tt 5))) [pp 5],
 qo 7 (.p (faddrF (tt 6) 1)) [pp 6],
 qo 8 (.r (loadF (tt 7) 1 .sc)) [pp 7],
 mv 2 8]) (
 .ret)))⟩
theorem c68_eq:fnOf Tryz.prog 68=some c68:=by kernel_rfl
structure HullAt (H:Heap) (hb b:Bk) (id ev m s r:Int) (S:List Nat) (c:Int) (g:Bool):Prop where
 own:H.get hb=some (.rows false 24 [hcells b id ev m s r S c g])
 len:S.length=16
 old:H.Old hb
theorem HullAt.turns {H H':Heap} {hb b:Bk} {id ev m s r:Int} {S:List Nat} {c:Int} {g:Bool} (h:HullAt H hb b id ev m s r S c g) (k:Turns Z H H'):HullAt H' hb b id ev m s r S c g:=
 ⟨(k.same _ h.old (fun h=>h)).trans h.own,h.len,h.old.mono k.next⟩
section
variable {H:Heap} {hb b:Bk} {id ev m s r:Int} {S:List Nat} {c:Int} {g:Bool} (h:HullAt H hb b id ev m s r S c g)
include h
theorem hl_cut {o n:Nat} (hn:o+n≤24) (ho:o < 24):loadAt H ⟨hb,o⟩ n=some (((hcells b id ev m s r S c g).drop o).take n):=by
 rw[loadAt_eq h.own (r:=hcells b id ev m s r S c g) (nth_of (by rw[Nat.div_eq_of_lt ho];rfl)),Nat.mod_eq_of_lt ho]
 refine cut_thin (h_thin b id ev m s r S c g) ?_
 unfold hcells
 rw[List.length_append,r_len h.len]
 exact hn
theorem hl_b:loadAt H ⟨hb,0⟩ 1=some [.ptr (some ⟨b,0⟩)]:=by rw[hl_cut h (by omega) (by omega)];rfl
theorem hl_id:loadAt H ⟨hb,1⟩ 1=some [.int .u64 id]:=by rw[hl_cut h (by omega) (by omega)];rfl
theorem hl_ev:loadAt H ⟨hb,2⟩ 1=some [.int .u64 ev]:=by rw[hl_cut h (by omega) (by omega)];rfl
theorem hl_r:loadAt H ⟨hb,3⟩ 21=some (rcells m s r S c g):=by
 rw[hl_cut h (by omega) (by omega)]
 show some (List.take 21 (rcells m s r S c g))=_
 rw[List.take_of_length_le (by rw[r_len h.len];omega)]
theorem hnone (lf n:Nat):callS Tryz.prog S0 lf (n+1) 51 [.ptr (some ⟨hb,0⟩)] H=some (.v (.bool false),H):=by
 have l:=hl_b h
 obtain⟨v,H',e,rfl,rfl⟩:ret (callS Tryz.prog S0 lf (n+1) 51 [.ptr (some ⟨hb,0⟩)] H) fun v H'=>v=.bool false∧H'=H:=by
  refine ret_call rfl c51_eq ?_
  simp only[c51,l,sy,tup,↓reduceIte,zA,zG,zC,zD,zF,zE,zB,zH,reduceCtorEq]
  simp
 exact e
theorem hid (lf n:Nat):callS Tryz.prog S0 lf (n+2) 68 [.ptr (some ⟨hb,0⟩)] H=some (.v (.int .u64 id),H):=by
 have l:=hl_id h
 have e:=hnone h lf n
 obtain⟨v,H',e,rfl,rfl⟩:ret (callS Tryz.prog S0 lf (n+2) 68 [.ptr (some ⟨hb,0⟩)] H) fun v H'=>v=.int .u64 id∧H'=H:=by
  refine ret_call rfl c68_eq ?_
  simp only[c68,e,l,sy,tup,↓reduceIte,zA,zG,zC,zD,zF,zE,zB,zH,reduceCtorEq]
  simp
 exact e
end
def zros:List V:=[.int .i64 0,.int .i64 0,.int .i64 0,.int .u8 0,.int .u8 0,.int .u8 0,.int .u8 0,.int .u8 0,.int .u8 0,.int .u8 0,.int .u8 0,.int .u8 0,.int .u8 0,.int .u8 0,.int .u8 0,.int .u8 0,.int .u8 0,.int .u8 0,.int .u8 0,.int .i64 0,.bool false]
theorem put_r {m s r c:Int} {g:Bool} {S:List Nat} (hS:S.length=16):put zros 0 (rcells m s r S c g)=some (rcells m s r S c g):=by
 match S,hS with
 | [x0,x1,x2,x3,x4,x5,x6,x7,x8,x9,x10,x11,x12,x13,x14,x15],_=>rfl
theorem ros_g {H:Heap} {b:Bk} {m s r:Int} {S:List Nat} {c:Int} {g:Bool} (h:RosAt H b m s r S c g):loadAt H ⟨b,20⟩ 1=some [.bool g]:=by
 rw[ros_cut h (by omega) (by omega)]
 unfold rcells
 have e:20=[V.int .i64 m,.int .i64 s,.int .i64 r].length+((sts S).length+1):=by rw[sts_len,h.len];rfl
 rw[e,List.drop_length_add_append,List.drop_length_add_append]
 rfl
end Go.Proofs.YtabebpemfinejaaGreat.draft
namespace Go.Proofs.YtabebpemfinejaaGreat.draft
open Go.Am
def rowsN (l:List Nat):List (List V):=l.map fun c:Nat=>[V.int .u8 (c:Int)]
theorem rowsN_len (l:List Nat):(rowsN l).length=l.length:=by unfold rowsN;simp
theorem rowsN_app (l k:List Nat):rowsN (l++k)=rowsN l++rowsN k:=by unfold rowsN;simp
def digs (n:Nat):Nat→List Nat
 | 0=>[]
 | i+1=>digs n i++[n / 256 ^ i % 256]
theorem digs_len (n:Nat):∀ i,(digs n i).length=i
 | 0=>rfl
 | i+1=>by simp[digs,digs_len n i]
theorem digs_lt (n:Nat):∀ i,∀ x ∈ digs n i,x < 256
 | 0,x,h=>by cases h
 | i+1,x,h=>by
  simp only[digs,List.mem_append,List.mem_singleton] at h
  rcases h with h | h
  ·exact digs_lt n i x h
  ·subst h;exact Nat.mod_lt _ (by decide)
theorem lst_away {H0 HH H' H:Heap} {sz:Nat} {R:List (List V)} {y:V} (hy:Lst H0 HH sz R y) (t:Turns Z H HH) (h0:H.next≤H0.next) (k:Turns (Bof y) HH H'):Turns Z H H':=
 t.later k (fun c hc hb=>by
  obtain⟨_,rfl,h1,_⟩:=hy.bof hb
  exact absurd hc (Heap.not_old (Nat.le_trans h0 h1)))
def putB (n s:Nat):List Nat:=if n / 256 ^ s=0 then digs n s else []
theorem putB_le (n s:Nat):(putB n s).length≤s:=by
 unfold putB
 split
 ·rw[digs_len];omega
 ·simp
theorem putB_lt (n s:Nat):∀ x ∈ putB n s,x < 256:=by
 unfold putB
 split
 ·exact digs_lt n s
 ·intro x h;cases h
theorem appL {H0 H1 HH:Heap} {R Q:List (List V)} {y x:V} (hy:Lst H0 HH 1 R y) (hx:Lst H1 HH 1 Q x) (hQ:∀ r ∈ Q,∃ c:Nat,r=[V.int .u8 (c:Int)]) (t:H0.next≤HH.next) (hl:R.length+Q.length≤100000):∃ v H',appendV 1 1 HH y x=some (v,H')∧Lst H0 H' 1 (R++Q) v∧Turns (Bof y) HH H':=by
 rcases hx with ⟨rfl,rfl⟩ | ⟨k,hne,rfl,hg,h1,h2⟩
 ·obtain⟨p,c,o,rfl⟩:=hy.val
  refine⟨_,HH,?_,by simpa using hy,Turns.refl _ _⟩
  have hb:Nat.ble R.length c=true:=by
   rcases hy with ⟨rfl,e⟩ | ⟨n,_,e,_⟩
   ·cases e;rfl
   ·cases e;exact ble_iff.2 (Nat.le_refl _)
  unfold appendV
  simp only[lenOf,List.length_nil,show Nat.beq 0 0=true from rfl,hb]
 ·have hf:firstE HH 1 (.slice (some ⟨.run k,0⟩) Q.length Q.length 1)=some Q:=by
   have:∀(L:List (List V)) (a:Nat),(∀ i,i < L.length→∃ c:Nat,Q[a+i]?=L[i]?∧L[i]?=some [V.int .u8 (c:Int)])→elems HH (.run k) 1 L.length a=some L:=by
    intro L
    induction L with
    | nil=>intro a _;rfl
    | cons r L ih=>
     intro a h
     obtain⟨c,e1,e2⟩:=h 0 (by simp)
     simp only[List.getElem?_cons_zero,Option.some.injEq] at e2
     subst e2
     rw[Nat.add_zero] at e1
     simp only[List.getElem?_cons_zero] at e1
     have lk:loadAt HH ⟨.run k,a⟩ 1=some [.int .u8 (c:Int)]:=by
      rw[loadAt_eq hg (r:=[.int .u8 (c:Int)]) (by rw[Nat.div_one,nth_eq];exact e1),Nat.mod_one]
      rfl
     show elems HH (.run k) 1 (L.length+1) a=_
     unfold elems
     rw[lk]
     simp only
     rw[show Nat.add a 1=a+1 from rfl,ih (a+1) (fun i hi=>by
      obtain⟨c',e3,e4⟩:=h (i+1) (by simp;omega)
      refine⟨c',?_,by simpa using e4⟩
      rw[show a+1+i=a+(i+1) by omega,e3];simp)]
     rfl
   show elems HH (.run k) 1 Q.length 0=some Q
   exact this Q 0 (fun i hi=>by
    obtain⟨c,hc⟩:=hQ _ (List.getElem_mem hi)
    exact⟨c,by rw[Nat.zero_add],by rw[List.getElem?_eq_getElem hi,hc]⟩)
  obtain⟨H',ea,hv,ta,_⟩:=hy.app (by':=1) t hf rfl hne (by decide) (by omega) (by omega)
  exact⟨_,H',ea,hv,ta⟩
theorem rowsN_bytes (l:List Nat):∀ r ∈ rowsN l,∃ c:Nat,r=[V.int .u8 (c:Int)]:=by
 intro r h
 unfold rowsN at h
 obtain⟨c,_,e⟩:=List.mem_map.1 h
 exact⟨c,e.symm⟩
end Go.Proofs.YtabebpemfinejaaGreat.draft
namespace Go.Proofs.YtabebpemfinejaaGreat.draft
open Go.Am
theorem rem_u8 (a b:Nat) (hb:b≠0):arith .rem (.int .u8 (a:Int)) (.int .u8 (b:Int))=some (.int .u8 ((a % b:Nat):Int)):=by
 have h0:eqI (b:Int) 0=false:=by
  rw[C7];simpa using hb
 show (match eqI (b:Int) 0 with | true=>none | false=>frc (remI (a:Int) (b:Int)) fun n=>some (V.int .u8 n))=_
 rw[h0]
 show frc (((a % b:Nat)):Int) _=_
 generalize a % b=z
 cases z<;>rfl
def bitOf (S:Nat→Nat) (j:Nat):Nat:=S (j / 2) / 2 ^ (j % 2) % 2
theorem bitOf_lt (S:Nat→Nat) (j:Nat):bitOf S j < 2:=Nat.mod_lt _ (by decide)
def packN (f:Nat→Nat):Nat→Nat
 | 0=>0
 | m+1=>2*packN f m+f (7 - m)
theorem packN_lt {f:Nat→Nat} (h:∀ i,f i < 2):∀ m,packN f m < 2 ^ m
 | 0=>by show 0 < 1;decide
 | m+1=>by
  have a:=packN_lt h m
  have b:=h (7 - m)
  show 2*packN f m+f (7 - m) < 2 ^ (m+1)
  rw[Nat.pow_succ]
  omega
def outB (S:Nat→Nat) (q:Nat):Nat:=packN (fun k=>bitOf S (8*q+k)) 8
theorem outB_lt (S:Nat→Nat) (q:Nat):outB S q < 256:=packN_lt (fun i=>bitOf_lt S _) 8
def outs (S:Nat→Nat):Nat→List Nat
 | 0=>[]
 | q+1=>outs S q++[outB S q]
theorem outs_len (S:Nat→Nat):∀ q,(outs S q).length=q
 | 0=>rfl
 | q+1=>by simp[outs,outs_len S q]
theorem rowsN_get {l:List Nat} {i x:Nat} (h:l[i]?=some x):(rowsN l)[i]?=some [.int .u8 (x:Int)]:=by
 unfold rowsN
 rw[List.getElem?_map,h];rfl
end Go.Proofs.YtabebpemfinejaaGreat.draft
namespace Go.Proofs.YtabebpemfinejaaGreat.draft
open Go.Am
end Go.Proofs.YtabebpemfinejaaGreat.draft
