import Derived.Test.YtabebpemfinejaaGreatG3
import Derived.Test.YtabebpemfinejaaGreatG4
import Derived.Test.YtabebpemfinejaaGreatAmList
import Derived.Test.YtabebpemfinejaaGreatG5
import Derived.Test.YtabebpemfinejaaGreatG0
import Derived.Test.YtabebpemfinejaaGreatAmVeil5
set_option linter.unusedVariables false
set_option linter.unusedSimpArgs false
set_option maxRecDepth 10000
set_option linter.unusedSectionVars false
open Nat renaming reduceEqDiff → zA, reduceLeDiff → zB, reduceSub → zC, reduceMul → zD, reduceMod → zE, reduceDiv → zF, reduceAdd → zG
open Int renaming reduceBEq → zH
namespace Go.Proofs.YtabebpemfinejaaGreat.disk
open Go.Am
structure Same (B C:Bn):Prop where
 len:C.l.length=B.l.length
 sec:∀ d,C.sectors d=B.sectors d
 dk:B.ar=0→B.dk=false→C.ar=0∧C.dk=false
theorem Same.trans {A B C:Bn} (h:Same A B) (k:Same B C):Same A C:=⟨k.len.trans h.len,fun d=>(k.sec d).trans (h.sec d),fun a b=>k.dk (h.dk a b).1 (h.dk a b).2⟩
theorem Same.refl (B:Bn):Same B B:=⟨rfl,fun _=>rfl,fun a b=>⟨a,b⟩⟩
end Go.Proofs.YtabebpemfinejaaGreat.disk
namespace Go.Proofs.YtabebpemfinejaaGreat.draft
open Go.Am
def sizes (k:Nat):List Int:=List.replicate k 6++[50]
def rowsI (l:List Int):List (List V):=l.map fun n:Int=>[V.int .i64 n]
theorem rowsI_len (l:List Int):(rowsI l).length=l.length:=by unfold rowsI;simp
theorem appI {H1 HH:Heap} {ks:List Int} {y:V} (hy:Lst H1 HH 1 (rowsI ks) y) (tz:Turns Z H1 HH) (hl:ks.length≤16) (u:Int):∃ H',appendV 1 8 (HH.add (.rows false 1 [[.int .i64 u]])) y (.slice (some ⟨.run HH.next,0⟩) 1 1 0)=some (.slice (some ⟨.run (HH.next+1),0⟩) (ks.length+1) (ks.length+1) 1,H')∧Lst H1 H' 1 (rowsI (ks++[u])) (.slice (some ⟨.run (HH.next+1),0⟩) (ks.length+1) (ks.length+1) 1)∧Turns Z H1 H':=by
 have ta:=Turns.add Z HH (.rows false 1 [[.int .i64 u]])
 have hxg:(HH.add (.rows false 1 [[.int .i64 u]])).get (.run HH.next)=some (.rows false 1 [[.int .i64 u]]):=by rw[Heap.get_add,if_pos rfl]
 have hya:=hy.turns ta (fun _ _=>id)
 have hl':=rowsI_len ks
 obtain⟨H',ea,hv',ta',_⟩:=hya.app1 (by':=8) (Nat.le_trans tz.next ta.next) hxg rfl (by decide) (by rw[hl'];omega) (by rw[hl'];omega)
 rw[hl',Heap.next_add] at ea hv'
 have hR:rowsI ks++[[.int .i64 u]]=rowsI (ks++[u]):=by unfold rowsI;simp
 rw[hR] at hv'
 exact⟨H',ea,hv',lst_away hya (tz.trans ta) (Nat.le_refl _) ta'⟩
theorem picks_lst {H0 H:Heap} {P:List Int} {v:V} (h:Lst H0 H 1 (rowsI P) v) (hP:P≠[]):∃ p,v=.slice p P.length P.length 1∧disk.PicksAt H p P disk.Z:=by
 rcases h with ⟨e,_⟩ | ⟨k,_,rfl,hg,h1,h2⟩
 ·cases P with
  | nil=>exact absurd rfl hP
  | cons=>cases e
 ·rw[rowsI_len]
  refine⟨_,rfl,⟨fun _=>⟨.run k,0,false,_,rfl,h2,fun h=>h,hg,fun i hi=>?_⟩⟩⟩
  unfold rowsI
  rw[Nat.zero_add,List.getElem?_map,List.getElem?_eq_getElem hi];rfl
end Go.Proofs.YtabebpemfinejaaGreat.draft
namespace Go.Proofs.YtabebpemfinejaaGreat.draft
open Go.Am
open disk (Fit Bok Dev Bn Good)
theorem Calm.fail {m k:Nat} {B:Bn} (h:Calm m k B) {i:Nat} (hi:i < m):B.tc (i:Int)=0∧Calm m (k+1) (B.fail (i:Int))∧∀ j:Nat,j < m+1→(B.fail (i:Int)).dev (j:Int)=if j=i then(B.dev (i:Int)).fail else B.dev (j:Int):=by
 have htc:=h.tc hi
 have hlen:=h.len
 have e:B.fail (i:Int)=⟨B.l.set i (B.dev (i:Int)).fail,B.st,B.ar,B.dk⟩:=by
  unfold Bn.fail
  rw[if_pos htc]
  rfl
 have dv:∀ j:Nat,j < m+1→(B.fail (i:Int)).dev (j:Int)=if j=i then(B.dev (i:Int)).fail else B.dev (j:Int):=fun j hj=>by
  rw[e];exact dev_set (by omega) _ _ _ _
 refine⟨htc,⟨h.ok.fail _,by rw[e];exact h.ar,by rw[e];exact h.dk,by rw[e];simpa using hlen,h.le,fun j hj=>?_,fun j hj=>?_,fun j t hj ht=>?_⟩,dv⟩
 ·rw[dv j (by omega)]
  by_cases e:j=i
  ·rw[if_pos e];exact h.sz i hi
  ·rw[if_neg e];exact h.sz j hj
 ·rw[dv j (by omega)]
  by_cases e:j=i
  ·rw[if_pos e];intro x hx;cases hx
  ·rw[if_neg e];exact h.lo j hj
 ·unfold sect
  rw[dv j (by omega)]
  by_cases e:j=i
  ·rw[if_pos e];exact h.sm i t hi ht
  ·rw[if_neg e];exact h.sm j t hj ht
def aBit (a d:Nat):Bool:=decide ((a / 2 ^ d)&&&1=1)
def failL (B:Bn) (a:Nat):Nat→Bn
 | 0=>B
 | i+1=>if aBit a i=true then(failL B a i).fail (i:Int) else failL B a i
structure FailedTo (m k:Nat) (B:Bn) (a i:Nat):Prop where
 calm:Calm m (k+i) (failL B a i)
 S:∀ j:Nat,j < m+1→((failL B a i).dev (j:Int)).S=(B.dev (j:Int)).S
 dd:∀ j,j < m→dead (failL B a i) j=(dead B j || (decide (j < i)&&aBit a j))
theorem failed {m k:Nat} {B:Bn} (h:Calm m k B) (a:Nat):∀ i,i≤m→FailedTo m k B a i
 | 0,_=>⟨h,fun _ _=>rfl,fun j _=>by simp[failL]⟩
 | i+1,hi=>by
  have ih:=failed h a i (by omega)
  by_cases hb:aBit a i=true
  ·have e:failL B a (i+1)=(failL B a i).fail (i:Int):=if_pos hb
   obtain⟨_,hc,dv⟩:=ih.calm.fail (i:=i) (by omega)
   refine⟨by rw[e];exact hc,fun j hj=>?_,fun j hj=>?_⟩
   ·rw[e,dv j hj]
    by_cases e':j=i
    ·rw[if_pos e',e'];exact ih.S i (by omega)
    ·rw[if_neg e'];exact ih.S j hj
   ·unfold dead
    rw[e,dv j (by omega)]
    by_cases e':j=i
    ·subst e'
     rw[if_pos rfl,hb]
     simp[Dev.fail]
    ·rw[if_neg e']
     have:=ih.dd j hj
     unfold dead at this
     rw[this]
     have e2:decide (j < i+1)=decide (j < i):=by rw[decide_eq_decide];omega
     rw[e2]
  ·have e:failL B a (i+1)=failL B a i:=if_neg hb
   refine⟨by rw[e];have:=ih.calm;exact⟨this.ok.mono,this.ar,this.dk,this.len,this.le,this.sz,this.lo,this.sm⟩,fun j hj=>by rw[e];exact ih.S j hj,fun j hj=>?_⟩
   rw[e,ih.dd j hj]
   by_cases e':j=i
   ·subst e'
    have:aBit a j=false:=by simpa using hb
    rw[this];simp
   ·have e2:decide (j < i+1)=decide (j < i):=by rw[decide_eq_decide];omega
    rw[e2]
section
variable {M k E:Nat} {B:Bn} {S:List Nat} (hC:Calm M k B) (h6:∀ j:Nat,j < M→(B.dev (j:Int)).S.length=6) (h50:(B.dev (M:Int)).S.length=50) (hM:3≤M∧M≤6)
 (hE:1≤E∧E≤2305843009213693952) (hf:fine (M:Int) 4 40 S 0) (hS:S.length=16)
 (hX:∀ j:Nat,j < M→dead B j=false→hasX B j (E - 1) (supBlk E 9 j M 4 40 S 0 false))
include hC h6 h50 hM hE hf hS hX
theorem gC_dead {j:Nat} (hj:j < M) (hd:dead B j=true):gC B (M+1) (j:Int)=none:=by
 have r0:=hC.rc (j:=0) hj (by decide)
 rw[hd] at r0
 unfold gC
 rw[if_neg (by omega),if_pos (.inl (by rw[show (0:Int)=((0:Nat):Int) from rfl,r0];decide))]
theorem best_none:∀ d,d≤M→(∀ j,j < d→dead B j=true)→bestC B (M+1) d=none
 | 0,_,_=>rfl
 | d+1,h,hd=>by
  unfold bestC
  rw[gC_dead hC h6 h50 hM hE hf hS hX (by omega) (hd d (by omega))]
  exact best_none d (by omega) (fun j hj=>hd j (by omega))
theorem look_none (hd:∀ j,j < M→dead B j=true):lookV B=.tuple [.agg zf,.int .i64 7]:=by
 unfold lookV
 have:=hC.len
 rw[show B.l.length=M+1 from this,show M+1 - 1=M from rfl,best_none hC h6 h50 hM hE hf hS hX M (Nat.le_refl _) hd]
end
end Go.Proofs.YtabebpemfinejaaGreat.draft
namespace Go.Proofs.YtabebpemfinejaaGreat.draft
open Go.Am
open disk (bx Fit A1 R1 Low Bn Bok)
theorem okSizes_k {k:Nat} (hk:1≤k∧k≤6):disk.okSizes (sizes k):=by
 refine⟨?_,?_,?_⟩
 ·unfold sizes;simp
 ·unfold sizes;simp;omega
 ·intro x hx
  unfold sizes at hx
  simp at hx
  rcases hx with ⟨_,rfl⟩ | rfl<;>omega
theorem HB.failed {G:Heap} {h b:Bk} {id ev m s r:Int} {S:List Nat} {c:Int} {g:Bool} {B:disk.Bn} (x:HB G h b id ev m s r S c g B) {B':disk.Bn} (hf:Fit B') (k:Nat):HB ((G.set b (bx false B')).skip k) h b id ev m s r S c g B':=
 x.step (by repeat (first | exact Turns.refl _ _ | apply Turns.skip | apply Turns.addm | apply Turns.setb | apply Turns.setl | apply Turns.setr | refine Turns.setn ?_ _ (by omega) _ | refine Turns.trans ?_ (tF _))) (by rw[get_skip,Heap.get_set,if_pos rfl]) hf
theorem zero_calm {M:Nat} (hM:3≤M∧M≤6):Calm M 0 (disk.newB (sizes M))∧(∀ j:Nat,j < M→(disk.newB (sizes M)).dev (j:Int)=disk.blank 6)∧(disk.newB (sizes M)).dev (M:Int)=disk.blank 50∧(disk.newB (sizes M)).l.length=M+1:=by
 have hlen:(disk.newB (sizes M)).l.length=M+1:=by unfold disk.newB sizes;simp
 have dv:∀ j:Nat,j < M→(disk.newB (sizes M)).dev (j:Int)=disk.blank 6:=fun j hj=>by
  rw[dev_at (by omega)]
  unfold disk.newB sizes
  simp only[List.getElem_map]
  rw[List.getElem_append_left (by simpa using hj)]
  simp
 refine⟨⟨disk.okNew (okSizes_k (by omega)),rfl,rfl,hlen,by omega,fun j hj=>?_,fun j hj=>?_,fun j t hj ht=>?_⟩,dv,?_,hlen⟩
 ·rw[dv j hj];decide
 ·rw[dv j hj];intro x hx;cases hx
 ·unfold sect
  rw[dv j hj]
  have:t=0∨t=1:=by omega
  rcases this with rfl | rfl<;>decide
 ·rw[dev_at (by omega)]
  unfold disk.newB sizes
  simp only[List.getElem_map]
  rw[List.getElem_append_right (by simp)]
  simp
theorem seal_zero:sealN 0=0:=by
 unfold sealN leN
 rfl
theorem zeros_fine {M:Nat} (hM:3≤M∧M≤6):fine (M:Int) 4 40 (List.replicate 16 0) 0:=by
 refine⟨?_,fun j hj x hx=>?_,by decide,by decide,by decide,.inr rfl⟩
 ·unfold may inn
  simp only[Bool.and_eq_true,decide_eq_true_eq]
  omega
 ·rw[List.getElem?_replicate] at hx
  split at hx
  all_goals first | (cases hx;done) | (cases hx;exact⟨by decide,fun _=>rfl⟩)
end Go.Proofs.YtabebpemfinejaaGreat.draft
namespace Go.Proofs.YtabebpemfinejaaGreat.disk
open Go.Am
noncomputable def c140_l0:C:=.seq (.reg [
 qo 9 (.p (arF .lss (tt 8) (ii 64))) [pp 8]]) (
 .seq (.cond (tt 9) (.skip) (.exit 0)) (
 .seq (.block 1 (.seq (.reg [
 mv 10 8,
 qo 11 (.p (idxAF (tt 7) (tt 8) 64 1 .sc)) [pp 7,pp 8],
 mv 5 10,
 mv 6 11]) (
 .reg [
 mv 12 5,
 qo 13 (.p (iaddrAF (tt 2) (tt 12) 64 1)) [pp 2,pp 12],
 qo 14 (.r (loadF (tt 13) 1 .sc)) [pp 13],
 mv 15 6,
 qo 16 (.p (arF .xor (tt 14) (tt 15))) [pp 14,pp 15],
 qo 17 (.p (iaddrAF (tt 2) (tt 12) 64 1)) [pp 2,pp 12],
 qn (.a (storeF (tt 17) (tt 16) 1)) [pp 17,pp 16]]))) (
 .reg [
 qo 18 (.p (arF .add (tt 8) (ii 1))) [pp 8],
 mv 8 18])))
noncomputable def c140:CFn:=⟨[.cell (pp 4) 64 .bk],
 .seq (.reg [
 qo 2 (.m (boxF 64 (tt 0))) [pp 0],
 qo 3 (.m (boxF 64 (tt 1))) [pp 1],
 qo 4 (.m (allocF 64 [.blk 0])) []]) (
 .seq (.seq (.reg [
 qo 7 (.r (loadF (tt 3) 64 .bk)) [pp 3],
 qo 8 (.p (S.get (ii 0))) []]) (
 .block 0 (.loop c140_l0))) (
 .seq (.reg [
 qo 19 (.r (loadF (tt 2) 64 .bk)) [pp 2],
 qn (.a (storeF (tt 4) (tt 19) 64)) [pp 4,pp 19]]) (
 .ret)))⟩
theorem c140_eq:fnOf Tryz.prog 140=some c140:=by kernel_rfl
noncomputable def c64_l0:C:=.seq (.seq (.reg [
 mv 7 6,
 qo 8 (.p (arF .lss (tt 7) (ii 64))) [pp 7]]) (
 .cond (tt 8) (.skip) (.exit 0))) (
 .seq (.block 1 (.regD [
 mv 11 6,
 mv 12 6,
 qo 13 (.p (iaddrAF (tt 2) (tt 12) 64 1)) [pp 2,pp 12],
 qo 14 (.r (loadF (tt 13) 1 .sc)) [pp 13],
 mv 15 6,
 qo 16 (.p (iaddrAF (tt 3) (tt 15) 64 1)) [pp 3,pp 15],
 qo 17 (.r (loadF (tt 16) 1 .sc)) [pp 16],
 qo 18 (.p (arF .xor (tt 14) (tt 17))) [pp 14,pp 17],
 qo 19 (.p (iaddrAF (tt 5) (tt 11) 64 1)) [pp 5,pp 11],
 qn (.a (storeF (tt 19) (tt 18) 1)) [pp 19,pp 18]] [0,0,2,6,0,16,48,126,255,511])) (
 .reg [
 mv 9 6,
 qo 10 (.p (arF .add (tt 9) (ii 1))) [pp 9],
 mv 6 10]))
noncomputable def c64:CFn:=⟨[.cell (pp 4) 64 .bk],
 .seq (.reg [
 qo 2 (.m (boxF 64 (tt 0))) [pp 0],
 qo 3 (.m (boxF 64 (tt 1))) [pp 1],
 qo 4 (.m (allocF 64 [.blk 0])) []]) (
 .seq (.reg [
 qo 5 (.m (allocF 64 [.blk 0])) []]) (
 .seq (.seq (.reg [
 qo 6 (.p (S.get (ii 0))) []]) (
 .block 0 (.loop c64_l0))) (
 .seq (.reg [
 qo 20 (.r (loadF (tt 5) 64 .bk)) [pp 5],
 qn (.a (storeF (tt 4) (tt 20) 64)) [pp 4,pp 20]]) (
 .ret))))⟩
theorem c64_eq:fnOf Tryz.prog 64=some c64:=by kernel_rfl
noncomputable def xorF (z a b:Nat):Nat→Nat
 | 0=>z
 | i+1=>setByte (xorF z a b i) i (xo8 (byte a i) (byte b i))
theorem byte_xorF (z a b:Nat):∀(i j:Nat),byte (xorF z a b i) j=if j < i then xo8 (byte a j) (byte b j) else byte z j
 | 0,j=>by rw[if_neg (by omega)];rfl
 | i+1,j=>by
  unfold xorF
  rw[byte_setByte _ _ _ _ (xo8_lt (byte_lt _ _) (byte_lt _ _)),byte_xorF z a b i j]
  by_cases e:j=i
  ·subst e;rw[if_pos rfl,if_pos (by omega)]
  ·rw[if_neg e]
   by_cases h:j < i
   ·rw[if_pos h,if_pos (by omega)]
   ·rw[if_neg h,if_neg (by omega)]
theorem xorF_lt {z:Nat} (a b:Nat) (hz:z < 256 ^ 64):∀ i,i≤64→xorF z a b i < 256 ^ 64
 | 0,_=>hz
 | i+1,hi=>setByte_lt _ _ _ (xo8_lt (byte_lt _ _) (byte_lt _ _)) (by omega) (xorF_lt a b hz i (by omega))
noncomputable def xorB (a b:Nat):Nat:=xorF 0 a b 64
theorem xorB_lt (a b:Nat):xorB a b < 256 ^ 64:=xorF_lt a b (by decide) 64 (Nat.le_refl _)
theorem byte_xorB (a b:Nat) {j:Nat} (hj:j < 64):byte (xorB a b) j=xo8 (byte a j) (byte b j):=by
 unfold xorB
 rw[byte_xorF,if_pos hj]
theorem xorF_eq {a:Nat} (ha:a < 256 ^ 64) (b:Nat):xorF a a b 64=xorB a b:=
 eq_of_bytes (xorF_lt a b ha 64 (Nat.le_refl _)) (xorB_lt a b) (fun j hj=>by rw[byte_xorF,if_pos hj,byte_xorB a b hj])
theorem wxor_ok (H:Heap) {a:Nat} (ha:a < 256 ^ 64) (b:Nat) {lf:Nat} (hlf:64 < lf) (m:Nat):ret (callS Tryz.prog S0 lf (m+1) 140 [.blk a,.blk b] H) fun v H'=>v=.blk (xorB a b)∧Turns Z H H':=by
 have hloop:∀(H1:Heap) (t:T),Turns Z H H1→H1.get (.run H.next)=some (.rows false 64 [[.blk a]])→H1.get (.run (H.next+2))=some (.rows false 64 [[.blk 0]])→H.next+2 < H1.next →
   t.getP (Tr.path 2)=some (.ptr (some ⟨.run H.next,0⟩))→t.getP (Tr.path 4)=some (.ptr (some ⟨.run (H.next+2),0⟩))→t.getP (Tr.path 7)=some (.blk b)→t.getP (Tr.path 8)=some (.int .i64 0) →
   wp (loopF (runC (callS Tryz.prog S0 lf m) lf c140_l0) lf ⟨t,H1,[]⟩) fun x s=>
    x=.ex 0∧s.d=[]∧s.t.getP (Tr.path 2)=some (.ptr (some ⟨.run H.next,0⟩))∧s.t.getP (Tr.path 4)=some (.ptr (some ⟨.run (H.next+2),0⟩))∧Turns Z H s.H∧s.H.get (.run H.next)=some (.rows false 64 [[.blk (xorF a a b 64)]])∧s.H.get (.run (H.next+2))=some (.rows false 64 [[.blk 0]]):=by
  intro H1 t hT g1 g2 hn q2 q4 q7 q8
  refine wp_loopF (fun k s=>∃ i,i+k=64∧s.d=[]∧s.t.getP (Tr.path 2)=some (.ptr (some ⟨.run H.next,0⟩))∧s.t.getP (Tr.path 4)=some (.ptr (some ⟨.run (H.next+2),0⟩))∧s.t.getP (Tr.path 7)=some (.blk b)∧s.t.getP (Tr.path 8)=some (.int .i64 (i:Int))∧Turns Z H s.H ∧
   s.H.get (.run H.next)=some (.rows false 64 [[.blk (xorF a a b i)]])∧s.H.get (.run (H.next+2))=some (.rows false 64 [[.blk 0]])) ?_ lf 64 _ ⟨0,rfl,rfl,q2,q4,q7,q8,hT,g1,g2⟩ (by omega)
  rintro k ⟨t,HH,d⟩ ⟨i,hi,rfl,q2,q4,q7,q8,hT,g1,g2⟩
  dsimp only at q2 q4 q7 q8 hT g1 g2
  cases k with
  | zero=>
   have hi:i=64:=by omega
   subst hi
   have hnl:decide (((64:Nat):Int) < 64)=false:=rfl
   simp only[c140_l0,q2,q4,q7,q8,hnl,sy,tup,↓reduceIte,zA,zG,zC,zD,zF,zE,zB,zH,reduceCtorEq]
   exact⟨trivial,trivial,trivial,trivial,hT,g1,g2⟩
  | succ k=>
   have h64:(i:Int) < 64:=by omega
   have hi64:i < 64:=by omega
   have hi1:i+1≤64:=hi64
   have hi2:i≤63:=by omega
   have lb:=cell_load_byte g1 hi64
   rw[byte_xorF,if_neg (by omega)] at lb
   have cb:=cut_byte b i hi64
   have hx:=xor_u8 (byte_lt a i) (byte_lt b i)
   have st:=cell_store_byte g1 hi64 (xo8_lt (byte_lt a i) (byte_lt b i))
   change storeAt HH ⟨.run H.next,i⟩ [.int .u8 ((xo8 (byte a i) (byte b i):Nat):Int)]=some (HH.set (.run H.next) (.rows false 64 [[.blk (xorF a a b (i+1))]])) at st
   have hw:IntKind.i64.wrap ((i:Int)+1)=((i+1:Nat):Int):=by rw[wrap_i64 (by omega)];rfl
   simp only[c140_l0,q2,q4,q7,q8,h64,hi1,hi2,lb,cb,hx,st,hw,iaddrAF,Nat.mul_one,sy,tup,↓reduceIte,zA,zG,zC,zD,zF,zE,zB,zH,reduceCtorEq]
   refine⟨k,Nat.lt_succ_self k,i+1,by omega,trivial,by simp[q2],by simp[q4],by simp[q7],by simp,hT.setnew (by omega) _,?_,?_⟩
   ·rw[Heap.get_set,if_pos rfl]
   ·rw[Heap.get_set,if_neg (by simp<;>omega)];exact g2
 refine ret_call rfl c140_eq ?_
 have hB:(((H.add (.rows false 64 [[.blk a]])).add (.rows false 64 [[.blk b]])).add (.rows false 64 [[.blk 0]])).get (.run (H.next+1))=some (.rows false 64 [[.blk b]]):=by
  rw[Heap.get_add,if_neg (by simp<;>omega),Heap.get_add,if_pos (by simp)]
 have ld:=load_of hB
 simp only[c140,ld,sy,tup,↓reduceIte,zA,zG,zC,zD,zF,zE,zB,zH,reduceCtorEq]
 refine wp_ctx (F:=fun r=>seqC _ _ _ (blockC _ r)) (hloop _ _ ((((Turns.refl Z H).addm _).addm _).addm _) ?_ ?_ ?_ ?_ ?_ ?_ ?_) ?_
 ·rw[Heap.get_add,if_neg (by simp<;>omega),Heap.get_add,if_neg (by simp<;>omega),Heap.get_add,if_pos rfl]
 ·rw[Heap.get_add,if_pos (by simp)]
 ·show _ < _+1+1+1;omega
 ·simp only[sy,tup,↓reduceIte,zA,zG,zC,zD,zF,zE,zB,zH,reduceCtorEq]
 ·simp only[sy,tup,↓reduceIte,zA,zG,zC,zD,zF,zE,zB,zH,reduceCtorEq]
 ·simp only[sy,tup,↓reduceIte,zA,zG,zC,zD,zF,zE,zB,zH,reduceCtorEq]
 ·simp only[sy,tup,↓reduceIte,zA,zG,zC,zD,zF,zE,zB,zH,reduceCtorEq]
 rintro x ⟨t,HH,d⟩ ⟨rfl,rfl,q2,q4,hT,g1,g2⟩
 dsimp only at q2 q4 hT g1 g2
 rw[xorF_eq ha] at g1
 have ld:=load_of g1
 have st:=cell_store (v:=xorB a b) g2
 have hg:(HH.set (.run (H.next+2)) (.rows false 64 [[.blk (xorB a b)]])).get (.run (H.next+2))=some (.rows false 64 [[.blk (xorB a b)]]):=by rw[Heap.get_set,if_pos rfl]
 have ld2:=load_of hg
 simp only[q2,q4,ld,st,ld2,sy,tup,↓reduceIte,zA,zG,zC,zD,zF,zE,zB,zH,reduceCtorEq]
 exact⟨trivial,.inr trivial,_,rfl,rfl,hT.setnew (by omega) _⟩
theorem rxor_ok (H:Heap) (a b:Nat) {lf:Nat} (hlf:64 < lf) (m:Nat):ret (callS Tryz.prog S0 lf (m+1) 64 [.blk a,.blk b] H) fun v H'=>v=.blk (xorB a b)∧Turns Z H H':=by
 have hloop:∀(H1:Heap) (t:T),Turns Z H H1→H1.get (.run H.next)=some (.rows false 64 [[.blk a]])→H1.get (.run (H.next+1))=some (.rows false 64 [[.blk b]])→H1.get (.run (H.next+2))=some (.rows false 64 [[.blk 0]])→H1.get (.run (H.next+3))=some (.rows false 64 [[.blk 0]]) →
   t.getP (Tr.path 2)=some (.ptr (some ⟨.run H.next,0⟩))→t.getP (Tr.path 3)=some (.ptr (some ⟨.run (H.next+1),0⟩))→t.getP (Tr.path 4)=some (.ptr (some ⟨.run (H.next+2),0⟩))→t.getP (Tr.path 5)=some (.ptr (some ⟨.run (H.next+3),0⟩))→t.getP (Tr.path 6)=some (.int .i64 0) →
   wp (loopF (runC (callS Tryz.prog S0 lf m) lf c64_l0) lf ⟨t,H1,[]⟩) fun x s=>
    x=.ex 0∧s.d=[]∧s.t.getP (Tr.path 4)=some (.ptr (some ⟨.run (H.next+2),0⟩))∧s.t.getP (Tr.path 5)=some (.ptr (some ⟨.run (H.next+3),0⟩))∧Turns Z H s.H∧s.H.get (.run (H.next+3))=some (.rows false 64 [[.blk (xorB a b)]])∧s.H.get (.run (H.next+2))=some (.rows false 64 [[.blk 0]]):=by
  intro H1 t hT g1 g2 g3 g4 q2 q3 q4 q5 q6
  refine wp_loopF (fun k s=>∃ i,i+k=64∧s.d=[]∧s.t.getP (Tr.path 2)=some (.ptr (some ⟨.run H.next,0⟩))∧s.t.getP (Tr.path 3)=some (.ptr (some ⟨.run (H.next+1),0⟩))∧s.t.getP (Tr.path 4)=some (.ptr (some ⟨.run (H.next+2),0⟩))∧s.t.getP (Tr.path 5)=some (.ptr (some ⟨.run (H.next+3),0⟩))∧s.t.getP (Tr.path 6)=some (.int .i64 (i:Int))∧Turns Z H s.H ∧
   s.H.get (.run H.next)=some (.rows false 64 [[.blk a]])∧s.H.get (.run (H.next+1))=some (.rows false 64 [[.blk b]])∧s.H.get (.run (H.next+2))=some (.rows false 64 [[.blk 0]])∧s.H.get (.run (H.next+3))=some (.rows false 64 [[.blk (xorF 0 a b i)]])) ?_ lf 64 _ ⟨0,rfl,rfl,q2,q3,q4,q5,q6,hT,g1,g2,g3,g4⟩ (by omega)
  rintro k ⟨t,HH,d⟩ ⟨i,hi,rfl,q2,q3,q4,q5,q6,hT,g1,g2,g3,g4⟩
  dsimp only at q2 q3 q4 q5 q6 hT g1 g2 g3 g4
  cases k with
  | zero=>
   have hi:i=64:=by omega
   subst hi
   have hnl:decide (((64:Nat):Int) < 64)=false:=rfl
   simp only[c64_l0,q2,q3,q4,q5,q6,hnl,sy,tup,↓reduceIte,zA,zG,zC,zD,zF,zE,zB,zH,reduceCtorEq]
   exact⟨trivial,trivial,trivial,trivial,hT,g4,g3⟩
  | succ k=>
   have h64:(i:Int) < 64:=by omega
   have hi64:i < 64:=by omega
   have hi1:i+1≤64:=hi64
   have la:=cell_load_byte g1 hi64
   have lb:=cell_load_byte g2 hi64
   have hx:=xor_u8 (byte_lt a i) (byte_lt b i)
   have st:=cell_store_byte g4 hi64 (xo8_lt (byte_lt a i) (byte_lt b i))
   change storeAt HH ⟨.run (H.next+3),i⟩ [.int .u8 ((xo8 (byte a i) (byte b i):Nat):Int)]=some (HH.set (.run (H.next+3)) (.rows false 64 [[.blk (xorF 0 a b (i+1))]])) at st
   have hw:IntKind.i64.wrap ((i:Int)+1)=((i+1:Nat):Int):=by rw[wrap_i64 (by omega)];rfl
   simp only[c64_l0,q2,q3,q4,q5,q6,h64,hi1,la,lb,hx,st,hw,iaddrAF,Nat.mul_one,sy,tup,↓reduceIte,zA,zG,zC,zD,zF,zE,zB,zH,reduceCtorEq]
   rw[endD_ok (by kernel_rfl) (by kernel_rfl)]
   simp only[q6,hw,sy,tup,↓reduceIte,zA,zG,zC,zD,zF,zE,zB,zH,reduceCtorEq]
   refine⟨k,Nat.lt_succ_self k,i+1,by omega,trivial,by simp[q2],by simp[q3],by simp[q4],by simp[q5],by simp,hT.setnew (by omega) _,?_,?_,?_,?_⟩
   ·rw[Heap.get_set,if_neg (by simp<;>omega)];exact g1
   ·rw[Heap.get_set,if_neg (by simp<;>omega)];exact g2
   ·rw[Heap.get_set,if_neg (by simp<;>omega)];exact g3
   ·rw[Heap.get_set,if_pos rfl]
 refine ret_call rfl c64_eq ?_
 simp only[c64,sy,tup,↓reduceIte,zA,zG,zC,zD,zF,zE,zB,zH,reduceCtorEq]
 refine wp_ctx (F:=fun r=>seqC _ _ _ (blockC _ r)) (hloop _ _ (((((Turns.refl Z H).addm _).addm _).addm _).addm _) ?_ ?_ ?_ ?_ ?_ ?_ ?_ ?_ ?_) ?_
 ·rw[Heap.get_add,if_neg (by simp<;>omega),Heap.get_add,if_neg (by simp<;>omega),Heap.get_add,if_neg (by simp<;>omega),Heap.get_add,if_pos rfl]
 ·rw[Heap.get_add,if_neg (by simp<;>omega),Heap.get_add,if_neg (by simp<;>omega),Heap.get_add,if_pos (by simp)]
 ·rw[Heap.get_add,if_neg (by simp<;>omega),Heap.get_add,if_pos (by simp<;>omega)]
 ·rw[Heap.get_add,if_pos (by simp<;>omega)]
 ·simp only[sy,tup,↓reduceIte,zA,zG,zC,zD,zF,zE,zB,zH,reduceCtorEq]
 ·simp only[sy,tup,↓reduceIte,zA,zG,zC,zD,zF,zE,zB,zH,reduceCtorEq]
 ·simp only[sy,tup,↓reduceIte,zA,zG,zC,zD,zF,zE,zB,zH,reduceCtorEq]
 ·simp only[sy,tup,↓reduceIte,zA,zG,zC,zD,zF,zE,zB,zH,reduceCtorEq]
 ·simp only[sy,tup,↓reduceIte,zA,zG,zC,zD,zF,zE,zB,zH,reduceCtorEq]
 rintro x ⟨t,HH,d⟩ ⟨rfl,rfl,q4,q5,hT,g1,g2⟩
 dsimp only at q4 q5 hT g1 g2
 have ld:=load_of g1
 have st:=cell_store (v:=xorB a b) g2
 have hg:(HH.set (.run (H.next+2)) (.rows false 64 [[.blk (xorB a b)]])).get (.run (H.next+2))=some (.rows false 64 [[.blk (xorB a b)]]):=by rw[Heap.get_set,if_pos rfl]
 have ld2:=load_of hg
 simp only[q4,q5,ld,st,ld2,sy,tup,↓reduceIte,zA,zG,zC,zD,zF,zE,zB,zH,reduceCtorEq]
 exact⟨trivial,.inr trivial,_,rfl,rfl,hT.setnew (by omega) _⟩
end Go.Proofs.YtabebpemfinejaaGreat.disk
namespace Go.Proofs.YtabebpemfinejaaGreat.draft
open Go.Am
open disk (bx Fit A1 R1 Low Bn xorB)
noncomputable def c69_l0:C:=.seq (.reg [
 qo 17 (.p (arF .lss (tt 16) (tt 15))) [pp 16,pp 15]]) (
 .seq (.cond (tt 17) (.skip) (.exit 0)) (
 .seq (.block 1 (.seq (.reg [
 mv 18 16,
 mv 9 18]) (
 .seq (.seq (.reg [
 mv 19 9,
 mv 20 2,
 qo 21 (.p (eqcF false false [.int .i64] (tt 19) (tt 20))) [pp 19,pp 20]]) (
 .cond (tt 21) (.exit 1) (.skip))) (
 .seq (.reg [
 mv 23 0,
 mv 24 1,
 mv 25 9,
 qo 26 (.p (buildF [.int .i64 0,.int .i64 0] .ag [(0,1,(tt 24)),(1,1,(tt 25))])) [pp 24,pp 25],
 qo 27 (.c (callF (ff 60) [(tt 23),(tt 26)])) [pp 23,pp 26],
 mv 22 27,
 qo 28 (.p (extF (tt 22) 0)) [pp 22],
 qo 29 (.p (extF (tt 22) 1)) [pp 22],
 qo 10 (.m (allocF 64 [.blk 0])) [],
 qn (.a (storeF (tt 10) (tt 28) 64)) [pp 10,pp 28],
 mv 11 29]) (
 .seq (.seq (.reg [
 mv 30 11,
 qo 31 (.p (eqcF true false [.int .i64] (tt 30) (ii 0))) [pp 30]]) (
 .cond (tt 31) (.seq (.reg [
 mv 32 11,
 qo 6 (.p (S.get (.c (.slice none 0 0 0)))) [],
 mv 7 32]) (
 .ret)) (.skip))) (
 .reg [
 mv 33 8,
 qo 34 (.r (loadF (tt 10) 64 .bk)) [pp 10],
 qo 35 (.m (bsliceF 1 64 [.blk 0] [(0,64,(tt 34))])) [pp 34],
 qo 36 (.a (appF 64 64 (tt 33) (tt 35))) [pp 33,pp 35],
 mv 8 36])))))) (
 .reg [
 qo 37 (.p (arF .add (tt 16) (ii 1))) [pp 16],
 mv 16 37])))
noncomputable def c69:CFn:=⟨[.tmp (pp 6),.tmp (pp 7)],
 .seq (.reg [
 qo 6 (.p (S.get (.c (.slice none 0 0 0)))) [],
 qo 7 (.p (S.get (ii 0))) []]) (
 .seq (.reg [
 qo 8 (.p (S.get (.c (.slice none 0 0 0)))) []]) (
 .seq (.seq (.reg [
 mv 12 0,
 qo 13 (.c (callF (ff 16) [(tt 12)])) [pp 12],
 qo 14 (.p (fldF (tt 13) 0 3 .ag)) [pp 13],
 qo 15 (.p (fldF (tt 14) 0 1 .sc)) [pp 14],
 qo 16 (.p (S.get (ii 0))) []]) (
 .block 0 (.loop c69_l0))) (
 .seq (.reg [
 mv 38 8,
 mv 6 38,
 qo 7 (.p (S.get (ii 0))) []]) (
 .ret))))⟩
theorem c69_eq:fnOf Tryz.prog 69=some c69:=by kernel_rfl
noncomputable def c73:CFn:=⟨[.cell (pp 4) 64 .bk,.tmp (pp 5)],
 .seq (.reg [
 qo 3 (.m (boxF 2 (tt 1))) [pp 1],
 qo 4 (.m (allocF 64 [.blk 0])) [],
 qo 5 (.p (S.get (ii 0))) []]) (
 .seq (.reg [
 mv 10 0,
 qo 11 (.r (loadF (tt 3) 2 .ag)) [pp 3],
 qo 12 (.c (callF (ff 60) [(tt 10),(tt 11)])) [pp 10,pp 11],
 mv 9 12,
 qo 13 (.p (extF (tt 9) 0)) [pp 9],
 qo 14 (.p (extF (tt 9) 1)) [pp 9],
 qo 6 (.m (allocF 64 [.blk 0])) [],
 qn (.a (storeF (tt 6) (tt 13) 64)) [pp 6,pp 13],
 mv 7 14]) (
 .seq (.seq (.reg [
 mv 15 7,
 qo 16 (.p (eqcF true false [.int .i64] (tt 15) (ii 7))) [pp 15]]) (
 .cond (tt 16) (.seq (.reg [
 qo 17 (.r (loadF (tt 6) 64 .bk)) [pp 6],
 mv 18 7,
 qn (.a (storeF (tt 4) (tt 17) 64)) [pp 4,pp 17],
 mv 5 18]) (
 .ret)) (.skip))) (
 .seq (.reg [
 mv 20 0,
 qo 21 (.p (faddrF (tt 3) 0)) [pp 3],
 qo 22 (.r (loadF (tt 21) 1 .sc)) [pp 21],
 qo 23 (.p (faddrF (tt 3) 1)) [pp 3],
 qo 24 (.r (loadF (tt 23) 1 .sc)) [pp 23],
 qo 25 (.c (callF (ff 69) [(tt 20),(tt 22),(tt 24)])) [pp 20,pp 22,pp 24],
 mv 19 25,
 qo 26 (.p (extF (tt 19) 0)) [pp 19],
 qo 27 (.p (extF (tt 19) 1)) [pp 19],
 mv 8 26,
 mv 7 27]) (
 .seq (.seq (.reg [
 mv 28 7,
 qo 29 (.p (eqcF true false [.int .i64] (tt 28) (ii 0))) [pp 28]]) (
 .cond (tt 29) (.seq (.reg [
 qo 30 (.p (buildF [.blk 0] .bk [])) [],
 mv 31 7,
 qo 32 (.c (callF (ff 70) [(tt 31),(ii 16)])) [pp 31],
 qn (.a (storeF (tt 4) (tt 30) 64)) [pp 4,pp 30],
 mv 5 32]) (
 .ret)) (.skip))) (
 .seq (.reg [
 mv 33 8,
 qo 34 (.c (callF (ff 72) [(tt 33)])) [pp 33],
 qn (.a (storeF (tt 4) (tt 34) 64)) [pp 4,pp 34],
 qo 5 (.p (S.get (ii 0))) []]) (
 .ret))))))⟩
theorem c73_eq:fnOf Tryz.prog 73=some c73:=by kernel_rfl
noncomputable def c24:CFn:=⟨[.tmp (pp 4),.tmp (pp 5)],
 .seq (.reg [
 qo 4 (.p (S.get (.c (.bool false)))) [],
 qo 5 (.p (S.get (ii 0))) []]) (
 .seq (.seq (.reg [
 mv 8 0,
 qo 9 (.c (callF (ff 68) [(tt 8)])) [pp 8],
 qo 10 (.p (eqcF false false [.int .u64] (tt 9) (.c (.int .u64 0)))) [pp 9]]) (
 .cond (tt 10) (.seq (.reg [
 qo 4 (.p (S.get (.c (.bool false)))) [],
 qo 5 (.p (S.get (ii 1))) []]) (
 .ret)) (.skip))) (
 .seq (.seq (.reg [
 mv 11 1,
 qo 12 (.p (arF .lss (tt 11) (ii 0))) [pp 11],
 mv 13 12,
 mg 14 1 13 false,
 mg 15 0 13 false,
 qg 16 (.c (callF (ff 16) [(tt 15)])) 13 false [pp 15],
 qg 17 (.p (fldF (tt 16) 0 3 .ag)) 13 false [pp 16],
 qg 18 (.p (fldF (tt 17) 1 1 .sc)) 13 false [pp 17],
 qg 19 (.p (arF .geq (tt 14) (tt 18))) 13 false [pp 14,pp 18],
 qo 20 (.p (pickF (tt 13) (.c (.bool true)) (tt 19))) [pp 13,pp 19]]) (
 .cond (tt 20) (.seq (.reg [
 qo 4 (.p (S.get (.c (.bool false)))) [],
 qo 5 (.p (S.get (ii 2))) []]) (
 .ret)) (.skip))) (
 .seq (.reg [
 mv 22 0,
 mv 23 1,
 qo 24 (.c (callF (ff 69) [(tt 22),(tt 23),(ii (-1))])) [pp 22,pp 23],
 mv 21 24,
 qo 25 (.p (extF (tt 21) 0)) [pp 21],
 qo 26 (.p (extF (tt 21) 1)) [pp 21],
 mv 6 25,
 mv 7 26]) (
 .seq (.seq (.reg [
 mv 27 7,
 qo 28 (.p (eqcF true false [.int .i64] (tt 27) (ii 0))) [pp 27]]) (
 .cond (tt 28) (.seq (.reg [
 mv 29 7,
 qo 30 (.c (callF (ff 70) [(tt 29),(ii 17)])) [pp 29],
 qo 4 (.p (S.get (.c (.bool false)))) [],
 mv 5 30]) (
 .ret)) (.skip))) (
 .seq (.reg [
 mv 31 6,
 qo 32 (.c (callF (ff 72) [(tt 31)])) [pp 31],
 qo 33 (.c (callF (ff 71) [(tt 32)])) [pp 32],
 mv 4 33,
 qo 5 (.p (S.get (ii 0))) []]) (
 .ret))))))⟩
theorem c24_eq:fnOf Tryz.prog 24=some c24:=by kernel_rfl
noncomputable def c25_l0:C:=.seq (.reg [
 qo 28 (.p (arF .lss (tt 27) (tt 26))) [pp 27,pp 26]]) (
 .seq (.cond (tt 28) (.skip) (.exit 0)) (
 .seq (.block 1 (.seq (.reg [
 mv 29 27,
 mv 7 29]) (
 .seq (.reg [
 mv 31 0,
 mv 32 1,
 mv 33 7,
 qo 34 (.p (buildF [.int .i64 0,.int .i64 0] .ag [(0,1,(tt 32)),(1,1,(tt 33))])) [pp 32,pp 33],
 qo 35 (.c (callF (ff 73) [(tt 31),(tt 34)])) [pp 31,pp 34],
 mv 30 35,
 qo 36 (.p (extF (tt 30) 0)) [pp 30],
 qo 37 (.p (extF (tt 30) 1)) [pp 30],
 qo 8 (.m (allocF 64 [.blk 0])) [],
 qn (.a (storeF (tt 8) (tt 36) 64)) [pp 8,pp 36],
 mv 9 37]) (
 .seq (.seq (.reg [
 mv 38 9,
 qo 39 (.p (eqcF true false [.int .i64] (tt 38) (ii 0))) [pp 38]]) (
 .cond (tt 39) (.seq (.reg [
 mv 40 9,
 qo 4 (.p (S.get (.c (.slice none 0 0 0)))) [],
 mv 5 40]) (
 .ret)) (.skip))) (
 .reg [
 mv 41 6,
 qo 42 (.r (loadF (tt 8) 64 .bk)) [pp 8],
 qo 43 (.m (bsliceF 1 64 [.blk 0] [(0,64,(tt 42))])) [pp 42],
 qo 44 (.a (appF 64 64 (tt 41) (tt 43))) [pp 41,pp 43],
 mv 6 44]))))) (
 .reg [
 qo 45 (.p (arF .add (tt 27) (ii 1))) [pp 27],
 mv 27 45])))
noncomputable def c25:CFn:=⟨[.tmp (pp 4),.tmp (pp 5)],
 .seq (.reg [
 qo 4 (.p (S.get (.c (.slice none 0 0 0)))) [],
 qo 5 (.p (S.get (ii 0))) []]) (
 .seq (.seq (.reg [
 mv 10 0,
 qo 11 (.c (callF (ff 68) [(tt 10)])) [pp 10],
 qo 12 (.p (eqcF false false [.int .u64] (tt 11) (.c (.int .u64 0)))) [pp 11]]) (
 .cond (tt 12) (.seq (.reg [
 qo 4 (.p (S.get (.c (.slice none 0 0 0)))) [],
 qo 5 (.p (S.get (ii 1))) []]) (
 .ret)) (.skip))) (
 .seq (.seq (.reg [
 mv 13 1,
 qo 14 (.p (arF .lss (tt 13) (ii 0))) [pp 13],
 mv 15 14,
 mg 16 1 15 false,
 mg 17 0 15 false,
 qg 18 (.c (callF (ff 16) [(tt 17)])) 15 false [pp 17],
 qg 19 (.p (fldF (tt 18) 0 3 .ag)) 15 false [pp 18],
 qg 20 (.p (fldF (tt 19) 1 1 .sc)) 15 false [pp 19],
 qg 21 (.p (arF .geq (tt 16) (tt 20))) 15 false [pp 16,pp 20],
 qo 22 (.p (pickF (tt 15) (.c (.bool true)) (tt 21))) [pp 15,pp 21]]) (
 .cond (tt 22) (.seq (.reg [
 qo 4 (.p (S.get (.c (.slice none 0 0 0)))) [],
 qo 5 (.p (S.get (ii 2))) []]) (
 .ret)) (.skip))) (
 .seq (.reg [
 qo 6 (.p (S.get (.c (.slice none 0 0 0)))) []]) (
 .seq (.seq (.reg [
 mv 23 0,
 qo 24 (.c (callF (ff 16) [(tt 23)])) [pp 23],
 qo 25 (.p (fldF (tt 24) 0 3 .ag)) [pp 24],
 qo 26 (.p (fldF (tt 25) 0 1 .sc)) [pp 25],
 qo 27 (.p (S.get (ii 0))) []]) (
 .block 0 (.loop c25_l0))) (
 .seq (.reg [
 mv 46 6,
 mv 4 46,
 qo 5 (.p (S.get (ii 0))) []]) (
 .ret))))))⟩
theorem c25_eq:fnOf Tryz.prog 25=some c25:=by kernel_rfl
noncomputable def c72_l0:C:=.seq (.reg [
 qo 8 (.p (arF .lss (tt 7) (tt 6))) [pp 7,pp 6]]) (
 .seq (.cond (tt 8) (.skip) (.exit 0)) (
 .seq (.block 1 (.seq (.reg [
 qo 9 (.p (iaddrSF (tt 5) (tt 7) 64)) [pp 5,pp 7],
 qo 10 (.r (loadF (tt 9) 64 .bk)) [pp 9],
 qo 4 (.m (allocF 64 [.blk 0])) [],
 qn (.a (storeF (tt 4) (tt 10) 64)) [pp 4,pp 10]]) (
 .reg [
 qo 11 (.r (loadF (tt 2) 64 .bk)) [pp 2],
 qo 12 (.r (loadF (tt 4) 64 .bk)) [pp 4],
 qo 13 (.c (callF (ff 140) [(tt 11),(tt 12)])) [pp 11,pp 12],
 qn (.a (storeF (tt 2) (tt 13) 64)) [pp 2,pp 13]]))) (
 .reg [
 qo 14 (.p (arF .add (tt 7) (ii 1))) [pp 7],
 mv 7 14])))
noncomputable def c72:CFn:=⟨[.cell (pp 2) 64 .bk],
 .seq (.reg [
 qo 2 (.m (allocF 64 [.blk 0])) []]) (
 .seq (.seq (.reg [
 mv 5 0,
 qo 6 (.p (lenF (tt 5))) [pp 5],
 qo 7 (.p (S.get (ii 0))) []]) (
 .block 0 (.loop c72_l0))) (
 .seq (.reg [
 qo 15 (.r (loadF (tt 2) 64 .bk)) [pp 2],
 qn (.a (storeF (tt 2) (tt 15) 64)) [pp 2,pp 15]]) (
 .ret)))⟩
theorem c72_eq:fnOf Tryz.prog 72=some c72:=by kernel_rfl
noncomputable def c71:CFn:=⟨[.tmp (pp 2)],
 .seq (.reg [
 qo 1 (.m (boxF 64 (tt 0))) [pp 0],
 qo 2 (.p (S.get (.c (.bool false)))) []]) (
 .seq (.reg [
 qo 3 (.r (loadF (tt 1) 64 .bk)) [pp 1],
 qo 4 (.p (buildF [.blk 0] .bk [])) [],
 qo 5 (.p (eqcF false true [.blk] (tt 3) (tt 4))) [pp 3,pp 4],
 mv 2 5]) (
 .ret))⟩
theorem c71_eq:fnOf Tryz.prog 71=some c71:=by kernel_rfl
noncomputable def c22_l0:C:=.seq (.seq (.reg [
 mv 5 4,
 mv 6 0,
 qo 7 (.p (lenF (tt 6))) [pp 6],
 qo 8 (.p (arF .lss (tt 5) (tt 7))) [pp 5,pp 7]]) (
 .cond (tt 8) (.skip) (.exit 0))) (
 .seq (.block 1 (.regD [
 qo 11 (.r (loadF (tt 3) 64 .bk)) [pp 3],
 mv 12 0,
 mv 13 4,
 qo 14 (.p (iaddrSF (tt 12) (tt 13) 64)) [pp 12,pp 13],
 qo 15 (.r (loadF (tt 14) 64 .bk)) [pp 14],
 qo 16 (.c (callF (ff 64) [(tt 11),(tt 15)])) [pp 11,pp 15],
 qn (.a (storeF (tt 3) (tt 16) 64)) [pp 3,pp 16]] [0,0,0,6,14,31,63])) (
 .reg [
 mv 9 4,
 qo 10 (.p (arF .add (tt 9) (ii 1))) [pp 9],
 mv 4 10]))
noncomputable def c22:CFn:=⟨[.cell (pp 2) 64 .bk],
 .seq (.reg [
 qo 2 (.m (allocF 64 [.blk 0])) []]) (
 .seq (.reg [
 qo 3 (.m (allocF 64 [.blk 0])) []]) (
 .seq (.seq (.reg [
 qo 4 (.p (S.get (ii 0))) []]) (
 .block 0 (.loop c22_l0))) (
 .seq (.reg [
 qo 17 (.r (loadF (tt 3) 64 .bk)) [pp 3],
 qn (.a (storeF (tt 2) (tt 17) 64)) [pp 2,pp 17]]) (
 .ret))))⟩
theorem c22_eq:fnOf Tryz.prog 22=some c22:=by kernel_rfl
noncomputable def c26_l0:C:=.seq (.seq (.reg [
 mv 11 5,
 mv 12 0,
 qo 13 (.p (lenF (tt 12))) [pp 12],
 qo 14 (.p (arF .lss (tt 11) (tt 13))) [pp 11,pp 13]]) (
 .cond (tt 14) (.skip) (.exit 0))) (
 .seq (.block 1 (.seq (.regD [
 mv 17 0,
 mv 18 5,
 qo 19 (.p (iaddrSF (tt 17) (tt 18) 64)) [pp 17,pp 18],
 qo 20 (.r (loadF (tt 19) 64 .bk)) [pp 19],
 mv 21 1,
 mv 22 5,
 qo 23 (.p (iaddrSF (tt 21) (tt 22) 64)) [pp 21,pp 22],
 qo 24 (.r (loadF (tt 23) 64 .bk)) [pp 23],
 qo 25 (.p (eqcF true true [.blk] (tt 20) (tt 24))) [pp 20,pp 24]] [0,0,3,7,0,0,48,112,255]) (
 .cond (tt 25) (.seq (.reg [
 qo 4 (.p (S.get (.c (.bool false)))) []]) (
 .ret)) (.skip)))) (
 .reg [
 mv 15 5,
 qo 16 (.p (arF .add (tt 15) (ii 1))) [pp 15],
 mv 5 16]))
noncomputable def c26:CFn:=⟨[.tmp (pp 4)],
 .seq (.reg [
 qo 4 (.p (S.get (.c (.bool false)))) []]) (
 .seq (.seq (.reg [
 mv 6 0,
 qo 7 (.p (lenF (tt 6))) [pp 6],
 mv 8 1,
 qo 9 (.p (lenF (tt 8))) [pp 8],
 qo 10 (.p (eqcF true false [.int .i64] (tt 7) (tt 9))) [pp 7,pp 9]]) (
 .cond (tt 10) (.seq (.reg [
 qo 4 (.p (S.get (.c (.bool false)))) []]) (
 .ret)) (.skip))) (
 .seq (.seq (.reg [
 qo 5 (.p (S.get (ii 0))) []]) (
 .block 0 (.loop c26_l0))) (
 .seq (.reg [
 qo 4 (.p (S.get (.c (.bool true)))) []]) (
 .ret))))⟩
theorem c26_eq:fnOf Tryz.prog 26=some c26:=by kernel_rfl
def rowsK (l:List Nat):List (List V):=l.map fun x:Nat=>[V.blk x]
theorem rowsK_len (l:List Nat):(rowsK l).length=l.length:=by unfold rowsK;simp
theorem lst_awayX {X:Bk→Prop} {H0 HH H' H:Heap} {sz:Nat} {R:List (List V)} {y:V} (hy:Lst H0 HH sz R y) (t:Turns X H HH) (h0:H.next≤H0.next) (k:Turns (Bof y) HH H'):Turns X H H':=
 t.later k (fun c hc hb=>by
  obtain⟨_,rfl,h1,_⟩:=hy.bof hb
  exact absurd hc (Heap.not_old (Nat.le_trans h0 h1)))
theorem appK {X:Bk→Prop} {H1 HH:Heap} {ks:List Nat} {y:V} (hy:Lst H1 HH 64 (rowsK ks) y) (tz:Turns X H1 HH) (hl:ks.length≤1000) (u:Nat):∃ H',appendV 64 64 (HH.add (.rows false 64 [[.blk u]])) y (.slice (some ⟨.run HH.next,0⟩) 1 1 0)=some (.slice (some ⟨.run (HH.next+1),0⟩) (ks.length+1) (ks.length+1) 64,H')∧Lst H1 H' 64 (rowsK (ks++[u])) (.slice (some ⟨.run (HH.next+1),0⟩) (ks.length+1) (ks.length+1) 64)∧Turns X H1 H'∧Turns (Bof y) (HH.add (.rows false 64 [[.blk u]])) H':=by
 have ta:=Turns.add X HH (.rows false 64 [[.blk u]])
 have hxg:(HH.add (.rows false 64 [[.blk u]])).get (.run HH.next)=some (.rows false 64 [[.blk u]]):=by rw[Heap.get_add,if_pos rfl]
 have hya:=hy.turns (Turns.add Z HH (.rows false 64 [[.blk u]])) (fun _ _=>id)
 have hl':=rowsK_len ks
 obtain⟨H',ea,hv',ta',_⟩:=hya.app1 (by':=64) (Nat.le_trans tz.next ta.next) hxg rfl (by decide) (by rw[hl'];omega) (by rw[hl'];omega)
 rw[hl',Heap.next_add] at ea hv'
 have hR:rowsK ks++[[.blk u]]=rowsK (ks++[u]):=by unfold rowsK;simp
 rw[hR] at hv'
 exact⟨H',ea,hv',lst_awayX hya (tz.trans ta) (Nat.le_refl _) ta',ta'⟩
noncomputable def foldB (l:List Nat):Nat:=l.foldl xorB 0
theorem foldB_app (l:List Nat) (x:Nat):foldB (l++[x])=xorB (foldB l) x:=by unfold foldB;rw[List.foldl_append,List.foldl_cons,List.foldl_nil]
theorem foldB_lt (l:List Nat):foldB l < 256 ^ 64:=by
 unfold foldB
 suffices h:∀(l:List Nat) (a:Nat),a < 256 ^ 64→l.foldl xorB a < 256 ^ 64 from h l 0 (by decide)
 intro l
 induction l with
 | nil=>intro a h;rw[List.foldl_nil];exact h
 | cons x l ih=>intro a h;rw[List.foldl_cons];exact ih _ (disk.xorB_lt a x)
structure BlksAt (H:Heap) (v:V) (l:List Nat):Prop where
 ex:∃ p c o,v=.slice p l.length c o
 get:∀(i:Nat) (hi:i < l.length),∃ n o c z,v=.slice (some ⟨.run n,o⟩) l.length c z∧loadAt H ⟨.run n,o+i*64⟩ 64=some [.blk l[i]]
theorem blks_lst {H0 H:Heap} {l:List Nat} {v:V} (h:Lst H0 H 64 (rowsK l) v):BlksAt H v l:=by
 refine⟨?_,fun i hi=>?_⟩
 ·obtain⟨p,c,o,e⟩:=h.val
  rw[rowsK_len] at e
  exact⟨p,c,o,e⟩
 ·obtain⟨n,e,hl⟩:=h.load (i:=i) (o:=0) (k:=64) (r:=[.blk l[i]]) (by unfold rowsK;rw[List.getElem?_map,List.getElem?_eq_getElem hi];rfl) (by decide)
  rw[rowsK_len] at e
  exact⟨n,0,_,_,e,by have:=hl;rw[Nat.zero_add];exact this⟩
section
variable {lf K:Nat} (hlf:1000 < lf)
include hlf
theorem uzero (G:Heap) (x:Nat) (n:Nat):ret (U lf K (n+1) 71 [.blk x] G) fun v G'=>v=.bool (decide (x=0))∧Turns Z G G':=by
 refine ret_callU rfl rfl c71_eq ?_
 simp (maxDischargeDepth:=12) only[c71,hv,ldO_one,stO_one,sy,tup,↓reduceIte,zA,zG,zC,zD,zF,zE,zB,zH,reduceCtorEq]
 exact⟨trivial,.inr trivial,_,rfl,rfl,Turns.add Z G _⟩
theorem ufold {G:Heap} {v:V} {l:List Nat} (hl:∀ H,Turns Z G H→BlksAt H v l) (hs:l.length≤900) (n:Nat):ret (U lf K (n+2) 72 [v] G) fun v G'=>v=.blk (foldB l)∧Turns Z G G':=by
 have eX:∀(H:Heap) (a b:Nat),a < 256 ^ 64→U lf K (n+1) 140 [.blk a,.blk b] H=some (.v (.blk (xorB a b)),H.skip (K+2)):=fun H a b ha=>qp_wall_Xor (fun H=>by
  obtain⟨v,H',e,rfl,t⟩:=disk.wxor_ok H ha b (lf:=lf) (by omega) 59
  exact⟨_,H',e,rfl,t⟩)
 have hloop:∀(H1:Heap) (t:T),Turns Z G H1→H1.get (.run G.next)=some (.rows false 64 [[.blk 0]])→G.next < H1.next →
   t.getP (Tr.path 2)=some (.ptr (some ⟨.run G.next,0⟩))→t.getP (Tr.path 5)=some v→t.getP (Tr.path 6)=some (.int .i64 (l.length:Int))→t.getP (Tr.path 7)=some (.int .i64 0) →
   wp (loopF (runC (U lf K (n+1)) lf c72_l0) lf ⟨t,H1,[]⟩) fun x s=>
    x=.ex 0∧s.d=[]∧s.t.getP (Tr.path 2)=some (.ptr (some ⟨.run G.next,0⟩))∧Turns Z G s.H∧s.H.get (.run G.next)=some (.rows false 64 [[.blk (foldB l)]]):=by
  intro H1 t hT g1 hn q2 q5 q6 q7
  refine wp_loopF (fun k s=>∃ i,k=l.length - i∧i≤l.length∧s.d=[]∧s.t.getP (Tr.path 2)=some (.ptr (some ⟨.run G.next,0⟩))∧s.t.getP (Tr.path 5)=some v∧s.t.getP (Tr.path 6)=some (.int .i64 (l.length:Int))∧s.t.getP (Tr.path 7)=some (.int .i64 (i:Int))∧Turns Z G s.H∧G.next < s.H.next ∧
   s.H.get (.run G.next)=some (.rows false 64 [[.blk (foldB (l.take i))]])) ?_ lf l.length _ ⟨0,rfl,Nat.zero_le _,rfl,q2,q5,q6,q7,hT,hn,g1⟩ (by omega)
  rintro k ⟨t,HH,d⟩ ⟨i,rfl,hi,rfl,q2,q5,q6,q7,hT,hn,g1⟩
  dsimp only at q2 q5 q6 q7 hT hn g1
  by_cases hlt:i < l.length
  ·have hlt':(i:Int) < (l.length:Int):=by omega
   obtain⟨nn,o,c,z,rfl,hld⟩:=(hl HH hT).get i hlt
   rw[ld_get] at hld
   have eX1:=fun H=>eX H (foldB (l.take i)) l[i] (foldB_lt _)
   have hfs:foldB (l.take (i+1))=xorB (foldB (l.take i)) l[i]:=by rw[List.take_succ_eq_append_getElem hlt,foldB_app]
   have hw:IntKind.i64.wrap ((i:Int)+1)=((i+1:Nat):Int):=by rw[Go.Am.wrap_i64 (by omega)];rfl
   have hle:i+1≤l.length:=hlt
   have n1:(G.next=HH.next)=False:=by simp;omega
   have n2:(HH.next=G.next)=False:=by simp;omega
   simp (maxDischargeDepth:=12) only[c72_l0,q2,q5,q6,q7,hlt',hle,hld,g1,eX1,n1,n2,hw,hv,ldO_one,stO_one,sy,tup,↓reduceIte,zA,zG,zC,zD,zF,zE,zB,zH,reduceCtorEq]
   refine⟨l.length - (i+1),by omega,i+1,rfl,hlt,trivial,by simp[q2],by simp[q5],by simp[q6],by simp,?_,?_,by rw[hfs]⟩
   ·refine Turns.setn (hT.trans ?_) _ (Nat.le_refl _) _
    repeat (first | exact Turns.refl _ _ | apply Turns.skip | apply Turns.addm | apply Turns.setb | apply Turns.setl | apply Turns.setr | refine Turns.setn ?_ _ (by omega) _ | refine Turns.trans ?_ (tF _))
   ·show G.next < HH.next+1+(K+2);omega
  ·have:i=l.length:=by omega
   subst this
   rw[List.take_length] at g1
   simp (maxDischargeDepth:=12) only[c72_l0,q2,q5,q6,q7,Int.lt_irrefl,hv,ldO_one,stO_one,sy,tup,↓reduceIte,zA,zG,zC,zD,zF,zE,zB,zH,reduceCtorEq]
   exact⟨trivial,trivial,trivial,hT,g1⟩
 obtain⟨p,c,z,rfl⟩:=(hl G (Turns.refl Z G)).ex
 refine ret_callU rfl rfl c72_eq ?_
 simp (maxDischargeDepth:=12) only[c72,hv,ldO_one,stO_one,sy,tup,↓reduceIte,zA,zG,zC,zD,zF,zE,zB,zH,reduceCtorEq]
 refine wp_ctx (F:=fun r=>seqC _ _ _ (blockC _ r)) (hloop _ _ (Turns.add Z G _) (by rw[Heap.get_add,if_pos rfl]) (by show _ < _;simp) ?_ ?_ ?_ ?_) ?_
 ·simp only[sy,tup,↓reduceIte,zA,zG,zC,zD,zF,zE,zB,zH,reduceCtorEq]
 ·simp only[sy,tup,↓reduceIte,zA,zG,zC,zD,zF,zE,zB,zH,reduceCtorEq]
 ·simp only[sy,tup,↓reduceIte,zA,zG,zC,zD,zF,zE,zB,zH,reduceCtorEq]
 ·simp only[sy,tup,↓reduceIte,zA,zG,zC,zD,zF,zE,zB,zH,reduceCtorEq]
 rintro x ⟨t,HH,d⟩ ⟨rfl,rfl,q2,hT,g1⟩
 dsimp only at q2 hT g1
 simp (maxDischargeDepth:=12) only[q2,g1,hv,ldO_one,stO_one,sy,tup,↓reduceIte,zA,zG,zC,zD,zF,zE,zB,zH,reduceCtorEq]
 refine⟨trivial,.inr trivial,_,rfl,rfl,?_⟩
 exact hT.setn _ (Nat.le_refl _) _
structure Cell (M:Nat) (S:List Nat) (c:Int) (B:Bn) (st:Int) (X:Nat→Nat) (i:Nat):Prop where
 has:hasN S c i st=true
 rc:B.rc (i:Int) (2+st)=0
 rd:B.read (i:Int) (2+st)=X i
def butL (but:Int) (X:Nat→Nat):Nat→List Nat
 | 0=>[]
 | i+1=>if(i:Int)=but then butL but X i else butL but X i++[X i]
theorem butL_len (but:Int) (X:Nat→Nat):∀ i,(butL but X i).length≤i
 | 0=>Nat.le_refl _
 | i+1=>by
  have:=butL_len but X i
  unfold butL
  split
  ·omega
  ·rw[List.length_append];simp;omega
theorem uothers {G:Heap} {h b:Bk} {id ev s r:Int} {M:Nat} {S:List Nat} {c:Int} {g:Bool} {B:Bn} (hh:HB G h b id ev (M:Int) s r S c g B) (hf:fine (M:Int) s r S c) (hok:stateOf S g≠5) {st:Int} (hst:0≤st∧st < s) {X:Nat→Nat} {but:Int} (hC:∀ i,i < M→(i:Int)≠but→Cell M S c B st X i) (n:Nat) :
  ret (U lf K (n+5) 69 [.ptr (some ⟨h,0⟩),.int .i64 st,.int .i64 but] G) fun v G'=>∃ y,v=.tuple [y,.int .i64 0]∧Lst G G' 64 (rowsK (butL but X M)) y∧Turns Z G G':=by
 obtain⟨bm,bs,br⟩:=may_t hf.1
 have hS:=hh.hull.len
 have hloop:∀(H1:Heap) (t:T),Turns Z G H1→t.getP (Tr.path 0)=some (.ptr (some ⟨h,0⟩))→t.getP (Tr.path 1)=some (.int .i64 st)→t.getP (Tr.path 2)=some (.int .i64 but)→t.getP (Tr.path 8)=some (.slice none 0 0 0)→t.getP (Tr.path 15)=some (.int .i64 (M:Int))→t.getP (Tr.path 16)=some (.int .i64 0) →
   wp (loopF (runC (U lf K (n+4)) lf c69_l0) lf ⟨t,H1,[]⟩) fun x s=>x=.ex 0∧s.d=[]∧∃ y,s.t.getP (Tr.path 8)=some y∧Lst G s.H 64 (rowsK (butL but X M)) y∧Turns Z G s.H:=by
  intro H1 t hT q0 q1 q2 q8 q15 q16
  refine wp_loopF (fun k s=>∃ i,k=M - i∧i≤M∧s.d=[]∧s.t.getP (Tr.path 0)=some (.ptr (some ⟨h,0⟩))∧s.t.getP (Tr.path 1)=some (.int .i64 st)∧s.t.getP (Tr.path 2)=some (.int .i64 but)∧s.t.getP (Tr.path 15)=some (.int .i64 (M:Int))∧s.t.getP (Tr.path 16)=some (.int .i64 (i:Int))∧∃ y,s.t.getP (Tr.path 8)=some y∧Lst G s.H 64 (rowsK (butL but X i)) y∧Turns Z G s.H) ?_ lf M _ ⟨0,rfl,Nat.zero_le _,rfl,q0,q1,q2,q15,q16,_,q8,Lst.nil _ _ _,hT⟩ (by omega)
  rintro k ⟨t,HH,d⟩ ⟨i,rfl,hi,rfl,q0,q1,q2,q15,q16,y,q8,hy,hT⟩
  dsimp only at q0 q1 q2 q8 q15 q16 hy hT
  by_cases hlt:i < M
  ·have hlt':(i:Int) < (M:Int):=by omega
   have hw:IntKind.i64.wrap ((i:Int)+1)=((i+1:Nat):Int):=by rw[Go.Am.wrap_i64 (by omega)];rfl
   by_cases hb:(i:Int)=but
   ·have bb:((i:Int)==but)=true:=by rw[beq_iff_eq];exact hb
    have e1:butL but X (i+1)=butL but X i:=if_pos hb
    simp (maxDischargeDepth:=12) only[c69_l0,q0,q1,q2,q8,q15,q16,hlt',bb,hw,hv,ldO_one,stO_one,sy,tup,↓reduceIte,zA,zG,zC,zD,zF,zE,zB,zH,reduceCtorEq]
    exact⟨M - (i+1),by omega,i+1,rfl,hlt,trivial,trivial,trivial,trivial,trivial,by simp,y,rfl,by rw[e1];exact hy,hT⟩
   ·have bb:((i:Int)==but)=false:=by rw[beq_eq_false_iff_ne];exact hb
    have e1:butL but X (i+1)=butL but X i++[X i]:=if_neg hb
    have hc:=hC i hlt hb
    have hh1:=hh.turns hT
    obtain⟨v2,G2,e2,rfl,t2⟩:=uhread_ok hlf hh1 hf hok (K:=K) hst hlt' hc.has hc.rc n
    rw[hc.rd] at e2
    unfold plc at e2
    have t3:Turns Z G2 ((G2.add (.rows false 64 [[.blk 0]])).set (.run G2.next) (.rows false 64 [[.blk (X i)]])):=by repeat (first | exact Turns.refl _ _ | apply Turns.skip | apply Turns.addm | apply Turns.setb | apply Turns.setl | apply Turns.setr | refine Turns.setn ?_ _ (by omega) _ | refine Turns.trans ?_ (tF _))
    have tz:=hT.trans (t2.trans t3)
    have hy3:=hy.turns (t2.trans t3) (fun _ _ h=>h)
    have hbl:=butL_len hlf but X i
    obtain⟨H',ea,hv',tz',_⟩:=appK hy3 tz (by omega) (X i)
    rw[← e1] at hv'
    simp only[Heap.next_set,Heap.next_add] at ea hv'
    simp (maxDischargeDepth:=12) only[c69_l0,q0,q1,q2,q8,q15,q16,hlt',bb,e2,hw,ea,hv,ldO_one,stO_one,sy,tup,↓reduceIte,zA,zG,zC,zD,zF,zE,zB,zH,reduceCtorEq]
    exact⟨M - (i+1),by omega,i+1,rfl,hlt,trivial,by simp[q0],by simp[q1],by simp[q2],by simp[q15],by simp,_,rfl,hv',tz'⟩
  ·have:i=M:=by omega
   subst this
   simp (maxDischargeDepth:=12) only[c69_l0,q0,q1,q2,q8,q15,q16,Int.lt_irrefl,hv,ldO_one,stO_one,sy,tup,↓reduceIte,zA,zG,zC,zD,zF,zE,zB,zH,reduceCtorEq]
   exact⟨trivial,trivial,y,rfl,hy,hT⟩
 obtain⟨v1,G1,e1,rfl,t1⟩:=uhroster hlf hh (n+2) (K:=K)
 have c0:cut (rcells (M:Int) s r S c g) 0 3=some [.int .i64 (M:Int),.int .i64 s,.int .i64 r]:=by
  rw[cut_thin (r_thin _ _ _ _ _ _) (by rw[r_len hS];decide)]
  rfl
 have c1:cut [V.int .i64 (M:Int),V.int .i64 s,V.int .i64 r] 0 1=some [V.int .i64 (M:Int)]:=rfl
 unfold ros at e1
 refine ret_callU rfl rfl c69_eq ?_
 simp (maxDischargeDepth:=12) only[c69,e1,c0,c1,hv,ldO_one,stO_one,sy,tup,↓reduceIte,zA,zG,zC,zD,zF,zE,zB,zH,reduceCtorEq]
 refine wp_ctx (F:=fun r=>seqC _ _ _ (blockC _ r)) (hloop _ _ t1 ?_ ?_ ?_ ?_ ?_ ?_) ?_
 ·simp only[sy,tup,↓reduceIte,zA,zG,zC,zD,zF,zE,zB,zH,reduceCtorEq]
 ·simp only[sy,tup,↓reduceIte,zA,zG,zC,zD,zF,zE,zB,zH,reduceCtorEq]
 ·simp only[sy,tup,↓reduceIte,zA,zG,zC,zD,zF,zE,zB,zH,reduceCtorEq]
 ·simp only[sy,tup,↓reduceIte,zA,zG,zC,zD,zF,zE,zB,zH,reduceCtorEq]
 ·simp only[sy,tup,↓reduceIte,zA,zG,zC,zD,zF,zE,zB,zH,reduceCtorEq]
 ·simp only[sy,tup,↓reduceIte,zA,zG,zC,zD,zF,zE,zB,zH,reduceCtorEq]
 rintro x ⟨t,HH,d⟩ ⟨rfl,rfl,y,q8,hy,hT⟩
 dsimp only at q8 hy hT
 simp only[q8,sy,tup,↓reduceIte,zA,zG,zC,zD,zF,zE,zB,zH,reduceCtorEq]
 exact⟨trivial,.inr trivial,_,rfl,y,rfl,hy,hT⟩
end
end Go.Proofs.YtabebpemfinejaaGreat.draft
namespace Go.Proofs.YtabebpemfinejaaGreat.draft
open Go.Am
open disk (bx Fit A1 R1 Low Bn xorB)
section
variable {lf K:Nat} (hlf:1000 < lf)
include hlf
theorem urfold {G:Heap} {v:V} {l:List Nat} (hl:∀ H,Turns Z G H→BlksAt H v l) (hs:l.length≤900) (n:Nat):ret (U lf K (n+2) 22 [v] G) fun v G'=>v=.blk (foldB l)∧Turns Z G G':=by
 have eX:∀(H:Heap) (a b:Nat),U lf K (n+1) 64 [.blk a,.blk b] H=some (.v (.blk (xorB a b)),H.skip (K+2)):=fun H a b=>qp_ashlarref03_Xor (fun H=>by
  obtain⟨v,H',e,rfl,t⟩:=disk.rxor_ok H a b (lf:=lf) (by omega) 59
  exact⟨_,H',e,rfl,t⟩)
 have hloop:∀(H1:Heap) (t:T),Turns Z G H1→H1.get (.run (G.next+1))=some (.rows false 64 [[.blk 0]])→G.next+1 < H1.next →
   t.getP (Tr.path 0)=some v→t.getP (Tr.path 3)=some (.ptr (some ⟨.run (G.next+1),0⟩))→t.getP (Tr.path 4)=some (.int .i64 0)→t.getP (Tr.path 2)=some (.ptr (some ⟨.run G.next,0⟩))→H1.get (.run G.next)=some (.rows false 64 [[.blk 0]]) →
   wp (loopF (runC (U lf K (n+1)) lf c22_l0) lf ⟨t,H1,[]⟩) fun x s=>
    x=.ex 0∧s.d=[]∧s.t.getP (Tr.path 3)=some (.ptr (some ⟨.run (G.next+1),0⟩))∧s.t.getP (Tr.path 2)=some (.ptr (some ⟨.run G.next,0⟩))∧Turns Z G s.H∧s.H.get (.run (G.next+1))=some (.rows false 64 [[.blk (foldB l)]])∧s.H.get (.run G.next)=some (.rows false 64 [[.blk 0]]):=by
  intro H1 t hT g1 hn q0 q3 q4 q2 g2
  refine wp_loopF (fun k s=>∃ i,k=l.length - i∧i≤l.length∧s.d=[]∧s.t.getP (Tr.path 0)=some v∧s.t.getP (Tr.path 3)=some (.ptr (some ⟨.run (G.next+1),0⟩))∧s.t.getP (Tr.path 2)=some (.ptr (some ⟨.run G.next,0⟩))∧s.t.getP (Tr.path 4)=some (.int .i64 (i:Int))∧Turns Z G s.H∧G.next+1 < s.H.next ∧
   s.H.get (.run (G.next+1))=some (.rows false 64 [[.blk (foldB (l.take i))]])∧s.H.get (.run G.next)=some (.rows false 64 [[.blk 0]])) ?_ lf l.length _ ⟨0,rfl,Nat.zero_le _,rfl,q0,q3,q2,q4,hT,hn,g1,g2⟩ (by omega)
  rintro k ⟨t,HH,d⟩ ⟨i,rfl,hi,rfl,q0,q3,q2,q4,hT,hn,g1,g2⟩
  dsimp only at q0 q3 q2 q4 hT hn g1 g2
  by_cases hlt:i < l.length
  ·have hlt':(i:Int) < (l.length:Int):=by omega
   obtain⟨nn,o,c,z,rfl,hld⟩:=(hl HH hT).get i hlt
   rw[ld_get] at hld
   have eX1:=fun H=>eX H (foldB (l.take i)) l[i]
   have hfs:foldB (l.take (i+1))=xorB (foldB (l.take i)) l[i]:=by rw[List.take_succ_eq_append_getElem hlt,foldB_app]
   have hw:IntKind.i64.wrap ((i:Int)+1)=((i+1:Nat):Int):=by rw[Go.Am.wrap_i64 (by omega)];rfl
   have hle:i+1≤l.length:=hlt
   have n1:(G.next=G.next+1)=False:=by simp
   simp (maxDischargeDepth:=12) only[c22_l0,q0,q3,q2,q4,hlt',hle,hld,g1,g2,eX1,n1,hw,hv,ldO_one,stO_one,sy,tup,↓reduceIte,zA,zG,zC,zD,zF,zE,zB,zH,reduceCtorEq]
   rw[endD_ok (by kernel_rfl) (by kernel_rfl)]
   simp (maxDischargeDepth:=12) only[q4,hw,g2,n1,hv,ldO_one,stO_one,sy,tup,↓reduceIte,zA,zG,zC,zD,zF,zE,zB,zH,reduceCtorEq]
   refine⟨l.length - (i+1),by omega,i+1,rfl,hlt,trivial,by simp[q0],by simp[q3],by simp[q2],by simp,?_,?_,by rw[hfs],trivial⟩
   ·refine Turns.setn (hT.trans ?_) _ (by omega) _
    repeat (first | exact Turns.refl _ _ | apply Turns.skip | apply Turns.addm | apply Turns.setb | apply Turns.setl | apply Turns.setr | refine Turns.setn ?_ _ (by omega) _ | refine Turns.trans ?_ (tF _))
   ·show G.next+1 < HH.next+(K+2);omega
  ·have:i=l.length:=by omega
   subst this
   rw[List.take_length] at g1
   obtain⟨p,c,z,rfl⟩:=(hl G (Turns.refl Z G)).ex
   simp (maxDischargeDepth:=12) only[c22_l0,q0,q3,q2,q4,Int.lt_irrefl,hv,ldO_one,stO_one,sy,tup,↓reduceIte,zA,zG,zC,zD,zF,zE,zB,zH,reduceCtorEq]
   exact⟨trivial,trivial,trivial,trivial,hT,g1,g2⟩
 obtain⟨p,c,z,rfl⟩:=(hl G (Turns.refl Z G)).ex
 refine ret_callU rfl rfl c22_eq ?_
 simp (maxDischargeDepth:=12) only[c22,hv,ldO_one,stO_one,sy,tup,↓reduceIte,zA,zG,zC,zD,zF,zE,zB,zH,reduceCtorEq]
 refine wp_ctx (F:=fun r=>seqC _ _ _ (blockC _ r)) (hloop _ _ ((Turns.add Z G _).addm _) (by rw[Heap.get_add,if_pos (by simp)]) (by show _ < _;simp) ?_ ?_ ?_ ?_ (by rw[Heap.get_add,if_neg (run_ne (by simp)),Heap.get_add,if_pos rfl])) ?_
 ·simp only[sy,tup,↓reduceIte,zA,zG,zC,zD,zF,zE,zB,zH,reduceCtorEq]
 ·simp only[sy,tup,↓reduceIte,zA,zG,zC,zD,zF,zE,zB,zH,reduceCtorEq]
 ·simp only[sy,tup,↓reduceIte,zA,zG,zC,zD,zF,zE,zB,zH,reduceCtorEq]
 ·simp only[sy,tup,↓reduceIte,zA,zG,zC,zD,zF,zE,zB,zH,reduceCtorEq]
 rintro x ⟨t,HH,d⟩ ⟨rfl,rfl,q3,q2,hT,g1,g2⟩
 dsimp only at q3 q2 hT g1 g2
 simp (maxDischargeDepth:=12) only[q3,q2,g1,g2,hv,ldO_one,stO_one,sy,tup,↓reduceIte,zA,zG,zC,zD,zF,zE,zB,zH,reduceCtorEq]
 refine⟨trivial,.inr trivial,_,rfl,rfl,?_⟩
 exact hT.setn _ (Nat.le_refl _) _
theorem ublocks {G:Heap} {v v':V} {l:List Nat} (h:BlksAt G v l) (h':BlksAt G v' l) (hs:l.length≤900) (n:Nat):ret (U lf K (n+1) 26 [v,v'] G) fun v G'=>v=.bool true∧Turns Z G G':=by
 have hloop:∀(t:T),t.getP (Tr.path 0)=some v→t.getP (Tr.path 1)=some v'→t.getP (Tr.path 5)=some (.int .i64 0) →
   wp (loopF (runC (U lf K n) lf c26_l0) lf ⟨t,G,[]⟩) fun x s=>x=.ex 0∧s.d=[]∧s.H=G:=by
  intro t q0 q1 q5
  refine wp_loopF (fun k s=>∃ i,k=l.length - i∧i≤l.length∧s.d=[]∧s.t.getP (Tr.path 0)=some v∧s.t.getP (Tr.path 1)=some v'∧s.t.getP (Tr.path 5)=some (.int .i64 (i:Int))∧s.H=G) ?_ lf l.length _ ⟨0,rfl,Nat.zero_le _,rfl,q0,q1,q5,rfl⟩ (by omega)
  rintro k ⟨t,HH,d⟩ ⟨i,rfl,hi,rfl,q0,q1,q5,hH⟩
  dsimp only at q0 q1 q5 hH
  subst hH
  by_cases hlt:i < l.length
  ·have hlt':(i:Int) < (l.length:Int):=by omega
   obtain⟨nn,o,c,z,rfl,hld⟩:=h.get i hlt
   obtain⟨nn',o',c',z',rfl,hld'⟩:=h'.get i hlt
   rw[ld_get] at hld hld'
   have hw:IntKind.i64.wrap ((i:Int)+1)=((i+1:Nat):Int):=by rw[Go.Am.wrap_i64 (by omega)];rfl
   have hle:i+1≤l.length:=hlt
   simp (maxDischargeDepth:=12) only[c26_l0,q0,q1,q5,hlt',hle,hld,hld',hw,hv,ldO_one,stO_one,sy,tup,↓reduceIte,zA,zG,zC,zD,zF,zE,zB,zH,reduceCtorEq]
   rw[endD_ok (by kernel_rfl) (by kernel_rfl)]
   simp (maxDischargeDepth:=12) only[q5,hw,hv,ldO_one,stO_one,sy,tup,↓reduceIte,zA,zG,zC,zD,zF,zE,zB,zH,reduceCtorEq]
   exact⟨l.length - (i+1),by omega,i+1,rfl,hlt,trivial,by simp[q0],by simp[q1],by simp,trivial⟩
  ·have:i=l.length:=by omega
   subst this
   obtain⟨p,c,z,rfl⟩:=h.ex
   simp (maxDischargeDepth:=12) only[c26_l0,q0,q1,q5,Int.lt_irrefl,hv,ldO_one,stO_one,sy,tup,↓reduceIte,zA,zG,zC,zD,zF,zE,zB,zH,reduceCtorEq]
   exact⟨trivial,trivial,trivial⟩
 obtain⟨p,c,z,rfl⟩:=h.ex
 obtain⟨p',c',z',rfl⟩:=h'.ex
 refine ret_callU rfl rfl c26_eq ?_
 simp (maxDischargeDepth:=12) only[c26,hv,ldO_one,stO_one,sy,tup,↓reduceIte,zA,zG,zC,zD,zF,zE,zB,zH,reduceCtorEq]
 refine wp_ctx (F:=fun r=>seqC _ _ _ (blockC _ r)) (hloop _ ?_ ?_ ?_) ?_
 ·simp only[sy,tup,↓reduceIte,zA,zG,zC,zD,zF,zE,zB,zH,reduceCtorEq]
 ·simp only[sy,tup,↓reduceIte,zA,zG,zC,zD,zF,zE,zB,zH,reduceCtorEq]
 ·simp only[sy,tup,↓reduceIte,zA,zG,zC,zD,zF,zE,zB,zH,reduceCtorEq]
 rintro x ⟨t,HH,d⟩ ⟨rfl,rfl,hH⟩
 dsimp only at hH
 subst hH
 simp (maxDischargeDepth:=12) only[hv,ldO_one,stO_one,sy,tup,↓reduceIte,zA,zG,zC,zD,zF,zE,zB,zH,reduceCtorEq]
 exact⟨trivial,.inr trivial,_,rfl,rfl,Turns.refl Z _⟩
section
variable {G:Heap} {h b:Bk} {ID E:Nat} {s r:Int} {M k:Nat} {S:List Nat} {c:Int} {g:Bool} {B:Bn} (hh:HB G h b (ID:Int) (E:Int) (M:Int) s r S c g B) (hf:fine (M:Int) s r S c) (hok:stateOf S g≠5) {st:Int} (hst:0≤st∧st < s) {X:Nat→Nat}
include hh hf hok hst
theorem usound (hI:(ID:Int)≠0) (hC:∀ i,i < M→Cell M S c B st X i) (n:Nat):ret (U lf K (n+6) 24 [.ptr (some ⟨h,0⟩),.int .i64 st] G) fun v G'=>v=.tuple [.bool (decide (foldB (butL (-1) X M)=0)),.int .i64 0]∧Turns Z G G':=by
 obtain⟨bm,bs,br⟩:=may_t hf.1
 have hS:=hh.hull.len
 have e0:=uhid hlf hh (n+3) (K:=K)
 obtain⟨v1,G1,e1,rfl,t1⟩:=uhroster hlf hh (n+3) (K:=K)
 obtain⟨v2,G2,e2,y,rfl,hy,t2⟩:=uothers hlf (hh.turns t1) hf hok hst (K:=K) (X:=X) (but:=-1) (fun i hi _=>hC i hi) n
 have hbl:=butL_len hlf (-1) X M
 obtain⟨v3,G3,e3,rfl,t3⟩:=ufold hlf (K:=K) (G:=G2) (v:=y) (l:=butL (-1) X M) (fun H t=>blks_lst (hy.turns t (fun _ _ h=>h))) (by omega) (n+3)
 obtain⟨v4,G4,e4,rfl,t4⟩:=uzero hlf (K:=K) G3 (foldB (butL (-1) X M)) (n+4)
 have b0:((ID:Int)==0)=false:=by rw[beq_eq_false_iff_ne];exact hI
 have g1:¬ st < 0:=by omega
 have g2:¬ s≤st:=by omega
 have c0:cut (rcells (M:Int) s r S c g) 0 3=some [.int .i64 (M:Int),.int .i64 s,.int .i64 r]:=by
  rw[cut_thin (r_thin _ _ _ _ _ _) (by rw[r_len hS];decide)]
  rfl
 have c1:cut [V.int .i64 (M:Int),V.int .i64 s,V.int .i64 r] 1 1=some [V.int .i64 s]:=rfl
 unfold ros at e1
 refine ret_callU rfl rfl c24_eq ?_
 simp (maxDischargeDepth:=12) only[c24,e0,b0,e1,c0,c1,g1,g2,e2,e3,e4,hv,ldO_one,stO_one,sy,tup,↓reduceIte,zA,zG,zC,zD,zF,zE,zB,zH,reduceCtorEq]
 exact⟨trivial,.inr trivial,_,rfl,rfl,((t1.trans t2).trans t3).trans t4⟩
theorem ucell_ok {i:Nat} (hi:i < M) (hC:Cell M S c B st X i) (n:Nat):ret (U lf K (n+5) 73 [.ptr (some ⟨h,0⟩),plc st i] G) fun v G'=>v=.tuple [.blk (X i),.int .i64 0]∧Turns Z G G':=by
 have t1:Turns Z G ((G.add (.rows false 2 [[.int .i64 st,.int .i64 (i:Int)]])).add (.rows false 64 [[.blk 0]])):=by repeat (first | exact Turns.refl _ _ | apply Turns.skip | apply Turns.addm | apply Turns.setb | apply Turns.setl | apply Turns.setr | refine Turns.setn ?_ _ (by omega) _ | refine Turns.trans ?_ (tF _))
 obtain⟨v2,G2,e2,rfl,t2⟩:=uhread_ok hlf (hh.turns t1) hf hok (K:=K) hst (show (i:Int) < (M:Int) by omega) hC.has hC.rc n
 rw[hC.rd] at e2
 have hq2:G2.get (.run (G.next+1))=some (.rows false 64 [[.blk 0]]):=(t2.same (.run (G.next+1)) (by show _ < _;simp) (fun h=>h)).trans (by rw[Heap.get_add,if_pos (by simp)])
 have hn2:G.next+2≤G2.next:=by have:=t2.next;simpa using this
 have c2:cut [V.int .i64 st,V.int .i64 (i:Int)] 0 2=some [V.int .i64 st,V.int .i64 (i:Int)]:=rfl
 have n1:(G.next+1=G2.next)=False:=by simp;omega
 have n2:(G2.next=G.next+1)=False:=by simp;omega
 unfold plc at e2
 refine ret_callU rfl rfl c73_eq ?_
 unfold plc
 simp (maxDischargeDepth:=12) only[c73,c2,e2,hq2,n1,n2,hv,ldO_one,stO_one,sy,tup,↓reduceIte,zA,zG,zC,zD,zF,zE,zB,zH,reduceCtorEq]
 refine⟨trivial,.inr trivial,_,rfl,rfl,?_⟩
 refine Turns.setn ((t1.trans t2).trans ?_) _ (by omega) _
 repeat (first | exact Turns.refl _ _ | apply Turns.skip | apply Turns.addm | apply Turns.setb | apply Turns.setl | apply Turns.setr | refine Turns.setn ?_ _ (by omega) _ | refine Turns.trans ?_ (tF _))
def Behind (M:Nat) (s r:Int) (g:Bool) (st:Int) (X:Nat→Nat) (d:Nat) (S':List Nat) (c':Int) (B':Bn):Prop:=stateOf S' g≠5∧∀ i,i < M→i≠d→Cell M S' c' B' st X i
theorem ucell_dead {i:Nat} (hi:i < M) (hp:Ready M k E ID s r (S.set i 1) (loseC S c i) B) (hH:hasN S c i st=true) (hr:B.rc (i:Int) (2+st)=9)
  (hB:∀ E' S' c' B',Saved M E ID s r (S.set i 1) g B E' S' c' B'→Behind M s r g st X i S' c' B') (n:Nat):ret (U lf K (n+11) 73 [.ptr (some ⟨h,0⟩),plc st i] G) fun v G'=>v=.tuple [.blk (foldB (butL (i:Int) X M)),.int .i64 0]∧∃ E' S' c' B',FoundD h b M E ID i s r S g B G G' E' S' c' B':=by
 obtain⟨bm,bs,br⟩:=may_t hf.1
 have t1:Turns Z G ((G.add (.rows false 2 [[.int .i64 st,.int .i64 (i:Int)]])).add (.rows false 64 [[.blk 0]])):=by repeat (first | exact Turns.refl _ _ | apply Turns.skip | apply Turns.addm | apply Turns.setb | apply Turns.setl | apply Turns.setr | refine Turns.setn ?_ _ (by omega) _ | refine Turns.trans ?_ (tF _))
 have hh1:=hh.turns t1
 obtain⟨v2,G2,e2,E',S',c',B',rfl,hs,hh2,t2⟩:=uhread_dead hlf hh1 hf hi hp hok (K:=K) hst hH hr n
 obtain⟨hok',hC'⟩:=hB E' S' c' B' hs
 rw[if_pos (show failE S' g=0 from if_neg hok')] at e2
 have o1:(((G.add (.rows false 2 [[.int .i64 st,.int .i64 (i:Int)]])).add (.rows false 64 [[.blk 0]]))).Old (.run (G.next+1)):=by show _ < _;simp
 have o0:(((G.add (.rows false 2 [[.int .i64 st,.int .i64 (i:Int)]])).add (.rows false 64 [[.blk 0]]))).Old (.run G.next):=by show _ < _;simp;omega
 have hq1:(((G.add (.rows false 2 [[.int .i64 st,.int .i64 (i:Int)]])).add (.rows false 64 [[.blk 0]]))).get (.run (G.next+1))=some (.rows false 64 [[.blk 0]]):=by rw[Heap.get_add,if_pos (by simp)]
 have hp1:(((G.add (.rows false 2 [[.int .i64 st,.int .i64 (i:Int)]])).add (.rows false 64 [[.blk 0]]))).get (.run G.next)=some (.rows false 2 [[.int .i64 st,.int .i64 (i:Int)]]):=by rw[Heap.get_add,if_neg (run_ne (by simp)),Heap.get_add,if_pos rfl]
 have nb:=ne_of_get hq1 hh1.bench (by intro e;cases e)
 have nh:=ne_of_get hh1.hull.own hq1 (by simp)
 have mb:=ne_of_get hp1 hh1.bench (by intro e;cases e)
 have mh:=ne_of_get hh1.hull.own hp1 (by simp)
 have hq2:G2.get (.run (G.next+1))=some (.rows false 64 [[.blk 0]]):=(t2.same (.run (G.next+1)) o1 (by
  rintro(e | e)
  ·rw[nb] at e;exact e
  ·have e':=e.symm;rw[nh] at e';exact e')).trans hq1
 have hp2:G2.get (.run G.next)=some (.rows false 2 [[.int .i64 st,.int .i64 (i:Int)]]):=(t2.same (.run G.next) o0 (by
  rintro(e | e)
  ·rw[mb] at e;exact e
  ·have e':=e.symm;rw[mh] at e';exact e')).trans hp1
 have hn2:G.next+2≤G2.next:=by have:=t2.next;simpa using this
 have t3:Turns Z G2 ((G2.add (.rows false 64 [[.blk 0]])).set (.run G2.next) (.rows false 64 [[.blk 0]])):=by repeat (first | exact Turns.refl _ _ | apply Turns.skip | apply Turns.addm | apply Turns.setb | apply Turns.setl | apply Turns.setr | refine Turns.setn ?_ _ (by omega) _ | refine Turns.trans ?_ (tF _))
 obtain⟨v4,G4,e4,y,rfl,hy,t4⟩:=uothers hlf (hh2.turns t3) hs.fine hok' hst (K:=K) (X:=X) (but:=(i:Int)) (fun j hj hne=>hC' j hj (fun e=>hne (by rw[e]))) (n+5)
 have hbl:=butL_len hlf (i:Int) X M
 obtain⟨v5,G5,e5,rfl,t5⟩:=ufold hlf (K:=K) (G:=G4) (v:=y) (l:=butL (i:Int) X M) (fun H t=>blks_lst (hy.turns t (fun _ _ h=>h))) (by omega) (n+8)
 have c0:cut [V.int .i64 st,V.int .i64 (i:Int)] 0 1=some [V.int .i64 st]:=rfl
 have c1:cut [V.int .i64 st,V.int .i64 (i:Int)] 1 1=some [V.int .i64 (i:Int)]:=rfl
 have c2:cut [V.int .i64 st,V.int .i64 (i:Int)] 0 2=some [V.int .i64 st,V.int .i64 (i:Int)]:=rfl
 have n1:(G.next+1=G2.next)=False:=by simp;omega
 have n2:(G2.next=G.next+1)=False:=by simp;omega
 have n3:(G.next=G2.next)=False:=by simp;omega
 have hq5:G5.get (.run (G.next+1))=some (.rows false 64 [[.blk 0]]):=((((t3.trans t4).trans t5)).same (.run (G.next+1)) (by show G.next+1 < G2.next;omega) (fun h=>h)).trans hq2
 unfold plc at e2
 refine ret_callU rfl rfl c73_eq ?_
 unfold plc
 simp (maxDischargeDepth:=12) only[c73,c2,e2,hp2,c0,c1,hq2,n1,n2,n3,e4,e5,hq5,hv,ldO_one,stO_one,sy,tup,↓reduceIte,zA,zG,zC,zD,zF,zE,zB,zH,reduceCtorEq]
 refine⟨trivial,.inr trivial,_,rfl,rfl,E',S',c',B',hs,?_,?_⟩
 ·have hh5:=((hh2.turns t3).turns t4).turns t5
  have t6:Turns (fun c=>c=.run (G.next+1)) G5 (G5.set (.run (G.next+1)) (.rows false 64 [[.blk (foldB (butL (i:Int) X M))]])):=Turns.setb (Turns.refl _ _) _
  exact⟨⟨(t6.same h hh5.hull.old (fun e=>by rw[nh] at e;exact e)).trans hh5.hull.own,hh5.hull.len,hh5.hull.old.mono t6.next⟩,(t6.same b hh5.old (fun e=>by have e':=e.symm;rw[nb] at e';exact e')).trans hh5.bench,hh5.old.mono t6.next,hh5.fit⟩
 ·refine Turns.setn ?_ _ (by omega) _
  exact((t1.wide (fun c hc=>hc.elim)).trans t2).trans ((((t3.trans t4).trans t5)).wide (fun c hc=>hc.elim))
theorem ustripe {d:Nat} (hI:(ID:Int)≠0) (hd:d < M) (hp:Ready M k E ID s r (S.set d 1) (loseC S c d) B) (hH:hasN S c d st=true) (hr:B.rc (d:Int) (2+st)=9) (hC:∀ i,i < M→i≠d→Cell M S c B st X i)
  (hB:∀ E' S' c' B',Saved M E ID s r (S.set d 1) g B E' S' c' B'→Behind M s r g st X d S' c' B') (hX:foldB (butL (d:Int) X M)=X d) (n:Nat):ret (U lf K (n+12) 25 [.ptr (some ⟨h,0⟩),.int .i64 st] G) fun v G'=>∃ y,v=.tuple [y,.int .i64 0]∧Lst G G' 64 (rowsK ((List.range M).map X)) y∧Turns (fun c=>c=b∨c=h) G G':=by
 obtain⟨bm,bs,br⟩:=may_t hf.1
 have hS:=hh.hull.len
 have e0:=uhid hlf hh (n+9) (K:=K)
 obtain⟨v1,G1,e1,rfl,t1⟩:=uhroster hlf hh (n+9) (K:=K)
 obtain⟨v2,G2,e2,rfl,t2⟩:=uhroster hlf (hh.turns t1) (n+9) (K:=K)
 have hloop:∀(H1:Heap) (t:T),Turns Z G H1→t.getP (Tr.path 0)=some (.ptr (some ⟨h,0⟩))→t.getP (Tr.path 1)=some (.int .i64 st)→t.getP (Tr.path 6)=some (.slice none 0 0 0)→t.getP (Tr.path 26)=some (.int .i64 (M:Int))→t.getP (Tr.path 27)=some (.int .i64 0) →
   wp (loopF (runC (U lf K (n+11)) lf c25_l0) lf ⟨t,H1,[]⟩) fun x s'=>x=.ex 0∧s'.d=[]∧∃ y,s'.t.getP (Tr.path 6)=some y∧Lst G s'.H 64 (rowsK ((List.range M).map X)) y∧Turns (fun c=>c=b∨c=h) G s'.H:=by
  intro H1 t hT q0 q1 q6 q26 q27
  refine wp_loopF (fun k' s'=>∃ i,k'=M - i∧i≤M∧s'.d=[]∧s'.t.getP (Tr.path 0)=some (.ptr (some ⟨h,0⟩))∧s'.t.getP (Tr.path 1)=some (.int .i64 st)∧s'.t.getP (Tr.path 26)=some (.int .i64 (M:Int))∧s'.t.getP (Tr.path 27)=some (.int .i64 (i:Int))∧(∃ y,s'.t.getP (Tr.path 6)=some y∧Lst G s'.H 64 (rowsK ((List.range i).map X)) y)∧Turns (fun c=>c=b∨c=h) G s'.H ∧
   ((i≤d∧HB s'.H h b (ID:Int) (E:Int) (M:Int) s r S c g B)∨(d < i∧∃ E' S' c' B',Saved M E ID s r (S.set d 1) g B E' S' c' B'∧HB s'.H h b (ID:Int) (E':Int) (M:Int) s r S' c' g B'))) ?_ lf M _ ⟨0,rfl,Nat.zero_le _,rfl,q0,q1,q26,q27,⟨_,q6,Lst.nil _ _ _⟩,hT.wide (fun c hc=>hc.elim),.inl ⟨Nat.zero_le _,hh.turns hT⟩⟩ (by omega)
  rintro k' ⟨t,HH,d'⟩ ⟨i,rfl,hi,rfl,q0,q1,q26,q27,⟨y,q6,hy⟩,hT,hst'⟩
  dsimp only at q0 q1 q26 q27 q6 hy hT hst'
  by_cases hlt:i < M
  ·have hlt':(i:Int) < (M:Int):=by omega
   have hw:IntKind.i64.wrap ((i:Int)+1)=((i+1:Nat):Int):=by rw[Go.Am.wrap_i64 (by omega)];rfl
   have hrs:(List.range (i+1)).map X=(List.range i).map X++[X i]:=by rw[List.range_succ,List.map_append];rfl
   have hrl:((List.range i).map X).length=i:=by simp
   have step:∃ G3,U lf K (n+11) 73 [.ptr (some ⟨h,0⟩),.agg [.int .i64 st,.int .i64 (i:Int)]] HH=some (.v (.tuple [.blk (X i),.int .i64 0]),G3)∧Turns (fun c=>c=b∨c=h) HH G3 ∧
     ((i+1≤d∧HB G3 h b (ID:Int) (E:Int) (M:Int) s r S c g B)∨(d < i+1∧∃ E' S' c' B',Saved M E ID s r (S.set d 1) g B E' S' c' B'∧HB G3 h b (ID:Int) (E':Int) (M:Int) s r S' c' g B')):=by
    rcases hst' with ⟨hid,hh1⟩ | ⟨hid,E',S',c',B',hs,hh1⟩
    ·by_cases e:i=d
     ·subst e
      obtain⟨v3,G3,e3,rfl,E',S',c',B',hs,hh3,t3⟩:=ucell_dead hlf hh1 hf hok hst hlt hp hH hr hB (K:=K) (X:=X) n
      rw[hX] at e3
      exact⟨G3,e3,t3,.inr ⟨by omega,E',S',c',B',hs,hh3⟩⟩
     ·obtain⟨v3,G3,e3,rfl,t3⟩:=ucell_ok hlf hh1 hf hok hst hlt (hC i hlt e) (K:=K) (n+6)
      exact⟨G3,e3,t3.wide (fun c hc=>hc.elim),.inl ⟨by omega,hh1.turns t3⟩⟩
    ·obtain⟨hok',hC'⟩:=hB E' S' c' B' hs
     obtain⟨v3,G3,e3,rfl,t3⟩:=ucell_ok hlf hh1 hs.fine hok' hst hlt (hC' i hlt (by omega)) (K:=K) (n+6)
     exact⟨G3,e3,t3.wide (fun c hc=>hc.elim),.inr ⟨by omega,E',S',c',B',hs,hh1.turns t3⟩⟩
   obtain⟨G3,e3,t3,hst3⟩:=step
   have t4:Turns Z G3 ((G3.add (.rows false 64 [[.blk 0]])).set (.run G3.next) (.rows false 64 [[.blk (X i)]])):=by repeat (first | exact Turns.refl _ _ | apply Turns.skip | apply Turns.addm | apply Turns.setb | apply Turns.setl | apply Turns.setr | refine Turns.setn ?_ _ (by omega) _ | refine Turns.trans ?_ (tF _))
   have tz:=hT.trans (t3.trans (t4.wide (fun c hc=>hc.elim)))
   have hy4:=(hy.turns t3 (fun c hc e=>by
    obtain⟨nn,rfl,h1,_⟩:=hy.bof hc
    rcases e with e | e
    ·exact absurd (e ▸ hh.old) (Heap.not_old h1)
    ·exact absurd (e ▸ hh.hull.old) (Heap.not_old h1))).turns t4 (fun _ _ h=>h)
   obtain⟨H',ea,hv',tz',tb'⟩:=appK hy4 tz (by omega) (X i)
   rw[← hrs] at hv'
   rw[hrl] at ea hv'
   simp only[Heap.next_set,Heap.next_add] at ea hv'
   have t5:Turns (Bof y) G3 H':=((t4.trans (Turns.add Z _ _)).wide (fun c hc=>hc.elim)).trans tb'
   have keep:∀ {ev':Int} {S':List Nat} {c':Int} {B':Bn},HB G3 h b (ID:Int) ev' (M:Int) s r S' c' g B'→HB H' h b (ID:Int) ev' (M:Int) s r S' c' g B':=fun {_ _ _ _} x=>by
    have nb:∀ c,Bof y c→c≠b∧c≠h:=fun c hc=>by
     obtain⟨nn,rfl,h1,_⟩:=hy.bof hc
     exact⟨fun e=>absurd (e ▸ hh.old) (Heap.not_old h1),fun e=>absurd (e ▸ hh.hull.old) (Heap.not_old h1)⟩
    exact⟨⟨(t5.same h x.hull.old (fun e=>(nb _ e).2 rfl)).trans x.hull.own,x.hull.len,x.hull.old.mono t5.next⟩,(t5.same b x.old (fun e=>(nb _ e).1 rfl)).trans x.bench,x.old.mono t5.next,x.fit⟩
   simp (maxDischargeDepth:=12) only[c25_l0,q0,q1,q26,q27,q6,hlt',e3,hw,ea,hv,ldO_one,stO_one,sy,tup,↓reduceIte,zA,zG,zC,zD,zF,zE,zB,zH,reduceCtorEq]
   refine⟨M - (i+1),by omega,i+1,rfl,hlt,trivial,by simp[q0],by simp[q1],by simp[q26],by simp,⟨_,rfl,hv'⟩,tz',?_⟩
   rcases hst3 with ⟨hid,x⟩ | ⟨hid,E',S',c',B',hs,x⟩
   ·exact .inl ⟨hid,keep x⟩
   ·exact .inr ⟨hid,E',S',c',B',hs,keep x⟩
  ·have:i=M:=by omega
   subst this
   simp (maxDischargeDepth:=12) only[c25_l0,q0,q1,q26,q27,q6,Int.lt_irrefl,hv,ldO_one,stO_one,sy,tup,↓reduceIte,zA,zG,zC,zD,zF,zE,zB,zH,reduceCtorEq]
   exact⟨trivial,trivial,y,rfl,hy,hT⟩
 have b0:((ID:Int)==0)=false:=by rw[beq_eq_false_iff_ne];exact hI
 have g1:¬ st < 0:=by omega
 have g2:¬ s≤st:=by omega
 have c0:cut (rcells (M:Int) s r S c g) 0 3=some [.int .i64 (M:Int),.int .i64 s,.int .i64 r]:=by
  rw[cut_thin (r_thin _ _ _ _ _ _) (by rw[r_len hS];decide)]
  rfl
 have c1:cut [V.int .i64 (M:Int),V.int .i64 s,V.int .i64 r] 1 1=some [V.int .i64 s]:=rfl
 have c2:cut [V.int .i64 (M:Int),V.int .i64 s,V.int .i64 r] 0 1=some [V.int .i64 (M:Int)]:=rfl
 unfold ros at e1 e2
 refine ret_callU rfl rfl c25_eq ?_
 simp (maxDischargeDepth:=12) only[c25,e0,b0,e1,c0,c1,c2,g1,g2,e2,hv,ldO_one,stO_one,sy,tup,↓reduceIte,zA,zG,zC,zD,zF,zE,zB,zH,reduceCtorEq]
 refine wp_ctx (F:=fun r=>seqC _ _ _ (blockC _ r)) (hloop _ _ (t1.trans t2) ?_ ?_ ?_ ?_ ?_) ?_
 ·simp only[sy,tup,↓reduceIte,zA,zG,zC,zD,zF,zE,zB,zH,reduceCtorEq]
 ·simp only[sy,tup,↓reduceIte,zA,zG,zC,zD,zF,zE,zB,zH,reduceCtorEq]
 ·simp only[sy,tup,↓reduceIte,zA,zG,zC,zD,zF,zE,zB,zH,reduceCtorEq]
 ·simp only[sy,tup,↓reduceIte,zA,zG,zC,zD,zF,zE,zB,zH,reduceCtorEq]
 ·simp only[sy,tup,↓reduceIte,zA,zG,zC,zD,zF,zE,zB,zH,reduceCtorEq]
 rintro x ⟨t,HH,d'⟩ ⟨rfl,rfl,y,q6,hy,hT⟩
 dsimp only at q6 hy hT
 simp only[q6,sy,tup,↓reduceIte,zA,zG,zC,zD,zF,zE,zB,zH,reduceCtorEq]
 exact⟨trivial,.inr trivial,_,rfl,y,rfl,hy,hT⟩
end
end
end Go.Proofs.YtabebpemfinejaaGreat.draft
namespace Go.Proofs.YtabebpemfinejaaGreat.draft
open Go.Am
open disk (bx Fit A1 R1 Low Bn)
noncomputable def c21_l0:C:=.seq (.seq (.reg [
 mv 20 7,
 mv 21 5,
 qo 22 (.p (arF .lss (tt 20) (tt 21))) [pp 20,pp 21]]) (
 .cond (tt 22) (.skip) (.exit 0))) (
 .seq (.block 1 (.reg [
 mv 25 6,
 qo 26 (.m (bsliceF 1 1 [.int .i64 0] [(0,1,(ii 6))])) [],
 qo 27 (.a (appF 1 8 (tt 25) (tt 26))) [pp 25,pp 26],
 mv 6 27])) (
 .reg [
 mv 23 7,
 qo 24 (.p (arF .add (tt 23) (ii 1))) [pp 23],
 mv 7 24]))
noncomputable def c21:CFn:=⟨[.tmp (pp 2),.tmp (pp 3),.tmp (pp 4)],
 .seq (.reg [
 qo 2 (.p (S.get (.c (.ptr none)))) [],
 qo 3 (.p (S.get (.c (.ptr none)))) [],
 qo 4 (.p (S.get (.c (.ptr none)))) []]) (
 .seq (.reg [
 mv 16 0,
 qo 17 (.p (arF .rem (tt 16) (.c (.int .u8 4)))) [pp 16],
 qo 18 (.p (convF .i64 (tt 17))) [pp 17],
 qo 19 (.p (arF .add (ii 3) (tt 18))) [pp 18],
 mv 5 19]) (
 .seq (.reg [
 qo 6 (.p (S.get (.c (.slice none 0 0 0)))) []]) (
 .seq (.seq (.reg [
 qo 7 (.p (S.get (ii 0))) []]) (
 .block 0 (.loop c21_l0))) (
 .seq (.reg [
 mv 28 6,
 qo 29 (.m (bsliceF 1 1 [.int .i64 0] [(0,1,(ii 50))])) [],
 qo 30 (.a (appF 1 8 (tt 28) (tt 29))) [pp 28,pp 29],
 mv 6 30]) (
 .seq (.reg [
 mv 32 6,
 qo 33 (.c (callF (ff 9) [(tt 32)])) [pp 32],
 mv 31 33,
 qo 34 (.p (extF (tt 31) 0)) [pp 31],
 qo 35 (.p (extF (tt 31) 1)) [pp 31],
 mv 8 34,
 mv 9 35]) (
 .seq (.reg [
 mv 37 6,
 qo 38 (.c (callF (ff 62) [(tt 37)])) [pp 37],
 mv 36 38,
 qo 39 (.p (extF (tt 36) 0)) [pp 36],
 qo 40 (.p (extF (tt 36) 1)) [pp 36],
 mv 10 39,
 mv 11 40]) (
 .seq (.reg [
 mv 42 5,
 qo 43 (.p (buildF [.int .i64 0,.int .i64 0,.int .i64 0] .ag [(0,1,(tt 42)),(1,1,(ii 4)),(2,1,(ii 40))])) [pp 42],
 qo 44 (.c (callF (ff 11) [(tt 43)])) [pp 43],
 mv 41 44,
 qo 45 (.p (extF (tt 41) 0)) [pp 41],
 qo 46 (.p (extF (tt 41) 1)) [pp 41],
 qo 12 (.m (allocF 21 [.int .i64 0,.int .i64 0,.int .i64 0,.int .u8 0,.int .u8 0,.int .u8 0,.int .u8 0,.int .u8 0,.int .u8 0,.int .u8 0,.int .u8 0,.int .u8 0,.int .u8 0,.int .u8 0,.int .u8 0,.int .u8 0,.int .u8 0,.int .u8 0,.int .u8 0,.int .i64 0,.bool false])) [],
 qn (.a (storeF (tt 12) (tt 45) 21)) [pp 12,pp 45],
 mv 13 46]) (
 .seq (.seq (.reg [
 mv 47 9,
 qo 48 (.p (eqcF true false [.int .i64] (tt 47) (ii 0))) [pp 47],
 mv 49 48,
 mg 50 11 49 false,
 qg 51 (.p (eqcF true false [.int .i64] (tt 50) (ii 0))) 49 false [pp 50],
 qo 52 (.p (pickF (tt 49) (.c (.bool true)) (tt 51))) [pp 49,pp 51],
 mv 53 52,
 mg 54 13 53 false,
 qg 55 (.p (eqcF true false [.int .i64] (tt 54) (ii 0))) 53 false [pp 54],
 qo 56 (.p (pickF (tt 53) (.c (.bool true)) (tt 55))) [pp 53,pp 55]]) (
 .cond (tt 56) (.seq (.reg [
 qo 2 (.p (S.get (.c (.ptr none)))) [],
 qo 3 (.p (S.get (.c (.ptr none)))) [],
 qo 4 (.p (S.get (.c (.ptr none)))) []]) (
 .ret)) (.skip))) (
 .seq (.reg [
 mv 58 8,
 qo 59 (.r (loadF (tt 12) 21 .ag)) [pp 12],
 qo 60 (.c (callF (ff 12) [(tt 58),(.c (.int .u64 9)),(.c (.int .u64 0)),(tt 59)])) [pp 58,pp 59],
 mv 57 60,
 qo 61 (.p (extF (tt 57) 0)) [pp 57],
 qo 62 (.p (extF (tt 57) 1)) [pp 57],
 mv 14 61,
 mv 9 62]) (
 .seq (.reg [
 mv 64 10,
 qo 65 (.r (loadF (tt 12) 21 .ag)) [pp 12],
 qo 66 (.c (callF (ff 63) [(tt 64),(.c (.int .u64 9)),(.c (.int .u64 0)),(tt 65)])) [pp 64,pp 65],
 mv 63 66,
 qo 67 (.p (extF (tt 63) 0)) [pp 63],
 qo 68 (.p (extF (tt 63) 1)) [pp 63],
 mv 15 67,
 mv 11 68]) (
 .seq (.seq (.reg [
 mv 69 9,
 qo 70 (.p (eqcF true false [.int .i64] (tt 69) (ii 0))) [pp 69],
 mv 71 70,
 mg 72 11 71 false,
 qg 73 (.p (eqcF true false [.int .i64] (tt 72) (ii 0))) 71 false [pp 72],
 qo 74 (.p (pickF (tt 71) (.c (.bool true)) (tt 73))) [pp 71,pp 73]]) (
 .cond (tt 74) (.seq (.reg [
 qo 2 (.p (S.get (.c (.ptr none)))) [],
 qo 3 (.p (S.get (.c (.ptr none)))) [],
 qo 4 (.p (S.get (.c (.ptr none)))) []]) (
 .ret)) (.skip))) (
 .seq (.reg [
 mv 75 14,
 mv 76 8,
 mv 77 15,
 mv 2 75,
 mv 3 76,
 mv 4 77]) (
 .ret)))))))))))))⟩
theorem c21_eq:fnOf Tryz.prog 21=some c21:=by kernel_rfl
noncomputable def c4_l0:C:=.seq (.seq (.reg [
 mv 68 16,
 mv 69 12,
 qo 70 (.p (arF .lss (tt 68) (tt 69))) [pp 68,pp 69]]) (
 .cond (tt 70) (.skip) (.exit 2))) (
 .seq (.block 3 (.seq (.reg [
 mv 73 9,
 mv 74 13,
 mv 75 16,
 qo 76 (.p (buildF [.int .i64 0,.int .i64 0] .ag [(0,1,(tt 74)),(1,1,(tt 75))])) [pp 74,pp 75],
 mv 77 14,
 mv 78 16,
 qo 79 (.p (iaddrSF (tt 77) (tt 78) 64)) [pp 77,pp 78],
 qo 80 (.r (loadF (tt 79) 64 .bk)) [pp 79],
 qo 81 (.c (callF (ff 23) [(tt 73),(tt 76),(tt 80)])) [pp 73,pp 76,pp 80],
 qo 82 (.p (eqcF true false [.int .i64] (tt 81) (ii 0))) [pp 81]]) (
 .cond (tt 82) (.seq (.reg [
 qo 8 (.p (S.get (.c (.bool false)))) []]) (
 .ret)) (.skip)))) (
 .reg [
 mv 71 16,
 qo 72 (.p (arF .add (tt 71) (ii 1))) [pp 71],
 mv 16 72]))
noncomputable def c4_l1:C:=.seq (.seq (.reg [
 mv 40 15,
 mv 41 12,
 qo 42 (.p (arF .sub (tt 41) (ii 1))) [pp 41],
 qo 43 (.p (arF .lss (tt 40) (tt 42))) [pp 40,pp 42],
 mv 44 43,
 mg 45 15 44 true,
 mg 46 1 44 true,
 qg 47 (.p (lenF (tt 46))) 44 true [pp 46],
 qg 48 (.p (arF .lss (tt 45) (tt 47))) 44 true [pp 45,pp 47],
 qo 49 (.p (pickF (tt 44) (tt 48) (.c (.bool false)))) [pp 44,pp 48]]) (
 .cond (tt 49) (.skip) (.exit 0))) (
 .seq (.block 1 (.reg [
 mv 52 14,
 mv 53 15,
 mv 54 1,
 mv 55 15,
 qo 56 (.p (iaddrSF (tt 54) (tt 55) 64)) [pp 54,pp 55],
 qo 57 (.r (loadF (tt 56) 64 .bk)) [pp 56],
 qo 58 (.p (iaddrSF (tt 52) (tt 53) 64)) [pp 52,pp 53],
 qn (.a (storeF (tt 58) (tt 57) 64)) [pp 58,pp 57]])) (
 .reg [
 mv 50 15,
 qo 51 (.p (arF .add (tt 50) (ii 1))) [pp 50],
 mv 15 51]))
noncomputable def c4:CFn:=⟨[.tmp (pp 8)],
 .seq (.reg [
 qo 8 (.p (S.get (.c (.bool false)))) []]) (
 .seq (.reg [
 mv 22 0,
 qo 23 (.c (callF (ff 21) [(tt 22)])) [pp 22],
 mv 21 23,
 qo 24 (.p (extF (tt 21) 0)) [pp 21],
 qo 25 (.p (extF (tt 21) 1)) [pp 21],
 qo 26 (.p (extF (tt 21) 2)) [pp 21],
 mv 9 24,
 mv 10 25,
 mv 11 26]) (
 .seq (.seq (.reg [
 mv 27 9,
 qo 28 (.r (eqnF false .ptr (tt 27) (.c (.ptr none)))) [pp 27]]) (
 .cond (tt 28) (.seq (.reg [
 qo 8 (.p (S.get (.c (.bool false)))) []]) (
 .ret)) (.skip))) (
 .seq (.reg [
 mv 29 11,
 qo 30 (.p (nilcF (tt 29))) [pp 29],
 qo 31 (.p (faddrF (tt 30) 3)) [pp 30],
 qo 32 (.p (faddrF (tt 31) 0)) [pp 31],
 qo 33 (.p (faddrF (tt 32) 0)) [pp 32],
 qo 34 (.r (loadF (tt 33) 1 .sc)) [pp 33],
 mv 12 34]) (
 .seq (.reg [
 mv 35 2,
 qo 36 (.p (arF .rem (tt 35) (.c (.int .u8 4)))) [pp 35],
 qo 37 (.p (convF .i64 (tt 36))) [pp 36],
 mv 13 37]) (
 .seq (.reg [
 mv 38 12,
 qo 39 (.m (mksliceF 64 64 [.blk 0] (tt 38) (tt 38))) [pp 38,pp 38],
 mv 14 39]) (
 .seq (.seq (.reg [
 qo 15 (.p (S.get (ii 0))) []]) (
 .block 0 (.loop c4_l1))) (
 .seq (.reg [
 mv 59 14,
 mv 60 12,
 qo 61 (.p (arF .sub (tt 60) (ii 1))) [pp 60],
 mv 62 14,
 mv 63 12,
 qo 64 (.p (arF .sub (tt 63) (ii 1))) [pp 63],
 qo 65 (.p (sliceF 64 (tt 62) none (some (tt 64)) none)) [pp 62,pp 64],
 qo 66 (.c (callF (ff 22) [(tt 65)])) [pp 65],
 qo 67 (.p (iaddrSF (tt 59) (tt 61) 64)) [pp 59,pp 61],
 qn (.a (storeF (tt 67) (tt 66) 64)) [pp 67,pp 66]]) (
 .seq (.seq (.reg [
 qo 16 (.p (S.get (ii 0))) []]) (
 .block 2 (.loop c4_l0))) (
 .seq (.reg [
 mv 84 9,
 mv 85 13,
 qo 86 (.c (callF (ff 24) [(tt 84),(tt 85)])) [pp 84,pp 85],
 mv 83 86,
 qo 87 (.p (extF (tt 83) 0)) [pp 83],
 qo 88 (.p (extF (tt 83) 1)) [pp 83],
 mv 17 87,
 mv 18 88]) (
 .seq (.reg [
 mv 89 10,
 mv 90 3,
 qo 91 (.p (convF .i64 (tt 90))) [pp 90],
 mv 92 12,
 qo 93 (.p (arF .rem (tt 91) (tt 92))) [pp 91,pp 92],
 qo 94 (.c (callF (ff 13) [(tt 89),(tt 93)])) [pp 89,pp 93]]) (
 .seq (.reg [
 mv 96 9,
 mv 97 13,
 qo 98 (.c (callF (ff 25) [(tt 96),(tt 97)])) [pp 96,pp 97],
 mv 95 98,
 qo 99 (.p (extF (tt 95) 0)) [pp 95],
 qo 100 (.p (extF (tt 95) 1)) [pp 95],
 mv 19 99,
 mv 20 100]) (
 .seq (.reg [
 mv 101 17,
 mv 102 101,
 mg 103 18 102 true,
 qg 104 (.p (eqcF false false [.int .i64] (tt 103) (ii 0))) 102 true [pp 103],
 qo 105 (.p (pickF (tt 102) (tt 104) (.c (.bool false)))) [pp 102,pp 104],
 mv 106 105,
 mg 107 20 106 true,
 qg 108 (.p (eqcF false false [.int .i64] (tt 107) (ii 0))) 106 true [pp 107],
 qo 109 (.p (pickF (tt 106) (tt 108) (.c (.bool false)))) [pp 106,pp 108],
 mv 110 109,
 mg 111 19 110 true,
 mg 112 14 110 true,
 qg 113 (.c (callF (ff 26) [(tt 111),(tt 112)])) 110 true [pp 111,pp 112],
 qo 114 (.p (pickF (tt 110) (tt 113) (.c (.bool false)))) [pp 110,pp 113],
 mv 115 114,
 qg 116 (.c (callF (ff 27) [])) 115 true [],
 qo 117 (.p (pickF (tt 115) (tt 116) (.c (.bool false)))) [pp 115,pp 116],
 mv 8 117]) (
 .ret)))))))))))))⟩
theorem c4_eq:fnOf Tryz.prog 4=some c4:=by kernel_rfl
section
variable {lf K:Nat} (hlf:1000 < lf)
include hlf
theorem urhnew {G:Heap} {b:Bk} {B:Bn} (hb:G.get b=some (bx true B)) (hf:Fit B) (bo:G.Old b) {id ev m s r c:Int} {g:Bool} {S:List Nat} (hS:S.length=16) (hid0:id≠0) (hev:ev≤2305843009213693952) (hfn:fine m s r S c) (hm:(B.l.length:Int)=m+1)
  (hsec:∀ d,0≤d∧d < m→s+2≤B.sectors d) (n:Nat):ret (U lf K (n+3) 63 [.ptr (some ⟨b,0⟩),.int .u64 id,.int .u64 ev,ros m s r S c g] G) fun v G'=>∃ h,v=.tuple [.ptr (some ⟨h,0⟩),.int .i64 0]∧G'.get h=some (.rows false 24 [hcells b id ev m s r S c g])∧G'.Old h∧Turns Z G G':=by
 have e1:∀ H:Heap,H.get b=some (bx true B)→U lf K (n+2) 131 [.ptr (some ⟨b,0⟩)] H=_:=fun H h=>qRDevices h hf
 have e2:∀(H:Heap) (d:Int),H.get b=some (bx true B)→U lf K (n+2) 132 [.ptr (some ⟨b,0⟩),.int .i64 d] H=_:=fun H d h=>qRSectors h hf d
 have e3:∀ H:Heap,U lf K (n+2) 130 [ros m s r S c g] H=some (.v (.bool true),H.skip (K+2)):=fun H=>qp_ashlarref10_May (fun H=>by
  obtain⟨v,H',e,⟨z,rfl,hz⟩,t⟩:=rosmay_ok H (m:=m) (s:=s) (r:=r) (c:=c) (g:=g) hS lf 57 (by omega)
  exact⟨_,H',e,by rw[hz.2 hfn],t⟩)
 rw[hm] at e1
 have hw:=r_width hS m s r c g
 have hw24:=h_width hS b id ev m s r c g
 have pf:=put_h (b:=b) (id:=id) (ev:=ev) (m:=m) (s:=s) (r:=r) (c:=c) (g:=g) hS
 have lc0:cut (rcells m s r S c g) 0 1=some [.int .i64 m]:=rfl
 have lc1:cut (rcells m s r S c g) 1 1=some [.int .i64 s]:=rfl
 have hc:cut (rcells m s r S c g) 0 21=some (rcells m s r S c g):=by
  rw[cut_thin (r_thin _ _ _ _ _ _) (by rw[r_len hS];exact Nat.le_refl _)]
  rw[List.drop_zero,List.take_of_length_le (by rw[r_len hS];exact Nat.le_refl _)]
 obtain⟨bm,bs,br⟩:=may_t hfn.1
 have b1:(id==0)=false:=by simp[hid0]
 have b2:¬ (2305843009213693952 < ev):=by omega
 have wm:IntKind.i64.wrap (m+1)=m+1:=Go.Am.wrap_i64 (by omega)
 have ws:IntKind.i64.wrap (s+2)=s+2:=Go.Am.wrap_i64 (by omega)
 have hloop:∀(t:T) (G1:Heap),t.getP (Tr.path 0)=some (.ptr (some ⟨b,0⟩))→t.getP (Tr.path 1)=some (.int .u64 id)→t.getP (Tr.path 2)=some (.int .u64 ev)→t.getP (Tr.path 7)=some (.ptr (some ⟨.run G.next,0⟩))→t.getP (Tr.path 10)=some (.int .i64 0)→G1.get (.run G.next)=some (.rows false 21 [rcells m s r S c g])→G.next < G1.next→Turns Z G G1 →
   wp (loopF (runC (U lf K (n+2)) lf c63_l0) lf ⟨t,G1,[]⟩) fun x s'=>x=.ex 0∧s'.d=[]∧s'.t.getP (Tr.path 0)=some (.ptr (some ⟨b,0⟩))∧s'.t.getP (Tr.path 1)=some (.int .u64 id)∧s'.t.getP (Tr.path 2)=some (.int .u64 ev)∧s'.t.getP (Tr.path 7)=some (.ptr (some ⟨.run G.next,0⟩))∧s'.H.get (.run G.next)=some (.rows false 21 [rcells m s r S c g])∧Turns Z G s'.H:=by
  intro t G1 q0 q1 q2 q7 q10 hg hn ht
  refine wp_loopF (fun j s'=>∃ i:Nat,(j:Int)=m - i∧(i:Int)≤m∧s'.d=[]∧s'.t.getP (Tr.path 0)=some (.ptr (some ⟨b,0⟩))∧s'.t.getP (Tr.path 1)=some (.int .u64 id)∧s'.t.getP (Tr.path 2)=some (.int .u64 ev)∧s'.t.getP (Tr.path 7)=some (.ptr (some ⟨.run G.next,0⟩))∧s'.t.getP (Tr.path 10)=some (.int .i64 (i:Int))∧s'.H.get (.run G.next)=some (.rows false 21 [rcells m s r S c g])∧G.next < s'.H.next∧Turns Z G s'.H)
   ?_ lf m.toNat _ ⟨0,by omega,by omega,rfl,q0,q1,q2,q7,q10,hg,hn,ht⟩ (by omega)
  rintro j ⟨t,G2,dd⟩ ⟨i,hj,hi,hd,q0,q1,q2,q7,q10,hg,hn,ht⟩
  dsimp only at hd q0 q1 q2 q7 q10 hg hn ht
  subst hd
  have hB:G2.get b=some (bx true B):=(ht.same b bo (fun h=>h)).trans hb
  by_cases hlt:(i:Int) < m
  ·have w1:IntKind.i64.wrap ((i:Int)+1)=((i+1:Nat):Int):=by rw[Go.Am.wrap_i64 (by omega)];omega
   have hs2:=hsec (i:Int) ⟨by omega,hlt⟩
   have b3:¬ (B.sectors (i:Int) < s+2):=by omega
   obtain⟨Q,hQ⟩:∃ Q:List (Option V × Option V),Q=[(loadF (.t (Tr.path 42)) 1 .sc (Tr.setP (Tr.path 42) (.ptr (some ⟨.run G.next,1⟩)) .e) G2,some (.int .i64 s)),(loadF (.t (Tr.path 42)) 1 .sc (Tr.setP (Tr.path 42) (.ptr (some ⟨.run G.next,1⟩)) .e) (G2.skip (K+2)),some (.int .i64 s))]:=⟨_,rfl⟩
   have hQ':∀ x ∈ Q,x.1=x.2:=by
    rw[hQ]
    intro x hx
    simp only[List.mem_cons,List.not_mem_nil,or_false] at hx
    rcases hx with rfl | rfl<;>simp (maxDischargeDepth:=12) only[hg,lc1,hv,ldO_one,stO_one,sy,tup,↓reduceIte,zA,zG,zC,zD,zF,zE,zB,zH,reduceCtorEq]
   simp (maxDischargeDepth:=12) only[c63_l0,q0,q1,q2,q7,q10,hlt,e2,hB,hg,lc0,lc1,ws,b3,hv,ldO_one,stO_one,sy,tup,↓reduceIte,zA,zG,zC,zD,zF,zE,zB,zH,reduceCtorEq]
   rw[endD_q (q:=Q) (by kernel_rfl) (by rw[hQ];kernel_rfl)]
   simp (maxDischargeDepth:=12) only[q0,q1,q2,q7,q10,w1,hv,ldO_one,stO_one,sy,tup,↓reduceIte,zA,zG,zC,zD,zF,zE,zB,zH,reduceCtorEq]
   refine⟨j - 1,by omega,i+1,by omega,by omega,trivial,trivial,trivial,trivial,trivial,by simp,hg,?_,(ht.skip _).owe hQ'⟩
   omega
  ·simp (maxDischargeDepth:=12) only[c63_l0,q0,q1,q2,q7,q10,hg,lc0,hlt,hv,ldO_one,stO_one,sy,tup,↓reduceIte,zA,zG,zC,zD,zF,zE,zB,zH,reduceCtorEq]
   exact⟨trivial,trivial,trivial,trivial,trivial,trivial,trivial,ht⟩
 refine ret_callU rfl rfl c63_eq ?_
 unfold ros at e3 ⊢
 simp (maxDischargeDepth:=12) only[c63,e1,e3,hb,bo.ne,b1,b2,wm,hw,lc0,hc,beq_self_eq_true,hv,ldO_one,stO_one,sy,tup,↓reduceIte,zA,zG,zC,zD,zF,zE,zB,zH,reduceCtorEq]
 obtain⟨Q,hQ⟩:∃ Q:List (Option V × Option V),Q=[(loadF (.t (Tr.path 26)) 1 .sc (Tr.setP (Tr.path 26) (.ptr (some ⟨.run G.next,0⟩)) .e) ((G.add (.rows false 21 [rcells m s r S c g])).skip (K+2)),some (.int .i64 m)),(loadF (.t (Tr.path 26)) 1 .sc (Tr.setP (Tr.path 26) (.ptr (some ⟨.run G.next,0⟩)) .e) (((G.add (.rows false 21 [rcells m s r S c g])).skip (K+2)).skip (K+2)),some (.int .i64 m))]:=⟨_,rfl⟩
 rw[endD_q (q:=Q) (by kernel_rfl) (by rw[hQ];kernel_rfl)]
 have hQ':∀ x ∈ Q,x.1=x.2:=by
  rw[hQ]
  intro x hx
  simp only[List.mem_cons,List.not_mem_nil,or_false] at hx
  rcases hx with rfl | rfl<;>simp (maxDischargeDepth:=12) only[lc0,hv,ldO_one,stO_one,sy,tup,↓reduceIte,zA,zG,zC,zD,zF,zE,zB,zH,reduceCtorEq]
 simp (maxDischargeDepth:=12) only[lc0,hv,ldO_one,stO_one,sy,tup,↓reduceIte,zA,zG,zC,zD,zF,zE,zB,zH,reduceCtorEq]
 refine wp_ctx (F:=fun r=>seqC _ _ _ (blockC _ r)) (hloop _ _ ?_ ?_ ?_ ?_ ?_ ?_ ?_ ?_) ?_
 ·simp only[sy,tup,↓reduceIte,zA,zG,zC,zD,zF,zE,zB,zH,reduceCtorEq]
 ·simp only[sy,tup,↓reduceIte,zA,zG,zC,zD,zF,zE,zB,zH,reduceCtorEq]
 ·simp only[sy,tup,↓reduceIte,zA,zG,zC,zD,zF,zE,zB,zH,reduceCtorEq]
 ·simp only[sy,tup,↓reduceIte,zA,zG,zC,zD,zF,zE,zB,zH,reduceCtorEq]
 ·simp only[sy,tup,↓reduceIte,zA,zG,zC,zD,zF,zE,zB,zH,reduceCtorEq]
 ·simp (maxDischargeDepth:=12) only[hv,ldO_one,stO_one,sy,tup,↓reduceIte,zA,zG,zC,zD,zF,zE,zB,zH,reduceCtorEq]
 ·show G.next < G.next+1+(K+2)+(K+2);omega
 ·refine Turns.owe ?_ hQ'
  repeat (first | exact Turns.refl _ _ | apply Turns.skip | apply Turns.addm | apply Turns.setb | apply Turns.setl | apply Turns.setr | refine Turns.setn ?_ _ (by omega) _ | refine Turns.trans ?_ (tF _))
 rintro x ⟨t,G2,d⟩ ⟨rfl,hd,q0,q1,q2,q7,hg,ht⟩
 dsimp only at hd q0 q1 q2 q7 hg ht
 subst hd
 simp (maxDischargeDepth:=12) only[q0,q1,q2,q7,hg,hc,hw,pf,hw24,hv,ldO_one,stO_one,sy,tup,↓reduceIte,zA,zG,zC,zD,zF,zE,zB,zH,reduceCtorEq]
 exact⟨trivial,.inr trivial,_,rfl,.run G2.next,rfl,if_pos rfl,by show _ < _;simp,ht.addm _⟩
structure Made19 (M:Nat) (G:Heap) (h b y:Bk) (G':Heap):Prop where
 hb:HB G' h b 9 0 (M:Int) 4 40 (List.replicate 16 0) 0 false (disk.newB (sizes M))
 yg:∃ c,G'.get y=some (.rows false 24 [hcells c 9 0 (M:Int) 4 40 (List.replicate 16 0) 0 false])
 yo:G'.Old y
 hn:¬ G.Old h
 bn:¬ G.Old b
 t:Turns Z G G'
theorem uboth19 (G:Heap) {u M:Nat} (hu:u < 256) (hM:M=3+u % 4) (n:Nat):ret (U lf K (n+4) 21 [.int .u8 (u:Int)] G) fun v G'=>∃ h b y,v=.tuple [.ptr (some ⟨h,0⟩),.ptr (some ⟨b,0⟩),.ptr (some ⟨y,0⟩)]∧Made19 M G h b y G':=by
 have r4:arith .rem (.int .u8 (u:Int)) (.int .u8 4)=some (.int .u8 ((u % 4:Nat):Int)):=rem_u8 u 4 (by decide)
 have hu4:u % 4 < 4:=Nat.mod_lt _ (by decide)
 generalize u % 4=w at *
 have hM6:3≤M∧M≤6:=by omega
 have w1:IntKind.i64.wrap (w:Int)=(w:Int):=Go.Am.wrap_i64 (by omega)
 have w2:IntKind.i64.wrap (3+(w:Int))=(M:Int):=by rw[Go.Am.wrap_i64 (by omega)];omega
 have hloop:∀ t:T,t.getP (Tr.path 5)=some (.int .i64 (M:Int))→t.getP (Tr.path 6)=some (.slice none 0 0 0)→t.getP (Tr.path 7)=some (.int .i64 0) →
   wp (loopF (runC (U lf K (n+3)) lf c21_l0) lf ⟨t,G,[]⟩) fun x s'=>x=.ex 0∧s'.d=[]∧s'.t.getP (Tr.path 5)=some (.int .i64 (M:Int))∧∃ y,s'.t.getP (Tr.path 6)=some y∧Lst G s'.H 1 (rowsI (List.replicate M 6)) y∧Turns Z G s'.H:=by
  intro t q5 q6 q7
  refine wp_loopF (fun j s'=>∃ i:Nat,j=M - i∧i≤M∧s'.d=[]∧s'.t.getP (Tr.path 5)=some (.int .i64 (M:Int))∧s'.t.getP (Tr.path 7)=some (.int .i64 (i:Int))∧∃ y,s'.t.getP (Tr.path 6)=some y∧Lst G s'.H 1 (rowsI (List.replicate i 6)) y∧Turns Z G s'.H) ?_ lf M _ ⟨0,rfl,by omega,rfl,q5,q7,_,q6,Lst.nil _ _ _,Turns.refl _ _⟩ (by omega)
  rintro j ⟨t,HH,d⟩ ⟨i,rfl,hi,hd,q5,q7,y,q6,hy,tz⟩
  dsimp only at hd q5 q7 q6 hy tz
  subst hd
  by_cases hlt:i < M
  ·have hlt':(i:Int) < (M:Int):=by omega
   have w2:IntKind.i64.wrap ((i:Int)+1)=((i+1:Nat):Int):=by rw[Go.Am.wrap_i64 (by omega)];omega
   obtain⟨H',ea,hv',tz'⟩:=appI hy tz (by simp;omega) 6
   rw[← List.replicate_succ'] at hv'
   simp only[c21_l0,q5,q6,q7,hlt',w2,ea,sy,tup,↓reduceIte,zA,zG,zC,zD,zF,zE,zB,zH,reduceCtorEq]
   exact⟨M - (i+1),by omega,i+1,rfl,by omega,trivial,trivial,by simp,_,rfl,hv',tz'⟩
  ·have:i=M:=by omega
   subst this
   simp only[c21_l0,q5,q6,q7,Int.lt_irrefl,sy,tup,↓reduceIte,zA,zG,zC,zD,zF,zE,zB,zH,reduceCtorEq]
   exact⟨trivial,trivial,trivial,y,rfl,hy,tz⟩
 refine ret_callU rfl rfl c21_eq ?_
 simp (maxDischargeDepth:=12) only[c21,r4,w1,w2,hv,ldO_one,stO_one,sy,tup,↓reduceIte,zA,zG,zC,zD,zF,zE,zB,zH,reduceCtorEq]
 refine wp_ctx (F:=fun r=>seqC _ _ _ (blockC _ r)) (hloop _ ?_ ?_ ?_) ?_
 ·simp only[sy,tup,↓reduceIte,zA,zG,zC,zD,zF,zE,zB,zH,reduceCtorEq]
 ·simp only[sy,tup,↓reduceIte,zA,zG,zC,zD,zF,zE,zB,zH,reduceCtorEq]
 ·simp only[sy,tup,↓reduceIte,zA,zG,zC,zD,zF,zE,zB,zH,reduceCtorEq]
 rintro x ⟨t,HH,d⟩ ⟨rfl,hd,q5,y,q6,hy,tz⟩
 dsimp only at hd q5 q6 hy tz
 subst hd
 obtain⟨H1,ea,hv1,t1⟩:=appI hy tz (by simp;omega) 50
 obtain⟨p,ep,hP⟩:=picks_lst hv1 (by simp)
 have hok:=okSizes_k (k:=M) (by omega)
 change disk.PicksAt H1 p (sizes M) disk.Z at hP
 rw[ep] at ea
 have e2:U lf K (n+3) 9 [.slice p (List.replicate M (6:Int)++[50]).length (List.replicate M (6:Int)++[50]).length 1] H1=_:=qNew hP hok _ _
 obtain⟨H2,hH2⟩:∃ H2,(H1.add (bx false (disk.newB (sizes M)))).skip (K+1)=H2:=⟨_,rfl⟩
 have t2:Turns Z H1 H2:=by rw[← hH2];repeat (first | exact Turns.refl _ _ | apply Turns.skip | apply Turns.addm | apply Turns.setb | apply Turns.setl | apply Turns.setr | refine Turns.setn ?_ _ (by omega) _ | refine Turns.trans ?_ (tF _))
 have hb2:H2.get (.run H1.next)=some (bx false (disk.newB (sizes M))):=by rw[← hH2,get_skip,Heap.get_add,if_pos rfl]
 have bo2:H2.Old (.run H1.next):=by rw[← hH2];show _ < _+1+(K+1);omega
 have e3:U lf K (n+3) 62 [.slice p (List.replicate M (6:Int)++[50]).length (List.replicate M (6:Int)++[50]).length 1] H2=_:=qRNew (hP.turns t2) hok _ _
 obtain⟨H3,hH3⟩:∃ H3,(H2.add (bx true (disk.newB (sizes M)))).skip (K+1)=H3:=⟨_,rfl⟩
 have t3:Turns Z H2 H3:=by rw[← hH3];repeat (first | exact Turns.refl _ _ | apply Turns.skip | apply Turns.addm | apply Turns.setb | apply Turns.setl | apply Turns.setr | refine Turns.setn ?_ _ (by omega) _ | refine Turns.trans ?_ (tF _))
 have hb3:H3.get (.run H2.next)=some (bx true (disk.newB (sizes M))):=by rw[← hH3,get_skip,Heap.get_add,if_pos rfl]
 have bo3:H3.Old (.run H2.next):=by rw[← hH3];show _ < _+1+(K+1);omega
 have hz:=zeros_fine hM6
 obtain⟨cC,cd,cL,clen⟩:=zero_calm hM6
 obtain⟨v4,H4,e4,rfl,t4⟩:=unew10 hlf (K:=K) hz H3 (n+1)
 have hwr:=r_width (S:=List.replicate 16 0) (by simp) (M:Int) 4 40 0 false
 have hpr:Go.Am.put zros 0 (rcells (M:Int) 4 40 (List.replicate 16 0) 0 false)=some (rcells (M:Int) 4 40 (List.replicate 16 0) 0 false):=put_r (by simp)
 have hcr:cut (rcells (M:Int) 4 40 (List.replicate 16 0) 0 false) 0 21=some (rcells (M:Int) 4 40 (List.replicate 16 0) 0 false):=by
  rw[cut_thin (r_thin _ _ _ _ _ _) (by rw[r_len (by simp)];exact Nat.le_refl _)]
  rw[List.drop_zero,List.take_of_length_le (by rw[r_len (by simp)];exact Nat.le_refl _)]
 obtain⟨H5,hH5⟩:∃ H5,(H4.add (.rows false 21 [zros])).set (.run H4.next) (.rows false 21 [rcells (M:Int) 4 40 (List.replicate 16 0) 0 false])=H5:=⟨_,rfl⟩
 have t5:Turns Z H4 H5:=by rw[← hH5];repeat (first | exact Turns.refl _ _ | apply Turns.skip | apply Turns.addm | apply Turns.setb | apply Turns.setl | apply Turns.setr | refine Turns.setn ?_ _ (by omega) _ | refine Turns.trans ?_ (tF _))
 have hr5:H5.get (.run H4.next)=some (.rows false 21 [rcells (M:Int) 4 40 (List.replicate 16 0) 0 false]):=by rw[← hH5,Heap.get_set,if_pos rfl]
 have ro5:H5.Old (.run H4.next):=by rw[← hH5];show _ < _+1;exact Nat.lt_succ_self _
 have hsec:∀ d:Int,0≤d∧d < (M:Int)→(4:Int)+2≤(disk.newB (sizes M)).sectors d:=fun d hd=>by
  obtain⟨d',rfl⟩:∃ d':Nat,d=(d':Int):=⟨d.toNat,by omega⟩
  unfold Bn.sectors
  rw[cC.tc (i:=d') (by omega),if_pos rfl,cd d' (by omega)]
  decide
 have t35:=(t3.trans t4).trans t5
 obtain⟨v6,H6,e6,h,rfl,hh6,hnew,t6⟩:=uhnew hlf (K:=K) ((t35.same _ bo2 (fun h=>h)).trans hb2) (cC.fit (by omega)) (bo2.mono t35.next) (id:=9) (ev:=0) (m:=(M:Int)) (s:=4) (r:=40) (c:=0) (g:=false) (by simp) (by decide) (by decide) hz (by rw[clen];simp) hsec n
 have t46:=(t4.trans t5).trans t6
 have hr6:=(t6.same _ ro5 (fun h=>h)).trans hr5
 obtain⟨v7,H7,e7,yy,rfl,hy7,yo7,t7⟩:=urhnew hlf (K:=K) ((t46.same _ bo3 (fun h=>h)).trans hb3) (cC.fit (by omega)) (bo3.mono t46.next) (id:=9) (ev:=0) (m:=(M:Int)) (s:=4) (r:=40) (c:=0) (g:=false) (by simp) (by decide) (by decide) hz (by rw[clen];simp) hsec n
 unfold zros at hpr hH5
 unfold ros at e4 e6 e7
 unfold geo at e4
 simp (maxDischargeDepth:=12) only[q5,q6,ea,e2,hH2,e3,hH3,e4,hwr,hpr,hH5,hr5,hcr,e6,hr6,e7,hv,ldO_one,stO_one,sy,tup,↓reduceIte,zA,zG,zC,zD,zF,zE,zB,zH,reduceCtorEq]
 refine⟨trivial,.inr trivial,_,rfl,h,.run H1.next,yy,rfl,hh6.turns t7,⟨_,hy7⟩,yo7,?_,?_,((t1.trans t2).trans t35).trans (t6.trans t7)⟩
 ·exact fun e=>hnew (e.mono ((t1.trans t2).trans t35).next)
 ·exact Heap.not_old t1.next
end
end Go.Proofs.YtabebpemfinejaaGreat.draft
namespace Go.Proofs.YtabebpemfinejaaGreat.draft
open Go.Am
open disk (bx Fit Bn Bok xorB)
theorem look_last (L:List (Nat × Nat)) (q x:Nat):disk.look (L++[(q,x)]) q=some x:=by
 have:=disk.look_at (l:=L++[(q,x)]) (n:=q) (k:=L.length) (by simp) (by simp) (fun j hj h=>by simp at hj;omega)
 simpa using this
theorem Calm.cell {m k:Nat} {B:Bn} (h:Calm m k B) {i q:Nat} (hi:i < m) (hd:dead B i=false) (hq:q < (B.dev (i:Int)).S.length):B.rc (i:Int) (q:Int)=0∧B.read (i:Int) (q:Int)=cont B i q:=by
 unfold dead at hd
 have hc:disk.code (B.dev (i:Int)) (q:Int)=0:=by
  unfold disk.code
  rw[if_neg (by omega),hd];rfl
 refine⟨?_,?_⟩
 ·unfold Bn.rc
  rw[if_pos (h.lc hi)];exact hc
 ·unfold Bn.read disk.Dev.read
  rw[if_pos (h.lc hi),if_pos hc];rfl
theorem Calm.gone {m k:Nat} {B:Bn} (h:Calm m k B) {i q:Nat} (hi:i < m) (hd:dead B i=true) (hq:q < (B.dev (i:Int)).S.length):B.rc (i:Int) (q:Int)=9:=by
 unfold dead at hd
 unfold Bn.rc disk.code
 rw[if_pos (h.lc hi),if_neg (by omega),if_pos hd]
structure Data (m k:Nat) (B:Bn) (i q x:Nat) (B':Bn):Prop where
 wc:B.wc (i:Int) (q:Int)=0
 calm:Calm m (k+1) B'
 oth:∀ j:Nat,j < m+1→j≠i→B'.dev (j:Int)=B.dev (j:Int)
 S:(B'.dev (i:Int)).S=(B.dev (i:Int)).S
 dd:dead B' i=false
 cnt:cont B' i q=x
 cno:∀ p,p≠q→cont B' i p=cont B i p
theorem Calm.data {m k:Nat} {B:Bn} (h:Calm m k B) {i q x:Nat} (hi:i < m) (hd:dead B i=false) (hq:2≤q∧q < (B.dev (i:Int)).S.length):Data m k B i q x (B.write (i:Int) (q:Int) x):=by
 obtain⟨hrc,_⟩:=h.cell hi hd hq.2
 have hlen:=h.len
 have hlo:=h.lo i hi
 obtain⟨S,L,dd0⟩:∃ S L,B.dev (i:Int)=⟨S,L,false⟩:=⟨_,_,by rw[← hd];rfl⟩
 have hc:disk.code (B.dev (i:Int)) (q:Int)=0:=by
  have:=hrc
  unfold Bn.rc at this
  rw[if_pos (h.lc hi)] at this
  exact this
 have e1:B.write (i:Int) (q:Int) x=⟨B.l.set i ⟨S,L++[(q,x)],false⟩,B.st+1,0,false⟩:=by
  unfold Bn.write
  rw[if_pos hrc]
  unfold Bn.step
  rw[h.ar,if_neg (by decide),h.dk]
  unfold disk.Dev.write
  rw[if_pos hc,dd0]
  rfl
 have dv:∀ j:Nat,j < m+1→(B.write (i:Int) (q:Int) x).dev (j:Int)=if j=i then⟨S,L++[(q,x)],false⟩ else B.dev (j:Int):=fun j hj=>by
  rw[e1];exact dev_set (by omega) _ _ _ _
 have di:=dv i (by omega)
 rw[if_pos rfl] at di
 have ok1:=h.ok.write (i:Int) (q:Int) x
 refine⟨?_,⟨ok1,by rw[e1],by rw[e1],by rw[disk.write_len];exact hlen,h.le,fun j hj=>?_,fun j hj=>?_,fun j t hj ht=>?_⟩,fun j hj hne=>by rw[dv j hj,if_neg hne],by rw[di,dd0],by unfold dead;rw[di],?_,fun p hp=>?_⟩
 ·unfold Bn.wc Bn.sc
  rw[if_pos hrc,h.ar,if_neg (by decide)]
 ·rw[dv j (by omega)]
  by_cases e:j=i
  ·rw[if_pos e];have:=h.sz i hi;rw[dd0] at this;exact this
  ·rw[if_neg e];exact h.sz j hj
 ·rw[dv j (by omega)]
  by_cases e:j=i
  ·rw[if_pos e]
   intro w hw
   rcases List.mem_append.1 hw with hw | hw
   ·rw[dd0] at hlo;exact hlo w hw
   ·rw[List.mem_singleton] at hw;rw[hw];exact hq.1
  ·rw[if_neg e];exact h.lo j hj
 ·unfold sect
  rw[dv j (by omega)]
  by_cases e:j=i
  ·rw[if_pos e]
   have:=h.sm i t hi ht
   unfold sect at this
   rw[dd0] at this
   exact this
  ·rw[if_neg e];exact h.sm j t hj ht
 ·unfold cont disk.readN
  rw[di,look_last]
 ·unfold cont disk.readN
  rw[di,dd0]
  have e:∀(L:List (Nat × Nat)),disk.look (L++[(q,x)]) p=disk.look L p:=by
   intro L
   induction L with
   | nil=>show (if q=p then some x else none)=none;exact if_neg (Ne.symm hp)
   | cons w L ih=>rw[List.cons_append];unfold disk.look;rw[ih]
  rw[e]
def xl (j:Nat) (l:List Nat):Nat:=l.foldl (fun a x=>Nat.xor a (byte x j)) 0
theorem xl_app (j:Nat) (l:List Nat) (x:Nat):xl j (l++[x])=Nat.xor (xl j l) (byte x j):=by unfold xl;rw[List.foldl_append,List.foldl_cons,List.foldl_nil]
theorem byte_foldB (l:List Nat) {j:Nat} (hj:j < 64):byte (foldB l) j=xl j l:=by
 unfold foldB xl
 suffices h:∀(l:List Nat) (a b:Nat),byte a j=b→byte (l.foldl xorB a) j=l.foldl (fun a x=>Nat.xor a (byte x j)) b from h l 0 0 (by rw[byte_eq];simp)
 intro l
 induction l with
 | nil=>intro a b h;rw[List.foldl_nil,List.foldl_nil];exact h
 | cons x l ih=>
  intro a b h
  rw[List.foldl_cons,List.foldl_cons]
  refine ih _ _ ?_
  rw[disk.byte_xorB a x hj,h]
  rfl
theorem xor_self' (a:Nat):Nat.xor a a=0:=Nat.xor_self a
theorem xor_zero' (a:Nat):Nat.xor a 0=a:=Nat.xor_zero a
theorem xor_assoc' (a b c:Nat):Nat.xor (Nat.xor a b) c=Nat.xor a (Nat.xor b c):=Nat.xor_assoc a b c
theorem xor_comm' (a b:Nat):Nat.xor a b=Nat.xor b a:=Nat.xor_comm a b
theorem butL_neg (X:Nat→Nat):∀ i,butL (-1) X i=(List.range i).map X
 | 0=>rfl
 | i+1=>by
  unfold butL
  rw[if_neg (by omega),butL_neg X i,List.range_succ,List.map_append];rfl
theorem xl_but (j:Nat) (X:Nat→Nat) (d:Nat):∀ i,Nat.xor (xl j (butL (d:Int) X i)) (if d < i then byte (X d) j else 0)=xl j ((List.range i).map X)
 | 0=>by rw[if_neg (by omega),xor_zero'];rfl
 | i+1=>by
  have ih:=xl_but j X d i
  rw[List.range_succ,List.map_append,List.map_cons,List.map_nil,xl_app,← ih]
  by_cases e:i=d
  ·have e1:butL (d:Int) X (i+1)=butL (d:Int) X i:=if_pos (by omega)
   rw[e1,if_pos (show d < i+1 by omega),if_neg (show ¬ d < i by omega),xor_zero',e]
  ·have e1:butL (d:Int) X (i+1)=butL (d:Int) X i++[X i]:=if_neg (by omega)
   rw[e1,xl_app]
   by_cases h:d < i
   ·rw[if_pos (show d < i+1 by omega),if_pos h,xor_assoc',xor_assoc',xor_comm' (byte (X i) j)]
   ·rw[if_neg (show ¬ d < i+1 by omega),if_neg h,xor_zero',xor_zero']
theorem stripe_zero {X:Nat→Nat} {N:Nat} (hp:X N=foldB ((List.range N).map X)):foldB (butL (-1) X (N+1))=0:=by
 rw[butL_neg,List.range_succ,List.map_append,List.map_cons,List.map_nil,foldB_app,hp]
 refine disk.eq_of_bytes (disk.xorB_lt _ _) (by decide) (fun j hj=>?_)
 rw[disk.byte_xorB _ _ hj]
 show Nat.xor _ _=_
 rw[xor_self',byte_eq];simp
theorem stripe_but {X:Nat→Nat} {N d:Nat} (hX:∀ i,i < N+1→X i < 256 ^ 64) (hp:X N=foldB ((List.range N).map X)) (hd:d < N+1):foldB (butL (d:Int) X (N+1))=X d:=by
 refine disk.eq_of_bytes (foldB_lt _) (hX d hd) (fun j hj=>?_)
 have h0:=stripe_zero hp
 have hb:=byte_foldB (butL (-1) X (N+1)) hj
 rw[h0,butL_neg,← xl_but j X d (N+1),if_pos hd,show byte 0 j=0 by rw[byte_eq];simp] at hb
 rw[byte_foldB _ hj]
 have:Nat.xor (Nat.xor (xl j (butL (d:Int) X (N+1))) (byte (X d) j)) (byte (X d) j)=byte (X d) j:=by
  rw[← hb,xor_comm',xor_zero']
 rwa [xor_assoc',xor_self',xor_zero'] at this
end Go.Proofs.YtabebpemfinejaaGreat.draft
