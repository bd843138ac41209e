import Derived.Test.YtllkepkaimnodaaGreatDoorG2
import Derived.Test.YtllkepkaimnodaaGreatDoorG1
set_option linter.unusedVariables false
set_option linter.unusedSectionVars false
set_option linter.unusedSimpArgs false
set_option maxRecDepth 10000
open Nat renaming reduceEqDiff → zA, reduceLeDiff → zB, reduceSub → zC, reduceMul → zD, reduceMod → zE, reduceDiv → zF, reduceAdd → zG
open Int renaming reduceBEq → zH
namespace Go.Proofs.YtllkepkaimnodaaGreatDoor.draft
open Go.Am
open disk (bx Fit A1 R1 Low Bn)
noncomputable def c86:CFn:=⟨[.tmp (pp 2)],
 .seq (.reg [
 qo 2 (.p (S.get (.c (.bool false)))) []]) (
 .seq (.reg [
 mv 3 0,
 qo 4 (.r (eqnF false .ptr (tt 3) (.c (.ptr none)))) [pp 3],
 mv 5 4,
 mg 6 0 5 false,
 qg 7 (.p (nilcF (tt 6))) 5 false [pp 6],
 qg 8 (.p (faddrF (tt 7) 0)) 5 false [pp 7],
 qg 9 (.r (loadF (tt 8) 1 .sc)) 5 false [pp 8],
 qg 10 (.r (eqnF false .ptr (tt 9) (.c (.ptr none)))) 5 false [pp 9],
 qo 11 (.p (pickF (tt 5) (.c (.bool true)) (tt 10))) [pp 5,pp 10],
 mv 2 11]) (
 .ret))⟩
theorem c86_eq:fnOf Tryz.prog 86=some c86:=by kernel_rfl
noncomputable def c42:CFn:=⟨[.tmp (pp 2)],
 .seq (.reg [
 qo 2 (.p (S.get (.c (.int .u64 0)))) []]) (
 .seq (.regD [
 mv 3 0,
 qo 4 (.p (nilcF (tt 3))) [pp 3],
 qo 5 (.p (faddrF (tt 4) 5)) [pp 4],
 qo 6 (.r (loadF (tt 5) 1 .sc)) [pp 5],
 mv 7 0,
 qo 8 (.p (nilcF (tt 7))) [pp 7],
 qo 9 (.p (faddrF (tt 8) 8)) [pp 8],
 qo 10 (.r (loadF (tt 9) 1 .sc)) [pp 9],
 qo 11 (.p (lenF (tt 10))) [pp 10],
 qo 12 (.p (convF .u64 (tt 11))) [pp 11],
 qo 13 (.p (arF .add (tt 6) (tt 12))) [pp 6,pp 12],
 mv 2 13] [0,1,3,7,0,16,48,112,240,496,1023,2047]) (
 .ret))⟩
theorem c42_eq:fnOf Tryz.prog 42=some c42:=by kernel_rfl
noncomputable def c56:CFn:=⟨[.tmp (pp 2),.tmp (pp 3)],
 .seq (.reg [
 qo 2 (.p (S.get (.c (.int .u64 0)))) [],
 qo 3 (.p (S.get (.c (.int .u64 0)))) []]) (
 .seq (.seq (.reg [
 mv 4 0,
 qo 5 (.c (callF (ff 86) [(tt 4)])) [pp 4]]) (
 .cond (tt 5) (.seq (.reg [
 qo 2 (.p (S.get (.c (.int .u64 0)))) [],
 qo 3 (.p (S.get (.c (.int .u64 0)))) []]) (
 .ret)) (.skip))) (
 .seq (.regD [
 mv 6 0,
 qo 7 (.p (nilcF (tt 6))) [pp 6],
 qo 8 (.p (faddrF (tt 7) 5)) [pp 7],
 qo 9 (.r (loadF (tt 8) 1 .sc)) [pp 8],
 mv 10 0,
 qo 11 (.c (callF (ff 42) [(tt 10)])) [pp 10],
 mv 2 9,
 mv 3 11] [0,1,3,7,0,16,63,127]) (
 .ret)))⟩
theorem c56_eq:fnOf Tryz.prog 56=some c56:=by kernel_rfl
noncomputable def c57:CFn:=⟨[.tmp (pp 2)],
 .seq (.reg [
 qo 2 (.p (S.get (ii 0))) []]) (
 .seq (.seq (.reg [
 mv 5 0,
 qo 6 (.c (callF (ff 86) [(tt 5)])) [pp 5]]) (
 .cond (tt 6) (.seq (.reg [
 qo 2 (.p (S.get (ii 0))) []]) (
 .ret)) (.skip))) (
 .seq (.regD [
 mv 8 0,
 qo 9 (.p (nilcF (tt 8))) [pp 8],
 qo 10 (.p (faddrF (tt 9) 3)) [pp 9],
 qo 11 (.r (loadF (tt 10) 1 .sc)) [pp 10],
 mv 12 0,
 qo 13 (.p (nilcF (tt 12))) [pp 12],
 qo 14 (.p (faddrF (tt 13) 6)) [pp 13],
 qo 15 (.r (loadF (tt 14) 1 .sc)) [pp 14],
 mv 16 0,
 qo 17 (.p (nilcF (tt 16))) [pp 16],
 qo 18 (.p (faddrF (tt 17) 7)) [pp 17],
 qo 19 (.r (loadF (tt 18) 1 .sc)) [pp 18],
 qo 20 (.c (callF (ff 118) [(tt 11),(tt 15),(tt 19)])) [pp 11,pp 15,pp 19],
 mv 7 20,
 qo 21 (.p (extF (tt 7) 0)) [pp 7],
 qo 22 (.p (extF (tt 7) 1)) [pp 7],
 mv 3 21,
 mv 4 22] [0,1,3,7,0,16,48,112,0,256,768,1792,4095,8191,16383,16383,32767,131071]) (
 .seq (.reg [
 mv 23 3,
 mv 2 23]) (
 .ret))))⟩
theorem c57_eq:fnOf Tryz.prog 57=some c57:=by kernel_rfl
noncomputable def c59:CFn:=⟨[.tmp (pp 2)],
 .seq (.reg [
 qo 2 (.p (S.get (ii 0))) []]) (
 .seq (.seq (.reg [
 mv 3 0,
 qo 4 (.c (callF (ff 86) [(tt 3)])) [pp 3]]) (
 .cond (tt 4) (.seq (.reg [
 qo 2 (.p (S.get (ii 0))) []]) (
 .ret)) (.skip))) (
 .seq (.reg [
 mv 5 0,
 qo 6 (.p (nilcF (tt 5))) [pp 5],
 qo 7 (.p (faddrF (tt 6) 3)) [pp 6],
 qo 8 (.r (loadF (tt 7) 1 .sc)) [pp 7],
 mv 2 8]) (
 .ret)))⟩
theorem c59_eq:fnOf Tryz.prog 59=some c59:=by kernel_rfl
noncomputable def c88_l0:C:=.seq (.reg [
 qo 23 (.p (arF .lss (tt 22) (tt 21))) [pp 22,pp 21]]) (
 .seq (.cond (tt 23) (.skip) (.exit 0)) (
 .seq (.block 1 (.seq (.reg [
 mv 24 22,
 mv 9 24]) (
 .reg [
 mv 25 7,
 mv 26 9,
 qo 27 (.p (iaddrSF (tt 25) (tt 26) 1)) [pp 25,pp 26],
 qo 28 (.r (loadF (tt 27) 1 .sc)) [pp 27],
 qo 29 (.p (arF .add (tt 28) (ii 10))) [pp 28],
 qo 30 (.p (iaddrSF (tt 25) (tt 26) 1)) [pp 25,pp 26],
 qn (.a (storeF (tt 30) (tt 29) 1)) [pp 30,pp 29]]))) (
 .reg [
 qo 31 (.p (arF .add (tt 22) (ii 1))) [pp 22],
 mv 22 31])))
noncomputable def c88:CFn:=⟨[.tmp (pp 6)],
 .seq (.reg [
 qo 6 (.p (S.get (.c (.slice none 0 0 0)))) []]) (
 .seq (.reg [
 mv 11 0,
 qo 12 (.p (nilcF (tt 11))) [pp 11],
 qo 13 (.p (faddrF (tt 12) 3)) [pp 12],
 qo 14 (.r (loadF (tt 13) 1 .sc)) [pp 13],
 mv 15 1,
 mv 16 2,
 qo 17 (.c (callF (ff 146) [(tt 14),(tt 15),(tt 16)])) [pp 14,pp 15,pp 16],
 mv 10 17,
 qo 18 (.p (extF (tt 10) 0)) [pp 10],
 qo 19 (.p (extF (tt 10) 1)) [pp 10],
 mv 7 18,
 mv 8 19]) (
 .seq (.seq (.reg [
 mv 20 7,
 qo 21 (.p (lenF (tt 20))) [pp 20],
 qo 22 (.p (S.get (ii 0))) []]) (
 .block 0 (.loop c88_l0))) (
 .seq (.reg [
 mv 32 7,
 mv 6 32]) (
 .ret))))⟩
theorem c88_eq:fnOf Tryz.prog 88=some c88:=by kernel_rfl
structure Nt where
 seq:Nat
 pos:Nat
 cells:Nat
 sum:Nat
def rowsT (N:List Nt):List (List V):=N.map fun n=>[.int .u64 (n.seq:Int),.int .u64 (n.pos:Int),.int .i64 (n.cells:Int),.int .u32 (n.sum:Int)]
theorem rowsT_len (N:List Nt):(rowsT N).length=N.length:=by unfold rowsT;simp
def lcells (b:Bk) (id R cnt first tail head:Nat) (v:V):List V:=[.ptr (some ⟨b,0⟩),.int .i64 0,.int .u64 (id:Int),.int .i64 (R:Int),.int .u64 (cnt:Int),.int .u64 (first:Int),.int .u64 (tail:Int),.int .u64 (head:Int),v]
structure LogAt (G:Heap) (l b:Bk) (id R cnt first tail head:Nat) (N:List Nt) (lv:V):Prop where
 ex:G.get l=some (.rows false 9 [lcells b id R cnt first tail head lv])∧∃ G0,Lst G0 G 4 (rowsT N) lv∧G0.next≤G.next
 old:G.Old l
 rb:1≤R∧R≤256
 rg:Rg R tail head
 fn:first+N.length≤4611686018427387904
 nl:N.length≤8
section
variable {lf K:Nat} (hlf:1000 < lf)
include hlf
variable {G:Heap} {l b:Bk} {id R cnt first tail head:Nat} {N:List Nt} {lv:V} (h:LogAt G l b id R cnt first tail head N lv)
include h
theorem ulnone (n:Nat):U lf K (n+1) 86 [.ptr (some ⟨l,0⟩)] G=some (.v (.bool false),G):=by
 obtain⟨hg,G0,hN,_⟩:=h.ex
 have k0:cut (lcells b id R cnt first tail head lv) 0 1=some [.ptr (some ⟨b,0⟩)]:=rfl
 obtain⟨v,H',e',rfl,rfl⟩:ret (U lf K (n+1) 86 [.ptr (some ⟨l,0⟩)] G) fun v H'=>v=.bool false∧H'=G:=by
  refine ret_callU rfl rfl c86_eq ?_
  simp (maxDischargeDepth:=12) only[c86,hg,k0,hv,ldO_one,stO_one,sy,tup,↓reduceIte,zA,zG,zC,zD,zF,zE,zB,zH,reduceCtorEq]
  simp
 exact e'
theorem ulnext (n:Nat):U lf K (n+1) 42 [.ptr (some ⟨l,0⟩)] G=some (.v (.int .u64 ((first+N.length:Nat):Int)),G):=by
 obtain⟨hg,G0,hN,_⟩:=h.ex
 have hfn:=h.fn
 have hnl:=h.nl
 obtain⟨p,c,o,rfl⟩:=hN.val
 rw[rowsT_len] at hg hN
 have k5:cut (lcells b id R cnt first tail head (.slice p N.length c o)) 5 1=some [.int .u64 (first:Int)]:=rfl
 have k8:cut (lcells b id R cnt first tail head (.slice p N.length c o)) 8 1=some [.slice p N.length c o]:=rfl
 obtain⟨q,hq⟩:∃ q,q=first+N.length:=⟨_,rfl⟩
 have w1:IntKind.u64.wrap (N.length:Int)=(N.length:Int):=Go.Am.wrap_u64 (by omega)
 have w2:IntKind.u64.wrap ((first:Int)+(N.length:Int))=(q:Int):=by rw[Go.Am.wrap_u64 (by omega)];omega
 rw[← hq]
 obtain⟨v,H',e',rfl,rfl⟩:ret (U lf K (n+1) 42 [.ptr (some ⟨l,0⟩)] G) fun v H'=>v=.int .u64 (q:Int)∧H'=G:=by
  refine ret_callU rfl rfl c42_eq ?_
  simp (maxDischargeDepth:=12) only[c42,hg,k5,k8,w1,w2,hv,ldO_one,stO_one,sy,tup,↓reduceIte,zA,zG,zC,zD,zF,zE,zB,zH,reduceCtorEq]
  rw[endD_ok (by kernel_rfl) (by kernel_rfl)]
  simp (maxDischargeDepth:=12) only[hv,ldO_one,stO_one,sy,tup,↓reduceIte,zA,zG,zC,zD,zF,zE,zB,zH,reduceCtorEq]
  exact⟨trivial,.inr trivial,_,rfl,rfl,trivial⟩
 exact e'
theorem ullive (n:Nat):ret (U lf K (n+2) 56 [.ptr (some ⟨l,0⟩)] G) fun v G'=>v=.tuple [.int .u64 (first:Int),.int .u64 ((first+N.length:Nat):Int)]∧Turns Z G G':=by
 have e1:=ulnone hlf h n (K:=K)
 have e2:=ulnext hlf h n (K:=K)
 obtain⟨hg,G0,hN,_⟩:=h.ex
 have k5:cut (lcells b id R cnt first tail head lv) 5 1=some [.int .u64 (first:Int)]:=rfl
 obtain⟨q,hq⟩:∃ q,q=first+N.length:=⟨_,rfl⟩
 rw[← hq] at e2 ⊢
 refine ret_callU rfl rfl c56_eq ?_
 simp (maxDischargeDepth:=12) only[c56,e1,hg,k5,e2,hv,ldO_one,stO_one,sy,tup,↓reduceIte,zA,zG,zC,zD,zF,zE,zB,zH,reduceCtorEq]
 obtain⟨Q,hQ⟩:∃ Q:List (Option V × Option V),Q=[(loadF (.t (Tr.path 8)) 1 .sc (Tr.setP (Tr.path 8) (.ptr (some ⟨l,5⟩)) .e) G,some (.int .u64 (first:Int))),(loadF (.t (Tr.path 8)) 1 .sc (Tr.setP (Tr.path 8) (.ptr (some ⟨l,5⟩)) .e) G,some (.int .u64 (first:Int)))]:=⟨_,rfl⟩
 rw[endD_q (q:=Q) (by kernel_rfl) (by rw[hQ];kernel_rfl)]
 have hQ':∀ x ∈ Q,x.1=x.2:=by
  rw[hQ]
  intro x hx
  simp only[List.mem_cons,List.not_mem_nil,or_false] at hx
  rcases hx with rfl | rfl<;>simp (maxDischargeDepth:=12) only[hg,k5,hv,ldO_one,stO_one,sy,tup,↓reduceIte,zA,zG,zC,zD,zF,zE,zB,zH,reduceCtorEq]
 simp (maxDischargeDepth:=12) only[hv,ldO_one,stO_one,sy,tup,↓reduceIte,zA,zG,zC,zD,zF,zE,zB,zH,reduceCtorEq]
 exact⟨trivial,.inr trivial,_,rfl,rfl,(Turns.refl Z G).owe hQ'⟩
def secs (R p k:Nat):List Int:=(List.range k).map fun j=>(((p+j) % R+10:Nat):Int)
theorem ulsectors {p k:Nat} (hp:p+k≤4611686018427387904) (hk:1≤k∧k≤R) (n:Nat):ret (U lf K (n+3) 88 [.ptr (some ⟨l,0⟩),.int .u64 (p:Int),.int .i64 (k:Int)] G) fun v G'=>∃ w,v=.slice (some ⟨.run w,0⟩) k k 0∧G.next≤w∧w < G'.next∧G'.get (.run w)=some (.rows false 1 (rowsI (secs R p k)))∧Turns Z G G':=by
 obtain⟨v1,G1,e1,w,rfl,hw0,hw1,hg1,t1⟩:=urlist hlf (K:=K) G h.rb hp hk n
 obtain⟨hg,G0,hN,_⟩:=h.ex
 have k3:cut (lcells b id R cnt first tail head lv) 3 1=some [.int .i64 (R:Int)]:=rfl
 have hRb:=h.rb
 have hloop:∀ t:T,t.getP (Tr.path 7)=some (.slice (some ⟨.run w,0⟩) k k 0)→t.getP (Tr.path 21)=some (.int .i64 (k:Int))→t.getP (Tr.path 22)=some (.int .i64 0) →
   wp (loopF (runC (U lf K (n+2)) lf c88_l0) lf ⟨t,G1,[]⟩) fun x s'=>x=.ex 0∧s'.d=[]∧s'.t.getP (Tr.path 7)=some (.slice (some ⟨.run w,0⟩) k k 0)∧w < s'.H.next∧s'.H.get (.run w)=some (.rows false 1 (rowsI (secs R p k)))∧Turns Z G s'.H:=by
  intro t q7 q21 q22
  refine wp_loopF (fun u s'=>∃(i:Nat) (A:List Int),u=k - i∧i≤k∧s'.d=[]∧s'.t.getP (Tr.path 7)=some (.slice (some ⟨.run w,0⟩) k k 0)∧s'.t.getP (Tr.path 21)=some (.int .i64 (k:Int))∧s'.t.getP (Tr.path 22)=some (.int .i64 (i:Int))∧A.length=k∧(∀ j,j < k→A.getD j 0=if j < i then(((p+j) % R+10:Nat):Int) else(((p+j) % R:Nat):Int))∧w < s'.H.next∧s'.H.get (.run w)=some (.rows false 1 (rowsI A))∧Turns Z G s'.H)
   ?_ lf k _ ⟨0,_,rfl,Nat.zero_le _,rfl,q7,q21,q22,by simp,fun j hj=>by rw[if_neg (by omega)];simp[List.getD,hj],hw1,hg1,t1⟩ (by omega)
  rintro u ⟨t,G2,d⟩ ⟨i,A,rfl,hi,hd,q7,q21,q22,hA,hAj,hn,hg,ht⟩
  dsimp only at hd q7 q21 q22 hn hg ht
  subst hd
  by_cases hlt:i < k
  ·have hlt':(i:Int) < (k:Int):=by omega
   have w2:IntKind.i64.wrap ((i:Int)+1)=((i+1:Nat):Int):=by rw[Go.Am.wrap_i64 (by omega)];omega
   have hm:(p+i) % R < R:=Nat.mod_lt _ (by omega)
   obtain⟨z,hz⟩:∃ z,z=(p+i) % R:=⟨_,rfl⟩
   have hAi:=hAj i hlt
   rw[if_neg (by omega),← hz] at hAi
   obtain⟨z',hz'⟩:∃ z',z'=z+10:=⟨_,rfl⟩
   have w3:IntKind.i64.wrap ((z:Int)+10)=(z':Int):=by rw[Go.Am.wrap_i64 (by omega)];omega
   have hld:=ldI (ro:=false) (A:=A) (i:=i) (by omega)
   rw[show A[i]'(by omega)=(z:Int) by rw[← hAi];simp[List.getD,show i < A.length by omega]] at hld
   have hst:=stI (A:=A) (i:=i) (by omega) (z':Int)
   have hle:i+1≤k:=hlt
   simp (maxDischargeDepth:=12) only[c88_l0,q7,q21,q22,hlt',hle,w2,w3,hg,hld,hst,Nat.mul_one,hv,ldO_one,stO_one,sy,tup,↓reduceIte,zA,zG,zC,zD,zF,zE,zB,zH,reduceCtorEq]
   refine⟨k - (i+1),by omega,i+1,A.set i (z':Int),rfl,by omega,trivial,by simp[q7],by simp[q21],by simp,by simpa using hA,fun j hj=>?_,hn,by trivial,ht.setn _ hw0 _⟩
   rw[getD_setI (by omega)]
   by_cases e:j=i
   ·rw[if_pos e,if_pos (by omega),e,hz',hz]
    exact Int.natCast_add _ _
   ·rw[if_neg e,hAj j hj]
    by_cases h2:j < i
    ·rw[if_pos h2,if_pos (by omega)]
     exact Int.natCast_add _ _
    ·rw[if_neg h2,if_neg (by omega)]
  ·have:i=k:=by omega
   subst this
   simp (maxDischargeDepth:=12) only[c88_l0,q7,q21,q22,Int.lt_irrefl,hv,ldO_one,stO_one,sy,tup,↓reduceIte,zA,zG,zC,zD,zF,zE,zB,zH,reduceCtorEq]
   refine⟨trivial,trivial,trivial,hn,?_,ht⟩
   rw[hg,list_at hA (f:=fun j=>(((p+j) % R+10:Nat):Int)) (fun j hj=>by rw[hAj j hj,if_pos hj])]
   rfl
 refine ret_callU rfl rfl c88_eq ?_
 simp (maxDischargeDepth:=12) only[c88,hg,k3,e1,hv,ldO_one,stO_one,sy,tup,↓reduceIte,zA,zG,zC,zD,zF,zE,zB,zH,reduceCtorEq]
 refine wp_ctx (F:=fun r=>seqC _ _ _ (blockC _ r)) (hloop _ ?_ ?_ ?_) ?_
 ·simp only[sy,tup,↓reduceIte,zA,zG,zC,zD,zF,zE,zB,zH,reduceCtorEq]
 ·simp only[sy,tup,↓reduceIte,zA,zG,zC,zD,zF,zE,zB,zH,reduceCtorEq]
 ·simp only[sy,tup,↓reduceIte,zA,zG,zC,zD,zF,zE,zB,zH,reduceCtorEq]
 rintro x ⟨t,G2,d⟩ ⟨rfl,rfl,q7,hn,hg,ht⟩
 dsimp only at q7 hn hg ht
 simp only[q7,sy,tup,↓reduceIte,zA,zG,zC,zD,zF,zE,zB,zH,reduceCtorEq]
 exact⟨trivial,.inr trivial,_,rfl,w,rfl,hw0,hn,hg,ht⟩
end
end Go.Proofs.YtllkepkaimnodaaGreatDoor.draft
namespace Go.Proofs.YtllkepkaimnodaaGreatDoor.draft
open Go.Am
noncomputable def c145_l0:C:=.seq (.reg [
 qo 29 (.p (arF .lss (tt 28) (tt 27))) [pp 28,pp 27]]) (
 .seq (.cond (tt 29) (.skip) (.exit 0)) (
 .seq (.block 1 (.seq (.reg [
 mv 30 28,
 mv 7 30]) (
 .reg [
 mv 31 6,
 mv 32 7,
 mv 33 0,
 mv 34 7,
 qo 35 (.p (arF .mul (ii 8) (tt 34))) [pp 34],
 qo 36 (.p (arF .shr (tt 33) (tt 35))) [pp 33,pp 35],
 qo 37 (.p (convF .u8 (tt 36))) [pp 36],
 qo 38 (.p (iaddrSF (tt 31) (tt 32) 1)) [pp 31,pp 32],
 qn (.a (storeF (tt 38) (tt 37) 1)) [pp 38,pp 37]]))) (
 .reg [
 qo 39 (.p (arF .add (tt 28) (ii 1))) [pp 28],
 mv 28 39])))
noncomputable def c145:CFn:=⟨[.tmp (pp 4),.tmp (pp 5)],
 .seq (.reg [
 qo 4 (.p (S.get (.c (.slice none 0 0 0)))) [],
 qo 5 (.p (S.get (ii 0))) []]) (
 .seq (.seq (.reg [
 mv 8 1,
 qo 9 (.p (arF .lss (tt 8) (ii 1))) [pp 8],
 mv 10 9,
 mg 11 1 10 false,
 qg 12 (.p (arF .gtr (tt 11) (ii 8))) 10 false [pp 11],
 qo 13 (.p (pickF (tt 10) (.c (.bool true)) (tt 12))) [pp 10,pp 12],
 mv 14 13,
 mg 15 1 14 false,
 qg 16 (.p (arF .lss (tt 15) (ii 8))) 14 false [pp 15],
 mg 17 16 14 false,
 mg 18 0 17 true,
 mg 19 1 17 true,
 qg 20 (.p (arF .mul (ii 8) (tt 19))) 17 true [pp 19],
 qg 21 (.p (arF .shr (tt 18) (tt 20))) 17 true [pp 18,pp 20],
 qg 22 (.p (arF .gtr (tt 21) (.c (.int .u64 0)))) 17 true [pp 21],
 qg 23 (.p (pickF (tt 17) (tt 22) (.c (.bool false)))) 14 false [pp 17,pp 22],
 qo 24 (.p (pickF (tt 14) (.c (.bool true)) (tt 23))) [pp 14,pp 23]]) (
 .cond (tt 24) (.seq (.reg [
 qo 4 (.p (S.get (.c (.slice none 0 0 0)))) [],
 qo 5 (.p (S.get (ii 2))) []]) (
 .ret)) (.skip))) (
 .seq (.reg [
 mv 25 1,
 qo 26 (.m (mksliceF 1 1 [.int .u8 0] (tt 25) (tt 25))) [pp 25,pp 25],
 mv 6 26]) (
 .seq (.seq (.reg [
 mv 27 1,
 qo 28 (.p (S.get (ii 0))) []]) (
 .block 0 (.loop c145_l0))) (
 .seq (.reg [
 mv 40 6,
 mv 4 40,
 qo 5 (.p (S.get (ii 0))) []]) (
 .ret)))))⟩
theorem c145_eq:fnOf Tryz.prog 145=some c145:=by kernel_rfl
theorem shr_u64 (a m:Nat) (hm:m < 64):arith .shr (.int .u64 (a:Int)) (.int .i64 (m:Int))=some (.int .u64 ((a / 2 ^ m:Nat):Int)):=by
 have:min m 64=m:=by omega
 show some (V.int .u64 (.ofNat (Nat.div a (Nat.pow 2 (min m 64)))))=_
 rw[this];rfl
def dig (N i:Nat):Nat:=N / 256 ^ i % 256
theorem dig_lt (N i:Nat):dig N i < 256:=Nat.mod_lt _ (by decide)
theorem digs_stl (N:Nat):∀ n,digs N n=stl (dig N) n 0
 | 0=>rfl
 | n+1=>by
  rw[digs,digs_stl N n]
  have:∀(f:Nat→Nat) n j,stl f (n+1) j=stl f n j++[f (j+n)]:=by
   intro f n
   induction n with
   | zero=>intro j;rfl
   | succ n ih=>
    intro j
    show f j::stl f (n+1) (j+1)=(f j::stl f n (j+1))++[f (j+(n+1))]
    rw[ih (j+1),List.cons_append,show j+1+n=j+(n+1) by omega]
  rw[this,Nat.zero_add];rfl
end Go.Proofs.YtllkepkaimnodaaGreatDoor.draft
namespace Go.Proofs.YtllkepkaimnodaaGreatDoor.draft
open Go.Am
theorem or4:∀ a,a < 4→∀ b,b < 4→∀ c,c < 4→∀ d,d < 4→(((0 ||| a*1) ||| b*4) ||| c*16) ||| d*64=a+4*b+16*c+64*d:=by decide +kernel
end Go.Proofs.YtllkepkaimnodaaGreatDoor.draft
namespace Go.Proofs.YtllkepkaimnodaaGreatDoor.draft
open Go.Am
noncomputable def c150:CFn:=⟨[.cell (pp 4) 64 .bk,.tmp (pp 5)],
 .seq (.reg [
 qo 4 (.m (allocF 64 [.blk 0])) [],
 qo 5 (.p (S.get (ii 0))) []]) (
 .seq (.block 0 (.seq (.reg [
 mv 11 0,
 qo 12 (.p (eqcF false false [.int .u64] (tt 11) (.c (.int .u64 0)))) [pp 11],
 mv 10 12]) (
 .cond (tt 10) (.seq (.reg [
 qo 13 (.r (loadF (tt 4) 64 .bk)) [pp 4],
 qn (.a (storeF (tt 4) (tt 13) 64)) [pp 4,pp 13],
 qo 5 (.p (S.get (ii 2))) []]) (
 .ret)) (.seq (.reg [
 mv 15 1,
 qo 16 (.p (lenF (tt 15))) [pp 15],
 qo 17 (.p (arF .gtr (tt 16) (ii 44))) [pp 16],
 mv 14 17]) (
 .cond (tt 14) (.seq (.reg [
 qo 18 (.r (loadF (tt 4) 64 .bk)) [pp 4],
 qn (.a (storeF (tt 4) (tt 18) 64)) [pp 4,pp 18],
 qo 5 (.p (S.get (ii 3))) []]) (
 .ret)) (.skip)))))) (
 .seq (.reg [
 mv 20 0,
 qo 21 (.c (callF (ff 145) [(tt 20),(ii 8)])) [pp 20],
 mv 19 21,
 qo 22 (.p (extF (tt 19) 0)) [pp 19],
 qo 23 (.p (extF (tt 19) 1)) [pp 19],
 mv 6 22,
 mv 7 23]) (
 .seq (.reg [
 qo 24 (.p (sliceAF 64 1 (tt 4) none (some (ii 8)) none)) [pp 4],
 mv 25 6,
 qo 26 (.a (cpyF 1 (tt 24) (tt 25))) [pp 24,pp 25]]) (
 .seq (.reg [
 qo 27 (.p (sliceAF 64 1 (tt 4) (some (ii 8)) (some (ii 52)) (some (ii 52)))) [pp 4],
 mv 28 1,
 qo 29 (.a (cpyF 1 (tt 27) (tt 28))) [pp 27,pp 28]]) (
 .seq (.reg [
 qo 31 (.p (sliceAF 64 1 (tt 4) none (some (ii 52)) (some (ii 52)))) [pp 4],
 qo 32 (.c (callF (ff 170) [(tt 31)])) [pp 31],
 qo 33 (.p (convF .u64 (tt 32))) [pp 32],
 qo 34 (.c (callF (ff 145) [(tt 33),(ii 4)])) [pp 33],
 mv 30 34,
 qo 35 (.p (extF (tt 30) 0)) [pp 30],
 qo 36 (.p (extF (tt 30) 1)) [pp 30],
 mv 8 35,
 mv 9 36]) (
 .seq (.reg [
 qo 37 (.p (sliceAF 64 1 (tt 4) (some (ii 52)) (some (ii 56)) (some (ii 56)))) [pp 4],
 mv 38 8,
 qo 39 (.a (cpyF 1 (tt 37) (tt 38))) [pp 37,pp 38]]) (
 .seq (.reg [
 qo 40 (.p (sliceAF 64 1 (tt 4) (some (ii 56)) none none)) [pp 4],
 mv 41 6,
 qo 42 (.a (cpyF 1 (tt 40) (tt 41))) [pp 40,pp 41]]) (
 .seq (.reg [
 qo 43 (.r (loadF (tt 4) 64 .bk)) [pp 4],
 qn (.a (storeF (tt 4) (tt 43) 64)) [pp 4,pp 43],
 qo 5 (.p (S.get (ii 0))) []]) (
 .ret)))))))))⟩
theorem c150_eq:fnOf Tryz.prog 150=some c150:=by kernel_rfl
def layB:Nat→Nat→List Nat→Nat
 | B,_,[]=>B
 | B,o,x::xs=>layB (setByte B o x) (o+1) xs
theorem layB_byte:∀(xs:List Nat) (B o:Nat),(∀ x ∈ xs,x < 256)→∀ j,byte (layB B o xs) j=if o≤j∧j < o+xs.length then xs.getD (j - o) 0 else byte B j
 | [],B,o,_,j=>by
  rw[if_neg (by simp;try omega)];rfl
 | x::xs,B,o,h,j=>by
  show byte (layB (setByte B o x) (o+1) xs) j=_
  rw[layB_byte xs (setByte B o x) (o+1) (fun z hz=>h z (List.mem_cons_of_mem _ hz)) j,byte_setByte _ _ _ _ (h x (List.mem_cons_self ..))]
  by_cases h1:j=o
  ·subst h1
   rw[if_neg (by omega),if_pos rfl,if_pos (by simp),Nat.sub_self];rfl
  ·by_cases h2:o+1≤j∧j < o+1+xs.length
   ·rw[if_pos h2,if_pos (by simp;omega),show j - o=(j - (o+1))+1 by omega];rfl
   ·rw[if_neg h2,if_neg h1,if_neg (by simp;omega)]
theorem layB_lt:∀(xs:List Nat) (B o:Nat),(∀ x ∈ xs,x < 256)→o+xs.length≤64→B < 256 ^ 64→layB B o xs < 256 ^ 64
 | [],B,o,_,_,hB=>hB
 | x::xs,B,o,h,hl,hB=>by
  rw[List.length_cons] at hl
  exact layB_lt xs (setByte B o x) (o+1) (fun z hz=>h z (List.mem_cons_of_mem _ hz)) (by omega) (setByte_lt _ _ _ (h x (List.mem_cons_self ..)) (by omega) hB)
theorem store_lay {b:Bk}:∀(xs:List Nat) (o:Nat) (H:Heap) (B:Nat),H.get b=some (.rows false 64 [[.blk B]])→o+xs.length≤64→(∀ x ∈ xs,x < 256) →
  ∃ H',storeElems b 1 (rowsN xs) o H=some H'∧H'.get b=some (.rows false 64 [[.blk (layB B o xs)]])∧Turns (fun c=>c=b) H H'∧H'.next=H.next
 | [],o,H,B,h,hl,hx=>⟨H,rfl,h,Turns.refl _ _,rfl⟩
 | x::xs,o,H,B,h,hl,hx=>by
  rw[List.length_cons] at hl
  have st:=disk.cell_store_byte h (j:=o) (by omega) (hx x (List.mem_cons_self ..))
  obtain⟨H',e,hg,hT,hn⟩:=store_lay (b:=b) xs (o+1) (H.set b (.rows false 64 [[.blk (setByte B o x)]])) (setByte B o x) (by rw[Heap.get_set,if_pos rfl]) (by omega) (fun z hz=>hx z (List.mem_cons_of_mem _ hz))
  refine⟨H',?_,hg,(Turns.set (X:=fun c=>c=b) rfl H _).trans hT,by rw[hn];simp⟩
  show (match storeAt H ⟨b,o⟩ [.int .u8 (x:Int)] with | some H'=>storeElems b 1 (rowsN xs) (Nat.add o 1) H' | none=>none)=_
  rw[st]
  exact e
theorem copy_lay {H:Heap} {b:Bk} {B o dl dc dx sl sc sx:Nat} {sp:Ptr} {xs:List Nat} (h:H.get b=some (.rows false 64 [[.blk B]])) (hs:elems H sp.b 1 sl sp.o=some (rowsN xs)) (hl:xs.length=sl) (h0:sl≠0) (hd:sl≤dl) (ho:o+sl≤64) (hx:∀ x ∈ xs,x < 256) :
  ∃ H',copyV 1 H (.slice (some ⟨b,o⟩) dl dc dx) (.slice (some sp) sl sc sx)=some (.int .i64 (sl:Int),H')∧H'.get b=some (.rows false 64 [[.blk (layB B o xs)]])∧Turns (fun c=>c=b) H H'∧H'.next=H.next:=by
 obtain⟨H',e,hg,hT,hn⟩:=store_lay (b:=b) xs o H B h (by omega) hx
 refine⟨H',?_,hg,hT,hn⟩
 have hm:min sl dl=sl:=by omega
 unfold copyV
 simp only[hm]
 have hb:sl.beq 0=false:=beq_false.2 h0
 have hf:firstE H 1 (.slice (some sp) sl sc sx)=some (rowsN xs):=hs
 rw[hb,hf]
 simp only[e,Option.map_some]
 rfl
theorem elems_lst {H0 H:Heap} {l:List Nat} {v:V} (h:Lst H0 H 1 (rowsN l) v) {k m c o:Nat} (e:v=.slice (some ⟨.run k,0⟩) m c o) (hm:m=l.length):elems H (.run k) 1 m 0=some (rowsN l):=by
 rcases h with ⟨e1,e2⟩ | ⟨j,_,e2,hg,_,_⟩
 ·rw[e] at e2;cases e2
 ·rw[e] at e2
  have hk:=(V.slice.inj e2).1
  cases hk
  have:∀(L:List Nat) (a:Nat),(∀ i,i < L.length→(rowsN l)[a+i]?=(rowsN L)[i]?)→elems H (.run k) 1 L.length a=some (rowsN L):=by
   intro L
   induction L with
   | nil=>intro a _;rfl
   | cons x L ih=>
    intro a hh
    have e1:=hh 0 (by simp)
    rw[Nat.add_zero] at e1
    have lk:loadAt H ⟨.run k,a⟩ 1=some [.int .u8 (x:Int)]:=by
     rw[loadAt_eq hg (r:=[.int .u8 (x:Int)]) (by rw[Nat.div_one,nth_eq,e1];rfl),Nat.mod_one]
     rfl
    show elems H (.run k) 1 (L.length+1) a=_
    unfold elems
    rw[lk]
    simp only
    rw[show Nat.add a 1=a+1 from rfl,ih (a+1) (fun i hi=>by
     have:=hh (i+1) (by simp;omega)
     rw[show a+1+i=a+(i+1) by omega,this];rfl)]
    rfl
  rw[hm]
  exact this l 0 (fun i hi=>by rw[Nat.zero_add])
theorem elems_bod {H:Heap} {k:Nat} {c:Nat→Nat} {N:Nat} (h:BodyAt H k c N):∀ n j,j+n≤N→elems H (.run k) 1 n j=some (rowsN (stl c n j))
 | 0,_,_=>rfl
 | n+1,j,hj=>by
  unfold elems
  rw[h.load (show j < N by omega)]
  simp only
  rw[show Nat.add j 1=j+1 from rfl,elems_bod h n (j+1) (by omega)]
  rfl
theorem digs_len' (N n:Nat):(stl (dig N) n 0).length=n:=stl_len _ _ _
theorem stl_dig_lt (N n:Nat):∀ x ∈ stl (dig N) n 0,x < 256:=by
 rw[← digs_stl];exact digs_lt N n
end Go.Proofs.YtllkepkaimnodaaGreatDoor.draft
namespace Go.Proofs.YtllkepkaimnodaaGreatDoor.draft
open Go.Am
section
variable {K:Nat}
theorem u_take_ok (H:Heap) {r c:Nat} (hr:r < 4294967296) (hc:c < 256) (lf n:Nat):U lf K (n+1) 186 [.int .u32 (r:Int),.int .u8 (c:Int)] H=some (.v (.int .u32 ((crc.takeN r c:Nat):Int)),H):=by
 have h:(Nat.ble r 4294967295&&Nat.ble c 255)=true:=by
  rw[ble_iff.2 (by omega:r≤4294967295),ble_iff.2 (by omega:c≤255)];rfl
 refine callU_told ?_
 show (match Nat.ble r 4294967295&&Nat.ble c 255 with | true=>some (Rs.v (.int .u32 (.ofNat (crc.takeN r c))),H) | false=>none)=_
 rw[h]
 rfl
theorem u_crc_ok {H:Heap} {p:Ptr} {len cap loose:Nat} {c:Nat→Nat} (hm:len < 1000000) (hb:∀ i,i < len→c i < 256) (hd:∀ i,i < len→loadAt H ⟨p.b,p.o+i⟩ 1=some [.int .u8 (c i:Int)]) (lf n:Nat) (hlf:len+1 < lf) :
  U lf K (n+2) 148 [.int .u32 0,.slice (some p) len cap loose] H=some (.v (.int .u32 ((notN (crcN c len):Nat):Int)),H):=by
 obtain⟨v,H',e,rfl,rfl⟩:ret (U lf K (n+2) 148 [.int .u32 0,.slice (some p) len cap loose] H) fun v H'=>v=.int .u32 ((notN (crcN c len):Nat):Int)∧H'=H:=by
  refine ret_callU rfl rfl c148_eq ?_
  have u0:unary .xor (.int .u32 0)=some (.int .u32 4294967295):=by kernel_rfl
  have hloop:∀ t:T,t.getP (Tr.path 5)=some (.int .u32 4294967295)→t.getP (Tr.path 10)=some (.slice (some p) len cap loose)→t.getP (Tr.path 11)=some (.int .i64 (len:Int))→t.getP (Tr.path 12)=some (.int .i64 0) →
    wp (loopF (runC (U lf K (n+1)) lf c148_l0) lf ⟨t,H,[]⟩) fun x s=>x=.ex 0∧s.d=[]∧s.H=H∧s.t.getP (Tr.path 5)=some (.int .u32 ((crcN c len:Nat):Int)):=by
   intro t q5 q10 q11 q12
   refine wp_loopF (fun k s=>∃ i:Nat,k=len - i∧i≤len∧s.d=[]∧s.H=H∧s.t.getP (Tr.path 5)=some (.int .u32 ((crcN c i:Nat):Int))∧s.t.getP (Tr.path 10)=some (.slice (some p) len cap loose)∧s.t.getP (Tr.path 11)=some (.int .i64 (len:Int))∧s.t.getP (Tr.path 12)=some (.int .i64 (i:Int))) ?_ lf len _ ⟨0,rfl,by omega,rfl,rfl,q5,q10,q11,q12⟩ (by omega)
   rintro k ⟨t,HH,d⟩ ⟨i,rfl,hi,hd',hH,q5,q10,q11,q12⟩
   dsimp only at hd' hH q5 q10 q11 q12
   subst hd';subst hH
   by_cases hlt:i < len
   ·have hlt':(i:Int) < (len:Int):=by omega
    have hle':i+1≤len:=hlt
    have lk:=hd i hlt
    have w3:IntKind.i64.wrap ((i:Int)+1)=((i+1:Nat):Int):=by rw[wrap_i64 (by omega)];omega
    have tk:=u_take_ok (K:=K) HH (crcN_lt (c:=c) (n:=i) (fun j hj=>hb j (by omega))) (hb i hlt) lf n
    simp only[c148_l0,q5,q10,q11,q12,hlt',hle',w3,lk,tk,Nat.mul_one,sy,tup,↓reduceIte,zA,zG,zC,zD,zF,zE,zB,zH,reduceCtorEq]
    exact⟨len - (i+1),by omega,i+1,rfl,by omega,trivial,trivial,rfl,trivial,trivial,by simp⟩
   ·have:i=len:=by omega
    subst this
    simp only[c148_l0,q5,q10,q11,q12,Nat.lt_irrefl,Int.lt_irrefl,sy,tup,↓reduceIte,zA,zG,zC,zD,zF,zE,zB,zH,reduceCtorEq]
    exact⟨trivial,trivial,trivial,trivial⟩
  have un:=not_u32 (crcN_lt hb)
  simp only[c148,u0,sy,tup,↓reduceIte,zA,zG,zC,zD,zF,zE,zB,zH,reduceCtorEq]
  refine wp_ctx (F:=fun r=>seqC _ _ _ (blockC _ r)) (hloop _ ?_ ?_ ?_ ?_) ?_
  ·simp only[sy,tup,↓reduceIte,zA,zG,zC,zD,zF,zE,zB,zH,reduceCtorEq]
  ·simp only[sy,tup,↓reduceIte,zA,zG,zC,zD,zF,zE,zB,zH,reduceCtorEq]
  ·simp only[sy,tup,↓reduceIte,zA,zG,zC,zD,zF,zE,zB,zH,reduceCtorEq]
  ·simp only[sy,tup,↓reduceIte,zA,zG,zC,zD,zF,zE,zB,zH,reduceCtorEq]
  rintro x ⟨t,HH,d⟩ ⟨rfl,hd',hH,q5⟩
  dsimp only at hd' hH q5
  subst hd';subst hH
  simp only[q5,un,sy,tup,↓reduceIte,zA,zG,zC,zD,zF,zE,zB,zH,reduceCtorEq]
  simp
 exact e
theorem u_of_ok {H:Heap} {p:Ptr} {len cap loose:Nat} {c:Nat→Nat} (hm:len < 1000000) (hb:∀ i,i < len→c i < 256) (hd:∀ i,i < len→loadAt H ⟨p.b,p.o+i⟩ 1=some [.int .u8 (c i:Int)]) (lf n:Nat) (hlf:len+1 < lf) :
  U lf K (n+3) 170 [.slice (some p) len cap loose] H=some (.v (.int .u32 ((notN (crcN c len):Nat):Int)),H):=by
 have e1:=u_crc_ok (K:=K) (cap:=cap) (loose:=loose) hm hb hd lf n hlf
 obtain⟨v,H',e,rfl,rfl⟩:ret (U lf K (n+3) 170 [.slice (some p) len cap loose] H) fun v H'=>v=.int .u32 ((notN (crcN c len):Nat):Int)∧H'=H:=by
  refine ret_callU rfl rfl c170_eq ?_
  simp only[c170,e1,sy,tup,↓reduceIte,zA,zG,zC,zD,zF,zE,zB,zH,reduceCtorEq]
  simp
 exact e
theorem u_pnput_ok (H:Heap) {N s:Nat} (hN:N < 18446744073709551616) (hs:1≤s∧s≤8) {lf:Nat} (hlf:17 < lf) (n:Nat):ret (U lf K (n+1) 145 [.int .u64 (N:Int),.int .i64 (s:Int)] H) fun v H'=>Turns Z H H' ∧
  ((N / 256 ^ s=0∧∃ k,v=.tuple [.slice (some ⟨.run k,0⟩) s s 0,.int .i64 0]∧BodyAt H' k (dig N) s∧H.next≤k)∨(N / 256 ^ s≠0∧v=.tuple [.slice none 0 0 0,.int .i64 2])):=by
 have g1:¬ ((s:Int) < 1):=by omega
 have g2:¬ ((8:Int) < (s:Int)):=by omega
 have p256:∀ i:Nat,2 ^ (8*i)=256 ^ i:=fun i=>by rw[Nat.pow_mul]
 obtain⟨s8,hs8⟩:∃ z,z=8*s:=⟨_,rfl⟩
 have w8:IntKind.i64.wrap (8*(s:Int))=(s8:Int):=by rw[wrap_i64 (by omega)];omega
 have hloop:∀ t:T,t.getP (Tr.path 0)=some (.int .u64 (N:Int))→t.getP (Tr.path 6)=some (.slice (some ⟨.run H.next,0⟩) s s 0)→t.getP (Tr.path 27)=some (.int .i64 (s:Int))→t.getP (Tr.path 28)=some (.int .i64 0) →
   wp (loopF (runC (U lf K n) lf c145_l0) lf ⟨t,H.add (.rows false 1 (List.replicate s [.int .u8 0])),[]⟩) fun x s'=>x=.ex 0∧s'.d=[]∧s'.t.getP (Tr.path 6)=some (.slice (some ⟨.run H.next,0⟩) s s 0)∧Turns Z H s'.H∧s'.H.get (.run H.next)=some (.rows false 1 (rowsB (dig N) s 0))∧H.next < s'.H.next:=by
  intro t q0 q6 q27 q28
  refine wp_loopF (fun j s'=>∃ i:Nat,j=s - i∧i≤s∧s'.d=[]∧s'.t.getP (Tr.path 0)=some (.int .u64 (N:Int))∧s'.t.getP (Tr.path 6)=some (.slice (some ⟨.run H.next,0⟩) s s 0)∧s'.t.getP (Tr.path 27)=some (.int .i64 (s:Int))∧s'.t.getP (Tr.path 28)=some (.int .i64 (i:Int))∧Turns Z H s'.H∧s'.H.get (.run H.next)=some (.rows false 1 (rowsB (fun j=>if j < i then dig N j else 0) s 0))∧H.next < s'.H.next) ?_ lf s _ ⟨0,rfl,by omega,rfl,q0,q6,q27,q28,Turns.add Z H _,?_,by simp⟩ (by omega)
  ·rintro j ⟨t,HH,d⟩ ⟨i,rfl,hi,hd,q0,q6,q27,q28,tz,gk,hk⟩
   dsimp only at hd q0 q6 q27 q28 tz gk hk
   subst hd
   by_cases hlt:i < s
   ·have hlt':(i:Int) < (s:Int):=by omega
    have hle':i+1≤s:=hlt
    have w2:IntKind.i64.wrap ((i:Int)+1)=((i+1:Nat):Int):=by rw[wrap_i64 (by omega)];omega
    obtain⟨e,he⟩:∃ e,e=8*i:=⟨_,rfl⟩
    have w3:IntKind.i64.wrap (8*(i:Int))=(e:Int):=by rw[wrap_i64 (by omega)];omega
    have sh:=shr_u64 N e (by omega)
    rw[he,p256] at sh
    rw[← he] at sh
    have w4:IntKind.u8.wrap ((N / 256 ^ i:Nat):Int)=((dig N i:Nat):Int):=by
     show (if false&&decide (((N / 256 ^ i:Nat):Int) % (2 ^ 8:Int)≥(2 ^ (8 - 1):Int)) then((N / 256 ^ i:Nat):Int) % (2 ^ 8:Int) - (2 ^ 8:Int) else((N / 256 ^ i:Nat):Int) % (2 ^ 8:Int))=_
     rw[show (2 ^ 8:Int)=((256:Nat):Int) from rfl]
     simp only[Bool.false_and,Bool.false_eq_true,if_false]
     unfold dig
     rw[← Int.natCast_emod]
    have sto:storeAt HH ⟨.run H.next,i⟩ [.int .u8 ((dig N i:Nat):Int)]=some (HH.set (.run H.next) (.rows false 1 (rowsB (fun j=>if j < i+1 then dig N j else 0) s 0))):=by
     rw[storeAt_eq gk (r:=[.int .u8 (((fun j=>if j < i then dig N j else 0) i:Nat):Int)]) (r':=[.int .u8 ((dig N i:Nat):Int)]) (by rw[Nat.div_one,nth_eq,rowsB_get _ s 0 i hlt,Nat.zero_add]) (by rw[Nat.mod_one];rfl),← upd_eq,Nat.div_one,rowsB_upd _ _ s 0 i hlt]
     rw[rowsB_congr (g:=fun j=>if j < i+1 then dig N j else 0) s 0 (fun j h1 h2=>?_)]
     by_cases e1:j=i
     ·subst e1;simp
     ·by_cases e2:j < i
      ·simp[e1,e2,show j < i+1 by omega]
      ·simp[e1,e2,show ¬ j < i+1 by omega]
    generalize N / 256 ^ i=z at *
    simp only[c145_l0,q0,q6,q27,q28,hlt',hle',w2,w3,sh,w4,sto,arith_mul,Nat.mul_one,sy,tup,↓reduceIte,zA,zG,zC,zD,zF,zE,zB,zH,reduceCtorEq]
    exact⟨s - (i+1),by omega,i+1,rfl,by omega,trivial,trivial,trivial,trivial,by simp,tz.setnew (Nat.le_refl _) _,by rw[Heap.get_set,if_pos rfl],by simpa using hk⟩
   ·have:i=s:=by omega
    subst this
    simp only[c145_l0,q0,q6,q27,q28,Int.lt_irrefl,sy,tup,↓reduceIte,zA,zG,zC,zD,zF,zE,zB,zH,reduceCtorEq]
    refine⟨trivial,trivial,trivial,tz,?_,hk⟩
    rw[gk,rowsB_congr (g:=dig N) i 0 (fun j h1 h2=>by simp[show j < i by omega])]
  ·show (H.add _).get (.run H.next)=_
   rw[Heap.get_add,if_pos rfl,rowsB_rep s 0]
   rfl
 have m1:s≤s:=Nat.le_refl _
 have m2:s*1≤1099511627776:=by omega
 have m3:1*s≤1099511627776:=by omega
 have m4:s≤1099511627776:=by omega
 refine ret_callU rfl rfl c145_eq ?_
 by_cases h8:s < 8
 ·have h8':(s:Int) < 8:=by omega
  have sh:=shr_u64 N s8 (by omega)
  rw[hs8,p256,← hs8] at sh
  by_cases h0:N / 256 ^ s=0
  ·have z0:¬ ((0:Int) < ((N / 256 ^ s:Nat):Int)):=by rw[h0];decide
   simp only[c145,g1,g2,h8',w8,sh,z0,arith_mul,mksliceF,m1,m2,m3,m4,sy,tup,↓reduceIte,zA,zG,zC,zD,zF,zE,zB,zH,reduceCtorEq]
   refine wp_ctx (F:=fun r=>seqC _ _ _ (blockC _ r)) (hloop _ ?_ ?_ ?_ ?_) ?_
   ·simp only[sy,tup,↓reduceIte,zA,zG,zC,zD,zF,zE,zB,zH,reduceCtorEq]
   ·simp only[sy,tup,↓reduceIte,zA,zG,zC,zD,zF,zE,zB,zH,reduceCtorEq]
   ·simp only[sy,tup,↓reduceIte,zA,zG,zC,zD,zF,zE,zB,zH,reduceCtorEq]
   ·simp only[sy,tup,↓reduceIte,zA,zG,zC,zD,zF,zE,zB,zH,reduceCtorEq]
   rintro x ⟨t,HH,d⟩ ⟨rfl,hd,q6,tz,gk,hk⟩
   dsimp only at hd q6 tz gk hk
   subst hd
   simp only[q6,sy,tup,↓reduceIte,zA,zG,zC,zD,zF,zE,zB,zH,reduceCtorEq]
   exact⟨trivial,.inr trivial,_,rfl,tz,.inl ⟨h0,H.next,rfl,⟨gk,hk⟩,Nat.le_refl _⟩⟩
  ·have z0:(0:Int) < ((N / 256 ^ s:Nat):Int):=Int.ofNat_lt.2 (Nat.pos_of_ne_zero h0)
   simp only[c145,g1,g2,h8',w8,sh,z0,arith_mul,sy,tup,↓reduceIte,zA,zG,zC,zD,zF,zE,zB,zH,reduceCtorEq]
   exact⟨trivial,.inr trivial,_,rfl,Turns.refl _ _,.inr ⟨h0,rfl⟩⟩
 ·have h8':¬ (s:Int) < 8:=by omega
  have hs:s=8:=by omega
  have h0:N / 256 ^ s=0:=by rw[hs];exact Nat.div_eq_of_lt (by rw[show (256:Nat) ^ 8=18446744073709551616 by decide +kernel];exact hN)
  simp only[c145,g1,g2,h8',mksliceF,m1,m2,m3,m4,sy,tup,↓reduceIte,zA,zG,zC,zD,zF,zE,zB,zH,reduceCtorEq]
  refine wp_ctx (F:=fun r=>seqC _ _ _ (blockC _ r)) (hloop _ ?_ ?_ ?_ ?_) ?_
  ·simp only[sy,tup,↓reduceIte,zA,zG,zC,zD,zF,zE,zB,zH,reduceCtorEq]
  ·simp only[sy,tup,↓reduceIte,zA,zG,zC,zD,zF,zE,zB,zH,reduceCtorEq]
  ·simp only[sy,tup,↓reduceIte,zA,zG,zC,zD,zF,zE,zB,zH,reduceCtorEq]
  ·simp only[sy,tup,↓reduceIte,zA,zG,zC,zD,zF,zE,zB,zH,reduceCtorEq]
  rintro x ⟨t,HH,d⟩ ⟨rfl,hd,q6,tz,gk,hk⟩
  dsimp only at hd q6 tz gk hk
  subst hd
  simp only[q6,sy,tup,↓reduceIte,zA,zG,zC,zD,zF,zE,zB,zH,reduceCtorEq]
  exact⟨trivial,.inr trivial,_,rfl,tz,.inl ⟨h0,H.next,rfl,⟨gk,hk⟩,Nat.le_refl _⟩⟩
theorem u_pput7_ok {H0 H:Heap} {l:List Nat} {y:V} (hy:Lst H0 H 1 (rowsN l) y) (hne:l≠[]) (hl:l.length≤44) (hb:∀ x ∈ l,x < 256) {N:Nat} (hN:N < 18446744073709551616) (hN0:N≠0) {lf:Nat} (hlf:80 < lf) (n:Nat) :
  ret (U lf K (n+4) 150 [.int .u64 (N:Int),y] H) fun v H'=>Turns Z H H'∧v=.tuple [.blk (blkOf N l),.int .i64 0]:=by
 have l0:l.length≠0:=by simpa using hne
 have t1:=Turns.add Z H (.rows false 64 [[.blk 0]])
 have hg1:(H.add (.rows false 64 [[.blk 0]])).get (.run H.next)=some (.rows false 64 [[.blk 0]]):=by rw[Heap.get_add,if_pos rfl]
 have hn1:(H.add (.rows false 64 [[.blk 0]])).next=H.next+1:=by simp
 obtain⟨H1,hH1⟩:∃ K,H.add (.rows false 64 [[.blk 0]])=K:=⟨_,rfl⟩
 rw[hH1] at t1 hg1 hn1
 have b0:((N:Int)==0)=false:=by simp;exact hN0
 obtain⟨ky,ey,hky,_⟩:=bload hy hne
 have g44:¬ ((44:Int) < (l.length:Int)):=by omega
 obtain⟨vn,H2,en,t2,hvn⟩:=u_pnput_ok (K:=K) H1 hN (s:=8) (by omega) (show 17 < lf by omega) (n+2)
 change U lf K (n+3) 145 [.int .u64 (N:Int),.int .i64 8] H1=_ at en
 have hz8:N / 256 ^ 8=0:=Nat.div_eq_of_lt (by rw[show (256:Nat) ^ 8=18446744073709551616 by decide +kernel];exact hN)
 rcases hvn with ⟨_,k1,rfl,hk1,hk1'⟩ | ⟨h,_⟩
 rotate_left
 ·exact absurd hz8 h
 have g2:H2.get (.run H.next)=some (.rows false 64 [[.blk 0]]):=(t2.same (.run H.next) (by show _ < _;omega) (fun h=>h)).trans hg1
 obtain⟨H3,e3,g3,t3,n3⟩:=copy_lay (dl:=8) (dc:=64) (dx:=0) (sc:=8) (sx:=0) (sp:=⟨.run k1,0⟩) g2 (elems_bod hk1 8 0 (by omega)) (digs_len' N 8) (by omega) (by omega) (show 0+8≤64 by omega) (stl_dig_lt N 8)
 have hy3:Lst H0 H3 1 (rowsN l) y:=((hy.turns t1 (fun _ _=>id)).turns t2 (fun _ _=>id)).turns t3 (fun c hc e=>by
  subst e
  obtain⟨_,_,_,_,ec,e'⟩:=hc
  rw[ey] at ec
  have:=(V.slice.inj ec).1
  cases this
  exact absurd (Bk.run.inj e') (by show ¬ H.next=ky;omega))
 have hky2:ky < H2.next:=Nat.lt_of_lt_of_le hky (t1.trans t2).next
 obtain⟨H4,e4,g4,t4,n4⟩:=copy_lay (dl:=44) (dc:=44) (dx:=0) (sc:=l.length) (sx:=1) (sp:=⟨.run ky,0⟩) g3 (elems_lst hy3 ey rfl) rfl l0 hl (show 8+l.length≤64 by omega) hb
 have hD8:=stl_dig_lt N 8
 have hD8l:=digs_len' N 8
 have hbyte:∀ j,byte (layB (layB 0 0 (stl (dig N) 8 0)) 8 l) j=if j < 52 then(headOf N l).getD j 0 else 0:=fun j=>by
  rw[layB_byte l _ 8 hb j,layB_byte _ 0 0 hD8 j,hD8l]
  have hz:byte 0 j=0:=by
   show (0 / 256 ^ j) % 256=0
   rw[Nat.zero_div]
  have hh:headOf N l=stl (dig N) 8 0++(l++List.replicate (44 - l.length) 0):=by unfold headOf;rw[digs_stl]
  rw[hh]
  by_cases h1:8≤j∧j < 8+l.length
  ·rw[if_pos h1,if_pos (by omega)]
   rw[List.getD_eq_getElem?_getD,List.getD_eq_getElem?_getD,List.getElem?_append_right (by rw[hD8l];omega),hD8l,List.getElem?_append_left (by omega)]
  ·rw[if_neg h1]
   by_cases h2:0≤j∧j < 0+8
   ·rw[if_pos h2,if_pos (by omega)]
    rw[List.getD_eq_getElem?_getD,List.getD_eq_getElem?_getD,List.getElem?_append_left (by rw[hD8l];omega),Nat.sub_zero]
   ·rw[if_neg h2,hz]
    by_cases h3:j < 52
    ·rw[if_pos h3,List.getD_eq_getElem?_getD,List.getElem?_append_right (by rw[hD8l];omega),hD8l,List.getElem?_append_right (by omega),List.getElem?_replicate,if_pos (by omega)];rfl
    ·rw[if_neg h3]
 have eo:=u_of_ok (K:=K) (H:=H4) (p:=⟨.run H.next,0⟩) (len:=52) (cap:=52) (loose:=0) (c:=byte (layB (layB 0 0 (stl (dig N) 8 0)) 8 l)) (by omega) (fun i _=>byte_lt _ _) (fun i hi=>by simpa using disk.cell_load_byte g4 (j:=i) (by omega)) lf n (by omega)
 have hcs:crcN (byte (layB (layB 0 0 (stl (dig N) 8 0)) 8 l)) 52=crcN (fun i=>(headOf N l).getD i 0) 52:=by
  have:∀ {f g:Nat→Nat} (m:Nat),(∀ i,i < m→f i=g i)→crcN f m=crcN g m:=by
   intro f g m
   induction m with
   | zero=>intro _;rfl
   | succ m ih=>
    intro hh
    show crc.takeN (crcN f m) (f m)=crc.takeN (crcN g m) (g m)
    rw[ih (fun i hi=>hh i (by omega)),hh m (by omega)]
  exact this 52 (fun i hi=>by rw[hbyte i,if_pos hi])
 rw[hcs] at eo
 change _=some (Rs.v (V.int .u32 ((sumOf N l:Nat):Int)),H4) at eo
 have hs4:sumOf N l < 4294967296:=notN_lt (crcN_lt (fun i _=>getD_lt (head_lt hb) i))
 have hro:rowOf N l=(headOf N l++digs (sumOf N l) 4)++digs N 8:=rfl
 obtain⟨sm,hsm⟩:∃ z,z=sumOf N l:=⟨_,rfl⟩
 rw[← hsm] at eo hs4 hro
 have w64:IntKind.u64.wrap (sm:Int)=(sm:Int):=wrap_u64 (by omega)
 obtain⟨vs,H5,es,t5,hvs⟩:=u_pnput_ok (K:=K) H4 (N:=sm) (by omega) (s:=4) (by omega) (show 17 < lf by omega) (n+2)
 change U lf K (n+3) 145 [.int .u64 (sm:Int),.int .i64 4] H4=_ at es
 have hz4:sm / 256 ^ 4=0:=Nat.div_eq_of_lt hs4
 rcases hvs with ⟨_,k5,rfl,hk5,hk5'⟩ | ⟨h,_⟩
 rotate_left
 ·exact absurd hz4 h
 have o4:H.next < H4.next:=by rw[n4,n3];have:=t2.next;omega
 have g5:H5.get (.run H.next)=_:=(t5.same (.run H.next) (by show _ < _;exact o4) (fun h=>h)).trans g4
 obtain⟨H6,e6,g6,t6,n6⟩:=copy_lay (dl:=4) (dc:=4) (dx:=0) (sc:=4) (sx:=0) (sp:=⟨.run k5,0⟩) g5 (elems_bod hk5 4 0 (by omega)) (digs_len' sm 4) (by omega) (by omega) (show 52+4≤64 by omega) (stl_dig_lt sm 4)
 have nk1:k1≠H.next:=by omega
 have hk1o:k1 < H2.next:=hk1.old
 have b1:BodyAt H6 k1 (dig N) 8:=by
  have s3:H3.get (.run k1)=H2.get (.run k1):=t3.same (.run k1) hk1o (run_ne nk1)
  have s4:H4.get (.run k1)=H3.get (.run k1):=t4.same (.run k1) (by show _ < _;omega) (run_ne nk1)
  have s5:H5.get (.run k1)=H4.get (.run k1):=t5.same (.run k1) (by show _ < _;omega) (fun h=>h)
  have h5:=t5.next
  have s6:H6.get (.run k1)=H5.get (.run k1):=t6.same (.run k1) (by show _ < _;omega) (run_ne nk1)
  exact⟨by rw[s6,s5,s4,s3];exact hk1.own,by omega⟩
 obtain⟨H7,e7,g7,t7,n7⟩:=copy_lay (dl:=8) (dc:=8) (dx:=0) (sc:=8) (sx:=0) (sp:=⟨.run k1,0⟩) g6 (elems_bod b1 8 0 (by omega)) (digs_len' N 8) (by omega) (by omega) (show 56+8≤64 by omega) (stl_dig_lt N 8)
 have hX:layB (layB (layB (layB 0 0 (stl (dig N) 8 0)) 8 l) 52 (stl (dig sm) 4 0)) 56 (stl (dig N) 8 0)=blkOf N l:=by
  have hrl:=row_len (N:=N) hl
  have hrt:=row_lt (N:=N) hb
  have z64:(0:Nat) < 256 ^ 64:=Nat.pow_pos (by decide)
  refine disk.eq_of_bytes (layB_lt _ _ _ (stl_dig_lt N 8) (by rw[digs_len'];omega) (layB_lt _ _ _ (stl_dig_lt sm 4) (by rw[digs_len'];omega) (layB_lt _ _ _ hb (by omega) (layB_lt _ _ _ hD8 (by rw[hD8l];omega) z64)))) (fillN_lt (fun i=>getD_lt (l:=rowOf N l) hrt i) 64 (Nat.le_refl _)) (fun j hj=>?_)
  have hr:byte (blkOf N l) j=(rowOf N l).getD j 0:=by
   unfold blkOf
   rw[byte_fillN (fun i=>getD_lt (l:=rowOf N l) hrt i),if_pos hj]
  rw[hr,hro,layB_byte _ _ 56 (stl_dig_lt N 8) j,layB_byte _ _ 52 (stl_dig_lt sm 4) j,digs_len',digs_len',hbyte j,digs_stl,digs_stl]
  have hh:=head_len (N:=N) hl
  by_cases h1:56≤j∧j < 56+8
  ·rw[if_pos h1,List.getD_eq_getElem?_getD,List.getD_eq_getElem?_getD,List.getElem?_append_right (by rw[List.length_append,hh,digs_len'];omega),List.length_append,hh,digs_len']
  ·rw[if_neg h1]
   by_cases h2:52≤j∧j < 52+4
   ·rw[if_pos h2,List.getD_eq_getElem?_getD,List.getD_eq_getElem?_getD,List.getElem?_append_left (by rw[List.length_append,hh,digs_len'];omega),List.getElem?_append_right (by omega),hh]
   ·rw[if_neg h2,if_pos (by omega),List.getD_eq_getElem?_getD,List.getD_eq_getElem?_getD,List.getElem?_append_left (by rw[List.length_append,hh,digs_len'];omega),List.getElem?_append_left (by omega)]
 rw[hX] at g7
 have lX:loadAt H7 ⟨.run H.next,0⟩ 64=some [.blk (blkOf N l)]:=by rw[loadAt_eq g7 (r:=[.blk (blkOf N l)]) rfl];exact Dh _ _
 have sX:=disk.cell_store (v:=blkOf N l) g7
 have lY:loadAt (H7.set (.run H.next) (.rows false 64 [[.blk (blkOf N l)]])) ⟨.run H.next,0⟩ 64=some [.blk (blkOf N l)]:=by rw[loadAt_eq (b:=.run H.next) (r:=[.blk (blkOf N l)]) (by rw[Heap.get_set,if_pos rfl]) rfl];exact Dh _ _
 have later:∀ {K K':Heap},Turns Z H K→Turns (fun c=>c=.run H.next) K K'→Turns Z H K':=fun t t'=>t.later t' (fun c ho e=>by subst e;exact absurd ho (Heap.not_old (Nat.le_refl _)))
 have t7':Turns Z H H7:=later (later ((later (later (t1.trans t2) t3) t4).trans t5) t6) t7
 rw[ey]
 have bb1:bounds 64 64 none (some (.int .i64 8)) none=some (0,8,64):=rfl
 have bb2:bounds 64 64 (some (.int .i64 8)) (some (.int .i64 52)) (some (.int .i64 52))=some (8,52,52):=rfl
 have bb3:bounds 64 64 none (some (.int .i64 52)) (some (.int .i64 52))=some (0,52,52):=rfl
 have bb4:bounds 64 64 (some (.int .i64 52)) (some (.int .i64 56)) (some (.int .i64 56))=some (52,56,56):=rfl
 have bb5:bounds 64 64 (some (.int .i64 56)) none none=some (56,64,64):=rfl
 generalize blkOf N l=X at *
 refine ret_callU rfl rfl c150_eq ?_
 simp only[c150,hH1,b0,g44,en,e3,e4,eo,w64,es,e6,e7,lX,sX,lY,bb1,bb2,bb3,bb4,bb5,sliceAF,oget,sy,tup,↓reduceIte,zA,zG,zC,zD,zF,zE,zB,zH,reduceCtorEq]
 exact⟨trivial,.inr trivial,_,rfl,t7'.setnew (Nat.le_refl _) _,rfl⟩
end
end Go.Proofs.YtllkepkaimnodaaGreatDoor.draft
namespace Go.Proofs.YtllkepkaimnodaaGreatDoor.draft
open Go.Am
noncomputable def c149:CFn:=⟨[.tmp (pp 2)],
 .seq (.reg [
 qo 1 (.m (boxF 4 (tt 0))) [pp 0],
 qo 2 (.p (S.get (.c (.bool false)))) []]) (
 .seq (.reg [
 qo 3 (.p (faddrF (tt 1) 0)) [pp 1],
 qo 4 (.r (loadF (tt 3) 1 .sc)) [pp 3],
 qo 5 (.p (arF .geq (tt 4) (.c (.int .u64 1)))) [pp 4],
 mv 6 5,
 qg 7 (.p (faddrF (tt 1) 0)) 6 true [pp 1],
 qg 8 (.r (loadF (tt 7) 1 .sc)) 6 true [pp 7],
 qg 9 (.p (arF .leq (tt 8) (.c (.int .u64 4611686018427387904)))) 6 true [pp 8],
 qo 10 (.p (pickF (tt 6) (tt 9) (.c (.bool false)))) [pp 6,pp 9],
 mv 11 10,
 qg 12 (.p (faddrF (tt 1) 1)) 11 true [pp 1],
 qg 13 (.r (loadF (tt 12) 1 .sc)) 11 true [pp 12],
 qg 14 (.p (arF .leq (tt 13) (.c (.int .u64 4611686018427387904)))) 11 true [pp 13],
 qo 15 (.p (pickF (tt 11) (tt 14) (.c (.bool false)))) [pp 11,pp 14],
 mv 16 15,
 qg 17 (.p (faddrF (tt 1) 2)) 16 true [pp 1],
 qg 18 (.r (loadF (tt 17) 1 .sc)) 16 true [pp 17],
 qg 19 (.p (arF .geq (tt 18) (ii 1))) 16 true [pp 18],
 qo 20 (.p (pickF (tt 16) (tt 19) (.c (.bool false)))) [pp 16,pp 19],
 mv 21 20,
 qg 22 (.p (faddrF (tt 1) 2)) 21 true [pp 1],
 qg 23 (.r (loadF (tt 22) 1 .sc)) 21 true [pp 22],
 qg 24 (.p (arF .leq (tt 23) (ii 32))) 21 true [pp 23],
 qo 25 (.p (pickF (tt 21) (tt 24) (.c (.bool false)))) [pp 21,pp 24],
 mv 2 25]) (
 .ret))⟩
theorem c149_eq:fnOf Tryz.prog 149=some c149:=by kernel_rfl
noncomputable def c151:CFn:=⟨[.tmp (pp 2)],
 .seq (.reg [
 qo 1 (.m (boxF 4 (tt 0))) [pp 0],
 qo 2 (.p (S.get (.c (.slice none 0 0 0)))) []]) (
 .seq (.reg [
 qo 10 (.p (faddrF (tt 1) 1)) [pp 1],
 qo 11 (.r (loadF (tt 10) 1 .sc)) [pp 10],
 qo 12 (.c (callF (ff 145) [(tt 11),(ii 8)])) [pp 11],
 mv 9 12,
 qo 13 (.p (extF (tt 9) 0)) [pp 9],
 qo 14 (.p (extF (tt 9) 1)) [pp 9],
 mv 3 13,
 mv 4 14]) (
 .seq (.reg [
 qo 16 (.p (faddrF (tt 1) 2)) [pp 1],
 qo 17 (.r (loadF (tt 16) 1 .sc)) [pp 16],
 qo 18 (.p (convF .u64 (tt 17))) [pp 17],
 qo 19 (.c (callF (ff 145) [(tt 18),(ii 2)])) [pp 18],
 mv 15 19,
 qo 20 (.p (extF (tt 15) 0)) [pp 15],
 qo 21 (.p (extF (tt 15) 1)) [pp 15],
 mv 5 20,
 mv 6 21]) (
 .seq (.reg [
 qo 23 (.p (faddrF (tt 1) 3)) [pp 1],
 qo 24 (.r (loadF (tt 23) 1 .sc)) [pp 23],
 qo 25 (.p (convF .u64 (tt 24))) [pp 24],
 qo 26 (.c (callF (ff 145) [(tt 25),(ii 4)])) [pp 25],
 mv 22 26,
 qo 27 (.p (extF (tt 22) 0)) [pp 22],
 qo 28 (.p (extF (tt 22) 1)) [pp 22],
 mv 7 27,
 mv 8 28]) (
 .seq (.reg [
 mv 29 3,
 mv 30 5,
 qo 31 (.a (appF 1 1 (tt 29) (tt 30))) [pp 29,pp 30],
 mv 32 7,
 qo 33 (.a (appF 1 1 (tt 31) (tt 32))) [pp 31,pp 32],
 mv 2 33]) (
 .ret)))))⟩
theorem c151_eq:fnOf Tryz.prog 151=some c151:=by kernel_rfl
noncomputable def c91:CFn:=⟨[.cell (pp 2) 64 .bk,.tmp (pp 3)],
 .seq (.reg [
 qo 1 (.m (boxF 4 (tt 0))) [pp 0],
 qo 2 (.m (allocF 64 [.blk 0])) [],
 qo 3 (.p (S.get (ii 0))) []]) (
 .seq (.seq (.reg [
 qo 4 (.r (loadF (tt 1) 4 .ag)) [pp 1],
 qo 5 (.c (callF (ff 149) [(tt 4)])) [pp 4],
 qo 6 (.p (unF .not (tt 5))) [pp 5]]) (
 .cond (tt 6) (.seq (.reg [
 qo 7 (.p (buildF [.blk 0] .bk [])) [],
 qn (.a (storeF (tt 2) (tt 7) 64)) [pp 2,pp 7],
 qo 3 (.p (S.get (ii 2))) []]) (
 .ret)) (.skip))) (
 .seq (.regD [
 qo 8 (.p (faddrF (tt 1) 0)) [pp 1],
 qo 9 (.r (loadF (tt 8) 1 .sc)) [pp 8],
 qo 10 (.r (loadF (tt 1) 4 .ag)) [pp 1],
 qo 11 (.c (callF (ff 151) [(tt 10)])) [pp 10],
 qo 12 (.c (callF (ff 150) [(tt 9),(tt 11)])) [pp 9,pp 11],
 qo 13 (.p (extF (tt 12) 0)) [pp 12],
 qo 14 (.p (extF (tt 12) 1)) [pp 12],
 qn (.a (storeF (tt 2) (tt 13) 64)) [pp 2,pp 13],
 mv 3 14] [0,1,0,4,15,31,31,127,255]) (
 .ret)))⟩
theorem c91_eq:fnOf Tryz.prog 91=some c91:=by kernel_rfl
noncomputable def c41:CFn:=⟨[.tmp (pp 2)],
 .seq (.reg [
 qo 2 (.p (S.get (ii 0))) []]) (
 .seq (.reg [
 mv 3 0,
 qo 4 (.p (arF .rem (tt 3) (.c (.int .u64 8)))) [pp 3],
 qo 5 (.p (convF .i64 (tt 4))) [pp 4],
 mv 2 5]) (
 .ret))⟩
theorem c41_eq:fnOf Tryz.prog 41=some c41:=by kernel_rfl
theorem app_new {H:Heap} {k m:Nat} {xs ys:List Nat} {x:V} (hx:elems H (.run k) 1 m 0=some (rowsN xs)) (hm:xs.length=m) (hy:firstE H 1 x=some (rowsN ys)) (hl:lenOf x=some ys.length) (h0:ys≠[]) (hs:m+ys.length≤1000) :
  appendV 1 1 H (.slice (some ⟨.run k,0⟩) m m 0) x=some (.slice (some ⟨.run H.next,0⟩) (m+ys.length) (m+ys.length) 1,H.add (.rows false 1 (rowsN (xs++ys)))):=by
 have hn0:ys.length≠0:=by simpa using h0
 have hn0':ys.length.beq 0=false:=beq_false.2 hn0
 have hb1:Nat.ble (Nat.mul (Nat.add m ys.length) 1) 1099511627776=true:=ble_iff.2 (by show (m+ys.length)*1≤_;omega)
 have hb2:Nat.ble (Nat.add m ys.length) 1099511627776=true:=ble_iff.2 (by show m+ys.length≤_;omega)
 have hr:Nat.ble (Nat.add m ys.length) m=false:=by
  cases he:Nat.ble (Nat.add m ys.length) m with
  | false=>rfl
  | true=>exact absurd (ble_iff.1 he) (by show ¬ m+ys.length≤m;omega)
 have hf:firstE H 1 (.slice (some ⟨.run k,0⟩) m m 0)=some (rowsN xs):=hx
 unfold appendV
 simp only[hl,hn0',hb1,hb2,hy,hr,hf,Bool.and_self,show Nat.beq 0 0=true from rfl]
 rw[← rowsN_app]
 rfl
theorem lst_new {H:Heap} {l:List Nat} (h0:l≠[]) {n:Nat} (hn:n=l.length):Lst H (H.add (.rows false 1 (rowsN l))) 1 (rowsN l) (.slice (some ⟨.run H.next,0⟩) n n 1):=by
 subst hn
 refine .inr ⟨H.next,fun e=>h0 (List.map_eq_nil_iff.1 e),by rw[rowsN_len],by rw[Heap.get_add,if_pos rfl],Nat.le_refl _,by show _ < _+1;exact Nat.lt_succ_self _⟩
structure NtOk (N:Nt):Prop where
 seq:1≤N.seq∧N.seq≤4611686018427387904
 pos:N.pos≤4611686018427387904
 cells:1≤N.cells∧N.cells≤32
 sum:N.sum < 4294967296
def noteL (N:Nt):List Nat:=stl (dig N.pos) 8 0++stl (dig N.cells) 2 0++stl (dig N.sum) 4 0
def ntV (N:Nt):List V:=[.int .u64 (N.seq:Int),.int .u64 (N.pos:Int),.int .i64 (N.cells:Int),.int .u32 (N.sum:Int)]
theorem noteL_len (N:Nt):(noteL N).length=14:=by unfold noteL;rw[List.length_append,List.length_append,stl_len,stl_len,stl_len]
section
variable {lf K:Nat} (hlf:1000 < lf)
include hlf
theorem unmay (G:Heap) {N:Nt} (hN:NtOk N) (n:Nat):ret (U lf K (n+1) 149 [.agg (ntV N)] G) fun v G'=>v=.bool true∧Turns Z G G':=by
 obtain⟨⟨s1,s2⟩,p1,⟨c1,c2⟩,_⟩:=hN
 have k0:cut (ntV N) 0 1=some [.int .u64 (N.seq:Int)]:=rfl
 have k1:cut (ntV N) 1 1=some [.int .u64 (N.pos:Int)]:=rfl
 have k2:cut (ntV N) 2 1=some [.int .i64 (N.cells:Int)]:=rfl
 have g1:(1:Int)≤(N.seq:Int):=by omega
 have g2:(N.seq:Int)≤4611686018427387904:=by omega
 have g3:(N.pos:Int)≤4611686018427387904:=by omega
 have g4:(1:Int)≤(N.cells:Int):=by omega
 have g5:(N.cells:Int)≤32:=by omega
 have hw:width (ntV N)=4:=rfl
 refine ret_callU rfl rfl c149_eq ?_
 simp (maxDischargeDepth:=12) only[c149,hw,k0,k1,k2,g1,g2,g3,g4,g5,s1,s2,p1,c1,c2,hv,ldO_one,stO_one,sy,tup,↓reduceIte,zA,zG,zC,zD,zF,zE,zB,zH,reduceCtorEq]
 exact⟨trivial,.inr trivial,_,rfl,rfl,Turns.add Z G _⟩
theorem unbody (G:Heap) {N:Nt} (hN:NtOk N) (n:Nat):ret (U lf K (n+2) 151 [.agg (ntV N)] G) fun v G'=>∃ G0,G.next≤G0.next∧Lst G0 G' 1 (rowsN (noteL N)) v∧Turns Z G G':=by
 obtain⟨⟨s1,s2⟩,p1,⟨c1,c2⟩,hsum⟩:=hN
 have k1:cut (ntV N) 1 1=some [.int .u64 (N.pos:Int)]:=rfl
 have k2:cut (ntV N) 2 1=some [.int .i64 (N.cells:Int)]:=rfl
 have k3:cut (ntV N) 3 1=some [.int .u32 (N.sum:Int)]:=rfl
 have hw:width (ntV N)=4:=rfl
 have w1:IntKind.u64.wrap (N.cells:Int)=(N.cells:Int):=Go.Am.wrap_u64 (by omega)
 have w2:IntKind.u64.wrap (N.sum:Int)=(N.sum:Int):=Go.Am.wrap_u64 (by omega)
 have t1:=Turns.add Z G (.rows false 4 [ntV N])
 have hg1:(G.add (.rows false 4 [ntV N])).get (.run G.next)=some (.rows false 4 [ntV N]):=by rw[Heap.get_add,if_pos rfl]
 have wo1:(G.add (.rows false 4 [ntV N])).Old (.run G.next):=by show _ < _+1;exact Nat.lt_succ_self _
 obtain⟨G1,hG1⟩:∃ G1,G.add (.rows false 4 [ntV N])=G1:=⟨_,rfl⟩
 rw[hG1] at t1 hg1 wo1
 obtain⟨v2,G2,e2,t2,h2⟩:=u_pnput_ok (K:=K) G1 (N:=N.pos) (by omega) (s:=8) (by omega) (lf:=lf) (by omega) n
 obtain⟨k,rfl,hk,_⟩:∃ k,v2=.tuple [.slice (some ⟨.run k,0⟩) 8 8 0,.int .i64 0]∧BodyAt G2 k (dig N.pos) 8∧G1.next≤k:=by
  rcases h2 with ⟨_,h⟩ | ⟨h,_⟩
  ·exact h
  ·exact absurd (Nat.div_eq_of_lt (Nat.lt_of_le_of_lt p1 (by decide))) h
 have hg2:=(t2.same _ wo1 (fun h=>h)).trans hg1
 obtain⟨v3,G3,e3,t3,h3⟩:=u_pnput_ok (K:=K) G2 (N:=N.cells) (by omega) (s:=2) (by omega) (lf:=lf) (by omega) n
 obtain⟨q,rfl,hq,_⟩:∃ k,v3=.tuple [.slice (some ⟨.run k,0⟩) 2 2 0,.int .i64 0]∧BodyAt G3 k (dig N.cells) 2∧G2.next≤k:=by
  rcases h3 with ⟨_,h⟩ | ⟨h,_⟩
  ·exact h
  ·exact absurd (Nat.div_eq_of_lt (Nat.lt_of_le_of_lt c2 (by decide))) h
 have hg3:=((t2.trans t3).same _ wo1 (fun h=>h)).trans hg1
 obtain⟨v4,G4,e4,t4,h4⟩:=u_pnput_ok (K:=K) G3 (N:=N.sum) (by omega) (s:=4) (by omega) (lf:=lf) (by omega) n
 obtain⟨r,rfl,hr,_⟩:∃ k,v4=.tuple [.slice (some ⟨.run k,0⟩) 4 4 0,.int .i64 0]∧BodyAt G4 k (dig N.sum) 4∧G3.next≤k:=by
  rcases h4 with ⟨_,h⟩ | ⟨h,_⟩
  ·exact h
  ·exact absurd (Nat.div_eq_of_lt (Nat.lt_of_lt_of_le hsum (by decide))) h
 have hk4:=(hk.turns t3).turns t4
 have hq4:=hq.turns t4
 have l8:(stl (dig N.pos) 8 0).length=8:=stl_len _ _ _
 have l2:(stl (dig N.cells) 2 0).length=2:=stl_len _ _ _
 have l4:(stl (dig N.sum) 4 0).length=4:=stl_len _ _ _
 have a1:=app_new (H:=G4) (x:=.slice (some ⟨.run q,0⟩) 2 2 0) (elems_bod hk4 8 0 (by omega)) l8 (elems_bod hq4 2 0 (by omega)) (by rw[l2];rfl) (fun e=>by rw[e] at l2;cases l2) (by omega)
 rw[l2] at a1
 have hy:=lst_new (H:=G4) (l:=stl (dig N.pos) 8 0++stl (dig N.cells) 2 0) (fun e=>by rw[List.append_eq_nil_iff] at e;rw[e.1] at l8;cases l8) (n:=10) (by rw[List.length_append,l8,l2])
 obtain⟨G5,hG5⟩:∃ G5,G4.add (.rows false 1 (rowsN (stl (dig N.pos) 8 0++stl (dig N.cells) 2 0)))=G5:=⟨_,rfl⟩
 have t5:Turns Z G4 G5:=by rw[← hG5];exact Turns.add Z G4 _
 rw[hG5] at a1 hy
 have hr5:=hr.turns t5
 have n4:rowsN (stl (dig N.sum) 4 0)≠[]:=fun e=>by
  have:=List.map_eq_nil_iff.1 e
  rw[this] at l4;cases l4
 obtain⟨G6,a2,hz,t6,_⟩:=hy.app (by':=1) (x:=.slice (some ⟨.run r,0⟩) 4 4 0) t5.next (elems_bod hr5 4 0 (by omega)) (by rw[rowsN_len,l4];rfl) n4 (by decide) (by rw[rowsN_len,rowsN_len,List.length_append];omega) (by rw[rowsN_len,rowsN_len,List.length_append];omega)
 rw[← rowsN_app] at hz
 rw[rowsN_len,rowsN_len,List.length_append,l8,l2,l4] at a2 hz
 change U lf K (n+1) 145 [.int .u64 (N.pos:Int),.int .i64 8] G1=_ at e2
 change U lf K (n+1) 145 [.int .u64 (N.cells:Int),.int .i64 2] G2=_ at e3
 change U lf K (n+1) 145 [.int .u64 (N.sum:Int),.int .i64 4] G3=_ at e4
 refine ret_callU rfl rfl c151_eq ?_
 simp (maxDischargeDepth:=12) only[c151,hw,hG1,hg1,k1,e2,hg2,k2,w1,e3,hg3,k3,w2,e4,a1,a2,hv,ldO_one,stO_one,sy,tup,↓reduceIte,zA,zG,zC,zD,zF,zE,zB,zH,reduceCtorEq]
 refine⟨trivial,.inr trivial,_,rfl,G4,(((t1.trans t2).trans t3).trans t4).next,hz,?_⟩
 exact((((t1.trans t2).trans t3).trans t4).trans t5).later t6 (fun c ho hb=>by
  obtain⟨j,e',h1,_⟩:=hy.bof hb
  subst e'
  exact absurd ho (Heap.not_old (Nat.le_trans (((t1.trans t2).trans t3).trans t4).next h1)))
noncomputable def noteB (N:Nt):Nat:=blkOf N.seq (noteL N)
theorem stl_lt {c:Nat→Nat} (hc:∀ i,c i < 256):∀ n j,∀ x ∈ stl c n j,x < 256
 | 0,_,x,h=>by cases h
 | n+1,j,x,h=>by
  rcases List.mem_cons.1 h with rfl | h
  ·exact hc _
  ·exact stl_lt hc n (j+1) x h
theorem noteL_lt (N:Nt):∀ x ∈ noteL N,x < 256:=fun x hx=>by
 unfold noteL at hx
 rcases List.mem_append.1 hx with hx | hx
 ·rcases List.mem_append.1 hx with hx | hx
  ·exact stl_lt hlf (dig_lt _) _ _ x hx
  ·exact stl_lt hlf (dig_lt _) _ _ x hx
 ·exact stl_lt hlf (dig_lt _) _ _ x hx
theorem unote (G:Heap) {N:Nt} (hN:NtOk N) (n:Nat):ret (U lf K (n+5) 91 [.agg (ntV N)] G) fun v G'=>v=.tuple [.blk (noteB N),.int .i64 0]∧Turns Z G G':=by
 have hw:width (ntV N)=4:=rfl
 have k0:cut (ntV N) 0 1=some [.int .u64 (N.seq:Int)]:=rfl
 have k4:cut (ntV N) 0 4=some (ntV N):=rfl
 have t1:Turns Z G ((G.add (.rows false 4 [ntV N])).add (.rows false 64 [[.blk 0]])):=by repeat (first | exact Turns.refl _ _ | apply Turns.skip | apply Turns.addm | apply Turns.setb | apply Turns.setl | apply Turns.setr | refine Turns.setn ?_ _ (by omega) _ | refine Turns.trans ?_ (tF _))
 have hg1:((G.add (.rows false 4 [ntV N])).add (.rows false 64 [[.blk 0]])).get (.run G.next)=some (.rows false 4 [ntV N]):=by rw[Heap.get_add,if_neg (run_ne (by simp)),Heap.get_add,if_pos rfl]
 have hb1:((G.add (.rows false 4 [ntV N])).add (.rows false 64 [[.blk 0]])).get (.run (G.next+1))=some (.rows false 64 [[.blk 0]]):=by rw[Heap.get_add,if_pos (by simp)]
 obtain⟨G1,hG1⟩:∃ G1,(G.add (.rows false 4 [ntV N])).add (.rows false 64 [[.blk 0]])=G1:=⟨_,rfl⟩
 have wo1:G1.Old (.run G.next):=by rw[← hG1];show _ < _+1+1;omega
 have bo1:G1.Old (.run (G.next+1)):=by rw[← hG1];show _ < _+1+1;omega
 rw[hG1] at t1 hg1 hb1
 obtain⟨v2,G2,e2,rfl,t2⟩:=unmay hlf G1 hN (K:=K) (n+3)
 have hg2:=(t2.same _ wo1 (fun h=>h)).trans hg1
 obtain⟨y,G3,e3,G0,h0,hy,t3⟩:=unbody hlf G2 hN (K:=K) (n+2)
 have hg3:=(t3.same _ (wo1.mono t2.next) (fun h=>h)).trans hg2
 have hlen:=noteL_len N
 obtain⟨v4,G4,e4,t4,rfl⟩:=u_pput7_ok (K:=K) hy (fun e=>by rw[e] at hlen;cases hlen) (by rw[hlen];decide) (noteL_lt hlf N) (N:=N.seq) (by have:=hN.seq;omega) (by have:=hN.seq;omega) (lf:=lf) (by omega) n
 have hb4:=(((t2.trans t3).trans t4).same _ bo1 (fun h=>h)).trans hb1
 refine ret_callU rfl rfl c91_eq ?_
 simp (maxDischargeDepth:=12) only[c91,hw,hG1,hg1,k4,e2,hg2,k0,e3,hg3,e4,hb4,hv,ldO_one,stO_one,sy,tup,↓reduceIte,zA,zG,zC,zD,zF,zE,zB,zH,reduceCtorEq]
 obtain⟨Q,hQ⟩:∃ Q:List (Option V × Option V),Q=[(loadF (.t (Tr.path 8)) 1 .sc (Tr.setP (Tr.path 8) (.ptr (some ⟨.run G.next,0⟩)) .e) G2,some (.int .u64 (N.seq:Int))),(loadF (.t (Tr.path 8)) 1 .sc (Tr.setP (Tr.path 8) (.ptr (some ⟨.run G.next,0⟩)) .e) G3,some (.int .u64 (N.seq:Int)))]:=⟨_,rfl⟩
 rw[endD_q (q:=Q) (by kernel_rfl) (by rw[hQ];kernel_rfl)]
 have hQ':∀ x ∈ Q,x.1=x.2:=by
  rw[hQ]
  intro x hx
  simp only[List.mem_cons,List.not_mem_nil,or_false] at hx
  rcases hx with rfl | rfl<;>simp (maxDischargeDepth:=12) only[hg2,hg3,k0,hv,ldO_one,stO_one,sy,tup,↓reduceIte,zA,zG,zC,zD,zF,zE,zB,zH,reduceCtorEq]
 simp (maxDischargeDepth:=12) only[hv,ldO_one,stO_one,sy,tup,↓reduceIte,zA,zG,zC,zD,zF,zE,zB,zH,reduceCtorEq]
 refine⟨trivial,.inr trivial,_,rfl,rfl,?_⟩
 exact((((t1.trans t2).trans t3).trans t4).setn _ (by omega) _).owe hQ'
end
end Go.Proofs.YtllkepkaimnodaaGreatDoor.draft
namespace Go.Proofs.YtllkepkaimnodaaGreatDoor.draft
open Go.Am
open disk (bx Fit A1 R1 Low Bn)
inductive Stp where
 | wr (n:Nat) (x:Nat)
 | fl
noncomputable def stepB (B:Bn):Stp→Bn
 | .wr n x=>B.write 0 (n:Int) x
 | .fl=>B.flush 0
noncomputable def runF:Bn→List (Bn→Int × Bn)→Int × Bn
 | B,[]=>(0,B)
 | B,F::l=>if(F B).1=0 then runF (F B).2 l else F B
structure Rm (k:Nat) (B:Bn):Prop where
 ne:B.l≠[]
 le:B.l.length≤17
 dev:∀ D ∈ B.l,D.S≠[]∧(∀ w ∈ D.L,w.1 < D.S.length)∧D.S.length≤512∧D.L.length+k≤900
 ar:0≤B.ar∧B.ar≤9223372036854775807
 st:0≤B.st∧B.st+(k:Int)≤100000
theorem Rm.fit {k:Nat} {B:Bn} (h:Rm k B):Fit B:=⟨h.ne,h.le,fun D hD=>by
 obtain⟨h1,h2,h3,h4⟩:=h.dev D hD
 exact⟨h1,h2,h3,by omega⟩,h.ar,by have:=h.st;omega⟩
theorem Rm.mono {k j:Nat} {B:Bn} (h:Rm k B) (hj:j≤k):Rm j B:=⟨h.ne,h.le,fun D hD=>by
 obtain⟨h1,h2,h3,h4⟩:=h.dev D hD
 exact⟨h1,h2,h3,by omega⟩,h.ar,by have:=h.st;omega⟩
theorem Rm.stepd {k:Nat} {B:Bn} (h:Rm (k+1) B) {d:Int} {D:disk.Dev} (hD:D.S≠[]∧(∀ w ∈ D.L,w.1 < D.S.length)∧D.S.length≤512∧D.L.length+k≤900):Rm k (B.step d D):=by
 unfold disk.Bn.step
 have h1:=h.st
 have h2:=h.ar
 split
 ·exact⟨h.ne,h.le,(h.mono (Nat.le_succ k)).dev,h.ar,by show 0≤B.st∧B.st+_≤_;omega⟩
 ·refine⟨fun e=>h.ne (List.length_eq_zero_iff.1 ?_),?_,fun E hE=>?_,?_,?_⟩
  ·have:=congrArg List.length e
   simpa using this
  ·show (B.l.set _ _).length≤17
   rw[List.length_set];exact h.le
  ·rcases List.mem_or_eq_of_mem_set hE with hE | rfl
   ·exact(h.mono (Nat.le_succ k)).dev E hE
   ·exact hD
  ·show 0≤disk.arLess B.ar∧disk.arLess B.ar≤_
   unfold disk.arLess;split<;>omega
  ·show 0≤B.st+1∧B.st+1+_≤_
   omega
theorem Rm.write {k:Nat} {B:Bn} (h:Rm (k+1) B) (d n:Int) (x:Nat):Rm k (B.write d n x):=by
 unfold disk.Bn.write
 split
 ·rename_i hc
  obtain⟨h1,h2,h3,h4⟩:=h.dev _ (disk.tc_dev (disk.lc_tc (disk.rc_lc hc)))
  refine h.stepd ?_
  unfold disk.Dev.write
  rcases disk.code_cases (B.dev d) n with ⟨j,rfl,hj,hd,hc⟩ | hc | hc
  ·rw[if_pos hc]
   refine⟨h1,fun w hw=>?_,h3,?_⟩
   ·rcases List.mem_append.1 hw with hw | hw
    ·exact h2 w hw
    ·rw[List.mem_singleton.1 hw];exact hj
   ·show (_++[_]).length+k≤900
    rw[List.length_append];simp only[List.length_singleton];omega
  ·rw[if_neg (by rw[hc];decide)];exact⟨h1,h2,h3,by omega⟩
  ·rw[if_neg (by rw[hc];decide)];exact⟨h1,h2,h3,by omega⟩
 ·exact h.mono (Nat.le_succ k)
theorem Rm.flush {k:Nat} {B:Bn} (h:Rm (k+1) B) (d:Int):Rm k (B.flush d):=by
 unfold disk.Bn.flush
 split
 ·rename_i hc
  obtain⟨h1,h2,h3,h4⟩:=h.dev _ (disk.tc_dev (disk.lc_tc (disk.rc_lc hc)))
  refine h.stepd ?_
  unfold disk.Dev.flush
  split
  ·exact⟨h1,h2,h3,by omega⟩
  ·have hl:=disk.flushS_length (B.dev d).L (B.dev d).S
   refine⟨fun e=>h1 (List.length_eq_zero_iff.1 ?_),fun w hw=>absurd hw (by simp),by rw[hl];exact h3,by simp only[List.length_nil];omega⟩
   have e:disk.flushS (B.dev d).S (B.dev d).L=[]:=e
   rw[← hl,e];rfl
 ·exact h.mono (Nat.le_succ k)
theorem Rm.step {k:Nat} {B:Bn} (h:Rm (k+1) B) (s:Stp):Rm k (stepB B s):=by
 cases s with
 | wr n x=>exact h.write 0 _ x
 | fl=>exact h.flush 0
section
variable {lf K:Nat} (hlf:1000 < lf)
include hlf
variable {G:Heap} {l b:Bk} {id R cnt first tail head:Nat} {v:V} (hg:G.get l=some (.rows false 9 [lcells b id R cnt first tail head v])) {B:Bn} (hb:G.get b=some (bx false B)) (hf:Fit B)
include hg hb hf
omit hg hb hf in
end
section
variable {lf K:Nat} (hlf:1000 < lf)
include hlf
end
end Go.Proofs.YtllkepkaimnodaaGreatDoor.draft
namespace Go.Proofs.YtllkepkaimnodaaGreatDoor.draft
open Go.Am
noncomputable def c90_l0:C:=.seq (.reg [
 qo 9 (.p (arF .lss (tt 8) (tt 7))) [pp 8,pp 7]]) (
 .seq (.cond (tt 9) (.skip) (.exit 0)) (
 .seq (.block 1 (.seq (.reg [
 qo 10 (.p (iaddrSF (tt 6) (tt 8) 64)) [pp 6,pp 8],
 qo 11 (.r (loadF (tt 10) 64 .bk)) [pp 10],
 qo 5 (.m (allocF 64 [.blk 0])) [],
 qn (.a (storeF (tt 5) (tt 11) 64)) [pp 5,pp 11]]) (
 .reg [
 mv 12 3,
 qo 13 (.p (sliceAF 64 1 (tt 5) none none none)) [pp 5],
 qo 14 (.c (callF (ff 148) [(tt 12),(tt 13)])) [pp 12,pp 13],
 mv 3 14]))) (
 .reg [
 qo 15 (.p (arF .add (tt 8) (ii 1))) [pp 8],
 mv 8 15])))
noncomputable def c90:CFn:=⟨[.tmp (pp 2)],
 .seq (.reg [
 qo 2 (.p (S.get (.c (.int .u32 0)))) []]) (
 .seq (.reg [
 qo 3 (.p (S.get (.c (.int .u32 0)))) []]) (
 .seq (.seq (.reg [
 mv 6 0,
 qo 7 (.p (lenF (tt 6))) [pp 6],
 qo 8 (.p (S.get (ii 0))) []]) (
 .block 0 (.loop c90_l0))) (
 .seq (.reg [
 mv 16 3,
 mv 2 16]) (
 .ret))))⟩
theorem c90_eq:fnOf Tryz.prog 90=some c90:=by kernel_rfl
noncomputable def crcZ (z:Nat) (c:Nat→Nat):Nat→Nat
 | 0=>z
 | i+1=>crc.takeN (crcZ z c i) (c i)
theorem crcZ_lt {z:Nat} {c:Nat→Nat} (hz:z < 4294967296):∀ {n:Nat},(∀ i,i < n→c i < 256)→crcZ z c n < 4294967296
 | 0,_=>hz
 | n+1,hc=>take_lt (crcZ_lt hz (fun i hi=>hc i (by omega))) (hc n (by omega))
def rowsK (l:List Nat):List (List V):=l.map fun x:Nat=>[V.blk x]
theorem rowsK_len (l:List Nat):(rowsK l).length=l.length:=by unfold rowsK;simp
structure BlksAt (H:Heap) (v:V) (l:List Nat):Prop where
 ex:∃ p c o,v=.slice p l.length c o
 get:∀(i:Nat) (hi:i < l.length),∃ n o c z,v=.slice (some ⟨.run n,o⟩) l.length c z∧loadAt H ⟨.run n,o+i*64⟩ 64=some [.blk l[i]]
theorem blks_lst {H0 H:Heap} {l:List Nat} {v:V} (h:Lst H0 H 64 (rowsK l) v):BlksAt H v l:=by
 refine⟨?_,fun i hi=>?_⟩
 ·obtain⟨p,c,o,e⟩:=h.val
  rw[rowsK_len] at e
  exact⟨p,c,o,e⟩
 ·obtain⟨n,e,hl⟩:=h.load (i:=i) (o:=0) (k:=64) (r:=[.blk l[i]]) (by unfold rowsK;rw[List.getElem?_map,List.getElem?_eq_getElem hi];rfl) (by decide)
  rw[rowsK_len] at e
  exact⟨n,0,_,_,e,by have:=hl;rw[Nat.zero_add];exact this⟩
section
variable {K:Nat}
theorem umore {r:Nat} (hr0:r < 4294967296) {H:Heap} {p:Ptr} {len cap loose:Nat} {c:Nat→Nat} (hm:len < 1000000) (hb:∀ i,i < len→c i < 256) (hd:∀ i,i < len→loadAt H ⟨p.b,p.o+i⟩ 1=some [.int .u8 (c i:Int)]) (lf n:Nat) (hlf:len+1 < lf) :
  U lf K (n+2) 148 [.int .u32 (r:Int),.slice (some p) len cap loose] H=some (.v (.int .u32 ((notN (crcZ (notN r) c len):Nat):Int)),H):=by
 obtain⟨v,H',e,rfl,rfl⟩:ret (U lf K (n+2) 148 [.int .u32 (r:Int),.slice (some p) len cap loose] H) fun v H'=>v=.int .u32 ((notN (crcZ (notN r) c len):Nat):Int)∧H'=H:=by
  refine ret_callU rfl rfl c148_eq ?_
  have u0:=not_u32 hr0
  have hz:=notN_lt hr0
  have hloop:∀ t:T,t.getP (Tr.path 5)=some (.int .u32 ((notN r:Nat):Int))→t.getP (Tr.path 10)=some (.slice (some p) len cap loose)→t.getP (Tr.path 11)=some (.int .i64 (len:Int))→t.getP (Tr.path 12)=some (.int .i64 0) →
    wp (loopF (runC (U lf K (n+1)) lf c148_l0) lf ⟨t,H,[]⟩) fun x s=>x=.ex 0∧s.d=[]∧s.H=H∧s.t.getP (Tr.path 5)=some (.int .u32 ((crcZ (notN r) c len:Nat):Int)):=by
   intro t q5 q10 q11 q12
   refine wp_loopF (fun k s=>∃ i:Nat,k=len - i∧i≤len∧s.d=[]∧s.H=H∧s.t.getP (Tr.path 5)=some (.int .u32 ((crcZ (notN r) c i:Nat):Int))∧s.t.getP (Tr.path 10)=some (.slice (some p) len cap loose)∧s.t.getP (Tr.path 11)=some (.int .i64 (len:Int))∧s.t.getP (Tr.path 12)=some (.int .i64 (i:Int))) ?_ lf len _ ⟨0,rfl,by omega,rfl,rfl,q5,q10,q11,q12⟩ (by omega)
   rintro k ⟨t,HH,d⟩ ⟨i,rfl,hi,hd',hH,q5,q10,q11,q12⟩
   dsimp only at hd' hH q5 q10 q11 q12
   subst hd';subst hH
   by_cases hlt:i < len
   ·have hlt':(i:Int) < (len:Int):=by omega
    have hle':i+1≤len:=hlt
    have lk:=hd i hlt
    have w3:IntKind.i64.wrap ((i:Int)+1)=((i+1:Nat):Int):=by rw[wrap_i64 (by omega)];omega
    have tk:=u_take_ok (K:=K) HH (crcZ_lt (c:=c) (n:=i) hz (fun j hj=>hb j (by omega))) (hb i hlt) lf n
    simp only[c148_l0,q5,q10,q11,q12,hlt',hle',w3,lk,tk,Nat.mul_one,sy,tup,↓reduceIte,zA,zG,zC,zD,zF,zE,zB,zH,reduceCtorEq]
    exact⟨len - (i+1),by omega,i+1,rfl,by omega,trivial,trivial,rfl,trivial,trivial,by simp⟩
   ·have:i=len:=by omega
    subst this
    simp only[c148_l0,q5,q10,q11,q12,Nat.lt_irrefl,Int.lt_irrefl,sy,tup,↓reduceIte,zA,zG,zC,zD,zF,zE,zB,zH,reduceCtorEq]
    exact⟨trivial,trivial,trivial,trivial⟩
  have un:=not_u32 (crcZ_lt hz hb)
  simp only[c148,u0,sy,tup,↓reduceIte,zA,zG,zC,zD,zF,zE,zB,zH,reduceCtorEq]
  refine wp_ctx (F:=fun r=>seqC _ _ _ (blockC _ r)) (hloop _ ?_ ?_ ?_ ?_) ?_
  ·simp only[sy,tup,↓reduceIte,zA,zG,zC,zD,zF,zE,zB,zH,reduceCtorEq]
  ·simp only[sy,tup,↓reduceIte,zA,zG,zC,zD,zF,zE,zB,zH,reduceCtorEq]
  ·simp only[sy,tup,↓reduceIte,zA,zG,zC,zD,zF,zE,zB,zH,reduceCtorEq]
  ·simp only[sy,tup,↓reduceIte,zA,zG,zC,zD,zF,zE,zB,zH,reduceCtorEq]
  rintro x ⟨t,HH,d⟩ ⟨rfl,hd',hH,q5⟩
  dsimp only at hd' hH q5
  subst hd';subst hH
  simp only[q5,un,sy,tup,↓reduceIte,zA,zG,zC,zD,zF,zE,zB,zH,reduceCtorEq]
  simp
 exact e
noncomputable def sumB (l:List Nat):Nat:=l.foldl (fun r x=>notN (crcZ (notN r) (byte x) 64)) 0
theorem sumB_app (l:List Nat) (x:Nat):sumB (l++[x])=notN (crcZ (notN (sumB l)) (byte x) 64):=by unfold sumB;rw[List.foldl_append,List.foldl_cons,List.foldl_nil]
theorem sumB_lt (l:List Nat):sumB l < 4294967296:=by
 unfold sumB
 suffices h:∀(l:List Nat) (r:Nat),r < 4294967296→l.foldl (fun r x=>notN (crcZ (notN r) (byte x) 64)) r < 4294967296 from h l 0 (by decide)
 intro l
 induction l with
 | nil=>intro r h;rw[List.foldl_nil];exact h
 | cons x l ih=>intro r h;rw[List.foldl_cons];exact ih _ (notN_lt (crcZ_lt (notN_lt h) (fun i _=>byte_lt _ _)))
theorem usum {lf:Nat} (hlf:1000 < lf) {G:Heap} {v:V} {l:List Nat} (hl:∀ H,Turns Z G H→BlksAt H v l) (hs:l.length≤900) (n:Nat):ret (U lf K (n+3) 90 [v] G) fun v G'=>v=.int .u32 (sumB l:Int)∧Turns Z G G':=by
 have hloop:∀(t:T),t.getP (Tr.path 3)=some (.int .u32 0)→t.getP (Tr.path 6)=some v→t.getP (Tr.path 7)=some (.int .i64 (l.length:Int))→t.getP (Tr.path 8)=some (.int .i64 0) →
   wp (loopF (runC (U lf K (n+2)) lf c90_l0) lf ⟨t,G,[]⟩) fun x s=>x=.ex 0∧s.d=[]∧s.t.getP (Tr.path 3)=some (.int .u32 (sumB l:Int))∧Turns Z G s.H:=by
  intro t q3 q6 q7 q8
  refine wp_loopF (fun k s=>∃ i,k=l.length - i∧i≤l.length∧s.d=[]∧s.t.getP (Tr.path 3)=some (.int .u32 (sumB (l.take i):Int))∧s.t.getP (Tr.path 6)=some v∧s.t.getP (Tr.path 7)=some (.int .i64 (l.length:Int))∧s.t.getP (Tr.path 8)=some (.int .i64 (i:Int))∧Turns Z G s.H) ?_ lf l.length _ ⟨0,rfl,Nat.zero_le _,rfl,q3,q6,q7,q8,Turns.refl _ _⟩ (by omega)
  rintro k ⟨t,HH,d⟩ ⟨i,rfl,hi,rfl,q3,q6,q7,q8,hT⟩
  dsimp only at q3 q6 q7 q8 hT
  by_cases hlt:i < l.length
  ·have hlt':(i:Int) < (l.length:Int):=by omega
   obtain⟨nn,o,c,z,rfl,hld⟩:=(hl HH hT).get i hlt
   rw[ld_get] at hld
   have hsum:sumB (l.take (i+1))=notN (crcZ (notN (sumB (l.take i))) (byte l[i]) 64):=by rw[List.take_succ_eq_append_getElem hlt,sumB_app]
   have hw:IntKind.i64.wrap ((i:Int)+1)=((i+1:Nat):Int):=by rw[Go.Am.wrap_i64 (by omega)];rfl
   have hle:i+1≤l.length:=hlt
   obtain⟨H1,hH1⟩:∃ H1,(HH.add (.rows false 64 [[.blk 0]])).set (.run HH.next) (.rows false 64 [[.blk l[i]]])=H1:=⟨_,rfl⟩
   have hg1:H1.get (.run HH.next)=some (.rows false 64 [[.blk l[i]]]):=by rw[← hH1,Heap.get_set,if_pos rfl]
   have t1:Turns Z HH H1:=by rw[← hH1];repeat (first | exact Turns.refl _ _ | apply Turns.skip | apply Turns.addm | apply Turns.setb | apply Turns.setl | apply Turns.setr | refine Turns.setn ?_ _ (by omega) _ | refine Turns.trans ?_ (tF _))
   have em:=umore (K:=K) (sumB_lt (l.take i)) (H:=H1) (p:=⟨.run HH.next,0⟩) (len:=64) (cap:=64) (loose:=0) (c:=byte l[i]) (by decide) (fun j _=>byte_lt _ _) (fun j hj=>by rw[Nat.zero_add];exact load_byte hg1 hj) lf n (by omega)
   rw[← hsum] at em
   simp (maxDischargeDepth:=12) only[c90_l0,q3,q6,q7,q8,hlt',hle,hld,hH1,em,hw,sliceAF,bounds,boundD,oget,hv,ldO_one,stO_one,sy,tup,↓reduceIte,zA,zG,zC,zD,zF,zE,zB,zH,reduceCtorEq]
   exact⟨l.length - (i+1),by omega,i+1,rfl,hlt,trivial,by simp,by simp[q6],by simp[q7],by simp,hT.trans t1⟩
  ·have:i=l.length:=by omega
   subst this
   rw[List.take_length] at q3
   simp (maxDischargeDepth:=12) only[c90_l0,q3,q6,q7,q8,Int.lt_irrefl,hv,ldO_one,stO_one,sy,tup,↓reduceIte,zA,zG,zC,zD,zF,zE,zB,zH,reduceCtorEq]
   exact⟨trivial,trivial,trivial,hT⟩
 obtain⟨p,c,z,rfl⟩:=(hl G (Turns.refl Z G)).ex
 refine ret_callU rfl rfl c90_eq ?_
 simp (maxDischargeDepth:=12) only[c90,hv,ldO_one,stO_one,sy,tup,↓reduceIte,zA,zG,zC,zD,zF,zE,zB,zH,reduceCtorEq]
 refine wp_ctx (F:=fun r=>seqC _ _ _ (blockC _ r)) (hloop _ ?_ ?_ ?_ ?_) ?_
 ·simp only[sy,tup,↓reduceIte,zA,zG,zC,zD,zF,zE,zB,zH,reduceCtorEq]
 ·simp only[sy,tup,↓reduceIte,zA,zG,zC,zD,zF,zE,zB,zH,reduceCtorEq]
 ·simp only[sy,tup,↓reduceIte,zA,zG,zC,zD,zF,zE,zB,zH,reduceCtorEq]
 ·simp only[sy,tup,↓reduceIte,zA,zG,zC,zD,zF,zE,zB,zH,reduceCtorEq]
 rintro x ⟨t,HH,d⟩ ⟨rfl,rfl,q3,hT⟩
 dsimp only at q3 hT
 simp (maxDischargeDepth:=12) only[q3,hv,ldO_one,stO_one,sy,tup,↓reduceIte,zA,zG,zC,zD,zF,zE,zB,zH,reduceCtorEq]
 exact⟨trivial,.inr trivial,_,rfl,rfl,hT⟩
end
end Go.Proofs.YtllkepkaimnodaaGreatDoor.draft
namespace Go.Proofs.YtllkepkaimnodaaGreatDoor.draft
open Go.Am
noncomputable def c167:CFn:=⟨[.tmp (pp 2)],
 .seq (.reg [
 qo 1 (.m (boxF 4 (tt 0))) [pp 0],
 qo 2 (.p (S.get (.c (.bool false)))) []]) (
 .seq (.reg [
 qo 3 (.p (faddrF (tt 1) 0)) [pp 1],
 qo 4 (.r (loadF (tt 3) 1 .sc)) [pp 3],
 qo 5 (.p (eqcF true false [.int .u64] (tt 4) (.c (.int .u64 0)))) [pp 4],
 mv 6 5,
 qg 7 (.p (faddrF (tt 1) 1)) 6 true [pp 1],
 qg 8 (.r (loadF (tt 7) 1 .sc)) 6 true [pp 7],
 qg 9 (.p (arF .geq (tt 8) (ii 40))) 6 true [pp 8],
 qo 10 (.p (pickF (tt 6) (tt 9) (.c (.bool false)))) [pp 6,pp 9],
 mv 11 10,
 qg 12 (.p (faddrF (tt 1) 1)) 11 true [pp 1],
 qg 13 (.r (loadF (tt 12) 1 .sc)) 11 true [pp 12],
 qg 14 (.p (arF .leq (tt 13) (ii 256))) 11 true [pp 13],
 qo 15 (.p (pickF (tt 11) (tt 14) (.c (.bool false)))) [pp 11,pp 14],
 mv 16 15,
 qg 17 (.p (faddrF (tt 1) 2)) 16 true [pp 1],
 qg 18 (.r (loadF (tt 17) 1 .sc)) 16 true [pp 17],
 qg 19 (.p (arF .geq (tt 18) (.c (.int .u64 1)))) 16 true [pp 18],
 qo 20 (.p (pickF (tt 16) (tt 19) (.c (.bool false)))) [pp 16,pp 19],
 mv 21 20,
 qg 22 (.p (faddrF (tt 1) 2)) 21 true [pp 1],
 qg 23 (.r (loadF (tt 22) 1 .sc)) 21 true [pp 22],
 qg 24 (.p (arF .leq (tt 23) (.c (.int .u64 4611686018427387904)))) 21 true [pp 23],
 qo 25 (.p (pickF (tt 21) (tt 24) (.c (.bool false)))) [pp 21,pp 24],
 mv 26 25,
 qg 27 (.p (faddrF (tt 1) 3)) 26 true [pp 1],
 qg 28 (.r (loadF (tt 27) 1 .sc)) 26 true [pp 27],
 qg 29 (.p (arF .leq (tt 28) (.c (.int .u64 4611686018427387904)))) 26 true [pp 28],
 qo 30 (.p (pickF (tt 26) (tt 29) (.c (.bool false)))) [pp 26,pp 29],
 mv 2 30]) (
 .ret))⟩
theorem c167_eq:fnOf Tryz.prog 167=some c167:=by kernel_rfl
def mkV (id R first pos:Nat):List V:=[.int .u64 (id:Int),.int .i64 (R:Int),.int .u64 (first:Int),.int .u64 (pos:Int)]
section
variable {lf K:Nat} (hlf:1000 < lf)
include hlf
theorem unslot (G:Heap) {q:Nat} (n:Nat):U lf K (n+1) 41 [.int .u64 (q:Int)] G=some (.v (.int .i64 ((q % 8:Nat):Int)),G):=by
 have r1:arith .rem (.int .u64 (q:Int)) (.int .u64 8)=some (.int .u64 ((q % 8:Nat):Int)):=rem_u64 q 8 (by decide)
 have hlt:q % 8 < 8:=Nat.mod_lt _ (by decide)
 generalize q % 8=z at *
 have w2:IntKind.i64.wrap (z:Int)=(z:Int):=Go.Am.wrap_i64 (by omega)
 obtain⟨v,H',e',rfl,rfl⟩:ret (U lf K (n+1) 41 [.int .u64 (q:Int)] G) fun v H'=>v=.int .i64 (z:Int)∧H'=G:=by
  refine ret_callU rfl rfl c41_eq ?_
  simp only[c41,r1,w2,sy,tup,↓reduceIte,zA,zG,zC,zD,zF,zE,zB,zH,reduceCtorEq]
  simp
 exact e'
end
end Go.Proofs.YtllkepkaimnodaaGreatDoor.draft
namespace Go.Proofs.YtllkepkaimnodaaGreatDoor.draft
open Go.Am
def mkN (id R first pos:Nat):Nat→Nat
 | 0=>id
 | 1=>R
 | 2=>first
 | _=>pos
def szM:Nat→Nat
 | 1=>2
 | _=>8
def markL (id R first pos:Nat):Nat→List Nat
 | 0=>[]
 | i+1=>markL id R first pos i++stl (dig (mkN id R first pos i)) (szM i) 0
theorem szM_le (i:Nat):1≤szM i∧szM i≤8:=by unfold szM;split<;>decide
theorem markL_len (id R first pos:Nat):∀ i,(markL id R first pos i).length≤8*i
 | 0=>Nat.le_refl _
 | i+1=>by
  have:=markL_len id R first pos i
  have:=(szM_le i).2
  unfold markL
  rw[List.length_append,stl_len];omega
section
variable {lf K:Nat} (hlf:1000 < lf)
include hlf
theorem markL_lt (id R first pos:Nat):∀ i,∀ x ∈ markL id R first pos i,x < 256
 | 0,x,h=>by cases h
 | i+1,x,h=>by
  unfold markL at h
  rcases List.mem_append.1 h with h | h
  ·exact markL_lt id R first pos i x h
  ·exact stl_lt hlf (dig_lt _) _ _ x h
noncomputable def markB (cnt id R first pos:Nat):Nat:=blkOf cnt (markL id R first pos 4)
end
end Go.Proofs.YtllkepkaimnodaaGreatDoor.draft
namespace Go.Proofs.YtllkepkaimnodaaGreatDoor.draft
open Go.Am
open disk (Bn)
def recS (n:Nat):Nat:=(n+15) / 16+n
end Go.Proofs.YtllkepkaimnodaaGreatDoor.draft
namespace Go.Proofs.YtllkepkaimnodaaGreatDoor.draft
open Go.Am
structure Cl where
 s:Int
 m:Int
 x:Nat
def rowC (c:Cl):List V:=[.int .i64 c.s,.int .i64 c.m,.blk c.x]
theorem rowsK_get {A:List Nat} {q:Nat} (hq:q < A.length):(rowsK A)[q]?=some [.blk A[q]]:=by unfold rowsK;rw[List.getElem?_map,List.getElem?_eq_getElem hq];rfl
theorem getD_get {A:List Nat} {q:Nat} (hq:q < A.length):A.getD q 0=A[q]:=by rw[List.getD_eq_getElem?_getD,List.getElem?_eq_getElem hq];rfl
theorem ldK {ro:Bool} {A:List Nat} {q:Nat} (hq:q < A.length):ldO (some (.rows ro 64 (rowsK A))) (q*64) 64=some [.blk A[q]]:=by
 have h0:Nat.div (q*64) 64=q:=by show (q*64) / 64=q;omega
 have h1:nth (rowsK A) q=some [.blk A[q]]:=nth_of (rowsK_get hq)
 have h2:Nat.mod (q*64) 64=0:=by show (q*64) % 64=0;omega
 unfold ldO
 simp only[h0,h1,h2]
 exact Dh _ _
def headsN (n:Nat):Nat:=(n+15) / 16
end Go.Proofs.YtllkepkaimnodaaGreatDoor.draft
namespace Go.Proofs.YtllkepkaimnodaaGreatDoor.draft
open Go.Am
end Go.Proofs.YtllkepkaimnodaaGreatDoor.draft
namespace Go.Proofs.YtllkepkaimnodaaGreatDoor.draft
open Go.Am
open disk (bx Fit A1 R1 Low Bn)
theorem rep2 {α:Type} (z:α):List.replicate 2 z=[z,z]:=rfl
theorem upd_at1 {α:Type} (v a b:α) (l:List α):upd v (a::b::l) 1=a::v::l:=rfl
section
variable {lf K:Nat} (hlf:1000 < lf)
include hlf
end
end Go.Proofs.YtllkepkaimnodaaGreatDoor.draft
namespace Go.Proofs.YtllkepkaimnodaaGreatDoor.draft
open Go.Am
section
variable {lf K:Nat} (hlf:1000 < lf)
include hlf
theorem szR_rec {k:Nat} (h1:1≤k) (h2:k≤32):szR k=recS k:=by
 unfold szR recS
 rw[if_neg (by omega)]
end
end Go.Proofs.YtllkepkaimnodaaGreatDoor.draft
namespace Go.Proofs.YtllkepkaimnodaaGreatDoor.draft
open Go.Am
noncomputable def sumD (c:Nat→Nat):Nat→Nat
 | 0=>0
 | i+1=>sumD c i+c i*256 ^ i
theorem sumD_lt {c:Nat→Nat}:∀ {n:Nat},(∀ i,i < n→c i < 256)→sumD c n < 256 ^ n
 | 0,_=>by show 0 < 1;decide
 | n+1,h=>by
  have a:=sumD_lt (c:=c) (n:=n) (fun i hi=>h i (by omega))
  have b:=h n (by omega)
  show sumD c n+c n*256 ^ n < 256 ^ (n+1)
  rw[Nat.pow_succ]
  have:c n*256 ^ n≤255*256 ^ n:=Nat.mul_le_mul_right _ (by omega)
  omega
theorem leN_sumD {c:Nat→Nat}:∀ {n:Nat},(∀ i,i < n→c i < 256)→leN c n=sumD c n
 | 0,_=>rfl
 | n+1,h=>by
  have a:=sumD_lt (c:=c) (n:=n) (fun i hi=>h i (by omega))
  have ih:=leN_sumD (c:=c) (n:=n) (fun i hi=>h i (by omega))
  show leN c n ||| up (c n) n=sumD c n+c n*256 ^ n
  rw[ih]
  unfold up
  have e:(256:Nat) ^ n=2 ^ (8*n):=by rw[Nat.pow_mul]
  rw[e] at a ⊢
  rw[Nat.or_comm,Nat.mul_comm,← Nat.two_pow_add_eq_or_of_lt a,Nat.add_comm]
theorem sumD_dig (x:Nat):∀ n,sumD (dig x) n=x % 256 ^ n
 | 0=>by show 0=x % 1;omega
 | n+1=>by
  show sumD (dig x) n+dig x n*256 ^ n=_
  rw[sumD_dig x n,Nat.mod_pow_succ]
  unfold dig
  rw[Nat.mul_comm]
theorem leN_congr {f g:Nat→Nat}:∀ {n:Nat},(∀ i,i < n→f i=g i)→leN f n=leN g n
 | 0,_=>rfl
 | n+1,h=>by
  show leN f n ||| up (f n) n=leN g n ||| up (g n) n
  rw[leN_congr (fun i hi=>h i (by omega)),h n (by omega)]
theorem leN_dig {x n:Nat} (hx:x < 256 ^ n) {c:Nat→Nat} (hc:∀ i,i < n→c i=dig x i):leN c n=x:=by
 rw[leN_congr hc,leN_sumD (fun i _=>dig_lt x i),sumD_dig,Nat.mod_eq_of_lt hx]
end Go.Proofs.YtllkepkaimnodaaGreatDoor.draft
namespace Go.Proofs.YtllkepkaimnodaaGreatDoor.draft
open Go.Am
section
variable {K:Nat}
theorem u_nget_ok {H:Heap} {p:Ptr} {len cap loose a sz:Nat} {c:Nat→Nat} (hs:1≤sz∧sz≤8) (ha:a+sz≤len) (hc:len≤cap) (hm:cap < 1000000) (hl:loose=0∨loose=1) (hb:∀ i,i < sz→c i < 256) (hd:∀ i,i < sz→loadAt H ⟨p.b,p.o+a+i⟩ 1=some [.int .u8 (c i:Int)]) (lf n:Nat) (hlf:9 < lf) :
  U lf K (n+1) 117 [.slice (some p) len cap loose,.int .i64 (a:Int),.int .i64 (sz:Int)] H=some (.v (.tuple [.int .u64 ((leN c sz:Nat):Int),.int .i64 0]),H):=by
 obtain⟨v,H',e,rfl,rfl⟩:ret (U lf K (n+1) 117 [.slice (some p) len cap loose,.int .i64 (a:Int),.int .i64 (sz:Int)] H) fun v H'=>v=.tuple [.int .u64 ((leN c sz:Nat):Int),.int .i64 0]∧H'=H:=by
  refine ret_callU rfl rfl c117_eq ?_
  have f1:¬ ((sz:Int) < 1):=by omega
  have f2:¬ ((8:Int) < (sz:Int)):=by omega
  have f3:¬ ((a:Int) < 0):=by omega
  have f4:¬ ((len:Int) < (a:Int)):=by omega
  have w1:IntKind.i64.wrap ((len:Int) - (a:Int))=((len - a:Nat):Int):=by rw[wrap_i64 (by omega)];omega
  have f5:¬ (((len - a:Nat):Int) < (sz:Int)):=by omega
  obtain⟨e,he⟩:∃ e,e=a+sz:=⟨_,rfl⟩
  have w2:IntKind.i64.wrap ((a:Int)+(sz:Int))=(e:Int):=by rw[wrap_i64 (by omega)];omega
  have bb:bounds len cap (some (.int .i64 (a:Int))) (some (.int .i64 (e:Int))) none=some (a,e,cap):=bounds_ok (by omega) (by omega)
  have hsz:e - a=sz:=by omega
  have ne:¬ (cap=a):=by omega
  have le:a+1≤cap:=by omega
  have hloop:∀ t:T,t.getP (Tr.path 8)=some (.int .u64 0)→t.getP (Tr.path 40)=some (.slice (some ⟨p.b,p.o+a⟩) sz (cap - a) loose)→t.getP (Tr.path 41)=some (.int .i64 (sz:Int))→t.getP (Tr.path 42)=some (.int .i64 0) →
    wp (loopF (runC (U lf K n) lf c117_l0) lf ⟨t,H,[]⟩) fun x s=>x=.ex 1∧s.d=[]∧s.H=H∧s.t.getP (Tr.path 8)=some (.int .u64 ((leN c sz:Nat):Int)):=by
   intro t q8 q40 q41 q42
   refine wp_loopF (fun k s=>∃ i:Nat,k=sz - i∧i≤sz∧s.d=[]∧s.H=H∧s.t.getP (Tr.path 8)=some (.int .u64 ((leN c i:Nat):Int))∧s.t.getP (Tr.path 40)=some (.slice (some ⟨p.b,p.o+a⟩) sz (cap - a) loose)∧s.t.getP (Tr.path 41)=some (.int .i64 (sz:Int))∧s.t.getP (Tr.path 42)=some (.int .i64 (i:Int))) ?_ lf sz _ ⟨0,rfl,by omega,rfl,rfl,q8,q40,q41,q42⟩ (by omega)
   rintro k ⟨t,HH,d⟩ ⟨i,rfl,hi,hd',hH,q8,q40,q41,q42⟩
   dsimp only at hd' hH q8 q40 q41 q42
   subst hd';subst hH
   by_cases hlt:i < sz
   ·have hlt':(i:Int) < (sz:Int):=by omega
    have hle':i+1≤sz:=hlt
    have lk:=hd i hlt
    have w3:IntKind.i64.wrap ((i:Int)+1)=((i+1:Nat):Int):=by rw[wrap_i64 (by omega)];omega
    have w4:IntKind.i64.wrap (8*(i:Int))=((8*i:Nat):Int):=by rw[wrap_i64 (by omega)];omega
    have w5:IntKind.u64.wrap (c i:Int)=(c i:Int):=wrap_u64 (by have:=hb i hlt;omega)
    have hsh:=shl_u64 (hb i hlt) (show i < 8 by omega)
    have hor:=or_u64 (leN_lt (c:=c) (n:=i) (by omega) (fun j hj=>hb j (by omega))) (up_lt (hb i hlt) (show i < 8 by omega))
    change _=some (V.int .u64 ((leN c (i+1):Nat):Int)) at hor
    simp only[c117_l0,q8,q40,q41,q42,hlt',hle',w3,w4,w5,lk,arith_mul,hsh,hor,Nat.mul_one,sy,tup,↓reduceIte,zA,zG,zC,zD,zF,zE,zB,zH,reduceCtorEq]
    exact⟨sz - (i+1),by omega,i+1,rfl,by omega,trivial,trivial,rfl,trivial,trivial,by simp⟩
   ·have:i=sz:=by omega
    subst this
    simp only[c117_l0,q8,q40,q41,q42,Nat.lt_irrefl,Int.lt_irrefl,sy,tup,↓reduceIte,zA,zG,zC,zD,zF,zE,zB,zH,reduceCtorEq]
    exact⟨trivial,trivial,trivial,trivial⟩
  rcases hl with rfl | rfl
  ·simp only[c117,f1,f2,f3,f4,f5,w1,w2,bb,hsz,ne,le,Nat.mul_one,sy,tup,↓reduceIte,zA,zG,zC,zD,zF,zE,zB,zH,reduceCtorEq]
   refine wp_ctx (F:=fun r=>seqC _ _ _ (blockC _ r)) (hloop _ ?_ ?_ ?_ ?_) ?_
   ·simp only[sy,tup,↓reduceIte,zA,zG,zC,zD,zF,zE,zB,zH,reduceCtorEq]
   ·simp only[sy,tup,↓reduceIte,zA,zG,zC,zD,zF,zE,zB,zH,reduceCtorEq]
   ·simp only[sy,tup,↓reduceIte,zA,zG,zC,zD,zF,zE,zB,zH,reduceCtorEq]
   ·simp only[sy,tup,↓reduceIte,zA,zG,zC,zD,zF,zE,zB,zH,reduceCtorEq]
   rintro x ⟨t,HH,d⟩ ⟨rfl,hd',hH,q8⟩
   dsimp only at hd' hH q8
   subst hd';subst hH
   simp only[q8,sy,tup,↓reduceIte,zA,zG,zC,zD,zF,zE,zB,zH,reduceCtorEq]
   simp
  ·simp only[c117,f1,f2,f3,f4,f5,w1,w2,bb,hsz,ne,le,Nat.mul_one,sy,tup,↓reduceIte,zA,zG,zC,zD,zF,zE,zB,zH,reduceCtorEq]
   refine wp_ctx (F:=fun r=>seqC _ _ _ (blockC _ r)) (hloop _ ?_ ?_ ?_ ?_) ?_
   ·simp only[sy,tup,↓reduceIte,zA,zG,zC,zD,zF,zE,zB,zH,reduceCtorEq]
   ·simp only[sy,tup,↓reduceIte,zA,zG,zC,zD,zF,zE,zB,zH,reduceCtorEq]
   ·simp only[sy,tup,↓reduceIte,zA,zG,zC,zD,zF,zE,zB,zH,reduceCtorEq]
   ·simp only[sy,tup,↓reduceIte,zA,zG,zC,zD,zF,zE,zB,zH,reduceCtorEq]
   rintro x ⟨t,HH,d⟩ ⟨rfl,hd',hH,q8⟩
   dsimp only at hd' hH q8
   subst hd';subst hH
   simp only[q8,sy,tup,↓reduceIte,zA,zG,zC,zD,zF,zE,zB,zH,reduceCtorEq]
   simp
 exact e
theorem u_clone_ok {H:Heap} {b:Bk} {B:Nat} (h:H.get b=some (.rows false 64 [[.blk B]])) (ho:H.Old b) (lf n:Nat):ret (U lf K (n+1) 171 [.slice (some ⟨b,8⟩) 44 44 0] H) fun v H'=>
  Turns Z H H'∧∃ k,v=.slice (some ⟨.run k,0⟩) 44 44 1∧BodyAt H' k (fun i=>byte B (8+i)) 44∧H.next≤k:=by
 have h1:(H.add (.rows false 1 [])).get b=some (.rows false 64 [[.blk B]]):=((Turns.add Z H (.rows false 1 [])).same b ho id).trans h
 have he:=elems_blk h1 44 8 (by omega)
 have ha:appendV 1 1 (H.add (.rows false 1 [])) (.slice (some ⟨.run H.next,0⟩) 0 0 0) (.slice (some ⟨b,8⟩) 44 44 0)=some (.slice (some ⟨.run (H.next+1),0⟩) 44 44 1,(H.add (.rows false 1 [])).add (.rows false 1 (rowsB (byte B) 44 8))):=by
  have e0:elems (H.add (.rows false 1 [])) (.run H.next) 1 0 0=some []:=rfl
  unfold appendV
  simp only[lenOf,firstE,he,e0]
  rfl
 have hq:eqSl (.slice (some ⟨b,8⟩) 44 44 0) (.slice none 0 0 0)=some false:=rfl
 refine ret_callU rfl rfl c171_eq ?_
 simp only[c171,hq,ha,List.replicate_zero,sy,tup,↓reduceIte,zA,zG,zC,zD,zF,zE,zB,zH,reduceCtorEq]
 refine⟨trivial,.inr trivial,_,rfl,(Turns.add Z H _).addm _,H.next+1,rfl,⟨?_,?_⟩,by omega⟩
 ·rw[Heap.get_add,if_pos (by simp)]
  rw[rowsB_shift (byte B) 8 44 0]
 ·show _ < _
  simp
theorem u_sget_ok (H:Heap) (B:Nat) {lf:Nat} (hlf:60 < lf) (n:Nat):ret (U lf K (n+4) 116 [.blk B] H) fun v H'=>Turns Z H H' ∧
  ((sealE B≠0∧v=.tuple [.int .u64 0,.slice none 0 0 0,.int .i64 (sealE B)])∨(sealE B=0∧∃ k,v=.tuple [.int .u64 ((sealN B:Nat):Int),.slice (some ⟨.run k,0⟩) 44 44 1,.int .i64 0]∧BodyAt H' k (fun i=>byte B (8+i)) 44∧H.next≤k)):=by
 have t1:=Turns.add Z H (.rows false 64 [[.blk B]])
 have hg:(H.add (.rows false 64 [[.blk B]])).get (.run H.next)=some (.rows false 64 [[.blk B]]):=by rw[Heap.get_add,if_pos rfl]
 have ho:(H.add (.rows false 64 [[.blk B]])).Old (.run H.next):=by show _ < _;simp
 generalize hH1:H.add (.rows false 64 [[.blk B]])=H1 at *
 have g1:U lf K (n+3) 117 [.slice (some ⟨.run H.next,0⟩) 64 64 0,.int .i64 0,.int .i64 8] H1=some (.v (.tuple [.int .u64 ((leN (fun i=>byte B (0+i)) 8:Nat):Int),.int .i64 0]),H1):=u_nget_ok (H:=H1) (p:=⟨.run H.next,0⟩) (len:=64) (cap:=64) (loose:=0) (a:=0) (sz:=8) (c:=fun i=>byte B (0+i)) (by omega) (by omega) (by omega) (by omega) (.inl rfl) (fun i _=>byte_lt _ _) (fun i hi=>by simpa using load_byte hg (i:=0+i) (by omega)) lf (n+2) (by omega)
 have g2:U lf K (n+3) 117 [.slice (some ⟨.run H.next,0⟩) 64 64 0,.int .i64 56,.int .i64 8] H1=some (.v (.tuple [.int .u64 ((leN (fun i=>byte B (56+i)) 8:Nat):Int),.int .i64 0]),H1):=u_nget_ok (H:=H1) (p:=⟨.run H.next,0⟩) (len:=64) (cap:=64) (loose:=0) (a:=56) (sz:=8) (c:=fun i=>byte B (56+i)) (by omega) (by omega) (by omega) (by omega) (.inl rfl) (fun i _=>byte_lt _ _) (fun i hi=>by simpa using load_byte hg (i:=56+i) (by omega)) lf (n+2) (by omega)
 have g3:U lf K (n+3) 117 [.slice (some ⟨.run H.next,0⟩) 64 64 0,.int .i64 52,.int .i64 4] H1=some (.v (.tuple [.int .u64 ((leN (fun i=>byte B (52+i)) 4:Nat):Int),.int .i64 0]),H1):=u_nget_ok (H:=H1) (p:=⟨.run H.next,0⟩) (len:=64) (cap:=64) (loose:=0) (a:=52) (sz:=4) (c:=fun i=>byte B (52+i)) (by omega) (by omega) (by omega) (by omega) (.inl rfl) (fun i _=>byte_lt _ _) (fun i hi=>by simpa using load_byte hg (i:=52+i) (by omega)) lf (n+2) (by omega)
 have g4:=u_of_ok (K:=K) (H:=H1) (p:=⟨.run H.next,0⟩) (len:=52) (cap:=52) (loose:=0) (c:=byte B) (by omega) (fun i _=>byte_lt _ _) (fun i hi=>by simpa using load_byte hg (i:=i) (by omega)) lf n (by omega)
 obtain⟨vb,H2,e2,t2,k,rfl,hb,hk⟩:=u_clone_ok hg ho lf (n+2)
 have hk':H.next≤k:=Nat.le_trans t1.next hk
 change U lf K (n+3) 171 _ _=_ at e2
 have l1:leN (fun i=>byte B (0+i)) 8=sealN B:=rfl
 rw[l1] at g1
 generalize hN2:leN (fun i=>byte B (56+i)) 8=n2 at *
 generalize hN3:leN (fun i=>byte B (52+i)) 4=n3 at *
 have hcl:notN (crcN (byte B) 52) < 4294967296:=notN_lt (crcN_lt (fun i _=>byte_lt _ _))
 generalize hN4:notN (crcN (byte B) 52)=n4 at *
 have w4:IntKind.u64.wrap (n4:Int)=(n4:Int):=wrap_u64 (by omega)
 have hE:sealE B=if sealN B=0∨sealN B≠n2 then 5 else if n4≠n3 then 6 else 0:=by unfold sealE;rw[hN2,hN3,hN4]
 rw[hE]
 generalize sealN B=n1 at *
 refine ret_callU rfl rfl c116_eq ?_
 by_cases h0:n1=0
 ·subst h0
  have z0:(((0:Nat):Int)==0)=true:=rfl
  simp only[c116,hH1,g1,g2,g3,g4,z0,sliceAF,oget,bounds,boundD,sy,tup,↓reduceIte,zA,zG,zC,zD,zF,zE,zB,zH,reduceCtorEq]
  refine⟨trivial,.inr trivial,_,rfl,t1,.inl ⟨by simp,by simp⟩⟩
 ·have z0:((n1:Int)==0)=false:=by simpa using h0
  by_cases h1:n1=n2
  ·subst h1
   by_cases h2:n4=n3
   ·subst h2
    have b1:bound 52 (.int .i64 52)=some 52:=rfl
    have b2:bound 64 (.int .i64 52)=some 52:=rfl
    have b3:bound 52 (.int .i64 8)=some 8:=rfl
    have m1:Nat.beq 52 0=false:=rfl
    have m2:Nat.beq 52 8=false:=rfl
    simp only[c116,hH1,g1,g2,g3,g4,z0,w4,e2,b1,b2,b3,m1,m2,sliceAF,oget,bounds,boundD,bne_self_eq_false,sy,tup,↓reduceIte,zA,zG,zC,zD,zF,zE,zB,zH,reduceCtorEq]
    refine⟨trivial,.inr trivial,_,rfl,t1.trans t2,.inr ⟨by simp[h0],k,rfl,hb,hk'⟩⟩
   ·have z2:((n4:Int)==(n3:Int))=false:=by simpa using (fun e=>h2 (Int.ofNat.inj e))
    have b1:bound 52 (.int .i64 52)=some 52:=rfl
    have b2:bound 64 (.int .i64 52)=some 52:=rfl
    simp only[c116,hH1,g1,g2,g3,g4,z0,z2,w4,b1,b2,sliceAF,oget,bounds,boundD,sy,tup,↓reduceIte,zA,zG,zC,zD,zF,zE,zB,zH,reduceCtorEq]
    refine⟨trivial,.inr trivial,_,rfl,t1,.inl ⟨by simp[h0,h2],by simp[h0,h2]⟩⟩
  ·have z1:((n1:Int)==(n2:Int))=false:=by simpa using (fun e=>h1 (Int.ofNat.inj e))
   simp only[c116,hH1,g1,g2,g3,g4,z0,z1,sliceAF,oget,bounds,boundD,sy,tup,↓reduceIte,zA,zG,zC,zD,zF,zE,zB,zH,reduceCtorEq]
   refine⟨trivial,.inr trivial,_,rfl,t1,.inl ⟨by simp[h1],by simp[h1]⟩⟩
end
end Go.Proofs.YtllkepkaimnodaaGreatDoor.draft
