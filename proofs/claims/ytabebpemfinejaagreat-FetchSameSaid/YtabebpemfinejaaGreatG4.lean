import Derived.Test.YtabebpemfinejaaGreatG3
import Derived.Test.YtabebpemfinejaaGreatG2
set_option linter.unusedVariables false
set_option linter.unusedSimpArgs false
set_option maxRecDepth 10000
set_option linter.unusedSectionVars false
open Nat renaming reduceEqDiff → zA, reduceLeDiff → zB, reduceSub → zC, reduceMul → zD, reduceMod → zE, reduceDiv → zF, reduceAdd → zG
open Int renaming reduceBEq → zH
namespace Go.Proofs.YtabebpemfinejaaGreat.draft
open Go.Am
noncomputable def fillN (f:Nat→Nat):Nat→Nat
 | 0=>0
 | i+1=>setByte (fillN f i) i (f i)
theorem fillN_lt {f:Nat→Nat} (h:∀ i,f i < 256):∀ n,n≤64→fillN f n < 256 ^ 64
 | 0,_=>by show 0 < _;decide +kernel
 | n+1,hn=>setByte_lt _ _ _ (h n) (by omega) (fillN_lt h n (by omega))
theorem byte_fillN {f:Nat→Nat} (h:∀ i,f i < 256):∀ n j,byte (fillN f n) j=if j < n then f j else byte 0 j
 | 0,j=>rfl
 | n+1,j=>by
  show byte (setByte (fillN f n) n (f n)) j=_
  rw[byte_setByte _ _ _ _ (h n),byte_fillN h n j]
  by_cases e:j=n
  ·subst e;simp
  ·rw[if_neg e]
   by_cases h2:j < n
   ·rw[if_pos h2,if_pos (by omega)]
   ·rw[if_neg h2,if_neg (by omega)]
noncomputable def headOf (N:Nat) (l:List Nat):List Nat:=digs N 8++(l++List.replicate (44 - l.length) 0)
noncomputable def sumOf (N:Nat) (l:List Nat):Nat:=notN (crcN (fun i=>(headOf N l).getD i 0) 52)
noncomputable def rowOf (N:Nat) (l:List Nat):List Nat:=(headOf N l++digs (sumOf N l) 4)++digs N 8
noncomputable def blkOf (N:Nat) (l:List Nat):Nat:=fillN (fun i=>(rowOf N l).getD i 0) 64
theorem head_len {N:Nat} {l:List Nat} (h:l.length≤44):(headOf N l).length=52:=by
 unfold headOf
 rw[List.length_append,List.length_append,digs_len,List.length_replicate];omega
theorem row_len {N:Nat} {l:List Nat} (h:l.length≤44):(rowOf N l).length=64:=by
 unfold rowOf
 rw[List.length_append,List.length_append,digs_len,digs_len,head_len h]
theorem head_lt {N:Nat} {l:List Nat} (h:∀ x ∈ l,x < 256):∀ x ∈ headOf N l,x < 256:=by
 intro x hx
 unfold headOf at hx
 rcases List.mem_append.1 hx with h1 | h1
 ·exact digs_lt N 8 x h1
 ·rcases List.mem_append.1 h1 with h2 | h2
  ·exact h x h2
  ·rw[(List.mem_replicate.1 h2).2];decide
theorem row_lt {N:Nat} {l:List Nat} (h:∀ x ∈ l,x < 256):∀ x ∈ rowOf N l,x < 256:=by
 intro x hx
 unfold rowOf at hx
 rcases List.mem_append.1 hx with h1 | h1
 ·rcases List.mem_append.1 h1 with h2 | h2
  ·exact head_lt h x h2
  ·exact digs_lt _ 4 x h2
 ·exact digs_lt N 8 x h1
theorem getD_lt {l:List Nat} (h:∀ x ∈ l,x < 256) (i:Nat):l.getD i 0 < 256:=by
 rw[List.getD_eq_getElem?_getD]
 cases e:l[i]? with
 | none=>decide
 | some x=>exact h x (List.mem_of_getElem? e)
theorem getD_some {l:List Nat} {i:Nat} (h:i < l.length):l[i]?=some (l.getD i 0):=by
 rw[List.getD_eq_getElem?_getD,List.getElem?_eq_getElem h];rfl
theorem bload {H0 H:Heap} {l:List Nat} {v:V} (h:Lst H0 H 1 (rowsN l) v) (hne:l≠[]):∃ k,v=.slice (some ⟨.run k,0⟩) l.length l.length 1∧k < H.next∧∀ i,i < l.length→loadAt H ⟨.run k,i⟩ 1=some [.int .u8 ((l.getD i 0:Nat):Int)]:=by
 have hv:=h
 rcases hv with ⟨e,_⟩ | ⟨k,_,rfl,hg,h1,h2⟩
 ·exact absurd (List.map_eq_nil_iff.1 e) hne
 refine⟨k,by rw[rowsN_len],h2,fun i hi=>?_⟩
 obtain⟨k',e',lk⟩:=h.load (o:=0) (k:=1) (rowsN_get (getD_some hi)) (by omega)
 cases e'
 rw[Nat.mul_one,Nat.add_zero] at lk
 exact lk.trans rfl
end Go.Proofs.YtabebpemfinejaaGreat.draft
namespace Go.Proofs.YtabebpemfinejaaGreat.draft
open Go.Am
section
variable {H:Heap} {b:Bk} {id me m s r:Int} {S:List Nat} {c:Int} {g:Bool} (h:SupAt H b id me m s r S c g)
include h
end
def bodyN (id me m s r:Nat) (S:List Nat) (c:Nat) (g:Bool):List Nat:=
 ((((((putB id 8++putB m 1)++putB s 2)++putB r 2)++putB me 1)++outs (fun i=>S.getD i 0) 4)++putB c 2)++[if g then 1 else 0]
theorem bodyN_le (id me m s r:Nat) (S:List Nat) (c:Nat) (g:Bool):(bodyN id me m s r S c g).length≤44:=by
 unfold bodyN
 simp only[List.length_append,List.length_singleton,outs_len]
 have:=putB_le id 8
 have:=putB_le m 1
 have:=putB_le s 2
 have:=putB_le r 2
 have:=putB_le me 1
 have:=putB_le c 2
 omega
theorem outs_lt (S:Nat→Nat):∀ q,∀ x ∈ outs S q,x < 256
 | 0,x,h=>by cases h
 | q+1,x,h=>by
  simp only[outs,List.mem_append,List.mem_singleton] at h
  rcases h with h | h
  ·exact outs_lt S q x h
  ·subst h;exact outB_lt S q
theorem bodyN_lt (id me m s r:Nat) (S:List Nat) (c:Nat) (g:Bool):∀ x ∈ bodyN id me m s r S c g,x < 256:=by
 intro x hx
 unfold bodyN at hx
 simp only[List.mem_append,List.mem_singleton] at hx
 rcases hx with ((((((h | h) | h) | h) | h) | h) | h) | h
 ·exact putB_lt _ _ x h
 ·exact putB_lt _ _ x h
 ·exact putB_lt _ _ x h
 ·exact putB_lt _ _ x h
 ·exact putB_lt _ _ x h
 ·exact outs_lt _ _ x h
 ·exact putB_lt _ _ x h
 ·subst h;split<;>decide
noncomputable def supBlk (N id:Nat) (me m s r:Int) (S:List Nat) (c:Int) (g:Bool):Nat:=blkOf N (bodyN id me.toNat m.toNat s.toNat r.toNat S c.toNat g)
end Go.Proofs.YtabebpemfinejaaGreat.draft
namespace Go.Proofs.YtabebpemfinejaaGreat.draft
open Go.Am
noncomputable def c224_l0:C:=.seq (.reg [
 qo 29 (.p (arF .lss (tt 28) (tt 27))) [pp 28,pp 27]]) (
 .seq (.cond (tt 29) (.skip) (.exit 0)) (
 .seq (.block 1 (.seq (.reg [
 mv 30 28,
 mv 7 30]) (
 .reg [
 mv 31 6,
 mv 32 7,
 mv 33 0,
 mv 34 7,
 qo 35 (.p (arF .mul (ii 8) (tt 34))) [pp 34],
 qo 36 (.p (arF .shr (tt 33) (tt 35))) [pp 33,pp 35],
 qo 37 (.p (convF .u8 (tt 36))) [pp 36],
 qo 38 (.p (iaddrSF (tt 31) (tt 32) 1)) [pp 31,pp 32],
 qn (.a (storeF (tt 38) (tt 37) 1)) [pp 38,pp 37]]))) (
 .reg [
 qo 39 (.p (arF .add (tt 28) (ii 1))) [pp 28],
 mv 28 39])))
noncomputable def c224:CFn:=⟨[.tmp (pp 4),.tmp (pp 5)],
 .seq (.reg [
 qo 4 (.p (S.get (.c (.slice none 0 0 0)))) [],
 qo 5 (.p (S.get (ii 0))) []]) (
 .seq (.seq (.reg [
 mv 8 1,
 qo 9 (.p (arF .lss (tt 8) (ii 1))) [pp 8],
 mv 10 9,
 mg 11 1 10 false,
 qg 12 (.p (arF .gtr (tt 11) (ii 8))) 10 false [pp 11],
 qo 13 (.p (pickF (tt 10) (.c (.bool true)) (tt 12))) [pp 10,pp 12],
 mv 14 13,
 mg 15 1 14 false,
 qg 16 (.p (arF .lss (tt 15) (ii 8))) 14 false [pp 15],
 mg 17 16 14 false,
 mg 18 0 17 true,
 mg 19 1 17 true,
 qg 20 (.p (arF .mul (ii 8) (tt 19))) 17 true [pp 19],
 qg 21 (.p (arF .shr (tt 18) (tt 20))) 17 true [pp 18,pp 20],
 qg 22 (.p (arF .gtr (tt 21) (.c (.int .u64 0)))) 17 true [pp 21],
 qg 23 (.p (pickF (tt 17) (tt 22) (.c (.bool false)))) 14 false [pp 17,pp 22],
 qo 24 (.p (pickF (tt 14) (.c (.bool true)) (tt 23))) [pp 14,pp 23]]) (
 .cond (tt 24) (.seq (.reg [
 qo 4 (.p (S.get (.c (.slice none 0 0 0)))) [],
 qo 5 (.p (S.get (ii 2))) []]) (
 .ret)) (.skip))) (
 .seq (.reg [
 mv 25 1,
 qo 26 (.m (mksliceF 1 1 [.int .u8 0] (tt 25) (tt 25))) [pp 25,pp 25],
 mv 6 26]) (
 .seq (.seq (.reg [
 mv 27 1,
 qo 28 (.p (S.get (ii 0))) []]) (
 .block 0 (.loop c224_l0))) (
 .seq (.reg [
 mv 40 6,
 mv 4 40,
 qo 5 (.p (S.get (ii 0))) []]) (
 .ret)))))⟩
theorem c224_eq:fnOf Tryz.prog 224=some c224:=by kernel_rfl
theorem shr_u64 (a m:Nat) (hm:m < 64):arith .shr (.int .u64 (a:Int)) (.int .i64 (m:Int))=some (.int .u64 ((a / 2 ^ m:Nat):Int)):=by
 have:min m 64=m:=by omega
 show some (V.int .u64 (.ofNat (Nat.div a (Nat.pow 2 (min m 64)))))=_
 rw[this];rfl
def dig (N i:Nat):Nat:=N / 256 ^ i % 256
theorem dig_lt (N i:Nat):dig N i < 256:=Nat.mod_lt _ (by decide)
theorem digs_stl (N:Nat):∀ n,digs N n=stl (dig N) n 0
 | 0=>rfl
 | n+1=>by
  rw[digs,digs_stl N n]
  have:∀(f:Nat→Nat) n j,stl f (n+1) j=stl f n j++[f (j+n)]:=by
   intro f n
   induction n with
   | zero=>intro j;rfl
   | succ n ih=>
    intro j
    show f j::stl f (n+1) (j+1)=(f j::stl f n (j+1))++[f (j+(n+1))]
    rw[ih (j+1),List.cons_append,show j+1+n=j+(n+1) by omega]
  rw[this,Nat.zero_add];rfl
theorem pnput_ok (H:Heap) {N s:Nat} (hN:N < 18446744073709551616) (hs:1≤s∧s≤8) {lf:Nat} (hlf:17 < lf) (n:Nat):ret (callS Tryz.prog S0 lf (n+1) 224 [.int .u64 (N:Int),.int .i64 (s:Int)] H) fun v H'=>Turns Z H H' ∧
  ((N / 256 ^ s=0∧∃ k,v=.tuple [.slice (some ⟨.run k,0⟩) s s 0,.int .i64 0]∧BodyAt H' k (dig N) s∧H.next≤k)∨(N / 256 ^ s≠0∧v=.tuple [.slice none 0 0 0,.int .i64 2])):=by
 have g1:¬ ((s:Int) < 1):=by omega
 have g2:¬ ((8:Int) < (s:Int)):=by omega
 have p256:∀ i:Nat,2 ^ (8*i)=256 ^ i:=fun i=>by rw[Nat.pow_mul]
 obtain⟨s8,hs8⟩:∃ z,z=8*s:=⟨_,rfl⟩
 have w8:IntKind.i64.wrap (8*(s:Int))=(s8:Int):=by rw[wrap_i64 (by omega)];omega
 have hloop:∀ t:T,t.getP (Tr.path 0)=some (.int .u64 (N:Int))→t.getP (Tr.path 6)=some (.slice (some ⟨.run H.next,0⟩) s s 0)→t.getP (Tr.path 27)=some (.int .i64 (s:Int))→t.getP (Tr.path 28)=some (.int .i64 0) →
   wp (loopF (runC (callS Tryz.prog S0 lf n) lf c224_l0) lf ⟨t,H.add (.rows false 1 (List.replicate s [.int .u8 0])),[]⟩) fun x s'=>x=.ex 0∧s'.d=[]∧s'.t.getP (Tr.path 6)=some (.slice (some ⟨.run H.next,0⟩) s s 0)∧Turns Z H s'.H∧s'.H.get (.run H.next)=some (.rows false 1 (rowsB (dig N) s 0))∧H.next < s'.H.next:=by
  intro t q0 q6 q27 q28
  refine wp_loopF (fun j s'=>∃ i:Nat,j=s - i∧i≤s∧s'.d=[]∧s'.t.getP (Tr.path 0)=some (.int .u64 (N:Int))∧s'.t.getP (Tr.path 6)=some (.slice (some ⟨.run H.next,0⟩) s s 0)∧s'.t.getP (Tr.path 27)=some (.int .i64 (s:Int))∧s'.t.getP (Tr.path 28)=some (.int .i64 (i:Int))∧Turns Z H s'.H∧s'.H.get (.run H.next)=some (.rows false 1 (rowsB (fun j=>if j < i then dig N j else 0) s 0))∧H.next < s'.H.next) ?_ lf s _ ⟨0,rfl,by omega,rfl,q0,q6,q27,q28,Turns.add Z H _,?_,by simp⟩ (by omega)
  ·rintro j ⟨t,HH,d⟩ ⟨i,rfl,hi,hd,q0,q6,q27,q28,tz,gk,hk⟩
   dsimp only at hd q0 q6 q27 q28 tz gk hk
   subst hd
   by_cases hlt:i < s
   ·have hlt':(i:Int) < (s:Int):=by omega
    have hle':i+1≤s:=hlt
    have w2:IntKind.i64.wrap ((i:Int)+1)=((i+1:Nat):Int):=by rw[wrap_i64 (by omega)];omega
    obtain⟨e,he⟩:∃ e,e=8*i:=⟨_,rfl⟩
    have w3:IntKind.i64.wrap (8*(i:Int))=(e:Int):=by rw[wrap_i64 (by omega)];omega
    have sh:=shr_u64 N e (by omega)
    rw[he,p256] at sh
    rw[← he] at sh
    have w4:IntKind.u8.wrap ((N / 256 ^ i:Nat):Int)=((dig N i:Nat):Int):=by
     show (if false&&decide (((N / 256 ^ i:Nat):Int) % (2 ^ 8:Int)≥(2 ^ (8 - 1):Int)) then((N / 256 ^ i:Nat):Int) % (2 ^ 8:Int) - (2 ^ 8:Int) else((N / 256 ^ i:Nat):Int) % (2 ^ 8:Int))=_
     rw[show (2 ^ 8:Int)=((256:Nat):Int) from rfl]
     simp only[Bool.false_and,Bool.false_eq_true,if_false]
     unfold dig
     rw[← Int.natCast_emod]
    have sto:storeAt HH ⟨.run H.next,i⟩ [.int .u8 ((dig N i:Nat):Int)]=some (HH.set (.run H.next) (.rows false 1 (rowsB (fun j=>if j < i+1 then dig N j else 0) s 0))):=by
     rw[storeAt_eq gk (r:=[.int .u8 (((fun j=>if j < i then dig N j else 0) i:Nat):Int)]) (r':=[.int .u8 ((dig N i:Nat):Int)]) (by rw[Nat.div_one,nth_eq,rowsB_get _ s 0 i hlt,Nat.zero_add]) (by rw[Nat.mod_one];rfl),← upd_eq,Nat.div_one,rowsB_upd _ _ s 0 i hlt]
     rw[rowsB_congr (g:=fun j=>if j < i+1 then dig N j else 0) s 0 (fun j h1 h2=>?_)]
     by_cases e1:j=i
     ·subst e1;simp
     ·by_cases e2:j < i
      ·simp[e1,e2,show j < i+1 by omega]
      ·simp[e1,e2,show ¬ j < i+1 by omega]
    generalize N / 256 ^ i=z at *
    simp only[c224_l0,q0,q6,q27,q28,hlt',hle',w2,w3,sh,w4,sto,arith_mul,Nat.mul_one,sy,tup,↓reduceIte,zA,zG,zC,zD,zF,zE,zB,zH,reduceCtorEq]
    exact⟨s - (i+1),by omega,i+1,rfl,by omega,trivial,trivial,trivial,trivial,by simp,tz.setnew (Nat.le_refl _) _,by rw[Heap.get_set,if_pos rfl],by simpa using hk⟩
   ·have:i=s:=by omega
    subst this
    simp only[c224_l0,q0,q6,q27,q28,Int.lt_irrefl,sy,tup,↓reduceIte,zA,zG,zC,zD,zF,zE,zB,zH,reduceCtorEq]
    refine⟨trivial,trivial,trivial,tz,?_,hk⟩
    rw[gk,rowsB_congr (g:=dig N) i 0 (fun j h1 h2=>by simp[show j < i by omega])]
  ·show (H.add _).get (.run H.next)=_
   rw[Heap.get_add,if_pos rfl,rowsB_rep s 0]
   rfl
 have m1:s≤s:=Nat.le_refl _
 have m2:s*1≤1099511627776:=by omega
 have m3:1*s≤1099511627776:=by omega
 have m4:s≤1099511627776:=by omega
 refine ret_call rfl c224_eq ?_
 by_cases h8:s < 8
 ·have h8':(s:Int) < 8:=by omega
  have sh:=shr_u64 N s8 (by omega)
  rw[hs8,p256,← hs8] at sh
  by_cases h0:N / 256 ^ s=0
  ·have z0:¬ ((0:Int) < ((N / 256 ^ s:Nat):Int)):=by rw[h0];decide
   simp only[c224,g1,g2,h8',w8,sh,z0,arith_mul,mksliceF,m1,m2,m3,m4,sy,tup,↓reduceIte,zA,zG,zC,zD,zF,zE,zB,zH,reduceCtorEq]
   refine wp_ctx (F:=fun r=>seqC _ _ _ (blockC _ r)) (hloop _ ?_ ?_ ?_ ?_) ?_
   ·simp only[sy,tup,↓reduceIte,zA,zG,zC,zD,zF,zE,zB,zH,reduceCtorEq]
   ·simp only[sy,tup,↓reduceIte,zA,zG,zC,zD,zF,zE,zB,zH,reduceCtorEq]
   ·simp only[sy,tup,↓reduceIte,zA,zG,zC,zD,zF,zE,zB,zH,reduceCtorEq]
   ·simp only[sy,tup,↓reduceIte,zA,zG,zC,zD,zF,zE,zB,zH,reduceCtorEq]
   rintro x ⟨t,HH,d⟩ ⟨rfl,hd,q6,tz,gk,hk⟩
   dsimp only at hd q6 tz gk hk
   subst hd
   simp only[q6,sy,tup,↓reduceIte,zA,zG,zC,zD,zF,zE,zB,zH,reduceCtorEq]
   exact⟨trivial,.inr trivial,_,rfl,tz,.inl ⟨h0,H.next,rfl,⟨gk,hk⟩,Nat.le_refl _⟩⟩
  ·have z0:(0:Int) < ((N / 256 ^ s:Nat):Int):=Int.ofNat_lt.2 (Nat.pos_of_ne_zero h0)
   simp only[c224,g1,g2,h8',w8,sh,z0,arith_mul,sy,tup,↓reduceIte,zA,zG,zC,zD,zF,zE,zB,zH,reduceCtorEq]
   exact⟨trivial,.inr trivial,_,rfl,Turns.refl _ _,.inr ⟨h0,rfl⟩⟩
 ·have h8':¬ (s:Int) < 8:=by omega
  have hs:s=8:=by omega
  have h0:N / 256 ^ s=0:=by rw[hs];exact Nat.div_eq_of_lt (by rw[show (256:Nat) ^ 8=18446744073709551616 by decide +kernel];exact hN)
  simp only[c224,g1,g2,h8',mksliceF,m1,m2,m3,m4,sy,tup,↓reduceIte,zA,zG,zC,zD,zF,zE,zB,zH,reduceCtorEq]
  refine wp_ctx (F:=fun r=>seqC _ _ _ (blockC _ r)) (hloop _ ?_ ?_ ?_ ?_) ?_
  ·simp only[sy,tup,↓reduceIte,zA,zG,zC,zD,zF,zE,zB,zH,reduceCtorEq]
  ·simp only[sy,tup,↓reduceIte,zA,zG,zC,zD,zF,zE,zB,zH,reduceCtorEq]
  ·simp only[sy,tup,↓reduceIte,zA,zG,zC,zD,zF,zE,zB,zH,reduceCtorEq]
  ·simp only[sy,tup,↓reduceIte,zA,zG,zC,zD,zF,zE,zB,zH,reduceCtorEq]
  rintro x ⟨t,HH,d⟩ ⟨rfl,hd,q6,tz,gk,hk⟩
  dsimp only at hd q6 tz gk hk
  subst hd
  simp only[q6,sy,tup,↓reduceIte,zA,zG,zC,zD,zF,zE,zB,zH,reduceCtorEq]
  exact⟨trivial,.inr trivial,_,rfl,tz,.inl ⟨h0,H.next,rfl,⟨gk,hk⟩,Nat.le_refl _⟩⟩
end Go.Proofs.YtabebpemfinejaaGreat.draft
namespace Go.Proofs.YtabebpemfinejaaGreat.draft
open Go.Am
noncomputable def c226_l0:C:=.seq (.reg [
 qo 25 (.p (arF .lss (tt 24) (tt 23))) [pp 24,pp 23]]) (
 .seq (.cond (tt 25) (.skip) (.exit 0)) (
 .seq (.block 1 (.seq (.reg [
 mv 26 24,
 qo 27 (.p (iaddrSF (tt 22) (tt 24) 1)) [pp 22,pp 24],
 qo 28 (.r (loadF (tt 27) 1 .sc)) [pp 27],
 mv 7 26,
 mv 8 28]) (
 .seq (.seq (.reg [
 mv 29 8,
 mv 30 1,
 qo 31 (.p (arF .shr (tt 29) (tt 30))) [pp 29,pp 30],
 qo 32 (.p (arF .gtr (tt 31) (.c (.int .u8 0)))) [pp 31]]) (
 .cond (tt 32) (.seq (.reg [
 qo 4 (.p (S.get (.c (.slice none 0 0 0)))) [],
 qo 5 (.p (S.get (ii 2))) []]) (
 .ret)) (.skip))) (
 .seq (.reg [
 mv 33 7,
 mv 34 1,
 qo 35 (.p (arF .mul (tt 33) (tt 34))) [pp 33,pp 34],
 mv 9 35]) (
 .seq (.regD [
 mv 36 6,
 mv 37 9,
 qo 38 (.p (arF .quo (tt 37) (ii 8))) [pp 37],
 qo 39 (.p (iaddrSF (tt 36) (tt 38) 1)) [pp 36,pp 38],
 qo 40 (.r (loadF (tt 39) 1 .sc)) [pp 39],
 mv 41 8,
 mv 42 9,
 qo 43 (.p (arF .rem (tt 42) (ii 8))) [pp 42],
 qo 44 (.p (arF .shl (tt 41) (tt 43))) [pp 41,pp 43],
 qo 45 (.p (arF .or (tt 40) (tt 44))) [pp 40,pp 44],
 qo 46 (.p (iaddrSF (tt 36) (tt 38) 1)) [pp 36,pp 38],
 qn (.a (storeF (tt 46) (tt 45) 1)) [pp 46,pp 45]] [0,0,2,7,15,0,0,64,224,511,1023,2047]) (
 .seq (.reg [
 mv 47 9,
 qo 48 (.p (arF .rem (tt 47) (ii 8))) [pp 47],
 mv 49 1,
 qo 50 (.p (arF .add (tt 48) (tt 49))) [pp 48,pp 49],
 qo 51 (.p (arF .sub (tt 50) (ii 8))) [pp 50],
 mv 10 51]) (
 .seq (.reg [
 mv 52 10,
 qo 53 (.p (arF .gtr (tt 52) (ii 0))) [pp 52]]) (
 .cond (tt 53) (.regD [
 mv 54 6,
 mv 55 9,
 qo 56 (.p (arF .quo (tt 55) (ii 8))) [pp 55],
 qo 57 (.p (arF .add (tt 56) (ii 1))) [pp 56],
 qo 58 (.p (iaddrSF (tt 54) (tt 57) 1)) [pp 54,pp 57],
 qo 59 (.r (loadF (tt 58) 1 .sc)) [pp 58],
 mv 60 8,
 mv 61 1,
 mv 62 10,
 qo 63 (.p (arF .sub (tt 61) (tt 62))) [pp 61,pp 62],
 qo 64 (.p (arF .shr (tt 60) (tt 63))) [pp 60,pp 63],
 qo 65 (.p (arF .or (tt 59) (tt 64))) [pp 59,pp 64],
 qo 66 (.p (iaddrSF (tt 54) (tt 57) 1)) [pp 54,pp 57],
 qn (.a (storeF (tt 66) (tt 65) 1)) [pp 66,pp 65]] [0,0,2,6,15,31,0,0,0,384,960,2047,4095,8191]) (.skip))))))))) (
 .reg [
 qo 67 (.p (arF .add (tt 24) (ii 1))) [pp 24],
 mv 24 67])))
noncomputable def c226:CFn:=⟨[.tmp (pp 4),.tmp (pp 5)],
 .seq (.reg [
 qo 4 (.p (S.get (.c (.slice none 0 0 0)))) [],
 qo 5 (.p (S.get (ii 0))) []]) (
 .seq (.seq (.reg [
 mv 11 1,
 qo 12 (.c (callF (ff 241) [(tt 11)])) [pp 11],
 qo 13 (.p (unF .not (tt 12))) [pp 12]]) (
 .cond (tt 13) (.seq (.reg [
 qo 4 (.p (S.get (.c (.slice none 0 0 0)))) [],
 qo 5 (.p (S.get (ii 2))) []]) (
 .ret)) (.skip))) (
 .seq (.reg [
 mv 14 0,
 qo 15 (.p (lenF (tt 14))) [pp 14],
 mv 16 1,
 qo 17 (.p (arF .mul (tt 15) (tt 16))) [pp 15,pp 16],
 qo 18 (.p (arF .add (tt 17) (ii 8))) [pp 17],
 qo 19 (.p (arF .sub (tt 18) (ii 1))) [pp 18],
 qo 20 (.p (arF .quo (tt 19) (ii 8))) [pp 19],
 qo 21 (.m (mksliceF 1 1 [.int .u8 0] (tt 20) (tt 20))) [pp 20,pp 20],
 mv 6 21]) (
 .seq (.seq (.reg [
 mv 22 0,
 qo 23 (.p (lenF (tt 22))) [pp 22],
 qo 24 (.p (S.get (ii 0))) []]) (
 .block 0 (.loop c226_l0))) (
 .seq (.reg [
 mv 68 6,
 mv 4 68,
 qo 5 (.p (S.get (ii 0))) []]) (
 .ret)))))⟩
theorem c226_eq:fnOf Tryz.prog 226=some c226:=by kernel_rfl
theorem shr_u8i {a m:Nat} (hm:m < 8):arith .shr (.int .u8 (a:Int)) (.int .i64 (m:Int))=some (.int .u8 ((a / 2 ^ m:Nat):Int)):=by
 have:min m 8=m:=by omega
 show some (V.int .u8 (.ofNat (Nat.div a (Nat.pow 2 (min m 8)))))=_
 rw[this];rfl
theorem shl_u8 {a m:Nat} (hm:m < 8) (h:a*2 ^ m < 256):arith .shl (.int .u8 (a:Int)) (.int .i64 (m:Int))=some (.int .u8 ((a*2 ^ m:Nat):Int)):=by
 have e:min m 8=m:=by omega
 show mkI .u8 (mulI (a:Int) (.ofNat (Nat.pow 2 (min m 8))))=_
 rw[e,C9]
 show some (V.int .u8 (IntKind.u8.wrap ((a*2 ^ m:Nat):Int)))=_
 rw[wrap_u8 h]
theorem or_u8 {a b:Nat} (h:a < 256) (k:b < 256):arith .or (.int .u8 (a:Int)) (.int .u8 (b:Int))=some (.int .u8 ((a ||| b:Nat):Int)):=by
 have hl:a ||| b < 256:=Nat.or_lt_two_pow (n:=8) h k
 have f:∀ {x:Nat},x < 256→fitsK .u8 x=true:=fun {x} hx=>by
  show Nat.ble x 255=true
  rw[ble_iff];omega
 have e:bitI Nat.lor (fun _ a b=>a ||| b) .u8 (a:Int) (b:Int)=((a ||| b:Nat):Int):=by
  show (match fitsK .u8 a&&fitsK .u8 b with | true=>Int.ofNat (Nat.lor a b) | false=>_)=_
  rw[f h,f k];rfl
 show (match decide (IntKind.u8=IntKind.u8) with | false=>none | true=>mkI .u8 (bitI Nat.lor (fun _ a b=>a ||| b) .u8 (a:Int) (b:Int)))=_
 rw[e,C9,wrap_u8 hl];rfl
def accS (S:Nat→Nat):Nat→Nat→Nat
 | 0,_=>0
 | i+1,q=>if q=i / 4 then accS S i q ||| (S i*2 ^ (2*i % 8)) else accS S i q
theorem step_lt {S:Nat→Nat} {i:Nat} (h:S i < 4):S i*2 ^ (2*i % 8) < 256:=by
 have:2*i % 8=0∨2*i % 8=2∨2*i % 8=4∨2*i % 8=6:=by omega
 rcases this with e | e | e | e<;>rw[e]<;>omega
theorem accS_lt {S:Nat→Nat} (h:∀ i,i < 16→S i < 4):∀ i,i≤16→∀ q,accS S i q < 256
 | 0,_,q=>by show 0 < 256;decide
 | i+1,hi,q=>by
  have ih:=accS_lt h i (by omega) q
  unfold accS
  split
  ·exact Nat.or_lt_two_pow (n:=8) ih (step_lt (h i (by omega)))
  ·exact ih
theorem or4:∀ a,a < 4→∀ b,b < 4→∀ c,c < 4→∀ d,d < 4→(((0 ||| a*1) ||| b*4) ||| c*16) ||| d*64=a+4*b+16*c+64*d:=by decide +kernel
theorem pack4 (a b c d:Nat) (ha:a < 4) (hb:b < 4) (hc:c < 4) (hd:d < 4):2*(2*(2*(2*(2*(2*(2*(2*0+d / 2 % 2)+d / 1 % 2)+c / 2 % 2)+c / 1 % 2)+b / 2 % 2)+b / 1 % 2)+a / 2 % 2)+a / 1 % 2=a+4*b+16*c+64*d:=by omega
theorem accS_out {S:Nat→Nat} (h:∀ i,i < 16→S i < 4):∀ q,q < 4→accS S 16 q=outB S q:=by
 have key:∀ q,q < 4→outB S q=S (4*q)+4*S (4*q+1)+16*S (4*q+2)+64*S (4*q+3):=fun q hq=>by
  have b:∀ k,k < 8→bitOf S (8*q+k)=S (4*q+k / 2) / 2 ^ (k % 2) % 2:=fun k hk=>by
   unfold bitOf
   rw[show (8*q+k) / 2=4*q+k / 2 by omega,show (8*q+k) % 2=k % 2 by omega]
  unfold outB
  show 2*(2*(2*(2*(2*(2*(2*(2*0+bitOf S (8*q+7))+bitOf S (8*q+6))+bitOf S (8*q+5))+bitOf S (8*q+4))+bitOf S (8*q+3))+bitOf S (8*q+2))+bitOf S (8*q+1))+bitOf S (8*q+0)=_
  rw[b 7 (by omega),b 6 (by omega),b 5 (by omega),b 4 (by omega),b 3 (by omega),b 2 (by omega),b 1 (by omega),b 0 (by omega)]
  exact pack4 (S (4*q)) (S (4*q+1)) (S (4*q+2)) (S (4*q+3)) (h _ (by omega)) (h _ (by omega)) (h _ (by omega)) (h _ (by omega))
 intro q hq
 rw[key q hq,← or4 _ (h _ (show 4*q < 16 by omega)) _ (h _ (show 4*q+1 < 16 by omega)) _ (h _ (show 4*q+2 < 16 by omega)) _ (h _ (show 4*q+3 < 16 by omega))]
 match q,hq with
 | 0,_=>simp[accS]
 | 1,_=>simp[accS]
 | 2,_=>simp[accS]
 | 3,_=>simp[accS]
theorem pbits_ok {H:Heap} {p:Ptr} {cap loose:Nat} {S:Nat→Nat} (hS:∀ i,i < 16→S i < 4) (hd:∀ {H':Heap},Turns Z H H'→∀ i,i < 16→loadAt H' ⟨p.b,p.o+i⟩ 1=some [.int .u8 (S i:Int)]) {lf:Nat} (hlf:40 < lf) (n:Nat) :
  ret (callS Tryz.prog S0 lf (n+2) 226 [.slice (some p) 16 cap loose,.int .i64 2] H) fun v H'=>Turns Z H H'∧∃ k,v=.tuple [.slice (some ⟨.run k,0⟩) 4 4 0,.int .i64 0]∧BodyAt H' k (outB S) 4∧H.next≤k:=by
 have wd:=wide_ok H lf n
 have w1:IntKind.i64.wrap (((16:Nat):Int)*2)=32:=by kernel_rfl
 have w2:IntKind.i64.wrap (32+8)=40:=by kernel_rfl
 have w3:IntKind.i64.wrap (40 - 1)=39:=by kernel_rfl
 have q1:arith .quo (.int .i64 39) (.int .i64 8)=some (.int .i64 4):=by kernel_rfl
 have a4:asNat (.int .i64 4)=some 4:=rfl
 have hloop:∀ t:T,t.getP (Tr.path 1)=some (.int .i64 2)→t.getP (Tr.path 6)=some (.slice (some ⟨.run H.next,0⟩) 4 4 0)→t.getP (Tr.path 22)=some (.slice (some p) 16 cap loose)→t.getP (Tr.path 23)=some (.int .i64 ((16:Nat):Int))→t.getP (Tr.path 24)=some (.int .i64 0) →
   wp (loopF (runC (callS Tryz.prog S0 lf (n+1)) lf c226_l0) lf ⟨t,H.add (.rows false 1 (List.replicate 4 [.int .u8 0])),[]⟩) fun x s'=>x=.ex 0∧s'.d=[]∧s'.t.getP (Tr.path 6)=some (.slice (some ⟨.run H.next,0⟩) 4 4 0)∧Turns Z H s'.H∧s'.H.get (.run H.next)=some (.rows false 1 (rowsB (outB S) 4 0))∧H.next < s'.H.next:=by
  intro t p1 p6 p22 p23 p24
  refine wp_loopF (fun j s'=>∃ i:Nat,j=16 - i∧i≤16∧s'.d=[]∧s'.t.getP (Tr.path 1)=some (.int .i64 2)∧s'.t.getP (Tr.path 6)=some (.slice (some ⟨.run H.next,0⟩) 4 4 0)∧s'.t.getP (Tr.path 22)=some (.slice (some p) 16 cap loose)∧s'.t.getP (Tr.path 23)=some (.int .i64 ((16:Nat):Int))∧s'.t.getP (Tr.path 24)=some (.int .i64 (i:Int))∧Turns Z H s'.H∧s'.H.get (.run H.next)=some (.rows false 1 (rowsB (accS S i) 4 0))∧H.next < s'.H.next) ?_ lf 16 _ ⟨0,rfl,by omega,rfl,p1,p6,p22,p23,p24,Turns.add Z H _,?_,by simp⟩ (by omega)
  ·rintro j ⟨t,HH,d⟩ ⟨i,rfl,hi,hd',p1,p6,p22,p23,p24,hT,gk,hk⟩
   dsimp only at hd' p1 p6 p22 p23 p24 hT gk hk
   subst hd'
   by_cases hlt:i < 16
   ·have hlt':(i:Int) < ((16:Nat):Int):=by omega
    have hle':i+1≤16:=hlt
    have lk:=hd hT i hlt
    have hSi:=hS i hlt
    have s0:arith .shr (.int .u8 (S i:Int)) (.int .i64 2)=some (.int .u8 0):=by
     have:=shr_u8i (a:=S i) (m:=2) (by omega)
     rw[show S i / 2 ^ 2=0 from Nat.div_eq_of_lt hSi] at this
     exact this
    obtain⟨e,he⟩:∃ e,e=2*i:=⟨_,rfl⟩
    have u1:IntKind.i64.wrap ((i:Int)*2)=(e:Int):=by rw[wrap_i64 (by omega)];omega
    have u2:arith .quo (.int .i64 (e:Int)) (.int .i64 8)=some (.int .i64 ((e / 8:Nat):Int)):=quo_i64 e 8 (by decide) (by omega)
    have u3:arith .rem (.int .i64 (e:Int)) (.int .i64 8)=some (.int .i64 ((e % 8:Nat):Int)):=rem_i64 e 8 (by decide)
    have hq4:e / 8 < 4:=by omega
    have hq4':e / 8+1≤4:=hq4
    have hm6:e % 8≤6:=by omega
    have hstep:=step_lt hSi
    rw[← he] at hstep
    have sh:=shl_u8 (a:=S i) (m:=e % 8) (by omega) hstep
    have ha:=accS_lt hS i (by omega) (e / 8)
    have og:=or_u8 ha hstep
    have hq:e / 8=i / 4:=by omega
    have hnew:accS S (i+1) (e / 8)=accS S i (e / 8) ||| (S i*2 ^ (e % 8)):=by
     show (if e / 8=i / 4 then accS S i (e / 8) ||| (S i*2 ^ (2*i % 8)) else accS S i (e / 8))=_
     rw[if_pos hq,← he]
    have lb:loadAt HH ⟨.run H.next,e / 8⟩ 1=some [.int .u8 ((accS S i (e / 8):Nat):Int)]:=by
     rw[loadAt_eq gk (r:=[.int .u8 ((accS S i (e / 8):Nat):Int)]) (by rw[Nat.div_one,nth_eq,rowsB_get _ 4 0 _ hq4,Nat.zero_add]),Nat.mod_one];rfl
    have sto:storeAt HH ⟨.run H.next,e / 8⟩ [.int .u8 ((accS S i (e / 8) ||| (S i*2 ^ (e % 8)):Nat):Int)]=some (HH.set (.run H.next) (.rows false 1 (rowsB (accS S (i+1)) 4 0))):=by
     rw[storeAt_eq gk (r:=[.int .u8 ((accS S i (e / 8):Nat):Int)]) (r':=[.int .u8 ((accS S i (e / 8) ||| (S i*2 ^ (e % 8)):Nat):Int)]) (by rw[Nat.div_one,nth_eq,rowsB_get _ 4 0 _ hq4,Nat.zero_add]) (by rw[Nat.mod_one];rfl),← upd_eq,Nat.div_one,rowsB_upd _ _ 4 0 _ hq4]
     rw[rowsB_congr (g:=accS S (i+1)) 4 0 (fun j h1 h2=>?_)]
     rw[Nat.zero_add]
     by_cases e1:j=e / 8
     ·rw[if_pos e1,e1,hnew]
     ·rw[if_neg e1]
      show accS S i j=(if j=i / 4 then _ else accS S i j)
      rw[if_neg (by omega)]
    generalize S i*2 ^ (e % 8)=sv at *
    generalize accS S i (e / 8)=av at *
    generalize (av ||| sv:Nat)=ov at *
    generalize e / 8=qq at *
    generalize e % 8=mm at *
    obtain⟨m2,hm2⟩:∃ m2,m2=mm+2:=⟨_,rfl⟩
    have u4:IntKind.i64.wrap ((mm:Int)+2)=(m2:Int):=by rw[wrap_i64 (by omega)];omega
    have u5:IntKind.i64.wrap ((m2:Int) - 8)=(m2:Int) - 8:=wrap_i64 (by omega)
    have u6:¬ ((0:Int) < (m2:Int) - 8):=by omega
    have u7:IntKind.i64.wrap ((i:Int)+1)=((i+1:Nat):Int):=by rw[wrap_i64 (by omega)];omega
    have z0:¬ ((0:Int) < 0):=by decide
    simp only[c226_l0,p1,p6,p22,p23,p24,hlt',hle',lk,s0,z0,u1,u2,u3,u4,u5,u6,hq4',lb,sh,og,sto,arith_mul,Nat.mul_one,sy,tup,↓reduceIte,zA,zG,zC,zD,zF,zE,zB,zH,reduceCtorEq]
    rw[endD_ok (by kernel_rfl) (by kernel_rfl)]
    simp only[p1,p6,p22,p23,p24,u1,u2,u3,u4,u5,u6,u7,sy,tup,↓reduceIte,zA,zG,zC,zD,zF,zE,zB,zH,reduceCtorEq]
    exact⟨16 - (i+1),by omega,i+1,rfl,by omega,trivial,by simp[p1],by simp[p6],by simp[p22],by simp[p23],by simp,hT.setnew (Nat.le_refl _) _,by rw[Heap.get_set,if_pos rfl],by simpa using hk⟩
   ·have:i=16:=by omega
    subst this
    have hnl:decide (((16:Nat):Int) < ((16:Nat):Int))=false:=rfl
    simp only[c226_l0,p1,p6,p22,p23,p24,hnl,Int.lt_irrefl,sy,tup,↓reduceIte,zA,zG,zC,zD,zF,zE,zB,zH,reduceCtorEq]
    refine⟨trivial,trivial,trivial,hT,?_,hk⟩
    rw[gk,rowsB_congr (g:=outB S) 4 0 (fun j h1 h2=>accS_out hS j (by omega))]
  ·show (H.add _).get (.run H.next)=_
   rw[Heap.get_add,if_pos rfl,rowsB_rep 4 0]
   rfl
 refine ret_call rfl c226_eq ?_
 simp only[c226,wd,w1,w2,w3,q1,a4,arith_mul,mksliceF,sy,tup,↓reduceIte,zA,zG,zC,zD,zF,zE,zB,zH,reduceCtorEq]
 refine wp_ctx (F:=fun r=>seqC _ _ _ (blockC _ r)) (hloop _ ?_ ?_ ?_ ?_ ?_) ?_
 ·simp only[sy,tup,↓reduceIte,zA,zG,zC,zD,zF,zE,zB,zH,reduceCtorEq]
 ·simp only[sy,tup,↓reduceIte,zA,zG,zC,zD,zF,zE,zB,zH,reduceCtorEq]
 ·simp only[sy,tup,↓reduceIte,zA,zG,zC,zD,zF,zE,zB,zH,reduceCtorEq]
 ·simp only[sy,tup,↓reduceIte,zA,zG,zC,zD,zF,zE,zB,zH,reduceCtorEq]
 ·simp only[sy,tup,↓reduceIte,zA,zG,zC,zD,zF,zE,zB,zH,reduceCtorEq]
 rintro x ⟨t,HH,d⟩ ⟨rfl,hd',q6,tz,gk,hk⟩
 dsimp only at hd' q6 tz gk hk
 subst hd'
 simp only[q6,sy,tup,↓reduceIte,zA,zG,zC,zD,zF,zE,zB,zH,reduceCtorEq]
 exact⟨trivial,.inr trivial,_,rfl,tz,H.next,rfl,⟨gk,hk⟩,Nat.le_refl _⟩
end Go.Proofs.YtabebpemfinejaaGreat.draft
namespace Go.Proofs.YtabebpemfinejaaGreat.draft
open Go.Am
noncomputable def c182:CFn:=⟨[.cell (pp 4) 64 .bk,.tmp (pp 5)],
 .seq (.reg [
 qo 4 (.m (allocF 64 [.blk 0])) [],
 qo 5 (.p (S.get (ii 0))) []]) (
 .seq (.block 0 (.seq (.reg [
 mv 11 0,
 qo 12 (.p (eqcF false false [.int .u64] (tt 11) (.c (.int .u64 0)))) [pp 11],
 mv 10 12]) (
 .cond (tt 10) (.seq (.reg [
 qo 13 (.r (loadF (tt 4) 64 .bk)) [pp 4],
 qn (.a (storeF (tt 4) (tt 13) 64)) [pp 4,pp 13],
 qo 5 (.p (S.get (ii 2))) []]) (
 .ret)) (.seq (.reg [
 mv 15 1,
 qo 16 (.p (lenF (tt 15))) [pp 15],
 qo 17 (.p (arF .gtr (tt 16) (ii 44))) [pp 16],
 mv 14 17]) (
 .cond (tt 14) (.seq (.reg [
 qo 18 (.r (loadF (tt 4) 64 .bk)) [pp 4],
 qn (.a (storeF (tt 4) (tt 18) 64)) [pp 4,pp 18],
 qo 5 (.p (S.get (ii 3))) []]) (
 .ret)) (.skip)))))) (
 .seq (.reg [
 mv 20 0,
 qo 21 (.c (callF (ff 224) [(tt 20),(ii 8)])) [pp 20],
 mv 19 21,
 qo 22 (.p (extF (tt 19) 0)) [pp 19],
 qo 23 (.p (extF (tt 19) 1)) [pp 19],
 mv 6 22,
 mv 7 23]) (
 .seq (.reg [
 qo 24 (.p (sliceAF 64 1 (tt 4) none (some (ii 8)) none)) [pp 4],
 mv 25 6,
 qo 26 (.a (cpyF 1 (tt 24) (tt 25))) [pp 24,pp 25]]) (
 .seq (.reg [
 qo 27 (.p (sliceAF 64 1 (tt 4) (some (ii 8)) (some (ii 52)) (some (ii 52)))) [pp 4],
 mv 28 1,
 qo 29 (.a (cpyF 1 (tt 27) (tt 28))) [pp 27,pp 28]]) (
 .seq (.reg [
 qo 31 (.p (sliceAF 64 1 (tt 4) none (some (ii 52)) (some (ii 52)))) [pp 4],
 qo 32 (.c (callF (ff 225) [(tt 31)])) [pp 31],
 qo 33 (.p (convF .u64 (tt 32))) [pp 32],
 qo 34 (.c (callF (ff 224) [(tt 33),(ii 4)])) [pp 33],
 mv 30 34,
 qo 35 (.p (extF (tt 30) 0)) [pp 30],
 qo 36 (.p (extF (tt 30) 1)) [pp 30],
 mv 8 35,
 mv 9 36]) (
 .seq (.reg [
 qo 37 (.p (sliceAF 64 1 (tt 4) (some (ii 52)) (some (ii 56)) (some (ii 56)))) [pp 4],
 mv 38 8,
 qo 39 (.a (cpyF 1 (tt 37) (tt 38))) [pp 37,pp 38]]) (
 .seq (.reg [
 qo 40 (.p (sliceAF 64 1 (tt 4) (some (ii 56)) none none)) [pp 4],
 mv 41 6,
 qo 42 (.a (cpyF 1 (tt 40) (tt 41))) [pp 40,pp 41]]) (
 .seq (.reg [
 qo 43 (.r (loadF (tt 4) 64 .bk)) [pp 4],
 qn (.a (storeF (tt 4) (tt 43) 64)) [pp 4,pp 43],
 qo 5 (.p (S.get (ii 0))) []]) (
 .ret)))))))))⟩
theorem c182_eq:fnOf Tryz.prog 182=some c182:=by kernel_rfl
def layB:Nat→Nat→List Nat→Nat
 | B,_,[]=>B
 | B,o,x::xs=>layB (setByte B o x) (o+1) xs
theorem layB_byte:∀(xs:List Nat) (B o:Nat),(∀ x ∈ xs,x < 256)→∀ j,byte (layB B o xs) j=if o≤j∧j < o+xs.length then xs.getD (j - o) 0 else byte B j
 | [],B,o,_,j=>by
  rw[if_neg (by simp;try omega)];rfl
 | x::xs,B,o,h,j=>by
  show byte (layB (setByte B o x) (o+1) xs) j=_
  rw[layB_byte xs (setByte B o x) (o+1) (fun z hz=>h z (List.mem_cons_of_mem _ hz)) j,byte_setByte _ _ _ _ (h x (List.mem_cons_self ..))]
  by_cases h1:j=o
  ·subst h1
   rw[if_neg (by omega),if_pos rfl,if_pos (by simp),Nat.sub_self];rfl
  ·by_cases h2:o+1≤j∧j < o+1+xs.length
   ·rw[if_pos h2,if_pos (by simp;omega),show j - o=(j - (o+1))+1 by omega];rfl
   ·rw[if_neg h2,if_neg h1,if_neg (by simp;omega)]
theorem layB_lt:∀(xs:List Nat) (B o:Nat),(∀ x ∈ xs,x < 256)→o+xs.length≤64→B < 256 ^ 64→layB B o xs < 256 ^ 64
 | [],B,o,_,_,hB=>hB
 | x::xs,B,o,h,hl,hB=>by
  rw[List.length_cons] at hl
  exact layB_lt xs (setByte B o x) (o+1) (fun z hz=>h z (List.mem_cons_of_mem _ hz)) (by omega) (setByte_lt _ _ _ (h x (List.mem_cons_self ..)) (by omega) hB)
theorem store_lay {b:Bk}:∀(xs:List Nat) (o:Nat) (H:Heap) (B:Nat),H.get b=some (.rows false 64 [[.blk B]])→o+xs.length≤64→(∀ x ∈ xs,x < 256) →
  ∃ H',storeElems b 1 (rowsN xs) o H=some H'∧H'.get b=some (.rows false 64 [[.blk (layB B o xs)]])∧Turns (fun c=>c=b) H H'∧H'.next=H.next
 | [],o,H,B,h,hl,hx=>⟨H,rfl,h,Turns.refl _ _,rfl⟩
 | x::xs,o,H,B,h,hl,hx=>by
  rw[List.length_cons] at hl
  have st:=disk.cell_store_byte h (j:=o) (by omega) (hx x (List.mem_cons_self ..))
  obtain⟨H',e,hg,hT,hn⟩:=store_lay (b:=b) xs (o+1) (H.set b (.rows false 64 [[.blk (setByte B o x)]])) (setByte B o x) (by rw[Heap.get_set,if_pos rfl]) (by omega) (fun z hz=>hx z (List.mem_cons_of_mem _ hz))
  refine⟨H',?_,hg,(Turns.set (X:=fun c=>c=b) rfl H _).trans hT,by rw[hn];simp⟩
  show (match storeAt H ⟨b,o⟩ [.int .u8 (x:Int)] with | some H'=>storeElems b 1 (rowsN xs) (Nat.add o 1) H' | none=>none)=_
  rw[st]
  exact e
theorem copy_lay {H:Heap} {b:Bk} {B o dl dc dx sl sc sx:Nat} {sp:Ptr} {xs:List Nat} (h:H.get b=some (.rows false 64 [[.blk B]])) (hs:elems H sp.b 1 sl sp.o=some (rowsN xs)) (hl:xs.length=sl) (h0:sl≠0) (hd:sl≤dl) (ho:o+sl≤64) (hx:∀ x ∈ xs,x < 256) :
  ∃ H',copyV 1 H (.slice (some ⟨b,o⟩) dl dc dx) (.slice (some sp) sl sc sx)=some (.int .i64 (sl:Int),H')∧H'.get b=some (.rows false 64 [[.blk (layB B o xs)]])∧Turns (fun c=>c=b) H H'∧H'.next=H.next:=by
 obtain⟨H',e,hg,hT,hn⟩:=store_lay (b:=b) xs o H B h (by omega) hx
 refine⟨H',?_,hg,hT,hn⟩
 have hm:min sl dl=sl:=by omega
 unfold copyV
 simp only[hm]
 have hb:sl.beq 0=false:=beq_false.2 h0
 have hf:firstE H 1 (.slice (some sp) sl sc sx)=some (rowsN xs):=hs
 rw[hb,hf]
 simp only[e,Option.map_some]
 rfl
theorem elems_lst {H0 H:Heap} {l:List Nat} {v:V} (h:Lst H0 H 1 (rowsN l) v) {k m c o:Nat} (e:v=.slice (some ⟨.run k,0⟩) m c o) (hm:m=l.length):elems H (.run k) 1 m 0=some (rowsN l):=by
 rcases h with ⟨e1,e2⟩ | ⟨j,_,e2,hg,_,_⟩
 ·rw[e] at e2;cases e2
 ·rw[e] at e2
  have hk:=(V.slice.inj e2).1
  cases hk
  have:∀(L:List Nat) (a:Nat),(∀ i,i < L.length→(rowsN l)[a+i]?=(rowsN L)[i]?)→elems H (.run k) 1 L.length a=some (rowsN L):=by
   intro L
   induction L with
   | nil=>intro a _;rfl
   | cons x L ih=>
    intro a hh
    have e1:=hh 0 (by simp)
    rw[Nat.add_zero] at e1
    have lk:loadAt H ⟨.run k,a⟩ 1=some [.int .u8 (x:Int)]:=by
     rw[loadAt_eq hg (r:=[.int .u8 (x:Int)]) (by rw[Nat.div_one,nth_eq,e1];rfl),Nat.mod_one]
     rfl
    show elems H (.run k) 1 (L.length+1) a=_
    unfold elems
    rw[lk]
    simp only
    rw[show Nat.add a 1=a+1 from rfl,ih (a+1) (fun i hi=>by
     have:=hh (i+1) (by simp;omega)
     rw[show a+1+i=a+(i+1) by omega,this];rfl)]
    rfl
  rw[hm]
  exact this l 0 (fun i hi=>by rw[Nat.zero_add])
theorem elems_bod {H:Heap} {k:Nat} {c:Nat→Nat} {N:Nat} (h:BodyAt H k c N):∀ n j,j+n≤N→elems H (.run k) 1 n j=some (rowsN (stl c n j))
 | 0,_,_=>rfl
 | n+1,j,hj=>by
  unfold elems
  rw[h.load (show j < N by omega)]
  simp only
  rw[show Nat.add j 1=j+1 from rfl,elems_bod h n (j+1) (by omega)]
  rfl
theorem digs_len' (N n:Nat):(stl (dig N) n 0).length=n:=stl_len _ _ _
theorem stl_dig_lt (N n:Nat):∀ x ∈ stl (dig N) n 0,x < 256:=by
 rw[← digs_stl];exact digs_lt N n
theorem pput7_ok {H0 H:Heap} {l:List Nat} {y:V} (hy:Lst H0 H 1 (rowsN l) y) (hne:l≠[]) (hl:l.length≤44) (hb:∀ x ∈ l,x < 256) {N:Nat} (hN:N < 18446744073709551616) (hN0:N≠0) {lf:Nat} (hlf:80 < lf) (n:Nat) :
  ret (callS Tryz.prog S0 lf (n+4) 182 [.int .u64 (N:Int),y] H) fun v H'=>Turns Z H H'∧v=.tuple [.blk (blkOf N l),.int .i64 0]:=by
 have l0:l.length≠0:=by simpa using hne
 have t1:=Turns.add Z H (.rows false 64 [[.blk 0]])
 have hg1:(H.add (.rows false 64 [[.blk 0]])).get (.run H.next)=some (.rows false 64 [[.blk 0]]):=by rw[Heap.get_add,if_pos rfl]
 have hn1:(H.add (.rows false 64 [[.blk 0]])).next=H.next+1:=by simp
 obtain⟨H1,hH1⟩:∃ K,H.add (.rows false 64 [[.blk 0]])=K:=⟨_,rfl⟩
 rw[hH1] at t1 hg1 hn1
 have b0:((N:Int)==0)=false:=by simp;exact hN0
 obtain⟨ky,ey,hky,_⟩:=bload hy hne
 have g44:¬ ((44:Int) < (l.length:Int)):=by omega
 obtain⟨vn,H2,en,t2,hvn⟩:=pnput_ok H1 hN (s:=8) (by omega) (show 17 < lf by omega) (n+2)
 change callS Tryz.prog S0 lf (n+3) 224 [.int .u64 (N:Int),.int .i64 8] H1=_ at en
 have hz8:N / 256 ^ 8=0:=Nat.div_eq_of_lt (by rw[show (256:Nat) ^ 8=18446744073709551616 by decide +kernel];exact hN)
 rcases hvn with ⟨_,k1,rfl,hk1,hk1'⟩ | ⟨h,_⟩
 rotate_left
 ·exact absurd hz8 h
 have g2:H2.get (.run H.next)=some (.rows false 64 [[.blk 0]]):=(t2.same (.run H.next) (by show _ < _;omega) (fun h=>h)).trans hg1
 obtain⟨H3,e3,g3,t3,n3⟩:=copy_lay (dl:=8) (dc:=64) (dx:=0) (sc:=8) (sx:=0) (sp:=⟨.run k1,0⟩) g2 (elems_bod hk1 8 0 (by omega)) (digs_len' N 8) (by omega) (by omega) (show 0+8≤64 by omega) (stl_dig_lt N 8)
 have hy3:Lst H0 H3 1 (rowsN l) y:=((hy.turns t1 (fun _ _=>id)).turns t2 (fun _ _=>id)).turns t3 (fun c hc e=>by
  subst e
  obtain⟨_,_,_,_,ec,e'⟩:=hc
  rw[ey] at ec
  have:=(V.slice.inj ec).1
  cases this
  exact absurd (Bk.run.inj e') (by show ¬ H.next=ky;omega))
 have hky2:ky < H2.next:=Nat.lt_of_lt_of_le hky (t1.trans t2).next
 obtain⟨H4,e4,g4,t4,n4⟩:=copy_lay (dl:=44) (dc:=44) (dx:=0) (sc:=l.length) (sx:=1) (sp:=⟨.run ky,0⟩) g3 (elems_lst hy3 ey rfl) rfl l0 hl (show 8+l.length≤64 by omega) hb
 have hD8:=stl_dig_lt N 8
 have hD8l:=digs_len' N 8
 have hbyte:∀ j,byte (layB (layB 0 0 (stl (dig N) 8 0)) 8 l) j=if j < 52 then(headOf N l).getD j 0 else 0:=fun j=>by
  rw[layB_byte l _ 8 hb j,layB_byte _ 0 0 hD8 j,hD8l]
  have hz:byte 0 j=0:=by
   show (0 / 256 ^ j) % 256=0
   rw[Nat.zero_div]
  have hh:headOf N l=stl (dig N) 8 0++(l++List.replicate (44 - l.length) 0):=by unfold headOf;rw[digs_stl]
  rw[hh]
  by_cases h1:8≤j∧j < 8+l.length
  ·rw[if_pos h1,if_pos (by omega)]
   rw[List.getD_eq_getElem?_getD,List.getD_eq_getElem?_getD,List.getElem?_append_right (by rw[hD8l];omega),hD8l,List.getElem?_append_left (by omega)]
  ·rw[if_neg h1]
   by_cases h2:0≤j∧j < 0+8
   ·rw[if_pos h2,if_pos (by omega)]
    rw[List.getD_eq_getElem?_getD,List.getD_eq_getElem?_getD,List.getElem?_append_left (by rw[hD8l];omega),Nat.sub_zero]
   ·rw[if_neg h2,hz]
    by_cases h3:j < 52
    ·rw[if_pos h3,List.getD_eq_getElem?_getD,List.getElem?_append_right (by rw[hD8l];omega),hD8l,List.getElem?_append_right (by omega),List.getElem?_replicate,if_pos (by omega)];rfl
    ·rw[if_neg h3]
 have eo:=of_ok (H:=H4) (p:=⟨.run H.next,0⟩) (len:=52) (cap:=52) (loose:=0) (c:=byte (layB (layB 0 0 (stl (dig N) 8 0)) 8 l)) (by omega) (fun i _=>byte_lt _ _) (fun i hi=>by simpa using disk.cell_load_byte g4 (j:=i) (by omega)) lf n (by omega)
 have hcs:crcN (byte (layB (layB 0 0 (stl (dig N) 8 0)) 8 l)) 52=crcN (fun i=>(headOf N l).getD i 0) 52:=by
  have:∀ {f g:Nat→Nat} (m:Nat),(∀ i,i < m→f i=g i)→crcN f m=crcN g m:=by
   intro f g m
   induction m with
   | zero=>intro _;rfl
   | succ m ih=>
    intro hh
    show crc.takeN (crcN f m) (f m)=crc.takeN (crcN g m) (g m)
    rw[ih (fun i hi=>hh i (by omega)),hh m (by omega)]
  exact this 52 (fun i hi=>by rw[hbyte i,if_pos hi])
 rw[hcs] at eo
 change _=some (Rs.v (V.int .u32 ((sumOf N l:Nat):Int)),H4) at eo
 have hs4:sumOf N l < 4294967296:=notN_lt (crcN_lt (fun i _=>getD_lt (head_lt hb) i))
 have hro:rowOf N l=(headOf N l++digs (sumOf N l) 4)++digs N 8:=rfl
 obtain⟨sm,hsm⟩:∃ z,z=sumOf N l:=⟨_,rfl⟩
 rw[← hsm] at eo hs4 hro
 have w64:IntKind.u64.wrap (sm:Int)=(sm:Int):=wrap_u64 (by omega)
 obtain⟨vs,H5,es,t5,hvs⟩:=pnput_ok H4 (N:=sm) (by omega) (s:=4) (by omega) (show 17 < lf by omega) (n+2)
 change callS Tryz.prog S0 lf (n+3) 224 [.int .u64 (sm:Int),.int .i64 4] H4=_ at es
 have hz4:sm / 256 ^ 4=0:=Nat.div_eq_of_lt hs4
 rcases hvs with ⟨_,k5,rfl,hk5,hk5'⟩ | ⟨h,_⟩
 rotate_left
 ·exact absurd hz4 h
 have o4:H.next < H4.next:=by rw[n4,n3];have:=t2.next;omega
 have g5:H5.get (.run H.next)=_:=(t5.same (.run H.next) (by show _ < _;exact o4) (fun h=>h)).trans g4
 obtain⟨H6,e6,g6,t6,n6⟩:=copy_lay (dl:=4) (dc:=4) (dx:=0) (sc:=4) (sx:=0) (sp:=⟨.run k5,0⟩) g5 (elems_bod hk5 4 0 (by omega)) (digs_len' sm 4) (by omega) (by omega) (show 52+4≤64 by omega) (stl_dig_lt sm 4)
 have nk1:k1≠H.next:=by omega
 have hk1o:k1 < H2.next:=hk1.old
 have b1:BodyAt H6 k1 (dig N) 8:=by
  have s3:H3.get (.run k1)=H2.get (.run k1):=t3.same (.run k1) hk1o (run_ne nk1)
  have s4:H4.get (.run k1)=H3.get (.run k1):=t4.same (.run k1) (by show _ < _;omega) (run_ne nk1)
  have s5:H5.get (.run k1)=H4.get (.run k1):=t5.same (.run k1) (by show _ < _;omega) (fun h=>h)
  have h5:=t5.next
  have s6:H6.get (.run k1)=H5.get (.run k1):=t6.same (.run k1) (by show _ < _;omega) (run_ne nk1)
  exact⟨by rw[s6,s5,s4,s3];exact hk1.own,by omega⟩
 obtain⟨H7,e7,g7,t7,n7⟩:=copy_lay (dl:=8) (dc:=8) (dx:=0) (sc:=8) (sx:=0) (sp:=⟨.run k1,0⟩) g6 (elems_bod b1 8 0 (by omega)) (digs_len' N 8) (by omega) (by omega) (show 56+8≤64 by omega) (stl_dig_lt N 8)
 have hX:layB (layB (layB (layB 0 0 (stl (dig N) 8 0)) 8 l) 52 (stl (dig sm) 4 0)) 56 (stl (dig N) 8 0)=blkOf N l:=by
  have hrl:=row_len (N:=N) hl
  have hrt:=row_lt (N:=N) hb
  have z64:(0:Nat) < 256 ^ 64:=Nat.pow_pos (by decide)
  refine disk.eq_of_bytes (layB_lt _ _ _ (stl_dig_lt N 8) (by rw[digs_len'];omega) (layB_lt _ _ _ (stl_dig_lt sm 4) (by rw[digs_len'];omega) (layB_lt _ _ _ hb (by omega) (layB_lt _ _ _ hD8 (by rw[hD8l];omega) z64)))) (fillN_lt (fun i=>getD_lt (l:=rowOf N l) hrt i) 64 (Nat.le_refl _)) (fun j hj=>?_)
  have hr:byte (blkOf N l) j=(rowOf N l).getD j 0:=by
   unfold blkOf
   rw[byte_fillN (fun i=>getD_lt (l:=rowOf N l) hrt i),if_pos hj]
  rw[hr,hro,layB_byte _ _ 56 (stl_dig_lt N 8) j,layB_byte _ _ 52 (stl_dig_lt sm 4) j,digs_len',digs_len',hbyte j,digs_stl,digs_stl]
  have hh:=head_len (N:=N) hl
  by_cases h1:56≤j∧j < 56+8
  ·rw[if_pos h1,List.getD_eq_getElem?_getD,List.getD_eq_getElem?_getD,List.getElem?_append_right (by rw[List.length_append,hh,digs_len'];omega),List.length_append,hh,digs_len']
  ·rw[if_neg h1]
   by_cases h2:52≤j∧j < 52+4
   ·rw[if_pos h2,List.getD_eq_getElem?_getD,List.getD_eq_getElem?_getD,List.getElem?_append_left (by rw[List.length_append,hh,digs_len'];omega),List.getElem?_append_right (by omega),hh]
   ·rw[if_neg h2,if_pos (by omega),List.getD_eq_getElem?_getD,List.getD_eq_getElem?_getD,List.getElem?_append_left (by rw[List.length_append,hh,digs_len'];omega),List.getElem?_append_left (by omega)]
 rw[hX] at g7
 have lX:loadAt H7 ⟨.run H.next,0⟩ 64=some [.blk (blkOf N l)]:=by rw[loadAt_eq g7 (r:=[.blk (blkOf N l)]) rfl];exact Dp _ _
 have sX:=disk.cell_store (v:=blkOf N l) g7
 have lY:loadAt (H7.set (.run H.next) (.rows false 64 [[.blk (blkOf N l)]])) ⟨.run H.next,0⟩ 64=some [.blk (blkOf N l)]:=by rw[loadAt_eq (b:=.run H.next) (r:=[.blk (blkOf N l)]) (by rw[Heap.get_set,if_pos rfl]) rfl];exact Dp _ _
 have later:∀ {K K':Heap},Turns Z H K→Turns (fun c=>c=.run H.next) K K'→Turns Z H K':=fun t t'=>t.later t' (fun c ho e=>by subst e;exact absurd ho (Heap.not_old (Nat.le_refl _)))
 have t7':Turns Z H H7:=later (later ((later (later (t1.trans t2) t3) t4).trans t5) t6) t7
 rw[ey]
 have bb1:bounds 64 64 none (some (.int .i64 8)) none=some (0,8,64):=rfl
 have bb2:bounds 64 64 (some (.int .i64 8)) (some (.int .i64 52)) (some (.int .i64 52))=some (8,52,52):=rfl
 have bb3:bounds 64 64 none (some (.int .i64 52)) (some (.int .i64 52))=some (0,52,52):=rfl
 have bb4:bounds 64 64 (some (.int .i64 52)) (some (.int .i64 56)) (some (.int .i64 56))=some (52,56,56):=rfl
 have bb5:bounds 64 64 (some (.int .i64 56)) none none=some (56,64,64):=rfl
 generalize blkOf N l=X at *
 refine ret_call rfl c182_eq ?_
 simp only[c182,hH1,b0,g44,en,e3,e4,eo,w64,es,e6,e7,lX,sX,lY,bb1,bb2,bb3,bb4,bb5,sliceAF,oget,sy,tup,↓reduceIte,zA,zG,zC,zD,zF,zE,zB,zH,reduceCtorEq]
 exact⟨trivial,.inr trivial,_,rfl,t7'.setnew (Nat.le_refl _) _,rfl⟩
end Go.Proofs.YtabebpemfinejaaGreat.draft
namespace Go.Proofs.YtabebpemfinejaaGreat.draft
open Go.Am
noncomputable def c183:CFn:=⟨[.tmp (pp 2)],
 .seq (.reg [
 qo 1 (.m (boxF 23 (tt 0))) [pp 0],
 qo 2 (.p (S.get (.c (.slice none 0 0 0)))) []]) (
 .seq (.reg [
 qo 9 (.p (faddrF (tt 1) 2)) [pp 1],
 qo 10 (.r (loadF (tt 9) 21 .ag)) [pp 9],
 qo 3 (.m (allocF 21 [.int .i64 0,.int .i64 0,.int .i64 0,.int .u8 0,.int .u8 0,.int .u8 0,.int .u8 0,.int .u8 0,.int .u8 0,.int .u8 0,.int .u8 0,.int .u8 0,.int .u8 0,.int .u8 0,.int .u8 0,.int .u8 0,.int .u8 0,.int .u8 0,.int .u8 0,.int .i64 0,.bool false])) [],
 qn (.a (storeF (tt 3) (tt 10) 21)) [pp 3,pp 10]]) (
 .seq (.reg [
 qo 12 (.p (faddrF (tt 3) 3)) [pp 3],
 qo 13 (.p (sliceAF 16 1 (tt 12) none none none)) [pp 12],
 qo 14 (.c (callF (ff 226) [(tt 13),(ii 2)])) [pp 13],
 mv 11 14,
 qo 15 (.p (extF (tt 11) 0)) [pp 11],
 qo 16 (.p (extF (tt 11) 1)) [pp 11],
 mv 4 15,
 mv 5 16]) (
 .seq (.reg [
 qo 6 (.p (S.get (.c (.int .u64 0)))) []]) (
 .seq (.seq (.reg [
 qo 17 (.p (faddrF (tt 3) 20)) [pp 3],
 qo 18 (.r (loadF (tt 17) 1 .sc)) [pp 17]]) (
 .cond (tt 18) (.reg [
 qo 6 (.p (S.get (.c (.int .u64 1)))) []]) (.skip))) (
 .seq (.reg [
 qo 7 (.m (allocF 1 [.slice none 0 0 0])) []]) (
 .seq (.reg [
 qo 19 (.p (mkfnF (.func 227) [] [(tt 7)])) [pp 7],
 mv 8 19]) (
 .seq (.reg [
 mv 20 8,
 qo 21 (.p (faddrF (tt 1) 0)) [pp 1],
 qo 22 (.r (loadF (tt 21) 1 .sc)) [pp 21],
 qo 23 (.c (callF (tt 20) [(tt 22),(ii 8)])) [pp 20,pp 22]]) (
 .seq (.reg [
 mv 24 8,
 qo 25 (.p (faddrF (tt 3) 0)) [pp 3],
 qo 26 (.p (faddrF (tt 25) 0)) [pp 25],
 qo 27 (.r (loadF (tt 26) 1 .sc)) [pp 26],
 qo 28 (.p (convF .u64 (tt 27))) [pp 27],
 qo 29 (.c (callF (tt 24) [(tt 28),(ii 1)])) [pp 24,pp 28]]) (
 .seq (.reg [
 mv 30 8,
 qo 31 (.p (faddrF (tt 3) 0)) [pp 3],
 qo 32 (.p (faddrF (tt 31) 1)) [pp 31],
 qo 33 (.r (loadF (tt 32) 1 .sc)) [pp 32],
 qo 34 (.p (convF .u64 (tt 33))) [pp 33],
 qo 35 (.c (callF (tt 30) [(tt 34),(ii 2)])) [pp 30,pp 34]]) (
 .seq (.reg [
 mv 36 8,
 qo 37 (.p (faddrF (tt 3) 0)) [pp 3],
 qo 38 (.p (faddrF (tt 37) 2)) [pp 37],
 qo 39 (.r (loadF (tt 38) 1 .sc)) [pp 38],
 qo 40 (.p (convF .u64 (tt 39))) [pp 39],
 qo 41 (.c (callF (tt 36) [(tt 40),(ii 2)])) [pp 36,pp 40]]) (
 .seq (.reg [
 mv 42 8,
 qo 43 (.p (faddrF (tt 1) 1)) [pp 1],
 qo 44 (.r (loadF (tt 43) 1 .sc)) [pp 43],
 qo 45 (.p (convF .u64 (tt 44))) [pp 44],
 qo 46 (.c (callF (tt 42) [(tt 45),(ii 1)])) [pp 42,pp 45]]) (
 .seq (.reg [
 qo 47 (.r (loadF (tt 7) 1 .sc)) [pp 7],
 mv 48 4,
 qo 49 (.a (appF 1 1 (tt 47) (tt 48))) [pp 47,pp 48],
 qn (.a (storeF (tt 7) (tt 49) 1)) [pp 7,pp 49]]) (
 .seq (.reg [
 mv 50 8,
 qo 51 (.p (faddrF (tt 3) 19)) [pp 3],
 qo 52 (.r (loadF (tt 51) 1 .sc)) [pp 51],
 qo 53 (.p (convF .u64 (tt 52))) [pp 52],
 qo 54 (.c (callF (tt 50) [(tt 53),(ii 2)])) [pp 50,pp 53]]) (
 .seq (.reg [
 mv 55 8,
 mv 56 6,
 qo 57 (.c (callF (tt 55) [(tt 56),(ii 1)])) [pp 55,pp 56]]) (
 .seq (.reg [
 qo 58 (.r (loadF (tt 7) 1 .sc)) [pp 7],
 mv 2 58]) (
 .ret))))))))))))))))⟩
theorem c183_eq:fnOf Tryz.prog 183=some c183:=by kernel_rfl
noncomputable def c227:CFn:=⟨[],
 .seq (.reg [
 mv 8 0,
 mv 9 1,
 qo 10 (.c (callF (ff 224) [(tt 8),(tt 9)])) [pp 8,pp 9],
 mv 7 10,
 qo 11 (.p (extF (tt 7) 0)) [pp 7],
 qo 12 (.p (extF (tt 7) 1)) [pp 7],
 mv 5 11,
 mv 6 12]) (
 .reg [
 qo 13 (.r (loadF (tt 2) 1 .sc)) [pp 2],
 mv 14 5,
 qo 15 (.a (appF 1 1 (tt 13) (tt 14))) [pp 13,pp 14],
 qn (.a (storeF (tt 2) (tt 15) 1)) [pp 2,pp 15]])⟩
theorem c227_eq:fnOf Tryz.prog 227=some c227:=by kernel_rfl
noncomputable def c115:CFn:=⟨[.cell (pp 4) 64 .bk,.tmp (pp 5)],
 .seq (.reg [
 qo 3 (.m (boxF 23 (tt 1))) [pp 1],
 qo 4 (.m (allocF 64 [.blk 0])) [],
 qo 5 (.p (S.get (ii 0))) []]) (
 .seq (.seq (.reg [
 mv 6 0,
 qo 7 (.c (callF (ff 180) [(tt 6)])) [pp 6],
 qo 8 (.p (unF .not (tt 7))) [pp 7],
 mv 9 8,
 qg 10 (.r (loadF (tt 3) 23 .ag)) 9 false [pp 3],
 qg 11 (.c (callF (ff 181) [(tt 10)])) 9 false [pp 10],
 qg 12 (.p (unF .not (tt 11))) 9 false [pp 11],
 qo 13 (.p (pickF (tt 9) (.c (.bool true)) (tt 12))) [pp 9,pp 12]]) (
 .cond (tt 13) (.seq (.reg [
 qo 14 (.p (buildF [.blk 0] .bk [])) [],
 qn (.a (storeF (tt 4) (tt 14) 64)) [pp 4,pp 14],
 qo 5 (.p (S.get (ii 2))) []]) (
 .ret)) (.skip))) (
 .seq (.reg [
 mv 15 0,
 qo 16 (.r (loadF (tt 3) 23 .ag)) [pp 3],
 qo 17 (.c (callF (ff 183) [(tt 16)])) [pp 16],
 qo 18 (.c (callF (ff 182) [(tt 15),(tt 17)])) [pp 15,pp 17],
 qo 19 (.p (extF (tt 18) 0)) [pp 18],
 qo 20 (.p (extF (tt 18) 1)) [pp 18],
 qn (.a (storeF (tt 4) (tt 19) 64)) [pp 4,pp 19],
 mv 5 20]) (
 .ret)))⟩
theorem c115_eq:fnOf Tryz.prog 115=some c115:=by kernel_rfl
structure LayI (H0 K:Heap) (b:Nat) (l:List Nat):Prop where
 y:∃ y,K.get (.run b)=some (.rows false 1 [[y]])∧Lst H0 K 1 (rowsN l) y
 lo:b < H0.next
 t:Turns (fun c=>c=.run b) H0 K
theorem cellV {K:Heap} {b:Nat} {p:Option Ptr} {n c o:Nat} (g:K.get (.run b)=some (.rows false 1 [[.slice p n c o]])):loadAt K ⟨.run b,0⟩ 1=some [.slice p n c o]:=by
 rw[loadAt_eq g (r:=[.slice p n c o]) rfl];exact cut_hit _ [] rfl
theorem cellS {K:Heap} {b:Nat} {p q:Option Ptr} {n c o n' c' o':Nat} (g:K.get (.run b)=some (.rows false 1 [[.slice p n c o]])):storeAt K ⟨.run b,0⟩ [.slice q n' c' o']=some (K.set (.run b) (.rows false 1 [[.slice q n' c' o']])):=
 storeAt_eq g (o:=0) (vs:=[.slice q n' c' o']) (r:=[.slice p n c o]) (r':=[.slice q n' c' o']) rfl rfl
theorem LayI.app {H0 K K1:Heap} {b:Nat} {l xs:List Nat} (h:LayI H0 K b l) (t1:Turns Z K K1) {x:V} (hx:(xs=[]∧x=.slice none 0 0 0)∨∃ k,x=.slice (some ⟨.run k,0⟩) xs.length xs.length 0∧elems K1 (.run k) 1 xs.length 0=some (rowsN xs)∧xs≠[]) (hl:l.length+xs.length≤1000) :
  ∃(p:Option Ptr) (n1 c1 o1:Nat) (q:Option Ptr) (n2 c2 o2:Nat) (F F':Heap),loadAt K1 ⟨.run b,0⟩ 1=some [.slice p n1 c1 o1]∧appendV 1 1 K1 (.slice p n1 c1 o1) x=some (.slice q n2 c2 o2,F)∧storeAt F ⟨.run b,0⟩ [.slice q n2 c2 o2]=some F'∧LayI H0 F' b (l++xs):=by
 obtain⟨y,gy,hy⟩:=h.y
 have hbK:b < K.next:=Nat.lt_of_lt_of_le h.lo h.t.next
 have gy1:=(t1.same (.run b) hbK (fun h=>h)).trans gy
 have hy1:=hy.turns t1 (fun _ _=>id)
 have hT1:Turns (fun c=>c=.run b) H0 K1:=h.t.trans (t1.wide (fun _ hc=>hc.elim))
 have ap:∃ w F,appendV 1 1 K1 y x=some (w,F)∧Lst H0 F 1 (rowsN (l++xs)) w∧Turns (Bof y) K1 F:=by
  rcases hx with ⟨rfl,rfl⟩ | ⟨k,rfl,he,hne⟩
  ·have hn:Lst K1 K1 1 (rowsN []) (.slice none 0 0 0):=Lst.nil K1 K1 1
   obtain⟨w,F,ea,hw,ta⟩:=appL (Q:=rowsN []) hy1 hn (rowsN_bytes _) hT1.next (by rw[rowsN_len,rowsN_len];omega)
   rw[← rowsN_app] at hw
   exact⟨w,F,ea,hw,ta⟩
  ·have hne':rowsN xs≠[]:=fun e=>hne (List.map_eq_nil_iff.1 e)
   have hrl:=rowsN_len xs
   obtain⟨F,ea,hw,ta,_⟩:=hy1.app (by':=1) (x:=.slice (some ⟨.run k,0⟩) xs.length xs.length 0) hT1.next he (by show some xs.length=_;rw[hrl]) hne' (by decide) (by rw[rowsN_len,rowsN_len];omega) (by rw[rowsN_len,rowsN_len];omega)
   rw[← rowsN_app] at hw
   exact⟨_,F,ea,hw,ta⟩
 obtain⟨w,F,ea,hw,ta⟩:=ap
 have nb:¬ Bof y (.run b):=fun hc=>by
  obtain⟨j,e,h1,_⟩:=hy1.bof hc
  have:=Bk.run.inj e
  have:=h.lo
  omega
 have gF:F.get (.run b)=some (.rows false 1 [[y]]):=(ta.same (.run b) (by show _ < _;exact Nat.lt_of_lt_of_le hbK t1.next) nb).trans gy1
 have hbF:b < F.next:=Nat.lt_of_lt_of_le (Nat.lt_of_lt_of_le hbK t1.next) ta.next
 obtain⟨p,c1,o1,ey⟩:=hy1.val
 obtain⟨q,c2,o2,ew⟩:=hw.val
 have ea':=ea
 rw[ey] at gy1 gF
 rw[ey,ew] at ea'
 refine⟨p,_,c1,o1,q,_,c2,o2,F,_,cellV gy1,ea',cellS gF,⟨⟨w,by rw[Heap.get_set,if_pos rfl,ew],?_⟩,h.lo,?_⟩⟩
 ·refine hw.turns (Turns.set (X:=fun c=>c=.run b) rfl F _) (fun c hc e=>?_)
  obtain⟨j,e',h1,_⟩:=hw.bof hc
  rw[e] at e'
  have:=Bk.run.inj e'
  have:=h.lo
  omega
 ·exact(hT1.later ta (fun c ho hb=>by
   obtain⟨j,e',h1,_⟩:=hy1.bof hb
   subst e'
   exact absurd ho (Heap.not_old h1))).setm rfl _
theorem lay_ok {H0 K:Heap} {b:Nat} {l:List Nat} (h:LayI H0 K b l) (hl:l.length≤900) {N s:Nat} (hN:N < 18446744073709551616) (hs:1≤s∧s≤8) {lf:Nat} (hlf:17 < lf) (n:Nat) :
  ret (callS Tryz.prog S0 lf (n+2) 227 [.int .u64 (N:Int),.int .i64 (s:Int),.ptr (some ⟨.run b,0⟩)] K) fun v K'=>v=.tuple []∧LayI H0 K' b (l++putB N s):=by
 obtain⟨v,K1,e1,t1,hv⟩:=pnput_ok K hN hs hlf n
 have hp:=putB_le N s
 refine ret_call rfl c227_eq ?_
 rcases hv with ⟨h0,k,rfl,hk,_⟩ | ⟨h0,rfl⟩
 ·have e:putB N s=stl (dig N) s 0:=by unfold putB;rw[if_pos h0,digs_stl]
  have hsl:(stl (dig N) s 0).length=s:=stl_len _ _ _
  obtain⟨p,n1,c1,o1,q,n2,c2,o2,F,F',a1,a2,a3,a4⟩:=h.app t1 (xs:=stl (dig N) s 0) (x:=.slice (some ⟨.run k,0⟩) s s 0) (.inr ⟨k,by rw[hsl],by rw[hsl];exact elems_bod hk s 0 (by omega),fun e=>by rw[e] at hsl;simp at hsl;omega⟩) (by omega)
  rw[← e] at a4
  simp only[c227,e1,a1,a2,a3,sy,tup,↓reduceIte,zA,zG,zC,zD,zF,zE,zB,zH,reduceCtorEq]
  exact⟨trivial,.inl trivial,_,rfl,rfl,a4⟩
 ·have e:putB N s=[]:=by unfold putB;rw[if_neg h0]
  obtain⟨p,n1,c1,o1,q,n2,c2,o2,F,F',a1,a2,a3,a4⟩:=h.app t1 (xs:=[]) (x:=.slice none 0 0 0) (.inl ⟨rfl,rfl⟩) (by simp;omega)
  rw[← e] at a4
  simp only[c227,e1,a1,a2,a3,sy,tup,↓reduceIte,zA,zG,zC,zD,zF,zE,zB,zH,reduceCtorEq]
  exact⟨trivial,.inl trivial,_,rfl,rfl,a4⟩
theorem pros_r {H:Heap} {b:Bk} {m s r:Int} {S:List Nat} {c:Int} {g:Bool} (h:RosAt H b m s r S c g):loadAt H ⟨b,2⟩ 1=some [.int .i64 r]:=by rw[ros_cut h (by omega) (by omega)];rfl
theorem pros_g {H:Heap} {b:Bk} {m s r:Int} {S:List Nat} {c:Int} {g:Bool} (h:RosAt H b m s r S c g):loadAt H ⟨b,20⟩ 1=some [.bool g]:=by
 rw[ros_cut h (by omega) (by omega)]
 unfold rcells
 have e:20=[V.int .i64 m,.int .i64 s,.int .i64 r].length+((sts S).length+1):=by rw[sts_len,h.len];rfl
 rw[e,List.drop_length_add_append,List.drop_length_add_append]
 rfl
def pzro:List V:=[.int .i64 0,.int .i64 0,.int .i64 0,.int .u8 0,.int .u8 0,.int .u8 0,.int .u8 0,.int .u8 0,.int .u8 0,.int .u8 0,.int .u8 0,.int .u8 0,.int .u8 0,.int .u8 0,.int .u8 0,.int .u8 0,.int .u8 0,.int .u8 0,.int .u8 0,.int .i64 0,.bool false]
theorem put_pzro {S:List Nat} (hS:S.length=16) (m s r c:Int) (g:Bool):Go.Am.put pzro 0 (rcells m s r S c g)=some (rcells m s r S c g):=by
 match S,hS with
 | [_,_,_,_,_,_,_,_,_,_,_,_,_,_,_,_],_=>rfl
theorem pbody_ok (H:Heap) {id me m s r c:Nat} {g:Bool} {S:List Nat} (hid:id < 18446744073709551616) (hb:me < 65536∧m < 65536∧s < 65536∧r < 65536∧c < 65536) (hS:S.length=16) (hS4:∀ i,i < 16→S.getD i 0 < 4) {lf:Nat} (hlf:80 < lf) (n:Nat) :
  ret (callS Tryz.prog S0 lf (n+3) 183 [sup id me m s r S c g] H) fun v H'=>Turns Z H H'∧∃ K:Heap,H.next≤K.next∧Lst K H' 1 (rowsN (bodyN id me m s r S c g)) v:=by
 obtain⟨b1,b2,b3,b4,b5⟩:=hb
 have hzr:pzro=[.int .i64 0,.int .i64 0,.int .i64 0,.int .u8 0,.int .u8 0,.int .u8 0,.int .u8 0,.int .u8 0,.int .u8 0,.int .u8 0,.int .u8 0,.int .u8 0,.int .u8 0,.int .u8 0,.int .u8 0,.int .u8 0,.int .u8 0,.int .u8 0,.int .u8 0,.int .i64 0,.bool false]:=rfl
 have t0:=Turns.add Z H (.rows false 23 [scells id me m s r S c g])
 have hg:(H.add (.rows false 23 [scells id me m s r S c g])).get (.run H.next)=some (.rows false 23 [scells id me m s r S c g]):=by rw[Heap.get_add,if_pos rfl]
 have hn0:(H.add (.rows false 23 [scells id me m s r S c g])).next=H.next+1:=by simp
 have hw:=s_width hS id me m s r c g
 obtain⟨H1,hH1⟩:∃ K,H.add (.rows false 23 [scells id me m s r S c g])=K:=⟨_,rfl⟩
 rw[hH1] at t0 hg hn0
 have ga:(H1.add (.rows false 21 [pzro])).get (.run (H.next+1))=some (.rows false 21 [pzro]):=by rw[Heap.get_add,if_pos (by rw[hn0])]
 have sa:=storeAt_eq ga (o:=0) (vs:=rcells m s r S c g) (r:=pzro) (r':=rcells m s r S c g) rfl (put_pzro hS _ _ _ _ _)
 have ta:Turns Z H1 ((H1.add (.rows false 21 [pzro])).set (.run (H.next+1)) (.rows false 21 [rcells m s r S c g])):=(Turns.add Z H1 _).setnew (by omega) _
 have gr:((H1.add (.rows false 21 [pzro])).set (.run (H.next+1)) (.rows false 21 [rcells m s r S c g])).get (.run (H.next+1))=some (.rows false 21 [rcells m s r S c g]):=by rw[Heap.get_set,if_pos rfl]
 have na:((H1.add (.rows false 21 [pzro])).set (.run (H.next+1)) (.rows false 21 [rcells m s r S c g])).next=H.next+2:=by simp[hn0]
 have sa:storeAt (H1.add (.rows false 21 [pzro])) ⟨.run (H.next+1),0⟩ (rcells m s r S c g)=some ((H1.add (.rows false 21 [pzro])).set (.run (H.next+1)) (.rows false 21 [rcells m s r S c g])):=sa
 obtain⟨H2,hH2⟩:∃ K,(H1.add (.rows false 21 [pzro])).set (.run (H.next+1)) (.rows false 21 [rcells m s r S c g])=K:=⟨_,rfl⟩
 rw[hH2] at sa ta gr na
 have lr0:=sup_r (⟨hg,hS⟩:SupAt H1 (.run H.next) id me m s r S c g)
 have wr:=r_width hS m s r c g
 obtain⟨v3,H3,e3,t3,k3,rfl,hk3,hk3'⟩:=pbits_ok (H:=H2) (p:=⟨.run (H.next+1),3⟩) (cap:=16) (loose:=0) (S:=fun i=>S.getD i 0) hS4 (fun {H'} t i hi=>by
  have R:RosAt H' (.run (H.next+1)) m s r S c g:=⟨(t.same (.run (H.next+1)) (by show _ < _;omega) (fun h=>h)).trans gr,hS⟩
  have:=ros_st R hi
  rw[Nat.mul_one] at this
  rw[List.getD_eq_getElem?_getD,List.getElem?_eq_getElem (by omega)]
  exact this) (show 40 < lf by omega) n
 have n3:=t3.next
 have t4:=Turns.add Z H3 (.rows false 1 [[.slice none 0 0 0]])
 have g4:(H3.add (.rows false 1 [[.slice none 0 0 0]])).get (.run H3.next)=some (.rows false 1 [[.slice none 0 0 0]]):=by rw[Heap.get_add,if_pos rfl]
 have n4:(H3.add (.rows false 1 [[.slice none 0 0 0]])).next=H3.next+1:=by simp
 obtain⟨H4,hH4⟩:∃ K,H3.add (.rows false 1 [[.slice none 0 0 0]])=K:=⟨_,rfl⟩
 rw[hH4] at t4 g4 n4
 have h17:17 < lf:=by omega
 have w:∀ {x:Nat},x < 65536→IntKind.u64.wrap (x:Int)=(x:Int):=fun hx=>wrap_u64 (by omega)
 have I0:LayI H4 H4 H3.next []:=⟨⟨_,g4,Lst.nil _ _ _⟩,by omega,Turns.refl _ _⟩
 have atS:∀ {K:Heap},Turns (fun c=>c=.run H3.next) H4 K→SupAt K (.run H.next) id me m s r S c g:=fun t=>⟨(t.same (.run H.next) (by show _ < _;omega) (run_ne (by omega))).trans ((((ta.trans t3).trans t4).same (.run H.next) (by show _ < _;omega) (fun h=>h)).trans hg),hS⟩
 have atR:∀ {K:Heap},Turns (fun c=>c=.run H3.next) H4 K→RosAt K (.run (H.next+1)) m s r S c g:=fun t=>⟨(t.same (.run (H.next+1)) (by show _ < _;omega) (run_ne (by omega))).trans (((t3.trans t4).same (.run (H.next+1)) (by show _ < _;omega) (fun h=>h)).trans gr),hS⟩
 have c1:=putB_le id 8
 have c2:=putB_le m 1
 have c3:=putB_le s 2
 have c4:=putB_le r 2
 have c5:=putB_le me 1
 have c8:=putB_le c 2
 obtain⟨u1,A1,e5,rfl,I1⟩:=lay_ok I0 (by simp) hid (s:=8) (by omega) h17 (n:=n)
 rw[List.nil_append] at I1
 change callS _ _ _ _ _ [_,.int .i64 8,_] _=_ at e5
 obtain⟨u2,A2,e6,rfl,I2⟩:=lay_ok I1 (by omega) (N:=m) (by omega) (s:=1) (by omega) h17 (n:=n)
 change callS _ _ _ _ _ [_,.int .i64 1,_] _=_ at e6
 obtain⟨u3,A3,e7,rfl,I3⟩:=lay_ok I2 (by simp only[List.length_append];omega) (N:=s) (by omega) (s:=2) (by omega) h17 (n:=n)
 change callS _ _ _ _ _ [_,.int .i64 2,_] _=_ at e7
 obtain⟨u4,A4,e8,rfl,I4⟩:=lay_ok I3 (by simp only[List.length_append];omega) (N:=r) (by omega) (s:=2) (by omega) h17 (n:=n)
 change callS _ _ _ _ _ [_,.int .i64 2,_] _=_ at e8
 obtain⟨u5,A5,e9,rfl,I5⟩:=lay_ok I4 (by simp only[List.length_append];omega) (N:=me) (by omega) (s:=1) (by omega) h17 (n:=n)
 change callS _ _ _ _ _ [_,.int .i64 1,_] _=_ at e9
 have hk5:BodyAt A5 k3 (outB fun i=>S.getD i 0) 4:=by
  have hk4:=hk3.turns t4
  exact⟨(I5.t.same (.run k3) hk4.old (run_ne (by have:=hk3.old;omega))).trans hk4.own,Nat.lt_of_lt_of_le hk4.old I5.t.next⟩
 have ho:outs (fun i=>S.getD i 0) 4=stl (outB fun i=>S.getD i 0) 4 0:=rfl
 obtain⟨p,n1,cc1,o1,q,n2,cc2,o2,F,A6,a1,a2,a3,I6⟩:=I5.app (Turns.refl _ _) (xs:=outs (fun i=>S.getD i 0) 4) (x:=.slice (some ⟨.run k3,0⟩) 4 4 0) (.inr ⟨k3,rfl,by rw[ho];exact elems_bod hk5 4 0 (by omega),fun e=>by cases e⟩) (by simp only[List.length_append,outs_len];omega)
 obtain⟨u7,A7,e10,rfl,I7⟩:=lay_ok I6 (by simp only[List.length_append,outs_len];omega) (N:=c) (by omega) (s:=2) (by omega) h17 (n:=n)
 change callS _ _ _ _ _ [_,.int .i64 2,_] _=_ at e10
 obtain⟨u8,A8,e11,rfl,I8⟩:=lay_ok I7 (by simp only[List.length_append,outs_len];omega) (N:=if g then 1 else 0) (by split<;>omega) (s:=1) (by omega) h17 (n:=n)
 change callS _ _ _ _ _ [_,.int .i64 1,_] _=_ at e11
 have hgp:putB (if g then 1 else 0) 1=[if g then 1 else 0]:=by cases g<;>rfl
 rw[hgp] at I8
 have hbN:bodyN id me m s r S c g=((((((putB id 8++putB m 1)++putB s 2)++putB r 2)++putB me 1)++outs (fun i=>S.getD i 0) 4)++putB c 2)++[if g then 1 else 0]:=rfl
 rw[← hbN] at I8
 obtain⟨yy,gy,hy⟩:=I8.y
 obtain⟨py,cy,oy,ey⟩:=hy.val
 have ly:loadAt A8 ⟨.run H3.next,0⟩ 1=some [.slice py (rowsN (bodyN id me m s r S c g)).length cy oy]:=by rw[ey] at gy;exact cellV gy
 have x1:=sup_id (atS (Turns.refl _ _))
 have x2:=ros_m (atR I1.t)
 have x3:=ros_s (atR I2.t)
 have x4:=pros_r (atR I3.t)
 have x5:=sup_self (atS I4.t)
 have x6:=ros_c (atR I6.t)
 have x7:loadAt H3 ⟨.run (H.next+1),20⟩ 1=some [.bool g]:=pros_g ⟨(t3.same (.run (H.next+1)) (by show _ < _;omega) (fun h=>h)).trans gr,hS⟩
 have y1:=w b1
 have y2:=w b2
 have y3:=w b3
 have y4:=w b4
 have y5:=w b5
 have tt:Turns Z H A8:=(((t0.trans ta).trans t3).trans t4).later I8.t (fun c ho e=>by subst e;exact absurd ho (Heap.not_old (by omega)))
 rw[hzr] at sa
 have fin:Turns Z H A8∧∃ K:Heap,H.next≤K.next∧Lst K A8 1 (rowsN (bodyN id me m s r S c g)) (.slice py (rowsN (bodyN id me m s r S c g)).length cy oy):=⟨tt,H4,by omega,by rw[← ey];exact hy⟩
 obtain⟨ln,hln⟩:∃ z,z=(rowsN (bodyN id me m s r S c g)).length:=⟨_,rfl⟩
 rw[← hln] at ly fin
 refine ret_call rfl c183_eq ?_
 cases g with
 | false=>
  have e11':callS _ _ _ _ _ [.int .u64 0,.int .i64 1,_] _=_:=e11
  simp only[c183,sup,hw,hH1,hn0,lr0,wr,sa,e3,x7,hH4,e5,e6,e7,e8,e9,a1,a2,a3,e10,e11',ly,x1,x2,x3,x4,x5,x6,y1,y2,y3,y4,y5,mkfnF,sliceAF,oget,bounds,boundD,sy,tup,↓reduceIte,zA,zG,zC,zD,zF,zE,zB,zH,reduceCtorEq]
  exact⟨trivial,.inr trivial,_,rfl,fin⟩
 | true=>
  have e11':callS _ _ _ _ _ [.int .u64 1,.int .i64 1,_] _=_:=e11
  simp only[c183,sup,hw,hH1,hn0,lr0,wr,sa,e3,x7,hH4,e5,e6,e7,e8,e9,a1,a2,a3,e10,e11',ly,x1,x2,x3,x4,x5,x6,y1,y2,y3,y4,y5,mkfnF,sliceAF,oget,bounds,boundD,sy,tup,↓reduceIte,zA,zG,zC,zD,zF,zE,zB,zH,reduceCtorEq]
  exact⟨trivial,.inr trivial,_,rfl,fin⟩
theorem bodyN_ne (id me m s r:Nat) (S:List Nat) (c:Nat) (g:Bool):bodyN id me m s r S c g≠[]:=fun e=>by
 unfold bodyN at e
 exact absurd e (by simp)
theorem pput8_ok (H:Heap) {N id:Nat} {me m s r c:Int} {g:Bool} {S:List Nat} (hN:N < 18446744073709551616) (hid:id < 18446744073709551616) (hS:S.length=16) {lf:Nat} (hlf:80 < lf) (n:Nat) :
  ret (callS Tryz.prog S0 lf (n+6) 115 [.int .u64 (N:Int),sup id me m s r S c g] H) fun v H'=>Turns Z H H' ∧
   ((evt N=true∧smay id me m s r S c∧v=.tuple [.blk (supBlk N id me m s r S c g),.int .i64 0])∨(¬ (evt N=true∧smay id me m s r S c)∧v=.tuple [.blk 0,.int .i64 2])):=by
 have t0:=Turns.add Z H (.rows false 23 [scells id me m s r S c g])
 have hg:(H.add (.rows false 23 [scells id me m s r S c g])).get (.run H.next)=some (.rows false 23 [scells id me m s r S c g]):=by rw[Heap.get_add,if_pos rfl]
 have hn0:(H.add (.rows false 23 [scells id me m s r S c g])).next=H.next+1:=by simp
 have hw:=s_width hS id me m s r c g
 generalize hH1:H.add (.rows false 23 [scells id me m s r S c g])=H1 at *
 have t1:=Turns.add Z H1 (.rows false 64 [[.blk 0]])
 have hg1:(H1.add (.rows false 64 [[.blk 0]])).get (.run (H.next+1))=some (.rows false 64 [[.blk 0]]):=by rw[Heap.get_add,if_pos (by rw[hn0])]
 have hn1:(H1.add (.rows false 64 [[.blk 0]])).next=H.next+2:=by simp[hn0]
 obtain⟨H2,hH2⟩:∃ K,H1.add (.rows false 64 [[.blk 0]])=K:=⟨_,rfl⟩
 rw[hH2] at t1 hg1 hn1
 have at1:∀ {K:Heap},Turns Z H1 K→SupAt K (.run H.next) id me m s r S c g:=fun t=>⟨(t.same _ (by show _ < _;omega) (fun h=>h)).trans hg,hS⟩
 have e1:=event_ok H2 N lf (n+4)
 have la:=sup_all (at1 t1)
 obtain⟨v3,H3,e3,⟨z,rfl,hz⟩,t3⟩:=smay_ok H2 (id:=(id:Int)) (me:=me) (m:=m) (s:=s) (r:=r) (c:=c) (g:=g) hS lf (n+1) (by omega)
 have la3:=sup_all (at1 (t1.trans t3))
 have zero:∀ {K:Heap},Turns Z H2 K→storeAt K ⟨.run (H.next+1),0⟩ [.blk 0]=some (K.set (.run (H.next+1)) (.rows false 64 [[.blk 0]]))∧loadAt (K.set (.run (H.next+1)) (.rows false 64 [[.blk 0]])) ⟨.run (H.next+1),0⟩ 64=some [.blk 0]∧Turns Z H (K.set (.run (H.next+1)) (.rows false 64 [[.blk 0]])):=fun {K} t=>by
  have gK:K.get (.run (H.next+1))=some (.rows false 64 [[.blk 0]]):=(t.same _ (by show _ < _;omega) (fun h=>h)).trans hg1
  refine⟨disk.cell_store gK,?_,((t0.trans t1).trans t).setnew (by omega) _⟩
  rw[loadAt_eq (b:=.run (H.next+1)) (r:=[.blk 0]) (by rw[Heap.get_set,if_pos rfl]) rfl];exact Dp _ _
 unfold sup at e3 ⊢
 refine ret_call rfl c115_eq ?_
 cases hev:evt N with
 | false=>
  rw[hev] at e1
  obtain⟨z1,z2,z3⟩:=zero (Turns.refl _ _)
  simp only[c115,hw,hH1,hH2,hn0,e1,z1,z2,sy,tup,↓reduceIte,zA,zG,zC,zD,zF,zE,zB,zH,reduceCtorEq]
  exact⟨trivial,.inr trivial,_,rfl,z3,.inr ⟨by simp,rfl⟩⟩
 | true=>
  rw[hev] at e1
  cases z with
  | false=>
   obtain⟨z1,z2,z3⟩:=zero t3
   simp only[c115,hw,hH1,hH2,hn0,e1,la,e3,z1,z2,sy,tup,↓reduceIte,zA,zG,zC,zD,zF,zE,zB,zH,reduceCtorEq]
   exact⟨trivial,.inr trivial,_,rfl,z3,.inr ⟨by simp at hz;simp[hz],rfl⟩⟩
  | true=>
   have hm:=hz.1 rfl
   obtain⟨h1,h2,h3,hf⟩:=hm
   obtain⟨f1,f2,f3,f4,f5,f6⟩:=hf
   obtain⟨m1,m2,m3⟩:=may_t f1
   have hS4:∀ i,i < 16→S.getD i 0 < 4:=fun i hi=>by
    have:=(f2 i hi _ (getD_some (by omega))).1
    omega
   have em:((m.toNat:Nat):Int)=m:=Int.toNat_of_nonneg (by omega)
   have es:((s.toNat:Nat):Int)=s:=Int.toNat_of_nonneg (by omega)
   have er:((r.toNat:Nat):Int)=r:=Int.toNat_of_nonneg (by omega)
   have ec:((c.toNat:Nat):Int)=c:=Int.toNat_of_nonneg f4
   have ee:((me.toNat:Nat):Int)=me:=Int.toNat_of_nonneg h2
   obtain⟨v4,H4,e4,t4,K,hK,l4⟩:=pbody_ok H3 (id:=id) (me:=me.toNat) (m:=m.toNat) (s:=s.toNat) (r:=r.toNat) (c:=c.toNat) (g:=g) (S:=S) hid (by omega) hS hS4 hlf (n+2)
   rw[em,es,er,ec,ee] at e4
   unfold sup at e4
   have hN0:N≠0:=fun e=>by subst e;revert hev;decide
   obtain⟨v5,H5,e5,t5,rfl⟩:=pput7_ok l4 (bodyN_ne _ _ _ _ _ _ _ _) (bodyN_le _ _ _ _ _ _ _ _) (bodyN_lt _ _ _ _ _ _ _ _) hN hN0 hlf (n+1)
   have hb:blkOf N (bodyN id me.toNat m.toNat s.toNat r.toNat S c.toNat g)=supBlk N id me m s r S c g:=rfl
   rw[hb] at e5
   have t25:=(t3.trans t4).trans t5
   have g5:H5.get (.run (H.next+1))=some (.rows false 64 [[.blk 0]]):=(t25.same _ (by show _ < _;omega) (fun h=>h)).trans hg1
   have s5:=disk.cell_store (v:=supBlk N id me m s r S c g) g5
   have l5:loadAt (H5.set (.run (H.next+1)) (.rows false 64 [[.blk (supBlk N id me m s r S c g)]])) ⟨.run (H.next+1),0⟩ 64=some [.blk (supBlk N id me m s r S c g)]:=by
    rw[loadAt_eq (b:=.run (H.next+1)) (r:=[.blk (supBlk N id me m s r S c g)]) (by rw[Heap.get_set,if_pos rfl]) rfl];exact Dp _ _
   simp only[c115,hw,hH1,hH2,hn0,e1,la,la3,e3,e4,e5,s5,l5,sy,tup,↓reduceIte,zA,zG,zC,zD,zF,zE,zB,zH,reduceCtorEq]
   exact⟨trivial,.inr trivial,_,rfl,((t0.trans t1).trans t25).setnew (by omega) _,.inl ⟨trivial,⟨h1,h2,h3,f1,f2,f3,f4,f5,f6⟩,rfl⟩⟩
end Go.Proofs.YtabebpemfinejaaGreat.draft
namespace Go.Proofs.YtabebpemfinejaaGreat.draft
open Go.Am
noncomputable def sumD (c:Nat→Nat):Nat→Nat
 | 0=>0
 | i+1=>sumD c i+c i*256 ^ i
theorem sumD_lt {c:Nat→Nat}:∀ {n:Nat},(∀ i,i < n→c i < 256)→sumD c n < 256 ^ n
 | 0,_=>by show 0 < 1;decide
 | n+1,h=>by
  have a:=sumD_lt (c:=c) (n:=n) (fun i hi=>h i (by omega))
  have b:=h n (by omega)
  show sumD c n+c n*256 ^ n < 256 ^ (n+1)
  rw[Nat.pow_succ]
  have:c n*256 ^ n≤255*256 ^ n:=Nat.mul_le_mul_right _ (by omega)
  omega
theorem leN_sumD {c:Nat→Nat}:∀ {n:Nat},(∀ i,i < n→c i < 256)→leN c n=sumD c n
 | 0,_=>rfl
 | n+1,h=>by
  have a:=sumD_lt (c:=c) (n:=n) (fun i hi=>h i (by omega))
  have ih:=leN_sumD (c:=c) (n:=n) (fun i hi=>h i (by omega))
  show leN c n ||| up (c n) n=sumD c n+c n*256 ^ n
  rw[ih]
  unfold up
  have e:(256:Nat) ^ n=2 ^ (8*n):=by rw[Nat.pow_mul]
  rw[e] at a ⊢
  rw[Nat.or_comm,Nat.mul_comm,← Nat.two_pow_add_eq_or_of_lt a,Nat.add_comm]
theorem sumD_dig (x:Nat):∀ n,sumD (dig x) n=x % 256 ^ n
 | 0=>by show 0=x % 1;omega
 | n+1=>by
  show sumD (dig x) n+dig x n*256 ^ n=_
  rw[sumD_dig x n,Nat.mod_pow_succ]
  unfold dig
  rw[Nat.mul_comm]
theorem leN_congr {f g:Nat→Nat}:∀ {n:Nat},(∀ i,i < n→f i=g i)→leN f n=leN g n
 | 0,_=>rfl
 | n+1,h=>by
  show leN f n ||| up (f n) n=leN g n ||| up (g n) n
  rw[leN_congr (fun i hi=>h i (by omega)),h n (by omega)]
theorem leN_dig {x n:Nat} (hx:x < 256 ^ n) {c:Nat→Nat} (hc:∀ i,i < n→c i=dig x i):leN c n=x:=by
 rw[leN_congr hc,leN_sumD (fun i _=>dig_lt x i),sumD_dig,Nat.mod_eq_of_lt hx]
theorem putB_dig {x n:Nat} (hx:x < 256 ^ n):putB x n=stl (dig x) n 0:=by
 unfold putB
 rw[if_pos (Nat.div_eq_of_lt hx),digs_stl]
theorem stl_at (f:Nat→Nat):∀ n j i,i < n→(stl f n j)[i]?=some (f (j+i))
 | n+1,j,0,_=>rfl
 | n+1,j,i+1,h=>by
  show (stl f n (j+1))[i]?=_
  rw[stl_at f n (j+1) i (by omega),show j+1+i=j+(i+1) by omega]
theorem app_l {A B:List Nat} {a j:Nat} (hA:A.length=a) (h:j < a):(A++B)[j]?=A[j]?:=List.getElem?_append_left (by omega)
theorem app_r {A B:List Nat} {a j:Nat} (hA:A.length=a):(A++B)[a+j]?=B[j]?:=by
 rw[List.getElem?_append_right (by omega),show a+j - A.length=j by omega]
theorem app_len {A B:List Nat} {a b:Nat} (hA:A.length=a) (hB:B.length=b):(A++B).length=a+b:=by rw[List.length_append,hA,hB]
structure Back (N id me m s r:Nat) (S:List Nat) (c:Nat) (g:Bool):Prop where
 hN:N < 18446744073709551616
 hN0:N≠0
 hid:id < 18446744073709551616
 hme:me < 256
 hm:m < 256
 hs:s < 65536
 hr:r < 65536
 hc:c < 65536
 hS:S.length=16
 hS4:∀ i,i < 16→S.getD i 0 < 4
theorem two_at {S:Nat→Nat} (h:∀ i,i < 16→S i < 4) {c:Nat→Nat} (hc:∀ q,q < 4→c q=outB S q) {i:Nat} (hi:i < 16):twoB c i=S i:=by
 have hq:i / 4 < 4:=by omega
 have key:outB S (i / 4)=S (4*(i / 4))+4*S (4*(i / 4)+1)+16*S (4*(i / 4)+2)+64*S (4*(i / 4)+3):=by
  rw[← accS_out h _ hq]
  have h4:=fun j (hj:j < 16)=>h j hj
  have o:=or4 _ (h4 (4*(i / 4)) (by omega)) _ (h4 (4*(i / 4)+1) (by omega)) _ (h4 (4*(i / 4)+2) (by omega)) _ (h4 (4*(i / 4)+3) (by omega))
  rw[← o]
  have:i / 4=0∨i / 4=1∨i / 4=2∨i / 4=3:=by omega
  rcases this with e | e | e | e<;>rw[e]<;>simp[accS]
 unfold twoB
 have e1:2*i / 8=i / 4:=by omega
 rw[e1,hc _ hq,key]
 have a3:∀ x:Nat,x&&&3=x % 4:=fun x=>Nat.and_two_pow_sub_one_eq_mod x 2
 rw[a3]
 have ha:=h (4*(i / 4)) (by omega)
 have hb:=h (4*(i / 4)+1) (by omega)
 have hcc:=h (4*(i / 4)+2) (by omega)
 have hd:=h (4*(i / 4)+3) (by omega)
 have:i=4*(i / 4)∨i=4*(i / 4)+1∨i=4*(i / 4)+2∨i=4*(i / 4)+3:=by omega
 rcases this with e | e | e | e
 ·rw[show 2*i % 8=0 by omega,show S i=S (4*(i / 4)) from congrArg S e]
  generalize S (4*(i / 4))=A at *
  generalize S (4*(i / 4)+1)=B at *
  generalize S (4*(i / 4)+2)=C at *
  generalize S (4*(i / 4)+3)=D at *
  omega
 ·rw[show 2*i % 8=2 by omega,show S i=S (4*(i / 4)+1) from congrArg S e]
  generalize S (4*(i / 4))=A at *
  generalize S (4*(i / 4)+1)=B at *
  generalize S (4*(i / 4)+2)=C at *
  generalize S (4*(i / 4)+3)=D at *
  omega
 ·rw[show 2*i % 8=4 by omega,show S i=S (4*(i / 4)+2) from congrArg S e]
  generalize S (4*(i / 4))=A at *
  generalize S (4*(i / 4)+1)=B at *
  generalize S (4*(i / 4)+2)=C at *
  generalize S (4*(i / 4)+3)=D at *
  omega
 ·rw[show 2*i % 8=6 by omega,show S i=S (4*(i / 4)+3) from congrArg S e]
  generalize S (4*(i / 4))=A at *
  generalize S (4*(i / 4)+1)=B at *
  generalize S (4*(i / 4)+2)=C at *
  generalize S (4*(i / 4)+3)=D at *
  omega
theorem back_ok {N id me m s r c:Nat} {S:List Nat} {g:Bool} (h:Back N id me m s r S c g) {X:Nat} (hX:X=blkOf N (bodyN id me m s r S c g)) :
  sealE X=0∧sealN X=N∧fld X 0 8=id∧fld X 13 1=me∧fld X 8 1=m∧fld X 9 2=s∧fld X 11 2=r∧fld X 18 2=c∧gSt X=S∧(((fld X 20 1:Nat):Int)==1)=g∧fld X 20 1≤1∧zeroTo (fun i=>bc X (21+i)) 23∧X < 256 ^ 64:=by
 have p1:(256:Nat) ^ 1=256:=rfl
 have p2:(256:Nat) ^ 2=65536:=rfl
 have p8:(256:Nat) ^ 8=18446744073709551616:=by decide +kernel
 obtain⟨hN,hN0,hid,hme,hm,hs,hr,hc,hS,hS4⟩:=h
 have l8:=stl_len (dig id) 8 0
 have lm:=stl_len (dig m) 1 0
 have lss:=stl_len (dig s) 2 0
 have lr:=stl_len (dig r) 2 0
 have lme:=stl_len (dig me) 1 0
 have lo:=outs_len (fun i=>S.getD i 0) 4
 have lc:=stl_len (dig c) 2 0
 have hl:bodyN id me m s r S c g=((((((stl (dig id) 8 0++stl (dig m) 1 0)++stl (dig s) 2 0)++stl (dig r) 2 0)++stl (dig me) 1 0)++outs (fun i=>S.getD i 0) 4)++stl (dig c) 2 0)++[if g then 1 else 0]:=by
  unfold bodyN
  rw[putB_dig (by rw[p8];exact hid),putB_dig (by rw[p1];exact hm),putB_dig (by rw[p2];exact hs),putB_dig (by rw[p2];exact hr),putB_dig (by rw[p1];exact hme),putB_dig (by rw[p2];exact hc)]
 have k1:=app_len l8 lm
 have k2:=app_len k1 lss
 have k3:=app_len k2 lr
 have k4:=app_len k3 lme
 have k5:=app_len k4 lo
 have k6:=app_len k5 lc
 have k7:=app_len k6 (show ([if g then 1 else 0]:List Nat).length=1 from rfl)
 obtain⟨l,hll⟩:∃ l,l=bodyN id me m s r S c g:=⟨_,rfl⟩
 rw[← hll] at hl hX
 have hlen:l.length=21:=by rw[hl];exact k7
 have hlt:∀ x ∈ l,x < 256:=by rw[hll];exact bodyN_lt _ _ _ _ _ _ _ _
 have hrt:=row_lt (N:=N) hlt
 have hbyte:∀ j,j < 64→byte X j=(rowOf N l).getD j 0:=fun j hj=>by
  rw[hX]
  unfold blkOf
  rw[byte_fillN (fun i=>getD_lt (l:=rowOf N l) hrt i),if_pos hj]
 have hh:=head_len (N:=N) (l:=l) (by omega)
 have hd8:=stl_len (dig N) 8 0
 have hro:rowOf N l=(headOf N l++stl (dig (sumOf N l)) 4 0)++stl (dig N) 8 0:=by unfold rowOf;rw[digs_stl,digs_stl]
 have hhd:headOf N l=stl (dig N) 8 0++(l++List.replicate (44 - l.length) 0):=by unfold headOf;rw[digs_stl]
 have ls:=stl_len (dig (sumOf N l)) 4 0
 have hk:=app_len hh ls
 have ob:∀ {j x:Nat},j < 64→(rowOf N l)[j]?=some x→byte X j=x:=fun {j x} hj hx=>by
  rw[hbyte j hj,List.getD_eq_getElem?_getD,hx];rfl
 have b0:∀ i,i < 8→byte X (0+i)=dig N i:=fun i hi=>ob (by omega) (by
  rw[hro,app_l hk (by omega),app_l hh (by omega),hhd,app_l hd8 (by omega),Nat.zero_add,stl_at _ _ _ _ hi,Nat.zero_add])
 have b56:∀ i,i < 8→byte X (56+i)=dig N i:=fun i hi=>ob (by omega) (by
  rw[hro,app_r hk,stl_at _ _ _ _ hi,Nat.zero_add])
 have b52:∀ i,i < 4→byte X (52+i)=dig (sumOf N l) i:=fun i hi=>ob (by omega) (by
  rw[hro,app_l hk (by omega),app_r hh,stl_at _ _ _ _ hi,Nat.zero_add])
 have bh:∀ j,j < 52→byte X j=(headOf N l).getD j 0:=fun j hj=>by
  rw[hbyte j (by omega),List.getD_eq_getElem?_getD,List.getD_eq_getElem?_getD,hro,app_l hk (by omega),app_l hh hj]
 have bl:∀ {j x:Nat},j < 21→l[j]?=some x→bc X j=x:=fun {j x} hj hx=>by
  show byte X (8+j)=x
  rw[bh _ (by omega),List.getD_eq_getElem?_getD,hhd,app_r hd8,List.getElem?_append_left (by omega),hx];rfl
 have bz:∀ j,21≤j→j < 44→bc X j=0:=fun j h1 h2=>by
  show byte X (8+j)=0
  rw[bh _ (by omega),List.getD_eq_getElem?_getD,hhd,app_r hd8,List.getElem?_append_right (by omega),List.getElem?_replicate,if_pos (by omega)];rfl
 have hsum:sumOf N l < 4294967296:=notN_lt (crcN_lt (fun i _=>getD_lt (head_lt hlt) i))
 have hcs:crcN (byte X) 52=crcN (fun i=>(headOf N l).getD i 0) 52:=by
  have:∀ {f g:Nat→Nat} (m:Nat),(∀ i,i < m→f i=g i)→crcN f m=crcN g m:=by
   intro f g m
   induction m with
   | zero=>intro _;rfl
   | succ m ih=>
    intro hh
    show crc.takeN (crcN f m) (f m)=crc.takeN (crcN g m) (g m)
    rw[ih (fun i hi=>hh i (by omega)),hh m (by omega)]
  exact this 52 bh
 have e1:sealN X=N:=leN_dig (by rw[p8];exact hN) b0
 have e2:leN (fun i=>byte X (56+i)) 8=N:=leN_dig (by rw[p8];exact hN) b56
 have e3:leN (fun i=>byte X (52+i)) 4=sumOf N l:=leN_dig (by show _ < 4294967296;exact hsum) b52
 have e4:notN (crcN (byte X) 52)=sumOf N l:=by rw[hcs];rfl
 have hE:sealE X=0:=by
  unfold sealE
  rw[e1,e2,e3,e4,if_neg (by intro h;rcases h with h | h;exact hN0 h;exact h rfl),if_neg (by intro h;exact h rfl)]
 have f0:fld X 0 8=id:=leN_dig (by rw[p8];exact hid) (fun i hi=>bl (by omega) (by
  rw[hl,app_l k6 (by omega),app_l k5 (by omega),app_l k4 (by omega),app_l k3 (by omega),app_l k2 (by omega),app_l k1 (by omega),app_l l8 (by omega),Nat.zero_add,stl_at _ _ _ _ hi,Nat.zero_add]))
 have f8:fld X 8 1=m:=leN_dig (by rw[p1];exact hm) (fun i hi=>bl (by omega) (by
  rw[hl,app_l k6 (by omega),app_l k5 (by omega),app_l k4 (by omega),app_l k3 (by omega),app_l k2 (by omega),app_l k1 (by omega),app_r l8,stl_at _ _ _ _ hi,Nat.zero_add]))
 have f9:fld X 9 2=s:=leN_dig (by rw[p2];exact hs) (fun i hi=>bl (by omega) (by
  rw[hl,app_l k6 (by omega),app_l k5 (by omega),app_l k4 (by omega),app_l k3 (by omega),app_l k2 (by omega),app_r k1,stl_at _ _ _ _ hi,Nat.zero_add]))
 have f11:fld X 11 2=r:=leN_dig (by rw[p2];exact hr) (fun i hi=>bl (by omega) (by
  rw[hl,app_l k6 (by omega),app_l k5 (by omega),app_l k4 (by omega),app_l k3 (by omega),app_r k2,stl_at _ _ _ _ hi,Nat.zero_add]))
 have f13:fld X 13 1=me:=leN_dig (by rw[p1];exact hme) (fun i hi=>bl (by omega) (by
  rw[hl,app_l k6 (by omega),app_l k5 (by omega),app_l k4 (by omega),app_r k3,stl_at _ _ _ _ hi,Nat.zero_add]))
 have f18:fld X 18 2=c:=leN_dig (by rw[p2];exact hc) (fun i hi=>bl (by omega) (by
  rw[hl,app_l k6 (by omega),app_r k5,stl_at _ _ _ _ hi,Nat.zero_add]))
 have f20:fld X 20 1=if g then 1 else 0:=leN_dig (by rw[p1];split<;>omega) (fun i hi=>by
  have hi0:i=0:=by omega
  subst hi0
  have:bc X (20+0)=if g then 1 else 0:=bl (by omega) (by rw[hl,app_r k6];rfl)
  rw[this]
  cases g<;>rfl)
 have fS:gSt X=S:=by
  have hst:∀ q,q < 4→bc X (14+q)=outB (fun i=>S.getD i 0) q:=fun q hq=>bl (by omega) (by
   rw[hl,app_l k6 (by omega),app_l k5 (by omega),app_r k4]
   have:outs (fun i=>S.getD i 0) 4=stl (outB fun i=>S.getD i 0) 4 0:=rfl
   rw[this,stl_at _ _ _ _ hq,Nat.zero_add])
  apply List.ext_getElem?
  intro i
  by_cases hi:i < 16
  ·show (stl (twoB fun i=>bc X (14+i)) 16 0)[i]?=_
   rw[stl_at _ _ _ _ hi,Nat.zero_add,two_at hS4 hst hi,getD_some (by omega)]
  ·rw[List.getElem?_eq_none (by show (stl (twoB fun i=>bc X (14+i)) 16 0).length≤i;rw[stl_len];omega),List.getElem?_eq_none (by omega)]
 have hXl:X < 256 ^ 64:=by rw[hX];exact fillN_lt (fun i=>getD_lt (l:=rowOf N l) hrt i) 64 (Nat.le_refl _)
 refine⟨hE,e1,f0,f13,f8,f9,f11,f18,fS,by rw[f20];cases g<;>rfl,by rw[f20];split<;>omega,fun i hi=>bz _ (by omega) (by omega),hXl⟩
end Go.Proofs.YtabebpemfinejaaGreat.draft
namespace Go.Proofs.YtabebpemfinejaaGreat.draft
open Go.Am
open disk (bx Fit A1 R1 Low)
noncomputable def c179:CFn:=⟨[.tmp (pp 4)],
 .seq (.reg [
 qo 2 (.m (boxF 64 (tt 0))) [pp 0],
 qo 3 (.m (boxF 64 (tt 1))) [pp 1],
 qo 4 (.p (S.get (ii 0))) []]) (
 .seq (.seq (.reg [
 qo 8 (.r (loadF (tt 2) 64 .bk)) [pp 2],
 qo 9 (.r (loadF (tt 3) 64 .bk)) [pp 3],
 qo 10 (.c (callF (ff 222) [(tt 8),(tt 9)])) [pp 8,pp 9],
 mv 7 10,
 qo 11 (.p (extF (tt 7) 0)) [pp 7],
 qo 12 (.p (extF (tt 7) 1)) [pp 7],
 mv 5 11,
 mv 6 12]) (
 .seq (.reg [
 mv 13 6,
 qo 14 (.p (unF .not (tt 13))) [pp 13],
 mv 15 14,
 mg 16 5 15 true,
 qg 17 (.p (eqcF false false [.int .i64] (tt 16) (ii 0))) 15 true [pp 16],
 qo 18 (.p (pickF (tt 15) (tt 17) (.c (.bool false)))) [pp 15,pp 17]]) (
 .cond (tt 18) (.seq (.reg [
 qo 4 (.p (S.get (ii 1))) []]) (
 .ret)) (.skip)))) (
 .seq (.reg [
 qo 4 (.p (S.get (ii 0))) []]) (
 .ret)))⟩
theorem c179_eq:fnOf Tryz.prog 179=some c179:=by kernel_rfl
noncomputable def c114:CFn:=⟨[.tmp (pp 4),.tmp (pp 5)],
 .seq (.reg [
 qo 4 (.p (S.get (ii 0))) [],
 qo 5 (.p (S.get (ii 0))) []]) (
 .seq (.reg [
 mv 10 0,
 qo 11 (.p (nilcF (tt 10))) [pp 10],
 qo 12 (.p (faddrF (tt 11) 0)) [pp 11],
 qo 13 (.r (loadF (tt 12) 1 .sc)) [pp 12],
 mv 14 1,
 qo 15 (.c (callF (ff 127) [(tt 13),(tt 14),(ii 0)])) [pp 13,pp 14],
 mv 9 15,
 qo 16 (.p (extF (tt 9) 0)) [pp 9],
 qo 17 (.p (extF (tt 9) 1)) [pp 9],
 qo 6 (.m (allocF 64 [.blk 0])) [],
 qn (.a (storeF (tt 6) (tt 16) 64)) [pp 6,pp 16],
 mv 7 17]) (
 .seq (.seq (.reg [
 mv 18 7,
 qo 19 (.p (eqcF true false [.int .i64] (tt 18) (ii 0))) [pp 18]]) (
 .cond (tt 19) (.seq (.reg [
 mv 20 7,
 qo 4 (.p (S.get (ii 0))) [],
 mv 5 20]) (
 .ret)) (.skip))) (
 .seq (.reg [
 mv 22 0,
 qo 23 (.p (nilcF (tt 22))) [pp 22],
 qo 24 (.p (faddrF (tt 23) 0)) [pp 23],
 qo 25 (.r (loadF (tt 24) 1 .sc)) [pp 24],
 mv 26 1,
 qo 27 (.c (callF (ff 127) [(tt 25),(tt 26),(ii 1)])) [pp 25,pp 26],
 mv 21 27,
 qo 28 (.p (extF (tt 21) 0)) [pp 21],
 qo 29 (.p (extF (tt 21) 1)) [pp 21],
 qo 8 (.m (allocF 64 [.blk 0])) [],
 qn (.a (storeF (tt 8) (tt 28) 64)) [pp 8,pp 28],
 mv 7 29]) (
 .seq (.reg [
 qo 30 (.r (loadF (tt 6) 64 .bk)) [pp 6],
 qo 31 (.r (loadF (tt 8) 64 .bk)) [pp 8],
 qo 32 (.c (callF (ff 179) [(tt 30),(tt 31)])) [pp 30,pp 31],
 mv 33 7,
 mv 4 32,
 mv 5 33]) (
 .ret)))))⟩
theorem c114_eq:fnOf Tryz.prog 114=some c114:=by kernel_rfl
noncomputable def c54:CFn:=⟨[.tmp (pp 4)],
 .seq (.reg [
 qo 4 (.p (S.get (ii 0))) []]) (
 .seq (.reg [
 mv 11 0,
 mv 12 1,
 qo 13 (.c (callF (ff 114) [(tt 11),(tt 12)])) [pp 11,pp 12],
 mv 10 13,
 qo 14 (.p (extF (tt 10) 0)) [pp 10],
 qo 15 (.p (extF (tt 10) 1)) [pp 10],
 mv 5 14,
 mv 6 15]) (
 .seq (.seq (.reg [
 mv 16 6,
 qo 17 (.p (eqcF true false [.int .i64] (tt 16) (ii 0))) [pp 16]]) (
 .cond (tt 17) (.seq (.reg [
 mv 18 6,
 mv 4 18]) (
 .ret)) (.skip))) (
 .seq (.regD [
 mv 20 0,
 qo 21 (.p (nilcF (tt 20))) [pp 20],
 qo 22 (.p (faddrF (tt 21) 2)) [pp 21],
 qo 23 (.r (loadF (tt 22) 1 .sc)) [pp 22],
 mv 24 0,
 qo 25 (.p (nilcF (tt 24))) [pp 24],
 qo 26 (.p (faddrF (tt 25) 1)) [pp 25],
 qo 27 (.r (loadF (tt 26) 1 .sc)) [pp 26],
 mv 28 1,
 mv 29 0,
 qo 30 (.p (nilcF (tt 29))) [pp 29],
 qo 31 (.p (faddrF (tt 30) 3)) [pp 30],
 qo 32 (.r (loadF (tt 31) 21 .ag)) [pp 31],
 qo 33 (.p (buildF [.int .u64 0,.int .i64 0,.int .i64 0,.int .i64 0,.int .i64 0,.int .u8 0,.int .u8 0,.int .u8 0,.int .u8 0,.int .u8 0,.int .u8 0,.int .u8 0,.int .u8 0,.int .u8 0,.int .u8 0,.int .u8 0,.int .u8 0,.int .u8 0,.int .u8 0,.int .u8 0,.int .u8 0,.int .i64 0,.bool false] .ag [(0,1,(tt 27)),(1,1,(tt 28)),(2,21,(tt 32))])) [pp 27,pp 28,pp 32],
 qo 34 (.c (callF (ff 115) [(tt 23),(tt 33)])) [pp 23,pp 33],
 mv 19 34,
 qo 35 (.p (extF (tt 19) 0)) [pp 19],
 qo 36 (.p (extF (tt 19) 1)) [pp 19],
 qo 7 (.m (allocF 64 [.blk 0])) [],
 qn (.a (storeF (tt 7) (tt 35) 64)) [pp 7,pp 35],
 mv 8 36] [0,1,3,7,0,16,48,112,0,0,512,1536,3584,8176,16383,32767,65535,65535,0,393215,1048575]) (
 .seq (.seq (.regD [
 mv 37 0,
 qo 38 (.p (nilcF (tt 37))) [pp 37],
 qo 39 (.p (faddrF (tt 38) 0)) [pp 38],
 qo 40 (.r (loadF (tt 39) 1 .sc)) [pp 39],
 mv 41 1,
 mv 42 5,
 qo 43 (.r (loadF (tt 7) 64 .bk)) [pp 7],
 qo 44 (.c (callF (ff 67) [(tt 40),(tt 41),(tt 42),(tt 43)])) [pp 40,pp 41,pp 42,pp 43],
 mv 9 44] [0,1,3,7,0,0,0,127,255]) (
 .seq (.reg [
 mv 45 9,
 qo 46 (.p (eqcF true false [.int .i64] (tt 45) (ii 0))) [pp 45]]) (
 .cond (tt 46) (.seq (.reg [
 mv 47 9,
 mv 4 47]) (
 .ret)) (.skip)))) (
 .seq (.reg [
 mv 48 0,
 qo 49 (.p (nilcF (tt 48))) [pp 48],
 qo 50 (.p (faddrF (tt 49) 0)) [pp 49],
 qo 51 (.r (loadF (tt 50) 1 .sc)) [pp 50],
 mv 52 1,
 qo 53 (.c (callF (ff 116) [(tt 51),(tt 52)])) [pp 51,pp 52],
 mv 4 53]) (
 .ret))))))⟩
theorem c54_eq:fnOf Tryz.prog 54=some c54:=by kernel_rfl
noncomputable def slotN (A B:Nat):Int:=if newW A B=some 0 then 1 else 0
noncomputable def newV (A B:Nat):V:=match newW A B with
 | none=>.tuple [.int .i64 0,.bool true]
 | some w=>.tuple [.int .i64 (w:Int),.bool false]
theorem newV_ok (A B:Nat) {lf:Nat} (hlf:60 < lf) (H:Heap):ret (callS Tryz.prog S0 lf 60 222 [.blk A,.blk B] H) fun w H'=>w=newV A B∧Turns Z H H':=by
 obtain⟨v,H',e,t,h⟩:=newest_ok H A B hlf 54
 refine⟨v,H',e,?_,t⟩
 unfold newV
 rcases h with ⟨h,rfl⟩ | ⟨h,rfl⟩ | ⟨h,rfl⟩<;>rw[h]<;>rfl
theorem newW_cases (A B:Nat):newW A B=none∨newW A B=some 1∨newW A B=some 0:=by
 unfold newW
 split
 ·exact .inl rfl
 ·split
  ·exact .inr (.inl rfl)
  ·exact .inr (.inr rfl)
theorem one_cast:((1:Nat):Int)=1:=rfl
theorem zero_cast:((0:Nat):Int)=0:=rfl
structure HB (G:Heap) (h b:Bk) (id ev m s r:Int) (S:List Nat) (c:Int) (g:Bool) (B:disk.Bn):Prop where
 hull:HullAt G h b id ev m s r S c g
 bench:G.get b=some (bx false B)
 old:G.Old b
 fit:Fit B
theorem HB.turns {G G':Heap} {h b:Bk} {id ev m s r:Int} {S:List Nat} {c:Int} {g:Bool} {B:disk.Bn} (x:HB G h b id ev m s r S c g B) (t:Turns Z G G'):HB G' h b id ev m s r S c g B:=
 ⟨x.hull.turns t,(t.same b x.old (fun h=>h)).trans x.bench,x.old.mono t.next,x.fit⟩
theorem HB.ne {G:Heap} {h b:Bk} {id ev m s r:Int} {S:List Nat} {c:Int} {g:Bool} {B:disk.Bn} (x:HB G h b id ev m s r S c g B):(h=b)=False:=by
 simp only[eq_iff_iff,iff_false]
 intro e
 have h1:=x.hull.own
 rw[e,x.bench] at h1
 cases h1
theorem put_sb {S:List Nat} (hS:S.length=16) (id me m s r c:Int) (g:Bool):Go.Am.put (V.int .u64 id::V.int .i64 me::zros) 2 (rcells m s r S c g)=some (scells id me m s r S c g):=by
 match S,hS with
 | [_,_,_,_,_,_,_,_,_,_,_,_,_,_,_,_],_=>rfl
noncomputable def slotV (B:disk.Bn) (d:Int):V:=if B.rc d 0=0 then .tuple [.int .i64 (slotN (B.read d 0) (B.read d 1)),.int .i64 (B.rc d 1)] else .tuple [.int .i64 0,.int .i64 (B.rc d 0)]
section
variable {lf K:Nat} (hlf:1000 < lf)
include hlf
theorem uslot (G:Heap) (A B:Nat) (n:Nat):ret (U lf K (n+2) 179 [.blk A,.blk B] G) fun v G'=>v=.int .i64 (slotN A B)∧Turns Z G G':=by
 refine ret_callU rfl rfl c179_eq ?_
 have e:∀ H:Heap,U lf K (n+1) 222 [.blk A,.blk B] H=_:=fun H=>qp_super_newest (newV_ok A B (by omega))
 rcases newW_cases A B with h | h | h
 all_goals
  simp only[c179,newV,slotN,h,e,one_cast,zero_cast,hv,ldO_one,stO_one,sy,tup,↓reduceIte,zA,zG,zC,zD,zF,zE,zB,zH,reduceCtorEq]
  exact⟨trivial,.inr trivial,_,rfl,rfl,((Turns.add Z G _).addm _).skip _⟩
variable {G:Heap} {h b:Bk} {id ev m s r:Int} {S:List Nat} {c:Int} {g:Bool} {B:disk.Bn} (hh:HB G h b id ev m s r S c g B)
include hh
theorem uhslot (d:Int) (n:Nat):ret (U lf K (n+3) 114 [.ptr (some ⟨h,0⟩),.int .i64 d] G) fun v G'=>v=slotV B d∧Turns Z G G':=by
 have l0:=hl_b hh.hull
 rw[ld_get,hh.hull.own] at l0
 have ho:=hh.hull.old
 have bo:=hh.old
 have e:∀(H:Heap) (j:Int),H.get b=some (bx false B)→U lf K (n+2) 127 [.ptr (some ⟨b,0⟩),.int .i64 d,.int .i64 j] H=_:=fun H j hB=>qRead hB hh.fit d j
 obtain⟨F,eF,tF⟩:=ret_fun (fun H=>uslot (K:=K) hlf H (B.read d 0) (B.read d 1) n)
 refine ret_callU rfl rfl c114_eq ?_
 by_cases h0:B.rc d 0=0
 ·have z0:(B.rc d 0==0)=true:=by simp[h0]
  simp (maxDischargeDepth:=12) only[c114,l0,hh.hull.own,hh.bench,e,eF,z0,ho.ne,bo.ne,hv,ldO_one,stO_one,sy,tup,↓reduceIte,zA,zG,zC,zD,zF,zE,zB,zH,reduceCtorEq]
  refine⟨trivial,.inr trivial,_,rfl,by unfold slotV;rw[if_pos h0],?_⟩
  repeat (first | exact Turns.refl _ _ | apply Turns.skip | apply Turns.addm | apply Turns.setb | apply Turns.setl | apply Turns.setr | refine Turns.setn ?_ _ (by omega) _ | refine Turns.trans ?_ (tF _))
 ·have z0:(B.rc d 0==0)=false:=by simp[h0]
  simp (maxDischargeDepth:=12) only[c114,l0,hh.hull.own,hh.bench,e,z0,ho.ne,bo.ne,hv,ldO_one,stO_one,sy,tup,↓reduceIte,zA,zG,zC,zD,zF,zE,zB,zH,reduceCtorEq]
  refine⟨trivial,.inr trivial,_,rfl,by unfold slotV;rw[if_neg h0],?_⟩
  repeat (first | exact Turns.refl _ _ | apply Turns.skip | apply Turns.addm | apply Turns.setb | apply Turns.setl | apply Turns.setr | refine Turns.setn ?_ _ (by omega) _ | refine Turns.trans ?_ (tF _))
theorem uhput_dead {d:Int} (h9:B.rc d 0≠0) (n:Nat):ret (U lf K (n+4) 54 [.ptr (some ⟨h,0⟩),.int .i64 d] G) fun v G'=>v=.int .i64 (B.rc d 0)∧Turns Z G G':=by
 obtain⟨v,G1,e1,rfl,t1⟩:=uhslot hlf hh d n (K:=K)
 have z0:(B.rc d 0==0)=false:=by simp[h9]
 have hs:slotV B d=.tuple [.int .i64 0,.int .i64 (B.rc d 0)]:=if_neg h9
 rw[hs] at e1
 refine ret_callU rfl rfl c54_eq ?_
 simp (maxDischargeDepth:=12) only[c54,e1,z0,hv,ldO_one,stO_one,sy,tup,↓reduceIte,zA,zG,zC,zD,zF,zE,zB,zH,reduceCtorEq]
 exact⟨trivial,.inr trivial,_,rfl,rfl,t1⟩
theorem uhput_ok {i:Nat} {N ID:Nat} (hev:ev=(N:Int)) (hd:id=(ID:Int)) (hN:N < 18446744073709551616) (hI:ID < 18446744073709551616) (h1:evt N=true) (h2:smay (ID:Int) (i:Int) m s r S c) (hr0:B.rc i 0=0) (hr1:B.rc i 1=0) {sl:Int} (hsl:slotN (B.read i 0) (B.read i 1)=sl)
  {X:Nat} (hX:supBlk N ID i m s r S c g=X) (hw:B.wc i sl=0) (hf1:Fit (B.write i sl X)) (hw1:(B.write i sl X).wc i 0=0) (n:Nat):ret (U lf K (n+4) 54 [.ptr (some ⟨h,0⟩),.int .i64 (i:Int)] G) fun v G'=>v=.int .i64 0∧G'.get b=some (bx false ((B.write i sl X).flush i))∧Turns (fun c=>c=b) G G':=by
 obtain⟨v,G1,e1,rfl,t1⟩:=uhslot hlf hh i n (K:=K)
 have hs:slotV B i=.tuple [.int .i64 sl,.int .i64 0]:=by unfold slotV;rw[if_pos hr0,hsl,hr1]
 rw[hs] at e1
 have hh1:HB G1 h b id ev m s r S c g B:=hh.turns t1
 have l0:=hl_b hh1.hull
 have l1:=hl_id hh1.hull
 have l2:=hl_ev hh1.hull
 have l3:=hl_r hh1.hull
 rw[ld_get,hh1.hull.own] at l0 l1 l2 l3
 have ho:=hh1.hull.old
 have bo:=hh1.old
 have hp:=put_sb hh.hull.len id (i:Int) m s r c g
 have hrw:=r_width hh.hull.len m s r c g
 have hsw:=s_width hh.hull.len id (i:Int) m s r c g
 subst hev hd
 have eP:∀ H:Heap,U lf K (n+3) 115 [.int .u64 (N:Int),sup ID i m s r S c g] H=some (.v (.tuple [.blk X,.int .i64 0]),H.skip (K+2)):=fun H=>qp_super_Put (fun H=>by
  obtain⟨v,H',e,t,⟨_,_,rfl⟩ | ⟨hn,_⟩⟩:=pput8_ok H (g:=g) hN hI hh.hull.len (lf:=lf) (by omega) 54 (me:=i) (m:=m) (s:=s) (r:=r) (c:=c)
  ·exact⟨_,H',e,by rw[← hX],t⟩
  ·exact absurd ⟨h1,h2⟩ hn)
 have eW:∀ H:Heap,H.get b=some (bx false B)→U lf K (n+3) 67 [.ptr (some ⟨b,0⟩),.int .i64 (i:Int),.int .i64 sl,.blk X] H=_:=fun H hB=>qWrite hB hh.fit i sl X
 have eF:∀ H:Heap,H.get b=some (bx false (B.write i sl X))→U lf K (n+3) 116 [.ptr (some ⟨b,0⟩),.int .i64 (i:Int)] H=_:=fun H hB=>qFlush hB hf1 i
 rw[hw] at eW
 rw[hw1] at eF
 have hne:=hh1.ne
 unfold zros at hp
 unfold sup at eP
 refine ret_callU rfl rfl c54_eq ?_
 simp (maxDischargeDepth:=12) only[c54,e1,l0,l1,l2,l3,hh1.hull.own,hh1.bench,eP,eW,eF,ho.ne,bo.ne,hne,hp,hsw,hrw,hv,ldO_one,stO_one,sy,tup,↓reduceIte,zA,zG,zC,zD,zF,zE,zB,zH,reduceCtorEq]
 rw[endD_ok (by kernel_rfl) (by kernel_rfl)]
 simp (maxDischargeDepth:=12) only[l0,hh1.hull.own,hh1.bench,eW,eF,ho.ne,bo.ne,hne,hv,ldO_one,stO_one,sy,tup,↓reduceIte,zA,zG,zC,zD,zF,zE,zB,zH,reduceCtorEq]
 rw[endD_ok (by kernel_rfl) (by kernel_rfl)]
 simp (maxDischargeDepth:=12) only[l0,hh1.hull.own,hh1.bench,eW,eF,ho.ne,bo.ne,hne,hv,ldO_one,stO_one,sy,tup,↓reduceIte,zA,zG,zC,zD,zF,zE,zB,zH,reduceCtorEq]
 refine⟨trivial,.inr trivial,_,rfl,rfl,trivial,?_⟩
 refine(t1.wide (fun c hc=>hc.elim)).trans ?_
 repeat (first | exact Turns.refl _ _ | apply Turns.skip | apply Turns.addm | apply Turns.setb | apply Turns.setl | apply Turns.setr | refine Turns.setn ?_ _ (by omega) _ | refine Turns.trans ?_ (tF _))
end
end Go.Proofs.YtabebpemfinejaaGreat.draft
namespace Go.Proofs.YtabebpemfinejaaGreat.draft
open Go.Am
open disk (Fit Bok Dev Bn Good)
def sect (B:Bn) (i j:Nat):Nat:=(B.dev (i:Int)).S.getD j 0
theorem sup_back {M N ID:Nat} {s r:Int} {S:List Nat} {c:Int} (h1:evt (N:Int)=true) (hI:ID < 18446744073709551616) (hM:M≤16) {j:Nat} (hmay:smay (ID:Int) (j:Int) (M:Int) s r S c) (hS:S.length=16) (g:Bool) {X:Nat} (hX0:X=supBlk N ID j M s r S c g) :
  getE X=0∧sealN X=N∧fld X 0 8=ID∧fld X 13 1=j∧fld X 8 1=M∧((fld X 9 2:Nat):Int)=s∧((fld X 11 2:Nat):Int)=r∧((fld X 18 2:Nat):Int)=c∧gSt X=S∧(((fld X 20 1:Nat):Int)==1)=g∧X < 256 ^ 64:=by
 obtain⟨m1,m2,m3,m4⟩:=hmay
 obtain⟨bm,bs,br⟩:=may_t m4.1
 clear bm
 obtain⟨f1,hok,f3,hc0,hc1,f6⟩:=m4
 unfold draft.evt at h1
 simp only[Bool.and_eq_true,decide_eq_true_eq] at h1
 have hS4:∀ i,i < 16→S.getD i 0 < 4:=fun i hi=>by
  have hiS:i < S.length:=by omega
  have:=(hok i hi S[i] (by rw[List.getElem?_eq_getElem hiS])).1
  rw[List.getD,List.getElem?_eq_getElem hiS]
  show S[i] < 4
  omega
 have hb:Back N ID j M s.toNat r.toNat S c.toNat g:=⟨by omega,by omega,hI,by omega,by omega,by omega,by omega,by omega,hS,hS4⟩
 have hX:X=blkOf N (bodyN ID j M s.toNat r.toNat S c.toNat g):=by
  rw[hX0]
  unfold supBlk
  simp
 obtain⟨a1,a2,a3,a4,a5,a6,a7,a8,a9,a10,a11,a12,a13⟩:=back_ok hb hX
 have e6:((fld X 9 2:Nat):Int)=s:=by rw[a6];omega
 have e7:((fld X 11 2:Nat):Int)=r:=by rw[a7];omega
 have e8:((fld X 18 2:Nat):Int)=c:=by rw[a8];omega
 refine⟨?_,a2,a3,a4,a5,e6,e7,e8,a9,a10,a13⟩
 unfold getE
 rw[if_neg (by rw[a1];decide),if_pos]
 refine⟨?_,?_,a11,a12⟩
 ·rw[a2];unfold draft.evt;simp only[Bool.and_eq_true,decide_eq_true_eq];exact h1
 ·rw[a3,a4,a5,e6,e7,e8,a9]
  exact⟨m1,m2,m3,f1,hok,f3,hc0,hc1,f6⟩
structure Calm (m k:Nat) (B:Bn):Prop where
 ok:Bok k B
 ar:B.ar=0
 dk:B.dk=false
 len:B.l.length=m+1
 le:m≤16
 sz:∀ i:Nat,i < m→2≤(B.dev i).S.length
 lo:∀ i:Nat,i < m→∀ x ∈ (B.dev i).L,2≤x.1
 sm:∀ i j:Nat,i < m→j < 2→sect B i j < 256 ^ 64
theorem dev_at {B:Bn} {i:Nat} (h:i < B.l.length):B.dev (i:Int)=B.l[i]:=by
 unfold Bn.dev
 simp[List.getD,h]
theorem dev_set {B:Bn} {i j:Nat} (hj:j < B.l.length) (D:Dev) (st ar:Int) (dk:Bool):(⟨B.l.set i D,st,ar,dk⟩:Bn).dev (j:Int)=if j=i then D else B.dev (j:Int):=by
 rw[dev_at (by simpa using hj),dev_at hj]
 simp only[List.getElem_set]
 by_cases e:i=j
 ·simp[e]
 ·simp[e,Ne.symm e]
def dead (B:Bn) (i:Nat):Bool:=(B.dev (i:Int)).dead
noncomputable def cont (B:Bn) (i q:Nat):Nat:=disk.readN (B.dev (i:Int)) q
section
variable {m k:Nat} {B:Bn} (h:Calm m k B)
include h
theorem Calm.fit (hk:k≤900):Fit B:=h.ok.fit hk (fun e=>by have:=h.len;rw[e] at this;simp at this) (by have:=h.len;have:=h.le;omega)
theorem Calm.tc {i:Nat} (hi:i < m):B.tc (i:Int)=0:=by
 unfold Bn.tc disk.tcode
 have:=h.len
 rw[if_pos (by omega)]
theorem Calm.lc {i:Nat} (hi:i < m):B.lc (i:Int)=0:=by
 unfold Bn.lc
 rw[h.dk,if_neg (by decide),h.tc hi]
theorem Calm.rc {i j:Nat} (hi:i < m) (hj:j < 2):B.rc (i:Int) (j:Int)=if dead B i=true then 9 else 0:=by
 unfold Bn.rc
 rw[if_pos (h.lc hi)]
 unfold disk.code dead
 have:=h.sz i hi
 rw[if_neg (by omega)]
theorem Calm.read {i j:Nat} (hi:i < m) (hj:j < 2) (hd:dead B i=false):B.read (i:Int) (j:Int)=sect B i j:=by
 unfold Bn.read
 rw[if_pos (h.lc hi)]
 have:=h.rc hi hj
 unfold Bn.rc at this
 rw[if_pos (h.lc hi),hd,if_neg (by decide)] at this
 unfold Dev.read
 rw[if_pos this]
 unfold disk.readN
 rw[show (((j:Nat):Int).toNat)=j from rfl,disk.look_none (fun w hw e=>by have:=h.lo i hi w hw;omega)]
 rfl
theorem Calm.at' {i:Nat} (hi:i < m):∀ w ∈ (B.dev (i:Int)).L,w.1 < (B.dev (i:Int)).S.length:=by
 have hl:=h.len
 rw[dev_at (show i < B.l.length by omega)]
 obtain⟨n,_,w⟩:=h.ok.wf _ (List.getElem_mem (show i < B.l.length by omega))
 exact w.ok
def wrB (B:Bn) (i:Nat) (sl:Nat) (X:Nat):Bn:=(B.write (i:Int) (sl:Int) X).flush (i:Int)
structure Wrote (m:Nat) (B:Bn) (i sl X:Nat) (B':Bn):Prop where
 oth:∀ j:Nat,j < m+1→j≠i→B'.dev (j:Int)=B.dev (j:Int)
 len:(B'.dev (i:Int)).S.length=(B.dev (i:Int)).S.length
 dd:dead B' i=false
 sec:∀ t,t < 2→sect B' i t=if t=sl then X else sect B i t
 cnt:∀ q,2≤q→cont B' i q=cont B i q
theorem Calm.put {i sl:Nat} (hi:i < m) (hsl:sl < 2) (hd:dead B i=false) {X:Nat} (hXs:X < 256 ^ 64) :
  B.wc (i:Int) (sl:Int)=0∧(B.write (i:Int) (sl:Int) X).wc (i:Int) 0=0∧Bok (k+1) (B.write (i:Int) (sl:Int) X)∧(B.write (i:Int) (sl:Int) X).l.length=m+1 ∧
   Calm m (k+2) (wrB B i sl X)∧Wrote m B i sl X (wrB B i sl X):=by
 have hlen:=h.len
 have hr:=h.rc hi hsl
 rw[hd,if_neg (by decide)] at hr
 have hc:disk.code (B.dev (i:Int)) (sl:Int)=0:=by
  unfold Bn.rc at hr
  rw[if_pos (h.lc hi)] at hr
  exact hr
 have hin:=h.at' hi
 have hlo:=h.lo i hi
 have hsz:=h.sz i hi
 obtain⟨S,L,dd0⟩:∃ S L,B.dev (i:Int)=⟨S,L,false⟩:=⟨_,_,by rw[← hd];rfl⟩
 have e1:B.write (i:Int) (sl:Int) X=⟨B.l.set i ⟨S,L++[(sl,X)],false⟩,B.st+1,0,false⟩:=by
  unfold Bn.write
  rw[if_pos hr]
  unfold Bn.step
  rw[h.ar,if_neg (by decide),h.dk]
  unfold Dev.write
  rw[if_pos hc,dd0]
  rfl
 have hw:B.wc (i:Int) (sl:Int)=0:=by
  unfold Bn.wc Bn.sc
  rw[if_pos hr,h.ar,if_neg (by decide)]
 have ok1:=h.ok.write (i:Int) (sl:Int) X
 have len1:(B.write (i:Int) (sl:Int) X).l.length=m+1:=by rw[disk.write_len];exact hlen
 have ok2:=ok1.flush (i:Int)
 have dv1:∀ j:Nat,j < m+1→(B.write (i:Int) (sl:Int) X).dev (j:Int)=if j=i then⟨S,L++[(sl,X)],false⟩ else B.dev (j:Int):=fun j hj=>by
  rw[e1];exact dev_set (by omega) _ _ _ _
 have ar1:(B.write (i:Int) (sl:Int) X).ar=0:=by rw[e1]
 have dk1:(B.write (i:Int) (sl:Int) X).dk=false:=by rw[e1]
 generalize hB1:B.write (i:Int) (sl:Int) X=B1 at *
 have tc1:B1.tc (i:Int)=0:=by
  unfold Bn.tc disk.tcode
  rw[if_pos (by omega)]
 have lc1:B1.lc (i:Int)=0:=by
  unfold Bn.lc
  rw[dk1,if_neg (by decide),tc1]
 have di:=dv1 i (by omega)
 rw[if_pos rfl] at di
 rw[dd0] at hsz hin hlo
 dsimp only at hsz hin hlo
 have hr1:B1.rc (i:Int) 0=0:=by
  unfold Bn.rc disk.code
  rw[if_pos lc1,di]
  rw[if_neg (by dsimp only;omega)]
  rfl
 have hw1:B1.wc (i:Int) 0=0:=by
  unfold Bn.wc Bn.sc
  rw[if_pos hr1,ar1,if_neg (by decide)]
 have hfl:disk.flushS S (L++[(sl,X)])=(disk.flushS S L).set sl X:=by
  unfold disk.flushS
  rw[List.foldl_append];rfl
 have fl:=disk.flushS_length L S
 have e2:wrB B i sl X=⟨B1.l.set i ⟨(disk.flushS S L).set sl X,[],false⟩,B1.st+1,0,false⟩:=by
  unfold wrB
  rw[hB1]
  unfold Bn.flush
  rw[if_pos hr1]
  unfold Bn.step
  rw[ar1,if_neg (by decide),dk1,di,← hfl]
  rfl
 have dv2:∀ j:Nat,j < m+1→(wrB B i sl X).dev (j:Int)=if j=i then⟨(disk.flushS S L).set sl X,[],false⟩ else B.dev (j:Int):=fun j hj=>by
  rw[e2,dev_set (by omega)]
  by_cases e:j=i
  ·rw[if_pos e,if_pos e]
  ·rw[if_neg e,if_neg e,dv1 j hj,if_neg e]
 have di2:=dv2 i (by omega)
 rw[if_pos rfl] at di2
 have hsec:∀ t,t < 2→sect (wrB B i sl X) i t=if t=sl then X else sect B i t:=fun t ht=>by
  unfold sect
  rw[di2,dd0]
  dsimp only
  simp only[List.getD]
  by_cases e2:t=sl
  ·subst e2
   rw[List.getElem?_set_self (by omega),if_pos rfl];rfl
  ·rw[List.getElem?_set_ne (Ne.symm e2),if_neg e2]
   have:=disk.look_flush (n:=t) hin
   rw[disk.look_none (fun w hw e=>by have:=hlo w hw;omega)] at this
   exact this
 refine⟨hw,hw1,ok1,len1,⟨?_,by rw[e2],by rw[e2],?_,h.le,fun j hj=>?_,fun j hj=>?_,fun j t hj ht=>?_⟩,⟨fun j hj hne=>?_,?_,?_,hsec,fun q hq=>?_⟩⟩
 ·unfold wrB;rw[hB1];exact ok2
 ·rw[e2];simpa using len1
 ·rw[dv2 j (by omega)]
  by_cases e:j=i
  ·rw[if_pos e];simp only[List.length_set];omega
  ·rw[if_neg e];exact h.sz j hj
 ·rw[dv2 j (by omega)]
  by_cases e:j=i
  ·rw[if_pos e];intro x hx;cases hx
  ·rw[if_neg e];exact h.lo j hj
 ·by_cases e:j=i
  ·rw[e,hsec t ht]
   split
   ·exact hXs
   ·exact h.sm i t hi ht
  ·unfold sect
   rw[dv2 j (by omega),if_neg e];exact h.sm j t hj ht
 ·rw[dv2 j hj,if_neg hne]
 ·rw[di2,dd0];simp only[List.length_set];exact fl
 ·unfold dead;rw[di2]
 ·unfold cont
  rw[di2,dd0,show disk.readN ⟨S,L,false⟩ q=_ from disk.read_flush (D:=⟨S,L,false⟩) hin q]
  show ((disk.flushS S L).set sl X).getD q 0=_
  simp only[List.getD]
  rw[List.getElem?_set_ne (by omega)]
end
def upto (N:Nat) (X:Nat):Prop:=getE X≠0∨sealN X≤N
def hasX (B:Bn) (i:Nat) (N X:Nat):Prop:=∃ j,j < 2∧sect B i j=X∧upto N (sect B i (1 - j))
noncomputable def slotI (A B:Nat):Nat:=if newW A B=some 0 then 1 else 0
theorem slotI_lt (A B:Nat):slotI A B < 2:=by unfold slotI;split<;>decide
theorem slotI_eq (A B:Nat):slotN A B=((slotI A B:Nat):Int):=by unfold slotN slotI;split<;>rfl
theorem hasX.new {B:Bn} {i N X:Nat} (h:hasX B i N X) (h0:getE X=0) (hN:sealN X=N+1):newC (sect B i 0) (sect B i 1)=some X:=by
 have hn:numOf X=N+1:=by unfold numOf;rw[if_pos h0,hN]
 obtain⟨j,hj,h1,h2⟩:=h
 have lt:getE (sect B i (1 - j))=0→numOf (sect B i (1 - j))≤N:=fun h=>by
  unfold numOf
  rw[if_pos h]
  rcases h2 with h' | h'
  ·exact absurd h h'
  ·exact h'
 have hj':j=0∨j=1:=by omega
 rcases hj' with rfl | rfl
 ·rw[h1]
  have lt:getE (sect B i 1)=0→numOf (sect B i 1)≤N:=lt
  unfold newC newW
  rw[if_neg (fun h=>h.1 h0),if_neg (fun h=>by
   rcases h with h | ⟨h3,h4⟩
   ·exact h h0
   ·have:=lt h3;omega)]
  rfl
 ·rw[h1]
  have lt:getE (sect B i 0)=0→numOf (sect B i 0)≤N:=lt
  unfold newC newW
  rw[if_neg (fun h=>h.2 h0)]
  by_cases hA0:getE (sect B i 0)=0
  ·rw[if_pos (.inr ⟨h0,by have:=lt hA0;omega⟩)];rfl
  ·rw[if_pos (.inl hA0)];rfl
theorem hasX.upto {B:Bn} {i N X:Nat} (h:hasX B i N X) (hN:sealN X=N+1):∀ j,j < 2→upto (N+1) (sect B i j):=by
 obtain⟨k,hk,h1,h2⟩:=h
 intro j hj
 by_cases e:j=k
 ·subst e;rw[h1];exact .inr (by omega)
 ·have:j=1 - k:=by omega
  rw[this]
  rcases h2 with h2 | h2
  ·exact .inl h2
  ·exact .inr (by omega)
theorem wrB_has {m k:Nat} {B:Bn} (h:Calm m k B) {i:Nat} (hi:i < m) (hd:dead B i=false) {N X:Nat} (hXs:X < 256 ^ 64) (hu:∀ j,j < 2→upto N (sect B i j)) :
  hasX (wrB B i (slotI (sect B i 0) (sect B i 1)) X) i N X:=by
 have hsl:=slotI_lt (sect B i 0) (sect B i 1)
 obtain⟨_,_,_,_,_,hdv⟩:=h.put hi hsl hd hXs
 generalize slotI (sect B i 0) (sect B i 1)=sl at *
 refine⟨sl,hsl,?_,?_⟩
 ·rw[hdv.sec sl hsl,if_pos rfl]
 ·rw[hdv.sec _ (by omega),if_neg (by omega)]
  exact hu _ (by omega)
theorem wrB_other {m k:Nat} {B:Bn} (h:Calm m k B) {i:Nat} (hi:i < m) (hd:dead B i=false) {sl:Nat} (hsl:sl < 2) {X:Nat} (hXs:X < 256 ^ 64) {j:Nat} (hj:j < m) (hne:j≠i):(wrB B i sl X).dev (j:Int)=B.dev (j:Int):=by
 obtain⟨_,_,_,_,_,hdv⟩:=h.put hi hsl hd hXs
 exact hdv.oth j (by omega) hne
theorem wrB_dead {m k:Nat} {B:Bn} (h:Calm m k B) {i:Nat} (hi:i < m) (hd:dead B i=false) {sl:Nat} (hsl:sl < 2) {X:Nat} (hXs:X < 256 ^ 64) {j:Nat} (hj:j < m):dead (wrB B i sl X) j=dead B j:=by
 obtain⟨_,_,_,_,_,hdv⟩:=h.put hi hsl hd hXs
 by_cases e:j=i
 ·rw[e,hd];exact hdv.dd
 ·unfold dead
  rw[hdv.oth j (by omega) e]
end Go.Proofs.YtabebpemfinejaaGreat.draft
