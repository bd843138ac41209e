import Derived.Test.YtabebpemfinejaaGreatG2
import Derived.Test.YtabebpemfinejaaGreatAmList
import Derived.Test.YtabebpemfinejaaGreatG3
set_option linter.unusedVariables false
set_option linter.unusedSimpArgs false
set_option maxRecDepth 10000
open Nat renaming reduceEqDiff → zA, reduceLeDiff → zB, reduceSub → zC, reduceMul → zD, reduceMod → zE, reduceDiv → zF, reduceAdd → zG
open Int renaming reduceBEq → zH
namespace Go.Proofs.YtabebpemfinejaaGreat.draft
open Go.Am
noncomputable def c187_l0:C:=.seq (.seq (.reg [
 mv 14 7,
 mv 15 1,
 qo 16 (.p (arF .lss (tt 14) (tt 15))) [pp 14,pp 15]]) (
 .cond (tt 16) (.skip) (.exit 0))) (
 .seq (.block 1 (.seq (.reg [
 mv 19 6,
 mv 20 0,
 qo 21 (.p (arF .rem (tt 20) (.c (.int .u64 256)))) [pp 20],
 qo 22 (.p (convF .u8 (tt 21))) [pp 21],
 qo 23 (.m (bsliceF 1 1 [.int .u8 0] [(0,1,(tt 22))])) [pp 22],
 qo 24 (.a (appF 1 1 (tt 19) (tt 23))) [pp 19,pp 23],
 mv 6 24]) (
 .reg [
 mv 25 0,
 qo 26 (.p (arF .quo (tt 25) (.c (.int .u64 256)))) [pp 25],
 mv 0 26]))) (
 .reg [
 mv 17 7,
 qo 18 (.p (arF .add (tt 17) (ii 1))) [pp 17],
 mv 7 18]))
noncomputable def c187:CFn:=⟨[.tmp (pp 4),.tmp (pp 5)],
 .seq (.reg [
 qo 4 (.p (S.get (.c (.slice none 0 0 0)))) [],
 qo 5 (.p (S.get (ii 0))) []]) (
 .seq (.seq (.reg [
 mv 8 1,
 qo 9 (.p (arF .lss (tt 8) (ii 1))) [pp 8],
 mv 10 9,
 mg 11 1 10 false,
 qg 12 (.p (arF .gtr (tt 11) (ii 8))) 10 false [pp 11],
 qo 13 (.p (pickF (tt 10) (.c (.bool true)) (tt 12))) [pp 10,pp 12]]) (
 .cond (tt 13) (.seq (.reg [
 qo 4 (.p (S.get (.c (.slice none 0 0 0)))) [],
 qo 5 (.p (S.get (ii 2))) []]) (
 .ret)) (.skip))) (
 .seq (.reg [
 qo 6 (.p (S.get (.c (.slice none 0 0 0)))) []]) (
 .seq (.seq (.reg [
 qo 7 (.p (S.get (ii 0))) []]) (
 .block 0 (.loop c187_l0))) (
 .seq (.seq (.reg [
 mv 27 0,
 qo 28 (.p (arF .gtr (tt 27) (.c (.int .u64 0)))) [pp 27]]) (
 .cond (tt 28) (.seq (.reg [
 qo 4 (.p (S.get (.c (.slice none 0 0 0)))) [],
 qo 5 (.p (S.get (ii 2))) []]) (
 .ret)) (.skip))) (
 .seq (.reg [
 mv 29 6,
 mv 4 29,
 qo 5 (.p (S.get (ii 0))) []]) (
 .ret))))))⟩
theorem c187_eq:fnOf Tryz.prog 187=some c187:=by kernel_rfl
noncomputable def c188:CFn:=⟨[.tmp (pp 6)],
 .seq (.reg [
 qo 6 (.p (S.get (.c (.slice none 0 0 0)))) []]) (
 .seq (.reg [
 mv 10 1,
 mv 11 2,
 qo 12 (.c (callF (ff 187) [(tt 10),(tt 11)])) [pp 10,pp 11],
 mv 9 12,
 qo 13 (.p (extF (tt 9) 0)) [pp 9],
 qo 14 (.p (extF (tt 9) 1)) [pp 9],
 mv 7 13,
 mv 8 14]) (
 .seq (.reg [
 mv 15 0,
 mv 16 7,
 qo 17 (.a (appF 1 1 (tt 15) (tt 16))) [pp 15,pp 16],
 mv 6 17]) (
 .ret)))⟩
theorem c188_eq:fnOf Tryz.prog 188=some c188:=by kernel_rfl
def rowsN (l:List Nat):List (List V):=l.map fun c:Nat=>[V.int .u8 (c:Int)]
theorem rowsN_len (l:List Nat):(rowsN l).length=l.length:=by unfold rowsN;simp
theorem rowsN_app (l k:List Nat):rowsN (l++k)=rowsN l++rowsN k:=by unfold rowsN;simp
def digs (n:Nat):Nat→List Nat
 | 0=>[]
 | i+1=>digs n i++[n / 256 ^ i % 256]
theorem digs_len (n:Nat):∀ i,(digs n i).length=i
 | 0=>rfl
 | i+1=>by simp[digs,digs_len n i]
theorem digs_lt (n:Nat):∀ i,∀ x ∈ digs n i,x < 256
 | 0,x,h=>by cases h
 | i+1,x,h=>by
  simp only[digs,List.mem_append,List.mem_singleton] at h
  rcases h with h | h
  ·exact digs_lt n i x h
  ·subst h;exact Nat.mod_lt _ (by decide)
theorem rem_u64 (a b:Nat) (hb:b≠0):arith .rem (.int .u64 (a:Int)) (.int .u64 (b:Int))=some (.int .u64 ((a % b:Nat):Int)):=by
 have h0:eqI (b:Int) 0=false:=by
  rw[C9];simpa using hb
 show (match eqI (b:Int) 0 with | true=>none | false=>frc (remI (a:Int) (b:Int)) fun n=>some (V.int .u64 n))=_
 rw[h0]
 show frc (((a % b:Nat)):Int) _=_
 generalize a % b=z
 cases z<;>rfl
theorem quo_u64 (a b:Nat) (hb:b≠0) (ha:a < 18446744073709551616):arith .quo (.int .u64 (a:Int)) (.int .u64 (b:Int))=some (.int .u64 ((a / b:Nat):Int)):=by
 have h0:eqI (b:Int) 0=false:=by
  rw[C9];simpa using hb
 show (match eqI (b:Int) 0 with | true=>none | false=>mkI .u64 (quoI (a:Int) (b:Int)))=_
 rw[h0]
 show mkI .u64 ((a / b:Nat):Int)=_
 rw[Db,wrap_u64 (Nat.lt_of_le_of_lt (Nat.div_le_self _ _) ha)]
theorem appB {H1 HH:Heap} {ks:List (List V)} {y:V} (hy:Lst H1 HH 1 ks y) (t:H1.next≤HH.next) (hl:ks.length≤100000) (u:Nat):∃ H',appendV 1 1 (HH.add (.rows false 1 [[.int .u8 (u:Int)]])) y (.slice (some ⟨.run HH.next,0⟩) 1 1 0)=some (.slice (some ⟨.run (HH.next+1),0⟩) (ks.length+1) (ks.length+1) 1,H')∧Lst H1 H' 1 (ks++[[.int .u8 (u:Int)]]) (.slice (some ⟨.run (HH.next+1),0⟩) (ks.length+1) (ks.length+1) 1)∧Turns (Bof y) HH H':=by
 have ta:=Turns.add Z HH (.rows false 1 [[.int .u8 (u:Int)]])
 have hxg:(HH.add (.rows false 1 [[.int .u8 (u:Int)]])).get (.run HH.next)=some (.rows false 1 [[.int .u8 (u:Int)]]):=by rw[Heap.get_add,if_pos rfl]
 have hya:=hy.turns ta (fun _ _=>id)
 obtain⟨H',ea,hv',ta',_⟩:=hya.app1 (by':=1) (Nat.le_trans t ta.next) hxg rfl (by decide) (by omega) (by omega)
 rw[Heap.next_add] at ea hv'
 exact⟨H',ea,hv',(ta.wide (fun _=>False.elim)).trans ta'⟩
theorem lst_away {H0 HH H' H:Heap} {sz:Nat} {R:List (List V)} {y:V} (hy:Lst H0 HH sz R y) (t:Turns Z H HH) (h0:H.next≤H0.next) (k:Turns (Bof y) HH H'):Turns Z H H':=
 t.later k (fun c hc hb=>by
  obtain⟨_,rfl,h1,_⟩:=hy.bof hb
  exact absurd hc (Heap.not_old (Nat.le_trans h0 h1)))
theorem rnput_ok (H:Heap) {N s:Nat} (hN:N < 18446744073709551616) (hs:1≤s∧s≤8) {lf:Nat} (hlf:17 < lf) (n:Nat):ret (callS Tryz.prog S0 lf (n+1) 187 [.int .u64 (N:Int),.int .i64 (s:Int)] H) fun v H'=>Turns Z H H' ∧
  ((N / 256 ^ s=0∧∃ y,v=.tuple [y,.int .i64 0]∧Lst H H' 1 (rowsN (digs N s)) y)∨(N / 256 ^ s≠0∧v=.tuple [.slice none 0 0 0,.int .i64 2])):=by
 have g1:¬ ((s:Int) < 1):=by omega
 have g2:¬ ((8:Int) < (s:Int)):=by omega
 refine ret_call rfl c187_eq ?_
 simp only[c187,g1,g2,sy,tup,↓reduceIte,zA,zG,zC,zD,zF,zE,zB,zH,reduceCtorEq]
 have hloop:∀ t:T,t.getP (Tr.path 0)=some (.int .u64 (N:Int))→t.getP (Tr.path 1)=some (.int .i64 (s:Int))→t.getP (Tr.path 6)=some (.slice none 0 0 0)→t.getP (Tr.path 7)=some (.int .i64 0) →
   wp (loopF (runC (callS Tryz.prog S0 lf n) lf c187_l0) lf ⟨t,H,[]⟩) fun x s'=>x=.ex 0∧s'.d=[]∧s'.t.getP (Tr.path 0)=some (.int .u64 ((N / 256 ^ s:Nat):Int))∧∃ y,s'.t.getP (Tr.path 6)=some y∧Lst H s'.H 1 (rowsN (digs N s)) y∧Turns Z H s'.H:=by
  intro t q0 q1 q6 q7
  refine wp_loopF (fun j s'=>∃ i:Nat,j=s - i∧i≤s∧s'.d=[]∧s'.t.getP (Tr.path 0)=some (.int .u64 ((N / 256 ^ i:Nat):Int))∧s'.t.getP (Tr.path 1)=some (.int .i64 (s:Int))∧s'.t.getP (Tr.path 7)=some (.int .i64 (i:Int))∧∃ y,s'.t.getP (Tr.path 6)=some y∧Lst H s'.H 1 (rowsN (digs N i)) y∧Turns Z H s'.H) ?_ lf s _ ⟨0,rfl,by omega,rfl,by rw[q0];simp,q1,q7,_,q6,Lst.nil _ _ _,Turns.refl _ _⟩ (by omega)
  rintro j ⟨t,HH,d⟩ ⟨i,rfl,hi,hd,q0,q1,q7,y,q6,hy,tz⟩
  dsimp only at hd q0 q1 q7 q6 hy tz
  subst hd
  by_cases hlt:i < s
  ·have hlt':(i:Int) < (s:Int):=by omega
   have hx:N / 256 ^ i < 18446744073709551616:=Nat.lt_of_le_of_lt (Nat.div_le_self _ _) hN
   have r1:arith .rem (.int .u64 ((N / 256 ^ i:Nat):Int)) (.int .u64 256)=some (.int .u64 ((N / 256 ^ i % 256:Nat):Int)):=rem_u64 _ 256 (by decide)
   have r2:arith .quo (.int .u64 ((N / 256 ^ i:Nat):Int)) (.int .u64 256)=some (.int .u64 ((N / 256 ^ i / 256:Nat):Int)):=quo_u64 _ 256 (by decide) hx
   have hq:N / 256 ^ i / 256=N / 256 ^ (i+1):=by rw[Nat.div_div_eq_div_mul,Nat.pow_succ]
   have hdg:rowsN (digs N (i+1))=rowsN (digs N i)++[[.int .u8 ((N / 256 ^ i % 256:Nat):Int)]]:=by rw[digs,rowsN_app];rfl
   have w1:IntKind.u8.wrap ((N / 256 ^ i % 256:Nat):Int)=((N / 256 ^ i % 256:Nat):Int):=wrap_u8 (Nat.mod_lt _ (by decide))
   rw[hq] at r2
   obtain⟨H',ea,hv',ta⟩:=appB hy tz.next (by rw[rowsN_len,digs_len];omega) (N / 256 ^ i % 256)
   rw[← hdg] at hv'
   have tz':=lst_away hy tz (Nat.le_refl _) ta
   have w2:IntKind.i64.wrap ((i:Int)+1)=((i+1:Nat):Int):=by rw[wrap_i64 (by omega)];omega
   obtain⟨z,hz⟩:∃ z,z=N / 256 ^ i:=⟨_,rfl⟩
   obtain⟨z',hz'⟩:∃ z,z=N / 256 ^ (i+1):=⟨_,rfl⟩
   rw[← hz] at q0 r1 r2 w1 ea
   rw[← hz'] at r2
   obtain⟨u,hu⟩:∃ u,u=z % 256:=⟨_,rfl⟩
   rw[← hu] at r1 w1 ea
   simp only[c187_l0,q0,q1,q6,q7,hlt',r1,r2,w1,w2,ea,sy,tup,↓reduceIte,zA,zG,zC,zD,zF,zE,zB,zH,reduceCtorEq]
   exact⟨s - (i+1),by omega,i+1,rfl,by omega,trivial,by rw[← hz'],trivial,by simp,_,rfl,hv',tz'⟩
  ·have:i=s:=by omega
   subst this
   simp only[c187_l0,q0,q1,q7,Int.lt_irrefl,sy,tup,↓reduceIte,zA,zG,zC,zD,zF,zE,zB,zH,reduceCtorEq]
   exact⟨trivial,trivial,trivial,y,q6,hy,tz⟩
 refine wp_ctx (F:=fun r=>seqC _ _ _ (blockC _ r)) (hloop _ ?_ ?_ ?_ ?_) ?_
 ·simp only[sy,tup,↓reduceIte,zA,zG,zC,zD,zF,zE,zB,zH,reduceCtorEq]
 ·simp only[sy,tup,↓reduceIte,zA,zG,zC,zD,zF,zE,zB,zH,reduceCtorEq]
 ·simp only[sy,tup,↓reduceIte,zA,zG,zC,zD,zF,zE,zB,zH,reduceCtorEq]
 ·simp only[sy,tup,↓reduceIte,zA,zG,zC,zD,zF,zE,zB,zH,reduceCtorEq]
 rintro x ⟨t,HH,d⟩ ⟨rfl,hd,q0,y,q6,hy,tz⟩
 dsimp only at hd q0 q6 hy tz
 subst hd
 by_cases h0:N / 256 ^ s=0
 ·have h0':¬ ((0:Int) < ((N / 256 ^ s:Nat):Int)):=by rw[h0];decide
  simp only[q0,q6,h0',sy,tup,↓reduceIte,zA,zG,zC,zD,zF,zE,zB,zH,reduceCtorEq]
  exact⟨trivial,.inr trivial,_,rfl,tz,.inl ⟨h0,y,rfl,hy⟩⟩
 ·have h0':(0:Int) < ((N / 256 ^ s:Nat):Int):=Int.ofNat_lt.2 (Nat.pos_of_ne_zero h0)
  simp only[q0,q6,h0',sy,tup,↓reduceIte,zA,zG,zC,zD,zF,zE,zB,zH,reduceCtorEq]
  exact⟨trivial,.inr trivial,_,rfl,tz,.inr ⟨h0,rfl⟩⟩
def putB (n s:Nat):List Nat:=if n / 256 ^ s=0 then digs n s else []
theorem putB_le (n s:Nat):(putB n s).length≤s:=by
 unfold putB
 split
 ·rw[digs_len];omega
 ·simp
theorem putB_lt (n s:Nat):∀ x ∈ putB n s,x < 256:=by
 unfold putB
 split
 ·exact digs_lt n s
 ·intro x h;cases h
theorem appL {H0 H1 HH:Heap} {R Q:List (List V)} {y x:V} (hy:Lst H0 HH 1 R y) (hx:Lst H1 HH 1 Q x) (hQ:∀ r ∈ Q,∃ c:Nat,r=[V.int .u8 (c:Int)]) (t:H0.next≤HH.next) (hl:R.length+Q.length≤100000):∃ v H',appendV 1 1 HH y x=some (v,H')∧Lst H0 H' 1 (R++Q) v∧Turns (Bof y) HH H':=by
 rcases hx with ⟨rfl,rfl⟩ | ⟨k,hne,rfl,hg,h1,h2⟩
 ·obtain⟨p,c,o,rfl⟩:=hy.val
  refine⟨_,HH,?_,by simpa using hy,Turns.refl _ _⟩
  have hb:Nat.ble R.length c=true:=by
   rcases hy with ⟨rfl,e⟩ | ⟨n,_,e,_⟩
   ·cases e;rfl
   ·cases e;exact ble_iff.2 (Nat.le_refl _)
  unfold appendV
  simp only[lenOf,List.length_nil,show Nat.beq 0 0=true from rfl,hb]
 ·have hf:firstE HH 1 (.slice (some ⟨.run k,0⟩) Q.length Q.length 1)=some Q:=by
   have:∀(L:List (List V)) (a:Nat),(∀ i,i < L.length→∃ c:Nat,Q[a+i]?=L[i]?∧L[i]?=some [V.int .u8 (c:Int)])→elems HH (.run k) 1 L.length a=some L:=by
    intro L
    induction L with
    | nil=>intro a _;rfl
    | cons r L ih=>
     intro a h
     obtain⟨c,e1,e2⟩:=h 0 (by simp)
     simp only[List.getElem?_cons_zero,Option.some.injEq] at e2
     subst e2
     rw[Nat.add_zero] at e1
     simp only[List.getElem?_cons_zero] at e1
     have lk:loadAt HH ⟨.run k,a⟩ 1=some [.int .u8 (c:Int)]:=by
      rw[loadAt_eq hg (r:=[.int .u8 (c:Int)]) (by rw[Nat.div_one,nth_eq];exact e1),Nat.mod_one]
      rfl
     show elems HH (.run k) 1 (L.length+1) a=_
     unfold elems
     rw[lk]
     simp only
     rw[show Nat.add a 1=a+1 from rfl,ih (a+1) (fun i hi=>by
      obtain⟨c',e3,e4⟩:=h (i+1) (by simp;omega)
      refine⟨c',?_,by simpa using e4⟩
      rw[show a+1+i=a+(i+1) by omega,e3];simp)]
     rfl
   show elems HH (.run k) 1 Q.length 0=some Q
   exact this Q 0 (fun i hi=>by
    obtain⟨c,hc⟩:=hQ _ (List.getElem_mem hi)
    exact⟨c,by rw[Nat.zero_add],by rw[List.getElem?_eq_getElem hi,hc]⟩)
  obtain⟨H',ea,hv,ta,_⟩:=hy.app (by':=1) t hf rfl hne (by decide) (by omega) (by omega)
  exact⟨_,H',ea,hv,ta⟩
theorem rowsN_bytes (l:List Nat):∀ r ∈ rowsN l,∃ c:Nat,r=[V.int .u8 (c:Int)]:=by
 intro r h
 unfold rowsN at h
 obtain⟨c,_,e⟩:=List.mem_map.1 h
 exact⟨c,e.symm⟩
theorem laid_ok {H0 H:Heap} {l:List Nat} {y:V} (hy:Lst H0 H 1 (rowsN l) y) (h0:H0.next≤H.next) (hl:l.length≤1000) {N s:Nat} (hN:N < 18446744073709551616) (hs:1≤s∧s≤8) {lf:Nat} (hlf:17 < lf) (n:Nat):ret (callS Tryz.prog S0 lf (n+2) 188 [y,.int .u64 (N:Int),.int .i64 (s:Int)] H) fun v H'=>Turns (Bof y) H H'∧Lst H0 H' 1 (rowsN (l++putB N s)) v:=by
 obtain⟨v,H1,e1,t1,hv⟩:=rnput_ok H hN hs hlf n
 have fin:∀(x:V),Lst H H1 1 (rowsN (putB N s)) x→∃ w H',appendV 1 1 H1 y x=some (w,H')∧Lst H0 H' 1 (rowsN (l++putB N s)) w∧Turns (Bof y) H H':=by
  intro x hx
  obtain⟨w,H',ea,hw,ta⟩:=appL (hy.turns t1 (fun _ _=>id)) hx (rowsN_bytes _) (Nat.le_trans h0 t1.next) (by rw[rowsN_len,rowsN_len];have:=putB_le N s;omega)
  rw[← rowsN_app] at hw
  exact⟨w,H',ea,hw,(t1.wide (fun _=>False.elim)).trans ta⟩
 refine ret_call rfl c188_eq ?_
 rcases hv with ⟨h,x,rfl,hx⟩ | ⟨h,rfl⟩
 ·have hp:putB N s=digs N s:=if_pos h
  rw[← hp] at hx
  obtain⟨w,H',ea,hw,ta⟩:=fin x hx
  simp only[c188,e1,ea,sy,tup,↓reduceIte,zA,zG,zC,zD,zF,zE,zB,zH,reduceCtorEq]
  exact⟨trivial,.inr trivial,_,rfl,ta,hw⟩
 ·have hp:putB N s=[]:=if_neg h
  obtain⟨w,H',ea,hw,ta⟩:=fin (.slice none 0 0 0) (by rw[hp];exact Lst.nil _ _ _)
  simp only[c188,e1,ea,sy,tup,↓reduceIte,zA,zG,zC,zD,zF,zE,zB,zH,reduceCtorEq]
  exact⟨trivial,.inr trivial,_,rfl,ta,hw⟩
end Go.Proofs.YtabebpemfinejaaGreat.draft
namespace Go.Proofs.YtabebpemfinejaaGreat.draft
open Go.Am
noncomputable def c189_l0:C:=.seq (.seq (.reg [
 mv 50 13,
 qo 51 (.p (arF .geq (tt 50) (ii 0))) [pp 50]]) (
 .cond (tt 51) (.skip) (.exit 6))) (
 .seq (.block 7 (.seq (.reg [
 mv 54 12,
 qo 55 (.p (arF .mul (.c (.int .u8 2)) (tt 54))) [pp 54],
 mv 12 55]) (
 .seq (.reg [
 mv 56 11,
 mv 57 13,
 qo 58 (.p (arF .add (tt 56) (tt 57))) [pp 56,pp 57],
 mv 59 6,
 qo 60 (.p (lenF (tt 59))) [pp 59],
 qo 61 (.p (arF .lss (tt 58) (tt 60))) [pp 58,pp 60]]) (
 .cond (tt 61) (.reg [
 mv 62 12,
 mv 63 6,
 mv 64 11,
 mv 65 13,
 qo 66 (.p (arF .add (tt 64) (tt 65))) [pp 64,pp 65],
 qo 67 (.p (iaddrSF (tt 63) (tt 66) 1)) [pp 63,pp 66],
 qo 68 (.r (loadF (tt 67) 1 .sc)) [pp 67],
 qo 69 (.p (arF .add (tt 62) (tt 68))) [pp 62,pp 68],
 mv 12 69]) (.skip))))) (
 .reg [
 mv 52 13,
 qo 53 (.p (arF .sub (tt 52) (ii 1))) [pp 52],
 mv 13 53]))
noncomputable def c189_l1:C:=.seq (.seq (.reg [
 mv 44 11,
 mv 45 6,
 qo 46 (.p (lenF (tt 45))) [pp 45],
 qo 47 (.p (arF .lss (tt 44) (tt 46))) [pp 44,pp 46]]) (
 .cond (tt 47) (.skip) (.exit 4))) (
 .seq (.block 5 (.seq (.reg [
 qo 12 (.p (S.get (.c (.int .u8 0)))) []]) (
 .seq (.seq (.reg [
 qo 13 (.p (S.get (ii 7))) []]) (
 .block 6 (.loop c189_l0))) (
 .reg [
 mv 70 10,
 mv 71 12,
 qo 72 (.m (bsliceF 1 1 [.int .u8 0] [(0,1,(tt 71))])) [pp 71],
 qo 73 (.a (appF 1 1 (tt 70) (tt 72))) [pp 70,pp 72],
 mv 10 73])))) (
 .reg [
 mv 48 11,
 qo 49 (.p (arF .add (tt 48) (ii 8))) [pp 48],
 mv 11 49]))
noncomputable def c189_l2:C:=.seq (.seq (.reg [
 mv 30 9,
 mv 31 1,
 qo 32 (.p (arF .lss (tt 30) (tt 31))) [pp 30,pp 31]]) (
 .cond (tt 32) (.skip) (.exit 2))) (
 .seq (.block 3 (.seq (.reg [
 mv 35 6,
 mv 36 8,
 qo 37 (.p (arF .rem (tt 36) (.c (.int .u8 2)))) [pp 36],
 qo 38 (.m (bsliceF 1 1 [.int .u8 0] [(0,1,(tt 37))])) [pp 37],
 qo 39 (.a (appF 1 1 (tt 35) (tt 38))) [pp 35,pp 38],
 mv 6 39]) (
 .reg [
 mv 40 8,
 qo 41 (.p (arF .quo (tt 40) (.c (.int .u8 2)))) [pp 40],
 mv 8 41]))) (
 .reg [
 mv 33 9,
 qo 34 (.p (arF .add (tt 33) (ii 1))) [pp 33],
 mv 9 34]))
noncomputable def c189_l3:C:=.seq (.seq (.reg [
 mv 20 7,
 mv 21 0,
 qo 22 (.p (lenF (tt 21))) [pp 21],
 qo 23 (.p (arF .lss (tt 20) (tt 22))) [pp 20,pp 22]]) (
 .cond (tt 23) (.skip) (.exit 0))) (
 .seq (.block 1 (.seq (.reg [
 mv 26 0,
 mv 27 7,
 qo 28 (.p (iaddrSF (tt 26) (tt 27) 1)) [pp 26,pp 27],
 qo 29 (.r (loadF (tt 28) 1 .sc)) [pp 28],
 mv 8 29]) (
 .seq (.seq (.reg [
 qo 9 (.p (S.get (ii 0))) []]) (
 .block 2 (.loop c189_l2))) (
 .seq (.reg [
 mv 42 8,
 qo 43 (.p (arF .gtr (tt 42) (.c (.int .u8 0)))) [pp 42]]) (
 .cond (tt 43) (.seq (.reg [
 qo 4 (.p (S.get (.c (.slice none 0 0 0)))) [],
 qo 5 (.p (S.get (ii 2))) []]) (
 .ret)) (.skip)))))) (
 .reg [
 mv 24 7,
 qo 25 (.p (arF .add (tt 24) (ii 1))) [pp 24],
 mv 7 25]))
noncomputable def c189:CFn:=⟨[.tmp (pp 4),.tmp (pp 5)],
 .seq (.reg [
 qo 4 (.p (S.get (.c (.slice none 0 0 0)))) [],
 qo 5 (.p (S.get (ii 0))) []]) (
 .seq (.seq (.reg [
 mv 14 1,
 qo 15 (.p (arF .lss (tt 14) (ii 1))) [pp 14],
 mv 16 15,
 mg 17 1 16 false,
 qg 18 (.p (arF .gtr (tt 17) (ii 8))) 16 false [pp 17],
 qo 19 (.p (pickF (tt 16) (.c (.bool true)) (tt 18))) [pp 16,pp 18]]) (
 .cond (tt 19) (.seq (.reg [
 qo 4 (.p (S.get (.c (.slice none 0 0 0)))) [],
 qo 5 (.p (S.get (ii 2))) []]) (
 .ret)) (.skip))) (
 .seq (.reg [
 qo 6 (.p (S.get (.c (.slice none 0 0 0)))) []]) (
 .seq (.seq (.reg [
 qo 7 (.p (S.get (ii 0))) []]) (
 .block 0 (.loop c189_l3))) (
 .seq (.reg [
 qo 10 (.p (S.get (.c (.slice none 0 0 0)))) []]) (
 .seq (.seq (.reg [
 qo 11 (.p (S.get (ii 0))) []]) (
 .block 4 (.loop c189_l1))) (
 .seq (.reg [
 mv 74 10,
 mv 4 74,
 qo 5 (.p (S.get (ii 0))) []]) (
 .ret)))))))⟩
theorem c189_eq:fnOf Tryz.prog 189=some c189:=by kernel_rfl
theorem rem_u8 (a b:Nat) (hb:b≠0):arith .rem (.int .u8 (a:Int)) (.int .u8 (b:Int))=some (.int .u8 ((a % b:Nat):Int)):=by
 have h0:eqI (b:Int) 0=false:=by
  rw[C9];simpa using hb
 show (match eqI (b:Int) 0 with | true=>none | false=>frc (remI (a:Int) (b:Int)) fun n=>some (V.int .u8 n))=_
 rw[h0]
 show frc (((a % b:Nat)):Int) _=_
 generalize a % b=z
 cases z<;>rfl
theorem quo_u8 (a b:Nat) (hb:b≠0) (ha:a < 256):arith .quo (.int .u8 (a:Int)) (.int .u8 (b:Int))=some (.int .u8 ((a / b:Nat):Int)):=by
 have h0:eqI (b:Int) 0=false:=by
  rw[C9];simpa using hb
 show (match eqI (b:Int) 0 with | true=>none | false=>mkI .u8 (quoI (a:Int) (b:Int)))=_
 rw[h0]
 show mkI .u8 ((a / b:Nat):Int)=_
 rw[Db,wrap_u8 (Nat.lt_of_le_of_lt (Nat.div_le_self _ _) ha)]
def bitsN (s:Nat):Nat→List Nat
 | 0=>[]
 | i+1=>bitsN s i++[s / 2 ^ i % 2]
theorem bitsN_len (s:Nat):∀ i,(bitsN s i).length=i
 | 0=>rfl
 | i+1=>by simp[bitsN,bitsN_len s i]
def rowBits (S:Nat→Nat):Nat→List Nat
 | 0=>[]
 | i+1=>rowBits S i++bitsN (S i) 2
theorem rowBits_len (S:Nat→Nat):∀ i,(rowBits S i).length=2*i
 | 0=>rfl
 | i+1=>by simp[rowBits,rowBits_len S i,bitsN_len];omega
def bitOf (S:Nat→Nat) (j:Nat):Nat:=S (j / 2) / 2 ^ (j % 2) % 2
theorem bitOf_lt (S:Nat→Nat) (j:Nat):bitOf S j < 2:=Nat.mod_lt _ (by decide)
theorem rowBits_get (S:Nat→Nat):∀ i j,j < 2*i→(rowBits S i)[j]?=some (bitOf S j)
 | i+1,j,h=>by
  have hl:=rowBits_len S i
  by_cases hj:j < 2*i
  ·rw[rowBits,List.getElem?_append_left (by omega),rowBits_get S i j hj]
  ·rw[rowBits,List.getElem?_append_right (by omega),hl]
   have:j=2*i∨j=2*i+1:=by omega
   rcases this with rfl | rfl
   ·simp only[Nat.sub_self,bitsN,bitOf,List.nil_append,List.cons_append,List.getElem?_cons_zero]
    rw[show 2*i / 2=i by omega,show 2*i % 2=0 by omega]
   ·rw[show 2*i+1 - 2*i=1 by omega]
    simp only[bitsN,bitOf,List.nil_append,List.cons_append,List.getElem?_cons_zero,List.getElem?_cons_succ]
    rw[show (2*i+1) / 2=i by omega,show (2*i+1) % 2=1 by omega]
def packN (f:Nat→Nat):Nat→Nat
 | 0=>0
 | m+1=>2*packN f m+f (7 - m)
theorem packN_lt {f:Nat→Nat} (h:∀ i,f i < 2):∀ m,packN f m < 2 ^ m
 | 0=>by show 0 < 1;decide
 | m+1=>by
  have a:=packN_lt h m
  have b:=h (7 - m)
  show 2*packN f m+f (7 - m) < 2 ^ (m+1)
  rw[Nat.pow_succ]
  omega
def outB (S:Nat→Nat) (q:Nat):Nat:=packN (fun k=>bitOf S (8*q+k)) 8
theorem outB_lt (S:Nat→Nat) (q:Nat):outB S q < 256:=packN_lt (fun i=>bitOf_lt S _) 8
def outs (S:Nat→Nat):Nat→List Nat
 | 0=>[]
 | q+1=>outs S q++[outB S q]
theorem outs_len (S:Nat→Nat):∀ q,(outs S q).length=q
 | 0=>rfl
 | q+1=>by simp[outs,outs_len S q]
theorem rowsN_get {l:List Nat} {i x:Nat} (h:l[i]?=some x):(rowsN l)[i]?=some [.int .u8 (x:Int)]:=by
 unfold rowsN
 rw[List.getElem?_map,h];rfl
theorem rbits_ok {H:Heap} {p:Ptr} {cap loose:Nat} {S:Nat→Nat} (ho:H.Old p.b) (hS:∀ i,i < 16→S i < 4) (hd:∀ {H':Heap},Turns Z H H'→∀ i,i < 16→loadAt H' ⟨p.b,p.o+i⟩ 1=some [.int .u8 (S i:Int)]) {lf:Nat} (hlf:40 < lf) (n:Nat) :
  ret (callS Tryz.prog S0 lf (n+1) 189 [.slice (some p) 16 cap loose,.int .i64 2] H) fun v H'=>Turns Z H H'∧∃ y,v=.tuple [y,.int .i64 0]∧Lst H H' 1 (rowsN (outs S 4)) y:=by
 have g1:¬ ((2:Int) < 1):=by omega
 have g2:¬ ((8:Int) < 2):=by omega
 refine ret_call rfl c189_eq ?_
 simp only[c189,g1,g2,sy,tup,↓reduceIte,zA,zG,zC,zD,zF,zE,zB,zH,reduceCtorEq]
 have hloop:∀ t:T,t.getP (Tr.path 0)=some (.slice (some p) 16 cap loose)→t.getP (Tr.path 1)=some (.int .i64 2)→t.getP (Tr.path 6)=some (.slice none 0 0 0)→t.getP (Tr.path 7)=some (.int .i64 0) →
   wp (loopF (runC (callS Tryz.prog S0 lf n) lf c189_l3) lf ⟨t,H,[]⟩) fun x s'=>x=.ex 0∧s'.d=[]∧∃ y,s'.t.getP (Tr.path 6)=some y∧Lst H s'.H 1 (rowsN (rowBits S 16)) y∧Turns Z H s'.H:=by
  intro t q0 q1 q6 q7
  refine wp_loopF (fun j s'=>∃ i:Nat,j=16 - i∧i≤16∧s'.d=[]∧s'.t.getP (Tr.path 0)=some (.slice (some p) 16 cap loose)∧s'.t.getP (Tr.path 1)=some (.int .i64 2)∧s'.t.getP (Tr.path 7)=some (.int .i64 (i:Int))∧∃ y,s'.t.getP (Tr.path 6)=some y∧Lst H s'.H 1 (rowsN (rowBits S i)) y∧Turns Z H s'.H) ?_ lf 16 _ ⟨0,rfl,by omega,rfl,q0,q1,q7,_,q6,Lst.nil _ _ _,Turns.refl _ _⟩ (by omega)
  rintro j ⟨t,HH,d⟩ ⟨i,rfl,hi,hd',q0,q1,q7,y,q6,hy,tz⟩
  dsimp only at hd' q0 q1 q7 q6 hy tz
  subst hd'
  by_cases hlt:i < 16
  ·have hlt':(i:Int) < ((16:Nat):Int):=by omega
   have hle':i+1≤16:=hlt
   have lk:=hd tz i hlt
   have hSi:=hS i hlt
   have w2:IntKind.i64.wrap ((i:Int)+1)=((i+1:Nat):Int):=by rw[wrap_i64 (by omega)];omega
   have hin:∀ t:T,t.getP (Tr.path 0)=some (.slice (some p) 16 cap loose)→t.getP (Tr.path 1)=some (.int .i64 2)→t.getP (Tr.path 6)=some y→t.getP (Tr.path 7)=some (.int .i64 (i:Int))→t.getP (Tr.path 8)=some (.int .u8 (S i:Int))→t.getP (Tr.path 9)=some (.int .i64 0) →
     wp (loopF (runC (callS Tryz.prog S0 lf n) lf c189_l2) lf ⟨t,HH,[]⟩) fun x s'=>x=.ex 2∧s'.d=[]∧s'.t.getP (Tr.path 0)=some (.slice (some p) 16 cap loose)∧s'.t.getP (Tr.path 1)=some (.int .i64 2)∧s'.t.getP (Tr.path 7)=some (.int .i64 (i:Int))∧s'.t.getP (Tr.path 8)=some (.int .u8 ((S i / 2 ^ 2:Nat):Int))∧∃ y,s'.t.getP (Tr.path 6)=some y∧Lst H s'.H 1 (rowsN (rowBits S i++bitsN (S i) 2)) y∧Turns Z H s'.H:=by
    intro t q0 q1 q6 q7 q8 q9
    refine wp_loopF (fun j s'=>∃ k:Nat,j=2 - k∧k≤2∧s'.d=[]∧s'.t.getP (Tr.path 0)=some (.slice (some p) 16 cap loose)∧s'.t.getP (Tr.path 1)=some (.int .i64 2)∧s'.t.getP (Tr.path 7)=some (.int .i64 (i:Int))∧s'.t.getP (Tr.path 8)=some (.int .u8 ((S i / 2 ^ k:Nat):Int))∧s'.t.getP (Tr.path 9)=some (.int .i64 (k:Int))∧∃ y,s'.t.getP (Tr.path 6)=some y∧Lst H s'.H 1 (rowsN (rowBits S i++bitsN (S i) k)) y∧Turns Z H s'.H) ?_ lf 2 _ ⟨0,rfl,by omega,rfl,q0,q1,q7,by rw[q8];simp,q9,_,q6,by simpa [bitsN] using hy,tz⟩ (by omega)
    rintro j ⟨t,HH,d⟩ ⟨k,rfl,hk,hd',q0,q1,q7,q8,q9,y,q6,hy,tz⟩
    dsimp only at hd' q0 q1 q7 q8 q9 q6 hy tz
    subst hd'
    by_cases hlt:k < 2
    ·have hlt':(k:Int) < 2:=by omega
     have hx:S i / 2 ^ k < 256:=Nat.lt_of_le_of_lt (Nat.div_le_self _ _) (by omega)
     have r1:arith .rem (.int .u8 ((S i / 2 ^ k:Nat):Int)) (.int .u8 2)=some (.int .u8 ((S i / 2 ^ k % 2:Nat):Int)):=rem_u8 _ 2 (by decide)
     have r2:arith .quo (.int .u8 ((S i / 2 ^ k:Nat):Int)) (.int .u8 2)=some (.int .u8 ((S i / 2 ^ k / 2:Nat):Int)):=quo_u8 _ 2 (by decide) hx
     have hq:S i / 2 ^ k / 2=S i / 2 ^ (k+1):=by rw[Nat.div_div_eq_div_mul,Nat.pow_succ]
     have hdg:rowsN (rowBits S i++bitsN (S i) (k+1))=rowsN (rowBits S i++bitsN (S i) k)++[[.int .u8 ((S i / 2 ^ k % 2:Nat):Int)]]:=by rw[bitsN,← List.append_assoc,rowsN_app];rfl
     rw[hq] at r2
     obtain⟨H',ea,hv',ta⟩:=appB hy tz.next (by rw[rowsN_len,List.length_append,bitsN_len,rowBits_len];omega) (S i / 2 ^ k % 2)
     rw[← hdg] at hv'
     have tz':=lst_away hy tz (Nat.le_refl _) ta
     have w2:IntKind.i64.wrap ((k:Int)+1)=((k+1:Nat):Int):=by rw[wrap_i64 (by omega)];omega
     obtain⟨z,hz⟩:∃ z,z=S i / 2 ^ k:=⟨_,rfl⟩
     obtain⟨z',hz'⟩:∃ z,z=S i / 2 ^ (k+1):=⟨_,rfl⟩
     rw[← hz] at q8 r1 r2 ea
     rw[← hz'] at r2
     obtain⟨u,hu⟩:∃ u,u=z % 2:=⟨_,rfl⟩
     rw[← hu] at r1 ea
     simp only[c189_l2,q0,q1,q6,q7,q8,q9,hlt',r1,r2,w2,ea,sy,tup,↓reduceIte,zA,zG,zC,zD,zF,zE,zB,zH,reduceCtorEq]
     exact⟨2 - (k+1),by omega,k+1,rfl,by omega,trivial,trivial,trivial,trivial,by rw[← hz'],by simp,_,rfl,hv',tz'⟩
    ·have:k=2:=by omega
     subst this
     simp only[c189_l2,q0,q1,q9,Int.lt_irrefl,Nat.lt_irrefl,show (((2:Nat):Int) < 2)=False from by simp,sy,tup,↓reduceIte,zA,zG,zC,zD,zF,zE,zB,zH,reduceCtorEq]
     exact⟨trivial,trivial,trivial,trivial,q7,q8,y,q6,hy,tz⟩
   simp only[c189_l3,q0,q1,q6,q7,hlt',hle',lk,Nat.mul_one,sy,tup,↓reduceIte,zA,zG,zC,zD,zF,zE,zB,zH,reduceCtorEq]
   refine wp_ctx (F:=fun r=>seqC _ _ _ (blockC _ (seqC _ _ _ (blockC _ r)))) (hin _ ?_ ?_ ?_ ?_ ?_ ?_) ?_
   ·simp only[q0,sy,tup,↓reduceIte,zA,zG,zC,zD,zF,zE,zB,zH,reduceCtorEq]
   ·simp only[q1,sy,tup,↓reduceIte,zA,zG,zC,zD,zF,zE,zB,zH,reduceCtorEq]
   ·simp only[q6,sy,tup,↓reduceIte,zA,zG,zC,zD,zF,zE,zB,zH,reduceCtorEq]
   ·simp only[q7,sy,tup,↓reduceIte,zA,zG,zC,zD,zF,zE,zB,zH,reduceCtorEq]
   ·simp only[sy,tup,↓reduceIte,zA,zG,zC,zD,zF,zE,zB,zH,reduceCtorEq]
   ·simp only[sy,tup,↓reduceIte,zA,zG,zC,zD,zF,zE,zB,zH,reduceCtorEq]
   rintro x ⟨t,HK,d⟩ ⟨rfl,hd',q0,q1,q7,q8,y',q6,hy',tz'⟩
   dsimp only at hd' q0 q1 q7 q8 q6 hy' tz'
   subst hd'
   have h4:S i / 2 ^ 2=0:=Nat.div_eq_of_lt hSi
   rw[h4] at q8
   have h00:¬ ((0:Int) < ((0:Nat):Int)):=by decide
   simp only[q0,q1,q6,q7,q8,h00,w2,sy,tup,↓reduceIte,zA,zG,zC,zD,zF,zE,zB,zH,reduceCtorEq]
   exact⟨16 - (i+1),by omega,i+1,rfl,by omega,trivial,trivial,trivial,by simp,_,rfl,hy',tz'⟩
  ·have:i=16:=by omega
   subst this
   have hnl:decide (((16:Nat):Int) < ((16:Nat):Int))=false:=rfl
   simp only[c189_l3,q0,q1,q7,hnl,Int.lt_irrefl,show (((16:Nat):Int) < 16)=False from by simp,sy,tup,↓reduceIte,zA,zG,zC,zD,zF,zE,zB,zH,reduceCtorEq]
   exact⟨trivial,trivial,y,q6,hy,tz⟩
 refine wp_ctx (F:=fun r=>seqC _ _ _ (blockC _ r)) (hloop _ ?_ ?_ ?_ ?_) ?_
 ·simp only[sy,tup,↓reduceIte,zA,zG,zC,zD,zF,zE,zB,zH,reduceCtorEq]
 ·simp only[sy,tup,↓reduceIte,zA,zG,zC,zD,zF,zE,zB,zH,reduceCtorEq]
 ·simp only[sy,tup,↓reduceIte,zA,zG,zC,zD,zF,zE,zB,zH,reduceCtorEq]
 ·simp only[sy,tup,↓reduceIte,zA,zG,zC,zD,zF,zE,zB,zH,reduceCtorEq]
 rintro x ⟨t,HB,d⟩ ⟨rfl,hd',yb,q6,hyb,tb⟩
 dsimp only at hd' q6 hyb tb
 subst hd'
 have hlb:(rowsN (rowBits S 16)).length=32:=by rw[rowsN_len,rowBits_len]
 obtain⟨pb,cb,ob,eyb⟩:=hyb.val
 rw[hlb] at eyb
 simp only[q6,sy,tup,↓reduceIte,zA,zG,zC,zD,zF,zE,zB,zH,reduceCtorEq]
 have hloop2:∀ t:T,t.getP (Tr.path 6)=some yb→t.getP (Tr.path 10)=some (.slice none 0 0 0)→t.getP (Tr.path 11)=some (.int .i64 0) →
   wp (loopF (runC (callS Tryz.prog S0 lf n) lf c189_l1) lf ⟨t,HB,[]⟩) fun x s'=>x=.ex 4∧s'.d=[]∧∃ y,s'.t.getP (Tr.path 10)=some y∧Lst HB s'.H 1 (rowsN (outs S 4)) y∧Turns Z HB s'.H:=by
  intro t q6 q10 q11
  refine wp_loopF (fun j s'=>∃ i:Nat,j=4 - i∧i≤4∧s'.d=[]∧s'.t.getP (Tr.path 6)=some yb∧s'.t.getP (Tr.path 11)=some (.int .i64 ((8*i:Nat):Int))∧∃ y,s'.t.getP (Tr.path 10)=some y∧Lst HB s'.H 1 (rowsN (outs S i)) y∧Turns Z HB s'.H) ?_ lf 4 _ ⟨0,rfl,by omega,rfl,q6,q11,_,q10,Lst.nil _ _ _,Turns.refl _ _⟩ (by omega)
  rintro j ⟨t,HH,d⟩ ⟨i,rfl,hi,hd',q6,q11,y,q10,hy,tz⟩
  dsimp only at hd' q6 q11 q10 hy tz
  subst hd'
  rw[eyb] at q6
  obtain⟨e8,he8⟩:∃ e,e=8*i:=⟨_,rfl⟩
  rw[← he8] at q11
  by_cases hlt:i < 4
  ·have hlt':(e8:Int) < ((32:Nat):Int):=by omega
   have w2:IntKind.i64.wrap ((e8:Int)+8)=((8*(i+1):Nat):Int):=by rw[wrap_i64 (by omega)];omega
   have hyH:=hyb.turns tz (fun _ _=>id)
   have hin:∀ t:T,t.getP (Tr.path 6)=some (.slice pb 32 cb ob)→t.getP (Tr.path 10)=some y→t.getP (Tr.path 11)=some (.int .i64 (e8:Int))→t.getP (Tr.path 12)=some (.int .u8 0)→t.getP (Tr.path 13)=some (.int .i64 7) →
     wp (loopF (runC (callS Tryz.prog S0 lf n) lf c189_l0) lf ⟨t,HH,[]⟩) fun x s'=>x=.ex 6∧s'.d=[]∧s'.H=HH∧s'.t.getP (Tr.path 6)=some (.slice pb 32 cb ob)∧s'.t.getP (Tr.path 10)=some y∧s'.t.getP (Tr.path 11)=some (.int .i64 (e8:Int))∧s'.t.getP (Tr.path 12)=some (.int .u8 ((outB S i:Nat):Int)):=by
    intro t q6 q10 q11 q12 q13
    refine wp_loopF (fun j s'=>∃ m:Nat,j=8 - m∧m≤8∧s'.d=[]∧s'.H=HH∧s'.t.getP (Tr.path 6)=some (.slice pb 32 cb ob)∧s'.t.getP (Tr.path 10)=some y∧s'.t.getP (Tr.path 11)=some (.int .i64 (e8:Int))∧s'.t.getP (Tr.path 12)=some (.int .u8 ((packN (fun k=>bitOf S (e8+k)) m:Nat):Int))∧s'.t.getP (Tr.path 13)=some (.int .i64 (7 - (m:Int)))) ?_ lf 8 _ ⟨0,rfl,by omega,rfl,rfl,q6,q10,q11,q12,q13⟩ (by omega)
    rintro j ⟨t,HX,d⟩ ⟨m,rfl,hm,hd',hX,q6,q10,q11,q12,q13⟩
    dsimp only at hd' hX q6 q10 q11 q12 q13
    subst hd';subst hX
    by_cases hlt:m < 8
    ·have g0:(0:Int)≤7 - (m:Int):=by omega
     obtain⟨k,hk⟩:∃ k,k=7 - m:=⟨_,rfl⟩
     have ek:(7:Int) - (m:Int)=(k:Int):=by omega
     rw[ek] at q13
     have w1:IntKind.i64.wrap ((k:Int) - 1)=7 - ((m+1:Nat):Int):=by rw[wrap_i64 (by omega)];omega
     have k0:(0:Int)≤(k:Int):=by omega
     obtain⟨a,ha⟩:∃ a,a=e8+k:=⟨_,rfl⟩
     have w3:IntKind.i64.wrap ((e8:Int)+(k:Int))=(a:Int):=by rw[wrap_i64 (by omega)];omega
     have ha32:a < 32:=by omega
     have ha':(a:Int) < ((32:Nat):Int):=by omega
     have haL:a+1≤32:=ha32
     obtain⟨nn,en,lk⟩:=hyH.load (o:=0) (k:=1) (rowsN_get (rowBits_get S 16 a (by omega))) (by omega)
     have lk:loadAt HX ⟨.run nn,a⟩ 1=some [.int .u8 ((bitOf S a:Nat):Int)]:=by
      rw[Nat.mul_one,Nat.add_zero] at lk
      exact lk.trans rfl
     rw[hlb,eyb] at en
     cases en
     have pl:=packN_lt (f:=fun k=>bitOf S (e8+k)) (fun i=>bitOf_lt S _) m
     have p7:2 ^ m≤2 ^ 7:=Nat.pow_le_pow_right (by decide) (by omega)
     have b1:=bitOf_lt S a
     obtain⟨c,hc⟩:∃ c,c=packN (fun k=>bitOf S (e8+k)) m:=⟨_,rfl⟩
     rw[← hc] at q12 pl
     have hc1:packN (fun k=>bitOf S (e8+k)) (m+1)=2*c+bitOf S a:=by rw[packN,← hc,ha,hk]
     have w4:IntKind.u8.wrap (2*(c:Int))=((2*c:Nat):Int):=by rw[show (2*(c:Int))=((2*c:Nat):Int) by omega];exact wrap_u8 (by omega)
     have w5:IntKind.u8.wrap (((2*c:Nat):Int)+((bitOf S a:Nat):Int))=((2*c+bitOf S a:Nat):Int):=by rw[show (((2*c:Nat):Int)+((bitOf S a:Nat):Int))=((2*c+bitOf S a:Nat):Int) by omega];exact wrap_u8 (by omega)
     obtain⟨c2,hc2⟩:∃ z,z=2*c:=⟨_,rfl⟩
     rw[← hc2] at w4 w5
     obtain⟨c3,hc3⟩:∃ z,z=c2+bitOf S a:=⟨_,rfl⟩
     rw[← hc3] at w5
     generalize bitOf S a=ba at *
     simp only[c189_l0,q6,q10,q11,q12,q13,k0,w1,w3,w4,w5,ha',haL,lk,arith_mul,Nat.mul_one,sy,tup,↓reduceIte,zA,zG,zC,zD,zF,zE,zB,zH,reduceCtorEq]
     exact⟨8 - (m+1),by omega,m+1,rfl,by omega,trivial,trivial,trivial,trivial,trivial,by rw[hc1,← hc2,← hc3],by simp⟩
    ·have:m=8:=by omega
     subst this
     have g0:¬ ((0:Int)≤7 - ((8:Nat):Int)):=by omega
     simp only[c189_l0,q6,q10,q11,q12,q13,g0,sy,tup,↓reduceIte,zA,zG,zC,zD,zF,zE,zB,zH,reduceCtorEq]
     refine⟨trivial,trivial,trivial,trivial,trivial,trivial,?_⟩
     rw[he8]
     rfl
   simp only[c189_l1,q6,q10,q11,hlt',w2,Nat.mul_one,sy,tup,↓reduceIte,zA,zG,zC,zD,zF,zE,zB,zH,reduceCtorEq]
   refine wp_ctx (F:=fun r=>seqC _ _ _ (blockC _ (seqC _ _ _ (blockC _ r)))) (hin _ ?_ ?_ ?_ ?_ ?_) ?_
   ·simp only[q6,sy,tup,↓reduceIte,zA,zG,zC,zD,zF,zE,zB,zH,reduceCtorEq]
   ·simp only[q10,sy,tup,↓reduceIte,zA,zG,zC,zD,zF,zE,zB,zH,reduceCtorEq]
   ·simp only[q11,sy,tup,↓reduceIte,zA,zG,zC,zD,zF,zE,zB,zH,reduceCtorEq]
   ·simp only[sy,tup,↓reduceIte,zA,zG,zC,zD,zF,zE,zB,zH,reduceCtorEq]
   ·simp only[sy,tup,↓reduceIte,zA,zG,zC,zD,zF,zE,zB,zH,reduceCtorEq]
   rintro x ⟨t,HK,d⟩ ⟨rfl,hd',hX,q6,q10,q11,q12⟩
   dsimp only at hd' hX q6 q10 q11 q12
   subst hd';subst hX
   obtain⟨H',ea,hv',ta⟩:=appB hy tz.next (by rw[rowsN_len,outs_len];omega) (outB S i)
   have tz':=lst_away hy tz (Nat.le_refl _) ta
   have hdg:rowsN (outs S (i+1))=rowsN (outs S i)++[[.int .u8 ((outB S i:Nat):Int)]]:=by rw[outs,rowsN_app];rfl
   rw[← hdg] at hv'
   simp only[q6,q10,q11,q12,ea,w2,sy,tup,↓reduceIte,zA,zG,zC,zD,zF,zE,zB,zH,reduceCtorEq]
   exact⟨4 - (i+1),by omega,i+1,rfl,by omega,trivial,by rw[eyb],rfl,_,rfl,hv',tz'⟩
  ·have:i=4:=by omega
   subst this
   subst he8
   have hnl:decide (((8*4:Nat):Int) < ((32:Nat):Int))=false:=rfl
   simp only[c189_l1,q6,q10,q11,hnl,Int.lt_irrefl,Nat.lt_irrefl,show (((32:Nat):Int) < 32)=False from by simp,sy,tup,↓reduceIte,zA,zG,zC,zD,zF,zE,zB,zH,reduceCtorEq]
   exact⟨trivial,trivial,y,rfl,hy,tz⟩
 refine wp_ctx (F:=fun r=>seqC _ _ _ (blockC _ r)) (hloop2 _ ?_ ?_ ?_) ?_
 ·simp only[q6,sy,tup,↓reduceIte,zA,zG,zC,zD,zF,zE,zB,zH,reduceCtorEq]
 ·simp only[sy,tup,↓reduceIte,zA,zG,zC,zD,zF,zE,zB,zH,reduceCtorEq]
 ·simp only[sy,tup,↓reduceIte,zA,zG,zC,zD,zF,zE,zB,zH,reduceCtorEq]
 rintro x ⟨t,HC,d⟩ ⟨rfl,hd',yc,q10,hyc,tc⟩
 dsimp only at hd' q10 hyc tc
 subst hd'
 simp only[q10,sy,tup,↓reduceIte,zA,zG,zC,zD,zF,zE,zB,zH,reduceCtorEq]
 refine⟨trivial,.inr trivial,_,rfl,tb.trans tc,yc,rfl,?_⟩
 rcases hyc with h | ⟨k,h1,h2,h3,h4,h5⟩
 ·exact .inl h
 ·exact .inr ⟨k,h1,h2,h3,Nat.le_trans tb.next h4,h5⟩
end Go.Proofs.YtabebpemfinejaaGreat.draft
namespace Go.Proofs.YtabebpemfinejaaGreat.draft
open Go.Am
noncomputable def c252:CFn:=⟨[.tmp (pp 2)],
 .seq (.reg [
 qo 2 (.p (S.get (.c (.int .u32 0)))) []]) (
 .seq (.seq (.reg [
 mv 3 0,
 qo 4 (.p (arF .rem (tt 3) (.c (.int .u32 2)))) [pp 3],
 qo 5 (.p (eqcF false false [.int .u32] (tt 4) (.c (.int .u32 1)))) [pp 4]]) (
 .cond (tt 5) (.seq (.reg [
 mv 6 0,
 qo 7 (.p (arF .quo (tt 6) (.c (.int .u32 2)))) [pp 6],
 qo 8 (.p (arF .xor (tt 7) (.c (.int .u32 2197175160)))) [pp 7],
 mv 2 8]) (
 .ret)) (.skip))) (
 .seq (.reg [
 mv 9 0,
 qo 10 (.p (arF .quo (tt 9) (.c (.int .u32 2)))) [pp 9],
 mv 2 10]) (
 .ret)))⟩
theorem c252_eq:fnOf Tryz.prog 252=some c252:=by kernel_rfl
noncomputable def c242_l0:C:=.seq (.seq (.reg [
 mv 10 5,
 qo 11 (.p (arF .lss (tt 10) (ii 8))) [pp 10]]) (
 .cond (tt 11) (.skip) (.exit 0))) (
 .seq (.block 1 (.reg [
 mv 14 0,
 qo 15 (.c (callF (ff 252) [(tt 14)])) [pp 14],
 mv 0 15])) (
 .reg [
 mv 12 5,
 qo 13 (.p (arF .add (tt 12) (ii 1))) [pp 12],
 mv 5 13]))
noncomputable def c242:CFn:=⟨[.tmp (pp 4)],
 .seq (.reg [
 qo 4 (.p (S.get (.c (.int .u32 0)))) []]) (
 .seq (.reg [
 mv 6 0,
 mv 7 1,
 qo 8 (.p (convF .u32 (tt 7))) [pp 7],
 qo 9 (.p (arF .xor (tt 6) (tt 8))) [pp 6,pp 8],
 mv 0 9]) (
 .seq (.seq (.reg [
 qo 5 (.p (S.get (ii 0))) []]) (
 .block 0 (.loop c242_l0))) (
 .seq (.reg [
 mv 16 0,
 mv 4 16]) (
 .ret))))⟩
theorem c242_eq:fnOf Tryz.prog 242=some c242:=by kernel_rfl
noncomputable def c228_l0:C:=.seq (.seq (.reg [
 mv 9 6,
 mv 10 1,
 qo 11 (.p (lenF (tt 10))) [pp 10],
 qo 12 (.p (arF .lss (tt 9) (tt 11))) [pp 9,pp 11]]) (
 .cond (tt 12) (.skip) (.exit 0))) (
 .seq (.block 1 (.reg [
 mv 15 5,
 mv 16 1,
 mv 17 6,
 qo 18 (.p (iaddrSF (tt 16) (tt 17) 1)) [pp 16,pp 17],
 qo 19 (.r (loadF (tt 18) 1 .sc)) [pp 18],
 qo 20 (.c (callF (ff 242) [(tt 15),(tt 19)])) [pp 15,pp 19],
 mv 5 20])) (
 .reg [
 mv 13 6,
 qo 14 (.p (arF .add (tt 13) (ii 1))) [pp 13],
 mv 6 14]))
noncomputable def c228:CFn:=⟨[.tmp (pp 4)],
 .seq (.reg [
 qo 4 (.p (S.get (.c (.int .u32 0)))) []]) (
 .seq (.reg [
 mv 7 0,
 qo 8 (.p (unF .xor (tt 7))) [pp 7],
 mv 5 8]) (
 .seq (.seq (.reg [
 qo 6 (.p (S.get (ii 0))) []]) (
 .block 0 (.loop c228_l0))) (
 .seq (.reg [
 mv 21 5,
 qo 22 (.p (unF .xor (tt 21))) [pp 21],
 mv 4 22]) (
 .ret))))⟩
theorem c228_eq:fnOf Tryz.prog 228=some c228:=by kernel_rfl
noncomputable def c186:CFn:=⟨[.tmp (pp 2)],
 .seq (.reg [
 qo 2 (.p (S.get (.c (.int .u32 0)))) []]) (
 .seq (.reg [
 mv 3 0,
 qo 4 (.c (callF (ff 228) [(.c (.int .u32 0)),(tt 3)])) [pp 3],
 mv 2 4]) (
 .ret))⟩
theorem c186_eq:fnOf Tryz.prog 186=some c186:=by kernel_rfl
noncomputable def crcStep (r:Nat):Nat:=if r % 2=1 then crc.xo (r / 2) 2197175160 else r / 2
theorem crcStep_lt {r:Nat} (h:r < 4294967296):crcStep r < 4294967296:=by
 unfold crcStep
 split
 ·exact crc.xor_lt (by omega) (by decide)
 ·omega
noncomputable def crcSteps (r:Nat):Nat→Nat
 | 0=>r
 | i+1=>crcStep (crcSteps r i)
theorem crcSteps_lt {r:Nat} (h:r < 4294967296):∀ i,crcSteps r i < 4294967296
 | 0=>h
 | i+1=>crcStep_lt (crcSteps_lt h i)
def stepc (e c:Nat):Nat:=if(e+c) % 2=1 then c / 2 ^^^ 2197175160 else c / 2
theorem step_x (k e c:Nat) (he:e < 2):crcStep ((2*k+e) ^^^ c)=k ^^^ stepc e c:=by
 have hm:((2*k+e) ^^^ c) % 2=(e+c) % 2:=by
  have h:=@Nat.xor_mod_two_eq_one (2*k+e) c
  by_cases e1:((2*k+e) ^^^ c) % 2=1
  ·have:=h.1 e1;omega
  ·have:=(not_congr h).1 e1;omega
 have hd:((2*k+e) ^^^ c) / 2=k ^^^ (c / 2):=by
  rw[Nat.xor_div_two]
  rw[show (2*k+e) / 2=k by omega]
 unfold crcStep stepc
 rw[hm,hd]
 split
 ·show (k ^^^ c / 2) ^^^ 2197175160=_
  rw[Nat.xor_assoc]
 ·rfl
theorem tab_ok:∀ b,b < 16→stepc (b / 8 % 2) (stepc (b / 4 % 2) (stepc (b / 2 % 2) (stepc (b % 2) 0)))=crc.at' b
 | 0,_=>by decide +kernel | 1,_=>by decide +kernel | 2,_=>by decide +kernel | 3,_=>by decide +kernel | 4,_=>by decide +kernel | 5,_=>by decide +kernel | 6,_=>by decide +kernel | 7,_=>by decide +kernel
 | 8,_=>by decide +kernel | 9,_=>by decide +kernel | 10,_=>by decide +kernel | 11,_=>by decide +kernel | 12,_=>by decide +kernel | 13,_=>by decide +kernel | 14,_=>by decide +kernel | 15,_=>by decide +kernel
 | n+16,h=>absurd h (by omega)
theorem four_ok (a:Nat):crcStep (crcStep (crcStep (crcStep a)))=crc.half a:=by
 have h0:=step_x (a / 2) (a % 2) 0 (Nat.mod_lt _ (by decide))
 rw[show 2*(a / 2)+a % 2=a by omega,Nat.xor_zero] at h0
 have h1:=step_x (a / 4) (a / 2 % 2) (stepc (a % 2) 0) (Nat.mod_lt _ (by decide))
 rw[show 2*(a / 4)+a / 2 % 2=a / 2 by omega] at h1
 have h2:=step_x (a / 8) (a / 4 % 2) (stepc (a / 2 % 2) (stepc (a % 2) 0)) (Nat.mod_lt _ (by decide))
 rw[show 2*(a / 8)+a / 4 % 2=a / 4 by omega] at h2
 have h3:=step_x (a / 16) (a / 8 % 2) (stepc (a / 4 % 2) (stepc (a / 2 % 2) (stepc (a % 2) 0))) (Nat.mod_lt _ (by decide))
 rw[show 2*(a / 16)+a / 8 % 2=a / 8 by omega] at h3
 rw[h0,h1,h2,h3]
 have hl:crc.lo a=a % 16:=Nat.and_two_pow_sub_one_eq_mod a 4
 have ht:=tab_ok (a % 16) (Nat.mod_lt _ (by decide))
 rw[show a % 16 / 8 % 2=a / 8 % 2 by omega,show a % 16 / 4 % 2=a / 4 % 2 by omega,show a % 16 / 2 % 2=a / 2 % 2 by omega,show a % 16 % 2=a % 2 by omega] at ht
 rw[ht]
 show _=(a / 16) ^^^ crc.at' (crc.lo a)
 rw[hl]
theorem eight_ok (r c:Nat):crcSteps (crc.xo r c) 8=crc.takeN r c:=by
 show crcStep (crcStep (crcStep (crcStep (crcStep (crcStep (crcStep (crcStep (crc.xo r c))))))))=_
 rw[four_ok,four_ok]
 rfl
theorem rem_u32 (a b:Nat) (hb:b≠0):arith .rem (.int .u32 (a:Int)) (.int .u32 (b:Int))=some (.int .u32 ((a % b:Nat):Int)):=by
 have h0:eqI (b:Int) 0=false:=by
  rw[C9];simpa using hb
 show (match eqI (b:Int) 0 with | true=>none | false=>frc (remI (a:Int) (b:Int)) fun n=>some (V.int .u32 n))=_
 rw[h0]
 show frc (((a % b:Nat)):Int) _=_
 generalize a % b=z
 cases z<;>rfl
theorem quo_u32 (a b:Nat) (hb:b≠0) (ha:a < 4294967296):arith .quo (.int .u32 (a:Int)) (.int .u32 (b:Int))=some (.int .u32 ((a / b:Nat):Int)):=by
 have h0:eqI (b:Int) 0=false:=by
  rw[C9];simpa using hb
 show (match eqI (b:Int) 0 with | true=>none | false=>mkI .u32 (quoI (a:Int) (b:Int)))=_
 rw[h0]
 show mkI .u32 ((a / b:Nat):Int)=_
 rw[Db,crc.u32_wrap (Nat.lt_of_le_of_lt (Nat.div_le_self _ _) ha)]
theorem crcStep_ok (H:Heap) {r:Nat} (hr:r < 4294967296) (lf n:Nat):callS Tryz.prog S0 lf (n+1) 252 [.int .u32 (r:Int)] H=some (.v (.int .u32 ((crcStep r:Nat):Int)),H):=by
 obtain⟨v,H',e,rfl,rfl⟩:ret (callS Tryz.prog S0 lf (n+1) 252 [.int .u32 (r:Int)] H) fun v H'=>v=.int .u32 ((crcStep r:Nat):Int)∧H'=H:=by
  have r1:arith .rem (.int .u32 (r:Int)) (.int .u32 2)=some (.int .u32 ((r % 2:Nat):Int)):=rem_u32 r 2 (by decide)
  have r2:arith .quo (.int .u32 (r:Int)) (.int .u32 2)=some (.int .u32 ((r / 2:Nat):Int)):=quo_u32 r 2 (by decide) hr
  have r3:arith .xor (.int .u32 ((r / 2:Nat):Int)) (.int .u32 2197175160)=some (.int .u32 ((crc.xo (r / 2) 2197175160:Nat):Int)):=crc.xor_u32 (by omega) (by decide)
  have hs:crcStep r=if r % 2=1 then crc.xo (r / 2) 2197175160 else r / 2:=rfl
  rw[hs]
  generalize crc.xo (r / 2) 2197175160=z at *
  generalize r / 2=y at *
  generalize r % 2=w at *
  refine ret_call rfl c252_eq ?_
  by_cases h:w=1
  ·subst h
   have b:(((1:Nat):Int)==1)=true:=rfl
   simp only[c252,r1,r2,r3,b,sy,tup,↓reduceIte,zA,zG,zC,zD,zF,zE,zB,zH,reduceCtorEq]
   simp
  ·have b:((w:Int)==1)=false:=by simp;omega
   simp only[c252,r1,r2,r3,b,sy,tup,↓reduceIte,zA,zG,zC,zD,zF,zE,zB,zH,reduceCtorEq]
   simp[h]
 exact e
theorem rtake8_ok (H:Heap) {r c:Nat} (hr:r < 4294967296) (hc:c < 256) {lf:Nat} (hlf:17 < lf) (n:Nat):callS Tryz.prog S0 lf (n+2) 242 [.int .u32 (r:Int),.int .u8 (c:Int)] H=some (.v (.int .u32 ((crc.takeN r c:Nat):Int)),H):=by
 obtain⟨v,H',e,rfl,rfl⟩:ret (callS Tryz.prog S0 lf (n+2) 242 [.int .u32 (r:Int),.int .u8 (c:Int)] H) fun v H'=>v=.int .u32 ((crc.takeN r c:Nat):Int)∧H'=H:=by
  have w0:=crc.u32_wrap (show c < 4294967296 by omega)
  have x0:=crc.xor_u32 hr (show c < 4294967296 by omega)
  have hx:=crc.xor_lt hr (show c < 4294967296 by omega)
  have h8:=eight_ok r c
  generalize crc.xo r c=x at *
  refine ret_call rfl c242_eq ?_
  simp only[c242,w0,x0,sy,tup,↓reduceIte,zA,zG,zC,zD,zF,zE,zB,zH,reduceCtorEq]
  have hloop:∀ t:T,t.getP (Tr.path 0)=some (.int .u32 (x:Int))→t.getP (Tr.path 5)=some (.int .i64 0) →
    wp (loopF (runC (callS Tryz.prog S0 lf (n+1)) lf c242_l0) lf ⟨t,H,[]⟩) fun y s'=>y=.ex 0∧s'.d=[]∧s'.H=H∧s'.t.getP (Tr.path 0)=some (.int .u32 ((crcSteps x 8:Nat):Int)):=by
   intro t q0 q5
   refine wp_loopF (fun j s'=>∃ i:Nat,j=8 - i∧i≤8∧s'.d=[]∧s'.H=H∧s'.t.getP (Tr.path 0)=some (.int .u32 ((crcSteps x i:Nat):Int))∧s'.t.getP (Tr.path 5)=some (.int .i64 (i:Int))) ?_ lf 8 _ ⟨0,rfl,by omega,rfl,rfl,q0,q5⟩ (by omega)
   rintro j ⟨t,HH,d⟩ ⟨i,rfl,hi,hd,hH,q0,q5⟩
   dsimp only at hd hH q0 q5
   subst hd;subst hH
   by_cases hlt:i < 8
   ·have hlt':(i:Int) < 8:=by omega
    have w2:IntKind.i64.wrap ((i:Int)+1)=((i+1:Nat):Int):=by rw[wrap_i64 (by omega)];omega
    have e:=crcStep_ok HH (crcSteps_lt hx i) lf n
    simp only[c242_l0,q0,q5,hlt',w2,e,sy,tup,↓reduceIte,zA,zG,zC,zD,zF,zE,zB,zH,reduceCtorEq]
    exact⟨8 - (i+1),by omega,i+1,rfl,by omega,trivial,trivial,rfl,by simp⟩
   ·have:i=8:=by omega
    subst this
    have hnl:decide (((8:Nat):Int) < 8)=false:=rfl
    simp only[c242_l0,q0,q5,hnl,sy,tup,↓reduceIte,zA,zG,zC,zD,zF,zE,zB,zH,reduceCtorEq]
    exact⟨trivial,trivial,trivial,by first | trivial | exact q0⟩
  refine wp_ctx (F:=fun r=>seqC _ _ _ (blockC _ r)) (hloop _ ?_ ?_) ?_
  ·simp only[sy,tup,↓reduceIte,zA,zG,zC,zD,zF,zE,zB,zH,reduceCtorEq]
  ·simp only[sy,tup,↓reduceIte,zA,zG,zC,zD,zF,zE,zB,zH,reduceCtorEq]
  rintro y ⟨t,HH,d⟩ ⟨rfl,hd,hH,q0⟩
  dsimp only at hd hH q0
  subst hd;subst hH
  rw[h8] at q0
  simp only[q0,sy,tup,↓reduceIte,zA,zG,zC,zD,zF,zE,zB,zH,reduceCtorEq]
  simp
 exact e
theorem rof_ok {H:Heap} {p:Ptr} {len cap loose:Nat} {c:Nat→Nat} (hm:len < 1000000) (hb:∀ i,i < len→c i < 256) (hd:∀ i,i < len→loadAt H ⟨p.b,p.o+i⟩ 1=some [.int .u8 (c i:Int)]) (lf n:Nat) (hlf:len+18 < lf) :
  callS Tryz.prog S0 lf (n+4) 186 [.slice (some p) len cap loose] H=some (.v (.int .u32 ((notN (crcN c len):Nat):Int)),H):=by
 have e1:callS Tryz.prog S0 lf (n+3) 228 [.int .u32 0,.slice (some p) len cap loose] H=some (.v (.int .u32 ((notN (crcN c len):Nat):Int)),H):=by
  obtain⟨v,H',e,rfl,rfl⟩:ret (callS Tryz.prog S0 lf (n+3) 228 [.int .u32 0,.slice (some p) len cap loose] H) fun v H'=>v=.int .u32 ((notN (crcN c len):Nat):Int)∧H'=H:=by
   refine ret_call rfl c228_eq ?_
   have u0:unary .xor (.int .u32 0)=some (.int .u32 4294967295):=by kernel_rfl
   have hloop:∀ t:T,t.getP (Tr.path 1)=some (.slice (some p) len cap loose)→t.getP (Tr.path 5)=some (.int .u32 4294967295)→t.getP (Tr.path 6)=some (.int .i64 0) →
     wp (loopF (runC (callS Tryz.prog S0 lf (n+2)) lf c228_l0) lf ⟨t,H,[]⟩) fun x s=>x=.ex 0∧s.d=[]∧s.H=H∧s.t.getP (Tr.path 5)=some (.int .u32 ((crcN c len:Nat):Int)):=by
    intro t q1 q5 q6
    refine wp_loopF (fun k s=>∃ i:Nat,k=len - i∧i≤len∧s.d=[]∧s.H=H∧s.t.getP (Tr.path 1)=some (.slice (some p) len cap loose)∧s.t.getP (Tr.path 5)=some (.int .u32 ((crcN c i:Nat):Int))∧s.t.getP (Tr.path 6)=some (.int .i64 (i:Int))) ?_ lf len _ ⟨0,rfl,by omega,rfl,rfl,q1,q5,q6⟩ (by omega)
    rintro k ⟨t,HH,d⟩ ⟨i,rfl,hi,hd',hH,q1,q5,q6⟩
    dsimp only at hd' hH q1 q5 q6
    subst hd';subst hH
    by_cases hlt:i < len
    ·have hlt':(i:Int) < (len:Int):=by omega
     have hle':i+1≤len:=hlt
     have lk:=hd i hlt
     have w3:IntKind.i64.wrap ((i:Int)+1)=((i+1:Nat):Int):=by rw[wrap_i64 (by omega)];omega
     have tk:=rtake8_ok HH (crcN_lt (c:=c) (n:=i) (fun j hj=>hb j (by omega))) (hb i hlt) (lf:=lf) (by omega) n
     simp only[c228_l0,q1,q5,q6,hlt',hle',w3,lk,tk,Nat.mul_one,sy,tup,↓reduceIte,zA,zG,zC,zD,zF,zE,zB,zH,reduceCtorEq]
     exact⟨len - (i+1),by omega,i+1,rfl,by omega,trivial,trivial,trivial,rfl,by simp⟩
    ·have:i=len:=by omega
     subst this
     simp only[c228_l0,q1,q5,q6,Nat.lt_irrefl,Int.lt_irrefl,sy,tup,↓reduceIte,zA,zG,zC,zD,zF,zE,zB,zH,reduceCtorEq]
     exact⟨trivial,trivial,trivial,trivial⟩
   have un:=not_u32 (crcN_lt hb)
   simp only[c228,u0,sy,tup,↓reduceIte,zA,zG,zC,zD,zF,zE,zB,zH,reduceCtorEq]
   refine wp_ctx (F:=fun r=>seqC _ _ _ (blockC _ r)) (hloop _ ?_ ?_ ?_) ?_
   ·simp only[sy,tup,↓reduceIte,zA,zG,zC,zD,zF,zE,zB,zH,reduceCtorEq]
   ·simp only[sy,tup,↓reduceIte,zA,zG,zC,zD,zF,zE,zB,zH,reduceCtorEq]
   ·simp only[sy,tup,↓reduceIte,zA,zG,zC,zD,zF,zE,zB,zH,reduceCtorEq]
   rintro x ⟨t,HH,d⟩ ⟨rfl,hd',hH,q5⟩
   dsimp only at hd' hH q5
   subst hd';subst hH
   simp only[q5,un,sy,tup,↓reduceIte,zA,zG,zC,zD,zF,zE,zB,zH,reduceCtorEq]
   simp
  exact e
 obtain⟨v,H',e,rfl,rfl⟩:ret (callS Tryz.prog S0 lf (n+4) 186 [.slice (some p) len cap loose] H) fun v H'=>v=.int .u32 ((notN (crcN c len):Nat):Int)∧H'=H:=by
  refine ret_call rfl c186_eq ?_
  simp only[c186,e1,sy,tup,↓reduceIte,zA,zG,zC,zD,zF,zE,zB,zH,reduceCtorEq]
  simp
 exact e
end Go.Proofs.YtabebpemfinejaaGreat.draft
namespace Go.Proofs.YtabebpemfinejaaGreat.draft
open Go.Am
noncomputable def c125_l0:C:=.seq (.seq (.reg [
 mv 49 12,
 qo 50 (.p (arF .lss (tt 49) (ii 64))) [pp 49]]) (
 .cond (tt 50) (.skip) (.exit 2))) (
 .seq (.block 3 (.reg [
 mv 53 12,
 mv 54 8,
 mv 55 12,
 qo 56 (.p (iaddrSF (tt 54) (tt 55) 1)) [pp 54,pp 55],
 qo 57 (.r (loadF (tt 56) 1 .sc)) [pp 56],
 qo 58 (.p (iaddrAF (tt 11) (tt 53) 64 1)) [pp 11,pp 53],
 qn (.a (storeF (tt 58) (tt 57) 1)) [pp 58,pp 57]])) (
 .reg [
 mv 51 12,
 qo 52 (.p (arF .add (tt 51) (ii 1))) [pp 51],
 mv 12 52]))
noncomputable def c125_l1:C:=.seq (.seq (.reg [
 mv 30 8,
 qo 31 (.p (lenF (tt 30))) [pp 30],
 qo 32 (.p (arF .lss (tt 31) (ii 52))) [pp 31]]) (
 .cond (tt 32) (.skip) (.exit 0))) (
 .block 1 (.reg [
 mv 33 8,
 qo 34 (.m (bsliceF 1 1 [.int .u8 0] [(0,1,(.c (.int .u8 0)))])) [],
 qo 35 (.a (appF 1 1 (tt 33) (tt 34))) [pp 33,pp 34],
 mv 8 35]))
noncomputable def c125:CFn:=⟨[.cell (pp 4) 64 .bk,.tmp (pp 5)],
 .seq (.reg [
 qo 4 (.m (allocF 64 [.blk 0])) [],
 qo 5 (.p (S.get (ii 0))) []]) (
 .seq (.seq (.reg [
 mv 13 0,
 qo 14 (.p (eqcF false false [.int .u64] (tt 13) (.c (.int .u64 0)))) [pp 13]]) (
 .cond (tt 14) (.seq (.reg [
 qo 15 (.p (buildF [.blk 0] .bk [])) [],
 qn (.a (storeF (tt 4) (tt 15) 64)) [pp 4,pp 15],
 qo 5 (.p (S.get (ii 2))) []]) (
 .ret)) (.skip))) (
 .seq (.seq (.reg [
 mv 16 1,
 qo 17 (.p (lenF (tt 16))) [pp 16],
 qo 18 (.p (arF .gtr (tt 17) (ii 44))) [pp 17]]) (
 .cond (tt 18) (.seq (.reg [
 qo 19 (.p (buildF [.blk 0] .bk [])) [],
 qn (.a (storeF (tt 4) (tt 19) 64)) [pp 4,pp 19],
 qo 5 (.p (S.get (ii 3))) []]) (
 .ret)) (.skip))) (
 .seq (.reg [
 mv 21 0,
 qo 22 (.c (callF (ff 187) [(tt 21),(ii 8)])) [pp 21],
 mv 20 22,
 qo 23 (.p (extF (tt 20) 0)) [pp 20],
 qo 24 (.p (extF (tt 20) 1)) [pp 20],
 mv 6 23,
 mv 7 24]) (
 .seq (.reg [
 mv 25 6,
 qo 26 (.c (callF (ff 185) [(tt 25)])) [pp 25],
 mv 8 26]) (
 .seq (.reg [
 mv 27 8,
 mv 28 1,
 qo 29 (.a (appF 1 1 (tt 27) (tt 28))) [pp 27,pp 28],
 mv 8 29]) (
 .seq (.block 0 (.loop c125_l1)) (
 .seq (.reg [
 mv 37 8,
 qo 38 (.c (callF (ff 186) [(tt 37)])) [pp 37],
 qo 39 (.p (convF .u64 (tt 38))) [pp 38],
 qo 40 (.c (callF (ff 187) [(tt 39),(ii 4)])) [pp 39],
 mv 36 40,
 qo 41 (.p (extF (tt 36) 0)) [pp 36],
 qo 42 (.p (extF (tt 36) 1)) [pp 36],
 mv 9 41,
 mv 10 42]) (
 .seq (.reg [
 mv 43 8,
 mv 44 9,
 qo 45 (.a (appF 1 1 (tt 43) (tt 44))) [pp 43,pp 44],
 mv 8 45]) (
 .seq (.reg [
 mv 46 8,
 mv 47 6,
 qo 48 (.a (appF 1 1 (tt 46) (tt 47))) [pp 46,pp 47],
 mv 8 48]) (
 .seq (.reg [
 qo 11 (.m (allocF 64 [.blk 0])) []]) (
 .seq (.seq (.reg [
 qo 12 (.p (S.get (ii 0))) []]) (
 .block 2 (.loop c125_l0))) (
 .seq (.reg [
 qo 59 (.r (loadF (tt 11) 64 .bk)) [pp 11],
 qn (.a (storeF (tt 4) (tt 59) 64)) [pp 4,pp 59],
 qo 5 (.p (S.get (ii 0))) []]) (
 .ret)))))))))))))⟩
theorem c125_eq:fnOf Tryz.prog 125=some c125:=by kernel_rfl
noncomputable def c185:CFn:=⟨[.tmp (pp 2)],
 .seq (.reg [
 qo 2 (.p (S.get (.c (.slice none 0 0 0)))) []]) (
 .seq (.reg [
 qo 3 (.p (S.get (.c (.slice none 0 0 0)))) []]) (
 .seq (.reg [
 mv 4 3,
 mv 5 0,
 qo 6 (.a (appF 1 1 (tt 4) (tt 5))) [pp 4,pp 5],
 mv 2 6]) (
 .ret)))⟩
theorem c185_eq:fnOf Tryz.prog 185=some c185:=by kernel_rfl
noncomputable def fillN (f:Nat→Nat):Nat→Nat
 | 0=>0
 | i+1=>setByte (fillN f i) i (f i)
theorem fillN_lt {f:Nat→Nat} (h:∀ i,f i < 256):∀ n,n≤64→fillN f n < 256 ^ 64
 | 0,_=>by show 0 < _;decide +kernel
 | n+1,hn=>setByte_lt _ _ _ (h n) (by omega) (fillN_lt h n (by omega))
theorem byte_fillN {f:Nat→Nat} (h:∀ i,f i < 256):∀ n j,byte (fillN f n) j=if j < n then f j else byte 0 j
 | 0,j=>rfl
 | n+1,j=>by
  show byte (setByte (fillN f n) n (f n)) j=_
  rw[byte_setByte _ _ _ _ (h n),byte_fillN h n j]
  by_cases e:j=n
  ·subst e;simp
  ·rw[if_neg e]
   by_cases h2:j < n
   ·rw[if_pos h2,if_pos (by omega)]
   ·rw[if_neg h2,if_neg (by omega)]
theorem rcopy_ok {H0 H:Heap} {l:List Nat} {y:V} (hy:Lst H0 H 1 (rowsN l) y) (hl:l.length≤1000) (lf n:Nat):ret (callS Tryz.prog S0 lf (n+1) 185 [y] H) fun v H'=>Turns Z H H'∧Lst H H' 1 (rowsN l) v:=by
 obtain⟨w,H',ea,hw,ta⟩:=appL (Lst.nil H H 1) hy (rowsN_bytes _) (Nat.le_refl _) (by rw[rowsN_len];simp;omega)
 rw[List.nil_append] at hw
 refine ret_call rfl c185_eq ?_
 simp only[c185,ea,sy,tup,↓reduceIte,zA,zG,zC,zD,zF,zE,zB,zH,reduceCtorEq]
 exact⟨trivial,.inr trivial,_,rfl,lst_away (Lst.nil H H 1) (Turns.refl _ _) (Nat.le_refl _) ta,hw⟩
noncomputable def headOf (N:Nat) (l:List Nat):List Nat:=digs N 8++(l++List.replicate (44 - l.length) 0)
noncomputable def sumOf (N:Nat) (l:List Nat):Nat:=notN (crcN (fun i=>(headOf N l).getD i 0) 52)
noncomputable def rowOf (N:Nat) (l:List Nat):List Nat:=(headOf N l++digs (sumOf N l) 4)++digs N 8
noncomputable def blkOf (N:Nat) (l:List Nat):Nat:=fillN (fun i=>(rowOf N l).getD i 0) 64
theorem head_len {N:Nat} {l:List Nat} (h:l.length≤44):(headOf N l).length=52:=by
 unfold headOf
 rw[List.length_append,List.length_append,digs_len,List.length_replicate];omega
theorem row_len {N:Nat} {l:List Nat} (h:l.length≤44):(rowOf N l).length=64:=by
 unfold rowOf
 rw[List.length_append,List.length_append,digs_len,digs_len,head_len h]
theorem head_lt {N:Nat} {l:List Nat} (h:∀ x ∈ l,x < 256):∀ x ∈ headOf N l,x < 256:=by
 intro x hx
 unfold headOf at hx
 rcases List.mem_append.1 hx with h1 | h1
 ·exact digs_lt N 8 x h1
 ·rcases List.mem_append.1 h1 with h2 | h2
  ·exact h x h2
  ·rw[(List.mem_replicate.1 h2).2];decide
theorem row_lt {N:Nat} {l:List Nat} (h:∀ x ∈ l,x < 256):∀ x ∈ rowOf N l,x < 256:=by
 intro x hx
 unfold rowOf at hx
 rcases List.mem_append.1 hx with h1 | h1
 ·rcases List.mem_append.1 h1 with h2 | h2
  ·exact head_lt h x h2
  ·exact digs_lt _ 4 x h2
 ·exact digs_lt N 8 x h1
theorem getD_lt {l:List Nat} (h:∀ x ∈ l,x < 256) (i:Nat):l.getD i 0 < 256:=by
 rw[List.getD_eq_getElem?_getD]
 cases e:l[i]? with
 | none=>decide
 | some x=>exact h x (List.mem_of_getElem? e)
theorem getD_some {l:List Nat} {i:Nat} (h:i < l.length):l[i]?=some (l.getD i 0):=by
 rw[List.getD_eq_getElem?_getD,List.getElem?_eq_getElem h];rfl
theorem load_same {H K:Heap} {p:Ptr} {n:Nat} (h:K.get p.b=H.get p.b):loadAt K p n=loadAt H p n:=by
 unfold loadAt
 rw[h]
theorem bload {H0 H:Heap} {l:List Nat} {v:V} (h:Lst H0 H 1 (rowsN l) v) (hne:l≠[]):∃ k,v=.slice (some ⟨.run k,0⟩) l.length l.length 1∧k < H.next∧∀ i,i < l.length→loadAt H ⟨.run k,i⟩ 1=some [.int .u8 ((l.getD i 0:Nat):Int)]:=by
 have hv:=h
 rcases hv with ⟨e,_⟩ | ⟨k,_,rfl,hg,h1,h2⟩
 ·exact absurd (List.map_eq_nil_iff.1 e) hne
 refine⟨k,by rw[rowsN_len],h2,fun i hi=>?_⟩
 obtain⟨k',e',lk⟩:=h.load (o:=0) (k:=1) (rowsN_get (getD_some hi)) (by omega)
 cases e'
 rw[Nat.mul_one,Nat.add_zero] at lk
 exact lk.trans rfl
theorem rput7_ok {H0 H:Heap} {l:List Nat} {y:V} (hy:Lst H0 H 1 (rowsN l) y) (hl:l.length≤44) (hb:∀ x ∈ l,x < 256) {N:Nat} (hN:N < 18446744073709551616) (hN0:N≠0) {lf:Nat} (hlf:80 < lf) (n:Nat) :
  ret (callS Tryz.prog S0 lf (n+5) 125 [.int .u64 (N:Int),y] H) fun v H'=>Turns Z H H'∧v=.tuple [.blk (blkOf N l),.int .i64 0]:=by
 have t1:=Turns.add Z H (.rows false 64 [[.blk 0]])
 have hg1:(H.add (.rows false 64 [[.blk 0]])).get (.run H.next)=some (.rows false 64 [[.blk 0]]):=by rw[Heap.get_add,if_pos rfl]
 have hn1:(H.add (.rows false 64 [[.blk 0]])).next=H.next+1:=by simp
 obtain⟨H1,hH1⟩:∃ K,H.add (.rows false 64 [[.blk 0]])=K:=⟨_,rfl⟩
 rw[hH1] at t1 hg1 hn1
 have b0:((N:Int)==0)=false:=by simp;exact hN0
 obtain⟨p,cp,oo,ey⟩:=hy.val
 rw[rowsN_len] at ey
 have g44:¬ ((44:Int) < (l.length:Int)):=by omega
 obtain⟨vn,H2,en,t2,hvn⟩:=rnput_ok H1 hN (s:=8) (by omega) (show 17 < lf by omega) (n+3)
 change callS Tryz.prog S0 lf (n+4) 187 [.int .u64 (N:Int),.int .i64 8] H1=_ at en
 have hz8:N / 256 ^ 8=0:=Nat.div_eq_of_lt (by rw[show (256:Nat) ^ 8=18446744073709551616 by decide +kernel];exact hN)
 rcases hvn with ⟨_,yn,rfl,hyn⟩ | ⟨h,_⟩
 rotate_left
 ·exact absurd hz8 h
 obtain⟨vc,H3,ec,t3,hvc⟩:=rcopy_ok hyn (by rw[digs_len];omega) lf (n+3)
 have t13:=(t1.trans t2).trans t3
 have hy3:=hy.turns t13 (fun _ _=>id)
 obtain⟨va,H4,ea,hva,ta⟩:=appL hvc hy3 (rowsN_bytes _) t3.next (by rw[rowsN_len,rowsN_len,digs_len];omega)
 rw[← rowsN_app] at hva
 have t4:Turns Z H2 H4:=lst_away hvc t3 (Nat.le_refl _) ta
 have hloop:∀ t:T,t.getP (Tr.path 6)=some yn→t.getP (Tr.path 8)=some va→t.getP (Tr.path 4)=some (.ptr (some ⟨.run H.next,0⟩)) →
   wp (loopF (runC (callS Tryz.prog S0 lf (n+4)) lf c125_l1) lf ⟨t,H4,[]⟩) fun x s'=>x=.ex 0∧s'.d=[]∧s'.t.getP (Tr.path 6)=some yn∧s'.t.getP (Tr.path 4)=some (.ptr (some ⟨.run H.next,0⟩))∧∃ w,s'.t.getP (Tr.path 8)=some w∧Lst H2 s'.H 1 (rowsN (headOf N l)) w∧Turns Z H2 s'.H:=by
  intro t q6 q8 q4
  refine wp_loopF (fun j s'=>∃ i:Nat,j=44 - l.length - i∧i≤44 - l.length∧s'.d=[]∧s'.t.getP (Tr.path 6)=some yn∧s'.t.getP (Tr.path 4)=some (.ptr (some ⟨.run H.next,0⟩))∧∃ w,s'.t.getP (Tr.path 8)=some w∧Lst H2 s'.H 1 (rowsN (digs N 8++(l++List.replicate i 0))) w∧Turns Z H2 s'.H) ?_ lf (44 - l.length) _ ⟨0,rfl,by omega,rfl,q6,q4,_,q8,by simpa using hva,t4⟩ (by omega)
  rintro j ⟨t,HH,d⟩ ⟨i,rfl,hi,hd,q6,q4,w,q8,hw,tz⟩
  dsimp only at hd q6 q4 q8 hw tz
  subst hd
  have hlen:(digs N 8++(l++List.replicate i 0)).length=8+(l.length+i):=by rw[List.length_append,List.length_append,digs_len,List.length_replicate]
  obtain⟨L,hL⟩:∃ L,L=8+(l.length+i):=⟨_,rfl⟩
  obtain⟨pw,cw,ow,ew⟩:=hw.val
  rw[rowsN_len,hlen,← hL] at ew
  rw[ew] at q8
  by_cases hlt:L < 52
  ·have hlt':(L:Int) < 52:=by omega
   obtain⟨H',e1,hv',t1'⟩:=appB hw tz.next (by rw[rowsN_len,hlen];omega) 0
   have hz:rowsN (digs N 8++(l++List.replicate (i+1) 0))=rowsN (digs N 8++(l++List.replicate i 0))++[[.int .u8 ((0:Nat):Int)]]:=by
    rw[List.replicate_succ',← List.append_assoc l,← List.append_assoc,rowsN_app (digs N 8++(l++List.replicate i 0))];rfl
   rw[← hz] at hv'
   have tz':=lst_away hw tz (Nat.le_refl _) t1'
   rw[ew] at e1
   have e1':appendV 1 1 (HH.add (.rows false 1 [[.int .u8 0]])) (.slice pw L cw ow) (.slice (some ⟨.run HH.next,0⟩) 1 1 0)=_:=e1
   simp only[c125_l1,q4,q6,q8,hlt',e1',sy,tup,↓reduceIte,zA,zG,zC,zD,zF,zE,zB,zH,reduceCtorEq]
   exact⟨44 - l.length - (i+1),by omega,i+1,rfl,by omega,trivial,trivial,trivial,_,rfl,hv',tz'⟩
  ·have hi':i=44 - l.length:=by omega
   have hlt':¬ (L:Int) < 52:=by omega
   subst hi'
   simp only[c125_l1,q4,q6,q8,hlt',sy,tup,↓reduceIte,zA,zG,zC,zD,zF,zE,zB,zH,reduceCtorEq]
   exact⟨trivial,trivial,trivial,trivial,_,rfl,by rw[← ew];exact hw,tz⟩
 refine ret_call rfl c125_eq ?_
 rw[ey] at ea
 rw[ey]
 simp only[c125,hH1,b0,g44,en,ec,ea,sy,tup,↓reduceIte,zA,zG,zC,zD,zF,zE,zB,zH,reduceCtorEq]
 refine wp_ctx (F:=fun r=>seqC _ _ _ (blockC _ r)) (hloop _ ?_ ?_ ?_) ?_
 ·simp only[sy,tup,↓reduceIte,zA,zG,zC,zD,zF,zE,zB,zH,reduceCtorEq]
 ·simp only[sy,tup,↓reduceIte,zA,zG,zC,zD,zF,zE,zB,zH,reduceCtorEq]
 ·simp only[sy,tup,↓reduceIte,zA,zG,zC,zD,zF,zE,zB,zH,reduceCtorEq]
 rintro x ⟨t,H5,d⟩ ⟨rfl,hd,q6,q4,w,q8,hw,t5⟩
 dsimp only at hd q6 q4 q8 hw t5
 subst hd
 have hne:headOf N l≠[]:=fun e=>by have:=head_len (N:=N) hl;rw[e] at this;exact absurd this (by decide)
 obtain⟨k,ew,_,lw⟩:=bload hw hne
 rw[head_len hl] at ew lw
 have eo:=rof_ok (H:=H5) (p:=⟨.run k,0⟩) (len:=52) (cap:=52) (loose:=1) (c:=fun i=>(headOf N l).getD i 0) (by omega) (fun i _=>getD_lt (head_lt hb) i) (fun i hi=>by simpa using lw i hi) lf n (by omega)
 have hs4:sumOf N l < 4294967296:=notN_lt (crcN_lt (fun i _=>getD_lt (head_lt hb) i))
 change _=some (Rs.v (V.int .u32 ((sumOf N l:Nat):Int)),H5) at eo
 have hro:rowOf N l=(headOf N l++digs (sumOf N l) 4)++digs N 8:=rfl
 obtain⟨sm,hsm⟩:∃ z,z=sumOf N l:=⟨_,rfl⟩
 rw[← hsm] at eo hs4 hro
 have w64:IntKind.u64.wrap (sm:Int)=(sm:Int):=wrap_u64 (by omega)
 obtain⟨vs,H6,es,t6,hvs⟩:=rnput_ok H5 (N:=sm) (by omega) (s:=4) (by omega) (show 17 < lf by omega) (n+3)
 change callS Tryz.prog S0 lf (n+4) 187 [.int .u64 (sm:Int),.int .i64 4] H5=_ at es
 have hz4:sm / 256 ^ 4=0:=Nat.div_eq_of_lt hs4
 rcases hvs with ⟨_,ys,rfl,hys⟩ | ⟨h,_⟩
 rotate_left
 ·exact absurd hz4 h
 have hw6:=hw.turns t6 (fun _ _=>id)
 obtain⟨v7,H7,e7,hv7,t7⟩:=appL hw6 hys (rowsN_bytes _) (t5.trans t6).next (by rw[rowsN_len,rowsN_len,digs_len,head_len hl];omega)
 rw[← rowsN_app] at hv7
 have t27:Turns Z H2 H7:=lst_away hw6 (t5.trans t6) (Nat.le_refl _) t7
 have hyn7:=hyn.turns t27 (fun _ _=>id)
 obtain⟨v8,H8,e8,hv8,t8⟩:=appL hv7 hyn7 (rowsN_bytes _) t27.next (by rw[rowsN_len,rowsN_len,List.length_append,digs_len,digs_len,head_len hl];omega)
 rw[← rowsN_app,← hro] at hv8
 have t28:Turns Z H2 H8:=lst_away hv7 t27 (Nat.le_refl _) t8
 have hrl:=row_len (N:=N) hl
 obtain⟨kr,e8v,hkr,l8⟩:=bload hv8 (fun e=>by rw[e] at hrl;exact absurd hrl (by decide))
 rw[hrl] at e8v l8
 have t9:=Turns.add Z H8 (.rows false 64 [[.blk 0]])
 rw[ew] at q8 e7
 simp only[q4,q6,q8,eo,w64,es,e7,e8,sy,tup,↓reduceIte,zA,zG,zC,zD,zF,zE,zB,zH,reduceCtorEq]
 have g9:(H8.add (.rows false 64 [[.blk 0]])).get (.run H8.next)=some (.rows false 64 [[.blk 0]]):=by rw[Heap.get_add,if_pos rfl]
 obtain⟨kb,hkb⟩:∃ z,z=H8.next:=⟨_,rfl⟩
 have hfill:∀ t:T,t.getP (Tr.path 4)=some (.ptr (some ⟨.run H.next,0⟩))→t.getP (Tr.path 8)=some v8→t.getP (Tr.path 11)=some (.ptr (some ⟨.run kb,0⟩))→t.getP (Tr.path 12)=some (.int .i64 0) →
   wp (loopF (runC (callS Tryz.prog S0 lf (n+4)) lf c125_l0) lf ⟨t,H8.add (.rows false 64 [[.blk 0]]),[]⟩) fun x s'=>x=.ex 2∧s'.d=[]∧s'.t.getP (Tr.path 4)=some (.ptr (some ⟨.run H.next,0⟩))∧s'.t.getP (Tr.path 11)=some (.ptr (some ⟨.run kb,0⟩))∧s'.H.get (.run kb)=some (.rows false 64 [[.blk (blkOf N l)]])∧Turns Z H8 s'.H:=by
  intro t q4 q8 q11 q12
  refine wp_loopF (fun j s'=>∃ i:Nat,j=64 - i∧i≤64∧s'.d=[]∧s'.t.getP (Tr.path 4)=some (.ptr (some ⟨.run H.next,0⟩))∧s'.t.getP (Tr.path 8)=some v8∧s'.t.getP (Tr.path 11)=some (.ptr (some ⟨.run kb,0⟩))∧s'.t.getP (Tr.path 12)=some (.int .i64 (i:Int))∧s'.H.get (.run kb)=some (.rows false 64 [[.blk (fillN (fun i=>(rowOf N l).getD i 0) i)]])∧Turns Z H8 s'.H) ?_ lf 64 _ ⟨0,rfl,by omega,rfl,q4,q8,q11,q12,by rw[hkb];exact g9,t9⟩ (by omega)
  rintro j ⟨t,HH,d⟩ ⟨i,rfl,hi,hd,q4,q8,q11,q12,gb,tz⟩
  dsimp only at hd q4 q8 q11 q12 gb tz
  subst hd
  rw[e8v] at q8
  by_cases hlt:i < 64
  ·have hlt':(i:Int) < 64:=by omega
   have hle':i+1≤64:=hlt
   have w2:IntKind.i64.wrap ((i:Int)+1)=((i+1:Nat):Int):=by rw[wrap_i64 (by omega)];omega
   have lk:loadAt HH ⟨.run kr,i⟩ 1=some [.int .u8 (((rowOf N l).getD i 0:Nat):Int)]:=(load_same (tz.same (.run kr) hkr id)).trans (l8 i hlt)
   have sto:=disk.cell_store_byte gb hlt (getD_lt (l:=rowOf N l) (row_lt hb) i)
   have hf:fillN (fun i=>(rowOf N l).getD i 0) (i+1)=setByte (fillN (fun i=>(rowOf N l).getD i 0) i) i ((rowOf N l).getD i 0):=rfl
   rw[← hf] at sto
   generalize (rowOf N l).getD i 0=bb at *
   simp only[c125_l0,q4,q8,q11,q12,hlt',hle',w2,lk,sto,iaddrAF,Nat.mul_one,sy,tup,↓reduceIte,zA,zG,zC,zD,zF,zE,zB,zH,reduceCtorEq]
   exact⟨64 - (i+1),by omega,i+1,rfl,by omega,trivial,trivial,by rw[e8v],trivial,by simp,by rw[Heap.get_set,if_pos rfl],tz.setnew (by omega) _⟩
  ·have:i=64:=by omega
   subst this
   have hnl:decide (((64:Nat):Int) < 64)=false:=rfl
   simp only[c125_l0,q4,q8,q11,q12,hnl,sy,tup,↓reduceIte,zA,zG,zC,zD,zF,zE,zB,zH,reduceCtorEq]
   exact⟨trivial,trivial,trivial,trivial,gb,tz⟩
 refine wp_ctx (F:=fun r=>seqC _ _ _ (blockC _ r)) (hfill _ ?_ ?_ ?_ ?_) ?_
 ·simp only[q4,sy,tup,↓reduceIte,zA,zG,zC,zD,zF,zE,zB,zH,reduceCtorEq]
 ·simp only[sy,tup,↓reduceIte,zA,zG,zC,zD,zF,zE,zB,zH,reduceCtorEq]
 ·simp only[hkb,sy,tup,↓reduceIte,zA,zG,zC,zD,zF,zE,zB,zH,reduceCtorEq]
 ·simp only[sy,tup,↓reduceIte,zA,zG,zC,zD,zF,zE,zB,zH,reduceCtorEq]
 rintro x ⟨t,HF,d⟩ ⟨rfl,hd,q4,q11,gb,tF⟩
 dsimp only at hd q4 q11 gb tF
 subst hd
 have lb:loadAt HF ⟨.run kb,0⟩ 64=some [.blk (blkOf N l)]:=by rw[loadAt_eq gb (r:=[.blk (blkOf N l)]) rfl];exact Dr _ _
 have t1F:=(t2.trans t28).trans tF
 have gA:HF.get (.run H.next)=some (.rows false 64 [[.blk 0]]):=(t1F.same (.run H.next) (by show _ < _;omega) id).trans hg1
 have sA:=disk.cell_store (v:=blkOf N l) gA
 have lA:loadAt (HF.set (.run H.next) (.rows false 64 [[.blk (blkOf N l)]])) ⟨.run H.next,0⟩ 64=some [.blk (blkOf N l)]:=by rw[loadAt_eq (b:=.run H.next) (r:=[.blk (blkOf N l)]) (by rw[Heap.get_set,if_pos rfl]) rfl];exact Dr _ _
 simp only[q4,q11,lb,sA,lA,sy,tup,↓reduceIte,zA,zG,zC,zD,zF,zE,zB,zH,reduceCtorEq]
 exact⟨trivial,.inr trivial,_,rfl,(t1.trans t1F).setnew (Nat.le_refl _) _,rfl⟩
end Go.Proofs.YtabebpemfinejaaGreat.draft
namespace Go.Proofs.YtabebpemfinejaaGreat.draft
open Go.Am
noncomputable def c123:CFn:=⟨[.tmp (pp 2)],
 .seq (.reg [
 qo 2 (.p (S.get (.c (.bool false)))) []]) (
 .seq (.reg [
 mv 3 0,
 qo 4 (.p (arF .geq (tt 3) (.c (.int .u64 1)))) [pp 3],
 mv 5 4,
 mg 6 0 5 true,
 qg 7 (.p (arF .leq (tt 6) (.c (.int .u64 4611686018427387904)))) 5 true [pp 6],
 qo 8 (.p (pickF (tt 5) (tt 7) (.c (.bool false)))) [pp 5,pp 7],
 mv 2 8]) (
 .ret))⟩
theorem c123_eq:fnOf Tryz.prog 123=some c123:=by kernel_rfl
noncomputable def c124:CFn:=⟨[.tmp (pp 2)],
 .seq (.reg [
 qo 1 (.m (boxF 23 (tt 0))) [pp 0],
 qo 2 (.p (S.get (.c (.bool false)))) []]) (
 .seq (.reg [
 qo 3 (.p (faddrF (tt 1) 0)) [pp 1],
 qo 4 (.r (loadF (tt 3) 1 .sc)) [pp 3],
 qo 5 (.p (eqcF true false [.int .u64] (tt 4) (.c (.int .u64 0)))) [pp 4],
 mv 6 5,
 qg 7 (.p (faddrF (tt 1) 2)) 6 true [pp 1],
 qg 8 (.r (loadF (tt 7) 21 .ag)) 6 true [pp 7],
 qg 9 (.c (callF (ff 45) [(tt 8)])) 6 true [pp 8],
 qo 10 (.p (pickF (tt 6) (tt 9) (.c (.bool false)))) [pp 6,pp 9],
 mv 11 10,
 qg 12 (.p (faddrF (tt 1) 1)) 11 true [pp 1],
 qg 13 (.r (loadF (tt 12) 1 .sc)) 11 true [pp 12],
 qg 14 (.p (arF .geq (tt 13) (ii 0))) 11 true [pp 13],
 qo 15 (.p (pickF (tt 11) (tt 14) (.c (.bool false)))) [pp 11,pp 14],
 mv 16 15,
 qg 17 (.p (faddrF (tt 1) 1)) 16 true [pp 1],
 qg 18 (.r (loadF (tt 17) 1 .sc)) 16 true [pp 17],
 qg 19 (.p (faddrF (tt 1) 2)) 16 true [pp 1],
 qg 20 (.p (faddrF (tt 19) 0)) 16 true [pp 19],
 qg 21 (.p (faddrF (tt 20) 0)) 16 true [pp 20],
 qg 22 (.r (loadF (tt 21) 1 .sc)) 16 true [pp 21],
 qg 23 (.p (arF .lss (tt 18) (tt 22))) 16 true [pp 18,pp 22],
 qo 24 (.p (pickF (tt 16) (tt 23) (.c (.bool false)))) [pp 16,pp 23],
 mv 2 24]) (
 .ret))⟩
theorem c124_eq:fnOf Tryz.prog 124=some c124:=by kernel_rfl
noncomputable def c126:CFn:=⟨[.tmp (pp 2)],
 .seq (.reg [
 qo 1 (.m (boxF 23 (tt 0))) [pp 0],
 qo 2 (.p (S.get (.c (.slice none 0 0 0)))) []]) (
 .seq (.reg [
 qo 6 (.p (faddrF (tt 1) 0)) [pp 1],
 qo 7 (.r (loadF (tt 6) 1 .sc)) [pp 6],
 qo 8 (.c (callF (ff 188) [(.c (.slice none 0 0 0)),(tt 7),(ii 8)])) [pp 7],
 mv 3 8]) (
 .seq (.reg [
 mv 9 3,
 qo 10 (.p (faddrF (tt 1) 2)) [pp 1],
 qo 11 (.p (faddrF (tt 10) 0)) [pp 10],
 qo 12 (.p (faddrF (tt 11) 0)) [pp 11],
 qo 13 (.r (loadF (tt 12) 1 .sc)) [pp 12],
 qo 14 (.p (convF .u64 (tt 13))) [pp 13],
 qo 15 (.c (callF (ff 188) [(tt 9),(tt 14),(ii 1)])) [pp 9,pp 14],
 mv 3 15]) (
 .seq (.reg [
 mv 16 3,
 qo 17 (.p (faddrF (tt 1) 2)) [pp 1],
 qo 18 (.p (faddrF (tt 17) 0)) [pp 17],
 qo 19 (.p (faddrF (tt 18) 1)) [pp 18],
 qo 20 (.r (loadF (tt 19) 1 .sc)) [pp 19],
 qo 21 (.p (convF .u64 (tt 20))) [pp 20],
 qo 22 (.c (callF (ff 188) [(tt 16),(tt 21),(ii 2)])) [pp 16,pp 21],
 mv 3 22]) (
 .seq (.reg [
 mv 23 3,
 qo 24 (.p (faddrF (tt 1) 2)) [pp 1],
 qo 25 (.p (faddrF (tt 24) 0)) [pp 24],
 qo 26 (.p (faddrF (tt 25) 2)) [pp 25],
 qo 27 (.r (loadF (tt 26) 1 .sc)) [pp 26],
 qo 28 (.p (convF .u64 (tt 27))) [pp 27],
 qo 29 (.c (callF (ff 188) [(tt 23),(tt 28),(ii 2)])) [pp 23,pp 28],
 mv 3 29]) (
 .seq (.reg [
 mv 30 3,
 qo 31 (.p (faddrF (tt 1) 1)) [pp 1],
 qo 32 (.r (loadF (tt 31) 1 .sc)) [pp 31],
 qo 33 (.p (convF .u64 (tt 32))) [pp 32],
 qo 34 (.c (callF (ff 188) [(tt 30),(tt 33),(ii 1)])) [pp 30,pp 33],
 mv 3 34]) (
 .seq (.reg [
 qo 36 (.p (faddrF (tt 1) 2)) [pp 1],
 qo 37 (.p (faddrF (tt 36) 3)) [pp 36],
 qo 38 (.p (sliceAF 16 1 (tt 37) none none none)) [pp 37],
 qo 39 (.c (callF (ff 189) [(tt 38),(ii 2)])) [pp 38],
 mv 35 39,
 qo 40 (.p (extF (tt 35) 0)) [pp 35],
 qo 41 (.p (extF (tt 35) 1)) [pp 35],
 mv 4 40,
 mv 5 41]) (
 .seq (.reg [
 mv 42 3,
 mv 43 4,
 qo 44 (.a (appF 1 1 (tt 42) (tt 43))) [pp 42,pp 43],
 mv 3 44]) (
 .seq (.reg [
 mv 45 3,
 qo 46 (.p (faddrF (tt 1) 2)) [pp 1],
 qo 47 (.p (faddrF (tt 46) 19)) [pp 46],
 qo 48 (.r (loadF (tt 47) 1 .sc)) [pp 47],
 qo 49 (.p (convF .u64 (tt 48))) [pp 48],
 qo 50 (.c (callF (ff 188) [(tt 45),(tt 49),(ii 2)])) [pp 45,pp 49],
 mv 3 50]) (
 .seq (.seq (.reg [
 qo 51 (.p (faddrF (tt 1) 2)) [pp 1],
 qo 52 (.p (faddrF (tt 51) 20)) [pp 51],
 qo 53 (.r (loadF (tt 52) 1 .sc)) [pp 52]]) (
 .cond (tt 53) (.seq (.reg [
 mv 54 3,
 qo 55 (.m (bsliceF 1 1 [.int .u8 0] [(0,1,(.c (.int .u8 1)))])) [],
 qo 56 (.a (appF 1 1 (tt 54) (tt 55))) [pp 54,pp 55],
 mv 2 56]) (
 .ret)) (.skip))) (
 .seq (.reg [
 mv 57 3,
 qo 58 (.m (bsliceF 1 1 [.int .u8 0] [(0,1,(.c (.int .u8 0)))])) [],
 qo 59 (.a (appF 1 1 (tt 57) (tt 58))) [pp 57,pp 58],
 mv 2 59]) (
 .ret)))))))))))⟩
theorem c126_eq:fnOf Tryz.prog 126=some c126:=by kernel_rfl
theorem revent_ok (H:Heap) (x:Int) (lf n:Nat):callS Tryz.prog S0 lf (n+1) 123 [.int .u64 x] H=some (.v (.bool (evt x)),H):=by
 obtain⟨v,H',e,rfl,rfl⟩:ret (callS Tryz.prog S0 lf (n+1) 123 [.int .u64 x] H) fun v H'=>v=.bool (evt x)∧H'=H:=by
  refine ret_call rfl c123_eq ?_
  by_cases h:1≤x
  ·simp only[c123,h,sy,tup,↓reduceIte,zA,zG,zC,zD,zF,zE,zB,zH,reduceCtorEq]
   simp[evt,h]
  ·simp only[c123,h,sy,tup,↓reduceIte,zA,zG,zC,zD,zF,zE,zB,zH,reduceCtorEq]
   simp[evt,h]
 exact e
theorem rsmay_ok (H:Heap) {id me m s r c:Int} {g:Bool} {S:List Nat} (hS:S.length=16) (lf n:Nat) (hlf:17 < lf):ret (callS Tryz.prog S0 lf (n+3) 124 [sup id me m s r S c g] H) fun v H'=>(∃ z:Bool,v=.bool z∧(z=true↔smay id me m s r S c))∧Turns Z H H':=by
 have t1:=Turns.add Z H (.rows false 23 [scells id me m s r S c g])
 have hg:(H.add (.rows false 23 [scells id me m s r S c g])).get (.run H.next)=some (.rows false 23 [scells id me m s r S c g]):=by rw[Heap.get_add,if_pos rfl]
 have hr:SupAt (H.add (.rows false 23 [scells id me m s r S c g])) (.run H.next) id me m s r S c g:=⟨hg,hS⟩
 have l1:=sup_id hr
 have l4:=sup_r hr
 have hw:=s_width hS id me m s r c g
 have ho:(H.add (.rows false 23 [scells id me m s r S c g])).Old (.run H.next):=by show _ < _;simp
 generalize hH1:H.add (.rows false 23 [scells id me m s r S c g])=H1 at *
 obtain⟨v,H2,e2,⟨z,rfl,hz⟩,t2⟩:=fine_ok H1 (m:=m) (s:=s) (r:=r) (c:=c) (g:=g) hS lf n hlf
 have hr2:SupAt H2 (.run H.next) id me m s r S c g:=⟨(t2.same _ ho (fun h=>h)).trans hr.own,hS⟩
 have l2:=sup_self hr2
 have l3:=sup_m hr2
 unfold ros at e2
 refine ret_call rfl c124_eq ?_
 by_cases h0:id=0
 ·have b0:(id==0)=true:=by simp[h0]
  simp only[c124,sup,hw,hH1,l1,l4,b0,sy,tup,↓reduceIte,zA,zG,zC,zD,zF,zE,zB,zH,reduceCtorEq]
  exact⟨trivial,.inr trivial,_,rfl,⟨false,rfl,by simp[smay,h0]⟩,t1⟩
 ·have b0:(id==0)=false:=by simp[h0]
  cases z with
  | false=>
   simp only[c124,sup,hw,hH1,l1,l4,b0,e2,sy,tup,↓reduceIte,zA,zG,zC,zD,zF,zE,zB,zH,reduceCtorEq]
   exact⟨trivial,.inr trivial,_,rfl,⟨false,rfl,by simp at hz;simp[smay,hz]⟩,t1.trans t2⟩
  | true=>
   have hf:=hz.1 rfl
   by_cases h1:0≤me
   ·by_cases h2:me < m
    ·simp only[c124,sup,hw,hH1,l1,l2,l3,l4,b0,h1,h2,e2,sy,tup,↓reduceIte,zA,zG,zC,zD,zF,zE,zB,zH,reduceCtorEq]
     exact⟨trivial,.inr trivial,_,rfl,⟨true,rfl,by simp[smay,h0,h1,h2,hf]⟩,t1.trans t2⟩
    ·simp only[c124,sup,hw,hH1,l1,l2,l3,l4,b0,h1,h2,e2,sy,tup,↓reduceIte,zA,zG,zC,zD,zF,zE,zB,zH,reduceCtorEq]
     exact⟨trivial,.inr trivial,_,rfl,⟨false,rfl,by simp[smay,h2]⟩,t1.trans t2⟩
   ·simp only[c124,sup,hw,hH1,l1,l2,l3,l4,b0,h1,e2,sy,tup,↓reduceIte,zA,zG,zC,zD,zF,zE,zB,zH,reduceCtorEq]
    exact⟨trivial,.inr trivial,_,rfl,⟨false,rfl,by simp[smay,h1]⟩,t1.trans t2⟩
section
variable {H:Heap} {b:Bk} {id me m s r:Int} {S:List Nat} {c:Int} {g:Bool} (h:SupAt H b id me m s r S c g)
include h
theorem sup_s:loadAt H ⟨b,3⟩ 1=some [.int .i64 s]:=by rw[sup_cut h (by omega) (by omega)];rfl
theorem sup_rg:loadAt H ⟨b,4⟩ 1=some [.int .i64 r]:=by rw[sup_cut h (by omega) (by omega)];rfl
theorem sup_st {i x:Nat} (hi:S[i]?=some x):loadAt H ⟨b,5+i⟩ 1=some [.int .u8 (x:Int)]:=by
 have hl:=h.len
 have hi':i < S.length:=(List.getElem?_eq_some_iff.1 hi).1
 rw[sup_cut h (by omega) (by omega)]
 have:((scells id me m s r S c g).drop (5+i))=(sts S++[V.int .i64 c,V.bool g]).drop i:=by
  show ((([V.int .u64 id,.int .i64 me,.int .i64 m,.int .i64 s,.int .i64 r]++(sts S++[V.int .i64 c,V.bool g]))).drop (5+i))=_
  rw[List.drop_append]
  simp
 rw[this,List.drop_eq_getElem_cons (by rw[List.length_append,sts_len];omega),List.take_succ_cons,List.take_zero]
 rw[List.getElem_append_left (by rw[sts_len];omega)]
 unfold sts
 rw[List.getElem_map,(List.getElem?_eq_some_iff.1 hi).2]
theorem sup_c:loadAt H ⟨b,21⟩ 1=some [.int .i64 c]:=by
 rw[sup_cut h (by omega) (by omega)]
 obtain⟨_,hl⟩:=h
 match S,hl with
 | [_,_,_,_,_,_,_,_,_,_,_,_,_,_,_,_],_=>rfl
theorem sup_g:loadAt H ⟨b,22⟩ 1=some [.bool g]:=by
 rw[sup_cut h (by omega) (by omega)]
 obtain⟨_,hl⟩:=h
 match S,hl with
 | [_,_,_,_,_,_,_,_,_,_,_,_,_,_,_,_],_=>rfl
end
def bodyN (id me m s r:Nat) (S:List Nat) (c:Nat) (g:Bool):List Nat:=
 ((((((putB id 8++putB m 1)++putB s 2)++putB r 2)++putB me 1)++outs (fun i=>S.getD i 0) 4)++putB c 2)++[if g then 1 else 0]
theorem bodyN_le (id me m s r:Nat) (S:List Nat) (c:Nat) (g:Bool):(bodyN id me m s r S c g).length≤44:=by
 unfold bodyN
 simp only[List.length_append,List.length_singleton,outs_len]
 have:=putB_le id 8
 have:=putB_le m 1
 have:=putB_le s 2
 have:=putB_le r 2
 have:=putB_le me 1
 have:=putB_le c 2
 omega
theorem outs_lt (S:Nat→Nat):∀ q,∀ x ∈ outs S q,x < 256
 | 0,x,h=>by cases h
 | q+1,x,h=>by
  simp only[outs,List.mem_append,List.mem_singleton] at h
  rcases h with h | h
  ·exact outs_lt S q x h
  ·subst h;exact outB_lt S q
theorem bodyN_lt (id me m s r:Nat) (S:List Nat) (c:Nat) (g:Bool):∀ x ∈ bodyN id me m s r S c g,x < 256:=by
 intro x hx
 unfold bodyN at hx
 simp only[List.mem_append,List.mem_singleton] at hx
 rcases hx with ((((((h | h) | h) | h) | h) | h) | h) | h
 ·exact putB_lt _ _ x h
 ·exact putB_lt _ _ x h
 ·exact putB_lt _ _ x h
 ·exact putB_lt _ _ x h
 ·exact putB_lt _ _ x h
 ·exact outs_lt _ _ x h
 ·exact putB_lt _ _ x h
 ·subst h;split<;>decide
theorem rbody_ok (H:Heap) {id me m s r c:Nat} {g:Bool} {S:List Nat} (hid:id < 18446744073709551616) (hb:me < 65536∧m < 65536∧s < 65536∧r < 65536∧c < 65536) (hS:S.length=16) (hS4:∀ i,i < 16→S.getD i 0 < 4) {lf:Nat} (hlf:80 < lf) (n:Nat) :
  ret (callS Tryz.prog S0 lf (n+3) 126 [sup id me m s r S c g] H) fun v H'=>Turns Z H H'∧∃ K:Heap,H.next≤K.next∧Lst K H' 1 (rowsN (bodyN id me m s r S c g)) v:=by
 obtain⟨b1,b2,b3,b4,b5⟩:=hb
 have t0:=Turns.add Z H (.rows false 23 [scells id me m s r S c g])
 have hg:(H.add (.rows false 23 [scells id me m s r S c g])).get (.run H.next)=some (.rows false 23 [scells id me m s r S c g]):=by rw[Heap.get_add,if_pos rfl]
 have ho:(H.add (.rows false 23 [scells id me m s r S c g])).Old (.run H.next):=by show _ < _;simp
 have hw:=s_width hS id me m s r c g
 generalize hH1:H.add (.rows false 23 [scells id me m s r S c g])=H1 at *
 have at1:∀ {K:Heap},Turns Z H1 K→SupAt K (.run H.next) id me m s r S c g:=fun t=>⟨(t.same _ ho (fun h=>h)).trans hg,hS⟩
 have h17:17 < lf:=by omega
 have w:∀ {x:Nat},x < 65536→IntKind.u64.wrap (x:Int)=(x:Int):=fun hx=>wrap_u64 (by omega)
 have step:∀ {K K':Heap} {l k:List Nat} {y z:V},Lst H1 K 1 (rowsN l) y→Turns Z H1 K→Turns (Bof y) K K'→Lst H1 K' 1 (rowsN k) z→Turns Z H1 K':=fun hy tz tk _=>lst_away hy tz (Nat.le_refl _) tk
 have l0:Lst H1 H1 1 (rowsN []) (.slice none 0 0 0):=Lst.nil H1 H1 1
 obtain⟨v1,A1,e1,k1,l1⟩:=laid_ok (l:=[]) l0 (Nat.le_refl _) (Nat.zero_le _) hid (s:=8) (by omega) h17 (n:=n)
 change callS _ _ _ _ _ [_,_,.int .i64 8] _=_ at e1
 have t1:=step l0 (Turns.refl _ _) k1 l1
 rw[List.nil_append] at l1
 have c1:=putB_le id 8
 obtain⟨v2,A2,e2,k2,l2⟩:=laid_ok l1 t1.next (by omega) (N:=m) (by omega) (s:=1) (by omega) h17 (n:=n)
 change callS _ _ _ _ _ [_,_,.int .i64 1] _=_ at e2
 have t2:=step l1 t1 k2 l2
 have c2:=putB_le m 1
 obtain⟨v3,A3,e3,k3,l3⟩:=laid_ok l2 t2.next (by rw[List.length_append];omega) (N:=s) (by omega) (s:=2) (by omega) h17 (n:=n)
 change callS _ _ _ _ _ [_,_,.int .i64 2] _=_ at e3
 have t3:=step l2 t2 k3 l3
 have c3:=putB_le s 2
 obtain⟨v4,A4,e4,k4,l4⟩:=laid_ok l3 t3.next (by simp only[List.length_append];omega) (N:=r) (by omega) (s:=2) (by omega) h17 (n:=n)
 change callS _ _ _ _ _ [_,_,.int .i64 2] _=_ at e4
 have t4:=step l3 t3 k4 l4
 have c4:=putB_le r 2
 obtain⟨v5,A5,e5,k5,l5⟩:=laid_ok l4 t4.next (by simp only[List.length_append];omega) (N:=me) (by omega) (s:=1) (by omega) h17 (n:=n)
 change callS _ _ _ _ _ [_,_,.int .i64 1] _=_ at e5
 have t5:=step l4 t4 k5 l5
 have c5:=putB_le me 1
 obtain⟨v6,A6,e6,k6,ys,rfl,l6⟩:=rbits_ok (H:=A5) (p:=⟨.run H.next,5⟩) (cap:=16) (loose:=0) (S:=fun i=>S.getD i 0) (ho.mono t5.next) hS4 (fun t i hi=>sup_st (at1 (t5.trans t)) (getD_some (by omega))) (show 40 < lf by omega) (n+1)
 have l5':=l5.turns k6 (fun _ _ h=>h)
 obtain⟨v7,A7,e7,l7,k7⟩:=appL l5' l6 (rowsN_bytes _) (t5.trans k6).next (by simp only[rowsN_len,List.length_append,outs_len];omega)
 rw[← rowsN_app] at l7
 have t7:=lst_away l5' (t5.trans k6) (Nat.le_refl _) k7
 obtain⟨v8,A8,e8,k8,l8⟩:=laid_ok l7 t7.next (by simp only[List.length_append,outs_len];omega) (N:=c) (by omega) (s:=2) (by omega) h17 (n:=n)
 change callS _ _ _ _ _ [_,_,.int .i64 2] _=_ at e8
 have t8:=step l7 t7 k8 l8
 have c8:=putB_le c 2
 obtain⟨A9,e9,l9,k9⟩:=appB l8 t8.next (by simp only[rowsN_len,List.length_append,outs_len];omega) (if g then 1 else 0)
 have t9:=lst_away l8 t8 (Nat.le_refl _) k9
 have hfin:rowsN (bodyN id me m s r S c g)=rowsN ((((((putB id 8++putB m 1)++putB s 2)++putB r 2)++putB me 1)++outs (fun i=>S.getD i 0) 4)++putB c 2)++[[.int .u8 ((if g then 1 else 0:Nat):Int)]]:=by
  unfold bodyN
  rw[rowsN_app];rfl
 rw[← hfin] at l9
 have x1:=sup_id (at1 (Turns.refl _ _))
 have x2:=sup_m (at1 t1)
 have x3:=sup_s (at1 t2)
 have x4:=sup_rg (at1 t3)
 have x5:=sup_self (at1 t4)
 have x8:=sup_c (at1 t7)
 have x9:=sup_g (at1 t8)
 have y1:=w b1
 have y2:=w b2
 have y3:=w b3
 have y4:=w b4
 have y5:=w b5
 have ht0:=t0.next
 refine ret_call rfl c126_eq ?_
 cases g with
 | false=>
  have e9':appendV 1 1 (A8.add (.rows false 1 [[.int .u8 0]])) v8 (.slice (some ⟨.run A8.next,0⟩) 1 1 0)=_:=e9
  simp only[c126,sup,hw,hH1,e1,e2,e3,e4,e5,e6,e7,e8,e9',x1,x2,x3,x4,x5,x8,x9,y1,y2,y3,y4,y5,sliceAF,oget,bounds,boundD,sy,tup,↓reduceIte,zA,zG,zC,zD,zF,zE,zB,zH,reduceCtorEq]
  exact⟨trivial,.inr trivial,_,rfl,t0.trans t9,H1,ht0,l9⟩
 | true=>
  have e9':appendV 1 1 (A8.add (.rows false 1 [[.int .u8 1]])) v8 (.slice (some ⟨.run A8.next,0⟩) 1 1 0)=_:=e9
  simp only[c126,sup,hw,hH1,e1,e2,e3,e4,e5,e6,e7,e8,e9',x1,x2,x3,x4,x5,x8,x9,y1,y2,y3,y4,y5,sliceAF,oget,bounds,boundD,sy,tup,↓reduceIte,zA,zG,zC,zD,zF,zE,zB,zH,reduceCtorEq]
  exact⟨trivial,.inr trivial,_,rfl,t0.trans t9,H1,ht0,l9⟩
noncomputable def supBlk (N id:Nat) (me m s r:Int) (S:List Nat) (c:Int) (g:Bool):Nat:=blkOf N (bodyN id me.toNat m.toNat s.toNat r.toNat S c.toNat g)
end Go.Proofs.YtabebpemfinejaaGreat.draft
namespace Go.Proofs.YtabebpemfinejaaGreat.draft
open Go.Am
noncomputable def c224_l0:C:=.seq (.reg [
 qo 29 (.p (arF .lss (tt 28) (tt 27))) [pp 28,pp 27]]) (
 .seq (.cond (tt 29) (.skip) (.exit 0)) (
 .seq (.block 1 (.seq (.reg [
 mv 30 28,
 mv 7 30]) (
 .reg [
 mv 31 6,
 mv 32 7,
 mv 33 0,
 mv 34 7,
 qo 35 (.p (arF .mul (ii 8) (tt 34))) [pp 34],
 qo 36 (.p (arF .shr (tt 33) (tt 35))) [pp 33,pp 35],
 qo 37 (.p (convF .u8 (tt 36))) [pp 36],
 qo 38 (.p (iaddrSF (tt 31) (tt 32) 1)) [pp 31,pp 32],
 qn (.a (storeF (tt 38) (tt 37) 1)) [pp 38,pp 37]]))) (
 .reg [
 qo 39 (.p (arF .add (tt 28) (ii 1))) [pp 28],
 mv 28 39])))
noncomputable def c224:CFn:=⟨[.tmp (pp 4),.tmp (pp 5)],
 .seq (.reg [
 qo 4 (.p (S.get (.c (.slice none 0 0 0)))) [],
 qo 5 (.p (S.get (ii 0))) []]) (
 .seq (.seq (.reg [
 mv 8 1,
 qo 9 (.p (arF .lss (tt 8) (ii 1))) [pp 8],
 mv 10 9,
 mg 11 1 10 false,
 qg 12 (.p (arF .gtr (tt 11) (ii 8))) 10 false [pp 11],
 qo 13 (.p (pickF (tt 10) (.c (.bool true)) (tt 12))) [pp 10,pp 12],
 mv 14 13,
 mg 15 1 14 false,
 qg 16 (.p (arF .lss (tt 15) (ii 8))) 14 false [pp 15],
 mg 17 16 14 false,
 mg 18 0 17 true,
 mg 19 1 17 true,
 qg 20 (.p (arF .mul (ii 8) (tt 19))) 17 true [pp 19],
 qg 21 (.p (arF .shr (tt 18) (tt 20))) 17 true [pp 18,pp 20],
 qg 22 (.p (arF .gtr (tt 21) (.c (.int .u64 0)))) 17 true [pp 21],
 qg 23 (.p (pickF (tt 17) (tt 22) (.c (.bool false)))) 14 false [pp 17,pp 22],
 qo 24 (.p (pickF (tt 14) (.c (.bool true)) (tt 23))) [pp 14,pp 23]]) (
 .cond (tt 24) (.seq (.reg [
 qo 4 (.p (S.get (.c (.slice none 0 0 0)))) [],
 qo 5 (.p (S.get (ii 2))) []]) (
 .ret)) (.skip))) (
 .seq (.reg [
 mv 25 1,
 qo 26 (.m (mksliceF 1 1 [.int .u8 0] (tt 25) (tt 25))) [pp 25,pp 25],
 mv 6 26]) (
 .seq (.seq (.reg [
 mv 27 1,
 qo 28 (.p (S.get (ii 0))) []]) (
 .block 0 (.loop c224_l0))) (
 .seq (.reg [
 mv 40 6,
 mv 4 40,
 qo 5 (.p (S.get (ii 0))) []]) (
 .ret)))))⟩
theorem c224_eq:fnOf Tryz.prog 224=some c224:=by kernel_rfl
theorem shr_u64 (a m:Nat) (hm:m < 64):arith .shr (.int .u64 (a:Int)) (.int .i64 (m:Int))=some (.int .u64 ((a / 2 ^ m:Nat):Int)):=by
 have:min m 64=m:=by omega
 show some (V.int .u64 (.ofNat (Nat.div a (Nat.pow 2 (min m 64)))))=_
 rw[this];rfl
def dig (N i:Nat):Nat:=N / 256 ^ i % 256
theorem dig_lt (N i:Nat):dig N i < 256:=Nat.mod_lt _ (by decide)
theorem digs_stl (N:Nat):∀ n,digs N n=stl (dig N) n 0
 | 0=>rfl
 | n+1=>by
  rw[digs,digs_stl N n]
  have:∀(f:Nat→Nat) n j,stl f (n+1) j=stl f n j++[f (j+n)]:=by
   intro f n
   induction n with
   | zero=>intro j;rfl
   | succ n ih=>
    intro j
    show f j::stl f (n+1) (j+1)=(f j::stl f n (j+1))++[f (j+(n+1))]
    rw[ih (j+1),List.cons_append,show j+1+n=j+(n+1) by omega]
  rw[this,Nat.zero_add];rfl
theorem pnput_ok (H:Heap) {N s:Nat} (hN:N < 18446744073709551616) (hs:1≤s∧s≤8) {lf:Nat} (hlf:17 < lf) (n:Nat):ret (callS Tryz.prog S0 lf (n+1) 224 [.int .u64 (N:Int),.int .i64 (s:Int)] H) fun v H'=>Turns Z H H' ∧
  ((N / 256 ^ s=0∧∃ k,v=.tuple [.slice (some ⟨.run k,0⟩) s s 0,.int .i64 0]∧BodyAt H' k (dig N) s∧H.next≤k)∨(N / 256 ^ s≠0∧v=.tuple [.slice none 0 0 0,.int .i64 2])):=by
 have g1:¬ ((s:Int) < 1):=by omega
 have g2:¬ ((8:Int) < (s:Int)):=by omega
 have p256:∀ i:Nat,2 ^ (8*i)=256 ^ i:=fun i=>by rw[Nat.pow_mul]
 obtain⟨s8,hs8⟩:∃ z,z=8*s:=⟨_,rfl⟩
 have w8:IntKind.i64.wrap (8*(s:Int))=(s8:Int):=by rw[wrap_i64 (by omega)];omega
 have hloop:∀ t:T,t.getP (Tr.path 0)=some (.int .u64 (N:Int))→t.getP (Tr.path 6)=some (.slice (some ⟨.run H.next,0⟩) s s 0)→t.getP (Tr.path 27)=some (.int .i64 (s:Int))→t.getP (Tr.path 28)=some (.int .i64 0) →
   wp (loopF (runC (callS Tryz.prog S0 lf n) lf c224_l0) lf ⟨t,H.add (.rows false 1 (List.replicate s [.int .u8 0])),[]⟩) fun x s'=>x=.ex 0∧s'.d=[]∧s'.t.getP (Tr.path 6)=some (.slice (some ⟨.run H.next,0⟩) s s 0)∧Turns Z H s'.H∧s'.H.get (.run H.next)=some (.rows false 1 (rowsB (dig N) s 0))∧H.next < s'.H.next:=by
  intro t q0 q6 q27 q28
  refine wp_loopF (fun j s'=>∃ i:Nat,j=s - i∧i≤s∧s'.d=[]∧s'.t.getP (Tr.path 0)=some (.int .u64 (N:Int))∧s'.t.getP (Tr.path 6)=some (.slice (some ⟨.run H.next,0⟩) s s 0)∧s'.t.getP (Tr.path 27)=some (.int .i64 (s:Int))∧s'.t.getP (Tr.path 28)=some (.int .i64 (i:Int))∧Turns Z H s'.H∧s'.H.get (.run H.next)=some (.rows false 1 (rowsB (fun j=>if j < i then dig N j else 0) s 0))∧H.next < s'.H.next) ?_ lf s _ ⟨0,rfl,by omega,rfl,q0,q6,q27,q28,Turns.add Z H _,?_,by simp⟩ (by omega)
  ·rintro j ⟨t,HH,d⟩ ⟨i,rfl,hi,hd,q0,q6,q27,q28,tz,gk,hk⟩
   dsimp only at hd q0 q6 q27 q28 tz gk hk
   subst hd
   by_cases hlt:i < s
   ·have hlt':(i:Int) < (s:Int):=by omega
    have hle':i+1≤s:=hlt
    have w2:IntKind.i64.wrap ((i:Int)+1)=((i+1:Nat):Int):=by rw[wrap_i64 (by omega)];omega
    obtain⟨e,he⟩:∃ e,e=8*i:=⟨_,rfl⟩
    have w3:IntKind.i64.wrap (8*(i:Int))=(e:Int):=by rw[wrap_i64 (by omega)];omega
    have sh:=shr_u64 N e (by omega)
    rw[he,p256] at sh
    rw[← he] at sh
    have w4:IntKind.u8.wrap ((N / 256 ^ i:Nat):Int)=((dig N i:Nat):Int):=by
     show (if false&&decide (((N / 256 ^ i:Nat):Int) % (2 ^ 8:Int)≥(2 ^ (8 - 1):Int)) then((N / 256 ^ i:Nat):Int) % (2 ^ 8:Int) - (2 ^ 8:Int) else((N / 256 ^ i:Nat):Int) % (2 ^ 8:Int))=_
     rw[show (2 ^ 8:Int)=((256:Nat):Int) from rfl]
     simp only[Bool.false_and,Bool.false_eq_true,if_false]
     unfold dig
     rw[← Int.natCast_emod]
    have sto:storeAt HH ⟨.run H.next,i⟩ [.int .u8 ((dig N i:Nat):Int)]=some (HH.set (.run H.next) (.rows false 1 (rowsB (fun j=>if j < i+1 then dig N j else 0) s 0))):=by
     rw[storeAt_eq gk (r:=[.int .u8 (((fun j=>if j < i then dig N j else 0) i:Nat):Int)]) (r':=[.int .u8 ((dig N i:Nat):Int)]) (by rw[Nat.div_one,nth_eq,rowsB_get _ s 0 i hlt,Nat.zero_add]) (by rw[Nat.mod_one];rfl),← upd_eq,Nat.div_one,rowsB_upd _ _ s 0 i hlt]
     rw[rowsB_congr (g:=fun j=>if j < i+1 then dig N j else 0) s 0 (fun j h1 h2=>?_)]
     by_cases e1:j=i
     ·subst e1;simp
     ·by_cases e2:j < i
      ·simp[e1,e2,show j < i+1 by omega]
      ·simp[e1,e2,show ¬ j < i+1 by omega]
    generalize N / 256 ^ i=z at *
    simp only[c224_l0,q0,q6,q27,q28,hlt',hle',w2,w3,sh,w4,sto,arith_mul,Nat.mul_one,sy,tup,↓reduceIte,zA,zG,zC,zD,zF,zE,zB,zH,reduceCtorEq]
    exact⟨s - (i+1),by omega,i+1,rfl,by omega,trivial,trivial,trivial,trivial,by simp,tz.setnew (Nat.le_refl _) _,by rw[Heap.get_set,if_pos rfl],by simpa using hk⟩
   ·have:i=s:=by omega
    subst this
    simp only[c224_l0,q0,q6,q27,q28,Int.lt_irrefl,sy,tup,↓reduceIte,zA,zG,zC,zD,zF,zE,zB,zH,reduceCtorEq]
    refine⟨trivial,trivial,trivial,tz,?_,hk⟩
    rw[gk,rowsB_congr (g:=dig N) i 0 (fun j h1 h2=>by simp[show j < i by omega])]
  ·show (H.add _).get (.run H.next)=_
   rw[Heap.get_add,if_pos rfl,rowsB_rep s 0]
   rfl
 have m1:s≤s:=Nat.le_refl _
 have m2:s*1≤1099511627776:=by omega
 have m3:1*s≤1099511627776:=by omega
 have m4:s≤1099511627776:=by omega
 refine ret_call rfl c224_eq ?_
 by_cases h8:s < 8
 ·have h8':(s:Int) < 8:=by omega
  have sh:=shr_u64 N s8 (by omega)
  rw[hs8,p256,← hs8] at sh
  by_cases h0:N / 256 ^ s=0
  ·have z0:¬ ((0:Int) < ((N / 256 ^ s:Nat):Int)):=by rw[h0];decide
   simp only[c224,g1,g2,h8',w8,sh,z0,arith_mul,mksliceF,m1,m2,m3,m4,sy,tup,↓reduceIte,zA,zG,zC,zD,zF,zE,zB,zH,reduceCtorEq]
   refine wp_ctx (F:=fun r=>seqC _ _ _ (blockC _ r)) (hloop _ ?_ ?_ ?_ ?_) ?_
   ·simp only[sy,tup,↓reduceIte,zA,zG,zC,zD,zF,zE,zB,zH,reduceCtorEq]
   ·simp only[sy,tup,↓reduceIte,zA,zG,zC,zD,zF,zE,zB,zH,reduceCtorEq]
   ·simp only[sy,tup,↓reduceIte,zA,zG,zC,zD,zF,zE,zB,zH,reduceCtorEq]
   ·simp only[sy,tup,↓reduceIte,zA,zG,zC,zD,zF,zE,zB,zH,reduceCtorEq]
   rintro x ⟨t,HH,d⟩ ⟨rfl,hd,q6,tz,gk,hk⟩
   dsimp only at hd q6 tz gk hk
   subst hd
   simp only[q6,sy,tup,↓reduceIte,zA,zG,zC,zD,zF,zE,zB,zH,reduceCtorEq]
   exact⟨trivial,.inr trivial,_,rfl,tz,.inl ⟨h0,H.next,rfl,⟨gk,hk⟩,Nat.le_refl _⟩⟩
  ·have z0:(0:Int) < ((N / 256 ^ s:Nat):Int):=Int.ofNat_lt.2 (Nat.pos_of_ne_zero h0)
   simp only[c224,g1,g2,h8',w8,sh,z0,arith_mul,sy,tup,↓reduceIte,zA,zG,zC,zD,zF,zE,zB,zH,reduceCtorEq]
   exact⟨trivial,.inr trivial,_,rfl,Turns.refl _ _,.inr ⟨h0,rfl⟩⟩
 ·have h8':¬ (s:Int) < 8:=by omega
  have hs:s=8:=by omega
  have h0:N / 256 ^ s=0:=by rw[hs];exact Nat.div_eq_of_lt (by rw[show (256:Nat) ^ 8=18446744073709551616 by decide +kernel];exact hN)
  simp only[c224,g1,g2,h8',mksliceF,m1,m2,m3,m4,sy,tup,↓reduceIte,zA,zG,zC,zD,zF,zE,zB,zH,reduceCtorEq]
  refine wp_ctx (F:=fun r=>seqC _ _ _ (blockC _ r)) (hloop _ ?_ ?_ ?_ ?_) ?_
  ·simp only[sy,tup,↓reduceIte,zA,zG,zC,zD,zF,zE,zB,zH,reduceCtorEq]
  ·simp only[sy,tup,↓reduceIte,zA,zG,zC,zD,zF,zE,zB,zH,reduceCtorEq]
  ·simp only[sy,tup,↓reduceIte,zA,zG,zC,zD,zF,zE,zB,zH,reduceCtorEq]
  ·simp only[sy,tup,↓reduceIte,zA,zG,zC,zD,zF,zE,zB,zH,reduceCtorEq]
  rintro x ⟨t,HH,d⟩ ⟨rfl,hd,q6,tz,gk,hk⟩
  dsimp only at hd q6 tz gk hk
  subst hd
  simp only[q6,sy,tup,↓reduceIte,zA,zG,zC,zD,zF,zE,zB,zH,reduceCtorEq]
  exact⟨trivial,.inr trivial,_,rfl,tz,.inl ⟨h0,H.next,rfl,⟨gk,hk⟩,Nat.le_refl _⟩⟩
end Go.Proofs.YtabebpemfinejaaGreat.draft
