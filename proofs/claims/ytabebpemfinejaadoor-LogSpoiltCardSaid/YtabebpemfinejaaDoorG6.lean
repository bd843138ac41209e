import Derived.Test.YtabebpemfinejaaDoorG5
import Derived.Test.YtabebpemfinejaaDoorG4
set_option linter.unusedVariables false
set_option linter.unusedSimpArgs false
set_option linter.unusedSectionVars false
set_option maxRecDepth 10000
open Nat renaming reduceEqDiff → zA, reduceLeDiff → zB, reduceSub → zC, reduceMul → zD, reduceMod → zE, reduceDiv → zF, reduceAdd → zG
open Int renaming reduceBEq → zH
namespace Go.Proofs.YtabebpemfinejaaDoor.draft
open Go.Am
section
variable {a:Nat→Option Am.Obj} {H:Heap} (hH:∀ n,H.get (.arg n)=a n)
include hH
theorem lls_list:∀(R:List (List V)),(∀ r ∈ R,Fits a (.slice 66 cellSh) r)→∃ l:List Ll,(l.map fun s=>[s.v])=R∧∀ s ∈ l,CellsAt H s.pp s.cs∧(∀ c ∈ s.cs,c.x < 256 ^ 64)∧s.cs.length≤9223372036854775807
 | [],_=>⟨[],rfl,fun c h=>by cases h⟩
 | r::R,h=>by
  obtain⟨p,lc,l,e,hc,hx,hl⟩:=cells_of hH (h r (List.mem_cons_self ..))
  obtain⟨L,el,hL⟩:=lls_list R (fun r hr=>h r (List.mem_cons_of_mem _ hr))
  refine⟨⟨p,l,lc,0⟩::L,by rw[List.map_cons,e,el];rfl,fun x hx'=>?_⟩
  rcases List.mem_cons.1 hx' with rfl | hx'
  ·exact⟨hc,hx,Nat.le_trans hl (by decide)⟩
  ·exact hL x hx'
theorem lls_of {u:V} (h:FitsV a (.slice 1 (.slice 66 cellSh)) u):∃ p lc L,u=.slice p (List.length L) lc 0∧LlsAt H p L:=by
 obtain⟨C,hf,hu⟩:=h
 rcases hf with rfl | ⟨b,len,rows,rfl,hb,hl,hm,hr⟩
 ·cases hu
  exact⟨none,0,[],rfl,⟨fun e=>absurd rfl e,fun s h=>(by cases h),fun s h=>(by cases h),fun s h=>(by cases h)⟩⟩
 ·cases hu
  obtain⟨l,el,hc⟩:=lls_list hH rows hr
  have hll:l.length=rows.length:=by rw[← el,List.length_map]
  refine⟨some ⟨.arg b,0⟩,rows.length,l.take len,by rw[List.length_take,Nat.min_eq_left (by omega)],⟨fun _=>⟨.arg b,0,true,rows,rfl,trivial,(hH b).trans hb,fun i hi=>?_⟩,fun s hs=>(hc s (List.mem_of_mem_take hs)).1,fun s hs=>(hc s (List.mem_of_mem_take hs)).2.1,fun s hs=>(hc s (List.mem_of_mem_take hs)).2.2⟩⟩
  rw[List.length_take] at hi
  rw[Nat.zero_add,← el,List.getElem?_map,List.getElem?_eq_getElem (by omega),List.getElem_take]
  rfl
end
theorem u16_of {a:Nat→Option Am.Obj} {u:V} (h:FitsV a (.int .u16) u):∃ s:Nat,s < 65536∧u=.int .u16 (s:Int):=by
 obtain⟨C,⟨n,h,rfl⟩,hu⟩:=h
 cases hu
 have h:(decide (0≤n)&&decide (n≤65535))=true:=h
 simp only[Bool.and_eq_true,decide_eq_true_eq] at h
 exact⟨n.toNat,by omega,by rw[Int.toNat_of_nonneg h.1]⟩
end Go.Proofs.YtabebpemfinejaaDoor.draft
namespace Go.Proofs.YtabebpemfinejaaDoor.draft
open Go.Am
open disk (bx Fit A1 R1 Low Bn)
theorem posAt_zero {N:List Nt} {f p h:Nat} (c:Chain f p N h):posAt N h 0=p:=by
 cases N with
 | nil=>exact c.symm
 | cons n N=>exact c.2.1
theorem posAt_succ:∀ {N:List Nt} {f p h:Nat},Chain f p N h→∀ i (hi:i < N.length),posAt N h (i+1)=posAt N h i+recS N[i].cells
 | n::N,f,p,h,⟨c1,c2,c3,c4,c⟩,0,_=>by
  show posAt N h 0=n.pos+recS n.cells
  rw[posAt_zero c,c2]
 | n::N,f,p,h,⟨c1,c2,c3,c4,c⟩,i+1,hi=>by
  exact posAt_succ c i (by simpa using hi)
theorem devB_read {S:List Nat} {st n:Nat} (hn:n < S.length):(devB S [] st).read 0 (n:Int)=S.getD n 0:=by
 unfold disk.Bn.read
 rw[if_pos (show disk.Bn.lc (devB S [] st) 0=0 from rfl)]
 show disk.Dev.read ⟨S,[],false⟩ (n:Int)=_
 unfold disk.Dev.read
 rw[if_pos (disk.code_ok (D:=⟨S,[],false⟩) (by show ¬ ((n:Int) < 0∨(S.length:Int)≤(n:Int));omega) rfl),Int.toNat_natCast]
 rw[getD_get hn]
 unfold disk.readN disk.look
 simp[hn]
theorem recR_get (B:Bn) (R p k j:Nat) (h:j < (recR B R p k).length):(recR B R p k)[j]=B.read 0 (((p+j) % R+10:Nat):Int):=by simp[recR]
theorem devB_rot {S:List Nat} {st n j y:Nat} (hn:n < S.length) (hj:j < 64):(devB S [] st).oc 0 (n:Int) (j:Int)=0∧(devB S [] st).rot 0 (n:Int) (j:Int) y=devB (S.set n (disk.rotN (S.getD n 0) j y)) [] st:=by
 have hc:disk.code ⟨S,[],false⟩ (n:Int)=0:=disk.code_ok (D:=⟨S,[],false⟩) (by show ¬ ((n:Int) < 0∨(S.length:Int)≤(n:Int));omega) rfl
 have hr:disk.rcode ⟨S,[],false⟩ (n:Int) (j:Int)=0:=by
  unfold disk.rcode
  rw[if_neg (by rw[hc];omega),hc]
 have ht:(devB S [] st).tc 0=0:=rfl
 constructor
 ·unfold disk.Bn.oc
  rw[if_pos ht];exact hr
 ·unfold disk.Bn.rot
  rw[if_pos ht]
  show disk.Bn.setd _ _ (disk.Dev.rot ⟨S,[],false⟩ _ _ _)=_
  unfold disk.Dev.rot
  rw[if_pos hr,Int.toNat_natCast,Int.toNat_natCast]
  rfl
theorem rot_zero (x j:Nat) (hx:x < 256 ^ 64) (hj:j < 64):disk.rotN x j 0=x:=by
 have h0:byte x j ^^^ 0=byte x j:=Nat.xor_zero _
 refine disk.eq_of_bytes ?_ hx (fun k _=>?_)
 ·unfold disk.rotN
  exact setByte_lt _ _ _ (by show byte x j ^^^ 0 < 256;rw[h0];exact byte_lt _ _) hj hx
 ·rw[rot_byte x (by decide),h0]
  by_cases e:k=j
  ·rw[if_pos e,e]
  ·rw[if_neg e]
theorem LS.newS {G0 G G':Heap} {l b:Bk} {R i cnt first tail head:Nat} {N:List Nt} {lv:V} {S S':List Nat} {st:Nat} (h:LS G0 G l b R i cnt first tail head N lv S st) (t:Turns (fun c=>c=b) G G') (hb:G'.get b=some (bx false (devB S' [] st))) (hl:S'.length=S.length):LS G0 G' l b R i cnt first tail head N lv S' st:=by
 obtain⟨hg,G1,hN,hn⟩:=h.log.ex
 exact { h with log:=⟨⟨(t.same l h.log.old h.lb).trans hg,G1,hN.turns t (fun c hc e=>by
  obtain⟨_,_,_,_,hgB⟩:=hN.bof hc
  rw[e,h.hb] at hgB;cases hgB),Nat.le_trans hn t.next⟩,h.log.old.mono t.next,h.log.rb,h.log.rg,h.log.fn,h.log.nl⟩,hb:=hb,len:=hl.trans h.len,bo:=h.bo.mono t.next,t:=h.t.later t (fun c hc hx=>by rw[hx] at hc;exact absurd hc h.bn) }
theorem lst_ld1 {G0 H:Heap} {Ys:List V} {y:V} (h:Lst G0 H 1 (Ys.map fun v=>[v]) y) {i:Nat} (hi:i < Ys.length) (hc:cut [Ys[i]] 0 1=some [Ys[i]]):∃ m,y=.slice (some ⟨.run m,0⟩) Ys.length Ys.length 1∧ldO (H.get (.run m)) i 1=some [Ys[i]]:=by
 obtain⟨m,e,hl⟩:=h.load (i:=i) (o:=0) (k:=1) (r:=[Ys[i]]) (by rw[List.getElem?_map,List.getElem?_eq_getElem hi];rfl) (by decide)
 rw[List.length_map] at e
 rw[hc,Nat.mul_one,Nat.add_zero,ld_get] at hl
 exact⟨m,e,hl⟩
theorem lst_cut {G0 H:Heap} {w:Nat} {r:List (List V)} {v:V} (h:Lst G0 H w r v):cut [v] 0 1=some [v]∧v.cells=some [v]∧width [v]=1:=by
 obtain⟨p,c,o,rfl⟩:=h.val
 exact⟨rfl,rfl,rfl⟩
section
variable {lf K:Nat} (hlf:1000 < lf)
include hlf
theorem logspoilt_from {G0 G:Heap} {l b:Bk} {i0 head:Nat} {N:List Nt} {lv:V} {S:List Nat} {st:Nat} {C:List (List Cl)} {Ys:List V} {y:V} (hS:Sps G0 G l b i0 head N lv S st C Ys y) {k:Nat} (hk:k < C.length) {t2 t3 t9 t10:V} (n:Nat):∀ t:T,t.getP (Tr.path 2)=some t2→t.getP (Tr.path 3)=some t3→t.getP (Tr.path 9)=some t9→t.getP (Tr.path 10)=some t10→t.getP (Tr.path 12)=some y→t.getP (Tr.path 16)=some (.int .i64 (k:Int))→t.getP (Tr.path 17)=some (.int .i64 10)→t.getP (Tr.path 18)=some (.int .i64 0) →
  wp (loopF (runC (U lf K (n+2)) lf c4_l1) lf ⟨t,G,[]⟩) fun x s=>x=.ex 2∧s.d=[]∧s.H=G∧s.t.getP (Tr.path 2)=some t2∧s.t.getP (Tr.path 3)=some t3∧s.t.getP (Tr.path 9)=some t9∧s.t.getP (Tr.path 10)=some t10∧s.t.getP (Tr.path 12)=some y∧s.t.getP (Tr.path 16)=some (.int .i64 (k:Int))∧s.t.getP (Tr.path 17)=some (.int .i64 ((10+posAt N head k:Nat):Int)):=by
 intro t q2 q3 q9 q10 q12 q16 q17 q18
 have hCN:=hS.held.len
 have hYC:=hS.len
 have hN8:=hS.ls.log.nl
 have hch:=hS.ls.ch
 refine wp_loopF (fun u s=>∃ i:Nat,u=k - i∧i≤k∧s.d=[]∧s.H=G∧s.t.getP (Tr.path 2)=some t2∧s.t.getP (Tr.path 3)=some t3∧s.t.getP (Tr.path 9)=some t9∧s.t.getP (Tr.path 10)=some t10∧s.t.getP (Tr.path 12)=some y∧s.t.getP (Tr.path 16)=some (.int .i64 (k:Int))∧s.t.getP (Tr.path 17)=some (.int .i64 ((10+posAt N head i:Nat):Int))∧s.t.getP (Tr.path 18)=some (.int .i64 (i:Int)))
  ?_ lf k _ ⟨0,rfl,Nat.zero_le _,rfl,rfl,q2,q3,q9,q10,q12,q16,by rw[posAt_zero hch];exact q17,q18⟩ (by omega)
 rintro u ⟨t,HH,d⟩ ⟨i,rfl,hi,hd,hH,q2,q3,q9,q10,q12,q16,q17,q18⟩
 dsimp only at hd hH q2 q3 q9 q10 q12 q16 q17 q18
 subst hd;subst hH
 by_cases hlt:i < k
 rotate_left
 ·have:i=k:=by omega
  subst this
  simp (maxDischargeDepth:=12) only[c4_l1,q16,q18,Int.lt_irrefl,Nat.lt_irrefl,hv,ldO_one,stO_one,sy,tup,↓reduceIte,zA,zG,zC,zD,zF,zE,zB,zH,reduceCtorEq]
  exact⟨trivial,trivial,trivial,by simp[q2],by simp[q3],by simp[q9],by simp[q10],by simp[q12],trivial,by simp[q17]⟩
 have hlt':(i:Int) < (k:Int):=by omega
 have w1:IntKind.i64.wrap ((i:Int)+1)=((i+1:Nat):Int):=by rw[Go.Am.wrap_i64 (by omega)];omega
 have hiY:i < Ys.length:=by omega
 have hyi:=hS.each i hiY (by omega)
 obtain⟨m,ey,ld⟩:=lst_ld1 hS.all hiY (lst_cut hyi).1
 subst ey
 obtain⟨p,c,o,eyi⟩:=hyi.val
 rw[rowsC_len] at eyi
 rw[eyi] at ld
 obtain⟨a1,a2,a3,a4⟩:=hS.held.recs i (by omega) (by omega)
 obtain⟨g1,g2,g3,g4,g5⟩:=hch.get i (by omega)
 have hps:=posAt_succ hch i (by omega)
 have hpe:posAt N head i=N[i].pos:=posAt_lt (by omega)
 have e2:=ursize hlf (K:=K) HH (k:=(C[i]'(by omega)).length) (by omega) (by omega) n
 have hle:i+1≤Ys.length:=hiY
 have hh:=hS.ls.log.rg.le
 obtain⟨z,hz⟩:∃ z,z=recS (C[i]'(by omega)).length:=⟨_,rfl⟩
 rw[← hz] at e2
 obtain⟨P,hP⟩:∃ P,P=10+posAt N head i:=⟨_,rfl⟩
 rw[← hP] at q17
 have hz34:z≤34:=by rw[hz];unfold recS;omega
 have wf:IntKind.i64.wrap ((P:Int)+(z:Int))=((10+posAt N head (i+1):Nat):Int):=by
  rw[Go.Am.wrap_i64 (by omega)]
  rw[hps,← a1,← hz]
  omega
 simp (maxDischargeDepth:=12) only[c4_l1,q12,q16,q17,q18,hlt',hlt,hle,ld,e2,wf,w1,Nat.mul_one,hv,ldO_one,stO_one,sy,tup,↓reduceIte,zA,zG,zC,zD,zF,zE,zB,zH,reduceCtorEq]
 exact⟨k - (i+1),by omega,i+1,rfl,by omega,trivial,trivial,by simp[q2],by simp[q3],by simp[q9],by simp[q10],by simp[q12],by simp[q16],by simp,by simp⟩
end
end Go.Proofs.YtabebpemfinejaaDoor.draft
namespace Go.Proofs.YtabebpemfinejaaDoor.draft
open Go.Am
open disk (bx Fit A1 R1 Low Bn)
section
variable {lf K:Nat} (hlf:1000 < lf)
include hlf
theorem Sps.record {G0 G:Heap} {l b:Bk} {i0 head:Nat} {N:List Nt} {lv:V} {S:List Nat} {st:Nat} (hS:LS G0 G l b 240 i0 1 1 0 head N lv S st) (hi0:i0≤8) {C:List (List Cl)} (hCN:C.length=N.length) (hcl:∀ i (h:i < N.length) (h':i < C.length),C[i].length=N[i].cells∧N[i].sum=sumB (recL C[i])∧(∀ c ∈ C[i],Fine c)) {i:Nat} (hi:i < C.length) (n:Nat) :
    ret (U lf K (n+4) 16 [.ptr (some ⟨l,0⟩),.int .u64 ((i+1:Nat):Int)] G) fun v G'=>Turns Z G G' ∧
      ((sumB (recR (devB S [] st) 240 (N[i]'(by omega)).pos (recS C[i].length))≠sumB (recL C[i])∧v=.tuple [.slice none 0 0 0,.int .i64 6]) ∨
       (recR (devB S [] st) 240 (N[i]'(by omega)).pos (recS C[i].length)=recL C[i]∧∃ y,v=.tuple [y,.int .i64 0]∧Lst G G' 66 (rowsC C[i]) y) ∨
       (sumB (recR (devB S [] st) 240 (N[i]'(by omega)).pos (recS C[i].length))=sumB (recL C[i])∧recR (devB S [] st) 240 (N[i]'(by omega)).pos (recS C[i].length)≠recL C[i])):=by
  have hlen:=hS.len
  have hch:=hS.ch
  have h240:=hS.log.rg.le
  have hS0:S≠[]:=fun e=>by rw[e] at hlen;simp at hlen
  have hst:=hS.st
  have hfit:Fit (devB S [] st):=(devB_rm (k:=0) hS0 (by omega) (by decide) (by omega)).fit
  have hnt:∀ i (hi:i < N.length),(1≤N[i].cells∧N[i].cells≤32)∧N[i].sum < 4294967296∧recS N[i].cells≤240∧N[i].pos+recS N[i].cells≤4611686018427387904:=fun i hi=>by
    obtain⟨_,g2,g3,g4,g5⟩:=hch.get i hi
    exact⟨g4,g5,by omega,by omega⟩
  obtain⟨v,G',e,t,hx⟩:=ulrecord hlf (K:=K) hS.log hS.bo hS.hb hfit (q:=i+1) (by have:=hS.log.nl;omega) hnt (c:=0) (fun j hj _ m _=>devB_rc _ _ _ (by have:=Nat.mod_lt (N[j].pos+m) (show 0 < 240 by decide);omega)) n
  refine⟨v,G',e,t,?_⟩
  rcases hx with ⟨h,_⟩ | ⟨i',hi',he,hx⟩
  · omega
  · have:i'=i:=by omega
    subst this
    obtain⟨a1,a2,a3⟩:=hcl i' hi' hi
    have hmay:C[i'].all mayC=true:=List.all_eq_true.2 fun c hc=>(a3 c hc).1
    have hcc:recC (devB S [] st) 240 N[i'] 0=if sumB (recR (devB S [] st) 240 N[i'].pos (recS C[i'].length))≠sumB (recL C[i']) then 6 else if getOk (recR (devB S [] st) 240 N[i'].pos (recS C[i'].length)) C[i'].length=false then 5 else 0:=by
      unfold recC
      rw[if_neg (by decide),a1,a2]
    rw[← a1] at hx
    obtain⟨A,hA⟩:∃ A,A=recR (devB S [] st) 240 N[i'].pos (recS C[i'].length):=⟨_,rfl⟩
    rw[← hA] at hcc hx ⊢
    by_cases h1:sumB A=sumB (recL C[i'])
    · by_cases h2:A=recL C[i']
      · obtain⟨g1,g2⟩:=get_rec hmay
        rw[if_neg (fun h=>h h1),h2,g1,if_neg (by decide)] at hcc
        rw[hcc,h2,g2] at hx
        rcases hx with ⟨h,_⟩ | ⟨_,y,hv,hy⟩
        · exact absurd rfl h
        · exact .inr (.inl ⟨h2,y,hv,hy⟩)
      · exact .inr (.inr ⟨h1,h2⟩)
    · rw[if_pos h1] at hcc
      rw[hcc] at hx
      rcases hx with ⟨_,hv⟩ | ⟨h,_⟩
      · exact .inl ⟨h1,hv⟩
      · cases h
theorem logspoilt_get {G0 G:Heap} {l b:Bk} {i0 head:Nat} {N:List Nt} {lv:V} {S:List Nat} {st:Nat} (hS:LS G0 G l b 240 i0 1 1 0 head N lv S st) (hi0:i0≤8) {C:List (List Cl)} (hCN:C.length=N.length) (hcl:∀ i (h:i < N.length) (h':i < C.length),C[i].length=N[i].cells∧N[i].sum=sumB (recL C[i])∧(∀ c ∈ C[i],Fine c)) {Ys:List V} {y:V} (hall:Lst G0 G 1 (Ys.map fun v=>[v]) y) (hYC:Ys.length=C.length) (heach:∀ j (h1:j < Ys.length) (h2:j < C.length),Lst G0 G 66 (rowsC C[j]) Ys[j])
  {k w:Nat} (hk:k < C.length) (hw:w < 256) (hgood:∀ i (h:i < C.length),(i≠k∨w=0)→recR (devB S [] st) 240 (N[i]'(by omega)).pos (recS C[i].length)=recL C[i]) (hbad:w≠0→sumB (recR (devB S [] st) 240 (N[k]'(by omega)).pos (recS C[k].length))≠sumB (recL C[k])) (n:Nat):∀ t:T,t.getP (Tr.path 3)=some (.int .u8 (w:Int))→t.getP (Tr.path 10)=some (.ptr (some ⟨l,0⟩))→t.getP (Tr.path 12)=some y→t.getP (Tr.path 16)=some (.int .i64 (k:Int))→t.getP (Tr.path 20)=some (.int .i64 0) →
  wp (loopF (runC (U lf K (n+4)) lf c4_l0) lf ⟨t,G,[]⟩) fun x s=>x=.ex 4∧s.d=[]∧Turns Z G s.H:=by
 intro t q3 q10 q12 q16 q20
 have hN8:=hS.log.nl
 refine wp_loopF (fun u s=>∃ i:Nat,u=C.length - i∧i≤C.length∧s.d=[]∧s.t.getP (Tr.path 3)=some (.int .u8 (w:Int))∧s.t.getP (Tr.path 10)=some (.ptr (some ⟨l,0⟩))∧s.t.getP (Tr.path 12)=some y∧s.t.getP (Tr.path 16)=some (.int .i64 (k:Int))∧s.t.getP (Tr.path 20)=some (.int .i64 (i:Int))∧Turns Z G s.H)
  ?_ lf C.length _ ⟨0,rfl,Nat.zero_le _,rfl,q3,q10,q12,q16,q20,Turns.refl _ _⟩ (by omega)
 rintro u ⟨t,HH,d⟩ ⟨i,rfl,hi,hd,q3,q10,q12,q16,q20,hT⟩
 dsimp only at hd q3 q10 q12 q16 q20 hT
 subst hd
 have hyv:∃ p c o,y=.slice p Ys.length c o:=by
  obtain⟨p,c,o,e⟩:=hall.val
  rw[List.length_map] at e
  exact⟨p,c,o,e⟩
 by_cases hlt:i < C.length
 rotate_left
 ·have:i=C.length:=by omega
  subst this
  obtain⟨p,c,o,rfl⟩:=hyv
  rw[hYC] at q12
  simp (maxDischargeDepth:=12) only[c4_l0,q12,q20,Int.lt_irrefl,Nat.lt_irrefl,hv,ldO_one,stO_one,sy,tup,↓reduceIte,zA,zG,zC,zD,zF,zE,zB,zH,reduceCtorEq]
  exact⟨trivial,trivial,hT⟩
 have hlt':(i:Int) < (C.length:Int):=by omega
 have hltY:i < Ys.length:=by omega
 have hle:i+1≤Ys.length:=hltY
 have w1:IntKind.i64.wrap ((i:Int)+1)=((i+1:Nat):Int):=by rw[Go.Am.wrap_i64 (by omega)];omega
 have w2:IntKind.u64.wrap (i:Int)=(i:Int):=Go.Am.wrap_u64 (by omega)
 have w3:IntKind.u64.wrap ((i:Int)+1)=((i+1:Nat):Int):=by rw[Go.Am.wrap_u64 (by omega)];omega
 have hallH:=hall.turns hT (fun _ _ h=>h)
 have hyi:=(heach i hltY hlt).turns hT (fun _ _ h=>h)
 obtain⟨m,ey,ld⟩:=lst_ld1 hallH hltY (lst_cut hyi).1
 subst ey
 obtain⟨v2,H2,e2,t2,h2⟩:=Sps.record hlf (K:=K) (hS.same hT) hi0 hCN hcl hlt n
 obtain⟨i1,hi1⟩:∃ i1,i1=i+1:=⟨_,rfl⟩
 rw[← hi1] at e2 w3
 have hltN':((i:Int) < (Ys.length:Int)):=by omega
 by_cases hsp:i=k∧w≠0
 ·obtain⟨hik,hw0⟩:=hsp
  subst hik
  have hwb:((w:Int)==0)=false:=by rw[beq_eq_false_iff_ne];omega
  have hik':((i:Int)==(i:Int))=true:=beq_self_eq_true _
  have b66:((6:Int)==6)=true:=rfl
  have bz:(((0:Nat):Int)==0)=true:=rfl
  rcases h2 with ⟨_,rfl⟩ | ⟨h,_⟩ | ⟨h,_⟩
  ·simp (maxDischargeDepth:=12) only[c4_l0,q3,q10,q12,q16,q20,hltN',hltY,w2,w3,e2,hik',hwb,b66,bz,w1,hv,ldO_one,stO_one,sy,tup,↓reduceIte,zA,zG,zC,zD,zF,zE,zB,zH,reduceCtorEq]
   exact⟨C.length - (i+1),by omega,i+1,rfl,hlt,trivial,by simp[q3],by simp[q10],by simp[q12],by simp[q16],by simp,hT.trans t2⟩
  ·exact absurd (by rw[h]) (hbad hw0)
  ·exact absurd h (hbad hw0)
 ·have hg:=hgood i hlt (by
   by_cases e:i=k
   ·exact .inr (Classical.byContradiction fun h=>hsp ⟨e,h⟩)
   ·exact .inl e)
  rcases h2 with ⟨h,_⟩ | ⟨_,y2,rfl,hy2⟩ | ⟨_,h⟩
  ·exact absurd (by rw[hg]) h
  rotate_left
  ·exact absurd hg h
  have b00:((0:Int)==0)=true:=rfl
  have hyi2:=hyi.turns t2 (fun _ _ h=>h)
  obtain⟨m2,ey2,ld2⟩:=lst_ld1 (hallH.turns t2 (fun _ _ h=>h)) hltY (lst_cut hyi).1
  have em:m2=m:=by
   have:=(V.slice.inj ey2).1
   exact(Bk.run.inj (Ptr.mk.inj (Option.some.inj this)).1).symm
  subst em
  have hcl1:=(hcl i (by omega) hlt).1
  have h32:=((hS.ch.get i (by omega)).2.2.2.1).2
  have eC:=ucells hlf (K:=K) (G:=H2) (a:=y2) (b:=Ys[i]) (l:=C[i]) (cls_lst hy2) (cls_lst hyi2) (by omega) (by omega) (n+3)
  have hy2v:y2.cells=some [y2]∧width [y2]=1:=⟨(lst_cut hy2).2.1,(lst_cut hy2).2.2⟩
  have hspB:(((i:Int)==(k:Int))=false)∨(((i:Int)==(k:Int))=true∧((w:Int)==0)=true):=by
   by_cases e:i=k
   ·refine .inr ⟨by rw[e];exact beq_self_eq_true _,?_⟩
    have:w=0:=Classical.byContradiction fun h=>hsp ⟨e,h⟩
    rw[this];rfl
   ·exact .inl (by rw[beq_eq_false_iff_ne];omega)
  obtain⟨yi,hyie⟩:∃ yi,yi=Ys[i]:=⟨_,rfl⟩
  rw[← hyie] at ld ld2 eC hyi
  obtain⟨p3,c3,o3,eyv⟩:=hyi.val
  obtain⟨p4,c4,o4,ey4⟩:=hy2.val
  subst eyv
  subst ey4
  rcases hspB with hb | ⟨hb,hb2⟩
  ·simp (maxDischargeDepth:=12) only[c4_l0,q3,q10,q12,q16,q20,hltN',hltY,hle,w2,w3,e2,hb,b00,ld2,eC,w1,Nat.mul_one,hv,ldO_one,stO_one,sy,tup,↓reduceIte,zA,zG,zC,zD,zF,zE,zB,zH,reduceCtorEq]
   exact⟨C.length - (i+1),by omega,i+1,rfl,hlt,trivial,by simp[q3],by simp[q10],by simp[q12],by simp[q16],by simp,hT.trans t2⟩
  ·simp (maxDischargeDepth:=12) only[c4_l0,q3,q10,q12,q16,q20,hltN',hltY,hle,w2,w3,e2,hb,hb2,b00,ld2,eC,w1,Nat.mul_one,hv,ldO_one,stO_one,sy,tup,↓reduceIte,zA,zG,zC,zD,zF,zE,zB,zH,reduceCtorEq]
   exact⟨C.length - (i+1),by omega,i+1,rfl,hlt,trivial,by simp[q3],by simp[q10],by simp[q12],by simp[q16],by simp,hT.trans t2⟩
end
end Go.Proofs.YtabebpemfinejaaDoor.draft
namespace Go.Proofs.YtabebpemfinejaaDoor.draft
open Go.Am
open disk (Bn)
theorem hdN_lt {l:List Cl} (hl:l.all mayC=true) (q:Nat):∀ m,hdN l m q < 256 ^ 64
 | 0=>Nat.pow_pos (by decide)
 | m+1=>by
  show (if q=m / 16 then layB (hdN l m q) (m % 16*4) (placeL (l.getD m noC)) else hdN l m q) < _
  split
  ·exact layB_lt _ _ _ (place_lt hl m) (by show m % 16*4+3≤64;omega) (hdN_lt hl q m)
  ·exact hdN_lt hl q m
theorem recL_small {l:List Cl} (hl:∀ c ∈ l,Fine c) {k:Nat} (hk:k < recS l.length):(recL l).getD k 0 < 256 ^ 64:=by
 have hm:l.all mayC=true:=List.all_eq_true.2 fun c hc=>(hl c hc).1
 rw[recL_get hk]
 split
 ·exact hdN_lt hm _ _
 ·rename_i h
  have hlt:k - headsN l.length < l.length:=by have:recS l.length=headsN l.length+l.length:=rfl;omega
  rw[List.getD_eq_getElem?_getD,List.getElem?_eq_getElem hlt]
  exact(hl _ (List.getElem_mem _)).2
theorem posAt_mono {N:List Nt} {f p h:Nat} (c:Chain f p N h):∀ d i,i+d≤N.length→posAt N h i≤posAt N h (i+d)
 | 0,_,_=>Nat.le_refl _
 | d+1,i,hi=>by
  have h1:=posAt_mono c d i (by omega)
  have h2:=posAt_succ c (i+d) (by omega)
  rw[show i+(d+1)=i+d+1 by omega,h2]
  omega
section
variable {S:List Nat} {N:List Nt} {C:List (List Cl)} {head:Nat} (hh:Held 240 S N C) (hc:Chain 1 0 N head) (h240:head≤240) (hS:S.length=250) {k jj j w:Nat} (hk:k < N.length) (hjj:jj < recS N[k].cells) (hj:j < 64) (hw:w < 256) {S':List Nat} (hS':S'=S.set (10+N[k].pos+jj) (disk.rotN (S.getD (10+N[k].pos+jj) 0) j w)) (st:Nat)
include hh hc h240 hS hjj hS'
theorem spoilt_len:S'.length=250:=by rw[hS',List.length_set,hS]
theorem spoilt_other {i:Nat} (hi:i < N.length) (hi':i < C.length) (hne:i≠k):recR (devB S' [] st) 240 N[i].pos (recS N[i].cells)=recL C[i]:=by
 have hl:=spoilt_len hh hc h240 hS hk hjj hS'
 obtain⟨e1,e2,e3,e4⟩:=hh.recs i hi hi'
 obtain⟨_,_,g3,_⟩:=hc.get i hi
 obtain⟨_,_,k3,_⟩:=hc.get k hk
 have pi:posAt N head i=N[i].pos:=posAt_lt hi
 have pk:posAt N head k=N[k].pos:=posAt_lt hk
 have si:=posAt_succ hc i hi
 have sk:=posAt_succ hc k hk
 apply List.ext_getElem
 ·rw[recR_len,recL_len,e1]
 ·intro m h1 h2
  rw[recR_len] at h1
  have hm:(N[i].pos+m) % 240=N[i].pos+m:=Nat.mod_eq_of_lt (by omega)
  rw[recR_get,devB_read (by omega),← e4 m h2,hS',getD_set _ _ _ _ (by omega),if_neg]
  rw[hm]
  rcases Nat.lt_or_gt_of_ne hne with h | h
  ·have:=posAt_mono hc (k - (i+1)) (i+1) (by omega)
   rw[show i+1+(k - (i+1))=k by omega] at this
   omega
  ·have:=posAt_mono hc (i - (k+1)) (k+1) (by omega)
   rw[show k+1+(i - (k+1))=i by omega] at this
   omega
theorem spoilt_own (hk':k < C.length):∃ h:jj < (recL C[k]).length,recR (devB S' [] st) 240 N[k].pos (recS N[k].cells)=(recL C[k]).set jj (disk.rotN (recL C[k])[jj] j w):=by
 have hl:=spoilt_len hh hc h240 hS hk hjj hS'
 obtain⟨e1,e2,e3,e4⟩:=hh.recs k hk hk'
 obtain⟨_,_,k3,_⟩:=hc.get k hk
 have hlen:(recL C[k]).length=recS N[k].cells:=by rw[recL_len,e1]
 refine⟨by omega,?_⟩
 have hm:∀ m,m < recS N[k].cells→(N[k].pos+m) % 240=N[k].pos+m:=fun m hm=>Nat.mod_eq_of_lt (by omega)
 apply List.ext_getElem
 ·rw[recR_len,List.length_set,hlen]
 ·intro m h1 h2
  rw[recR_len] at h1
  rw[recR_get,devB_read (by have:=hm m h1;omega),List.getElem_set,hm m h1]
  have e:=e4 m (by omega)
  have ej:=e4 jj (by omega)
  rw[hm m h1] at e
  rw[hm jj hjj] at ej
  rw[hS',getD_set _ _ _ _ (by omega)]
  by_cases h:jj=m
  ·subst h
   rw[if_pos (by omega),if_pos rfl,show 10+N[k].pos+jj=N[k].pos+jj+10 by omega,ej]
  ·rw[if_neg (by omega),if_neg h,e]
end
end Go.Proofs.YtabebpemfinejaaDoor.draft
namespace Go.Proofs.YtabebpemfinejaaDoor.draft
open Go.Am
open disk (bx Fit A1 R1 Low Bn)
section
variable {lf K:Nat} (hlf:1000 < lf)
include hlf
theorem LS.refuse {G0 G:Heap} {l b:Bk} {R i cnt first tail head:Nat} {N:List Nt} {lv:V} {S:List Nat} {st:Nat} (h:LS G0 G l b R i cnt first tail head N lv S st) (hi:i≤45) (hgl:G0.get (.run 0)=some (.rows true 4 (intsR [8,2,8,8]))) (h00:0 < G0.next) {f:Nat} (hf64:f < 18446744073709551616) (hf:f < first∨first+N.length < f) (n:Nat):ret (U lf K (n+7) 10 [.ptr (some ⟨l,0⟩),.int .u64 (f:Int)] G) fun v G'=>v=.int .i64 2∧LS G0 G' l b R i cnt first tail head N lv S st:=by
 have h1:=h.len
 have h2:=h.R
 have h3:=h.cnt
 have h4:=h.fst
 have h6:=h.st
 have hS0:S≠[]:=fun e=>by rw[e] at h1;simp at h1
 obtain⟨v,G',e,hr⟩:=ulclear hlf (K:=K) ((h.t.same (.run 0) h00 (fun h=>h)).trans hgl) (Nat.lt_of_lt_of_le h00 h.t.next) h.log h.ch h.bo h.lb h.hb (devB_rm hS0 (by omega) (by decide) (by omega)) (by decide) h2.1 (by omega) h4.1 (f:=f) hf64 n
 refine⟨v,G',e,?_⟩
 rcases hr with ⟨_,rfl,t⟩ | ⟨h7,_⟩
 ·exact⟨rfl,h.same t⟩
 ·omega
end
end Go.Proofs.YtabebpemfinejaaDoor.draft
namespace Go.Proofs.YtabebpemfinejaaDoor.draft
open Go.Am
open disk (bx Fit A1 R1 Low Bn)
section
variable {lf K:Nat} (hlf:1000 < lf)
include hlf
theorem logspoilt_run (G:Heap) (hgl:G.get (.run 0)=some (.rows true 4 (intsR [8,2,8,8]))) (h00:0 < G.next) {pp:Option Ptr} {L:List Ll} {pc po:Nat} (hL:LlsAt G pp L) (hLf:∀ s ∈ L,s.cs.length+1 < lf) {wh a w:Nat} (hwh:wh < 256) (ha:a < 65536) (hw:w < 256) (n:Nat):ret (U lf K (n+11) 4 [.slice pp L.length pc po,.int .u8 (wh:Int),.int .u16 (a:Int),.int .u8 (w:Int)] G) fun v G'=>v=.bool true∧Turns Z G G':=by
 obtain⟨v1,G1,e1,b,l,rfl,hl1,hb1,lb,bn,ln,bo,t1⟩:=ulaid hlf (K:=K) hgl h00 (m:=200) (by decide) (R:=240) rfl n
 have hlS:(layS (List.replicate (10+240) 0) 7 240).length=240+10:=by unfold layS;rw[stepsD_len,List.length_replicate]
 have h1:LS G G1 l b 240 0 1 1 0 0 [] (.slice none 0 0 0) (layS (List.replicate (10+240) 0) 7 240) 13:=
  ⟨hl1,rfl,hb1,hlS,by decide,by decide,by decide,by decide,by decide,fun c ⟨_,_,_,_,e,_⟩=>(by cases e),bo,lb,bn,ln,t1⟩
 change U lf K (n+10) 6 [.int .u8 200] G=_ at e1
 have hl2:=logspoilt_put hlf (K:=K) hgl h00 hL hLf h1 (pc:=pc) (po:=po) (t1:=.int .u8 (wh:Int)) (t2:=.int .u16 (a:Int)) (t3:=.int .u8 (w:Int)) (t9:=.ptr (some ⟨b,0⟩)) (n+4)
 refine ret_callU rfl rfl c4_eq ?_
 simp (maxDischargeDepth:=12) only[c4,e1,hv,ldO_one,stO_one,sy,tup,↓reduceIte,zA,zG,zC,zD,zF,zE,zB,zH,reduceCtorEq]
 refine wp_ctx (F:=fun r=>seqC _ _ _ (blockC _ r)) (hl2 _ ?_ ?_ ?_ ?_ ?_ ?_ ?_ ?_) ?_
 ·simp only[sy,tup,↓reduceIte,zA,zG,zC,zD,zF,zE,zB,zH,reduceCtorEq]
 ·simp only[sy,tup,↓reduceIte,zA,zG,zC,zD,zF,zE,zB,zH,reduceCtorEq]
 ·simp only[sy,tup,↓reduceIte,zA,zG,zC,zD,zF,zE,zB,zH,reduceCtorEq]
 ·simp only[sy,tup,↓reduceIte,zA,zG,zC,zD,zF,zE,zB,zH,reduceCtorEq]
 ·simp only[sy,tup,↓reduceIte,zA,zG,zC,zD,zF,zE,zB,zH,reduceCtorEq]
 ·simp only[sy,tup,↓reduceIte,zA,zG,zC,zD,zF,zE,zB,zH,reduceCtorEq]
 ·simp only[sy,tup,↓reduceIte,zA,zG,zC,zD,zF,zE,zB,zH,reduceCtorEq]
 ·simp only[sy,tup,↓reduceIte,zA,zG,zC,zD,zF,zE,zB,zH,reduceCtorEq]
 rintro x ⟨t,G2,d⟩ ⟨rfl,hd,q1,q2,q3,q9,q10,i0,head,N,lv,S,st,C,Ys,y,hi0,q12,hS⟩
 dsimp only at hd q1 q2 q3 q9 q10 q12 hS
 subst hd
 have hCN:=hS.held.len
 have hYC:=hS.len
 have hN8:=hS.ls.log.nl
 obtain⟨yp,yc,yo,ey⟩:=hS.all.val
 rw[List.length_map] at ey
 by_cases hz:C.length=0
 ·have hz':((Ys.length:Int)==0)=true:=by rw[hYC,hz];rfl
  have eL:=qLives (lf:=lf) (K:=K) (w:=n+9) (G:=G2) ((hS.ls.t.same (.run 0) h00 (fun h=>h)).trans hgl)
  subst ey
  simp (maxDischargeDepth:=12) only[q12,hz',eL,hv,ldO_one,stO_one,sy,tup,↓reduceIte,zA,zG,zC,zD,zF,zE,zB,zH,reduceCtorEq]
  refine⟨trivial,.inr trivial,_,rfl,rfl,?_⟩
  exact hS.ls.t.skip _
 have hz':((Ys.length:Int)==0)=false:=by rw[beq_eq_false_iff_ne];omega
 obtain⟨k,hk⟩:∃ k,k=wh % C.length:=⟨_,rfl⟩
 have hkC:k < C.length:=by rw[hk];exact Nat.mod_lt _ (by omega)
 have r1:arith .rem (.int .i64 (wh:Int)) (.int .i64 (Ys.length:Int))=some (.int .i64 (k:Int)):=by rw[hk,← hYC];exact rem_i64 wh Ys.length (by omega)
 have w0:IntKind.i64.wrap (wh:Int)=(wh:Int):=Go.Am.wrap_i64 (by omega)
 have wa:IntKind.i64.wrap (a:Int)=(a:Int):=Go.Am.wrap_i64 (by omega)
 have hl1:=logspoilt_from hlf (K:=K) hS hkC (t2:=.int .u16 (a:Int)) (t3:=.int .u8 (w:Int)) (t9:=.ptr (some ⟨b,0⟩)) (t10:=.ptr (some ⟨l,0⟩)) (n+8)
 have hkN:k < N.length:=by omega
 obtain⟨a1,a2,a3,a4⟩:=hS.held.recs k hkN hkC
 obtain⟨g1,g2,g3,g4,g5⟩:=hS.ls.ch.get k hkN
 have hpk:posAt N head k=N[k].pos:=posAt_lt hkN
 have hkY:k < Ys.length:=by omega
 have hyk:=hS.each k hkY hkC
 obtain⟨m,em,ldk⟩:=lst_ld1 hS.all hkY (lst_cut hyk).1
 obtain⟨p3,c3,o3,eyk⟩:=hyk.val
 rw[rowsC_len] at eyk
 rw[eyk] at ldk
 have hleY:k+1≤Ys.length:=hkY
 have eZ:=ursize hlf (K:=K) G2 (k:=C[k].length) (by omega) (by omega) (n+8)
 obtain⟨z,hzz⟩:∃ z,z=recS C[k].length:=⟨_,rfl⟩
 rw[← hzz] at eZ
 have hzN:z=recS N[k].cells:=by rw[hzz,a1]
 have hz1:1≤z∧z≤34:=by rw[hzz];unfold recS;omega
 obtain⟨jj,hjj⟩:∃ jj,jj=a % z:=⟨_,rfl⟩
 have hjz:jj < z:=by rw[hjj];exact Nat.mod_lt _ (by omega)
 have r2:arith .rem (.int .i64 (a:Int)) (.int .i64 (z:Int))=some (.int .i64 (jj:Int)):=by rw[hjj];exact rem_i64 a z (by omega)
 obtain⟨j,hj⟩:∃ j,j=a % 64:=⟨_,rfl⟩
 have hj64:j < 64:=by rw[hj];exact Nat.mod_lt _ (by decide)
 have r3:arith .rem (.int .i64 (a:Int)) (.int .i64 64)=some (.int .i64 (j:Int)):=by rw[hj];exact rem_i64 a 64 (by decide)
 have h240:=hS.ls.log.rg.le
 have hlenS:=hS.ls.len
 have hstS:=hS.ls.st
 obtain⟨n0,hn0⟩:∃ n0,n0=10+N[k].pos+jj:=⟨_,rfl⟩
 have w4:IntKind.i64.wrap (((10+posAt N head k:Nat):Int)+(jj:Int))=(n0:Int):=by rw[Go.Am.wrap_i64 (by omega)];omega
 obtain⟨oc0,orot⟩:=devB_rot (S:=S) (st:=st) (n:=n0) (j:=j) (y:=w) (by omega) hj64
 have hS0:S≠[]:=fun e=>by rw[e] at hlenS;simp at hlenS
 have eR:=qRot (lf:=lf) (K:=K) (w:=n+9) hS.ls.hb (devB_rm (k:=0) hS0 (by omega) (by decide) (by omega)).fit (0:Int) (n0:Int) (j:Int) w hw
 rw[oc0,orot] at eR
 obtain⟨S',hS'⟩:∃ S',S'=S.set n0 (disk.rotN (S.getD n0 0) j w):=⟨_,rfl⟩
 rw[← hS'] at eR
 obtain⟨P,hP⟩:∃ P,P=10+posAt N head k:=⟨_,rfl⟩
 rw[← hP] at hl1 w4
 rw[ey] at em
 have eyp:=(V.slice.inj em).1
 subst eyp
 subst ey
 simp (maxDischargeDepth:=12) only[q1,q12,hz',w0,r1,hv,ldO_one,stO_one,sy,tup,↓reduceIte,zA,zG,zC,zD,zF,zE,zB,zH,reduceCtorEq]
 refine wp_ctx (F:=fun r=>seqC _ _ _ (blockC _ r)) (hl1 _ ?_ ?_ ?_ ?_ ?_ ?_ ?_ ?_) ?_
 ·simp only[q2,sy,tup,↓reduceIte,zA,zG,zC,zD,zF,zE,zB,zH,reduceCtorEq]
 ·simp only[q3,sy,tup,↓reduceIte,zA,zG,zC,zD,zF,zE,zB,zH,reduceCtorEq]
 ·simp only[q9,sy,tup,↓reduceIte,zA,zG,zC,zD,zF,zE,zB,zH,reduceCtorEq]
 ·simp only[q10,sy,tup,↓reduceIte,zA,zG,zC,zD,zF,zE,zB,zH,reduceCtorEq]
 ·simp only[q12,sy,tup,↓reduceIte,zA,zG,zC,zD,zF,zE,zB,zH,reduceCtorEq]
 ·simp only[sy,tup,↓reduceIte,zA,zG,zC,zD,zF,zE,zB,zH,reduceCtorEq]
 ·simp only[sy,tup,↓reduceIte,zA,zG,zC,zD,zF,zE,zB,zH,reduceCtorEq]
 ·simp only[sy,tup,↓reduceIte,zA,zG,zC,zD,zF,zE,zB,zH,reduceCtorEq]
 clear q1 q2 q3 q9 q10 q12
 rintro x ⟨t,G3,d⟩ ⟨rfl,hd,hG,q2,q3,q9,q10,q12,q16,q17⟩
 dsimp only at hd hG q2 q3 q9 q10 q12 q16 q17
 subst hd;subst hG
 have t4:Turns (fun c=>c=b) G3 ((G3.set b (bx false (devB S' [] st))).skip (K+2)):=((Turns.refl _ _).setb _).skip _
 have hb4:((G3.set b (bx false (devB S' [] st))).skip (K+2)).get b=some (bx false (devB S' [] st)):=by rw[get_skip,Heap.get_set,if_pos rfl]
 obtain⟨G4,hG4⟩:∃ G4,(G3.set b (bx false (devB S' [] st))).skip (K+2)=G4:=⟨_,rfl⟩
 rw[hG4] at eR t4 hb4
 have hls4:=hS.ls.newS t4 hb4 (by rw[hS',List.length_set])
 have nb:∀ {w:Nat} {r:List (List V)} {v:V},Lst G G3 w r v→Lst G G4 w r v:=fun h=>h.turns t4 (fun c hc e=>by
  obtain⟨_,_,_,_,hgB⟩:=h.bof hc
  rw[e,hS.ls.hb] at hgB;cases hgB)
 have hcl:∀ i (h:i < N.length) (h':i < C.length),C[i].length=N[i].cells∧N[i].sum=sumB (recL C[i])∧(∀ c ∈ C[i],Fine c):=fun i h h'=>by
  obtain⟨b1,b2,b3,_⟩:=hS.held.recs i h h'
  exact⟨b1,b2,b3⟩
 rw[hn0] at hS'
 have hjjN:jj < recS N[k].cells:=by rw[← a1,← hzz];exact hjz
 obtain⟨hown1,hown⟩:=spoilt_own hS.held hS.ls.ch (by omega) hlenS hkN hjjN hS' st hkC
 have hl0:=logspoilt_get hlf (K:=K) hls4 hi0 hCN hcl (nb hS.all) hYC (fun j h1 h2=>nb (hS.each j h1 h2)) hkC hw (fun i hi hx=>by
  by_cases e:i=k
  ·subst e
   have hw0:w=0:=by
    rcases hx with h | h
    ·exact absurd rfl h
    ·exact h
   subst hw0
   rw[a1,hown,rot_zero _ _ (by rw[← getD_get hown1];exact recL_small a3 (by rw[← recL_len];exact hown1)) hj64,List.set_getElem_self]
  ·rw[(hcl i (by omega) hi).1]
   exact spoilt_other hS.held hS.ls.ch (by omega) hlenS hkN hjjN hS' st (by omega) hi e) (fun hw0=>by
  rw[a1,hown]
  exact sum_rot hown1 hj64 hw hw0) (n+6)
 have b00:((0:Int)==0)=true:=rfl
 simp (maxDischargeDepth:=12) only[q2,q3,q9,q10,q12,q16,q17,hleY,ldk,eZ,wa,r2,r3,w4,eR,b00,Nat.mul_one,hv,ldO_one,stO_one,sy,tup,↓reduceIte,zA,zG,zC,zD,zF,zE,zB,zH,reduceCtorEq]
 refine wp_ctx (F:=fun r=>seqC _ _ _ (blockC _ r)) (hl0 _ ?_ ?_ ?_ ?_ ?_) ?_
 ·simp only[q3,sy,tup,↓reduceIte,zA,zG,zC,zD,zF,zE,zB,zH,reduceCtorEq]
 ·simp only[q10,sy,tup,↓reduceIte,zA,zG,zC,zD,zF,zE,zB,zH,reduceCtorEq]
 ·simp only[q12,sy,tup,↓reduceIte,zA,zG,zC,zD,zF,zE,zB,zH,reduceCtorEq]
 ·simp only[q16,sy,tup,↓reduceIte,zA,zG,zC,zD,zF,zE,zB,zH,reduceCtorEq]
 ·simp only[sy,tup,↓reduceIte,zA,zG,zC,zD,zF,zE,zB,zH,reduceCtorEq]
 rintro x ⟨t,G5,d⟩ ⟨rfl,hd,t5⟩
 dsimp only at hd t5
 subst hd
 have eL:=qLives (lf:=lf) (K:=K) (w:=n+9) (G:=G5) (((hls4.t.trans t5).same (.run 0) h00 (fun h=>h)).trans hgl)
 simp (maxDischargeDepth:=12) only[eL,hv,ldO_one,stO_one,sy,tup,↓reduceIte,zA,zG,zC,zD,zF,zE,zB,zH,reduceCtorEq]
 refine⟨trivial,.inr trivial,_,rfl,rfl,?_⟩
 exact(hls4.t.trans t5).skip _
end
end Go.Proofs.YtabebpemfinejaaDoor.draft
