import Derived.Test.YtabebpemfinejaaDoorG0
import Derived.Test.YtabebpemfinejaaDoorAmList
set_option linter.unusedVariables false
set_option linter.unusedSimpArgs false
set_option maxRecDepth 10000
set_option linter.unusedSectionVars false
open Nat renaming reduceEqDiff → zA, reduceLeDiff → zB, reduceSub → zC, reduceMul → zD, reduceMod → zE, reduceDiv → zF, reduceAdd → zG
open Int renaming reduceBEq → zH
namespace Go.Proofs.YtabebpemfinejaaDoor.disk
open Go.Am
theorem load1_of {H:Heap} {c:Bk} {x:V} (h:H.get c=some (.rows false 1 [[x]])) (hx:x.asBlk=none):loadAt H ⟨c,0⟩ 1=some [x]:=by
 rw[loadAt_eq h (r:=[x]) rfl];exact cut_hit _ _ hx
def arLess (ar:Int):Int:=if ar=0 then 0 else ar - 1
theorem bstep_cut {H:Heap} {b ds:Bk} {so:Nat} {l:List Dv} {st:Int} {dk:Bool} (h:BenchAt H b ds so l st 1 dk) (f:V) (lf m:Nat) :
  callS Tryd.prog S0 lf (m+1) 81 [.ptr (some ⟨b,0⟩),f] H=some (.v (.int .i64 8),H.set b (.rows false 4 [[.slice (some ⟨ds,0⟩) l.length l.length so,.int .i64 st,.int .i64 1,.bool true]])):=by
 have l2:=bload2 h
 have s3:=bstore3 h true
 obtain⟨v,H',e,rfl,rfl⟩:ret (callS Tryd.prog S0 lf (m+1) 81 [.ptr (some ⟨b,0⟩),f] H) fun v H'=>v=.int .i64 8∧H'=H.set b (.rows false 4 [[.slice (some ⟨ds,0⟩) l.length l.length so,.int .i64 st,.int .i64 1,.bool true]]):=by
  refine ret_call rfl c81_eq ?_
  simp only[c81,l2,s3,sy,tup,↓reduceIte,zA,zG,zC,zD,zF,zE,zB,zH,reduceCtorEq]
  simp
 exact e
theorem bstep_go {H:Heap} {b ds:Bk} {so:Nat} {l:List Dv} {st ar:Int} {dk:Bool} (h:BenchAt H b ds so l st ar dk) (h1:ar≠1) (ha:0≤ar∧ar≤9223372036854775807) (hs:0≤st∧st≤100000) (lf m:Nat) :
  ∃ H1,BenchAt H1 b ds so l (st+1) (arLess ar) dk∧Turns (fun c=>c=b) H H1∧∀ id first cap v H',callS Tryd.prog S0 lf m id (first++cap) H1=some (.v v,H')→callS Tryd.prog S0 lf (m+1) 81 [.ptr (some ⟨b,0⟩),.func (.func id) first cap] H=some (.v v,H'):=by
 have l2:=bload2 h
 have z1:(ar==1)=false:=by simp;exact h1
 have w1:IntKind.i64.wrap (st+1)=st+1:=wrap_i64 (by omega)
 by_cases h0:ar=0
 ·subst h0
  have l1:=bload1 h
  have s1:=bstore1 h (st+1)
  refine⟨_,h.put (st+1) 0 dk,Turns.set (X:=fun c=>c=b) rfl _ _,fun id first cap v H' e=>?_⟩
  obtain⟨v',H'',e',rfl,rfl⟩:ret (callS Tryd.prog S0 lf (m+1) 81 [.ptr (some ⟨b,0⟩),.func (.func id) first cap] H) fun v' H''=>v'=v∧H''=H':=by
   refine ret_call rfl c81_eq ?_
   simp only[c81,l2,l1,s1,w1,e,sy,tup,↓reduceIte,zA,zG,zC,zD,zF,zE,zB,zH,reduceCtorEq]
   simp
  exact e'
 ·have z0:(ar==0)=false:=by simp;exact h0
  have w2:IntKind.i64.wrap (ar - 1)=ar - 1:=wrap_i64 (by omega)
  have s2:=bstore2 h (ar - 1)
  have hm:=h.put st (ar - 1) dk
  have l1:=bload1 hm
  have s1:=bstore1 hm (st+1)
  have hal:arLess ar=ar - 1:=if_neg h0
  refine⟨_,by rw[hal];exact hm.put (st+1) (ar - 1) dk,(Turns.set (X:=fun c=>c=b) rfl _ _).setm rfl _,fun id first cap v H' e=>?_⟩
  obtain⟨v',H'',e',rfl,rfl⟩:ret (callS Tryd.prog S0 lf (m+1) 81 [.ptr (some ⟨b,0⟩),.func (.func id) first cap] H) fun v' H''=>v'=v∧H''=H':=by
   refine ret_call rfl c81_eq ?_
   simp only[c81,l2,z0,z1,w2,s2,l1,s1,w1,e,sy,tup,↓reduceIte,zA,zG,zC,zD,zF,zE,zB,zH,reduceCtorEq]
   simp
  exact e'
theorem wclos {K:Heap} {b ds:Bk} {so:Nat} {l:List Dv} {st ar:Int} {dk:Bool} (h:BenchAt K b ds so l st ar dk) {i:Nat} (hi:i < l.length) (hS:l[i].D.S≠[]) (hmax:l[i].D.L.length < 1000000) (n:Int) (B:Nat) {c0 c1 c2 c3:Bk}
  (g0:K.get c0=some (.rows false 1 [[.ptr (some ⟨b,0⟩)]])) (g1:K.get c1=some (.rows false 1 [[.int .i64 (i:Int)]])) (g2:K.get c2=some (.rows false 1 [[.int .i64 n]])) (g3:K.get c3=some (.rows false 64 [[.blk B]])) (lf m:Nat) :
  ret (callS Tryd.prog S0 lf (m+4) 82 [.ptr (some ⟨c0,0⟩),.ptr (some ⟨c1,0⟩),.ptr (some ⟨c2,0⟩),.ptr (some ⟨c3,0⟩)] K) fun v H'=>v=.int .i64 (code l[i].D n)∧∃ y',Next K l[i].b l[i].y l[i].D H' y' (l[i].D.write n B):=by
 have d0:=load1_of g0 rfl
 have d1:=load1_of g1 rfl
 have d2:=load1_of g2 rfl
 have d3:=load_of g3
 have l0:=bload0 h
 have lp:=bloadP h hi
 have hi1:i+1≤l.length:=hi
 obtain⟨v,H1,e,rfl,y',hN⟩:=write_all (h.dev i hi) hS hmax n B lf m
 refine ret_call rfl c82_eq ?_
 simp only[c82,d0,d1,d2,d3,l0,lp,hi1,e,Nat.mul_one,sy,tup,↓reduceIte,zA,zG,zC,zD,zF,zE,zB,zH,reduceCtorEq]
 rw[endD_ok (by kernel_rfl) (by kernel_rfl)]
 simp only[sy,tup,↓reduceIte,zA,zG,zC,zD,zF,zE,zB,zH,reduceCtorEq]
 exact⟨trivial,.inr trivial,_,rfl,rfl,y',hN⟩
structure Did (H:Heap) (b ds:Bk) (so:Nat) (l:List Dv) (st ar:Int) (i:Nat) (hi:i < l.length) (D':Dev) (H':Heap) (y':Lay):Prop where
 at':BenchAt H' b ds so (l.set i ⟨l[i].b,y',D'⟩) (st+1) (arLess ar) false
 turns:Turns (fun c=>c=b∨l[i].foot c) H H'
 foot:∀ c,Foot l[i].b y' D' c→l[i].foot c∨¬ H.Old c
theorem did_of {H H1 H2 H':Heap} {b ds:Bk} {so:Nat} {l:List Dv} {st ar:Int} {i:Nat} {hi:i < l.length} (t:Turns Z H H1) (h2:BenchAt H2 b ds so l (st+1) (arLess ar) false) (t2:Turns (fun c=>c=b) H1 H2) {y':Lay} {D':Dev} (hN:Next H2 l[i].b l[i].y l[i].D H' y' D'):Did H b ds so l st ar i hi D' H' y':=by
 refine⟨h2.step hi hN,?_,fun c hc=>?_⟩
 ·exact((t.wide (fun c hc=>hc.elim)).trans (t2.wide (fun c hc=>.inl hc))).trans (hN.turns.wide (fun c hc=>.inr hc))
 ·have hn:=t.next
  have hn2:=t2.next
  rcases hc with rfl | rfl | ⟨hl,rfl⟩
  ·exact .inl (.inl rfl)
  ·exact .inl (.inr (.inl hN.s))
  ·rcases hN.l hl with ⟨k1,k2⟩ | k1
   ·exact .inl (.inr (.inr ⟨k1,k2⟩))
   ·exact .inr (fun o=>k1 ((o.mono hn).mono hn2))
theorem bwrite {H:Heap} {b ds:Bk} {so:Nat} {l:List Dv} {st ar:Int} (h:BenchAt H b ds so l st ar false) (ha:0≤ar∧ar≤9223372036854775807) (hs:0≤st∧st≤100000) {i:Nat} (hi:i < l.length) (n:Int) (B:Nat) {lf:Nat} (hS:l[i].D.S≠[]) (hlf:l[i].D.L.length+1 < lf) (hmax:l[i].D.L.length < 1000000) (hc:code l[i].D n=0) (m:Nat) :
  ret (callS Tryd.prog S0 lf (m+6) 61 [.ptr (some ⟨b,0⟩),.int .i64 (i:Int),.int .i64 n,.blk B] H) fun v H'=>(ar=1∧v=.int .i64 8∧BenchAt H' b ds so l st 1 true∧Turns (fun c=>c=b) H H')∨(ar≠1∧v=.int .i64 0∧∃ y',Did H b ds so l st ar i hi (l[i].D.write n B) H' y'):=by
 have hT4:Turns Z H ((((H.add (.rows false 1 [[.ptr (some ⟨b,0⟩)]])).add (.rows false 1 [[.int .i64 (i:Int)]])).add (.rows false 1 [[.int .i64 n]])).add (.rows false 64 [[.blk B]])):=((((Turns.refl Z H).addm _).addm _).addm _).addm _
 have g0:((((H.add (.rows false 1 [[.ptr (some ⟨b,0⟩)]])).add (.rows false 1 [[.int .i64 (i:Int)]])).add (.rows false 1 [[.int .i64 n]])).add (.rows false 64 [[.blk B]])).get (.run H.next)=some (.rows false 1 [[.ptr (some ⟨b,0⟩)]]):=by
  rw[Heap.get_add,if_neg (by simp<;>omega),Heap.get_add,if_neg (by simp<;>omega),Heap.get_add,if_neg (by simp<;>omega),Heap.get_add,if_pos rfl]
 have g1:((((H.add (.rows false 1 [[.ptr (some ⟨b,0⟩)]])).add (.rows false 1 [[.int .i64 (i:Int)]])).add (.rows false 1 [[.int .i64 n]])).add (.rows false 64 [[.blk B]])).get (.run (H.next+1))=some (.rows false 1 [[.int .i64 (i:Int)]]):=by
  rw[Heap.get_add,if_neg (by simp<;>omega),Heap.get_add,if_neg (by simp<;>omega),Heap.get_add,if_pos (by simp)]
 have g2:((((H.add (.rows false 1 [[.ptr (some ⟨b,0⟩)]])).add (.rows false 1 [[.int .i64 (i:Int)]])).add (.rows false 1 [[.int .i64 n]])).add (.rows false 64 [[.blk B]])).get (.run (H.next+1+1))=some (.rows false 1 [[.int .i64 n]]):=by
  rw[Heap.get_add,if_neg (by simp<;>omega),Heap.get_add,if_pos (by simp)]
 have g3:((((H.add (.rows false 1 [[.ptr (some ⟨b,0⟩)]])).add (.rows false 1 [[.int .i64 (i:Int)]])).add (.rows false 1 [[.int .i64 n]])).add (.rows false 64 [[.blk B]])).get (.run (H.next+1+1+1))=some (.rows false 64 [[.blk B]]):=by
  rw[Heap.get_add,if_pos (by simp)]
 have n4:((((H.add (.rows false 1 [[.ptr (some ⟨b,0⟩)]])).add (.rows false 1 [[.int .i64 (i:Int)]])).add (.rows false 1 [[.int .i64 n]])).add (.rows false 64 [[.blk B]])).next=H.next+4:=rfl
 generalize hH4:((((H.add (.rows false 1 [[.ptr (some ⟨b,0⟩)]])).add (.rows false 1 [[.int .i64 (i:Int)]])).add (.rows false 1 [[.int .i64 n]])).add (.rows false 64 [[.blk B]]))=H4 at hT4 g0 g1 g2 g3 n4
 have h4:=h.turns hT4
 have o0:H4.Old (.run H.next):=by show _ < _;omega
 have o1:H4.Old (.run (H.next+1)):=by show _ < _;omega
 have o2:H4.Old (.run (H.next+1+1)):=by show _ < _;omega
 have o3:H4.Old (.run (H.next+1+1+1)):=by show _ < _;omega
 have d0:=load1_of g0 rfl
 have d1:=load1_of g1 rfl
 have d2:=load1_of g2 rfl
 obtain⟨v1,K1,e1,rfl,t1⟩:=bread h4 hi rfl n hS hlf hmax (m+1)
 rw[hc] at e1
 change callS Tryd.prog S0 lf (m+5) 43 [.ptr (some ⟨b,0⟩),.int .i64 (i:Int),.int .i64 n] H4=_ at e1
 generalize l[i].D.read n=X at e1
 have t5:=t1.trans (cell_turns K1 X)
 have h5:=h4.turns t5
 have d0':=load1_of ((t5.same _ o0 id).trans g0) rfl
 have hT5:=hT4.trans t5
 by_cases h1:ar=1
 ·subst h1
  have e2:=bstep_cut h5 (.func (.func 82) [] [.ptr (some ⟨.run H.next,0⟩),.ptr (some ⟨.run (H.next+1),0⟩),.ptr (some ⟨.run (H.next+1+1),0⟩),.ptr (some ⟨.run (H.next+1+1+1),0⟩)]) lf (m+4)
  change callS Tryd.prog S0 lf (m+5) 81 _ _=_ at e2
  refine ret_call rfl c61_eq ?_
  simp only[c61,sy,tup,↓reduceIte,zA,zG,zC,zD,zF,zE,zB,zH,reduceCtorEq]
  rw[hH4]
  simp only[d0,d1,d2,e1,cell_fold,d0',e2,mkfnF,sy,tup,↓reduceIte,zA,zG,zC,zD,zF,zE,zB,zH,reduceCtorEq]
  exact⟨trivial,.inr trivial,_,rfl,.inl ⟨trivial,rfl,BenchAt.put h5 st 1 true,Turns.setm (X:=fun c=>c=b) (b:=b) (hT5.wide (fun c hc=>hc.elim)) rfl _⟩⟩
 ·obtain⟨H6,h6,t6,hrun⟩:=bstep_go h5 h1 ha hs lf (m+4)
  have ne:∀ c,H4.Old c→¬ H.Old c→c≠b:=fun c _ hno e=>hno (by rw[e];exact h.old.1)
  have get6:∀ c o,H4.Old c→¬ H.Old c→H4.get c=some o→H6.get c=some o:=fun c o ho hno hg=>(t6.same c (ho.mono t5.next) (ne c ho hno)).trans ((t5.same c ho id).trans hg)
  obtain⟨v7,H7,e7,rfl,y',hN⟩:=wclos h6 hi hS hmax n B (get6 _ _ o0 (Heap.not_old (by omega)) g0) (get6 _ _ o1 (Heap.not_old (by omega)) g1) (get6 _ _ o2 (Heap.not_old (by omega)) g2) (get6 _ _ o3 (Heap.not_old (by omega)) g3) lf m
  rw[hc] at e7
  have e2:=hrun 82 [] [.ptr (some ⟨.run H.next,0⟩),.ptr (some ⟨.run (H.next+1),0⟩),.ptr (some ⟨.run (H.next+1+1),0⟩),.ptr (some ⟨.run (H.next+1+1+1),0⟩)] _ _ e7
  change callS Tryd.prog S0 lf (m+5) 81 _ _=_ at e2
  refine ret_call rfl c61_eq ?_
  simp only[c61,sy,tup,↓reduceIte,zA,zG,zC,zD,zF,zE,zB,zH,reduceCtorEq]
  rw[hH4]
  simp only[d0,d1,d2,e1,cell_fold,d0',e2,mkfnF,sy,tup,↓reduceIte,zA,zG,zC,zD,zF,zE,zB,zH,reduceCtorEq]
  exact⟨trivial,.inr trivial,_,rfl,.inr ⟨h1,rfl,y',did_of hT5 h6 t6 hN⟩⟩
theorem bflush {H:Heap} {b ds:Bk} {so:Nat} {l:List Dv} {st ar:Int} (h:BenchAt H b ds so l st ar false) (ha:0≤ar∧ar≤9223372036854775807) (hs:0≤st∧st≤100000) {i:Nat} (hi:i < l.length) {lf:Nat} (hS:l[i].D.S≠[]) (hok:∀ w ∈ l[i].D.L,w.1 < l[i].D.S.length) (hlf:l[i].D.L.length+1 < lf) (hmax:l[i].D.L.length < 1000000) (hd:l[i].D.dead=false) (m:Nat) :
  ret (callS Tryd.prog S0 lf (m+5) 66 [.ptr (some ⟨b,0⟩),.int .i64 (i:Int)] H) fun v H'=>(ar=1∧v=.int .i64 8∧BenchAt H' b ds so l st 1 true∧Turns (fun c=>c=b) H H')∨(ar≠1∧v=.int .i64 0∧∃ y',Did H b ds so l st ar i hi l[i].D.flush H' y'):=by
 have hpos:0 < l[i].D.S.length:=by
  cases hc:l[i].D.S with
  | nil=>exact absurd hc hS
  | cons x xs=>simp
 have hc:code l[i].D 0=0:=code_ok (by omega) hd
 have hfc:fcode l[i].D=0:=by unfold fcode;rw[hd];rfl
 obtain⟨v1,K1,e1,rfl,t1⟩:=bread h hi rfl 0 hS hlf hmax m
 rw[hc] at e1
 generalize l[i].D.read 0=X at e1
 have t5:=t1.trans (cell_turns K1 X)
 have h5:=h.turns t5
 have l0:=bload0 h5
 have lp:=bloadP h5 hi
 have hi1:i+1≤l.length:=hi
 by_cases h1:ar=1
 ·subst h1
  have e2:=bstep_cut h5 (.func (.func 86) [.ptr (some ⟨l[i].b,0⟩)] []) lf (m+3)
  change callS Tryd.prog S0 lf (m+4) 81 _ _=_ at e2
  refine ret_call rfl c66_eq ?_
  simp only[c66,e1,cell_fold,l0,lp,hi1,e2,mkfnF,Nat.mul_one,sy,tup,↓reduceIte,zA,zG,zC,zD,zF,zE,zB,zH,reduceCtorEq]
  exact⟨trivial,.inr trivial,_,rfl,.inl ⟨trivial,rfl,BenchAt.put h5 st 1 true,Turns.setm (X:=fun c=>c=b) (b:=b) (t5.wide (fun c hc=>hc.elim)) rfl _⟩⟩
 ·obtain⟨H6,h6,t6,hrun⟩:=bstep_go h5 h1 ha hs lf (m+3)
  obtain⟨v7,H7,e7,rfl,y',hN⟩:=flush_all (h6.dev i hi) hS hok hmax hlf m
  rw[hfc] at e7
  have e2:=hrun 86 [.ptr (some ⟨l[i].b,0⟩)] [] _ _ e7
  change callS Tryd.prog S0 lf (m+4) 81 _ _=_ at e2
  refine ret_call rfl c66_eq ?_
  simp only[c66,e1,cell_fold,l0,lp,hi1,e2,mkfnF,Nat.mul_one,sy,tup,↓reduceIte,zA,zG,zC,zD,zF,zE,zB,zH,reduceCtorEq]
  exact⟨trivial,.inr trivial,_,rfl,.inr ⟨h1,rfl,y',did_of t5 h6 t6 hN⟩⟩
end Go.Proofs.YtabebpemfinejaaDoor.disk
namespace Go.Proofs.YtabebpemfinejaaDoor.disk
open Go.Am
structure Wf (D:Dev) (n k:Nat):Prop where
 len:D.S.length=n
 pos:0 < n
 ok:∀ w ∈ D.L,w.1 < D.S.length
 le:D.L.length≤k
theorem Wf.ne {D:Dev} {n k:Nat} (h:Wf D n k):D.S≠[]:=fun e=>by
 have h1:=h.len
 have h2:=h.pos
 rw[e] at h1
 simp at h1
 omega
theorem Wf.write {D:Dev} {n k:Nat} (h:Wf D n k) (i:Int) (B:Nat):Wf (D.write i B) n (k+1):=by
 rcases code_cases D i with ⟨j,rfl,hj,hd,hc⟩ | hc | hc
 ·have e:D.write (j:Int) B={ D with L:=D.L++[(j,B)] }:=if_pos hc
  rw[e]
  refine⟨h.len,h.pos,fun w hw=>?_,by have:=h.le;simp;omega⟩
  rcases List.mem_append.1 hw with hw | hw
  ·exact h.ok w hw
  ·rw[List.mem_singleton.1 hw];exact hj
 ·have e:D.write i B=D:=if_neg (by rw[hc];decide)
  rw[e];exact⟨h.len,h.pos,h.ok,by have:=h.le;omega⟩
 ·have e:D.write i B=D:=if_neg (by rw[hc];decide)
  rw[e];exact⟨h.len,h.pos,h.ok,by have:=h.le;omega⟩
theorem Wf.flush {D:Dev} {n k:Nat} (h:Wf D n k):Wf D.flush n (k+1):=by
 unfold Dev.flush
 split
 ·exact⟨h.len,h.pos,h.ok,by have:=h.le;omega⟩
 ·exact⟨by rw[← h.len];exact flushS_length _ _,h.pos,fun w hw=>absurd hw (by simp),Nat.zero_le _⟩
theorem Wf.rot {D:Dev} {n k:Nat} (h:Wf D n k) (i j:Int) (x:Nat):Wf (D.rot i j x) n (k+1):=by
 unfold Dev.rot
 split
 ·exact⟨by rw[← h.len];simp,h.pos,fun w hw=>by simpa using h.ok w hw,by have:=h.le;show D.L.length≤k+1;omega⟩
 ·exact⟨h.len,h.pos,h.ok,by have:=h.le;omega⟩
theorem Wf.crash {D:Dev} {n k:Nat} (h:Wf D n k) (P:List Int):Wf (D.crash P) n (k+1):=
 ⟨by rw[← h.len];exact crashS_length _ _,h.pos,fun w hw=>absurd hw (by simp[Dev.crash]),Nat.zero_le _⟩
theorem Wf.mono {D:Dev} {n k:Nat} (h:Wf D n k):Wf D n (k+1):=⟨h.len,h.pos,h.ok,by have:=h.le;omega⟩
end Go.Proofs.YtabebpemfinejaaDoor.disk
namespace Go.Proofs.YtabebpemfinejaaDoor.disk
open Go.Am
noncomputable def c49:CFn:=⟨[.tmp (pp 4)],
 .seq (.reg [
 qo 4 (.p (S.get (ii 0))) []]) (
 .seq (.seq (.reg [
 mv 5 0,
 mv 6 1,
 qo 7 (.c (callF (ff 40) [(tt 5),(tt 6)])) [pp 5,pp 6],
 qo 8 (.p (eqcF true false [.int .i64] (tt 7) (ii 0))) [pp 7]]) (
 .cond (tt 8) (.seq (.reg [
 qo 4 (.p (S.get (ii 0))) []]) (
 .ret)) (.skip))) (
 .seq (.reg [
 mv 9 0,
 qo 10 (.p (nilcF (tt 9))) [pp 9],
 qo 11 (.p (faddrF (tt 10) 0)) [pp 10],
 qo 12 (.r (loadF (tt 11) 1 .sc)) [pp 11],
 mv 13 1,
 qo 14 (.p (iaddrSF (tt 12) (tt 13) 1)) [pp 12,pp 13],
 qo 15 (.r (loadF (tt 14) 1 .sc)) [pp 14],
 qo 16 (.c (callF (ff 76) [(tt 15)])) [pp 15],
 mv 4 16]) (
 .ret)))⟩
theorem c49_eq:fnOf Tryd.prog 49=some c49:=by kernel_rfl
noncomputable def c15:CFn:=⟨[.tmp (pp 10)],
 .seq (.reg [
 qo 10 (.p (S.get (ii 0))) []]) (
 .seq (.seq (.reg [
 mv 12 0,
 mv 13 1,
 qo 14 (.c (callF (ff 40) [(tt 12),(tt 13)])) [pp 12,pp 13],
 mv 11 14]) (
 .seq (.reg [
 mv 15 11,
 qo 16 (.p (eqcF true false [.int .i64] (tt 15) (ii 0))) [pp 15]]) (
 .cond (tt 16) (.seq (.reg [
 mv 17 11,
 mv 10 17]) (
 .ret)) (.skip)))) (
 .seq (.reg [
 mv 18 0,
 qo 19 (.p (nilcF (tt 18))) [pp 18],
 qo 20 (.p (faddrF (tt 19) 0)) [pp 19],
 qo 21 (.r (loadF (tt 20) 1 .sc)) [pp 20],
 mv 22 1,
 qo 23 (.p (iaddrSF (tt 21) (tt 22) 1)) [pp 21,pp 22],
 qo 24 (.r (loadF (tt 23) 1 .sc)) [pp 23],
 mv 25 2,
 mv 26 3,
 mv 27 4,
 qo 28 (.c (callF (ff 41) [(tt 24),(tt 25),(tt 26),(tt 27)])) [pp 24,pp 25,pp 26,pp 27],
 mv 10 28]) (
 .ret)))⟩
theorem c15_eq:fnOf Tryd.prog 15=some c15:=by kernel_rfl
noncomputable def c74:CFn:=⟨[.tmp (pp 2)],
 .seq (.reg [
 qo 2 (.p (S.get (ii 0))) []]) (
 .seq (.seq (.reg [
 mv 3 0,
 qo 4 (.c (callF (ff 45) [(tt 3)])) [pp 3]]) (
 .cond (tt 4) (.seq (.reg [
 qo 2 (.p (S.get (ii 0))) []]) (
 .ret)) (.skip))) (
 .seq (.reg [
 mv 5 0,
 qo 6 (.p (nilcF (tt 5))) [pp 5],
 qo 7 (.p (faddrF (tt 6) 0)) [pp 6],
 qo 8 (.r (loadF (tt 7) 1 .sc)) [pp 7],
 qo 9 (.p (lenF (tt 8))) [pp 8],
 mv 2 9]) (
 .ret)))⟩
theorem c74_eq:fnOf Tryd.prog 74=some c74:=by kernel_rfl
structure Bn where
 l:List Dev
 st:Int
 ar:Int
 dk:Bool
def tcode (n:Nat) (d:Int):Int:=if 0≤d∧d < (n:Int) then 0 else 2
def Bn.dev (B:Bn) (d:Int):Dev:=B.l.getD d.toNat ⟨[],[],false⟩
def Bn.tc (B:Bn) (d:Int):Int:=tcode B.l.length d
def Bn.lc (B:Bn) (d:Int):Int:=if B.dk=true then 8 else B.tc d
def Bn.rc (B:Bn) (d n:Int):Int:=if B.lc d=0 then code (B.dev d) n else B.lc d
noncomputable def Bn.read (B:Bn) (d n:Int):Nat:=if B.lc d=0 then(B.dev d).read n else 0
def Bn.setd (B:Bn) (d:Int) (D:Dev):Bn:={ B with l:=B.l.set d.toNat D }
def Bn.step (B:Bn) (d:Int) (D:Dev):Bn:=if B.ar=1 then { B with dk:=true } else⟨B.l.set d.toNat D,B.st+1,arLess B.ar,B.dk⟩
def Bn.sc (B:Bn):Int:=if B.ar=1 then 8 else 0
def Bn.wc (B:Bn) (d n:Int):Int:=if B.rc d n=0 then B.sc else B.rc d n
def Bn.write (B:Bn) (d n:Int) (x:Nat):Bn:=if B.rc d n=0 then B.step d ((B.dev d).write n x) else B
def Bn.flush (B:Bn) (d:Int):Bn:=if B.rc d 0=0 then B.step d (B.dev d).flush else B
def Bn.dead (B:Bn) (d:Int):Bool:=if B.tc d=0 then(B.dev d).dead else false
def Bn.sectors (B:Bn) (d:Int):Int:=if B.tc d=0 then((B.dev d).S.length:Int) else 0
def blank (n:Nat):Dev:=⟨List.replicate n 0,[],false⟩
def Bn.ac (B:Bn) (n:Int):Int:=if B.dk=true then 8 else if n < 0 then 2 else 0
def Bn.arm (B:Bn) (n:Int):Bn:=if B.ac n=0 then { B with ar:=n } else B
def Bn.sure (B:Bn) (d n:Int):Nat:=if B.tc d=0 then(B.dev d).sure n else 0
def Bn.oc (B:Bn) (d n j:Int):Int:=if B.tc d=0 then rcode (B.dev d) n j else 2
noncomputable def Bn.rot (B:Bn) (d n j:Int) (x:Nat):Bn:=if B.tc d=0 then B.setd d ((B.dev d).rot n j x) else B
structure Good (D:Dev):Prop where
 ne:D.S≠[]
 ok:∀ w ∈ D.L,w.1 < D.S.length
 len:D.S.length≤512
 le:D.L.length≤900
def n1:Bool→Bn→V
 | false,B=>.int .i64 B.st
 | true,B=>.int .i64 B.ar
def n2:Bool→Bn→V
 | false,B=>.int .i64 B.ar
 | true,B=>.bool B.dk
def n3:Bool→Bn→V
 | false,B=>.bool B.dk
 | true,B=>.int .i64 B.st
structure Rep (r:Bool) (H:Heap) (b ds:Bk) (so:Nat) (l:List Dv) (B:Bn):Prop where
 row:DvsAt H b ds so l (n1 r B) (n2 r B) (n3 r B)
 map:l.map Dv.D=B.l
abbrev BRep:=Rep false
theorem Rep.at' {H:Heap} {b ds:Bk} {so:Nat} {l:List Dv} {B:Bn} (h:Rep false H b ds so l B):BenchAt H b ds so l B.st B.ar B.dk:=h.row
theorem Rep.turns {H H':Heap} {b ds:Bk} {so:Nat} {l:List Dv} {B:Bn} {r:Bool} (h:Rep r H b ds so l B) (k:Turns Z H H'):Rep r H' b ds so l B:=⟨h.row.turns k,h.map⟩
theorem Rep.len {H:Heap} {b ds:Bk} {so:Nat} {l:List Dv} {B:Bn} {r:Bool} (h:Rep r H b ds so l B):l.length=B.l.length:=by rw[← h.map,List.length_map]
theorem tcode_cases (n:Nat) (d:Int):(∃ i:Nat,i < n∧d=(i:Int)∧tcode n d=0)∨tcode n d=2:=by
 unfold tcode
 by_cases h:0≤d∧d < (n:Int)
 ·rw[if_pos h]
  exact .inl ⟨d.toNat,by omega,by omega,rfl⟩
 ·rw[if_neg h];exact .inr rfl
theorem Rep.has {H:Heap} {b ds:Bk} {so:Nat} {l:List Dv} {B:Bn} {r:Bool} (h:Rep r H b ds so l B) (d:Int):(∃ i:Nat,∃ hi:i < l.length,d=(i:Int)∧B.tc d=0∧B.dev d=l[i].D)∨B.tc d=2:=by
 rcases tcode_cases B.l.length d with ⟨i,hi,rfl,e⟩ | e
 ·have hi':i < l.length:=by rw[h.len];exact hi
  refine .inl ⟨i,hi',rfl,e,?_⟩
  unfold Bn.dev
  rw[← h.map]
  simp[List.getD,hi']
 ·exact .inr e
def BFoot (b ds:Bk) (l:List Dv) (c:Bk):Prop:=c=b∨c=ds∨∃ x ∈ l,x.foot c
structure RNext (r:Bool) (H:Heap) (b ds:Bk) (so:Nat) (l:List Dv) (H':Heap) (l':List Dv) (B':Bn):Prop where
 rep:Rep r H' b ds so l' B'
 turns:Turns (BFoot b ds l) H H'
 foot:∀ c,BFoot b ds l' c→BFoot b ds l c∨¬ H.Old c
abbrev BNext:=RNext false
theorem Rep.idle {H H':Heap} {b ds:Bk} {so:Nat} {l:List Dv} {B:Bn} {r:Bool} (h:Rep r H b ds so l B) (k:Turns Z H H'):RNext r H b ds so l H' l B:=
 ⟨h.turns k,k.wide (fun c hc=>hc.elim),fun c hc=>.inl hc⟩
theorem RNext.before {H0 H H':Heap} {b ds:Bk} {so:Nat} {l l':List Dv} {B':Bn} {r:Bool} (t:Turns Z H0 H) (k:RNext r H b ds so l H' l' B'):RNext r H0 b ds so l H' l' B':=
 ⟨k.rep,(t.wide (fun c hc=>hc.elim)).trans k.turns,fun c hc=>(k.foot c hc).imp id (fun h o=>h (o.mono t.next))⟩
theorem RNext.after {H H' H2:Heap} {b ds:Bk} {so:Nat} {l l':List Dv} {B':Bn} {r:Bool} (k:RNext r H b ds so l H' l' B') (t:Turns Z H' H2):RNext r H b ds so l H2 l' B':=
 ⟨k.rep.turns t,k.turns.trans (t.wide (fun c hc=>hc.elim)),k.foot⟩
theorem foot_set {b ds:Bk} {l:List Dv} {i:Nat} (hi:i < l.length) {x:Dv} {P:Bk→Prop} (hx:∀ c,x.foot c→l[i].foot c∨P c):∀ c,BFoot b ds (l.set i x) c→BFoot b ds l c∨P c:=by
 rintro c (h | h | ⟨z,hz,hc⟩)
 ·exact .inl (.inl h)
 ·exact .inl (.inr (.inl h))
 ·rcases List.mem_or_eq_of_mem_set hz with hz | rfl
  ·exact .inl (.inr (.inr ⟨z,hz,hc⟩))
  ·rcases hx c hc with h | h
   ·exact .inl (.inr (.inr ⟨_,List.getElem_mem hi,h⟩))
   ·exact .inr h
theorem map_set_D {l:List Dv} {B:List Dev} (h:l.map Dv.D=B) (i:Nat) (x:Dv):(l.set i x).map Dv.D=B.set i x.D:=by rw[List.map_set,h]
theorem Rep.dev {H H':Heap} {b ds:Bk} {so:Nat} {l:List Dv} {B:Bn} {r:Bool} (h:Rep r H b ds so l B) {i:Nat} (hi:i < l.length) {y':Lay} {D':Dev} (k:Next H l[i].b l[i].y l[i].D H' y' D'):RNext r H b ds so l H' (l.set i ⟨l[i].b,y',D'⟩) (B.setd (i:Int) D'):=by
 refine⟨⟨by cases r<;>exact h.row.step hi k,map_set_D h.map i _⟩,k.turns.wide (fun c hc=>.inr (.inr ⟨_,List.getElem_mem hi,hc⟩)),foot_set hi ?_⟩
 rintro c (rfl | rfl | ⟨hl,rfl⟩)
 ·exact .inl (.inl rfl)
 ·exact .inl (.inr (.inl k.s))
 ·rcases k.l hl with ⟨h1,h2⟩ | h1
  ·exact .inl (.inr (.inr ⟨h1,h2⟩))
  ·exact .inr h1
theorem Rep.did {H H':Heap} {b ds:Bk} {so:Nat} {l:List Dv} {B:Bn} (h:BRep H b ds so l B) (hdk:B.dk=false) (h1:B.ar≠1) {i:Nat} {hi:i < l.length} {y':Lay} {D':Dev} (k:Did H b ds so l B.st B.ar i hi D' H' y'):BNext H b ds so l H' (l.set i ⟨l[i].b,y',D'⟩) (B.step (i:Int) D'):=by
 have e:B.step (i:Int) D'=⟨B.l.set i D',B.st+1,arLess B.ar,false⟩:=by unfold Bn.step;rw[if_neg h1,hdk];rfl
 rw[e]
 refine⟨⟨k.at',map_set_D h.map i _⟩,k.turns.wide ?_,foot_set hi k.foot⟩
 rintro c (hc | hc)
 ·exact .inl hc
 ·exact .inr (.inr ⟨_,List.getElem_mem hi,hc⟩)
theorem Rep.cut {H H':Heap} {b ds:Bk} {so:Nat} {l:List Dv} {B:Bn} (h:BRep H b ds so l B) (h1:B.ar=1) (D':Dev) (d:Int) (k:BenchAt H' b ds so l B.st 1 true) (t:Turns (fun c=>c=b) H H'):BNext H b ds so l H' l (B.step d D'):=by
 have e:B.step d D'=⟨B.l,B.st,1,true⟩:=by unfold Bn.step;rw[if_pos h1,h1]
 rw[e]
 exact⟨⟨k,h.map⟩,t.wide (fun c hc=>.inl hc),fun c hc=>.inl hc⟩
theorem Rep.place {H H1:Heap} {b ds:Bk} {so:Nat} {l:List Dv} {B:Bn} {r:Bool} (h:Rep r H b ds so l B) {i:Nat} (hi:i < l.length) (t:Turns Z H H1) {c:Bk} {y:Lay} {D:Dev} (hD:DevAt H1 c y D) (hF:Fresh H c y D) :
  storeAt H1 ⟨ds,i⟩ [.ptr (some ⟨c,0⟩)]=some (H1.set ds (.rows false 1 ((l.set i ⟨c,y,D⟩).map fun x=>[.ptr (some ⟨x.b,0⟩)])))∧RNext r H b ds so l (H1.set ds (.rows false 1 ((l.set i ⟨c,y,D⟩).map fun x=>[.ptr (some ⟨x.b,0⟩)]))) (l.set i ⟨c,y,D⟩) (B.setd (i:Int) D):=by
 have A:=h.row
 have A1:=A.turns t
 have st:storeAt H1 ⟨ds,i⟩ [.ptr (some ⟨c,0⟩)]=some (H1.set ds (.rows false 1 ((l.set i ⟨c,y,D⟩).map fun x=>[.ptr (some ⟨x.b,0⟩)]))):=by
  rw[storeAt_eq A1.ptrs (r:=[.ptr (some ⟨l[i].b,0⟩)]) (r':=[.ptr (some ⟨c,0⟩)]) (nth_of (by rw[Nat.div_one];simp[hi])) (by rw[Nat.mod_one];rfl),Nat.div_one,List.map_set]
 have nf:=hF.foot
 have hc:¬ Foot c y D ds:=fun e=>nf ds e A.old.2
 have hcb:¬ Foot c y D b:=fun e=>nf b e A.old.1
 have hk:Turns (fun x=>x=ds) H1 (H1.set ds (.rows false 1 ((l.set i ⟨c,y,D⟩).map fun x=>[.ptr (some ⟨x.b,0⟩)]))):=Turns.set (X:=fun x=>x=ds) rfl _ _
 refine⟨st,⟨⟨⟨?_,?_,fun j hj=>?_,fun p q hp hq hpq=>?_,?_,A.ne,fun j hj=>?_⟩,map_set_D h.map i _⟩,(t.wide (fun c hc=>hc.elim)).trans (hk.wide fun x hx=>.inr (.inl hx)),foot_set hi (fun x hx=>.inr (nf x hx))⟩⟩
 ·rw[List.length_set];cases r<;>exact(hk.same b A1.old.1 A.ne).trans A1.own
 ·rw[Heap.get_set,if_pos rfl]
 ·have hj':j < l.length:=by simpa using hj
  by_cases e:i=j
  ·subst e
   rw[List.getElem_set_self]
   exact hD.turns hk (fun e=>hc (.inl e.symm)) (fun e=>hc (.inr (.inl e.symm))) (fun hl e=>hc (.inr (.inr ⟨hl,e.symm⟩)))
  ·rw[List.getElem_set_ne e]
   have o:=(A.out j hj').2
   exact(A1.dev j hj').turns hk (fun e=>o (.inl e.symm)) (fun e=>o (.inr (.inl e.symm))) (fun hl e=>o (.inr (.inr ⟨hl,e.symm⟩)))
 ·have hp':p < l.length:=by simpa using hp
  have hq':q < l.length:=by simpa using hq
  by_cases e1:i=p
  ·subst e1
   rw[List.getElem_set_self,List.getElem_set_ne hpq]
   exact(sep_fresh (A.dev q hq') hF).symm
  ·by_cases e2:i=q
   ·subst e2
    rw[List.getElem_set_self,List.getElem_set_ne e1]
    exact sep_fresh (A.dev p hp') hF
   ·rw[List.getElem_set_ne e1,List.getElem_set_ne e2]
    exact A.sep p q hp' hq' hpq
 ·simp only[Heap.old_set];exact A1.old
 ·have hj':j < l.length:=by simpa using hj
  by_cases e:i=j
  ·subst e
   rw[List.getElem_set_self]
   exact⟨hcb,hc⟩
  ·rw[List.getElem_set_ne e]
   exact A.out j hj'
section
variable {H:Heap} {b ds:Bk} {so:Nat} {l:List Dv} {B:Bn} (h:BRep H b ds so l B) (hl:l≠[])
include h hl
theorem bhas_no {d:Int} (hd:B.tc d=2) (lf m:Nat):callS Tryd.prog S0 lf (m+1) 68 [.ptr (some ⟨b,0⟩),.int .i64 d] H=some (.v (.bool false),H):=by
 have l0:=bload0 h.at'
 have hn:¬ (0≤d∧d < (l.length:Int)):=fun e=>by
  unfold Bn.tc tcode at hd;rw[← h.len,if_pos e] at hd;cases hd
 obtain⟨v,H',e,rfl,rfl⟩:ret (callS Tryd.prog S0 lf (m+1) 68 [.ptr (some ⟨b,0⟩),.int .i64 d] H) fun v H'=>v=.bool false∧H'=H:=by
  refine ret_call rfl c68_eq ?_
  by_cases g0:0≤d
  ·have g1:¬ (d < (l.length:Int)):=fun e=>hn ⟨g0,e⟩
   simp only[c68,l0,g0,g1,sy,tup,↓reduceIte,zA,zG,zC,zD,zF,zE,zB,zH,reduceCtorEq]
   simp
  ·simp only[c68,l0,g0,sy,tup,↓reduceIte,zA,zG,zC,zD,zF,zE,zB,zH,reduceCtorEq]
   simp
 exact e
theorem bthere_all (d:Int) (lf m:Nat):callS Tryd.prog S0 lf (m+2) 40 [.ptr (some ⟨b,0⟩),.int .i64 d] H=some (.v (.int .i64 (B.tc d)),H):=by
 rcases h.has d with ⟨i,hi,rfl,e,_⟩ | e
 ·rw[e];exact bthere h.at' hi lf m
 ·rw[e]
  have e1:=bnone h.at' hl lf m
  have e2:=bhas_no h hl e lf m
  obtain⟨v,H',e,rfl,rfl⟩:ret (callS Tryd.prog S0 lf (m+2) 40 [.ptr (some ⟨b,0⟩),.int .i64 d] H) fun v H'=>v=.int .i64 2∧H'=H:=by
   refine ret_call rfl c40_eq ?_
   simp only[c40,e1,e2,sy,tup,↓reduceIte,zA,zG,zC,zD,zF,zE,zB,zH,reduceCtorEq]
   simp
  exact e
theorem blit_all (d:Int) (lf m:Nat):callS Tryd.prog S0 lf (m+3) 70 [.ptr (some ⟨b,0⟩),.int .i64 d] H=some (.v (.int .i64 (B.lc d)),H):=by
 cases hdk:B.dk with
 | true=>rw[show B.lc d=8 from if_pos hdk];exact blit_dark h.at' hl hdk d lf m
 | false=>
  have e0:B.lc d=B.tc d:=if_neg (by rw[hdk];decide)
  have e1:=bnone h.at' hl lf (m+1)
  have e2:=bthere_all h hl d lf m
  have l3:=bload3 h.at'
  rw[hdk] at l3
  change callS Tryd.prog S0 lf (m+2) 45 [.ptr (some ⟨b,0⟩)] H=_ at e1
  rw[e0]
  obtain⟨v,H',e,rfl,rfl⟩:ret (callS Tryd.prog S0 lf (m+3) 70 [.ptr (some ⟨b,0⟩),.int .i64 d] H) fun v H'=>v=.int .i64 (B.tc d)∧H'=H:=by
   refine ret_call rfl c70_eq ?_
   simp only[c70,e1,e2,l3,sy,tup,↓reduceIte,zA,zG,zC,zD,zF,zE,zB,zH,reduceCtorEq]
   simp
  exact e
variable (hg:∀ D ∈ B.l,Good D)
include hg
theorem good_at {i:Nat} (hi:i < l.length):Good l[i].D:=hg _ (by rw[← h.map];exact List.mem_map_of_mem (List.getElem_mem hi))
theorem bread_all (d n:Int) {lf:Nat} (hlf:1000 < lf) (m:Nat) :
  ret (callS Tryd.prog S0 lf (m+4) 43 [.ptr (some ⟨b,0⟩),.int .i64 d,.int .i64 n] H) fun v H'=>v=.tuple [.blk (B.read d n),.int .i64 (B.rc d n)]∧Turns Z H H':=by
 by_cases hc:B.lc d=0
 ·have hr:B.read d n=(B.dev d).read n:=if_pos hc
  have hrc:B.rc d n=code (B.dev d) n:=if_pos hc
  have hdk:B.dk=false:=by
   cases hdk:B.dk with
   | false=>rfl
   | true=>rw[show B.lc d=8 from if_pos hdk] at hc;cases hc
  have ht:B.tc d=0:=by rw[← hc];exact(if_neg (by rw[hdk];decide)).symm
  rcases h.has d with ⟨i,hi,rfl,_,e⟩ | e
  ·rw[hr,hrc,e]
   have g:=good_at h hl hg hi
   exact bread h.at' hi hdk n g.ne (by have:=g.le;omega) (by have:=g.le;omega) m
  ·rw[ht] at e;cases e
 ·have hr:B.read d n=0:=if_neg hc
  have hrc:B.rc d n=B.lc d:=if_neg hc
  have hz:(B.lc d==0)=false:=by simp;exact hc
  have t1:=Turns.add Z H (.rows false 64 [[.blk 0]])
  have e1:=blit_all (h.turns t1) hl d lf m
  rw[hr,hrc]
  refine ret_call rfl c43_eq ?_
  simp only[c43,e1,hz,sy,tup,↓reduceIte,zA,zG,zC,zD,zF,zE,zB,zH,reduceCtorEq]
  exact⟨trivial,.inr trivial,_,rfl,rfl,t1.setnew (Nat.le_refl _) _⟩
theorem bwrite_all (ha:0≤B.ar∧B.ar≤9223372036854775807) (hs:0≤B.st∧B.st≤100000) (d n:Int) (x:Nat) {lf:Nat} (hlf:1000 < lf) (m:Nat) :
  ret (callS Tryd.prog S0 lf (m+6) 61 [.ptr (some ⟨b,0⟩),.int .i64 d,.int .i64 n,.blk x] H) fun v H'=>v=.int .i64 (B.wc d n)∧∃ l',BNext H b ds so l H' l' (B.write d n x):=by
 by_cases hc:B.rc d n=0
 ·have hw:B.write d n x=B.step d ((B.dev d).write n x):=if_pos hc
  have hwc:B.wc d n=B.sc:=if_pos hc
  have hlc:B.lc d=0:=by
   by_cases e:B.lc d=0
   ·exact e
   ·rw[show B.rc d n=B.lc d from if_neg e] at hc;exact absurd hc e
  have hcc:code (B.dev d) n=0:=(if_pos hlc:B.rc d n=code (B.dev d) n).symm.trans hc
  have hdk:B.dk=false:=by
   cases hdk:B.dk with
   | false=>rfl
   | true=>rw[show B.lc d=8 from if_pos hdk] at hlc;cases hlc
  have ht:B.tc d=0:=by rw[← hlc];exact(if_neg (by rw[hdk];decide)).symm
  rcases h.has d with ⟨i,hi,rfl,_,e⟩ | e
  ·rw[hw,hwc,e]
   rw[e] at hcc
   have g:=good_at h hl hg hi
   have hA:=h.at'
   rw[hdk] at hA
   obtain⟨v,H',e1,hcase⟩:=bwrite hA ha hs hi n x (lf:=lf) g.ne (by have:=g.le;omega) (by have:=g.le;omega) hcc m
   rcases hcase with ⟨h1,rfl,hB,k⟩ | ⟨h1,rfl,y',k⟩
   ·exact⟨_,H',e1,by rw[show B.sc=8 from if_pos h1],l,h.cut h1 _ _ hB k⟩
   ·exact⟨_,H',e1,by rw[show B.sc=0 from if_neg h1],_,h.did hdk h1 k⟩
  ·rw[ht] at e;cases e
 ·have hw:B.write d n x=B:=if_neg hc
  have hwc:B.wc d n=B.rc d n:=if_neg hc
  rw[hw,hwc]
  have hT4:Turns Z H ((((H.add (.rows false 1 [[.ptr (some ⟨b,0⟩)]])).add (.rows false 1 [[.int .i64 d]])).add (.rows false 1 [[.int .i64 n]])).add (.rows false 64 [[.blk x]])):=((((Turns.refl Z H).addm _).addm _).addm _).addm _
  have g0:((((H.add (.rows false 1 [[.ptr (some ⟨b,0⟩)]])).add (.rows false 1 [[.int .i64 d]])).add (.rows false 1 [[.int .i64 n]])).add (.rows false 64 [[.blk x]])).get (.run H.next)=some (.rows false 1 [[.ptr (some ⟨b,0⟩)]]):=by
   rw[Heap.get_add,if_neg (by simp<;>omega),Heap.get_add,if_neg (by simp<;>omega),Heap.get_add,if_neg (by simp<;>omega),Heap.get_add,if_pos rfl]
  have g1:((((H.add (.rows false 1 [[.ptr (some ⟨b,0⟩)]])).add (.rows false 1 [[.int .i64 d]])).add (.rows false 1 [[.int .i64 n]])).add (.rows false 64 [[.blk x]])).get (.run (H.next+1))=some (.rows false 1 [[.int .i64 d]]):=by
   rw[Heap.get_add,if_neg (by simp<;>omega),Heap.get_add,if_neg (by simp<;>omega),Heap.get_add,if_pos (by simp)]
  have g2:((((H.add (.rows false 1 [[.ptr (some ⟨b,0⟩)]])).add (.rows false 1 [[.int .i64 d]])).add (.rows false 1 [[.int .i64 n]])).add (.rows false 64 [[.blk x]])).get (.run (H.next+1+1))=some (.rows false 1 [[.int .i64 n]]):=by
   rw[Heap.get_add,if_neg (by simp<;>omega),Heap.get_add,if_pos (by simp)]
  generalize hH4:((((H.add (.rows false 1 [[.ptr (some ⟨b,0⟩)]])).add (.rows false 1 [[.int .i64 d]])).add (.rows false 1 [[.int .i64 n]])).add (.rows false 64 [[.blk x]]))=H4 at hT4 g0 g1 g2
  have d0:=load1_of g0 rfl
  have d1:=load1_of g1 rfl
  have d2:=load1_of g2 rfl
  obtain⟨v1,K1,e1,rfl,t1⟩:=bread_all (h.turns hT4) hl hg d n hlf (m+1)
  change callS Tryd.prog S0 lf (m+5) 43 [.ptr (some ⟨b,0⟩),.int .i64 d,.int .i64 n] H4=_ at e1
  generalize B.read d n=X at e1
  have hz:(B.rc d n==0)=false:=by simp;exact hc
  generalize B.rc d n=z at e1 hz
  refine ret_call rfl c61_eq ?_
  simp only[c61,sy,tup,↓reduceIte,zA,zG,zC,zD,zF,zE,zB,zH,reduceCtorEq]
  rw[hH4]
  simp only[d0,d1,d2,e1,cell_fold,hz,sy,tup,↓reduceIte,zA,zG,zC,zD,zF,zE,zB,zH,reduceCtorEq]
  exact⟨trivial,.inr trivial,_,rfl,rfl,l,h.idle ((hT4.trans t1).trans (cell_turns K1 X))⟩
theorem bflush_all (ha:0≤B.ar∧B.ar≤9223372036854775807) (hs:0≤B.st∧B.st≤100000) (d:Int) {lf:Nat} (hlf:1000 < lf) (m:Nat) :
  ret (callS Tryd.prog S0 lf (m+5) 66 [.ptr (some ⟨b,0⟩),.int .i64 d] H) fun v H'=>v=.int .i64 (B.wc d 0)∧∃ l',BNext H b ds so l H' l' (B.flush d):=by
 by_cases hc:B.rc d 0=0
 ·have hw:B.flush d=B.step d (B.dev d).flush:=if_pos hc
  have hwc:B.wc d 0=B.sc:=if_pos hc
  have hlc:B.lc d=0:=by
   by_cases e:B.lc d=0
   ·exact e
   ·rw[show B.rc d 0=B.lc d from if_neg e] at hc;exact absurd hc e
  have hcc:code (B.dev d) 0=0:=(if_pos hlc:B.rc d 0=code (B.dev d) 0).symm.trans hc
  have hdk:B.dk=false:=by
   cases hdk:B.dk with
   | false=>rfl
   | true=>rw[show B.lc d=8 from if_pos hdk] at hlc;cases hlc
  have ht:B.tc d=0:=by rw[← hlc];exact(if_neg (by rw[hdk];decide)).symm
  rcases h.has d with ⟨i,hi,rfl,_,e⟩ | e
  ·rw[hw,hwc,e]
   rw[e] at hcc
   have g:=good_at h hl hg hi
   have hA:=h.at'
   rw[hdk] at hA
   have hdd:l[i].D.dead=false:=by
    rcases code_cases l[i].D 0 with ⟨k,_,_,hd,_⟩ | h2 | h2
    ·exact hd
    ·rw[hcc] at h2;cases h2
    ·rw[hcc] at h2;cases h2
   obtain⟨v,H',e1,hcase⟩:=bflush hA ha hs hi (lf:=lf) g.ne g.ok (by have:=g.le;omega) (by have:=g.le;omega) hdd m
   rcases hcase with ⟨h1,rfl,hB,k⟩ | ⟨h1,rfl,y',k⟩
   ·exact⟨_,H',e1,by rw[show B.sc=8 from if_pos h1],l,h.cut h1 _ _ hB k⟩
   ·exact⟨_,H',e1,by rw[show B.sc=0 from if_neg h1],_,h.did hdk h1 k⟩
  ·rw[ht] at e;cases e
 ·have hw:B.flush d=B:=if_neg hc
  have hwc:B.wc d 0=B.rc d 0:=if_neg hc
  rw[hw,hwc]
  obtain⟨v1,K1,e1,rfl,t1⟩:=bread_all h hl hg d 0 hlf m
  generalize B.read d 0=X at e1
  have hz:(B.rc d 0==0)=false:=by simp;exact hc
  generalize B.rc d 0=z at e1 hz
  refine ret_call rfl c66_eq ?_
  simp only[c66,e1,cell_fold,hz,sy,tup,↓reduceIte,zA,zG,zC,zD,zF,zE,zB,zH,reduceCtorEq]
  exact⟨trivial,.inr trivial,_,rfl,rfl,l,h.idle (t1.trans (cell_turns K1 X))⟩
theorem bsectors_all (d:Int) (lf m:Nat) :
  callS Tryd.prog S0 lf (m+3) 49 [.ptr (some ⟨b,0⟩),.int .i64 d] H=some (.v (.int .i64 (B.sectors d)),H):=by
 have e1:=bthere_all h hl d lf m
 obtain⟨v,H',e,rfl,rfl⟩:ret (callS Tryd.prog S0 lf (m+3) 49 [.ptr (some ⟨b,0⟩),.int .i64 d] H) fun v H'=>v=.int .i64 (B.sectors d)∧H'=H:=by
  rcases h.has d with ⟨i,hi,rfl,e,eD⟩ | e
  ·have hw:B.sectors (i:Int)=(l[i].D.S.length:Int):=by rw[← eD];exact if_pos e
   rw[hw]
   rw[e] at e1
   have l0:=bload0 h.at'
   have lp:=bloadP h.at' hi
   have hi1:i+1≤l.length:=hi
   obtain⟨v,H',e2,rfl,rfl⟩:=sectors_ok (h.at'.dev i hi) (good_at h hl hg hi).ne lf m
   refine ret_call rfl c49_eq ?_
   simp only[c49,e1,l0,lp,hi1,e2,Nat.mul_one,sy,tup,↓reduceIte,zA,zG,zC,zD,zF,zE,zB,zH,reduceCtorEq]
   simp
  ·have hw:B.sectors d=0:=if_neg (by rw[e];decide)
   rw[hw]
   rw[e] at e1
   refine ret_call rfl c49_eq ?_
   simp only[c49,e1,sy,tup,↓reduceIte,zA,zG,zC,zD,zF,zE,zB,zH,reduceCtorEq]
   simp
 exact e
theorem barm_all (n:Int) (lf m:Nat) :
  ret (callS Tryd.prog S0 lf (m+2) 18 [.ptr (some ⟨b,0⟩),.int .i64 n] H) fun v H'=>v=.int .i64 (B.ac n)∧BNext H b ds so l H' l (B.arm n):=by
 cases hdk:B.dk with
 | true=>
  have e0:B.ac n=8:=if_pos hdk
  have e1:B.arm n=B:=if_neg (by rw[e0];decide)
  rw[e0,e1]
  exact⟨_,H,barm_dark h.at' hl hdk n lf m,rfl,h.idle (Turns.refl Z H)⟩
 | false=>
  by_cases hn:n < 0
  ·have e0:B.ac n=2:=by unfold Bn.ac;rw[if_neg (by rw[hdk];decide),if_pos hn]
   have e1:B.arm n=B:=if_neg (by rw[e0];decide)
   rw[e0,e1]
   have en:=bnone h.at' hl lf m
   have l3:=bload3 h.at'
   rw[hdk] at l3
   refine ret_call rfl c18_eq ?_
   simp only[c18,en,l3,hn,sy,tup,↓reduceIte,zA,zG,zC,zD,zF,zE,zB,zH,reduceCtorEq]
   exact⟨trivial,.inr trivial,_,rfl,rfl,h.idle (Turns.refl Z H)⟩
  ·have e0:B.ac n=0:=by unfold Bn.ac;rw[if_neg (by rw[hdk];decide),if_neg hn]
   have e1:B.arm n={ B with ar:=n }:=if_pos e0
   rw[e0,e1]
   refine⟨_,_,barm h.at' hl hdk (x:=n) (by omega) lf m,rfl,⟨h.at'.put B.st n B.dk,h.map⟩,Turns.set (X:=BFoot b ds l) (.inl rfl) _ _,fun c hc=>.inl hc⟩
theorem brot_all (d n j:Int) {x:Nat} (hx:x < 256) (lf m:Nat) :
  ret (callS Tryd.prog S0 lf (m+4) 15 [.ptr (some ⟨b,0⟩),.int .i64 d,.int .i64 n,.int .i64 j,.int .u8 (x:Int)] H) fun v H'=>v=.int .i64 (B.oc d n j)∧∃ l',BNext H b ds so l H' l' (B.rot d n j x):=by
 have e1:=bthere_all h hl d lf (m+1)
 change callS Tryd.prog S0 lf (m+3) 40 _ _=_ at e1
 rcases h.has d with ⟨i,hi,rfl,e,eD⟩ | e
 ·have hw:B.rot (i:Int) n j x=B.setd (i:Int) (l[i].D.rot n j x):=by rw[← eD];exact if_pos e
  have hc:B.oc (i:Int) n j=rcode l[i].D n j:=by rw[← eD];exact if_pos e
  rw[hw,hc]
  rw[e] at e1
  have l0:=bload0 h.at'
  have lp:=bloadP h.at' hi
  have hi1:i+1≤l.length:=hi
  obtain⟨v,H',e2,rfl,y',k⟩:=rot_all (h.at'.dev i hi) (good_at h hl hg hi).ne n j hx lf m
  refine ret_call rfl c15_eq ?_
  simp only[c15,e1,l0,lp,hi1,e2,Nat.mul_one,sy,tup,↓reduceIte,zA,zG,zC,zD,zF,zE,zB,zH,reduceCtorEq]
  exact⟨trivial,.inr trivial,_,rfl,rfl,_,h.dev hi k⟩
 ·have hw:B.rot d n j x=B:=if_neg (by rw[e];decide)
  have hc:B.oc d n j=2:=if_neg (by rw[e];decide)
  rw[hw,hc]
  rw[e] at e1
  refine ret_call rfl c15_eq ?_
  simp only[c15,e1,sy,tup,↓reduceIte,zA,zG,zC,zD,zF,zE,zB,zH,reduceCtorEq]
  exact⟨trivial,.inr trivial,_,rfl,rfl,l,h.idle (Turns.refl Z H)⟩
end
end Go.Proofs.YtabebpemfinejaaDoor.disk
namespace Go.Proofs.YtabebpemfinejaaDoor.disk
open Go.Am
noncomputable def c23_l0:C:=.seq (.reg [
 qo 22 (.p (arF .lss (tt 21) (tt 20))) [pp 21,pp 20]]) (
 .seq (.cond (tt 22) (.skip) (.exit 0)) (
 .seq (.block 1 (.seq (.reg [
 qo 23 (.p (iaddrSF (tt 19) (tt 21) 1)) [pp 19,pp 21],
 qo 24 (.r (loadF (tt 23) 1 .sc)) [pp 23],
 mv 6 24]) (
 .seq (.reg [
 mv 26 6,
 qo 27 (.c (callF (ff 51) [(tt 26)])) [pp 26],
 mv 25 27,
 qo 28 (.p (extF (tt 25) 0)) [pp 25],
 qo 29 (.p (extF (tt 25) 1)) [pp 25],
 mv 7 28,
 mv 8 29]) (
 .seq (.seq (.reg [
 mv 30 8,
 qo 31 (.p (eqcF true false [.int .i64] (tt 30) (ii 0))) [pp 30]]) (
 .cond (tt 31) (.seq (.reg [
 mv 32 8,
 qo 2 (.p (S.get (.c (.ptr none)))) [],
 mv 3 32]) (
 .ret)) (.skip))) (
 .reg [
 mv 33 4,
 mv 34 4,
 qo 35 (.p (nilcF (tt 34))) [pp 34],
 qo 36 (.p (faddrF (tt 35) 0)) [pp 35],
 qo 37 (.r (loadF (tt 36) 1 .sc)) [pp 36],
 mv 38 7,
 qo 39 (.m (bsliceF 1 1 [.ptr none] [(0,1,(tt 38))])) [pp 38],
 qo 40 (.a (appF 1 8 (tt 37) (tt 39))) [pp 37,pp 39],
 qo 41 (.p (nilcF (tt 33))) [pp 33],
 qo 42 (.p (faddrF (tt 41) 0)) [pp 41],
 qn (.a (storeF (tt 42) (tt 40) 1)) [pp 42,pp 40]]))))) (
 .reg [
 qo 43 (.p (arF .add (tt 21) (ii 1))) [pp 21],
 mv 21 43])))
noncomputable def c23:CFn:=⟨[.tmp (pp 2),.tmp (pp 3)],
 .seq (.reg [
 qo 2 (.p (S.get (.c (.ptr none)))) [],
 qo 3 (.p (S.get (ii 0))) []]) (
 .seq (.seq (.reg [
 mv 9 0,
 qo 10 (.p (lenF (tt 9))) [pp 9],
 qo 11 (.p (arF .lss (tt 10) (ii 1))) [pp 10],
 mv 12 11,
 mg 13 0 12 false,
 qg 14 (.p (lenF (tt 13))) 12 false [pp 13],
 qg 15 (.p (arF .gtr (tt 14) (ii 17))) 12 false [pp 14],
 qo 16 (.p (pickF (tt 12) (.c (.bool true)) (tt 15))) [pp 12,pp 15]]) (
 .cond (tt 16) (.seq (.reg [
 qo 2 (.p (S.get (.c (.ptr none)))) [],
 qo 3 (.p (S.get (ii 2))) []]) (
 .ret)) (.skip))) (
 .seq (.reg [
 qo 17 (.p (buildF [.slice none 0 0 0,.int .i64 0,.int .i64 0,.bool false] .ag [])) [],
 qo 18 (.m (boxF 4 (tt 17))) [pp 17],
 mv 4 18]) (
 .seq (.seq (.reg [
 mv 19 0,
 qo 20 (.p (lenF (tt 19))) [pp 19],
 qo 21 (.p (S.get (ii 0))) []]) (
 .block 0 (.loop c23_l0))) (
 .seq (.reg [
 mv 44 4,
 mv 2 44,
 qo 3 (.p (S.get (ii 0))) []]) (
 .ret)))))⟩
theorem c23_eq:fnOf Tryd.prog 23=some c23:=by kernel_rfl
def ptrRows (l:List Dv):List (List V):=l.map fun x=>[.ptr (some ⟨x.b,0⟩)]
theorem app_ptr {H:Heap} {p:Option Ptr} {o:Nat} {l:List Dv} {x c:Bk} (h0:l=[]→p=none∧o=0) (h1:l≠[]→∃ ds,p=some ⟨ds,0⟩∧o=1∧H.get ds=some (.rows false 1 (ptrRows l))) (hx:H.get x=some (.rows false 1 [[.ptr (some ⟨c,0⟩)]])) (hmax:l.length < 1000000) :
  appendV 1 8 H (.slice p l.length l.length o) (.slice (some ⟨x,0⟩) 1 1 0)=some (.slice (some ⟨.run H.next,0⟩) (l.length+1) (l.length+1) 1,(killP H p).add (.rows false 1 (ptrRows l++[[.ptr (some ⟨c,0⟩)]]))):=by
 have he:elems H x 1 1 0=some [[.ptr (some ⟨c,0⟩)]]:=by
  simp only[elems]
  rw[loadAt_eq hx (r:=[.ptr (some ⟨c,0⟩)]) rfl]
  rfl
 by_cases hP:l=[]
 ·obtain⟨rfl,rfl⟩:=h0 hP
  subst hP
  simp only[appendV,lenOf,nbeq,nble,firstE,he]
  simp[elems,ptrRows,killP]
 ·obtain⟨d,rfl,rfl,hg⟩:=h1 hP
  have hlen:(ptrRows l).length=l.length:=by simp[ptrRows]
  simp only[appendV,lenOf,nbeq,nble,firstE,he,hg]
  have e1:(l.length+1)*8≤1099511627776:=by omega
  have e2:l.length+1≤1099511627776:=by omega
  simp[Ca,B9,Cc,e1,e2,hlen,killP,Nat.mod_one]
structure Grow (H0 H:Heap) (b:Bk) (p:Option Ptr) (o:Nat) (l:List Dv) (r1 r2 r3:V):Prop where
 own:H.get b=some (.rows false 4 [[.slice p l.length l.length o,r1,r2,r3]])
 nil:l=[]→p=none∧o=0
 ptrs:l≠[]→∃ ds,p=some ⟨ds,0⟩∧o=1∧H.get ds=some (.rows false 1 (ptrRows l))∧H.Old ds∧ds≠b∧¬ H0.Old ds∧∀ x ∈ l,¬ x.foot ds
 dev:∀ x ∈ l,DevAt H x.b x.y x.D
 sep:l.Pairwise fun x z=>Sep x.b x.y x.D z.b z.y z.D
 out:∀ x ∈ l,¬ x.foot b
 old:H.Old b
 new:¬ H0.Old b
 fresh:∀ x ∈ l,Fresh H0 x.b x.y x.D
 t:Turns Z H0 H
theorem killP_turns (H:Heap) {p:Option Ptr} {X:Bk→Prop} (h:∀ q,p=some q→X q.b):Turns X H (killP H p):=by
 cases p with
 | none=>exact Turns.refl X H
 | some q=>exact Turns.set (h q rfl) _ _
theorem killP_next (H:Heap) (p:Option Ptr):(killP H p).next=H.next:=by cases p<;>rfl
theorem Grow.load {H0 H H1:Heap} {b:Bk} {p:Option Ptr} {o:Nat} {l:List Dv} {r1 r2 r3:V} (h:Grow H0 H b p o l r1 r2 r3) (t:Turns Z H H1):loadAt H1 ⟨b,0⟩ 1=some [.slice p l.length l.length o]:=by
 rw[loadAt_eq ((t.same _ h.old id).trans h.own) (r:=[.slice p l.length l.length o,r1,r2,r3]) rfl];rfl
theorem Grow.step {H0 H H1:Heap} {b:Bk} {p:Option Ptr} {o:Nat} {l:List Dv} {r1 r2 r3:V} (h:Grow H0 H b p o l r1 r2 r3) (t:Turns Z H H1) {c:Bk} {y:Lay} {D:Dev} (hD:DevAt H1 c y D) (hF:Fresh H c y D) (hmax:l.length < 1000000) :
  ∃ H3 H4 ds,appendV 1 8 (H1.add (.rows false 1 [[.ptr (some ⟨c,0⟩)]])) (.slice p l.length l.length o) (.slice (some ⟨.run H1.next,0⟩) 1 1 0)=some (.slice (some ⟨ds,0⟩) (l.length+1) (l.length+1) 1,H3) ∧
   storeAt H3 ⟨b,0⟩ [.slice (some ⟨ds,0⟩) (l.length+1) (l.length+1) 1]=some H4∧Grow H0 H4 b (some ⟨ds,0⟩) 1 (l++[⟨c,y,D⟩]) r1 r2 r3:=by
 have t2:Turns Z H (H1.add (.rows false 1 [[.ptr (some ⟨c,0⟩)]])):=t.addm _
 have hx:(H1.add (.rows false 1 [[.ptr (some ⟨c,0⟩)]])).get (.run H1.next)=some (.rows false 1 [[.ptr (some ⟨c,0⟩)]]):=by rw[Heap.get_add,if_pos rfl]
 have hD2:=hD.turns (Turns.add Z H1 (.rows false 1 [[.ptr (some ⟨c,0⟩)]])) id id (fun _=>id)
 have hn1:=t.next
 have hn2:(H1.add (.rows false 1 [[.ptr (some ⟨c,0⟩)]])).next=H1.next+1:=rfl
 generalize H1.add (.rows false 1 [[.ptr (some ⟨c,0⟩)]])=H2 at t2 hx hD2 hn2
 have ha:=app_ptr (H:=H2) (x:=.run H1.next) (c:=c) h.nil (fun e=>by
  obtain⟨ds,h1,h2,h3,h4,_⟩:=h.ptrs e
  exact⟨ds,h1,h2,(t2.same _ h4 id).trans h3⟩) hx hmax
 have hX:∀ q,p=some q→H.Old q.b∧q.b≠b∧¬ H0.Old q.b∧(∀ x ∈ l,¬ x.foot q.b):=by
  intro q hq
  by_cases e:l=[]
  ·rw[(h.nil e).1] at hq;cases hq
  ·obtain⟨ds,h1,_,_,h4,h5,h6,h7⟩:=h.ptrs e
   rw[h1] at hq;cases hq
   exact⟨h4,h5,h6,h7⟩
 have tk:Turns (fun c=>∃ q,p=some q∧c=q.b) H2 (killP H2 p):=killP_turns H2 (fun q hq=>⟨q,hq,rfl⟩)
 have hkn:=killP_next H2 p
 have t3:=tk.addm (.rows false 1 (ptrRows l++[[.ptr (some ⟨c,0⟩)]]))
 have hds:((killP H2 p).add (.rows false 1 (ptrRows l++[[.ptr (some ⟨c,0⟩)]]))).get (.run H2.next)=some (.rows false 1 (ptrRows l++[[.ptr (some ⟨c,0⟩)]])):=by rw[Heap.get_add,if_pos (by rw[hkn])]
 have hdo:((killP H2 p).add (.rows false 1 (ptrRows l++[[.ptr (some ⟨c,0⟩)]]))).Old (.run H2.next):=by show _ < _;simp[hkn]
 generalize (killP H2 p).add (.rows false 1 (ptrRows l++[[.ptr (some ⟨c,0⟩)]]))=H3 at ha t3 hds hdo
 have hb2:H2.Old b:=h.old.mono t2.next
 have hbk:¬ ∃ q,p=some q∧b=q.b:=fun⟨q,hq,e⟩=>(hX q hq).2.1 e.symm
 have hown3:H3.get b=some (.rows false 4 [[.slice p l.length l.length o,r1,r2,r3]]):=(t3.same _ hb2 hbk).trans ((t2.same _ h.old id).trans h.own)
 have hst:storeAt H3 ⟨b,0⟩ [.slice (some ⟨.run H2.next,0⟩) (l.length+1) (l.length+1) 1]=some (H3.set b (.rows false 4 [[.slice (some ⟨.run H2.next,0⟩) (l.length+1) (l.length+1) 1,r1,r2,r3]])):=storeAt_eq hown3 (r:=[.slice p l.length l.length o,r1,r2,r3]) rfl rfl
 have t4:Turns (fun x=>x=b) H3 (H3.set b (.rows false 4 [[.slice (some ⟨.run H2.next,0⟩) (l.length+1) (l.length+1) 1,r1,r2,r3]])):=Turns.set (X:=fun x=>x=b) rfl _ _
 have hno:¬ H2.Old (.run H2.next):=Heap.not_old (Nat.le_refl _)
 have hnb:(Bk.run H2.next)≠b:=fun e=>hno (by rw[e];exact hb2)
 have cold:=hD2.foot_old
 refine⟨H3,_,.run H2.next,ha,hst,⟨?_,fun e=>absurd e (by simp),fun _=>⟨.run H2.next,rfl,rfl,?_,?_,hnb,fun e=>hno (e.mono (Nat.le_trans h.t.next t2.next)),?_⟩,?_,?_,?_,?_,h.new,?_,?_⟩⟩
 ·rw[Heap.get_set,if_pos rfl];simp
 ·rw[Heap.get_set,if_neg hnb,hds];simp[ptrRows]
 ·simp only[Heap.old_set];exact hdo
 ·intro x hx hf
  rcases List.mem_append.1 hx with hx | hx
  ·exact hno ((h.dev x hx).foot_old _ hf |>.mono t2.next)
  ·rw[List.mem_singleton.1 hx] at hf;exact hno (cold _ hf)
 ·have key:∀(x:Dv),DevAt H2 x.b x.y x.D→(∀ q,p=some q→¬ x.foot q.b)→¬ x.foot b→DevAt (H3.set b (.rows false 4 [[.slice (some ⟨.run H2.next,0⟩) (l.length+1) (l.length+1) 1,r1,r2,r3]])) x.b x.y x.D:=by
   intro x hx hq hb
   have g:=hx.turns t3 (fun⟨q,hp,e⟩=>hq q hp (.inl e.symm)) (fun⟨q,hp,e⟩=>hq q hp (.inr (.inl e.symm))) (fun hl ⟨q,hp,e⟩=>hq q hp (.inr (.inr ⟨hl,e.symm⟩)))
   exact g.turns t4 (fun e=>hb (.inl e.symm)) (fun e=>hb (.inr (.inl e.symm))) (fun hl e=>hb (.inr (.inr ⟨hl,e.symm⟩)))
  intro x hx
  rcases List.mem_append.1 hx with hx | hx
  ·exact key x ((h.dev x hx).turns t2 id id (fun _=>id)) (fun q hq=>(hX q hq).2.2.2 x hx) (h.out x hx)
  ·rw[List.mem_singleton.1 hx]
   exact key _ hD2 (fun q hq hf=>hF.foot _ hf (hX q hq).1) (fun hf=>hF.foot _ hf h.old)
 ·rw[List.pairwise_append]
  refine⟨h.sep,List.pairwise_singleton _ _,fun x hx z hz=>?_⟩
  rw[List.mem_singleton.1 hz]
  exact sep_fresh (h.dev x hx) hF
 ·intro x hx
  rcases List.mem_append.1 hx with hx | hx
  ·exact h.out x hx
  ·rw[List.mem_singleton.1 hx];exact fun hf=>hF.foot _ hf h.old
 ·simp only[Heap.old_set];exact hb2.mono t3.next
 ·intro x hx
  rcases List.mem_append.1 hx with hx | hx
  ·exact h.fresh x hx
  ·rw[List.mem_singleton.1 hx]
   exact⟨fun e=>hF.b (e.mono h.t.next),fun e=>hF.s (e.mono h.t.next),fun hl e=>hF.l hl (e.mono h.t.next)⟩
 ·have ta:=Turns.after (h.t.trans t2) t3 (fun x hx ⟨q,hq,e⟩=>(hX q hq).2.2.1 (by rw[← e];exact hx))
  exact Turns.after ta t4 (fun x hx e=>h.new (by rw[← e];exact hx))
theorem Grow.rep {H0 H:Heap} {b:Bk} {p:Option Ptr} {o:Nat} {l:List Dv} {r:Bool} {B:Bn} (h:Grow H0 H b p o l (n1 r B) (n2 r B) (n3 r B)) (hl:l≠[]) (hm:l.map Dv.D=B.l):∃ ds,p=some ⟨ds,0⟩∧o=1∧Rep r H b ds 1 l B∧∀ c,BFoot b ds l c→¬ H0.Old c:=by
 obtain⟨ds,rfl,rfl,h3,h4,h5,h6,h7⟩:=h.ptrs hl
 refine⟨ds,rfl,rfl,⟨⟨h.own,h3,fun i hi=>h.dev _ (List.getElem_mem hi),?_,⟨h.old,h4⟩,fun e=>h5 e.symm,fun i hi=>⟨h.out _ (List.getElem_mem hi),h7 _ (List.getElem_mem hi)⟩⟩,hm⟩,?_⟩
 ·intro i j hi hj hij
  have hp:=List.pairwise_iff_getElem.1 h.sep
  rcases Nat.lt_or_gt_of_ne hij with e | e
  ·exact hp i j hi hj e
  ·exact(hp j i hj hi e).symm
 ·rintro c (rfl | rfl | ⟨x,hx,hc⟩)
  ·exact h.new
  ·exact h6
  ·exact(h.fresh x hx).foot c hc
theorem dnew_err (H:Heap) {n:Int} (h:n < 1∨512 < n) (lf m:Nat):callS Tryd.prog S0 lf (m+1) 51 [.int .i64 n] H=some (.v (.tuple [.ptr none,.int .i64 2]),H):=by
 obtain⟨v,H',e,rfl,rfl⟩:ret (callS Tryd.prog S0 lf (m+1) 51 [.int .i64 n] H) fun v H'=>v=.tuple [.ptr none,.int .i64 2]∧H'=H:=by
  refine ret_call rfl c51_eq ?_
  by_cases h1:n < 1
  ·simp only[c51,h1,sy,tup,↓reduceIte,zA,zG,zC,zD,zF,zE,zB,zH,reduceCtorEq]
   exact⟨trivial,.inr trivial,_,rfl,rfl,trivial⟩
  ·have h2:512 < n:=by omega
   simp only[c51,h1,h2,sy,tup,↓reduceIte,zA,zG,zC,zD,zF,zE,zB,zH,reduceCtorEq]
   exact⟨trivial,.inr trivial,_,rfl,rfl,trivial⟩
 exact e
def okSizes (P:List Int):Prop:=1≤P.length∧P.length≤17∧∀ n ∈ P,1≤n∧n≤512
def newB (P:List Int):Bn:=⟨P.map fun n=>blank n.toNat,0,0,false⟩
theorem grow0 (H:Heap) (r1 r2 r3:V):Grow H (H.add (.rows false 4 [[.slice none 0 0 0,r1,r2,r3]])) (.run H.next) none 0 [] r1 r2 r3:=
 ⟨by rw[Heap.get_add,if_pos rfl];rfl,fun _=>⟨rfl,rfl⟩,fun e=>absurd rfl e,fun x hx=>absurd hx (by simp),List.Pairwise.nil,fun x hx=>absurd hx (by simp),by show _ < _;simp,Heap.not_old (Nat.le_refl _),fun x hx=>absurd hx (by simp),Turns.add Z H _⟩
def NewedAt (r:Bool) (P:List Int) (H:Heap) (v:V) (H':Heap):Prop:=
 Turns Z H H'∧((¬ okSizes P∧v=.tuple [.ptr none,.int .i64 2])∨(okSizes P∧∃ ds l,v=.tuple [.ptr (some ⟨.run H.next,0⟩),.int .i64 0]∧Rep r H' (.run H.next) ds 1 l (newB P)∧∀ c,BFoot (.run H.next) ds l c→¬ H.Old c))
theorem bnew_at (H:Heap) {pp:Option Ptr} {P:List Int} {pc po:Nat} (hP:PicksAt H pp P Z) {lf:Nat} (hlf:1000 < lf) (m:Nat) :
  ret (callS Tryd.prog S0 lf (m+2) 23 [.slice pp P.length pc po] H) (NewedAt false P H):=by
 refine ret_call rfl c23_eq ?_
 by_cases hlen:1≤P.length∧P.length≤17
 ·obtain⟨g1,g2⟩:=hlen
  have g1':¬ ((P.length:Int) < 1):=by omega
  have g2':¬ (17 < (P.length:Int)):=by omega
  have G0:=grow0 H (.int .i64 0) (.int .i64 0) (.bool false)
  have hloop:∀ t:T,t.getP (Tr.path 4)=some (.ptr (some ⟨.run H.next,0⟩))→t.getP (Tr.path 19)=some (.slice pp P.length pc po)→t.getP (Tr.path 20)=some (.int .i64 (P.length:Int))→t.getP (Tr.path 21)=some (.int .i64 0) →
    wp (loopF (runC (callS Tryd.prog S0 lf (m+1)) lf c23_l0) lf ⟨t,H.add (.rows false 4 [[.slice none 0 0 0,.int .i64 0,.int .i64 0,.bool false]]),[]⟩) fun x s=>
     s.d=[]∧((x=.ret∧¬ okSizes P∧s.t.getP (Tr.path 2)=some (.ptr none)∧s.t.getP (Tr.path 3)=some (.int .i64 2)∧Turns Z H s.H)∨(x=.ex 0∧s.t.getP (Tr.path 4)=some (.ptr (some ⟨.run H.next,0⟩))∧okSizes P∧∃ p o l,Grow H s.H (.run H.next) p o l (.int .i64 0) (.int .i64 0) (.bool false)∧l.map Dv.D=P.map (fun n=>blank n.toNat))):=by
   intro t q4 q19 q20 q21
   refine wp_loopF (fun k s=>∃ i p o l,i+k=P.length∧s.d=[]∧s.t.getP (Tr.path 4)=some (.ptr (some ⟨.run H.next,0⟩))∧s.t.getP (Tr.path 19)=some (.slice pp P.length pc po)∧s.t.getP (Tr.path 20)=some (.int .i64 (P.length:Int))∧s.t.getP (Tr.path 21)=some (.int .i64 ((i:Nat):Int))∧Grow H s.H (.run H.next) p o l (.int .i64 0) (.int .i64 0) (.bool false)∧l.map Dv.D=(P.take i).map (fun n=>blank n.toNat)∧∀ n ∈ P.take i,1≤n∧n≤512) ?_ lf P.length _ ⟨0,none,0,[],by omega,rfl,q4,q19,q20,q21,G0,rfl,fun n hn=>absurd hn (by simp)⟩ (by omega)
   rintro k ⟨t,HH,d⟩ ⟨i,p,o,l,hi,rfl,q4,q19,q20,q21,hG,hm,hok⟩
   dsimp only at q4 q19 q20 q21 hG
   by_cases hiP:i < P.length
   ·obtain⟨x,ox,hpx,l1⟩:=(hP.turns hG.t).load hiP
    rw[hpx] at q19
    have hi1:i+1≤P.length:=hiP
    have hw:IntKind.i64.wrap ((i:Int)+1)=((i+1:Nat):Int):=by rw[wrap_i64 (by omega)];rfl
    have hw':IntKind.i64.wrap ((i:Int)+1)=(i:Int)+1:=wrap_i64 (by omega)
    by_cases hn:1≤P[i]∧P[i]≤512
    ·obtain⟨v,H1,e1,rfl,hD,t1⟩:=new_ok HH (n:=P[i].toNat) (by omega) (by omega) lf m
     rw[show ((P[i].toNat:Nat):Int)=P[i] from by omega] at e1
     have hF:Fresh HH (.run (HH.next+1)) ⟨.run HH.next,0,.run HH.next,none,0⟩ (blank P[i].toNat):=⟨Heap.not_old (by omega),Heap.not_old (Nat.le_refl _),fun e=>absurd rfl e⟩
     have hll:l.length=i:=by have:=congrArg List.length hm;simpa [Nat.min_eq_left (Nat.le_of_lt hiP)] using this
     obtain⟨H3,H4,ds,ha,hs,hG'⟩:=hG.step t1 hD hF (by omega)
     have l0:=hG.load t1
     have l0':=hG.load (t1.addm (.rows false 1 [[.ptr (some ⟨.run (HH.next+1),0⟩)]]))
     simp only[c23_l0,q4,q19,q20,q21,hiP,hi1,l1,e1,l0,l0',ha,hs,hw',Nat.mul_one,sy,tup,↓reduceIte,zA,zG,zC,zD,zF,zE,zB,zH,reduceCtorEq]
     refine⟨k - 1,by omega,i+1,_,_,_,by omega,trivial,trivial,by rw[hpx],trivial,rfl,hG',?_,?_⟩
     ·rw[List.map_append,hm,List.take_succ_eq_append_getElem hiP,List.map_append];rfl
     ·rw[List.take_succ_eq_append_getElem hiP]
      intro z hz
      rcases List.mem_append.1 hz with hz | hz
      ·exact hok z hz
      ·rw[List.mem_singleton.1 hz];exact hn
    ·have e1:=dnew_err HH (n:=P[i]) (by omega) lf m
     have hbad:¬ okSizes P:=fun h=>hn (h.2.2 _ (List.getElem_mem hiP))
     simp only[c23_l0,q4,q19,q20,q21,hiP,hi1,l1,e1,Nat.mul_one,sy,tup,↓reduceIte,zA,zG,zC,zD,zF,zE,zB,zH,reduceCtorEq]
     exact⟨trivial,.inl ⟨trivial,hbad,trivial,trivial,hG.t⟩⟩
   ·have hg:¬ (i < P.length):=hiP
    have hiL:P.take i=P:=List.take_of_length_le (by omega)
    rw[hiL] at hm hok
    simp only[c23_l0,q4,q19,q20,q21,hg,sy,tup,↓reduceIte,zA,zG,zC,zD,zF,zE,zB,zH,reduceCtorEq]
    refine⟨trivial,.inr ⟨trivial,trivial,⟨g1,g2,hok⟩,p,o,l,hG,hm⟩⟩
  simp only[c23,g1',g2',sy,tup,↓reduceIte,zA,zG,zC,zD,zF,zE,zB,zH,reduceCtorEq]
  refine wp_ctx (F:=fun r=>seqC _ _ _ (blockC _ r)) (hloop _ ?_ ?_ ?_ ?_) ?_
  ·simp only[sy,tup,↓reduceIte,zA,zG,zC,zD,zF,zE,zB,zH,reduceCtorEq]
  ·simp only[sy,tup,↓reduceIte,zA,zG,zC,zD,zF,zE,zB,zH,reduceCtorEq]
  ·simp only[sy,tup,↓reduceIte,zA,zG,zC,zD,zF,zE,zB,zH,reduceCtorEq]
  ·simp only[sy,tup,↓reduceIte,zA,zG,zC,zD,zF,zE,zB,zH,reduceCtorEq]
  rintro x ⟨t,HH,d⟩ ⟨rfl,⟨rfl,hbad,q2,q3,hT⟩ | ⟨rfl,q4,hok,p,o,l,hG,hm⟩⟩
  ·dsimp only at q2 q3 hT
   simp only[q2,q3,sy,tup,↓reduceIte,zA,zG,zC,zD,zF,zE,zB,zH,reduceCtorEq]
   exact⟨trivial,.inr trivial,_,rfl,hT,.inl ⟨hbad,rfl⟩⟩
  ·dsimp only at q4 hG
   have hl:l≠[]:=fun e=>by
    have:=congrArg List.length hm
    rw[e] at this;simp at this;omega
   obtain⟨ds,rfl,rfl,hR,hN⟩:=Grow.rep (r:=false) (B:=newB P) hG hl hm
   simp only[q4,sy,tup,↓reduceIte,zA,zG,zC,zD,zF,zE,zB,zH,reduceCtorEq]
   exact⟨trivial,.inr trivial,_,rfl,hG.t,.inr ⟨hok,ds,l,rfl,hR,hN⟩⟩
 ·have hbad:¬ okSizes P:=fun h=>hlen ⟨h.1,h.2.1⟩
  by_cases g1:(P.length:Int) < 1
  ·simp only[c23,g1,sy,tup,↓reduceIte,zA,zG,zC,zD,zF,zE,zB,zH,reduceCtorEq]
   exact⟨trivial,.inr trivial,_,rfl,Turns.refl Z H,.inl ⟨hbad,rfl⟩⟩
  ·have g2:17 < (P.length:Int):=by omega
   simp only[c23,g1,g2,sy,tup,↓reduceIte,zA,zG,zC,zD,zF,zE,zB,zH,reduceCtorEq]
   exact⟨trivial,.inr trivial,_,rfl,Turns.refl Z H,.inl ⟨hbad,rfl⟩⟩
end Go.Proofs.YtabebpemfinejaaDoor.disk
namespace Go.Proofs.YtabebpemfinejaaDoor.disk
open Go.Am
structure Bok (k:Nat) (B:Bn):Prop where
 wf:∀ D ∈ B.l,∃ n,n≤512∧Wf D n k
 ar:0≤B.ar∧B.ar≤9223372036854775807
 st:0≤B.st∧B.st≤(k:Int)
theorem Bok.good {k:Nat} {B:Bn} (h:Bok k B) (hk:k≤900):∀ D ∈ B.l,Good D:=fun D hD=>by
 obtain⟨n,hn,w⟩:=h.wf D hD
 exact⟨w.ne,w.ok,by rw[w.len];exact hn,by have:=w.le;omega⟩
theorem Bok.mono {k:Nat} {B:Bn} (h:Bok k B):Bok (k+1) B:=⟨fun D hD=>by
 obtain⟨n,hn,w⟩:=h.wf D hD
 exact⟨n,hn,w.mono⟩,h.ar,by have:=h.st;omega⟩
theorem tc_dev {B:Bn} {d:Int} (h:B.tc d=0):B.dev d ∈ B.l:=by
 unfold Bn.tc at h
 rcases tcode_cases B.l.length d with ⟨i,hi,rfl,_⟩ | e
 ·unfold Bn.dev
  simp only[Int.toNat_natCast,List.getD]
  rw[List.getElem?_eq_getElem hi]
  exact List.getElem_mem hi
 ·rw[e] at h;cases h
theorem lc_tc {B:Bn} {d:Int} (h:B.lc d=0):B.tc d=0:=by
 unfold Bn.lc at h
 split at h
 ·cases h
 ·exact h
theorem rc_lc {B:Bn} {d n:Int} (h:B.rc d n=0):B.lc d=0:=by
 by_cases e:B.lc d=0
 ·exact e
 ·rw[show B.rc d n=B.lc d from if_neg e] at h;exact absurd h e
theorem Bok.setd {k:Nat} {B:Bn} (h:Bok k B) {d:Int} {D:Dev} (hD:∃ n,n≤512∧Wf D n (k+1)):Bok (k+1) (B.setd d D):=
 ⟨fun E hE=>by
  rcases List.mem_or_eq_of_mem_set hE with hE | rfl
  ·exact h.mono.wf E hE
  ·exact hD,h.ar,h.mono.st⟩
theorem Bok.step {k:Nat} {B:Bn} (h:Bok k B) {d:Int} {D:Dev} (hD:∃ n,n≤512∧Wf D n (k+1)):Bok (k+1) (B.step d D):=by
 unfold Bn.step
 have h1:=h.st
 have h2:=h.ar
 split
 ·exact⟨h.mono.wf,h.ar,h.mono.st⟩
 ·refine⟨fun E hE=>?_,?_,?_⟩
  ·rcases List.mem_or_eq_of_mem_set hE with hE | rfl
   ·exact h.mono.wf E hE
   ·exact hD
  ·show 0≤arLess B.ar∧arLess B.ar≤_
   unfold arLess;split<;>omega
  ·show 0≤B.st+1∧B.st+1≤_
   omega
theorem Bok.write {k:Nat} {B:Bn} (h:Bok k B) (d n:Int) (x:Nat):Bok (k+1) (B.write d n x):=by
 unfold Bn.write
 split
 ·rename_i hc
  obtain⟨n',hn,w⟩:=h.wf _ (tc_dev (lc_tc (rc_lc hc)))
  exact h.step ⟨n',hn,w.write n x⟩
 ·exact h.mono
theorem Bok.flush {k:Nat} {B:Bn} (h:Bok k B) (d:Int):Bok (k+1) (B.flush d):=by
 unfold Bn.flush
 split
 ·rename_i hc
  obtain⟨n',hn,w⟩:=h.wf _ (tc_dev (lc_tc (rc_lc hc)))
  exact h.step ⟨n',hn,w.flush⟩
 ·exact h.mono
theorem Bok.arm {k:Nat} {B:Bn} (h:Bok k B) {n:Int} (hn:n≤9223372036854775807):Bok (k+1) (B.arm n):=by
 unfold Bn.arm
 split
 ·rename_i hc
  have h0:¬ n < 0:=by
   intro e
   unfold Bn.ac at hc
   split at hc
   ·cases hc
   ·simp_all
  exact⟨h.mono.wf,⟨by show 0≤n;omega,hn⟩,h.mono.st⟩
 ·exact h.mono
theorem Bok.rot {k:Nat} {B:Bn} (h:Bok k B) (d n j:Int) (x:Nat):Bok (k+1) (B.rot d n j x):=by
 unfold Bn.rot
 split
 ·rename_i hc
  obtain⟨n',hn,w⟩:=h.wf _ (tc_dev hc)
  exact h.setd ⟨n',hn,w.rot n j x⟩
 ·exact h.mono
structure Mine (r:Bool) (H0 H:Heap) (b ds:Bk) (so:Nat) (l:List Dv) (B:Bn):Prop where
 rep:Rep r H b ds so l B
 t:Turns Z H0 H
 new:∀ c,BFoot b ds l c→¬ H0.Old c
theorem Mine.turns {r:Bool} {H0 H H':Heap} {b ds:Bk} {so:Nat} {l:List Dv} {B:Bn} (h:Mine r H0 H b ds so l B) (k:Turns Z H H'):Mine r H0 H' b ds so l B:=⟨h.rep.turns k,h.t.trans k,h.new⟩
theorem Mine.next {r:Bool} {H0 H H':Heap} {b ds:Bk} {so:Nat} {l l':List Dv} {B B':Bn} (h:Mine r H0 H b ds so l B) (k:RNext r H b ds so l H' l' B'):Mine r H0 H' b ds so l' B':=
 ⟨k.rep,Turns.after h.t k.turns (fun c hc hx=>(h.new c hx hc).elim),fun c hc=>by
  rcases k.foot c hc with hc | hc
  ·exact h.new c hc
  ·exact fun o=>hc (o.mono h.t.next)⟩
theorem Mine.ne {r:Bool} {H0 H:Heap} {b ds:Bk} {so:Nat} {l:List Dv} {B:Bn} (h:Mine r H0 H b ds so l B) (hB:0 < B.l.length):l≠[]:=fun e=>by
 have:=h.rep.len
 rw[e] at this;simp at this;omega
end Go.Proofs.YtabebpemfinejaaDoor.disk
namespace Go.Proofs.YtabebpemfinejaaDoor.disk
open Go.Am
noncomputable def c21_l0:C:=.seq (.reg [
 qo 17 (.p (arF .lss (tt 16) (tt 15))) [pp 16,pp 15]]) (
 .seq (.cond (tt 17) (.skip) (.exit 0)) (
 .seq (.block 1 (.seq (.reg [
 qo 18 (.p (iaddrSF (tt 14) (tt 16) 1)) [pp 14,pp 16],
 qo 19 (.r (loadF (tt 18) 1 .sc)) [pp 18],
 mv 6 19]) (
 .seq (.reg [
 mv 21 6,
 mv 22 1,
 qo 23 (.c (callF (ff 46) [(tt 21),(tt 22)])) [pp 21,pp 22],
 mv 20 23,
 qo 24 (.p (extF (tt 20) 0)) [pp 20],
 qo 25 (.p (extF (tt 20) 1)) [pp 20],
 mv 7 24,
 mv 8 25]) (
 .reg [
 mv 26 1,
 mv 27 7,
 qo 28 (.p (sliceF 1 (tt 26) (some (tt 27)) none none)) [pp 26,pp 27],
 mv 1 28])))) (
 .reg [
 qo 29 (.p (arF .add (tt 16) (ii 1))) [pp 16],
 mv 16 29])))
noncomputable def c21:CFn:=⟨[.tmp (pp 4)],
 .seq (.reg [
 qo 4 (.p (S.get (ii 0))) []]) (
 .seq (.seq (.reg [
 mv 9 0,
 qo 10 (.c (callF (ff 45) [(tt 9)])) [pp 9]]) (
 .cond (tt 10) (.seq (.reg [
 qo 4 (.p (S.get (ii 1))) []]) (
 .ret)) (.skip))) (
 .seq (.seq (.reg [
 mv 11 0,
 qo 12 (.p (nilcF (tt 11))) [pp 11],
 qo 13 (.p (faddrF (tt 12) 0)) [pp 12],
 qo 14 (.r (loadF (tt 13) 1 .sc)) [pp 13],
 qo 15 (.p (lenF (tt 14))) [pp 14],
 qo 16 (.p (S.get (ii 0))) []]) (
 .block 0 (.loop c21_l0))) (
 .seq (.reg [
 mv 30 0,
 mv 31 0,
 qo 32 (.p (nilcF (tt 30))) [pp 30],
 qo 33 (.p (faddrF (tt 32) 3)) [pp 32],
 qn (.a (storeF (tt 33) (.c (.bool false)) 1)) [pp 33],
 qo 34 (.p (nilcF (tt 31))) [pp 31],
 qo 35 (.p (faddrF (tt 34) 2)) [pp 34],
 qn (.a (storeF (tt 35) (ii 0) 1)) [pp 35]]) (
 .seq (.reg [
 qo 4 (.p (S.get (ii 0))) []]) (
 .ret)))))⟩
theorem c21_eq:fnOf Tryd.prog 21=some c21:=by kernel_rfl
def dropP (pp:Option Ptr) (pc n:Nat):Option Ptr:=if pc=n then pp else pp.map fun p=>⟨p.b,p.o+n⟩
theorem sliceF_lo {x lo:S} {t:T} {p:Option Ptr} {len cap n:Nat} (hx:x.get t=some (.slice p len cap 0)) (hlo:lo.get t=some (.int .i64 (n:Int))) (hn:n≤len) (hc:len≤cap):sliceF 1 x (some lo) none none t=some (.slice (dropP p cap n) (len - n) (cap - n) 0):=by
 have hb:bounds len cap (some (.int .i64 (n:Int))) none none=some (n,len,cap):=by
  simp only[bounds,boundD,bound,C5,nble]
  simp[hn,hc]
 unfold sliceF
 simp only[hx,hlo,oget,Option.map_some,nbeq,beq_self_eq_true,hb]
 unfold dropP
 by_cases e:cap=n
 ·simp[e]
 ·have:(cap==n)=false:=by simp;exact e
  simp[this,e,Ca,B9,Cb]
theorem PicksAt.drop {H:Heap} {pp:Option Ptr} {P:List Int} {X:Bk→Prop} (h:PicksAt H pp P X) {pc:Nat} (hc:P.length≤pc) (n:Nat):PicksAt H (dropP pp pc n) (P.drop n) X:=⟨fun e=>by
 have hn:n < P.length:=by
  by_cases hn:n < P.length
  ·exact hn
  ·exact absurd (List.drop_eq_nil_of_le (by omega)) e
 obtain⟨x,ox,ro,rows,rfl,ho,hx,hg,hr⟩:=h.has (fun e=>by rw[e] at hn;simp at hn)
 refine⟨x,ox+n,ro,rows,by unfold dropP;rw[if_neg (by omega)];rfl,ho,hx,hg,fun i hi=>?_⟩
 have hi':n+i < P.length:=by simp at hi;omega
 rw[Nat.add_assoc,hr (n+i) hi']
 simp⟩
theorem PicksAt.mono {H:Heap} {pp:Option Ptr} {P:List Int} {X Y:Bk→Prop} (h:PicksAt H pp P X) (hY:∀ c,Y c→X c):PicksAt H pp P Y:=⟨fun e=>by
 obtain⟨x,ox,ro,rows,h1,ho,hx,hg,hr⟩:=h.has e
 exact⟨x,ox,ro,rows,h1,ho,fun hc=>hx (hY _ hc),hg,hr⟩⟩
theorem PicksAt.rnext {r:Bool} {H H':Heap} {b ds:Bk} {so:Nat} {l l':List Dv} {B':Bn} {pp:Option Ptr} {P:List Int} (h:PicksAt H pp P (BFoot b ds l)) (k:RNext r H b ds so l H' l' B'):PicksAt H' pp P (BFoot b ds l'):=⟨fun e=>by
 obtain⟨x,ox,ro,rows,h1,ho,hx,hg,hr⟩:=h.has e
 refine⟨x,ox,ro,rows,h1,ho.mono k.turns.next,fun hc=>?_,(k.turns.same _ ho hx).trans hg,hr⟩
 rcases k.foot _ hc with hc | hc
 ·exact hx hc
 ·exact hc ho⟩
theorem RNext.trans {r:Bool} {H H1 H2:Heap} {b ds:Bk} {so:Nat} {l l1 l2:List Dv} {B1 B2:Bn} (h:RNext r H b ds so l H1 l1 B1) (k:RNext r H1 b ds so l1 H2 l2 B2):RNext r H b ds so l H2 l2 B2:=
 ⟨k.rep,Turns.after h.turns k.turns (fun c hc hx=>(h.foot c hx).elim id (fun e=>absurd hc e)),fun c hc=>by
  rcases k.foot c hc with hc | hc
  ·exact h.foot c hc
  ·exact .inr (fun o=>hc (o.mono h.turns.next))⟩
def noDev:Dev:=⟨[],[],false⟩
def pos (l:List Dev) (P:List Int):Nat→Nat
 | 0=>0
 | i+1=>pos l P i+min (l.getD i noDev).L.length (P.drop (pos l P i)).length
theorem pos_le (l:List Dev) (P:List Int):∀ i,pos l P i≤P.length
 | 0=>Nat.zero_le _
 | i+1=>by
  have:=pos_le l P i
  simp only[pos,List.length_drop]
  omega
def crashAt (l:List Dev) (P:List Int) (i:Nat):Dev:=(l.getD i noDev).crash (P.drop (pos l P i))
def crashTo (l:List Dev) (P:List Int) (i:Nat):List Dev:=(List.range l.length).map fun j=>if j < i then crashAt l P j else l.getD j noDev
theorem crashTo_length (l:List Dev) (P:List Int) (i:Nat):(crashTo l P i).length=l.length:=by simp[crashTo]
theorem crashTo_zero (l:List Dev) (P:List Int):crashTo l P 0=l:=by
 apply List.ext_getElem
 ·simp[crashTo]
 ·intro n h1 h2
  simp[crashTo,List.getD,h2]
theorem crashTo_get {l:List Dev} {P:List Int} {i j:Nat} (hj:j < l.length):(crashTo l P i)[j]'(by rw[crashTo_length];exact hj)=if j < i then crashAt l P j else l[j]:=by
 simp[crashTo,List.getD,hj]
theorem crashTo_succ {l:List Dev} {P:List Int} {i:Nat}:crashTo l P (i+1)=(crashTo l P i).set i (crashAt l P i):=by
 apply List.ext_getElem
 ·simp[crashTo]
 ·intro n h1 h2
  have hn:n < l.length:=by simpa [crashTo] using h1
  rw[crashTo_get hn,List.getElem_set]
  by_cases e:i=n
  ·subst e;simp
  ·rw[if_neg e,crashTo_get hn]
   by_cases h:n < i
   ·rw[if_pos (by omega),if_pos h]
   ·rw[if_neg (by omega),if_neg h]
theorem crashTo_all (l:List Dev) (P:List Int):crashTo l P l.length=(List.range l.length).map (crashAt l P):=by
 unfold crashTo
 apply List.map_congr_left
 intro j hj
 rw[if_pos (List.mem_range.1 hj)]
def Bn.crash (B:Bn) (P:List Int):Bn:=⟨crashTo B.l P B.l.length,B.st,0,false⟩
theorem Bok.crash {k:Nat} {B:Bn} (h:Bok k B) (P:List Int):Bok (k+1) (B.crash P):=by
 refine⟨fun D hD=>?_,⟨by show (0:Int)≤0;decide,by show (0:Int)≤_;decide⟩,h.mono.st⟩
 have hD:D ∈ crashTo B.l P B.l.length:=hD
 rw[crashTo_all] at hD
 obtain⟨j,hj,rfl⟩:=List.mem_map.1 hD
 have hj:=List.mem_range.1 hj
 obtain⟨n,hn,w⟩:=h.wf _ (List.getElem_mem hj)
 refine⟨n,hn,?_⟩
 unfold crashAt
 rw[List.getD_eq_getElem?_getD,List.getElem?_eq_getElem hj]
 exact w.crash _
theorem bcrash_all {H:Heap} {b ds:Bk} {so:Nat} {l:List Dv} {B:Bn} (h:BRep H b ds so l B) (hl:l≠[]) (hg:∀ D ∈ B.l,Good D) {pp:Option Ptr} {P:List Int} {pc:Nat} (hP:PicksAt H pp P (BFoot b ds l)) (hpc:P.length≤pc) {lf:Nat} (hlf:1000 < lf) (hlen:l.length≤17) (m:Nat) :
  ret (callS Tryd.prog S0 lf (m+3) 21 [.ptr (some ⟨b,0⟩),.slice pp P.length pc 0] H) fun v H'=>v=.int .i64 0∧∃ l',BNext H b ds so l H' l' (B.crash P):=by
 have en:=bnone h.at' hl lf (m+1)
 change callS Tryd.prog S0 lf (m+2) 45 _ _=_ at en
 have l0:=bload0 h.at'
 have hLl:=h.len
 generalize hN:l.length=N at *
 have hloop:∀ t:T,t.getP (Tr.path 0)=some (.ptr (some ⟨b,0⟩))→t.getP (Tr.path 1)=some (.slice pp P.length pc 0)→t.getP (Tr.path 14)=some (.slice (some ⟨ds,0⟩) N N so)→t.getP (Tr.path 15)=some (.int .i64 (N:Int))→t.getP (Tr.path 16)=some (.int .i64 0) →
   wp (loopF (runC (callS Tryd.prog S0 lf (m+2)) lf c21_l0) lf ⟨t,H,[]⟩) fun x s=>
    x=.ex 0∧s.d=[]∧s.t.getP (Tr.path 0)=some (.ptr (some ⟨b,0⟩))∧∃ l',BNext H b ds so l s.H l' ⟨crashTo B.l P N,B.st,B.ar,B.dk⟩:=by
  intro t q0 q1 q14 q15 q16
  refine wp_loopF (fun r s=>∃ i l' p,i+r=N∧s.d=[]∧s.t.getP (Tr.path 0)=some (.ptr (some ⟨b,0⟩))∧s.t.getP (Tr.path 1)=some (.slice p (P.length - pos B.l P i) (pc - pos B.l P i) 0)∧PicksAt H p (P.drop (pos B.l P i)) (BFoot b ds l)∧s.t.getP (Tr.path 14)=some (.slice (some ⟨ds,0⟩) N N so)∧s.t.getP (Tr.path 15)=some (.int .i64 (N:Int))∧s.t.getP (Tr.path 16)=some (.int .i64 ((i:Nat):Int))∧BNext H b ds so l s.H l' ⟨crashTo B.l P i,B.st,B.ar,B.dk⟩) ?_ lf N _ ⟨0,l,pp,by omega,rfl,q0,q1,hP,q14,q15,q16,?_⟩ (by omega)
  ·rintro r ⟨t,HH,d⟩ ⟨i,l',p,hi,rfl,q0,q1,hPi,q14,q15,q16,hK⟩
   dsimp only at q0 q1 q14 q15 q16 hK
   cases r with
   | zero=>
    have hi:i=N:=by omega
    subst hi
    have hg:¬ (i < i):=Nat.lt_irrefl _
    simp only[c21_l0,q0,q1,q14,q15,q16,hg,sy,tup,↓reduceIte,zA,zG,zC,zD,zF,zE,zB,zH,reduceCtorEq]
    exact⟨trivial,trivial,trivial,l',hK⟩
   | succ r=>
    have hiN:i < N:=by omega
    have hi1:i+1≤N:=hiN
    have hlen':l'.length=N:=by rw[hK.rep.len];show (crashTo _ _ _).length=N;rw[crashTo_length];exact hLl.symm
    have hil:i < l'.length:=by omega
    have hiB:i < B.l.length:=by omega
    have lp:=bloadP hK.rep.at' hil
    have eD:l'[i].D=B.l[i]:=by
     have e1:(l'.map Dv.D)[i]'(by simpa using hil)=(crashTo B.l P i)[i]'(by rw[crashTo_length];exact hiB):=by
      congr 1
      exact hK.rep.map
     rw[crashTo_get hiB,if_neg (Nat.lt_irrefl _)] at e1
     simpa using e1
    have g:Good l'[i].D:=by rw[eD];exact hg _ (List.getElem_mem hiB)
    have hw:IntKind.i64.wrap ((i:Int)+1)=(i:Int)+1:=wrap_i64 (by omega)
    have hP':=(hPi.rnext hK).mono (Y:=Foot l'[i].b l'[i].y l'[i].D) (fun c hc=>.inr (.inr ⟨_,List.getElem_mem hil,hc⟩))
    have hpl:=pos_le B.l P i
    obtain⟨v,H2,e2,rfl,hN2⟩:=crash_ok (hK.rep.at'.dev i hil) g.ne g.ok (by have:=g.le;omega) (pc:=pc - pos B.l P i) (po:=0) hP' (lf:=lf) (by have:=g.le;omega) m
    rw[List.length_drop] at e2
    have hK2:=hK.trans (hK.rep.dev hil hN2)
    have hpos:pos B.l P (i+1)=pos B.l P i+min l'[i].D.L.length (P.length - pos B.l P i):=by
     rw[eD];simp only[pos,List.length_drop,List.getD,hiB,List.getElem?_eq_getElem,Option.getD_some]
    have hset:(⟨crashTo B.l P i,B.st,B.ar,B.dk⟩:Bn).setd (i:Int) (l'[i].D.crash (P.drop (pos B.l P i)))=⟨crashTo B.l P (i+1),B.st,B.ar,B.dk⟩:=by
     unfold Bn.setd
     rw[crashTo_succ,Int.toNat_natCast,eD]
     simp[crashAt,List.getD,hiB]
    have hK3:∃ l3,BNext H b ds so l H2 l3 ⟨crashTo B.l P (i+1),B.st,B.ar,B.dk⟩:=⟨_,by rw[← hset];exact hK2⟩
    obtain⟨l3,hK3⟩:=hK3
    have hmle:min l'[i].D.L.length (P.length - pos B.l P i)≤P.length - pos B.l P i:=Nat.min_le_right _ _
    generalize hmm:min l'[i].D.L.length (P.length - pos B.l P i)=mm at e2 hpos hmle
    have hsl:∀(x lo:S) (t:T),x.get t=some (.slice p (P.length - pos B.l P i) (pc - pos B.l P i) 0)→lo.get t=some (.int .i64 (mm:Int))→sliceF 1 x (some lo) none none t=some (.slice (dropP p (pc - pos B.l P i) mm) (P.length - pos B.l P i - mm) (pc - pos B.l P i - mm) 0):=fun x lo t h1 h2=>sliceF_lo h1 h2 hmle (by omega)
    simp only[c21_l0,↓hsl,q0,q1,q14,q15,q16,hiN,hi1,lp,e2,Nat.mul_one,sy,tup,↓reduceIte,zA,zG,zC,zD,zF,zE,zB,zH,reduceCtorEq]
    simp only[q0,q1,q14,q15,q16,hw,sy,tup,↓reduceIte,zA,zG,zC,zD,zF,zE,zB,zH,reduceCtorEq]
    have a1:P.length - pos B.l P i - mm=P.length - (pos B.l P i+mm):=by omega
    have a2:pc - pos B.l P i - mm=pc - (pos B.l P i+mm):=by omega
    refine⟨r,Nat.lt_succ_self r,i+1,l3,dropP p (pc - pos B.l P i) mm,by omega,trivial,trivial,by rw[hpos,a1,a2],?_,trivial,trivial,rfl,hK3⟩
    rw[hpos,← List.drop_drop]
    exact hPi.drop (by rw[List.length_drop];omega) mm
  ·rw[crashTo_zero];exact h.idle (Turns.refl Z H)
 refine ret_call rfl c21_eq ?_
 simp only[c21,en,l0,sy,tup,↓reduceIte,zA,zG,zC,zD,zF,zE,zB,zH,reduceCtorEq]
 refine wp_ctx (F:=fun r=>seqC _ _ _ (blockC _ r)) (hloop _ ?_ ?_ ?_ ?_ ?_) ?_
 ·simp only[sy,tup,↓reduceIte,zA,zG,zC,zD,zF,zE,zB,zH,reduceCtorEq]
 ·simp only[sy,tup,↓reduceIte,zA,zG,zC,zD,zF,zE,zB,zH,reduceCtorEq]
 ·simp only[sy,tup,↓reduceIte,zA,zG,zC,zD,zF,zE,zB,zH,reduceCtorEq]
 ·simp only[sy,tup,↓reduceIte,zA,zG,zC,zD,zF,zE,zB,zH,reduceCtorEq]
 ·simp only[sy,tup,↓reduceIte,zA,zG,zC,zD,zF,zE,zB,zH,reduceCtorEq]
 rintro x ⟨t,HH,d⟩ ⟨rfl,rfl,q0,l',hK⟩
 dsimp only at q0 hK
 have s3:=bstore3 hK.rep.at' false
 have hm:=BenchAt.put hK.rep.at' B.st B.ar false
 have s2:=bstore2 hm 0
 have hm2:=BenchAt.put hm B.st 0 false
 simp only[q0,s3,s2,sy,tup,↓reduceIte,zA,zG,zC,zD,zF,zE,zB,zH,reduceCtorEq]
 refine⟨trivial,.inr trivial,_,rfl,rfl,l',⟨⟨hm2,?_⟩,(hK.turns.setm (.inl rfl) _).setm (.inl rfl) _,hK.foot⟩⟩
 rw[hK.rep.map]
 show crashTo B.l P N=crashTo B.l P B.l.length
 rw[hLl]
theorem DvsAt.turnsX {H H':Heap} {b ds:Bk} {so:Nat} {l:List Dv} {r1 r2 r3:V} (h:DvsAt H b ds so l r1 r2 r3) {X:Bk→Prop} (k:Turns X H H') (hX:∀ c,BFoot b ds l c→¬ X c):DvsAt H' b ds so l r1 r2 r3:=
 ⟨(k.same _ h.old.1 (hX _ (.inl rfl))).trans h.own,(k.same _ h.old.2 (hX _ (.inr (.inl rfl)))).trans h.ptrs,fun i hi=>(h.dev i hi).turns k (hX _ (.inr (.inr ⟨_,List.getElem_mem hi,.inl rfl⟩))) (hX _ (.inr (.inr ⟨_,List.getElem_mem hi,.inr (.inl rfl)⟩))) (fun hl=>hX _ (.inr (.inr ⟨_,List.getElem_mem hi,.inr (.inr ⟨hl,rfl⟩)⟩))),h.sep,⟨h.old.1.mono k.next,h.old.2.mono k.next⟩,h.ne,h.out⟩
theorem Rep.foot_old {r:Bool} {H:Heap} {b ds:Bk} {so:Nat} {l:List Dv} {B:Bn} (h:Rep r H b ds so l B):∀ c,BFoot b ds l c→H.Old c:=by
 rintro c (rfl | rfl | ⟨x,hx,hc⟩)
 ·exact h.row.old.1
 ·exact h.row.old.2
 ·obtain⟨i,hi,rfl⟩:=List.getElem_of_mem hx
  exact(h.row.dev i hi).foot_old _ hc
theorem Rep.turnsX {r:Bool} {H H':Heap} {b ds:Bk} {so:Nat} {l:List Dv} {B:Bn} (h:Rep r H b ds so l B) {X:Bk→Prop} (k:Turns X H H') (hX:∀ c,BFoot b ds l c→¬ X c):Rep r H' b ds so l B:=⟨h.row.turnsX k hX,h.map⟩
theorem Mine.turnsX {r:Bool} {H0 H H':Heap} {b ds:Bk} {so:Nat} {l:List Dv} {B:Bn} (h:Mine r H0 H b ds so l B) {X:Bk→Prop} (k:Turns X H H') (hX:∀ c,BFoot b ds l c→¬ X c) (h0:∀ c,X c→¬ H0.Old c):Mine r H0 H' b ds so l B:=
 ⟨h.rep.turnsX k hX,Turns.after h.t k (fun c hc hx=>absurd hc (h0 c hx)),h.new⟩
end Go.Proofs.YtabebpemfinejaaDoor.disk
namespace Go.Proofs.YtabebpemfinejaaDoor.disk
open Go.Am
end Go.Proofs.YtabebpemfinejaaDoor.disk
namespace Go.Proofs.YtabebpemfinejaaDoor.disk
open Go.Am
def seen (S:List Nat) (L:List (Nat × Nat)) (n i:Nat):Nat:=match look (L.take i) n with
 | some x=>x
 | none=>S.getD n 0
end Go.Proofs.YtabebpemfinejaaDoor.disk
namespace Go.Proofs.YtabebpemfinejaaDoor.disk
open Go.Am
section
variable {H:Heap} {b ds:Bk} {so:Nat} {l:List Dv} {B:Bn} (h:Rep true H b ds so l B)
include h
variable (hg:∀ D ∈ B.l,Good D)
include hg
end
end Go.Proofs.YtabebpemfinejaaDoor.disk
namespace Go.Proofs.YtabebpemfinejaaDoor.disk
open Go.Am
end Go.Proofs.YtabebpemfinejaaDoor.disk
namespace Go.Proofs.YtabebpemfinejaaDoor.draft
open Go.Am
def Z:Bk→Prop:=fun _=>False
noncomputable abbrev S0:CallT:=disk.S0
def inn (n lo hi:Int):Bool:=decide (lo≤n)&&decide (n≤hi)
def may (m s r:Int):Bool:=inn m 3 16&&(inn s 1 64&&inn r 40 256)
def blocks (m s r:Int):Int:=if may m s r=true then s*(m - 1) else 0
end Go.Proofs.YtabebpemfinejaaDoor.draft
namespace Go.Proofs.YtabebpemfinejaaDoor.draft
open Go.Am
def Thin (cs:List V):Prop:=∀ v ∈ cs,v.asBlk=none
theorem width_thin:∀ {cs:List V},Thin cs→width cs=cs.length
 | [],_=>rfl
 | c::cs,h=>by
  have h1:c.asBlk=none:=h c (List.mem_cons_self ..)
  unfold width V.w
  rw[h1,width_thin (fun v hv=>h v (List.mem_cons_of_mem _ hv))]
  show 1+cs.length=_
  rw[List.length_cons,Nat.add_comm]
def sts (S:List Nat):List V:=S.map fun x:Nat=>V.int .u8 (x:Int)
def rcells (m s r:Int) (S:List Nat) (c:Int) (g:Bool):List V:=[.int .i64 m,.int .i64 s,.int .i64 r]++(sts S++[.int .i64 c,.bool g])
theorem sts_len (S:List Nat):(sts S).length=S.length:=List.length_map ..
theorem sts_thin (S:List Nat):Thin (sts S):=fun v hv=>by
 obtain⟨x,_,rfl⟩:=List.mem_map.1 hv
 rfl
theorem r_thin (m s r:Int) (S:List Nat) (c:Int) (g:Bool):Thin (rcells m s r S c g):=by
 intro v hv
 unfold rcells at hv
 rcases List.mem_append.1 hv with h | h
 ·simp at h;rcases h with rfl | rfl | rfl<;>rfl
 ·rcases List.mem_append.1 h with h | h
  ·exact sts_thin S v h
  ·simp at h;rcases h with rfl | rfl<;>rfl
theorem r_len {S:List Nat} (hS:S.length=16) (m s r c:Int) (g:Bool):(rcells m s r S c g).length=21:=by
 unfold rcells
 simp[sts_len,hS]
structure RosAt (H:Heap) (b:Bk) (m s r:Int) (S:List Nat) (c:Int) (g:Bool):Prop where
 own:H.get b=some (.rows false 21 [rcells m s r S c g])
 len:S.length=16
section
variable {H:Heap} {b:Bk} {m s r:Int} {S:List Nat} {c:Int} {g:Bool} (h:RosAt H b m s r S c g)
include h
end
end Go.Proofs.YtabebpemfinejaaDoor.draft
namespace Go.Proofs.YtabebpemfinejaaDoor.draft
open Go.Am
def cnt (S:List Nat) (x:Nat):Nat:=(S.filter fun y=>decide (y=x)).length
end Go.Proofs.YtabebpemfinejaaDoor.draft
namespace Go.Proofs.YtabebpemfinejaaDoor.draft
open Go.Am
end Go.Proofs.YtabebpemfinejaaDoor.draft
namespace Go.Proofs.YtabebpemfinejaaDoor.draft
open Go.Am
end Go.Proofs.YtabebpemfinejaaDoor.draft
namespace Go.Proofs.YtabebpemfinejaaDoor.draft
open Go.Am
noncomputable def c78_l0:C:=.seq (.reg [
 qo 43 (.p (arF .lss (tt 42) (tt 41))) [pp 42,pp 41]]) (
 .seq (.cond (tt 43) (.skip) (.exit 1)) (
 .seq (.block 2 (.seq (.reg [
 mv 44 42,
 qo 45 (.p (iaddrSF (tt 40) (tt 42) 1)) [pp 40,pp 42],
 qo 46 (.r (loadF (tt 45) 1 .sc)) [pp 45],
 mv 9 44,
 mv 10 46]) (
 .reg [
 mv 47 8,
 mv 48 10,
 qo 49 (.p (convF .u64 (tt 48))) [pp 48],
 mv 50 9,
 qo 51 (.p (arF .mul (ii 8) (tt 50))) [pp 50],
 qo 52 (.p (arF .shl (tt 49) (tt 51))) [pp 49,pp 51],
 qo 53 (.p (arF .or (tt 47) (tt 52))) [pp 47,pp 52],
 mv 8 53]))) (
 .reg [
 qo 54 (.p (arF .add (tt 42) (ii 1))) [pp 42],
 mv 42 54])))
noncomputable def c78:CFn:=⟨[.tmp (pp 6),.tmp (pp 7)],
 .seq (.reg [
 qo 6 (.p (S.get (.c (.int .u64 0)))) [],
 qo 7 (.p (S.get (ii 0))) []]) (
 .seq (.block 0 (.seq (.reg [
 mv 12 2,
 qo 13 (.p (arF .lss (tt 12) (ii 1))) [pp 12],
 mv 14 13,
 mg 15 2 14 false,
 qg 16 (.p (arF .gtr (tt 15) (ii 8))) 14 false [pp 15],
 qo 17 (.p (pickF (tt 14) (.c (.bool true)) (tt 16))) [pp 14,pp 16],
 mv 18 17,
 mg 19 1 18 false,
 qg 20 (.p (arF .lss (tt 19) (ii 0))) 18 false [pp 19],
 qo 21 (.p (pickF (tt 18) (.c (.bool true)) (tt 20))) [pp 18,pp 20],
 mv 22 21,
 mg 23 1 22 false,
 mg 24 0 22 false,
 qg 25 (.p (lenF (tt 24))) 22 false [pp 24],
 qg 26 (.p (arF .gtr (tt 23) (tt 25))) 22 false [pp 23,pp 25],
 qo 27 (.p (pickF (tt 22) (.c (.bool true)) (tt 26))) [pp 22,pp 26],
 mv 11 27]) (
 .cond (tt 11) (.seq (.reg [
 qo 6 (.p (S.get (.c (.int .u64 0)))) [],
 qo 7 (.p (S.get (ii 2))) []]) (
 .ret)) (.seq (.reg [
 mv 29 2,
 mv 30 0,
 qo 31 (.p (lenF (tt 30))) [pp 30],
 mv 32 1,
 qo 33 (.p (arF .sub (tt 31) (tt 32))) [pp 31,pp 32],
 qo 34 (.p (arF .gtr (tt 29) (tt 33))) [pp 29,pp 33],
 mv 28 34]) (
 .cond (tt 28) (.seq (.reg [
 qo 6 (.p (S.get (.c (.int .u64 0)))) [],
 qo 7 (.p (S.get (ii 4))) []]) (
 .ret)) (.skip)))))) (
 .seq (.reg [
 qo 8 (.p (S.get (.c (.int .u64 0)))) []]) (
 .seq (.seq (.reg [
 mv 35 0,
 mv 36 1,
 mv 37 1,
 mv 38 2,
 qo 39 (.p (arF .add (tt 37) (tt 38))) [pp 37,pp 38],
 qo 40 (.p (sliceF 1 (tt 35) (some (tt 36)) (some (tt 39)) none)) [pp 35,pp 36,pp 39],
 qo 41 (.p (lenF (tt 40))) [pp 40],
 qo 42 (.p (S.get (ii 0))) []]) (
 .block 1 (.loop c78_l0))) (
 .seq (.reg [
 mv 55 8,
 mv 6 55,
 qo 7 (.p (S.get (ii 0))) []]) (
 .ret)))))⟩
theorem c78_eq:fnOf Tryd.prog 78=some c78:=by kernel_rfl
theorem wrap_u64 {n:Nat} (h:n < 18446744073709551616):IntKind.u64.wrap (n:Int)=n:=by
 show (if false&&decide ((n:Int) % (2 ^ 64:Int)≥(2 ^ (64 - 1):Int)) then(n:Int) % (2 ^ 64:Int) - (2 ^ 64:Int) else(n:Int) % (2 ^ 64:Int))=n
 rw[show (2 ^ 64:Int)=18446744073709551616 from rfl]
 simp only[Bool.false_and,Bool.false_eq_true,if_false]
 omega
theorem fits_u64 {n:Nat} (h:n < 18446744073709551616):fitsK .u64 n=true:=by
 show Nat.ble n 18446744073709551615=true
 rw[ble_iff];omega
theorem lor_lt {a b:Nat} (h:a < 18446744073709551616) (k:b < 18446744073709551616):a ||| b < 18446744073709551616:=Nat.or_lt_two_pow (n:=64) h k
theorem or_u64 {a b:Nat} (h:a < 18446744073709551616) (k:b < 18446744073709551616):arith .or (.int .u64 (a:Int)) (.int .u64 (b:Int))=some (.int .u64 ((a ||| b:Nat):Int)):=by
 have e:bitI Nat.lor (fun _ a b=>a ||| b) .u64 (a:Int) (b:Int)=((a ||| b:Nat):Int):=by
  show (match fitsK .u64 a&&fitsK .u64 b with | true=>Int.ofNat (Nat.lor a b) | false=>_)=_
  rw[fits_u64 h,fits_u64 k];rfl
 show (match decide (IntKind.u64=IntKind.u64) with | false=>none | true=>mkI .u64 (bitI Nat.lor (fun _ a b=>a ||| b) .u64 (a:Int) (b:Int)))=_
 rw[e,C4,wrap_u64 (lor_lt h k)];rfl
noncomputable def up (c i:Nat):Nat:=c*2 ^ (8*i)
theorem up_lt {c i:Nat} (hc:c < 256) (hi:i < 8):up c i < 18446744073709551616:=by
 unfold up
 have h1:2 ^ (8*i)≤2 ^ 56:=Nat.pow_le_pow_right (by decide) (by omega)
 have h2:c*2 ^ (8*i)≤255*2 ^ 56:=Nat.mul_le_mul (by omega) h1
 exact Nat.lt_of_le_of_lt h2 (by decide)
theorem shl_u64 {c i:Nat} (hc:c < 256) (hi:i < 8):arith .shl (.int .u64 (c:Int)) (.int .i64 ((8*i:Nat):Int))=some (.int .u64 ((up c i:Nat):Int)):=by
 have hm:min (8*i) 64=8*i:=by omega
 show mkI .u64 (mulI (c:Int) (.ofNat (Nat.pow 2 (min (8*i) 64))))=_
 rw[hm,C4]
 show some (V.int .u64 (IntKind.u64.wrap ((c*2 ^ (8*i):Nat):Int)))=_
 have:=up_lt hc hi
 unfold up at this
 rw[wrap_u64 this]
 rfl
noncomputable def leN (c:Nat→Nat):Nat→Nat
 | 0=>0
 | i+1=>leN c i ||| up (c i) i
theorem leN_lt {c:Nat→Nat}:∀ {n:Nat},n≤8→(∀ i,i < n→c i < 256)→leN c n < 18446744073709551616
 | 0,_,_=>by show 0 < _;decide
 | n+1,h,hc=>lor_lt (leN_lt (by omega) (fun i hi=>hc i (by omega))) (up_lt (hc n (by omega)) (by omega))
theorem bounds_ok {len cap a b:Nat} (h1:a≤b) (h2:b≤cap):bounds len cap (some (.int .i64 (a:Int))) (some (.int .i64 (b:Int))) none=some (a,b,cap):=by
 have b1:bound cap (.int .i64 (b:Int))=some b:=by
  show (match Nat.ble b cap with | true=>some b | false=>none)=_
  rw[ble_iff.2 (by omega)]
 have b2:bound b (.int .i64 (a:Int))=some a:=by
  show (match Nat.ble a b with | true=>some a | false=>none)=_
  rw[ble_iff.2 (by omega)]
 unfold bounds
 simp only[boundD,b1,b2]
theorem wrap_nat {n:Nat} (h:n < 9223372036854775808):IntKind.i64.wrap (n:Int)=n:=wrap_i64 (by omega)
end Go.Proofs.YtabebpemfinejaaDoor.draft
namespace Go.Proofs.YtabebpemfinejaaDoor.draft
open Go.Am
noncomputable def c85:CFn:=⟨[.tmp (pp 2)],
 .seq (.reg [
 qo 2 (.p (S.get (.c (.int .u32 0)))) []]) (
 .seq (.reg [
 mv 3 0,
 qo 4 (.c (callF (ff 62) [(.c (.int .u32 0)),(tt 3)])) [pp 3],
 mv 2 4]) (
 .ret))⟩
theorem c85_eq:fnOf Tryd.prog 85=some c85:=by kernel_rfl
noncomputable def c62_l0:C:=.seq (.reg [
 qo 13 (.p (arF .lss (tt 12) (tt 11))) [pp 12,pp 11]]) (
 .seq (.cond (tt 13) (.skip) (.exit 0)) (
 .seq (.block 1 (.seq (.reg [
 qo 14 (.p (iaddrSF (tt 10) (tt 12) 1)) [pp 10,pp 12],
 qo 15 (.r (loadF (tt 14) 1 .sc)) [pp 14],
 mv 7 15]) (
 .reg [
 mv 16 5,
 mv 17 7,
 qo 18 (.c (callF (ff 84) [(tt 16),(tt 17)])) [pp 16,pp 17],
 mv 5 18]))) (
 .reg [
 qo 19 (.p (arF .add (tt 12) (ii 1))) [pp 12],
 mv 12 19])))
noncomputable def c62:CFn:=⟨[.tmp (pp 4)],
 .seq (.reg [
 qo 4 (.p (S.get (.c (.int .u32 0)))) []]) (
 .seq (.reg [
 mv 8 0,
 qo 9 (.p (unF .xor (tt 8))) [pp 8],
 mv 5 9]) (
 .seq (.seq (.reg [
 mv 10 1,
 qo 11 (.p (lenF (tt 10))) [pp 10],
 qo 12 (.p (S.get (ii 0))) []]) (
 .block 0 (.loop c62_l0))) (
 .seq (.reg [
 mv 20 5,
 qo 21 (.p (unF .xor (tt 20))) [pp 20],
 mv 4 21]) (
 .ret))))⟩
theorem c62_eq:fnOf Tryd.prog 62=some c62:=by kernel_rfl
noncomputable def c90:CFn:=⟨[.tmp (pp 2)],
 .seq (.reg [
 qo 2 (.p (S.get (.c (.slice none 0 0 0)))) []]) (
 .seq (.seq (.reg [
 mv 3 0,
 qo 4 (.r (eqnF false .slice (tt 3) (.c (.slice none 0 0 0)))) [pp 3]]) (
 .cond (tt 4) (.seq (.reg [
 qo 2 (.p (S.get (.c (.slice none 0 0 0)))) []]) (
 .ret)) (.skip))) (
 .seq (.reg [
 qo 5 (.m (bsliceF 0 1 [.int .u8 0] [])) [],
 mv 6 0,
 qo 7 (.a (appF 1 1 (tt 5) (tt 6))) [pp 5,pp 6],
 mv 2 7]) (
 .ret)))⟩
theorem c90_eq:fnOf Tryd.prog 90=some c90:=by kernel_rfl
noncomputable def c77:CFn:=⟨[.tmp (pp 2),.tmp (pp 3),.tmp (pp 4)],
 .seq (.reg [
 qo 1 (.m (boxF 64 (tt 0))) [pp 0],
 qo 2 (.p (S.get (.c (.int .u64 0)))) [],
 qo 3 (.p (S.get (.c (.slice none 0 0 0)))) [],
 qo 4 (.p (S.get (ii 0))) []]) (
 .seq (.reg [
 qo 12 (.p (sliceAF 64 1 (tt 1) none none none)) [pp 1],
 qo 13 (.c (callF (ff 78) [(tt 12),(ii 0),(ii 8)])) [pp 12],
 mv 11 13,
 qo 14 (.p (extF (tt 11) 0)) [pp 11],
 qo 15 (.p (extF (tt 11) 1)) [pp 11],
 mv 5 14,
 mv 6 15]) (
 .seq (.reg [
 qo 17 (.p (sliceAF 64 1 (tt 1) none none none)) [pp 1],
 qo 18 (.c (callF (ff 78) [(tt 17),(ii 56),(ii 8)])) [pp 17],
 mv 16 18,
 qo 19 (.p (extF (tt 16) 0)) [pp 16],
 qo 20 (.p (extF (tt 16) 1)) [pp 16],
 mv 7 19,
 mv 8 20]) (
 .seq (.seq (.reg [
 mv 21 5,
 qo 22 (.p (eqcF false false [.int .u64] (tt 21) (.c (.int .u64 0)))) [pp 21],
 mv 23 22,
 mg 24 5 23 false,
 mg 25 7 23 false,
 qg 26 (.p (eqcF true false [.int .u64] (tt 24) (tt 25))) 23 false [pp 24,pp 25],
 qo 27 (.p (pickF (tt 23) (.c (.bool true)) (tt 26))) [pp 23,pp 26]]) (
 .cond (tt 27) (.seq (.reg [
 qo 2 (.p (S.get (.c (.int .u64 0)))) [],
 qo 3 (.p (S.get (.c (.slice none 0 0 0)))) [],
 qo 4 (.p (S.get (ii 5))) []]) (
 .ret)) (.skip))) (
 .seq (.seq (.reg [
 qo 29 (.p (sliceAF 64 1 (tt 1) none none none)) [pp 1],
 qo 30 (.c (callF (ff 78) [(tt 29),(ii 52),(ii 4)])) [pp 29],
 mv 28 30,
 qo 31 (.p (extF (tt 28) 0)) [pp 28],
 qo 32 (.p (extF (tt 28) 1)) [pp 28],
 mv 9 31,
 mv 10 32]) (
 .seq (.reg [
 qo 33 (.p (sliceAF 64 1 (tt 1) none (some (ii 52)) (some (ii 52)))) [pp 1],
 qo 34 (.c (callF (ff 85) [(tt 33)])) [pp 33],
 qo 35 (.p (convF .u64 (tt 34))) [pp 34],
 mv 36 9,
 qo 37 (.p (eqcF true false [.int .u64] (tt 35) (tt 36))) [pp 35,pp 36]]) (
 .cond (tt 37) (.seq (.reg [
 qo 2 (.p (S.get (.c (.int .u64 0)))) [],
 qo 3 (.p (S.get (.c (.slice none 0 0 0)))) [],
 qo 4 (.p (S.get (ii 6))) []]) (
 .ret)) (.skip)))) (
 .seq (.reg [
 mv 38 5,
 qo 39 (.p (sliceAF 64 1 (tt 1) (some (ii 8)) (some (ii 52)) (some (ii 52)))) [pp 1],
 qo 40 (.c (callF (ff 90) [(tt 39)])) [pp 39],
 mv 2 38,
 mv 3 40,
 qo 4 (.p (S.get (ii 0))) []]) (
 .ret))))))⟩
theorem c77_eq:fnOf Tryd.prog 77=some c77:=by kernel_rfl
theorem take_lt {r c:Nat} (hr:r < 4294967296) (hc:c < 256):crc.takeN r c < 4294967296:=crc.half_lt (crc.half_lt (crc.xor_lt hr (by omega)))
noncomputable def notN (r:Nat):Nat:=crc.xo 4294967295 r
theorem notN_lt {r:Nat} (hr:r < 4294967296):notN r < 4294967296:=crc.xor_lt (by decide) hr
noncomputable def crcN (c:Nat→Nat):Nat→Nat
 | 0=>4294967295
 | i+1=>crc.takeN (crcN c i) (c i)
theorem crcN_lt {c:Nat→Nat}:∀ {n:Nat},(∀ i,i < n→c i < 256)→crcN c n < 4294967296
 | 0,_=>by show 4294967295 < _;decide
 | n+1,hc=>take_lt (crcN_lt (fun i hi=>hc i (by omega))) (hc n (by omega))
theorem not_u32 {r:Nat} (hr:r < 4294967296):unary .xor (.int .u32 (r:Int))=some (.int .u32 ((notN r:Nat):Int)):=by
 have e:bitI Nat.xor (fun _ a b=>a ^^^ b) .u32 (4294967295:Int) (r:Int)=((notN r:Nat):Int):=by
  show (match fitsK .u32 4294967295&&fitsK .u32 r with | true=>Int.ofNat (Nat.xor 4294967295 r) | false=>_)=_
  rw[crc.fits_u32 hr];rfl
 show mkI .u32 (bitI Nat.xor (fun _ a b=>a ^^^ b) .u32 (4294967295:Int) (r:Int))=_
 rw[e,C4,crc.u32_wrap (notN_lt hr)]
theorem byte_lt (B i:Nat):byte B i < 256:=Nat.mod_lt _ (by decide)
theorem load_byte {H:Heap} {b:Bk} {ro:Bool} {B i:Nat} (h:H.get b=some (.rows ro 64 [[.blk B]])) (hi:i < 64):loadAt H ⟨b,i⟩ 1=some [.int .u8 (byte B i:Int)]:=by
 rw[loadAt_eq h (r:=[.blk B]) (by rw[Nat.div_eq_of_lt hi];rfl),Nat.mod_eq_of_lt hi]
 exact disk.cut_byte B i hi
def rowsB (c:Nat→Nat):Nat→Nat→List (List V)
 | 0,_=>[]
 | n+1,j=>[.int .u8 (c j:Int)]::rowsB c n (j+1)
theorem rowsB_get (c:Nat→Nat):∀ n j i,i < n→(rowsB c n j)[i]?=some [.int .u8 (c (j+i):Int)]
 | n+1,j,0,_=>rfl
 | n+1,j,i+1,h=>by
  have:=rowsB_get c n (j+1) i (by omega)
  rw[show j+1+i=j+(i+1) by omega] at this
  exact this
theorem elems_blk {H:Heap} {b:Bk} {B:Nat} (h:H.get b=some (.rows false 64 [[.blk B]])):∀(n j:Nat),j+n≤64→elems H b 1 n j=some (rowsB (byte B) n j)
 | 0,_,_=>rfl
 | n+1,j,hj=>by
  unfold elems
  rw[load_byte h (show j < 64 by omega)]
  simp only
  rw[show Nat.add j 1=j+1 from rfl,elems_blk h n (j+1) (by omega)]
  rfl
structure BodyAt (H:Heap) (k:Nat) (c:Nat→Nat) (n:Nat):Prop where
 own:H.get (.run k)=some (.rows false 1 (rowsB c n 0))
 old:k < H.next
theorem BodyAt.turns {H H':Heap} {k:Nat} {c:Nat→Nat} {n:Nat} (h:BodyAt H k c n) (t:Turns Z H H'):BodyAt H' k c n:=⟨(t.same (.run k) h.old id).trans h.own,Nat.lt_of_lt_of_le h.old t.next⟩
theorem BodyAt.load {H:Heap} {k:Nat} {c:Nat→Nat} {n i:Nat} (h:BodyAt H k c n) (hi:i < n):loadAt H ⟨.run k,i⟩ 1=some [.int .u8 (c i:Int)]:=by
 rw[loadAt_eq h.own (r:=[.int .u8 (c i:Int)]) (by rw[Nat.div_one,nth_eq,rowsB_get c n 0 i hi,Nat.zero_add]),Nat.mod_one]
 rfl
theorem rowsB_shift (c:Nat→Nat) (a:Nat):∀ n j,rowsB c n (a+j)=rowsB (fun i=>c (a+i)) n j
 | 0,_=>rfl
 | n+1,j=>by
  show _::_=_::_
  rw[show a+j+1=a+(j+1) by omega,rowsB_shift c a n (j+1)]
noncomputable def sealN (B:Nat):Nat:=leN (fun i=>byte B (0+i)) 8
noncomputable def sealE (B:Nat):Int:=
 if sealN B=0∨sealN B≠leN (fun i=>byte B (56+i)) 8 then 5
 else if notN (crcN (byte B) 52)≠leN (fun i=>byte B (52+i)) 4 then 6 else 0
end Go.Proofs.YtabebpemfinejaaDoor.draft
namespace Go.Proofs.YtabebpemfinejaaDoor.draft
open Go.Am
def scells (id me m s r:Int) (S:List Nat) (c:Int) (g:Bool):List V:=[.int .u64 id,.int .i64 me]++rcells m s r S c g
theorem s_thin (id me m s r:Int) (S:List Nat) (c:Int) (g:Bool):Thin (scells id me m s r S c g):=by
 intro v hv
 unfold scells at hv
 rcases List.mem_append.1 hv with h | h
 ·simp at h;rcases h with rfl | rfl<;>rfl
 ·exact r_thin m s r S c g v h
theorem s_len {S:List Nat} (hS:S.length=16) (id me m s r c:Int) (g:Bool):(scells id me m s r S c g).length=23:=by
 unfold scells
 rw[List.length_append,r_len hS]
 rfl
structure SupAt (H:Heap) (b:Bk) (id me m s r:Int) (S:List Nat) (c:Int) (g:Bool):Prop where
 own:H.get b=some (.rows false 23 [scells id me m s r S c g])
 len:S.length=16
section
variable {H:Heap} {b:Bk} {id me m s r:Int} {S:List Nat} {c:Int} {g:Bool} (h:SupAt H b id me m s r S c g)
include h
end
end Go.Proofs.YtabebpemfinejaaDoor.draft
namespace Go.Proofs.YtabebpemfinejaaDoor.draft
open Go.Am
noncomputable def c92_l0:C:=.seq (.reg [
 qo 9 (.p (arF .lss (tt 8) (tt 7))) [pp 8,pp 7]]) (
 .seq (.cond (tt 9) (.skip) (.exit 0)) (
 .seq (.block 1 (.seq (.reg [
 mv 10 8,
 mv 5 10]) (
 .seq (.reg [
 mv 11 1,
 mv 12 0,
 mv 13 5,
 qo 14 (.p (iaddrSF (tt 12) (tt 13) 1)) [pp 12,pp 13],
 qo 15 (.r (loadF (tt 14) 1 .sc)) [pp 14],
 qo 16 (.c (callF (tt 11) [(tt 15)])) [pp 11,pp 15]]) (
 .cond (tt 16) (.seq (.reg [
 mv 17 5,
 mv 4 17]) (
 .ret)) (.skip))))) (
 .reg [
 qo 18 (.p (arF .add (tt 8) (ii 1))) [pp 8],
 mv 8 18])))
noncomputable def c92:CFn:=⟨[.tmp (pp 4)],
 .seq (.reg [
 qo 4 (.p (S.get (ii 0))) []]) (
 .seq (.seq (.reg [
 mv 6 0,
 qo 7 (.p (lenF (tt 6))) [pp 6],
 qo 8 (.p (S.get (ii 0))) []]) (
 .block 0 (.loop c92_l0))) (
 .seq (.reg [
 qo 4 (.p (S.get (ii (-1)))) []]) (
 .ret)))⟩
theorem c92_eq:fnOf Tryd.prog 92=some c92:=by kernel_rfl
noncomputable def c88:CFn:=⟨[.tmp (pp 4)],
 .seq (.reg [
 qo 4 (.p (S.get (.c (.bool false)))) []]) (
 .seq (.reg [
 mv 5 0,
 mv 6 1,
 qo 7 (.c (callF (ff 92) [(tt 5),(tt 6)])) [pp 5,pp 6],
 qo 8 (.p (arF .geq (tt 7) (ii 0))) [pp 7],
 mv 4 8]) (
 .ret))⟩
theorem c88_eq:fnOf Tryd.prog 88=some c88:=by kernel_rfl
def rdr (k:Nat) (a:Nat):Am.Obj:=.rows false 2 [[.slice (some ⟨.run k,0⟩) 44 44 1,.int .i64 (a:Int)]]
def zeroTo (c:Nat→Nat) (n:Nat):Prop:=∀ i,i < n→c i=0
theorem wrap_u8 {n:Nat} (h:n < 256):IntKind.u8.wrap (n:Int)=n:=by
 show (if false&&decide ((n:Int) % (2 ^ 8:Int)≥(2 ^ (8 - 1):Int)) then(n:Int) % (2 ^ 8:Int) - (2 ^ 8:Int) else(n:Int) % (2 ^ 8:Int))=n
 rw[show (2 ^ 8:Int)=256 from rfl]
 simp only[Bool.false_and,Bool.false_eq_true,if_false]
 omega
theorem quo_i64 (a b:Nat) (hb:b≠0) (ha:a < 9223372036854775808):arith .quo (.int .i64 (a:Int)) (.int .i64 (b:Int))=some (.int .i64 ((a / b:Nat):Int)):=by
 have h0:eqI (b:Int) 0=false:=by
  rw[C0];simpa using hb
 show (match eqI (b:Int) 0 with | true=>none | false=>mkI .i64 (quoI (a:Int) (b:Int)))=_
 rw[h0]
 show mkI .i64 ((a / b:Nat):Int)=_
 rw[C4,wrap_nat (Nat.lt_of_le_of_lt (Nat.div_le_self _ _) ha)]
theorem rem_i64 (a b:Nat) (hb:b≠0):arith .rem (.int .i64 (a:Int)) (.int .i64 (b:Int))=some (.int .i64 ((a % b:Nat):Int)):=by
 have h0:eqI (b:Int) 0=false:=by
  rw[C0];simpa using hb
 show (match eqI (b:Int) 0 with | true=>none | false=>frc (remI (a:Int) (b:Int)) fun n=>some (V.int .i64 n))=_
 rw[h0]
 show frc (((a % b:Nat)):Int) _=_
 generalize a % b=z
 cases z<;>rfl
theorem rowsB_congr {f g:Nat→Nat}:∀ n j,(∀ i,j≤i→i < j+n→f i=g i)→rowsB f n j=rowsB g n j
 | 0,_,_=>rfl
 | n+1,j,h=>by
  show _::_=_::_
  rw[h j (by omega) (by omega),rowsB_congr n (j+1) (fun i h1 h2=>h i (by omega) (by omega))]
theorem rowsB_upd (f:Nat→Nat) (x:Nat):∀ n j i,i < n→upd [V.int .u8 (x:Int)] (rowsB f n j) i=rowsB (fun q=>if q=j+i then x else f q) n j
 | n+1,j,0,_=>by
  show _::_=_::_
  simp only[Nat.add_zero,if_true]
  rw[rowsB_congr (g:=fun q=>if q=j then x else f q) n (j+1) (fun i h1 h2=>by rw[if_neg (by omega)])]
 | n+1,j,i+1,h=>by
  show _::upd [V.int .u8 (x:Int)] (rowsB f n (j+1)) i=_::_
  rw[rowsB_upd f x n (j+1) i (by omega),show j+1+i=j+(i+1) by omega]
  have e:(fun q=>if q=j+(i+1) then x else f q) j=f j:=if_neg (by omega)
  rw[e]
theorem rowsB_rep:∀ n j,List.replicate n [V.int .u8 0]=rowsB (fun _=>0) n j
 | 0,_=>rfl
 | n+1,j=>by
  rw[List.replicate_succ,rowsB_rep n (j+1)]
  rfl
end Go.Proofs.YtabebpemfinejaaDoor.draft
namespace Go.Proofs.YtabebpemfinejaaDoor.draft
open Go.Am
def stl (f:Nat→Nat):Nat→Nat→List Nat
 | 0,_=>[]
 | n+1,j=>f j::stl f n (j+1)
theorem stl_len (f:Nat→Nat):∀ n j,(stl f n j).length=n
 | 0,_=>rfl
 | n+1,j=>by simp[stl,stl_len f n (j+1)]
open Classical in
def zrow:List V:=[.int .u64 0,.int .i64 0,.int .i64 0,.int .i64 0,.int .i64 0,.int .u8 0,.int .u8 0,.int .u8 0,.int .u8 0,.int .u8 0,.int .u8 0,.int .u8 0,.int .u8 0,.int .u8 0,.int .u8 0,.int .u8 0,.int .u8 0,.int .u8 0,.int .u8 0,.int .u8 0,.int .u8 0,.int .i64 0,.bool false]
structure GI (H0:Heap) (b8 b9 b3 kb:Nat) (c:Nat→Nat) (H:Heap) (a:Nat) (row:List V):Prop where
 rd:H.get (.run b8)=some (rdr kb a)
 sp:H.get (.run b9)=some (.rows false 23 [row])
 an:H.get (.run b3)=some (.rows false 23 [zrow])
 body:BodyAt H kb c 44
 t:Turns Z H0 H
 lo:H0.next≤b8∧H0.next≤b9∧H0.next≤b3
 hi:b8 < H.next∧b9 < H.next∧b3 < H.next
 ne:b8≠b9∧b8≠b3∧b9≠b3∧kb≠b8∧kb≠b9∧kb≠b3
theorem run_ne {a b:Nat} (h:a≠b):¬ (Bk.run a=Bk.run b):=fun e=>h (by cases e;rfl)
theorem GI.set9 {H0 H:Heap} {b8 b9 b3 kb a:Nat} {c:Nat→Nat} {row:List V} (g:GI H0 b8 b9 b3 kb c H a row) (row':List V):GI H0 b8 b9 b3 kb c (H.set (.run b9) (.rows false 23 [row'])) a row':=by
 obtain⟨n1,n2,n3,n4,n5,n6⟩:=g.ne
 refine⟨?_,by rw[Heap.get_set,if_pos rfl],?_,⟨?_,by simpa using g.body.old⟩,g.t.setnew g.lo.2.1 _,g.lo,by simpa using g.hi,g.ne⟩
 ·rw[Heap.get_set,if_neg (run_ne n1)];exact g.rd
 ·rw[Heap.get_set,if_neg (run_ne (Ne.symm n3))];exact g.an
 ·rw[Heap.get_set,if_neg (run_ne n5)];exact g.body.own
theorem GI.on {H0 H H':Heap} {b8 b9 b3 kb a:Nat} {c:Nat→Nat} {row:List V} (g:GI H0 b8 b9 b3 kb c H a row) (t:Turns Z H H'):GI H0 b8 b9 b3 kb c H' a row:=
 ⟨(t.same (.run b8) g.hi.1 id).trans g.rd,(t.same (.run b9) g.hi.2.1 id).trans g.sp,(t.same (.run b3) g.hi.2.2 id).trans g.an,g.body.turns t,g.t.trans t,g.lo,⟨Nat.lt_of_lt_of_le g.hi.1 t.next,Nat.lt_of_lt_of_le g.hi.2.1 t.next,Nat.lt_of_lt_of_le g.hi.2.2 t.next⟩,g.ne⟩
theorem GI.put {H0 H:Heap} {b8 b9 b3 kb a:Nat} {c:Nat→Nat} {row:List V} (g:GI H0 b8 b9 b3 kb c H a row) {o:Nat} {vs row':List V} (ho:o < 23) (hp:put row o vs=some row') :
  ∃ H',storeAt H ⟨.run b9,o⟩ vs=some H'∧GI H0 b8 b9 b3 kb c H' a row':=by
 refine⟨_,?_,g.set9 row'⟩
 have:=storeAt_eq g.sp (o:=o) (vs:=vs) (r:=row) (r':=row') (by rw[Nat.div_eq_of_lt ho];rfl) (by rw[Nat.mod_eq_of_lt ho];exact hp)
 rw[Nat.div_eq_of_lt ho] at this
 exact this
end Go.Proofs.YtabebpemfinejaaDoor.draft
namespace Go.Proofs.YtabebpemfinejaaDoor.draft
open Go.Am
theorem put_s {S:List Nat} (hS:S.length=16) (id me m s r c:Int) (g:Bool):put zrow 0 (scells id me m s r S c g)=some (scells id me m s r S c g):=by
 match S,hS with
 | [_,_,_,_,_,_,_,_,_,_,_,_,_,_,_,_],_=>rfl
theorem put_z:put zrow 0 zrow=some zrow:=rfl
end Go.Proofs.YtabebpemfinejaaDoor.draft
namespace Go.Proofs.YtabebpemfinejaaDoor.draft
open Go.Am
structure SRow (row:List V):Prop where
 len:row.length=23
 thin:Thin row
 put:Go.Am.put zrow 0 row=some row
theorem SRow.z:SRow zrow:=⟨rfl,s_thin 0 0 0 0 0 (List.replicate 16 0) 0 false,put_z⟩
theorem SRow.s {S:List Nat} (hS:S.length=16) (id me m s r c:Int) (g:Bool):SRow (scells id me m s r S c g):=⟨s_len hS _ _ _ _ _ _ _,s_thin _ _ _ _ _ _ _ _,put_s hS _ _ _ _ _ _ _⟩
theorem SRow.width {row:List V} (h:SRow row):width row=23:=by rw[width_thin h.thin,h.len]
theorem SRow.new {row:List V} (h:SRow row) (H:Heap):∃ H',storeAt (H.add (.rows false 23 [zrow])) ⟨.run H.next,0⟩ row=some H'∧H'.get (.run H.next)=some (.rows false 23 [row])∧Turns Z H H'∧H'.next=H.next+1:=by
 have hg:(H.add (.rows false 23 [zrow])).get (.run H.next)=some (.rows false 23 [zrow]):=by rw[Heap.get_add,if_pos rfl]
 exact⟨_,storeAt_eq hg (r:=zrow) (r':=row) rfl h.put,by rw[Heap.get_set,if_pos rfl];rfl,(Turns.add Z H _).setnew (Nat.le_refl _) _,by simp⟩
end Go.Proofs.YtabebpemfinejaaDoor.draft
namespace Go.Proofs.YtabebpemfinejaaDoor.draft
open Go.Am
structure GeoAt (H:Heap) (b:Bk) (m s r:Int):Prop where
 own:H.get b=some (.rows false 3 [[.int .i64 m,.int .i64 s,.int .i64 r]])
theorem GeoAt.m {H:Heap} {b:Bk} {m s r:Int} (h:GeoAt H b m s r):loadAt H ⟨b,0⟩ 1=some [.int .i64 m]:=by rw[loadAt_eq h.own rfl];rfl
theorem GeoAt.s {H:Heap} {b:Bk} {m s r:Int} (h:GeoAt H b m s r):loadAt H ⟨b,1⟩ 1=some [.int .i64 s]:=by rw[loadAt_eq h.own rfl];rfl
theorem GeoAt.r {H:Heap} {b:Bk} {m s r:Int} (h:GeoAt H b m s r):loadAt H ⟨b,2⟩ 1=some [.int .i64 r]:=by rw[loadAt_eq h.own rfl];rfl
end Go.Proofs.YtabebpemfinejaaDoor.draft
namespace Go.Proofs.YtabebpemfinejaaDoor.disk
open Go.Am
theorem bdevs {H:Heap} {b ds:Bk} {so:Nat} {l:List Dv} {B:Bn} (h:BRep H b ds so l B) (hl:l≠[]) (lf m:Nat):callS Tryd.prog S0 lf (m+2) 74 [.ptr (some ⟨b,0⟩)] H=some (.v (.int .i64 (l.length:Int)),H):=by
 have e1:=bnone h.at' hl lf m
 have l0:=bload0 h.at'
 obtain⟨v,H',e,rfl,rfl⟩:ret (callS Tryd.prog S0 lf (m+2) 74 [.ptr (some ⟨b,0⟩)] H) fun v H'=>v=.int .i64 (l.length:Int)∧H'=H:=by
  refine ret_call rfl c74_eq ?_
  simp only[c74,e1,l0,sy,tup,↓reduceIte,zA,zG,zC,zD,zF,zE,zB,zH,reduceCtorEq]
  exact⟨trivial,.inr trivial,_,rfl,rfl,trivial⟩
 exact e
end Go.Proofs.YtabebpemfinejaaDoor.disk
namespace Go.Proofs.YtabebpemfinejaaDoor.draft
open Go.Am
end Go.Proofs.YtabebpemfinejaaDoor.draft
