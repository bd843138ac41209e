import Derived.Test.YtabebpemfinejaaDoorG3
import Derived.Test.YtabebpemfinejaaDoorG0
set_option linter.unusedVariables false
set_option linter.unusedSectionVars false
set_option linter.unusedSimpArgs false
set_option maxRecDepth 10000
open Nat renaming reduceEqDiff → zA, reduceLeDiff → zB, reduceSub → zC, reduceMul → zD, reduceMod → zE, reduceDiv → zF, reduceAdd → zG
open Int renaming reduceBEq → zH
namespace Go.Proofs.YtabebpemfinejaaDoor.draft
open Go.Am
open disk (bx Fit A1 R1 Low Bn)
theorem blks_run {H:Heap} {w c z:Nat} {A:List Nat} (h:H.get (.run w)=some (.rows false 64 (rowsK A))):BlksAt H (.slice (some ⟨.run w,0⟩) A.length c z) A:=
 ⟨⟨_,_,_,rfl⟩,fun i hi=>⟨w,0,_,_,rfl,by rw[Nat.zero_add,ld_get,h];exact ldK hi⟩⟩
theorem elems3 {H:Heap} {w:Nat} {a b c:V} (h:H.get (.run w)=some (.rows false 1 [[a],[b],[c]])) (ha:cut [a] 0 1=some [a]) (hb:cut [b] 0 1=some [b]) (hc:cut [c] 0 1=some [c]):firstE H 1 (.slice (some ⟨.run w,0⟩) 3 3 0)=some [[a],[b],[c]]:=by
 have l0:loadAt H ⟨.run w,0⟩ 1=some [a]:=by rw[loadAt_eq h (r:=[a]) rfl];exact ha
 have l1:loadAt H ⟨.run w,Nat.add 0 1⟩ 1=some [b]:=by rw[loadAt_eq h (r:=[b]) rfl];exact hb
 have l2:loadAt H ⟨.run w,Nat.add (Nat.add 0 1) 1⟩ 1=some [c]:=by rw[loadAt_eq h (r:=[c]) rfl];exact hc
 simp only[firstE,elems,l0,l1,l2]
 rfl
section
variable {lf K:Nat} (hlf:1000 < lf)
include hlf
theorem ulappend {G:Heap} {l b:Bk} {id R cnt first tail head:Nat} {N:List Nt} {lv:V} (h:LogAt G l b id R cnt first tail head N lv) (bo:G.Old b) (lb:l≠b) {B:Bn} (hb:G.get b=some (bx false B)) (hR:Rm 40 B) {pp:Option Ptr} {cs:List Cl} {pc po:Nat} (hc:CellsAt G pp cs) (hcl:cs.length+1 < lf) (hmax:cs.length≤9223372036854775807) (hfirst:1≤first) (hf61:first+N.length < 4611686018427387904) (n:Nat) :
    ret (U lf K (n+6) 11 [.ptr (some ⟨l,0⟩),.slice pp cs.length pc po] G) fun v G'=>
      (∃ e:Int,e≠0∧v=.tuple [.int .u64 0,.int .i64 e]∧Turns Z G G'∧((pcode cs≠0∧e=pcode cs)∨(pcode cs=0∧roomN R tail head N cs=false∧e=10))) ∨
      (pcode cs=0∧roomN R tail head N cs=true∧G'.get b=some (bx false (doneB B (appT R head (recL cs) (ntOf first head N cs))))∧∃ e,e=doneC B (appT R head (recL cs) (ntOf first head N cs)) ∧
        ((e≠0∧v=.tuple [.int .u64 0,.int .i64 e]∧Turns (fun c=>c=b) G G') ∨
         (e=0∧v=.tuple [.int .u64 ((first+N.length:Nat):Int),.int .i64 0]∧Turns (LX b l lv) G G'∧∃ lv',LogAt G' l b id R cnt first tail (head+recS cs.length) (N++[ntOf first head N cs]) lv'∧∀ c,Bof lv' c→¬ G.Old c))):=by
  have e0:=ulnone hlf h (K:=K) (n+4)
  obtain⟨v1,H1,e1,t1,h1⟩:=ucput hlf (K:=K) hc hcl hmax (pc:=pc) (po:=po) (n+2)
  refine ret_callU rfl rfl c11_eq ?_
  rcases h1 with ⟨hp,rfl⟩ | ⟨hp,w,rfl,hw0,hw1,hw⟩
  · have hp':(pcode cs==0)=false:=beq_eq_false_iff_ne.2 hp
    generalize pcode cs=P at e1 hp hp' ⊢
    simp (maxDischargeDepth:=12) only[c11,e0,e1,hp',hv,ldO_one,stO_one,sy,tup,↓reduceIte,zA,zG,zC,zD,zF,zE,zB,zH,reduceCtorEq]
    exact⟨trivial,.inr trivial,_,rfl,.inl ⟨P,hp,rfl,t1,.inl ⟨hp,rfl⟩⟩⟩
  obtain⟨hg,G0,hN,hG0⟩:=h.ex
  have k3:cut (lcells b id R cnt first tail head lv) 3 1=some [.int .i64 (R:Int)]:=rfl
  have k6:cut (lcells b id R cnt first tail head lv) 6 1=some [.int .u64 (tail:Int)]:=rfl
  have k7:cut (lcells b id R cnt first tail head lv) 7 1=some [.int .u64 (head:Int)]:=rfl
  have hl32:cs.length≤32∧1≤cs.length∧cs.all mayC=true:=by
    unfold pcode at hp
    split at hp
    · cases hp
    · rename_i h1
      split at hp
      · cases hp
      · rename_i h2
        split at hp
        · cases hp
        · rename_i h3
          have:=List.length_pos_iff.2 h1
          exact⟨by omega,by omega,by simpa using h2⟩
  obtain⟨k,hk⟩:∃ k,k=recS cs.length:=⟨_,rfl⟩
  have hk34:1≤k∧k≤34:=by rw[hk];unfold recS;omega
  have hAl:(recL cs).length=k:=by rw[recL_len,hk]
  have hg1:=(t1.same l h.old (fun h=>h)).trans hg
  rw[← hk] at e1
  have e2:=urtake hlf (K:=K) H1 h.rg (k:=k) (by omega) (n+2)
  have e2n:roomN R tail head N cs=(roomR R tail head k&&decide (N.length < 8)):=by unfold roomN;rw[← hk]
  have hnl:=h.nl
  have hrl:=rowsT_len N
  obtain⟨lp,lc,lo,rfl⟩:=hN.val
  rw[hrl] at hg hg1 hN k3 k6 k7
  have k8:cut (lcells b id R cnt first tail head (.slice lp N.length lc lo)) 8 1=some [.slice lp N.length lc lo]:=rfl
  by_cases hroom:roomR R tail head k=true
  rotate_left
  · rw[Bool.not_eq_true] at hroom
    rw[hroom] at e2 e2n
    rw[if_neg (by decide)] at e2
    simp (maxDischargeDepth:=12) only[c11,e0,e1,hg1,k3,k6,k7,e2,hv,ldO_one,stO_one,sy,tup,↓reduceIte,zA,zG,zC,zD,zF,zE,zB,zH,reduceCtorEq]
    rw[endD_ok (by kernel_rfl) (by kernel_rfl)]
    simp (maxDischargeDepth:=12) only[hv,ldO_one,stO_one,sy,tup,↓reduceIte,zA,zG,zC,zD,zF,zE,zB,zH,reduceCtorEq]
    exact⟨trivial,.inr trivial,_,rfl,.inl ⟨10,by decide,rfl,t1,.inr ⟨hp,by rw[e2n];rfl,rfl⟩⟩⟩
  rw[hroom] at e2 e2n
  rw[if_pos rfl] at e2
  by_cases hN8:N.length < 8
  rotate_left
  · have hn8':(8:Int)≤(N.length:Int):=by omega
    simp (maxDischargeDepth:=12) only[c11,e0,e1,hg1,k3,k6,k7,k8,e2,hn8',hv,ldO_one,stO_one,sy,tup,↓reduceIte,zA,zG,zC,zD,zF,zE,zB,zH,reduceCtorEq]
    rw[endD_ok (by kernel_rfl) (by kernel_rfl)]
    simp (maxDischargeDepth:=12) only[hg1,k8,hn8',hv,ldO_one,stO_one,sy,tup,↓reduceIte,zA,zG,zC,zD,zF,zE,zB,zH,reduceCtorEq]
    exact⟨trivial,.inr trivial,_,rfl,.inl ⟨10,by decide,rfl,t1,.inr ⟨hp,by rw[e2n,decide_eq_false hN8];rfl,rfl⟩⟩⟩
  have hn8':¬ (8:Int)≤(N.length:Int):=by omega
  have hRb:=h.rb
  have hrg:=h.rg
  have hkR:k≤R - (head - tail)∧head+k≤4611686018427387904:=by
    unfold roomR at hroom
    simp only[Bool.and_eq_true,decide_eq_true_eq] at hroom
    have:=hrg.hm
    omega
  have h':LogAt H1 l b id R cnt first tail head N (.slice lp N.length lc lo):=⟨⟨hg1,G0,hN.turns t1 (fun _ _ h=>h),Nat.le_trans hG0 t1.next⟩,h.old.mono t1.next,h.rb,h.rg,h.fn,h.nl⟩
  obtain⟨v3,H2,e3,u,rfl,hu0,hu1,hu,t2⟩:=ulsectors hlf (K:=K) h' (p:=head) (k:=k) hkR.2 (by omega) (n+2)
  simp (maxDischargeDepth:=12) only[c11,e0,e1,hg1,k3,k6,k7,k8,e2,hv,ldO_one,stO_one,sy,tup,↓reduceIte,zA,zG,zC,zD,zF,zE,zB,zH,reduceCtorEq]
  rw[endD_ok (by kernel_rfl) (by kernel_rfl)]
  have hw2:=(t2.same (.run w) hw1 (fun h=>h)).trans hw
  have tG2:=t1.trans t2
  have hloop:=ulappend_steps hlf (K:=K) (G:=H2) (l:=l) (A:=recL cs) (w:=w) (u:=u) (R:=R) (p:=head) (by omega) hw2 (Nat.lt_of_lt_of_le hw1 t2.next) (by rw[hAl];exact hu) hu1 hRb (a1:=.slice pp cs.length pc po) (a8:=.int .u64 ((head+k:Nat):Int)) (n+4)
  rw[hAl] at hloop
  simp (maxDischargeDepth:=12) only[hg1,k7,k8,hn8',e3,hv,ldO_one,stO_one,sy,tup,↓reduceIte,zA,zG,zC,zD,zF,zE,zB,zH,reduceCtorEq]
  refine wp_ctx (F:=fun r=>seqC _ _ _ (blockC _ r)) (hloop _ ?_ ?_ ?_ ?_ ?_ ?_ ?_ ?_) ?_
  · simp only[sy,tup,↓reduceIte,zA,zG,zC,zD,zF,zE,zB,zH,reduceCtorEq]
  · simp only[sy,tup,↓reduceIte,zA,zG,zC,zD,zF,zE,zB,zH,reduceCtorEq]
  · simp only[sy,tup,↓reduceIte,zA,zG,zC,zD,zF,zE,zB,zH,reduceCtorEq]
  · simp only[sy,tup,↓reduceIte,zA,zG,zC,zD,zF,zE,zB,zH,reduceCtorEq]
  · simp only[sy,tup,↓reduceIte,zA,zG,zC,zD,zF,zE,zB,zH,reduceCtorEq]
  · simp only[sy,tup,↓reduceIte,zA,zG,zC,zD,zF,zE,zB,zH,reduceCtorEq]
  · simp only[sy,tup,↓reduceIte,zA,zG,zC,zD,zF,zE,zB,zH,reduceCtorEq]
  · simp only[sy,tup,↓reduceIte,zA,zG,zC,zD,zF,zE,zB,zH,reduceCtorEq]
  rintro x ⟨t,H3,d⟩ ⟨rfl,hd,q0,q1,q6,q8,t3,Vs,y,q9,hy,hVs,hst⟩
  dsimp only at hd q0 q1 q6 q8 t3 q9 hy hst
  subst hd
  have tG3:=tG2.trans t3
  have h3:LogAt H3 l b id R cnt first tail head N (.slice lp N.length lc lo):=⟨⟨(tG3.same l h.old (fun h=>h)).trans hg,G0,hN.turns tG3 (fun _ _ h=>h),Nat.le_trans hG0 tG3.next⟩,h.old.mono tG3.next,h.rb,h.rg,h.fn,h.nl⟩
  have hg3:=h3.ex.1
  have e4:=ulnext hlf h3 (K:=K) (n+4)
  have hw3:=(t3.same (.run w) (Nat.lt_of_lt_of_le hw1 t2.next) (fun h=>h)).trans hw2
  have hwo3:w < H3.next:=Nat.lt_of_lt_of_le (Nat.lt_of_lt_of_le hw1 t2.next) t3.next
  obtain⟨v5,H4,e5,rfl,t4⟩:=usum (K:=K) hlf (G:=H3) (v:=.slice (some ⟨.run w,0⟩) k k 0) (l:=recL cs) (fun H tH=>by
    have:=blks_run (c:=k) (z:=0) ((tH.same (.run w) hwo3 (fun h=>h)).trans hw3)
    rw[hAl] at this
    exact this) (by omega) (n+2)
  obtain⟨nt,hnt⟩:∃ nt,nt=ntOf first head N cs:=⟨_,rfl⟩
  obtain⟨sq,hsq⟩:∃ sq,sq=first+N.length:=⟨_,rfl⟩
  obtain⟨sm,hsm⟩:∃ sm,sm=sumB (recL cs):=⟨_,rfl⟩
  have hntv:ntV nt=[.int .u64 (sq:Int),.int .u64 (head:Int),.int .i64 (cs.length:Int),.int .u32 (sm:Int)]:=by rw[hnt,hsq,hsm];rfl
  rw[← hsq] at e4
  rw[← hsm] at e5
  have hg4:=(t4.same l h3.old (fun h=>h)).trans hg3
  have t5:Turns Z H4 ((H4.add (.rows false 4 [[.int .u64 0,.int .u64 0,.int .i64 0,.int .u32 0]])).set (.run H4.next) (.rows false 4 [[.int .u64 (sq:Int),.int .u64 (head:Int),.int .i64 (cs.length:Int),.int .u32 (sm:Int)]])):=by repeat (first | exact Turns.refl _ _ | apply Turns.skip | apply Turns.addm | apply Turns.setb | apply Turns.setl | apply Turns.setr | refine Turns.setn ?_ _ (by omega) _ | refine Turns.trans ?_ (tF _))
  have hn5:((H4.add (.rows false 4 [[.int .u64 0,.int .u64 0,.int .i64 0,.int .u32 0]])).set (.run H4.next) (.rows false 4 [[.int .u64 (sq:Int),.int .u64 (head:Int),.int .i64 (cs.length:Int),.int .u32 (sm:Int)]])).get (.run H4.next)=some (.rows false 4 [[.int .u64 (sq:Int),.int .u64 (head:Int),.int .i64 (cs.length:Int),.int .u32 (sm:Int)]]):=by rw[Heap.get_set,if_pos rfl]
  obtain⟨H5,hH5⟩:∃ H5,(H4.add (.rows false 4 [[.int .u64 0,.int .u64 0,.int .i64 0,.int .u32 0]])).set (.run H4.next) (.rows false 4 [[.int .u64 (sq:Int),.int .u64 (head:Int),.int .i64 (cs.length:Int),.int .u32 (sm:Int)]])=H5:=⟨_,rfl⟩
  have nn5:H5.next=H4.next+1:=by rw[← hH5];rfl
  rw[hH5] at t5 hn5
  have put4:put [V.int .u64 0,V.int .u64 0,V.int .i64 0,V.int .u32 0] 0 [.int .u64 (sq:Int),.int .u64 (head:Int),.int .i64 (cs.length:Int),.int .u32 (sm:Int)]=some [.int .u64 (sq:Int),.int .u64 (head:Int),.int .i64 (cs.length:Int),.int .u32 (sm:Int)]:=rfl
  have wid4:width [V.int .u64 (sq:Int),.int .u64 (head:Int),.int .i64 (cs.length:Int),.int .u32 (sm:Int)]=4:=rfl
  obtain⟨Q,hQ⟩:∃ Q:List (Option V × Option V),Q=[(loadF (.t (Tr.path 83)) 1 .sc (Tr.setP (Tr.path 83) (.ptr (some ⟨l,7⟩)) .e) H3,some (.int .u64 (head:Int))),(loadF (.t (Tr.path 83)) 1 .sc (Tr.setP (Tr.path 83) (.ptr (some ⟨l,7⟩)) .e) H3,some (.int .u64 (head:Int))),(loadF (.t (Tr.path 83)) 1 .sc (Tr.setP (Tr.path 83) (.ptr (some ⟨l,7⟩)) .e) H3,some (.int .u64 (head:Int))),(loadF (.t (Tr.path 83)) 1 .sc (Tr.setP (Tr.path 83) (.ptr (some ⟨l,7⟩)) .e) H4,some (.int .u64 (head:Int)))]:=⟨_,rfl⟩
  have hQ':∀ x ∈ Q,x.1=x.2:=by
    rw[hQ]
    intro x hx
    simp only[List.mem_cons,List.not_mem_nil,or_false] at hx
    rcases hx with rfl | rfl | rfl | rfl<;>simp (maxDischargeDepth:=12) only[hg3,hg4,k7,hv,ldO_one,stO_one,sy,tup,↓reduceIte,zA,zG,zC,zD,zF,zE,zB,zH,reduceCtorEq]
  simp (maxDischargeDepth:=12) only[q0,q1,q6,q8,q9,e4,hg3,k7,e5,put4,wid4,hH5,hv,ldO_one,stO_one,sy,tup,↓reduceIte,zA,zG,zC,zD,zF,zE,zB,zH,reduceCtorEq]
  rw[endD_q (q:=Q) (by kernel_rfl) (by rw[hQ];kernel_rfl)]
  have t5':=t5.owe hQ'
  have hn6:(H5.owe Q).get (.run H4.next)=some (.rows false 4 [[.int .u64 (sq:Int),.int .u64 (head:Int),.int .i64 (cs.length:Int),.int .u32 (sm:Int)]]):=by rw[get_owe];exact hn5
  obtain⟨H6,hH6⟩:∃ H6,H5.owe Q=H6:=⟨_,rfl⟩
  have nn6:H6.next=H4.next+1:=by rw[← hH6];exact nn5
  rw[hH6] at t5' hn6 ⊢
  have k04:cut [V.int .u64 (sq:Int),.int .u64 (head:Int),.int .i64 (cs.length:Int),.int .u32 (sm:Int)] 0 4=some [.int .u64 (sq:Int),.int .u64 (head:Int),.int .i64 (cs.length:Int),.int .u32 (sm:Int)]:=rfl
  have k01:cut [V.int .u64 (sq:Int),.int .u64 (head:Int),.int .i64 (cs.length:Int),.int .u32 (sm:Int)] 0 1=some [.int .u64 (sq:Int)]:=rfl
  have hntok:NtOk nt:=by
    rw[hnt]
    exact⟨⟨by show 1≤first+N.length;omega,by show first+N.length≤_;omega⟩,by show head≤_;omega,⟨hl32.2.1,hl32.1⟩,sumB_lt _⟩
  obtain⟨v7,H7,e7,rfl,t7⟩:=unote hlf H6 hntok (K:=K) n
  rw[hntv] at e7
  obtain⟨X,hX⟩:∃ X,X=noteB nt:=⟨_,rfl⟩
  rw[← hX] at e7
  have hn7:=(t7.same (.run H4.next) (by show _ < _;omega) (fun h=>h)).trans hn6
  have t8:Turns Z H7 ((H7.add (.rows false 64 [[.blk 0]])).set (.run H7.next) (.rows false 64 [[.blk X]])):=by repeat (first | exact Turns.refl _ _ | apply Turns.skip | apply Turns.addm | apply Turns.setb | apply Turns.setl | apply Turns.setr | refine Turns.setn ?_ _ (by omega) _ | refine Turns.trans ?_ (tF _))
  have hx8:((H7.add (.rows false 64 [[.blk 0]])).set (.run H7.next) (.rows false 64 [[.blk X]])).get (.run H7.next)=some (.rows false 64 [[.blk X]]):=by rw[Heap.get_set,if_pos rfl]
  obtain⟨H8,hH8⟩:∃ H8,(H7.add (.rows false 64 [[.blk 0]])).set (.run H7.next) (.rows false 64 [[.blk X]])=H8:=⟨_,rfl⟩
  have nn8:H8.next=H7.next+1:=by rw[← hH8];rfl
  rw[hH8] at t8 hx8
  have hn8:=(t8.same (.run H4.next) (by show _ < _;have:=t7.next;omega) (fun h=>h)).trans hn7
  have eS:=fun H=>unslot hlf (K:=K) H (q:=sq) (n+4)
  obtain⟨m,hm⟩:∃ m,m=2+sq % 8:=⟨_,rfl⟩
  have wm:IntKind.i64.wrap (2+((sq % 8:Nat):Int))=(m:Int):=by rw[Go.Am.wrap_i64 (by omega)];omega
  generalize hz8:sq % 8=z8 at eS wm hm
  obtain⟨v9,H9,e9,hs9,t9⟩:=ulput hlf (K:=K) H8 l m X (n+4)
  have hs9':=hs9
  obtain⟨b1,b2,b3,rfl,g1,g2,g3,l1,l2,l3,h1,h2,h3'⟩:=hs9'
  obtain⟨pv,hpv⟩:∃ pv:V,pv=.func (.func 60) [] [.ptr (some ⟨.run b1,0⟩),.ptr (some ⟨.run b2,0⟩),.ptr (some ⟨.run b3,0⟩)]:=⟨_,rfl⟩
  obtain⟨fv,hfv⟩:∃ fv:V,fv=.func (.func 35) [.ptr (some ⟨l,0⟩)] []:=⟨_,rfl⟩
  have t10:=Turns.add Z H9 (.rows false 1 [[fv],[pv],[fv]])
  have hx10:(H9.add (.rows false 1 [[fv],[pv],[fv]])).get (.run H9.next)=some (.rows false 1 [[fv],[pv],[fv]]):=by rw[Heap.get_add,if_pos rfl]
  obtain⟨H10,hH10⟩:∃ H10,H9.add (.rows false 1 [[fv],[pv],[fv]])=H10:=⟨_,rfl⟩
  rw[hH10] at t10 hx10
  have hfe:=elems3 hx10 (by rw[hfv];rfl) (by rw[hpv];rfl) (by rw[hfv];rfl)
  have t4_10:=((((t4.trans t5').trans t7).trans t8).trans t9).trans t10
  have t3_10:=t3.trans t4_10
  have hy10:=hy.turns t4_10 (fun _ _ h=>h)
  have hvl:(Vs.map fun v=>[v]).length=k:=by rw[List.length_map,hVs]
  obtain⟨H11,ea,hy11,t11,_⟩:=hy10.app (by':=8) (x:=.slice (some ⟨.run H9.next,0⟩) 3 3 0) t3_10.next hfe rfl (by simp) (by decide) (by rw[hvl];simp only[List.length_cons,List.length_nil];omega) (by rw[hvl];simp only[List.length_cons,List.length_nil];omega)
  rw[hvl] at ea hy11
  have hf:∀ v ∈ Vs,∃ f a k,v=V.func f a k:=fun v hv=>by
    obtain⟨j,hj,rfl⟩:=List.getElem_of_mem hv
    exact(hst j hj).func
  have t2_11:=lst_away hy10 t3_10 (Nat.le_refl _) t11
  have hst11:∀ j (h1:j < Vs.length),StepAt H2 H11 l Vs[j] (.wr ((head+j) % R+10) ((recL cs).getD j 0)):=fun j hj=>((hst j hj).turns t4_10 (fun _ _ _ h=>h)).away hy10 hf t11
  have hs11:StepAt H2 H11 l pv (.wr m X):=by
    have ht8:=((((t3.trans t4).trans t5').trans t7).trans t8).next
    have h0:StepAt H2 H9 l pv (.wr m X):=⟨b1,b2,b3,hpv,by omega,by omega,by omega,l1,l2,l3,h1,h2,h3'⟩
    exact(h0.turns t10 (fun _ _ _ h=>h)).away hy10 hf t11
  obtain⟨Q2,hQ2⟩:∃ Q:List (Option V × Option V),Q=[(loadF (.t (Tr.path 13)) 64 .bk (Tr.setP (Tr.path 13) (.ptr (some ⟨.run H7.next,0⟩)) .e) H8,some (.blk X)),(loadF (.t (Tr.path 13)) 64 .bk (Tr.setP (Tr.path 13) (.ptr (some ⟨.run H7.next,0⟩)) .e) H8,some (.blk X))]:=⟨_,rfl⟩
  have cfv:fv.cells=some [fv]:=by rw[hfv];rfl
  have cpv:pv.cells=some [pv]:=by rw[hpv];rfl
  have wfv:width [fv]=1:=by rw[hfv];rfl
  have wpv:width [pv]=1:=by rw[hpv];rfl
  simp (maxDischargeDepth:=12) only[hn6,k04,e7,hH8,hn8,k01,eS,wm,hx8,e9,q0,q9,rep3,upd_at1,upd_at2,← hpv,← hfv,cfv,cpv,wfv,wpv,hH10,ea,hv,ldO_one,stO_one,sy,tup,↓reduceIte,zA,zG,zC,zD,zF,zE,zB,zH,reduceCtorEq]
  rw[endD_q (q:=Q2) (by kernel_rfl) (by rw[hQ2];kernel_rfl)]
  have hQ2':∀ x ∈ Q2,x.1=x.2:=by
    rw[hQ2]
    intro x hx
    simp only[List.mem_cons,List.not_mem_nil,or_false] at hx
    rcases hx with rfl | rfl<;>simp (maxDischargeDepth:=12) only[hx8,hv,ldO_one,stO_one,sy,tup,↓reduceIte,zA,zG,zC,zD,zF,zE,zB,zH,reduceCtorEq]
  obtain⟨H12,hH12⟩:∃ H12,H11.owe Q2=H12:=⟨_,rfl⟩
  have t2_12:Turns Z H2 H12:=by rw[← hH12];exact t2_11.owe hQ2'
  have get12:∀ c,H12.get c=H11.get c:=fun c=>by rw[← hH12,get_owe]
  have next12:H12.next=H11.next:=by rw[← hH12];rfl
  rw[hH12]
  obtain⟨Ss,hSs⟩:∃ Ss,Ss=appT R head (recL cs) (ntOf first head N cs):=⟨_,rfl⟩
  have hSl:Ss.length=k+3:=by rw[hSs];unfold appT recT;rw[List.length_append,List.length_map,List.length_range,hAl];rfl
  have hVl:(Vs++[fv,pv,fv]).length=k+3:=by rw[List.length_append,hVs];rfl
  have tG12:=tG2.trans t2_12
  have hg12:=(tG12.same l h.old (fun h=>h)).trans hg
  have hb12:=(tG12.same b bo (fun h=>h)).trans hb
  obtain⟨j11,hj11,hj11g,hj11a,hj11b⟩:∃ j,j=H10.next∧H11.get (.run j)=some (.rows false 1 ((Vs++[fv,pv,fv]).map fun v=>[v]))∧H2.next≤j∧j < H11.next:=by
    rcases hy11 with ⟨e,_⟩ | ⟨j,_,e,hgj,ja,jb⟩
    · simp at e
    · have ej:H10.next=j:=Bk.run.inj (Ptr.mk.inj (Option.some.inj (V.slice.inj e).1)).1
      refine⟨j,ej.symm,?_,ja,jb⟩
      rw[hgj,List.map_append];rfl
  have hstep12:∀ i (h1:i < (Vs++[fv,pv,fv]).length) (h2:i < Ss.length),StepAt H2 H12 l (Vs++[fv,pv,fv])[i] Ss[i]:=by
    intro i h1 h2
    have conv:∀ {v:V} {s:Stp},StepAt H2 H11 l v s→StepAt H2 H12 l v s:=fun {v s} h=>by
      cases s with
      | fl=>exact h
      | wr n x=>
        obtain⟨a1,a2,a3,e,g1,g2,g3,l1,l2,l3,h1,h2,h3⟩:=h
        exact⟨a1,a2,a3,e,g1,g2,g3,by rw[next12];exact l1,by rw[next12];exact l2,by rw[next12];exact l3,by rw[get12];exact h1,by rw[get12];exact h2,by rw[get12];exact h3⟩
    apply conv
    have hSi:∀(h2:i < (recT R head (recL cs)++[Stp.fl,.wr (2+(ntOf first head N cs).seq % 8) (noteB (ntOf first head N cs)),.fl]).length),Ss[i]'(by rw[hSs];exact h2)=(recT R head (recL cs)++[Stp.fl,.wr (2+(ntOf first head N cs).seq % 8) (noteB (ntOf first head N cs)),.fl])[i]:=fun _=>by simp only[hSs];rfl
    have hrl:(recT R head (recL cs)).length=k:=by unfold recT;rw[List.length_map,List.length_range,hAl]
    rw[hSi (by rw[List.length_append,hrl];show i < k+3;omega)]
    by_cases e:i < k
    · rw[List.getElem_append_left (by omega),List.getElem_append_left (by omega)]
      have:(recT R head (recL cs))[i]'(by omega)=.wr ((head+i) % R+10) ((recL cs).getD i 0):=by unfold recT;rw[List.getElem_map,List.getElem_range]
      rw[this]
      exact hst11 i (by omega)
    · rw[List.getElem_append_right (by omega),List.getElem_append_right (by omega)]
      have:i=k∨i=k+1∨i=k+2:=by omega
      rcases this with rfl | rfl | rfl
      · simp only[hVs,hrl,Nat.sub_self,List.getElem_cons_zero]
        exact hfv
      · simp only[hVs,hrl,Nat.add_sub_cancel_left,List.getElem_cons_succ,List.getElem_cons_zero]
        rw[← hnt,← hX,show nt.seq=sq by rw[hnt,hsq];rfl,hz8,← hm]
        exact hs11
      · simp only[hVs,hrl,Nat.add_sub_cancel_left,List.getElem_cons_succ,List.getElem_cons_zero]
        exact hfv
  obtain⟨v13,H13,e13,rfl,hb13,t13⟩:=ulrun hlf (K:=K) (G:=H12) hg12 (G0:=H2) (b:=b) (w:=H10.next) (z:=1) (c:=k+3) (Vs:=Vs++[fv,pv,fv]) (Ss:=Ss) (by omega) (by omega) hstep12 (by rw[get12,← hj11];exact hj11g) ⟨by omega,by omega⟩ (h.old.mono tG12.next) lb (bo.mono tG2.next) hb12 (hR.mono (by omega)) (n+2)
  rw[hVl] at e13
  rw[← hSs]
  obtain⟨W,hW⟩:∃ W,W=doneC B Ss:=⟨_,rfl⟩
  rw[← hW] at e13 ⊢
  have lw:k+[[fv],[pv],[fv]].length=k+3:=rfl
  have hb13':=hb13
  by_cases hW0:W=0
  rotate_left
  · have hW':(W==0)=false:=beq_eq_false_iff_ne.2 hW0
    simp (maxDischargeDepth:=12) only[lw,e13,hW',q0,hv,ldO_one,stO_one,sy,tup,↓reduceIte,zA,zG,zC,zD,zF,zE,zB,zH,reduceCtorEq]
    exact⟨trivial,.inr trivial,_,rfl,.inr ⟨hp,by rw[e2n,decide_eq_true hN8];rfl,hb13,W,rfl,.inl ⟨hW0,rfl,(tG12.wide (fun c h=>h.elim)).trans t13⟩⟩⟩
  have hW':(W==0)=true:=by rw[hW0];rfl
  have hg13:=(t13.same l (h.old.mono tG12.next) lb).trans hg12
  have o4:H4.next < H8.next:=by have:=t7.next;omega
  have hn10:=((t9.trans t10).same (.run H4.next) (by show _ < _;exact o4) (fun h=>h)).trans hn8
  have o10:H4.next < H10.next:=Nat.lt_of_lt_of_le o4 (t9.trans t10).next
  have hn11:=(t11.same (.run H4.next) (by show _ < _;exact o10) (fun hB=>by
    obtain⟨_,_,_,_,hgB⟩:=hy10.bof hB
    rw[hn10] at hgB;cases hgB)).trans hn10
  have hn12:H12.get (.run H4.next)=_:=(get12 _).trans hn11
  have ob4:¬ (Bk.run H4.next=b):=fun e=>by rw[← e] at bo;exact absurd bo (Heap.not_old (Nat.le_trans tG3.next t4.next))
  have o12:H4.next < H12.next:=by rw[next12];exact Nat.lt_of_lt_of_le o10 t11.next
  have hn13:=(t13.same (.run H4.next) (by show _ < _;exact o12) ob4).trans hn12
  have hN13:Lst G0 H13 4 (rowsT N) (.slice lp N.length lc lo):=(hN.turns tG12 (fun _ _ h=>h)).turns t13 (fun c hc e=>by
    obtain⟨_,_,_,_,hgB⟩:=(hN.turns tG12 (fun _ _ h=>h)).bof hc
    rw[e,hb12] at hgB;cases hgB)
  have t14:=Turns.add Z H13 (.rows false 4 [[.int .u64 (sq:Int),.int .u64 (head:Int),.int .i64 (cs.length:Int),.int .u32 (sm:Int)]])
  have hx14:(H13.add (.rows false 4 [[.int .u64 (sq:Int),.int .u64 (head:Int),.int .i64 (cs.length:Int),.int .u32 (sm:Int)]])).get (.run H13.next)=some (.rows false 4 [[.int .u64 (sq:Int),.int .u64 (head:Int),.int .i64 (cs.length:Int),.int .u32 (sm:Int)]]):=by rw[Heap.get_add,if_pos rfl]
  obtain⟨H14,hH14⟩:∃ H14,H13.add (.rows false 4 [[.int .u64 (sq:Int),.int .u64 (head:Int),.int .i64 (cs.length:Int),.int .u32 (sm:Int)]])=H14:=⟨_,rfl⟩
  rw[hH14] at t14 hx14
  have hN14:=hN13.turns t14 (fun _ _ h=>h)
  have tn:G.next≤H14.next:=Nat.le_trans (Nat.le_trans tG12.next t13.next) t14.next
  obtain⟨H15,ea15,hN15,t15,nx15⟩:=hN14.app1 (by':=32) (Nat.le_trans hG0 tn) hx14 k04 (by decide) (by rw[hrl];omega) (by rw[hrl];omega)
  rw[hrl] at ea15 hN15
  have hg14:=(t14.same l (h.old.mono (Nat.le_trans tG12.next t13.next)) (fun h=>h)).trans hg13
  have lnB:¬ Bof (.slice lp N.length lc lo) l:=fun hB=>by
    obtain⟨_,_,_,_,hgB⟩:=hN14.bof hB
    rw[hg14] at hgB;cases hgB
  have hg15:=(t15.same l (h.old.mono tn) lnB).trans hg14
  have hn15:H14.get (.run H4.next)=_:=(t14.same (.run H4.next) (by show _ < _;exact Nat.lt_of_lt_of_le o12 t13.next) (fun h=>h)).trans hn13
  have p8:put (lcells b id R cnt first tail head (.slice lp N.length lc lo)) 8 [.slice (some ⟨.run H14.next,0⟩) (N.length+1) (N.length+1) 4]=some (lcells b id R cnt first tail head (.slice (some ⟨.run H14.next,0⟩) (N.length+1) (N.length+1) 4)):=rfl
  have p7:put (lcells b id R cnt first tail head (.slice (some ⟨.run H14.next,0⟩) (N.length+1) (N.length+1) 4)) 7 [.int .u64 ((head:Int)+(k:Int))]=some (lcells b id R cnt first tail (head+k) (.slice (some ⟨.run H14.next,0⟩) (N.length+1) (N.length+1) 4)):=rfl
  simp (maxDischargeDepth:=12) only[lw,e13,hW',q0,q8,hg13,k8,hn13,k04,hH14,ea15,hg15,p8,p7,hv,ldO_one,stO_one,sy,tup,↓reduceIte,zA,zG,zC,zD,zF,zE,zB,zH,reduceCtorEq]
  rw[endD_ok (by kernel_rfl) (by kernel_rfl)]
  have hn15':=(t15.same (.run H4.next) (by show _ < _;exact Nat.lt_of_lt_of_le (Nat.lt_of_lt_of_le o12 t13.next) t14.next) (fun hB=>by
    obtain⟨m',em,_,hlt,_⟩:=hN.bof hB
    have em:=Bk.run.inj em
    have:=tG3.next
    have:=t4.next
    omega)).trans hn15
  have lne:(Bk.run H4.next=l)=False:=by
    simp only[eq_iff_iff,iff_false]
    intro e
    have:=h.old
    rw[← e] at this
    exact absurd this (Heap.not_old (Nat.le_trans tG3.next t4.next))
  simp (maxDischargeDepth:=12) only[hn15',k01,lne,hv,ldO_one,stO_one,sy,tup,↓reduceIte,zA,zG,zC,zD,zF,zE,zB,zH,reduceCtorEq]
  have lnew:¬ (Bk.run H14.next=l):=fun e=>by
    have:=h.old
    rw[← e] at this
    exact absurd this (Heap.not_old tn)
  have lnb:¬ (b=l):=fun e=>lb e.symm
  have tf:Turns (LX b l (.slice lp (rowsT N).length lc lo)) G H15:=by
    refine(((tG12.wide (fun c h=>h.elim)).trans (t13.wide (fun c h=>.inl h))).trans (t14.wide (fun c h=>h.elim))).trans (t15.wide (fun c h=>.inr (.inr ?_)))
    rw[hrl];exact h
  refine⟨trivial,.inr trivial,_,rfl,.inr ⟨hp,by rw[e2n,decide_eq_true hN8];rfl,?_,W,rfl,.inr ⟨hW0,?_,?_,.slice (some ⟨.run H14.next,0⟩) (N.length+1) (N.length+1) 4,⟨⟨?_,G0,?_,?_⟩,?_,hRb,?_,?_,?_⟩,?_⟩⟩⟩
  · rw[if_neg lnb,if_neg lnb]
    have hb14:=(t14.same b (bo.mono (Nat.le_trans tG12.next t13.next)) (fun h=>h)).trans hb13
    refine(t15.same b (bo.mono tn) (fun hB=>?_)).trans hb14
    obtain⟨_,_,_,_,hgB⟩:=hN14.bof hB
    rw[hb14] at hgB;cases hgB
  · rw[hsq];rfl
  · exact(tf.put (.inl (.inr (.inl rfl))) _).put (.inl (.inr (.inl rfl))) _
  · rw[Heap.get_set,if_pos rfl,← hk]
  · have er:rowsT (N++[ntOf first head N cs])=rowsT N++[[.int .u64 (sq:Int),.int .u64 (head:Int),.int .i64 (cs.length:Int),.int .u32 (sm:Int)]]:=by
      unfold rowsT
      rw[List.map_append,hsq,hsm];rfl
    rw[er]
    have ts:∀(J:Heap) (o:Am.Obj),Lst G0 J 4 (rowsT N++[[.int .u64 (sq:Int),.int .u64 (head:Int),.int .i64 (cs.length:Int),.int .u32 (sm:Int)]]) (.slice (some ⟨.run H14.next,0⟩) (N.length+1) (N.length+1) 4)→Lst G0 (J.set l o) 4 (rowsT N++[[.int .u64 (sq:Int),.int .u64 (head:Int),.int .i64 (cs.length:Int),.int .u32 (sm:Int)]]) (.slice (some ⟨.run H14.next,0⟩) (N.length+1) (N.length+1) 4):=fun J o hJ=>hJ.turns (Turns.set (X:=fun c=>c=l) rfl J o) (fun c hc e=>by
      obtain⟨p,_,_,_,e1,e2⟩:=hc
      cases e1
      exact lnew (e2.symm.trans e))
    exact ts _ _ (ts _ _ hN15)
  · exact Nat.le_trans hG0 (Nat.le_trans tn t15.next)
  · exact h.old.mono (Nat.le_trans tn t15.next)
  · exact⟨hRb,by have:=hrg.th;omega,by rw[← hk];omega,by rw[← hk];have:=hrg.th;have:=hrg.le;omega⟩
  · rw[List.length_append];simp only[List.length_singleton];omega
  · rw[List.length_append];simp only[List.length_singleton];omega
  · rintro c ⟨p,_,_,_,e1,e2⟩ ho
    cases e1
    rw[e2] at ho
    exact absurd ho (Heap.not_old tn)
end
end Go.Proofs.YtabebpemfinejaaDoor.draft
namespace Go.Proofs.YtabebpemfinejaaDoor.draft
open Go.Am
open disk (bx Fit A1 R1 Low Bn)
noncomputable def c10:CFn:=⟨[.tmp (pp 4)],
 .seq (.reg [
 qo 4 (.p (S.get (ii 0))) []]) (
 .seq (.block 0 (.seq (.reg [
 mv 9 0,
 qo 10 (.c (callF (ff 25) [(tt 9)])) [pp 9],
 mv 8 10]) (
 .cond (tt 8) (.seq (.reg [
 qo 4 (.p (S.get (ii 1))) []]) (
 .ret)) (.seq (.reg [
 mv 12 1,
 mv 13 0,
 qo 14 (.p (nilcF (tt 13))) [pp 13],
 qo 15 (.p (faddrF (tt 14) 5)) [pp 14],
 qo 16 (.r (loadF (tt 15) 1 .sc)) [pp 15],
 qo 17 (.p (arF .lss (tt 12) (tt 16))) [pp 12,pp 16],
 mv 18 17,
 mg 19 1 18 false,
 mg 20 0 18 false,
 qg 21 (.c (callF (ff 27) [(tt 20)])) 18 false [pp 20],
 qg 22 (.p (arF .gtr (tt 19) (tt 21))) 18 false [pp 19,pp 21],
 qo 23 (.p (pickF (tt 18) (.c (.bool true)) (tt 22))) [pp 18,pp 22],
 mv 11 23]) (
 .cond (tt 11) (.seq (.reg [
 qo 4 (.p (S.get (ii 2))) []]) (
 .ret)) (.skip)))))) (
 .seq (.reg [
 mv 24 1,
 mv 25 0,
 qo 26 (.p (nilcF (tt 25))) [pp 25],
 qo 27 (.p (faddrF (tt 26) 5)) [pp 26],
 qo 28 (.r (loadF (tt 27) 1 .sc)) [pp 27],
 qo 29 (.p (arF .sub (tt 24) (tt 28))) [pp 24,pp 28],
 mv 5 29]) (
 .seq (.reg [
 mv 30 0,
 qo 31 (.p (nilcF (tt 30))) [pp 30],
 qo 32 (.p (faddrF (tt 31) 7)) [pp 31],
 qo 33 (.r (loadF (tt 32) 1 .sc)) [pp 32],
 mv 6 33]) (
 .seq (.seq (.reg [
 mv 34 5,
 mv 35 0,
 qo 36 (.p (nilcF (tt 35))) [pp 35],
 qo 37 (.p (faddrF (tt 36) 8)) [pp 36],
 qo 38 (.r (loadF (tt 37) 1 .sc)) [pp 37],
 qo 39 (.p (lenF (tt 38))) [pp 38],
 qo 40 (.p (convF .u64 (tt 39))) [pp 39],
 qo 41 (.p (arF .lss (tt 34) (tt 40))) [pp 34,pp 40]]) (
 .cond (tt 41) (.reg [
 mv 42 0,
 qo 43 (.p (nilcF (tt 42))) [pp 42],
 qo 44 (.p (faddrF (tt 43) 8)) [pp 43],
 qo 45 (.r (loadF (tt 44) 1 .sc)) [pp 44],
 mv 46 5,
 qo 47 (.p (iaddrSF (tt 45) (tt 46) 4)) [pp 45,pp 46],
 qo 48 (.p (faddrF (tt 47) 1)) [pp 47],
 qo 49 (.r (loadF (tt 48) 1 .sc)) [pp 48],
 mv 6 49]) (.skip))) (
 .seq (.seq (.reg [
 mv 50 0,
 mv 51 0,
 qo 52 (.p (nilcF (tt 51))) [pp 51],
 qo 53 (.p (faddrF (tt 52) 4)) [pp 52],
 qo 54 (.r (loadF (tt 53) 1 .sc)) [pp 53],
 qo 55 (.p (arF .add (tt 54) (.c (.int .u64 1)))) [pp 54],
 mv 56 1,
 mv 57 6,
 qo 58 (.c (callF (ff 28) [(tt 50),(tt 55),(tt 56),(tt 57)])) [pp 50,pp 55,pp 56,pp 57],
 mv 7 58]) (
 .seq (.reg [
 mv 59 7,
 qo 60 (.p (eqcF true false [.int .i64] (tt 59) (ii 0))) [pp 59]]) (
 .cond (tt 60) (.seq (.reg [
 mv 61 7,
 mv 4 61]) (
 .ret)) (.skip)))) (
 .seq (.regD [
 mv 62 0,
 mv 63 0,
 mv 64 0,
 mv 65 0,
 mv 66 0,
 qo 67 (.p (nilcF (tt 66))) [pp 66],
 qo 68 (.p (faddrF (tt 67) 4)) [pp 67],
 qo 69 (.r (loadF (tt 68) 1 .sc)) [pp 68],
 qo 70 (.p (arF .add (tt 69) (.c (.int .u64 1)))) [pp 69],
 mv 71 1,
 mv 72 6,
 mv 73 0,
 qo 74 (.p (nilcF (tt 73))) [pp 73],
 qo 75 (.p (faddrF (tt 74) 8)) [pp 74],
 qo 76 (.r (loadF (tt 75) 1 .sc)) [pp 75],
 mv 77 5,
 qo 78 (.p (sliceF 4 (tt 76) (some (tt 77)) none none)) [pp 76,pp 77],
 qo 79 (.a (appF 4 32 (.c (.slice none 0 0 0)) (tt 78))) [pp 78],
 qo 80 (.p (nilcF (tt 62))) [pp 62],
 qo 81 (.p (faddrF (tt 80) 4)) [pp 80],
 qn (.a (storeF (tt 81) (tt 70) 1)) [pp 81,pp 70],
 qo 82 (.p (nilcF (tt 63))) [pp 63],
 qo 83 (.p (faddrF (tt 82) 5)) [pp 82],
 qn (.a (storeF (tt 83) (tt 71) 1)) [pp 83,pp 71],
 qo 84 (.p (nilcF (tt 64))) [pp 64],
 qo 85 (.p (faddrF (tt 84) 6)) [pp 84],
 qn (.a (storeF (tt 85) (tt 72) 1)) [pp 85,pp 72],
 qo 86 (.p (nilcF (tt 65))) [pp 65],
 qo 87 (.p (faddrF (tt 86) 8)) [pp 86],
 qn (.a (storeF (tt 87) (tt 79) 1)) [pp 87,pp 79]] [0,0,0,0,0,16,48,112,240,0,0,0,2048,6144,14336,0,63488,129024,260593,522737,1047025,2096115,4193267,8387571,16777207,33554423,67108855,134217727,268435455,536870911]) (
 .seq (.reg [
 qo 4 (.p (S.get (ii 0))) []]) (
 .ret))))))))⟩
theorem c10_eq:fnOf Tryd.prog 10=some c10:=by kernel_rfl
theorem elems_rws {H:Heap} {b:Bk} {ro:Bool} {sz:Nat} (hz:sz≠0) {R:List (List V)} (hg:H.get b=some (.rows ro sz R)) (hc:∀ r ∈ R,cut r 0 sz=some r):∀(n o:Nat),o+n≤R.length→elems H b sz n (o*sz)=some ((R.drop o).take n)
 | 0,o,_=>by rw[List.take_zero];rfl
 | n+1,o,h=>by
  have ho:o < R.length:=by omega
  have l0:loadAt H ⟨b,o*sz⟩ sz=some R[o]:=by
   rw[loadAt_eq hg (r:=R[o]) (nth_of (by rw[Nat.mul_div_cancel _ (by omega),List.getElem?_eq_getElem ho])),Nat.mul_mod_left]
   exact hc _ (List.getElem_mem _)
  unfold elems
  rw[l0]
  simp only
  rw[show Nat.add (o*sz) sz=(o+1)*sz by show o*sz+sz=_;rw[Nat.succ_mul],elems_rws hz hg hc n (o+1) (by omega),List.drop_eq_getElem_cons ho,List.take_succ_cons]
  rfl
theorem rowsT_drop (N:List Nt) (g:Nat):rowsT (N.drop g)=(rowsT N).drop g:=by unfold rowsT;rw[List.map_drop]
theorem rowsT_get {N:List Nt} {i:Nat} (hi:i < N.length):(rowsT N)[i]?=some (ntV N[i]):=by unfold rowsT;rw[List.getElem?_map,List.getElem?_eq_getElem hi];rfl
theorem clear_live {G0 H:Heap} {N:List Nt} {lv:V} (hN:Lst G0 H 4 (rowsT N) lv) {g:Nat} (hg:g≤N.length) (hl:N.length≤8):∃ sv lv' H',(∀(x lo:S) (t:T),x.get t=some lv→lo.get t=some (.int .u64 (g:Int))→sliceF 4 x (some lo) none none t=some sv)∧appendV 4 32 H (.slice none 0 0 0) sv=some (lv',H')∧Lst H H' 4 (rowsT (N.drop g)) lv'∧Turns Z H H':=by
 have hrl:=rowsT_len N
 rcases hN with ⟨e0,rfl⟩ | ⟨m,hne,rfl,hget,_,_⟩
 ·have n0:N.length=0:=by rw[← hrl,e0];rfl
  have g0:g=0:=by omega
  subst g0
  refine⟨.slice none 0 0 0,.slice none 0 0 0,H,fun x lo t h1 h2=>?_,rfl,.inl ⟨e0,rfl⟩,Turns.refl _ _⟩
  unfold sliceF
  simp only[h1,h2,oget,Option.map_some]
  rfl
 ·rw[hrl]
  by_cases hlt:g < N.length
  ·have hb:bounds N.length N.length (some (.int .u64 (g:Int))) none none=some (g,N.length,N.length):=by
    simp only[bounds,boundD,bound,C5,nble]
    simp[hg]
   have hel:firstE H 4 (.slice (some ⟨.run m,g*4⟩) (N.length - g) (N.length - g) 4)=some (rowsT (N.drop g)):=by
    have:=elems_rws (by decide) hget (fun r hr=>by
     obtain⟨n,_,rfl⟩:=List.mem_map.1 hr
     rfl) (N.length - g) g (by rw[hrl];omega)
    show elems H (.run m) 4 (N.length - g) (g*4)=_
    rw[this,rowsT_drop,List.take_of_length_le (by rw[List.length_drop,hrl];omega)]
   have hdl:(rowsT (N.drop g)).length=N.length - g:=by rw[rowsT_len,List.length_drop]
   have hdn:rowsT (N.drop g)≠[]:=fun e=>by rw[e] at hdl;simp at hdl;omega
   obtain⟨H',ea,hL,ht,_⟩:=(Lst.nil H H 4).app (by':=32) (Nat.le_refl _) hel (by rw[hdl];rfl) hdn (by decide) (by rw[hdl];simp only[List.length_nil];omega) (by rw[hdl];simp only[List.length_nil];omega)
   refine⟨_,_,H',fun x lo t h1 h2=>?_,ea,hL,ht.wide (fun c ⟨_,_,_,_,e,_⟩=>by cases e)⟩
   unfold sliceF
   simp only[h1,h2,oget,Option.map_some,hb,nbeq,nble]
   simp[show g+1≤N.length by omega,Ca,B9,Cb]
  ·have ge:g=N.length:=by omega
   subst ge
   have hb:bounds N.length N.length (some (.int .u64 (N.length:Int))) none none=some (N.length,N.length,N.length):=by
    simp only[bounds,boundD,bound,C5,nble]
    simp
   refine⟨.slice none 0 0 1,.slice none 0 0 0,H,fun x lo t h1 h2=>?_,rfl,.inl ⟨by rw[List.drop_length];rfl,rfl⟩,Turns.refl _ _⟩
   unfold sliceF
   simp only[h1,h2,oget,Option.map_some,hb,nbeq,nble]
   rw[decide_eq_false (show ¬ N.length+1≤N.length by omega)]
   simp
section
variable {lf K:Nat} (hlf:1000 < lf)
include hlf
theorem ulclear {G:Heap} {l b:Bk} {id R cnt first tail head:Nat} {N:List Nt} {lv:V} (hgl:G.get (.run 0)=some (.rows true 4 (intsR [8,2,8,8]))) (h00:0 < G.next) (h:LogAt G l b id R cnt first tail head N lv) (hch:Chain first tail N head) (bo:G.Old b) (lb:l≠b) {B:Bn} (hb:G.get b=some (bx false B)) (hR:Rm 2 B) (hid:id≠0∧id < 18446744073709551616) (hR40:40≤R) (hcnt:cnt < 4611686018427387904) (hfirst:1≤first) {f:Nat} (hf:f < 18446744073709551616) (n:Nat) :
    ret (U lf K (n+7) 10 [.ptr (some ⟨l,0⟩),.int .u64 (f:Int)] G) fun v G'=>
      ((f < first∨first+N.length < f)∧v=.int .i64 2∧Turns Z G G') ∨
      ((first≤f∧f≤first+N.length)∧∃ p,p=posAt N head (f - first)∧G'.get b=some (bx false (doneB B [Stp.wr ((cnt+1) % 2) (markB (cnt+1) id R f p),Stp.fl]))∧∃ e,e=doneC B [Stp.wr ((cnt+1) % 2) (markB (cnt+1) id R f p),Stp.fl] ∧
        ((e≠0∧v=.int .i64 e∧Turns (fun c=>c=b) G G') ∨
         (e=0∧v=.int .i64 0∧Turns (LX b l lv) G G'∧∃ lv',LogAt G' l b id R (cnt+1) f p head (N.drop (f - first)) lv'∧∀ c,Bof lv' c→¬ G.Old c))):=by
  have e0:=ulnone hlf h (K:=K) (n+5)
  have eN:=ulnext hlf h (K:=K) (n+5)
  obtain⟨hg,G0,hN,hG0⟩:=h.ex
  have hfn:=h.fn
  have hnl:=h.nl
  have hrl:=rowsT_len N
  obtain⟨lp,lc,lo,rfl⟩:=hN.val
  rw[hrl] at hg hN
  have k4:cut (lcells b id R cnt first tail head (.slice lp N.length lc lo)) 4 1=some [.int .u64 (cnt:Int)]:=rfl
  have k5:cut (lcells b id R cnt first tail head (.slice lp N.length lc lo)) 5 1=some [.int .u64 (first:Int)]:=rfl
  have k7:cut (lcells b id R cnt first tail head (.slice lp N.length lc lo)) 7 1=some [.int .u64 (head:Int)]:=rfl
  have k8:cut (lcells b id R cnt first tail head (.slice lp N.length lc lo)) 8 1=some [.slice lp N.length lc lo]:=rfl
  obtain⟨nx,hnx⟩:∃ nx,nx=first+N.length:=⟨_,rfl⟩
  rw[← hnx] at eN
  refine ret_callU rfl rfl c10_eq ?_
  by_cases h1:f < first
  · simp (maxDischargeDepth:=12) only[c10,e0,hg,k5,h1,hv,ldO_one,stO_one,sy,tup,↓reduceIte,zA,zG,zC,zD,zF,zE,zB,zH,reduceCtorEq]
    exact⟨trivial,.inr trivial,_,rfl,.inl ⟨.inl trivial,rfl,Turns.refl _ _⟩⟩
  by_cases h2:nx < f
  · simp (maxDischargeDepth:=12) only[c10,e0,hg,k5,h1,h2,eN,hv,ldO_one,stO_one,sy,tup,↓reduceIte,zA,zG,zC,zD,zF,zE,zB,zH,reduceCtorEq]
    exact⟨trivial,.inr trivial,_,rfl,.inl ⟨.inr (by omega),rfl,Turns.refl _ _⟩⟩
  obtain⟨g,hgg⟩:∃ g,g=f - first:=⟨_,rfl⟩
  have w1:IntKind.u64.wrap ((f:Int) - (first:Int))=(g:Int):=by rw[Go.Am.wrap_u64 (by omega)];omega
  have w2:IntKind.u64.wrap (N.length:Int)=(N.length:Int):=Go.Am.wrap_u64 (by omega)
  obtain⟨cn,hcn⟩:∃ cn,cn=cnt+1:=⟨_,rfl⟩
  have w3:IntKind.u64.wrap ((cnt:Int)+1)=(cn:Int):=by rw[Go.Am.wrap_u64 (by omega)];omega
  obtain⟨hdc,hdp⟩:=hch.drop g (by omega)
  have hple:=hdc.le
  obtain⟨p,hp⟩:∃ p,p=posAt N head g:=⟨_,rfl⟩
  rw[← hp] at hdc hdp hple
  have hrg:=h.rg
  have hrgm:=hrg.hm
  have hRb:=h.rb
  obtain⟨v3,G3,e3,rfl,hb3,t3⟩:=ulmark hlf (K:=K) hgl h00 hg h.old bo lb hb hR (cn:=cn) (f:=f) (p:=p) (by omega) ⟨hid,⟨hR40,hRb.2⟩,⟨by omega,by omega⟩,by omega⟩ n
  have hg3:=(t3.same l h.old lb).trans hg
  have hN3:Lst G0 G3 4 (rowsT N) (.slice lp N.length lc lo):=hN.turns t3 (fun c hc e=>by
    obtain⟨_,_,_,_,hgB⟩:=hN.bof hc
    rw[e,hb] at hgB;cases hgB)
  obtain⟨sv,lv',G4,hsv,ea,hL4,t4⟩:=clear_live hN3 (g:=g) (by omega) hnl
  obtain⟨W,hW⟩:∃ W,W=doneC B [Stp.wr (cn % 2) (markB cn id R f p),Stp.fl]:=⟨_,rfl⟩
  rw[← hW] at e3
  have hg4:=(t4.same l (h.old.mono t3.next) (fun h=>h)).trans hg3
  rw[← hgg,← hcn,← hp]
  have hLv':lv'=.slice none 0 0 0∨∃ a b c,lv'=.slice (some ⟨.run a,0⟩) b c 4∧G3.next≤a:=by
    rcases hL4 with ⟨_,e⟩ | ⟨a,_,e,_,ha,_⟩
    · exact .inl e
    · exact .inr ⟨a,_,_,e,ha⟩
  have p4:put (lcells b id R cnt first tail head (.slice lp N.length lc lo)) 4 [.int .u64 (cn:Int)]=some (lcells b id R cn first tail head (.slice lp N.length lc lo)):=rfl
  have p5:put (lcells b id R cn first tail head (.slice lp N.length lc lo)) 5 [.int .u64 (f:Int)]=some (lcells b id R cn f tail head (.slice lp N.length lc lo)):=rfl
  have p6:put (lcells b id R cn f tail head (.slice lp N.length lc lo)) 6 [.int .u64 (p:Int)]=some (lcells b id R cn f p head (.slice lp N.length lc lo)):=rfl
  have p8:put (lcells b id R cn f p head (.slice lp N.length lc lo)) 8 [lv']=some (lcells b id R cn f p head lv'):=by
    rcases hLv' with rfl | ⟨_,_,_,rfl,_⟩<;>rfl
  obtain⟨Q,hQ⟩:∃ Q:List (Option V × Option V),Q=[(loadF (.t (Tr.path 68)) 1 .sc (Tr.setP (Tr.path 68) (.ptr (some ⟨l,4⟩)) .e) G3,some (.int .u64 (cnt:Int))),(loadF (.t (Tr.path 68)) 1 .sc (Tr.setP (Tr.path 68) (.ptr (some ⟨l,4⟩)) .e) G4,some (.int .u64 (cnt:Int)))]:=⟨_,rfl⟩
  have hQ':∀ x ∈ Q,x.1=x.2:=by
    rw[hQ]
    intro x hx
    simp only[List.mem_cons,List.not_mem_nil,or_false] at hx
    rcases hx with rfl | rfl<;>simp (maxDischargeDepth:=12) only[hg3,hg4,k4,hv,ldO_one,stO_one,sy,tup,↓reduceIte,zA,zG,zC,zD,zF,zE,zB,zH,reduceCtorEq]
  have clv:lv'.cells=some [lv']:=by rcases hLv' with rfl | ⟨_,_,_,rfl,_⟩<;>rfl
  have wlv:width [lv']=1:=by rcases hLv' with rfl | ⟨_,_,_,rfl,_⟩<;>rfl
  have lnb:¬ (b=l):=fun e=>lb e.symm
  obtain⟨GF,hGF⟩:∃ GF,GF=(((G4.set l (.rows false 9 [lcells b id R cn first tail head (.slice lp N.length lc lo)])).set l (.rows false 9 [lcells b id R cn f tail head (.slice lp N.length lc lo)])).set l (.rows false 9 [lcells b id R cn f p head (.slice lp N.length lc lo)])).set l (.rows false 9 [lcells b id R cn f p head lv']):=⟨_,rfl⟩
  have nF:GF.next=G4.next:=by rw[hGF];rfl
  have gF:∀ c,c≠l→GF.get c=G4.get c:=fun c hc=>by rw[hGF,Heap.get_set,if_neg hc,Heap.get_set,if_neg hc,Heap.get_set,if_neg hc,Heap.get_set,if_neg hc]
  have hbf:GF.get b=some (bx false (doneB B [Stp.wr (cn % 2) (markB cn id R f p),Stp.fl])):=(gF b lnb).trans ((t4.same b (bo.mono t3.next) (fun h=>h)).trans hb3)
  have t34:Turns (LX b l (.slice lp (rowsT N).length lc lo)) G G4:=(t3.wide (fun c h=>.inl h)).trans (t4.wide (fun c h=>h.elim))
  have tF:Turns (LX b l (.slice lp (rowsT N).length lc lo)) G GF:=by
    rw[hGF]
    exact(((t34.put (.inl (.inr (.inl rfl))) _).put (.inl (.inr (.inl rfl))) _).put (.inl (.inr (.inl rfl))) _).put (.inl (.inr (.inl rfl))) _
  have hLF:Lst G3 (GF.owe Q) 4 (rowsT (N.drop g)) lv':=by
    rcases hL4 with ⟨a,e⟩ | ⟨a,h1,e,h2,h3,h4⟩
    · exact .inl ⟨a,e⟩
    · refine .inr ⟨a,h1,e,?_,h3,by show a < GF.next;rw[nF];exact h4⟩
      rw[get_owe,gF _ (fun e2=>?_)]
      · exact h2
      · have:=h.old
        rw[← e2] at this
        exact absurd this (Heap.not_old (Nat.le_trans t3.next h3))
  have hLog:LogAt (GF.owe Q) l b id R cn f p head (N.drop g) lv':=by
    refine⟨⟨by rw[get_owe,hGF,Heap.get_set,if_pos rfl],G3,hLF,by show G3.next≤GF.next;rw[nF];exact t4.next⟩,?_,hRb,⟨hRb,hple,hrgm,by have:=hrg.le;omega⟩,by rw[List.length_drop];omega,by rw[List.length_drop];omega⟩
    exact(Heap.old_iff (H:=GF) (H':=GF.owe Q) rfl l).1 (h.old.mono tF.next)
  have hnew:∀ c,Bof lv' c→¬ G.Old c:=by
    intro c hc ho
    rcases hLv' with rfl | ⟨_,_,_,rfl,ha⟩
    · obtain⟨_,_,_,_,e,_⟩:=hc
      cases e
    · obtain⟨_,_,_,_,e,e2⟩:=hc
      cases e
      rw[e2] at ho
      exact absurd ho (Heap.not_old (Nat.le_trans t3.next ha))
  by_cases hlt:g < N.length
  · have hpe:p=N[g].pos:=by rw[hp,posAt_lt hlt]
    obtain⟨m,em,hld⟩:=hN.load (i:=g) (o:=1) (k:=1) (r:=ntV N[g]) (rowsT_get hlt) (by decide)
    rw[ld_get,show cut (ntV N[g]) 1 1=some [.int .u64 (N[g].pos:Int)] from rfl,← hpe] at hld
    have elp:lp=some ⟨.run m,0⟩:=(V.slice.inj em).1
    subst elp
    have hle:g+1≤N.length:=hlt
    simp (maxDischargeDepth:=12) only[c10,e0,hg,k5,h1,h2,eN,w1,k7,k8,w2,hlt,hle,hld,k4,w3,e3,Nat.mul_one,hv,ldO_one,stO_one,sy,tup,↓reduceIte,zA,zG,zC,zD,zF,zE,zB,zH,reduceCtorEq]
    by_cases hW0:W=0
    rotate_left
    · have hW':(W==0)=false:=beq_eq_false_iff_ne.2 hW0
      simp (maxDischargeDepth:=12) only[hW',hv,ldO_one,stO_one,sy,tup,↓reduceIte,zA,zG,zC,zD,zF,zE,zB,zH,reduceCtorEq]
      exact⟨trivial,.inr trivial,_,rfl,.inr ⟨⟨by omega,by omega⟩,p,rfl,hb3,W,hW,.inl ⟨hW0,rfl,t3⟩⟩⟩
    have hW':(W==0)=true:=by rw[hW0];rfl
    simp (maxDischargeDepth:=12) only[hW',hg3,k4,k8,w3,↓hsv,ea,hg4,p4,p5,p6,p8,clv,wlv,hv,ldO_one,stO_one,sy,tup,↓reduceIte,zA,zG,zC,zD,zF,zE,zB,zH,reduceCtorEq]
    rw[← hGF]
    rw[endD_q (q:=Q) (by kernel_rfl) (by rw[hQ];kernel_rfl)]
    simp (maxDischargeDepth:=12) only[hv,ldO_one,stO_one,sy,tup,↓reduceIte,zA,zG,zC,zD,zF,zE,zB,zH,reduceCtorEq]
    exact⟨trivial,.inr trivial,_,rfl,.inr ⟨⟨by omega,by omega⟩,p,rfl,hbf,W,hW,.inr ⟨hW0,rfl,tF.owe hQ',lv',hLog,hnew⟩⟩⟩
  · have hpe:p=head:=by rw[hp,posAt_ge (by omega)]
    subst hpe
    simp (maxDischargeDepth:=12) only[c10,e0,hg,k5,h1,h2,eN,w1,k7,k8,w2,hlt,k4,w3,e3,Nat.mul_one,hv,ldO_one,stO_one,sy,tup,↓reduceIte,zA,zG,zC,zD,zF,zE,zB,zH,reduceCtorEq]
    by_cases hW0:W=0
    rotate_left
    · have hW':(W==0)=false:=beq_eq_false_iff_ne.2 hW0
      simp (maxDischargeDepth:=12) only[hW',hv,ldO_one,stO_one,sy,tup,↓reduceIte,zA,zG,zC,zD,zF,zE,zB,zH,reduceCtorEq]
      exact⟨trivial,.inr trivial,_,rfl,.inr ⟨⟨by omega,by omega⟩,p,rfl,hb3,W,hW,.inl ⟨hW0,rfl,t3⟩⟩⟩
    have hW':(W==0)=true:=by rw[hW0];rfl
    simp (maxDischargeDepth:=12) only[hW',hg3,k4,k8,w3,↓hsv,ea,hg4,p4,p5,p6,p8,clv,wlv,hv,ldO_one,stO_one,sy,tup,↓reduceIte,zA,zG,zC,zD,zF,zE,zB,zH,reduceCtorEq]
    rw[← hGF]
    rw[endD_q (q:=Q) (by kernel_rfl) (by rw[hQ];kernel_rfl)]
    simp (maxDischargeDepth:=12) only[hv,ldO_one,stO_one,sy,tup,↓reduceIte,zA,zG,zC,zD,zF,zE,zB,zH,reduceCtorEq]
    exact⟨trivial,.inr trivial,_,rfl,.inr ⟨⟨by omega,by omega⟩,p,rfl,hbf,W,hW,.inr ⟨hW0,rfl,tF.owe hQ',lv',hLog,hnew⟩⟩⟩
end
end Go.Proofs.YtabebpemfinejaaDoor.draft
namespace Go.Proofs.YtabebpemfinejaaDoor.draft
open Go.Am
open disk (bx Fit A1 R1 Low Bn)
noncomputable def c47:CFn:=⟨[.tmp (pp 6)],
 .seq (.reg [
 qo 6 (.p (S.get (ii 0))) []]) (
 .seq (.block 0 (.seq (.reg [
 mv 8 0,
 qo 9 (.c (callF (ff 74) [(tt 8)])) [pp 8],
 qo 10 (.p (eqcF false false [.int .i64] (tt 9) (ii 0))) [pp 9],
 mv 7 10]) (
 .cond (tt 7) (.seq (.reg [
 qo 6 (.p (S.get (ii 1))) []]) (
 .ret)) (.seq (.reg [
 mv 12 1,
 qo 13 (.p (arF .lss (tt 12) (ii 0))) [pp 12],
 mv 14 13,
 mg 15 1 14 false,
 mg 16 0 14 false,
 qg 17 (.c (callF (ff 74) [(tt 16)])) 14 false [pp 16],
 qg 18 (.p (arF .geq (tt 15) (tt 17))) 14 false [pp 15,pp 17],
 qo 19 (.p (pickF (tt 14) (.c (.bool true)) (tt 18))) [pp 14,pp 18],
 mv 20 19,
 mg 21 0 20 false,
 mg 22 1 20 false,
 qg 23 (.c (callF (ff 49) [(tt 21),(tt 22)])) 20 false [pp 21,pp 22],
 mg 24 2 20 false,
 qg 25 (.p (arF .lss (tt 23) (tt 24))) 20 false [pp 23,pp 24],
 qo 26 (.p (pickF (tt 20) (.c (.bool true)) (tt 25))) [pp 20,pp 25],
 mv 11 26]) (
 .cond (tt 11) (.seq (.reg [
 qo 6 (.p (S.get (ii 2))) []]) (
 .ret)) (.skip)))))) (
 .seq (.reg [
 qo 6 (.p (S.get (ii 0))) []]) (
 .ret)))⟩
theorem c47_eq:fnOf Tryd.prog 47=some c47:=by kernel_rfl
noncomputable def c24_l0:C:=.seq (.reg [
 qo 47 (.p (arF .lss (tt 46) (ii 10))) [pp 46]]) (
 .seq (.cond (tt 47) (.skip) (.exit 1)) (
 .seq (.block 2 (.seq (.reg [
 mv 48 46,
 mv 13 48]) (
 .reg [
 mv 49 12,
 qo 50 (.r (loadF (tt 11) 1 .sc)) [pp 11],
 mv 51 13,
 qo 52 (.p (buildF [.blk 0] .bk [])) [],
 qo 53 (.c (callF (ff 32) [(tt 50),(tt 51),(tt 52)])) [pp 50,pp 51,pp 52],
 qo 54 (.m (bsliceF 1 1 [.nilFunc] [(0,1,(tt 53))])) [pp 53],
 qo 55 (.a (appF 1 8 (tt 49) (tt 54))) [pp 49,pp 54],
 mv 12 55]))) (
 .reg [
 qo 56 (.p (arF .add (tt 46) (ii 1))) [pp 46],
 mv 46 56])))
noncomputable def c24:CFn:=⟨[.tmp (pp 8),.tmp (pp 9)],
 .seq (.reg [
 qo 8 (.p (S.get (.c (.ptr none)))) [],
 qo 9 (.p (S.get (ii 0))) []]) (
 .seq (.reg [
 mv 15 0,
 mv 16 1,
 mv 17 3,
 qo 18 (.p (foldF max2 [(tt 17),(ii 0)])) [pp 17],
 qo 19 (.p (arF .add (ii 10) (tt 18))) [pp 18],
 qo 20 (.c (callF (ff 47) [(tt 15),(tt 16),(tt 19)])) [pp 15,pp 16,pp 19],
 mv 10 20]) (
 .seq (.block 0 (.seq (.reg [
 mv 22 10,
 qo 23 (.p (eqcF false false [.int .i64] (tt 22) (ii 1))) [pp 22],
 mv 21 23]) (
 .cond (tt 21) (.seq (.reg [
 mv 24 10,
 qo 8 (.p (S.get (.c (.ptr none)))) [],
 mv 9 24]) (
 .ret)) (.seq (.reg [
 mv 26 10,
 qo 27 (.p (eqcF true false [.int .i64] (tt 26) (ii 0))) [pp 26],
 mv 28 27,
 mg 29 2 28 false,
 qg 30 (.p (eqcF false false [.int .u64] (tt 29) (.c (.int .u64 0)))) 28 false [pp 29],
 qo 31 (.p (pickF (tt 28) (.c (.bool true)) (tt 30))) [pp 28,pp 30],
 mv 32 31,
 mg 33 3 32 false,
 qg 34 (.p (arF .lss (tt 33) (ii 40))) 32 false [pp 33],
 qo 35 (.p (pickF (tt 32) (.c (.bool true)) (tt 34))) [pp 32,pp 34],
 mv 36 35,
 mg 37 3 36 false,
 qg 38 (.p (arF .gtr (tt 37) (ii 256))) 36 false [pp 37],
 qo 39 (.p (pickF (tt 36) (.c (.bool true)) (tt 38))) [pp 36,pp 38],
 mv 25 39]) (
 .cond (tt 25) (.seq (.reg [
 qo 8 (.p (S.get (.c (.ptr none)))) [],
 qo 9 (.p (S.get (ii 2))) []]) (
 .ret)) (.skip)))))) (
 .seq (.reg [
 mv 40 0,
 mv 41 1,
 mv 42 2,
 mv 43 3,
 qo 44 (.p (buildF [.ptr none,.int .i64 0,.int .u64 0,.int .i64 0,.int .u64 0,.int .u64 0,.int .u64 0,.int .u64 0,.slice none 0 0 0] .ag [(0,1,(tt 40)),(1,1,(tt 41)),(2,1,(tt 42)),(3,1,(tt 43)),(4,1,(.c (.int .u64 1))),(5,1,(.c (.int .u64 1)))])) [pp 40,pp 41,pp 42,pp 43],
 qo 45 (.m (boxF 9 (tt 44))) [pp 44],
 qo 11 (.m (allocF 1 [.ptr none])) [],
 qn (.a (storeF (tt 11) (tt 45) 1)) [pp 11,pp 45]]) (
 .seq (.reg [
 qo 12 (.p (S.get (.c (.slice none 0 0 0)))) []]) (
 .seq (.seq (.reg [
 qo 46 (.p (S.get (ii 0))) []]) (
 .block 1 (.loop c24_l0))) (
 .seq (.reg [
 mv 57 12,
 qo 58 (.r (loadF (tt 11) 1 .sc)) [pp 11],
 qo 59 (.p (mkfnF (.func 35) [(tt 58)] [])) [pp 58],
 qo 60 (.p (mkfnF (.func 52) [] [(tt 11)])) [pp 11],
 qo 61 (.m (bsliceF 2 1 [.nilFunc] [(0,1,(tt 59)),(1,1,(tt 60))])) [pp 59,pp 60],
 qo 62 (.a (appF 1 8 (tt 57) (tt 61))) [pp 57,pp 61],
 mv 12 62]) (
 .seq (.seq (.reg [
 mv 63 12,
 qo 64 (.c (callF (ff 37) [(tt 63)])) [pp 63],
 mv 14 64]) (
 .seq (.reg [
 mv 65 14,
 qo 66 (.p (eqcF true false [.int .i64] (tt 65) (ii 0))) [pp 65]]) (
 .cond (tt 66) (.seq (.reg [
 mv 67 14,
 qo 8 (.p (S.get (.c (.ptr none)))) [],
 mv 9 67]) (
 .ret)) (.skip)))) (
 .seq (.reg [
 qo 68 (.r (loadF (tt 11) 1 .sc)) [pp 11],
 mv 8 68,
 qo 9 (.p (S.get (ii 0))) []]) (
 .ret)))))))))⟩
theorem c24_eq:fnOf Tryd.prog 24=some c24:=by kernel_rfl
noncomputable def c52:CFn:=⟨[.tmp (pp 1)],
 .seq (.reg [
 qo 1 (.p (S.get (ii 0))) []]) (
 .seq (.reg [
 qo 2 (.r (loadF (tt 0) 1 .sc)) [pp 0],
 qo 3 (.c (callF (ff 28) [(tt 2),(.c (.int .u64 1)),(.c (.int .u64 1)),(.c (.int .u64 0))])) [pp 2],
 mv 1 3]) (
 .ret))⟩
theorem c52_eq:fnOf Tryd.prog 52=some c52:=by kernel_rfl
def roomC (B:Bn) (d s:Int):Int:=if d < 0∨(B.l.length:Int)≤d∨B.sectors d < s then 2 else 0
noncomputable def layT (id R:Nat):List Stp:=(List.range 10).map (fun n=>.wr n 0)++[.fl,.wr 1 (markB 1 id R 1 0),.fl]
section
variable {lf K:Nat} (hlf:1000 < lf)
include hlf
theorem ulroom {G:Heap} {b:Bk} {B:Bn} (hb:G.get b=some (bx false B)) (hf:Fit B) (d s:Int) (n:Nat):ret (U lf K (n+2) 47 [.ptr (some ⟨b,0⟩),.int .i64 d,.int .i64 s] G) fun v G'=>v=.int .i64 (roomC B d s)∧Turns Z G G':=by
 have hne:¬ (B.l.length=0):=fun e=>hf.ne (List.length_eq_zero_iff.1 e)
 have e1:=fun(w:Nat)=>qDevices (lf:=lf) (K:=K) (w:=w) hb hf
 have hne':((B.l.length:Int)==0)=false:=by rw[beq_eq_false_iff_ne];omega
 have hb1:(G.skip (K+2)).get b=some (bx false B):=by rw[get_skip];exact hb
 have hb2:((G.skip (K+2)).skip (K+2)).get b=some (bx false B):=by rw[get_skip];exact hb1
 have eD0:=qDevices (lf:=lf) (K:=K) (w:=n) hb hf
 have eD1:=qDevices (lf:=lf) (K:=K) (w:=n) hb1 hf
 have eS1:=qSectors (lf:=lf) (K:=K) (w:=n) hb1 hf d
 have eS2:=qSectors (lf:=lf) (K:=K) (w:=n) hb2 hf d
 obtain⟨L,hL⟩:∃ L,L=B.l.length:=⟨_,rfl⟩
 rw[← hL] at hne hne' eD0 eD1
 have hcode:roomC B d s=if d < 0∨(B.l.length:Int)≤d∨B.sectors d < s then 2 else 0:=rfl
 rw[← hL] at hcode
 refine ret_callU rfl rfl c47_eq ?_
 by_cases h1:d < 0
 ·rw[show roomC B d s=2 from if_pos (.inl h1)]
  simp (maxDischargeDepth:=12) only[c47,eD0,hne',h1,hv,ldO_one,stO_one,sy,tup,↓reduceIte,zA,zG,zC,zD,zF,zE,zB,zH,reduceCtorEq]
  refine⟨trivial,.inr trivial,_,rfl,rfl,?_⟩
  repeat (first | exact Turns.refl _ _ | apply Turns.skip | apply Turns.addm | apply Turns.setb | apply Turns.setl | apply Turns.setr | refine Turns.setn ?_ _ (by omega) _ | refine Turns.trans ?_ (tF _))
 by_cases h2:(L:Int)≤d
 ·rw[hcode,if_pos (.inr (.inl h2))]
  simp (maxDischargeDepth:=12) only[c47,eD0,eD1,hne',h1,h2,hv,ldO_one,stO_one,sy,tup,↓reduceIte,zA,zG,zC,zD,zF,zE,zB,zH,reduceCtorEq]
  refine⟨trivial,.inr trivial,_,rfl,rfl,?_⟩
  repeat (first | exact Turns.refl _ _ | apply Turns.skip | apply Turns.addm | apply Turns.setb | apply Turns.setl | apply Turns.setr | refine Turns.setn ?_ _ (by omega) _ | refine Turns.trans ?_ (tF _))
 by_cases h3:B.sectors d < s
 ·rw[hcode,if_pos (.inr (.inr h3))]
  simp (maxDischargeDepth:=12) only[c47,eD0,eD1,eS2,hne',h1,h2,h3,hv,ldO_one,stO_one,sy,tup,↓reduceIte,zA,zG,zC,zD,zF,zE,zB,zH,reduceCtorEq]
  refine⟨trivial,.inr trivial,_,rfl,rfl,?_⟩
  repeat (first | exact Turns.refl _ _ | apply Turns.skip | apply Turns.addm | apply Turns.setb | apply Turns.setl | apply Turns.setr | refine Turns.setn ?_ _ (by omega) _ | refine Turns.trans ?_ (tF _))
 ·rw[hcode,if_neg (fun h=>h.elim h1 (fun h=>h.elim h2 h3))]
  simp (maxDischargeDepth:=12) only[c47,eD0,eD1,eS2,hne',h1,h2,h3,hv,ldO_one,stO_one,sy,tup,↓reduceIte,zA,zG,zC,zD,zF,zE,zB,zH,reduceCtorEq]
  refine⟨trivial,.inr trivial,_,rfl,rfl,?_⟩
  repeat (first | exact Turns.refl _ _ | apply Turns.skip | apply Turns.addm | apply Turns.setb | apply Turns.setl | apply Turns.setr | refine Turns.setn ?_ _ (by omega) _ | refine Turns.trans ?_ (tF _))
theorem ullay1 {G:Heap} (hgl:G.get (.run 0)=some (.rows true 4 (intsR [8,2,8,8]))) (h00:0 < G.next) {l b:Bk} {id R:Nat} {x:Nat} (hx:G.get (.run x)=some (.rows false 1 [[.ptr (some ⟨l,0⟩)]])) {cnt first tail head:Nat} {v:V} (hg:G.get l=some (.rows false 9 [lcells b id R cnt first tail head v])) (ho:G.Old l) (bo:G.Old b) (lb:l≠b) {B:Bn} (hb:G.get b=some (bx false B)) (hR:Rm 2 B) (hm:MkOk id R 1 0) (n:Nat) :
  ret (U lf K (n+7) 52 [.ptr (some ⟨.run x,0⟩)] G) fun v G'=>v=.int .i64 (doneC B [Stp.wr 1 (markB 1 id R 1 0),Stp.fl])∧G'.get b=some (bx false (doneB B [Stp.wr 1 (markB 1 id R 1 0),Stp.fl]))∧Turns (fun c=>c=b) G G':=by
 obtain⟨v3,G3,e3,rfl,hb3,t3⟩:=ulmark hlf (K:=K) hgl h00 hg ho bo lb hb hR (cn:=1) (f:=1) (p:=0) (by omega) hm n
 change U lf K (n+6) 28 [.ptr (some ⟨l,0⟩),.int .u64 1,.int .u64 1,.int .u64 0] G=_ at e3
 change G3.get b=some (bx false (doneB B [Stp.wr 1 (markB 1 id R 1 0),Stp.fl])) at hb3
 change _=some (Rs.v (V.int .i64 (doneC B [Stp.wr 1 (markB 1 id R 1 0),Stp.fl])),G3) at e3
 obtain⟨W,hW⟩:∃ W,W=doneC B [Stp.wr 1 (markB 1 id R 1 0),Stp.fl]:=⟨_,rfl⟩
 rw[← hW] at e3 ⊢
 have k0:cut [V.ptr (some ⟨l,0⟩)] 0 1=some [.ptr (some ⟨l,0⟩)]:=rfl
 refine ret_callU rfl rfl c52_eq ?_
 simp (maxDischargeDepth:=12) only[c52,hx,k0,e3,hv,ldO_one,stO_one,sy,tup,↓reduceIte,zA,zG,zC,zD,zF,zE,zB,zH,reduceCtorEq]
 exact⟨trivial,.inr trivial,_,rfl,rfl,hb3,t3⟩
end
theorem doneC_cons (B:Bn) (s:Stp) (l:List Stp):doneC B (s::l)=if stepC B s=0 then doneC (stepB B s) l else stepC B s:=rfl
theorem doneB_cons (B:Bn) (s:Stp) (l:List Stp):doneB B (s::l)=if stepC B s=0 then doneB (stepB B s) l else stepB B s:=rfl
theorem doneB_rm {k:Nat}:∀(l:List Stp) {B:Bn},Rm (k+l.length) B→Rm k (doneB B l)
 | [],B,h=>h
 | s::l,B,h=>by
  rw[doneB_cons]
  have h1:Rm (k+l.length) (stepB B s):=Rm.step (by rw[List.length_cons] at h;exact h) s
  split
  ·exact doneB_rm l h1
  ·exact h1.mono (Nat.le_add_right _ _)
theorem runF_app:∀(A:List Stp) (B:Bn) (T:List Stp),runF B ((A.map fun s B=>(stepC B s,stepB B s))++[fun B=>(doneC B T,doneB B T)])=(doneC B (A++T),doneB B (A++T))
 | [],B,T=>by
  show (if doneC B T=0 then(0,doneB B T) else(doneC B T,doneB B T))=_
  split
  ·rename_i h;rw[List.nil_append,h]
  ·rfl
 | s::A,B,T=>by
  rw[List.map_cons,List.cons_append,runF_cons,runF_app A,List.cons_append,doneC_cons,doneB_cons]
  simp only
  split<;>rfl
end Go.Proofs.YtabebpemfinejaaDoor.draft
namespace Go.Proofs.YtabebpemfinejaaDoor.draft
open Go.Am
open disk (bx Fit A1 R1 Low Bn)
section
variable {lf K:Nat} (hlf:1000 < lf)
include hlf
theorem ullay_steps {G:Heap} {l:Bk} {u:Nat} (hu:G.get (.run u)=some (.rows false 1 [[.ptr (some ⟨l,0⟩)]])) (uo:u < G.next) (n:Nat):∀ t:T,t.getP (Tr.path 11)=some (.ptr (some ⟨.run u,0⟩))→t.getP (Tr.path 12)=some (.slice none 0 0 0)→t.getP (Tr.path 46)=some (.int .i64 0) →
  wp (loopF (runC (U lf K (n+1)) lf c24_l0) lf ⟨t,G,[]⟩) fun x s=>x=.ex 1∧s.d=[]∧s.t.getP (Tr.path 11)=some (.ptr (some ⟨.run u,0⟩))∧Turns Z G s.H∧∃(Vs:List V) (y:V),s.t.getP (Tr.path 12)=some y∧Lst G s.H 1 (Vs.map fun v=>[v]) y∧Vs.length=10∧(∀ j (h1:j < Vs.length),StepAt G s.H l Vs[j] (.wr j 0)):=by
 intro t q11 q12 q46
 refine wp_loopF (fun k s=>∃(i:Nat) (Vs:List V) (y:V),k=10 - i∧i≤10∧s.d=[]∧s.t.getP (Tr.path 11)=some (.ptr (some ⟨.run u,0⟩))∧s.t.getP (Tr.path 12)=some y∧s.t.getP (Tr.path 46)=some (.int .i64 (i:Int))∧Lst G s.H 1 (Vs.map fun v=>[v]) y∧Vs.length=i∧(∀ j (h1:j < Vs.length),StepAt G s.H l Vs[j] (.wr j 0))∧Turns Z G s.H)
  ?_ lf 10 _ ⟨0,[],_,rfl,Nat.zero_le _,rfl,q11,q12,q46,Lst.nil _ _ _,rfl,fun j h1=>absurd h1 (by simp),Turns.refl _ _⟩ (by omega)
 rintro k ⟨t,HH,d⟩ ⟨i,Vs,y,rfl,hi,hd,q11,q12,q46,hy,hVs,hst,hT⟩
 dsimp only at hd q11 q12 q46 hy hst hT
 subst hd
 by_cases hlt:i < 10
 ·have hlt':(i:Int) < 10:=by omega
  have w1:IntKind.i64.wrap ((i:Int)+1)=((i+1:Nat):Int):=by rw[Go.Am.wrap_i64 (by omega)];omega
  have huH:=(hT.same (.run u) uo (fun h=>h)).trans hu
  have k0:cut [V.ptr (some ⟨l,0⟩)] 0 1=some [.ptr (some ⟨l,0⟩)]:=rfl
  obtain⟨v1,H1,e1,hs1,t1⟩:=ulput hlf (K:=K) HH l i 0 n
  have hs1':=hs1
  obtain⟨b1,b2,b3,rfl,g1,g2,g3,l1,l2,l3,h1,h2,h3⟩:=hs1'
  obtain⟨pv,hpv⟩:∃ pv:V,pv=.func (.func 60) [] [.ptr (some ⟨.run b1,0⟩),.ptr (some ⟨.run b2,0⟩),.ptr (some ⟨.run b3,0⟩)]:=⟨_,rfl⟩
  rw[← hpv] at e1 hs1
  have cpv:pv.cells=some [pv]:=by rw[hpv];rfl
  have wpv:width [pv]=1:=by rw[hpv];rfl
  have hy1:=hy.turns t1 (fun _ _ h=>h)
  have hxg:(H1.add (.rows false 1 [[pv]])).get (.run H1.next)=some (.rows false 1 [[pv]]):=by rw[Heap.get_add,if_pos rfl]
  have ta:=Turns.add Z H1 (.rows false 1 [[pv]])
  obtain⟨H2,hH2⟩:∃ H2,H1.add (.rows false 1 [[pv]])=H2:=⟨_,rfl⟩
  rw[hH2] at hxg ta
  have hy2:=hy1.turns ta (fun _ _ h=>h)
  have hvl:(Vs.map fun v=>[v]).length=i:=by rw[List.length_map,hVs]
  have tt:=(hT.trans t1).trans ta
  obtain⟨H3,ea,hy3,t3,_⟩:=hy2.app1 (by':=8) tt.next hxg (by rw[hpv];rfl) (by decide) (by rw[hvl];omega) (by rw[hvl];omega)
  rw[hvl] at ea hy3
  have hf:∀ v ∈ Vs,∃ f a k,v=V.func f a k:=fun v hv=>by
   obtain⟨j,hj,rfl⟩:=List.getElem_of_mem hv
   exact(hst j hj).func
  have t3':=lst_away hy2 tt (Nat.le_refl _) t3
  have hs3:StepAt G H3 l pv (.wr i 0):=by
   have hn:=hT.next
   have h0:StepAt G H1 l pv (.wr i 0):=⟨b1,b2,b3,hpv,by omega,by omega,by omega,l1,l2,l3,h1,h2,h3⟩
   exact(h0.turns ta (fun _ _ _ h=>h)).away hy2 hf t3
  have hst3:∀ j (h1:j < Vs.length),StepAt G H3 l Vs[j] (.wr j 0):=fun j hj=>(((hst j hj).turns t1 (fun _ _ _ h=>h)).turns ta (fun _ _ _ h=>h)).away hy2 hf t3
  simp (maxDischargeDepth:=12) only[c24_l0,q11,q12,q46,hlt',w1,huH,k0,e1,cpv,wpv,hH2,ea,Nat.mul_one,hv,ldO_one,stO_one,sy,tup,↓reduceIte,zA,zG,zC,zD,zF,zE,zB,zH,reduceCtorEq]
  refine⟨10 - (i+1),by omega,i+1,Vs++[pv],_,rfl,by omega,trivial,by simp[q11],rfl,by simp,by rw[List.map_append];exact hy3,by simp[hVs],fun j hj=>?_,t3'⟩
  by_cases e:j < Vs.length
  ·rw[List.getElem_append_left e]
   exact hst3 j e
  ·have ej:j=Vs.length:=by simp at hj;omega
   subst ej
   have g1:(Vs++[pv])[Vs.length]'hj=pv:=by simp
   rw[g1,hVs]
   exact hs3
 ·have:i=10:=by omega
  subst this
  have hnl:¬ (((10:Nat):Int) < 10):=by decide
  simp (maxDischargeDepth:=12) only[c24_l0,q46,hnl,hv,ldO_one,stO_one,sy,tup,↓reduceIte,zA,zG,zC,zD,zF,zE,zB,zH,reduceCtorEq]
  exact⟨trivial,trivial,q11,hT,Vs,y,q12,hy,hVs,hst⟩
theorem ullay {G:Heap} {b:Bk} {B:Bn} (hgl:G.get (.run 0)=some (.rows true 4 (intsR [8,2,8,8]))) (h00:0 < G.next) (hb:G.get b=some (bx false B)) (bo:G.Old b) (hR:Rm 40 B) (d:Int) {id:Nat} (hid:id < 18446744073709551616) (s:Int) {T:Int} (hT:T=IntKind.i64.wrap (10+(if s < 0 then 0 else s))) (hd:roomC B d T=0→40≤s→s≤256→d=0) (n:Nat) :
  ret (U lf K (n+9) 24 [.ptr (some ⟨b,0⟩),.int .i64 d,.int .u64 (id:Int),.int .i64 s] G) fun v G'=>
   ((roomC B d T≠0∨id=0∨s < 40∨256 < s)∧v=.tuple [.ptr none,.int .i64 2]∧Turns Z G G') ∨
   ((roomC B d T=0∧id≠0∧40≤s∧s≤256)∧G'.get b=some (bx false (doneB B (layT id s.toNat)))∧Turns (fun c=>c=b) G G'∧∃ e,e=doneC B (layT id s.toNat) ∧
    ((e≠0∧v=.tuple [.ptr none,.int .i64 e])∨(e=0∧∃ l,v=.tuple [.ptr (some ⟨l,0⟩),.int .i64 0]∧LogAt G' l b id s.toNat 1 1 0 0 [] (.slice none 0 0 0)∧¬ G.Old l))):=by
 obtain⟨v1,G1,e1,rfl,t1⟩:=ulroom hlf (K:=K) hb hR.fit d T (n+6)
 refine ret_callU rfl rfl c24_eq ?_
 by_cases hc:roomC B d T=0
 rotate_left
 ·have hc2:roomC B d T=2:=by
   unfold roomC at hc ⊢
   split
   ·rfl
   ·rename_i h;rw[if_neg h] at hc;exact absurd rfl hc
  rw[hc2] at e1 ⊢
  have hb21:((2:Int)==1)=false:=rfl
  have hb20:((2:Int)==0)=false:=rfl
  simp (maxDischargeDepth:=12) only[c24,foldF,← hT,e1,hb21,hb20,hv,ldO_one,stO_one,sy,tup,↓reduceIte,zA,zG,zC,zD,zF,zE,zB,zH,reduceCtorEq]
  exact⟨trivial,.inr trivial,_,rfl,.inl ⟨.inl (by decide),rfl,t1⟩⟩
 rw[hc] at e1 ⊢
 have hb01:((0:Int)==1)=false:=rfl
 by_cases hi:id=0
 ·have hi':((id:Int)==0)=true:=by rw[hi];rfl
  simp (maxDischargeDepth:=12) only[c24,foldF,← hT,e1,hb01,hi',hv,ldO_one,stO_one,sy,tup,↓reduceIte,zA,zG,zC,zD,zF,zE,zB,zH,reduceCtorEq]
  exact⟨trivial,.inr trivial,_,rfl,.inl ⟨.inr (.inl hi),rfl,t1⟩⟩
 have hi':((id:Int)==0)=false:=by rw[beq_eq_false_iff_ne];omega
 by_cases h40:s < 40
 ·simp (maxDischargeDepth:=12) only[c24,foldF,← hT,e1,hb01,hi',h40,hv,ldO_one,stO_one,sy,tup,↓reduceIte,zA,zG,zC,zD,zF,zE,zB,zH,reduceCtorEq]
  exact⟨trivial,.inr trivial,_,rfl,.inl ⟨.inr (.inr (.inl trivial)),rfl,t1⟩⟩
 by_cases h256:256 < s
 ·simp (maxDischargeDepth:=12) only[c24,foldF,← hT,e1,hb01,hi',h40,h256,hv,ldO_one,stO_one,sy,tup,↓reduceIte,zA,zG,zC,zD,zF,zE,zB,zH,reduceCtorEq]
  exact⟨trivial,.inr trivial,_,rfl,.inl ⟨.inr (.inr (.inr trivial)),rfl,t1⟩⟩
 have hd0:=hd hc (by omega) (by omega)
 subst hd0
 obtain⟨R,hRs⟩:∃ R,R=s.toNat:=⟨_,rfl⟩
 have hsR:s=(R:Int):=by omega
 subst hsR
 rw[← hRs]
 have t2:Turns Z G1 (((G1.add (.rows false 9 [[.ptr (some ⟨b,0⟩),.int .i64 0,.int .u64 (id:Int),.int .i64 (R:Int),.int .u64 1,.int .u64 1,.int .u64 0,.int .u64 0,.slice none 0 0 0]])).add (.rows false 1 [[.ptr none]])).set (.run (G1.next+1)) (.rows false 1 [[.ptr (some ⟨.run G1.next,0⟩)]])):=Turns.setn ((Turns.add Z G1 _).addm _) _ (by omega) _
 have hl2:(((G1.add (.rows false 9 [[.ptr (some ⟨b,0⟩),.int .i64 0,.int .u64 (id:Int),.int .i64 (R:Int),.int .u64 1,.int .u64 1,.int .u64 0,.int .u64 0,.slice none 0 0 0]])).add (.rows false 1 [[.ptr none]])).set (.run (G1.next+1)) (.rows false 1 [[.ptr (some ⟨.run G1.next,0⟩)]])).get (.run G1.next)=some (.rows false 9 [[.ptr (some ⟨b,0⟩),.int .i64 0,.int .u64 (id:Int),.int .i64 (R:Int),.int .u64 1,.int .u64 1,.int .u64 0,.int .u64 0,.slice none 0 0 0]]):=by
  rw[Heap.get_set,if_neg (run_ne (by omega)),Heap.get_add,if_neg (run_ne (by simp)),Heap.get_add,if_pos rfl]
 have hx2:(((G1.add (.rows false 9 [[.ptr (some ⟨b,0⟩),.int .i64 0,.int .u64 (id:Int),.int .i64 (R:Int),.int .u64 1,.int .u64 1,.int .u64 0,.int .u64 0,.slice none 0 0 0]])).add (.rows false 1 [[.ptr none]])).set (.run (G1.next+1)) (.rows false 1 [[.ptr (some ⟨.run G1.next,0⟩)]])).get (.run (G1.next+1))=some (.rows false 1 [[.ptr (some ⟨.run G1.next,0⟩)]]):=by rw[Heap.get_set,if_pos rfl]
 obtain⟨G2,hG2⟩:∃ G2,((G1.add (.rows false 9 [[.ptr (some ⟨b,0⟩),.int .i64 0,.int .u64 (id:Int),.int .i64 (R:Int),.int .u64 1,.int .u64 1,.int .u64 0,.int .u64 0,.slice none 0 0 0]])).add (.rows false 1 [[.ptr none]])).set (.run (G1.next+1)) (.rows false 1 [[.ptr (some ⟨.run G1.next,0⟩)]])=G2:=⟨_,rfl⟩
 have n2:G2.next=G1.next+1+1:=by rw[← hG2];rfl
 rw[hG2] at t2 hl2 hx2
 have hloop:=ullay_steps hlf (K:=K) (G:=G2) (l:=.run G1.next) hx2 (by omega) (n+7)
 simp (maxDischargeDepth:=12) only[c24,foldF,← hT,e1,hb01,hi',h40,h256,hG2,hv,ldO_one,stO_one,sy,tup,↓reduceIte,zA,zG,zC,zD,zF,zE,zB,zH,reduceCtorEq]
 refine wp_ctx (F:=fun r=>seqC _ _ _ (blockC _ r)) (hloop _ ?_ ?_ ?_) ?_
 ·simp only[sy,tup,↓reduceIte,zA,zG,zC,zD,zF,zE,zB,zH,reduceCtorEq]
 ·simp only[sy,tup,↓reduceIte,zA,zG,zC,zD,zF,zE,zB,zH,reduceCtorEq]
 ·simp only[sy,tup,↓reduceIte,zA,zG,zC,zD,zF,zE,zB,zH,reduceCtorEq]
 rintro x ⟨t,G3,d⟩ ⟨rfl,hd,q11,t3,Vs,y,q12,hy,hVs,hst⟩
 dsimp only at hd q11 t3 q12 hy hst
 subst hd
 have hx3:=(t3.same (.run (G1.next+1)) (by show _ < _;omega) (fun h=>h)).trans hx2
 have hl3:=(t3.same (.run G1.next) (by show _ < _;omega) (fun h=>h)).trans hl2
 have k0:cut [V.ptr (some ⟨.run G1.next,0⟩)] 0 1=some [.ptr (some ⟨.run G1.next,0⟩)]:=rfl
 obtain⟨fv,hfv⟩:∃ fv:V,fv=.func (.func 35) [.ptr (some ⟨.run G1.next,0⟩)] []:=⟨_,rfl⟩
 obtain⟨mv',hmv⟩:∃ mv':V,mv'=.func (.func 52) [] [.ptr (some ⟨.run (G1.next+1),0⟩)]:=⟨_,rfl⟩
 have cfv:fv.cells=some [fv]:=by rw[hfv];rfl
 have cmv:mv'.cells=some [mv']:=by rw[hmv];rfl
 have wfv:width [fv]=1:=by rw[hfv];rfl
 have wmv:width [mv']=1:=by rw[hmv];rfl
 have t4:=Turns.add Z G3 (.rows false 1 [[fv],[mv']])
 have hx4:(G3.add (.rows false 1 [[fv],[mv']])).get (.run G3.next)=some (.rows false 1 [[fv],[mv']]):=by rw[Heap.get_add,if_pos rfl]
 obtain⟨G4,hG4⟩:∃ G4,G3.add (.rows false 1 [[fv],[mv']])=G4:=⟨_,rfl⟩
 rw[hG4] at t4 hx4
 have hfe:firstE G4 1 (.slice (some ⟨.run G3.next,0⟩) 2 2 0)=some [[fv],[mv']]:=by
  have l0:loadAt G4 ⟨.run G3.next,0⟩ 1=some [fv]:=by rw[loadAt_eq hx4 (r:=[fv]) rfl,hfv];rfl
  have l1:loadAt G4 ⟨.run G3.next,Nat.add 0 1⟩ 1=some [mv']:=by rw[loadAt_eq hx4 (r:=[mv']) rfl,hmv];rfl
  simp only[firstE,elems,l0,l1]
  rfl
 have hy4:=hy.turns t4 (fun _ _ h=>h)
 have hvl:(Vs.map fun v=>[v]).length=10:=by rw[List.length_map,hVs]
 have t34:=t3.trans t4
 obtain⟨G5,ea,hy5,t5,_⟩:=hy4.app (by':=8) (x:=.slice (some ⟨.run G3.next,0⟩) 2 2 0) t34.next hfe rfl (by simp) (by decide) (by rw[hvl];simp only[List.length_cons,List.length_nil];omega) (by rw[hvl];simp only[List.length_cons,List.length_nil];omega)
 rw[hvl] at ea hy5
 have hf:∀ v ∈ Vs,∃ f a k,v=V.func f a k:=fun v hv=>by
  obtain⟨j,hj,rfl⟩:=List.getElem_of_mem hv
  exact(hst j hj).func
 have t2_5:=lst_away hy4 t34 (Nat.le_refl _) t5
 have hst5:∀ j (h1:j < Vs.length),StepAt G2 G5 (.run G1.next) Vs[j] (.wr j 0):=fun j hj=>((hst j hj).turns t4 (fun _ _ _ h=>h)).away hy4 hf t5
 obtain⟨TT,hTT⟩:∃ TT:List Stp,TT=[.wr 1 (markB 1 id R 1 0),.fl]:=⟨_,rfl⟩
 obtain⟨A,hA⟩:∃ A:List Stp,A=(List.range 10).map (fun n=>Stp.wr n 0)++[.fl]:=⟨_,rfl⟩
 have hLT:layT id R=A++TT:=by rw[hA,hTT];rfl
 have hAl:A.length=11:=by rw[hA];rfl
 have hfn:=runF_app A B TT
 obtain⟨Fs,hFs⟩:∃ Fs:List (Bn→Int × Bn),Fs=(A.map fun s B=>(stepC B s,stepB B s))++[fun B=>(doneC B TT,doneB B TT)]:=⟨_,rfl⟩
 have hFl:Fs.length=12:=by rw[hFs,List.length_append,List.length_map,hAl];rfl
 have hVl:(Vs++[fv,mv']).length=12:=by rw[List.length_append,hVs];rfl
 have t15:=(t1.trans t2).trans t2_5
 have t25:=t2_5
 have hl5:=(t2_5.same (.run G1.next) (by show _ < _;omega) (fun h=>h)).trans hl2
 have hx5:=(t2_5.same (.run (G1.next+1)) (by show _ < _;omega) (fun h=>h)).trans hx2
 have hb5:=(t15.same b bo (fun h=>h)).trans hb
 have hgl5:=(t15.same (.run 0) h00 (fun h=>h)).trans hgl
 have n5:=t15.next
 have n25:=t2_5.next
 have lb:(Bk.run G1.next)≠b:=fun e=>by rw[← e] at bo;exact absurd bo (Heap.not_old t1.next)
 change G5.get (.run G1.next)=some (.rows false 9 [lcells b id R 1 1 0 0 (.slice none 0 0 0)]) at hl5
 have hm:MkOk id R 1 0:=⟨⟨hi,hid⟩,⟨by omega,by omega⟩,by decide,by decide⟩
 obtain⟨j5,hj5,hj5g,hj5a,hj5b⟩:∃ j,j=G4.next∧G5.get (.run j)=some (.rows false 1 ((Vs++[fv,mv']).map fun v=>[v]))∧G2.next≤j∧j < G5.next:=by
  rcases hy5 with ⟨e,_⟩ | ⟨j,_,e,hgj,ja,jb⟩
  ·simp at e
  ·have ej:G4.next=j:=Bk.run.inj (Ptr.mk.inj (Option.some.inj (V.slice.inj e).1)).1
   refine⟨j,ej.symm,?_,ja,jb⟩
   rw[hgj,List.map_append];rfl
 have hF1:∀ i (h:i < 11) (h2:i < Fs.length),Fs[i]=fun B=>(stepC B (A[i]'(by omega)),stepB B (A[i]'(by omega))):=fun i h h2=>by
  simp only[hFs]
  rw[List.getElem_append_left (by rw[List.length_map,hAl];exact h),List.getElem_map]
 have hF2:∀(h2:11 < Fs.length),Fs[11]=fun B=>(doneC B TT,doneB B TT):=fun h2=>by
  simp only[hFs]
  rw[List.getElem_append_right (by rw[List.length_map,hAl];decide)]
  simp only[List.length_map,hAl,Nat.sub_self,List.getElem_cons_zero]
 have nbo:∀ m,G2.next≤m→¬ (Bk.run m=b):=fun m hm e=>by
  have:=(bo.mono t1.next).mono t2.next
  rw[← e] at this
  exact absurd this (Heap.not_old hm)
 have hrun:=ulrunG hlf (K:=K) (n:=n+7) (G:=G5) (b:=b) (w:=G4.next) (c:=12) (z:=1) (Vs:=Vs++[fv,mv']) (Fs:=Fs) (fun i=>Rm (if i≤11 then 40 - i else 0)) (by omega) (by omega) (fun i h1 h2=>?_) (fun i h2 B' hp hcc=>?_) (by rw[← hj5];exact hj5g) (by show _ < _;omega) (nbo _ (by omega)) hb5 hR
 ·obtain⟨v6,G6,e6,rfl,hb6,t6⟩:=hrun
  rw[hVl] at e6
  rw[hFs,hfn,← hLT] at e6 hb6
  obtain⟨W,hW⟩:∃ W,W=doneC B (layT id R):=⟨_,rfl⟩
  simp only[← hW] at e6 ⊢
  have hx6:=(t6.same (.run (G1.next+1)) (by show _ < _;omega) (fun e=>by
   rw[← e] at bo;exact absurd bo (Heap.not_old (by have:=t1.next;omega)))).trans hx5
  have hl6:=(t6.same (.run G1.next) (by show _ < _;omega) lb).trans hl5
  have lw:10+[[fv],[mv']].length=12:=rfl
  have tF:Turns (fun c=>c=b) G G6:=(t15.wide (fun c h=>h.elim)).trans t6
  by_cases hW0:W=0
  ·have hW':(W==0)=true:=by rw[hW0];rfl
   simp (maxDischargeDepth:=12) only[q11,q12,hx3,k0,rep2,upd_at1,← hfv,← hmv,cfv,cmv,wfv,wmv,hG4,ea,lw,e6,hW',hx6,hv,ldO_one,stO_one,sy,tup,↓reduceIte,zA,zG,zC,zD,zF,zE,zB,zH,reduceCtorEq]
   refine⟨trivial,.inr trivial,_,rfl,.inr ⟨⟨trivial,hi,by omega,by omega⟩,hb6,tF,W,rfl,.inr ⟨hW0,_,rfl,⟨⟨hl6,G,Lst.nil _ _ _,tF.next⟩,by show _ < _;have:=t6.next;omega,⟨by omega,by omega⟩,⟨⟨by omega,by omega⟩,Nat.le_refl _,by decide,by omega⟩,by decide,by decide⟩,fun ho=>absurd ho (Heap.not_old t1.next)⟩⟩⟩
  ·have hW':(W==0)=false:=beq_eq_false_iff_ne.2 hW0
   simp (maxDischargeDepth:=12) only[q11,q12,hx3,k0,rep2,upd_at1,← hfv,← hmv,cfv,cmv,wfv,wmv,hG4,ea,lw,e6,hW',hx6,hv,ldO_one,stO_one,sy,tup,↓reduceIte,zA,zG,zC,zD,zF,zE,zB,zH,reduceCtorEq]
   exact⟨trivial,.inr trivial,_,rfl,.inr ⟨⟨trivial,hi,by omega,by omega⟩,hb6,tF,W,rfl,.inl ⟨hW0,rfl⟩⟩⟩
 ·by_cases hi11:i < 11
  ·rw[hF1 i hi11 h2]
   by_cases hi10:i < 10
   ·have hs:=hst5 i (by omega)
    have hAi:A[i]'(by omega)=.wr i 0:=by
     simp only[hA]
     rw[List.getElem_append_left (by rw[List.length_map,List.length_range];exact hi10),List.getElem_map,List.getElem_range]
    rw[hAi,List.getElem_append_left (by omega)]
    obtain⟨a1,a2,a3,hVi,g1,g2,g3,l1,l2,l3,h1,h2,h3⟩:=hs
    refine⟨_,_,_,hVi,fun H B' ht hb' hp=>?_⟩
    rw[if_pos (by omega)] at hp
    exact ulput1 hlf ((ht.same _ (by show _ < _;omega) lb).trans hl5) hb' hp.fit (K:=K) ((ht.same _ (by show _ < _;exact l1) (nbo _ g1)).trans h1) ((ht.same _ (by show _ < _;exact l2) (nbo _ g2)).trans h2) ((ht.same _ (by show _ < _;exact l3) (nbo _ g3)).trans h3) (n+5)
   ·have:i=10:=by omega
    subst this
    have hAi:A[10]'(by omega)=.fl:=by simp only[hA];rfl
    rw[hAi,List.getElem_append_right (by omega)]
    simp only[hVs,Nat.sub_self,List.getElem_cons_zero]
    refine⟨_,_,_,hfv,fun H B' ht hb' hp=>?_⟩
    rw[if_pos (by omega)] at hp
    exact ulflush hlf ((ht.same _ (by show _ < _;omega) lb).trans hl5) hb' hp.fit (K:=K) (n+5)
  ·have:i=11:=by omega
   subst this
   rw[hF2 h2,List.getElem_append_right (by omega)]
   simp only[hVs,show 11 - 10=1 from rfl,List.getElem_cons_succ,List.getElem_cons_zero]
   refine⟨_,_,_,hmv,fun H B' ht hb' hp=>?_⟩
   rw[if_pos (by omega)] at hp
   rw[hTT]
   exact ullay1 hlf (K:=K) ((ht.same (.run 0) (by show _ < _;omega) (fun e=>by rw[← e] at hb;rw[hgl] at hb;cases hb)).trans hgl5) (by have:=ht.next;omega) ((ht.same _ (by show _ < _;omega) (fun e=>by
    rw[← e] at bo;exact absurd bo (Heap.not_old (by have:=t1.next;omega)))).trans hx5) ((ht.same _ (by show _ < _;omega) lb).trans hl5) (by show _ < _;have:=ht.next;omega) (bo.mono (Nat.le_trans n5 ht.next)) lb hb' (hp.mono (by omega)) hm n
 ·by_cases hi11:i < 11
  ·rw[hF1 i hi11 h2]
   rw[if_pos (by omega)] at hp ⊢
   refine Rm.step ?_ _
   rw[show 40 - (i+1)+1=40 - i by omega]
   exact hp
  ·have:i=11:=by omega
   subst this
   rw[hF2 h2]
   rw[if_pos (by omega)] at hp
   rw[if_neg (by omega)]
   refine doneB_rm TT (hp.mono ?_)
   rw[hTT];show 2≤29;decide
end
end Go.Proofs.YtabebpemfinejaaDoor.draft
namespace Go.Proofs.YtabebpemfinejaaDoor.draft
open Go.Am
open disk (bx Fit A1 R1 Low Bn)
noncomputable def c6:CFn:=⟨[.tmp (pp 2),.tmp (pp 3),.tmp (pp 4)],
 .seq (.reg [
 qo 2 (.p (S.get (.c (.ptr none)))) [],
 qo 3 (.p (S.get (.c (.ptr none)))) [],
 qo 4 (.p (S.get (.c (.bool false)))) []]) (
 .seq (.reg [
 mv 9 0,
 qo 10 (.p (convF .i64 (tt 9))) [pp 9],
 qo 11 (.p (arF .rem (tt 10) (ii 216))) [pp 10],
 qo 12 (.p (arF .add (ii 40) (tt 11))) [pp 11],
 mv 5 12]) (
 .seq (.reg [
 mv 14 5,
 qo 15 (.p (arF .add (ii 10) (tt 14))) [pp 14],
 qo 16 (.m (bsliceF 1 1 [.int .i64 0] [(0,1,(tt 15))])) [pp 15],
 qo 17 (.c (callF (ff 23) [(tt 16)])) [pp 16],
 mv 13 17,
 qo 18 (.p (extF (tt 13) 0)) [pp 13],
 qo 19 (.p (extF (tt 13) 1)) [pp 13],
 mv 6 18,
 mv 7 19]) (
 .seq (.seq (.reg [
 mv 20 7,
 qo 21 (.p (eqcF true false [.int .i64] (tt 20) (ii 0))) [pp 20]]) (
 .cond (tt 21) (.seq (.reg [
 qo 2 (.p (S.get (.c (.ptr none)))) [],
 qo 3 (.p (S.get (.c (.ptr none)))) [],
 qo 4 (.p (S.get (.c (.bool false)))) []]) (
 .ret)) (.skip))) (
 .seq (.reg [
 mv 23 6,
 mv 24 5,
 qo 25 (.c (callF (ff 24) [(tt 23),(ii 0),(.c (.int .u64 7)),(tt 24)])) [pp 23,pp 24],
 mv 22 25,
 qo 26 (.p (extF (tt 22) 0)) [pp 22],
 qo 27 (.p (extF (tt 22) 1)) [pp 22],
 mv 8 26,
 mv 7 27]) (
 .seq (.reg [
 mv 28 6,
 mv 29 8,
 mv 30 7,
 qo 31 (.p (eqcF false false [.int .i64] (tt 30) (ii 0))) [pp 30],
 mv 2 28,
 mv 3 29,
 mv 4 31]) (
 .ret))))))⟩
theorem c6_eq:fnOf Tryd.prog 6=some c6:=by kernel_rfl
theorem done_fl {S:List Nat} {st:Nat} (hS:S≠[]) {l:List Stp} (hI:Inside S.length (l++[.fl])):doneC (devB S [] st) (l++[.fl])=0∧doneB (devB S [] st) (l++[.fl])=devB (stepsD (S,[]) (l++[.fl])).1 [] (st+(l++[Stp.fl]).length)∧(stepsD (S,[]) (l++[.fl])).1.length=S.length:=by
 obtain⟨e1,e2⟩:=devB_run (l++[.fl]) S [] st hS hI
 exact⟨e1,by rw[e2,stepsD_fl],stepsD_len _ _⟩
theorem mark_ok {S:List Nat} {st m x:Nat} (hm:m < 2) (hS:10≤S.length):doneC (devB S [] st) [.wr m x,.fl]=0∧∃ S',S'=S.set m x∧doneB (devB S [] st) [.wr m x,.fl]=devB S' [] (st+2)∧S'.length=S.length:=by
 have hS0:S≠[]:=fun e=>by rw[e] at hS;simp at hS
 obtain⟨e1,e2,e3⟩:=done_fl (st:=st) hS0 (l:=[.wr m x]) (by
  intro s hs i y e
  subst e
  simp only[List.cons_append,List.nil_append,List.mem_cons,Stp.wr.injEq,reduceCtorEq,List.not_mem_nil,or_false] at hs
  omega)
 exact⟨e1,_,rfl,e2,by rw[List.length_set]⟩
noncomputable def appS (S:List Nat) (R p:Nat) (A:List Nat) (N:Nt):List Nat:=(disk.flushS S (recW R p A)).set (2+N.seq % 8) (noteB N)
theorem recT_D (R p:Nat) (A:List Nat) (S:List Nat) (L:List (Nat × Nat)):stepsD (S,L) (recT R p A)=(S,L++recW R p A):=by
 unfold recT recW
 suffices h:∀(l:List Nat) (L:List (Nat × Nat)),stepsD (S,L) (l.map fun j=>Stp.wr ((p+j) % R+10) (A.getD j 0))=(S,L++l.map fun j=>((p+j) % R+10,A.getD j 0)) from h _ _
 intro l
 induction l with
 | nil=>intro L;simp[stepsD]
 | cons a l ih=>
  intro L
  rw[List.map_cons,List.map_cons]
  show stepsD (S,L++[((p+a) % R+10,A.getD a 0)]) _=_
  rw[ih,List.append_assoc];rfl
theorem stepsD_two (S:List Nat) (L:List (Nat × Nat)) (m x:Nat):stepsD (S,L) [Stp.fl,.wr m x]=(disk.flushS S L,[(m,x)]):=rfl
theorem stepsD_last (S:List Nat) (m x:Nat):stepsD (S,[(m,x)]) [Stp.fl]=(S.set m x,[]):=rfl
theorem app_ok {S:List Nat} {st R p:Nat} {A:List Nat} {N:Nt} (hR:1≤R) (hS:S.length=R+10):doneC (devB S [] st) (appT R p A N)=0∧doneB (devB S [] st) (appT R p A N)=devB (appS S R p A N) [] (st+A.length+3)∧(appS S R p A N).length=S.length:=by
 have hS0:S≠[]:=fun e=>by rw[e] at hS;simp at hS
 have eT:appT R p A N=(recT R p A++[.fl,.wr (2+N.seq % 8) (noteB N)])++[.fl]:=by unfold appT;rw[List.append_assoc];rfl
 have hl:((recT R p A++[Stp.fl,.wr (2+N.seq % 8) (noteB N)])++[Stp.fl]).length=A.length+3:=by
  unfold recT
  simp
 obtain⟨e1,e2,e3⟩:=done_fl (st:=st) hS0 (l:=recT R p A++[.fl,.wr (2+N.seq % 8) (noteB N)]) (by
  intro s hs i y e
  subst e
  rw[hS]
  rcases List.mem_append.1 hs with hs | hs
  ·rcases List.mem_append.1 hs with hs | hs
   ·unfold recT at hs
    obtain⟨j,_,e⟩:=List.mem_map.1 hs
    cases e
    have:=Nat.mod_lt (p+j) (show 0 < R by omega)
    omega
   ·simp only[List.mem_cons,Stp.wr.injEq,reduceCtorEq,List.not_mem_nil,or_false,false_or] at hs
    have:=Nat.mod_lt N.seq (show 0 < 8 by decide)
    omega
  ·simp at hs)
 have eS:(stepsD (S,[]) ((recT R p A++[Stp.fl,.wr (2+N.seq % 8) (noteB N)])++[.fl])).1=appS S R p A N:=by
  rw[stepsD_app,stepsD_app,recT_D,List.nil_append,stepsD_two,stepsD_last]
  rfl
 rw[eT,e1,e2,eS,hl]
 exact⟨rfl,by rw[Nat.add_assoc],by rw[← eS,e3]⟩
noncomputable def layS (S:List Nat) (id R:Nat):List Nat:=(stepsD (S,[]) (layT id R)).1
theorem lay_ok {S:List Nat} {st id R:Nat} (hS:10≤S.length):doneC (devB S [] st) (layT id R)=0∧doneB (devB S [] st) (layT id R)=devB (layS S id R) [] (st+13)∧(layS S id R).length=S.length:=by
 have hS0:S≠[]:=fun e=>by rw[e] at hS;simp at hS
 have eT:layT id R=((List.range 10).map (fun n=>Stp.wr n 0)++[.fl,.wr 1 (markB 1 id R 1 0)])++[.fl]:=by unfold layT;rw[List.append_assoc];rfl
 obtain⟨e1,e2,e3⟩:=done_fl (st:=st) hS0 (l:=(List.range 10).map (fun n=>Stp.wr n 0)++[.fl,.wr 1 (markB 1 id R 1 0)]) (by
  intro s hs i y e
  subst e
  rcases List.mem_append.1 hs with hs | hs
  ·rcases List.mem_append.1 hs with hs | hs
   ·obtain⟨j,hj,e⟩:=List.mem_map.1 hs
    cases e
    have:=List.mem_range.1 hj
    omega
   ·simp only[List.mem_cons,Stp.wr.injEq,reduceCtorEq,List.not_mem_nil,or_false,false_or] at hs
    omega
  ·simp at hs)
 rw[← eT] at e1 e2 e3
 exact⟨e1,e2,e3⟩
section
variable {lf K:Nat} (hlf:1000 < lf)
include hlf
end
end Go.Proofs.YtabebpemfinejaaDoor.draft
namespace Go.Proofs.YtabebpemfinejaaDoor.draft
open Go.Am
open disk (bx Fit A1 R1 Low Bn)
section
variable {lf K:Nat} (hlf:1000 < lf)
include hlf
theorem urplaces (G:Heap) {k:Nat} (hk:k≤1000) (n:Nat):U lf K (n+1) 38 [.int .i64 (k:Int)] G=some (.v (.int .i64 ((headsN k:Nat):Int)),G):=by
 have hh:headsN k=(k+15) / 16:=rfl
 obtain⟨h,he⟩:∃ h,h=headsN k:=⟨_,rfl⟩
 rw[← he] at hh ⊢
 obtain⟨v,H',e',rfl,rfl⟩:ret (U lf K (n+1) 38 [.int .i64 (k:Int)] G) fun v H'=>v=.int .i64 (h:Int)∧H'=G:=by
  refine ret_callU rfl rfl c38_eq ?_
  have hloop:∀ t:T,t.getP (Tr.path 0)=some (.int .i64 (k:Int))→t.getP (Tr.path 3)=some (.int .i64 0)→wp (loopF (runC (U lf K n) lf c38_l0) lf ⟨t,G,[]⟩) fun x s=>x=.ex 0∧s.d=[]∧s.H=G∧s.t.getP (Tr.path 3)=some (.int .i64 (h:Int)):=by
   intro t q0 q3
   refine wp_loopF (fun u s=>∃ i:Nat,u=h - i∧i≤h∧s.d=[]∧s.H=G∧s.t.getP (Tr.path 0)=some (.int .i64 (k:Int))∧s.t.getP (Tr.path 3)=some (.int .i64 (i:Int))) ?_ lf h _ ⟨0,rfl,by omega,rfl,rfl,q0,q3⟩ (by omega)
   rintro u ⟨t,HH,d⟩ ⟨i,rfl,hi,hd,hH,q0,q3⟩
   dsimp only at hd hH q0 q3
   subst hd;subst hH
   have w0:IntKind.i64.wrap (16*(i:Int))=16*(i:Int):=Go.Am.wrap_i64 (by omega)
   have w1:IntKind.i64.wrap ((i:Int)+1)=((i+1:Nat):Int):=by rw[Go.Am.wrap_i64 (by omega)];omega
   by_cases hlt:i < h
   ·have hl:16*(i:Int) < (k:Int):=by omega
    simp only[c38_l0,q0,q3,arith_mul,w0,hl,w1,sy,tup,↓reduceIte,zA,zG,zC,zD,zF,zE,zB,zH,reduceCtorEq]
    exact⟨h - (i+1),by omega,i+1,rfl,by omega,trivial,trivial,by simp[q0],by simp⟩
   ·have:i=h:=by omega
    subst this
    have hl:¬ 16*(i:Int) < (k:Int):=by omega
    simp only[c38_l0,q0,q3,arith_mul,w0,hl,sy,tup,↓reduceIte,zA,zG,zC,zD,zF,zE,zB,zH,reduceCtorEq]
    exact⟨trivial,trivial,trivial,by simp[q3]⟩
  simp only[c38,sy,tup,↓reduceIte,zA,zG,zC,zD,zF,zE,zB,zH,reduceCtorEq]
  refine wp_ctx (F:=fun r=>seqC _ _ _ (blockC _ r)) (hloop _ ?_ ?_) ?_
  ·simp only[sy,tup,↓reduceIte,zA,zG,zC,zD,zF,zE,zB,zH,reduceCtorEq]
  ·simp only[sy,tup,↓reduceIte,zA,zG,zC,zD,zF,zE,zB,zH,reduceCtorEq]
  rintro x ⟨t,HH,d⟩ ⟨rfl,hd',hH,q3⟩
  dsimp only at hd' hH q3
  subst hd';subst hH
  simp only[q3,sy,tup,↓reduceIte,zA,zG,zC,zD,zF,zE,zB,zH,reduceCtorEq]
  simp
 exact e'
theorem ursize (G:Heap) {k:Nat} (h1:1≤k) (h2:k≤32) (n:Nat):U lf K (n+2) 12 [.int .i64 (k:Int)] G=some (.v (.int .i64 ((recS k:Nat):Int)),G):=by
 have e1:=urplaces hlf (K:=K) G (k:=k) (by omega) n
 obtain⟨z,hz⟩:∃ z,z=recS k:=⟨_,rfl⟩
 have hz2:(z:Int)=((headsN k:Nat):Int)+(k:Int):=by rw[hz];rfl
 rw[← hz]
 have hh:headsN k≤2:=by unfold headsN;omega
 generalize headsN k=hd at e1 hz2 hh
 have w:IntKind.i64.wrap ((hd:Int)+(k:Int))=(z:Int):=by rw[Go.Am.wrap_i64 (by omega)];omega
 have g1:¬ (k:Int) < 1:=by omega
 have g2:¬ (32:Int) < (k:Int):=by omega
 obtain⟨v,H',e',rfl,rfl⟩:ret (U lf K (n+2) 12 [.int .i64 (k:Int)] G) fun v H'=>v=.int .i64 (z:Int)∧H'=G:=by
  refine ret_callU rfl rfl c12_eq ?_
  have h1':¬ (k < 1):=by omega
  have h2':¬ (32 < k):=by omega
  simp (maxDischargeDepth:=12) only[c12,g1,g2,h1',h2',e1,w,hv,ldO_one,stO_one,sy,tup,↓reduceIte,zA,zG,zC,zD,zF,zE,zB,zH,reduceCtorEq]
  simp
 exact e'
theorem ulaid {G:Heap} (hgl:G.get (.run 0)=some (.rows true 4 (intsR [8,2,8,8]))) (h00:0 < G.next) {m:Nat} (hm:m < 256) {R:Nat} (hR:R=40+m % 216) (n:Nat):ret (U lf K (n+10) 6 [.int .u8 (m:Int)] G) fun v G'=>∃ b l,v=.tuple [.ptr (some ⟨b,0⟩),.ptr (some ⟨l,0⟩),.bool true]∧LogAt G' l b 7 R 1 1 0 0 [] (.slice none 0 0 0)∧G'.get b=some (bx false (devB (layS (List.replicate (10+R) 0) 7 R) [] 13))∧l≠b∧¬ G.Old b∧¬ G.Old l∧G'.Old b∧Turns Z G G':=by
 have hR2:40≤R∧R≤255:=by omega
 obtain⟨q,hq⟩:∃ q,q=m % 216:=⟨_,rfl⟩
 have r1:arith .rem (.int .i64 (m:Int)) (.int .i64 216)=some (.int .i64 (q:Int)):=by rw[hq];exact rem_i64 m 216 (by decide)
 have w0:IntKind.i64.wrap (m:Int)=(m:Int):=Go.Am.wrap_i64 (by omega)
 have w1:IntKind.i64.wrap (40+(q:Int))=(R:Int):=by rw[Go.Am.wrap_i64 (by omega)];omega
 obtain⟨M,hM⟩:∃ M,M=10+R:=⟨_,rfl⟩
 have w2:IntKind.i64.wrap (10+(R:Int))=(M:Int):=by rw[Go.Am.wrap_i64 (by omega)];omega
 have t1:=Turns.add Z G (.rows false 1 [[.int .i64 (M:Int)]])
 have hx1:(G.add (.rows false 1 [[.int .i64 (M:Int)]])).get (.run G.next)=some (.rows false 1 [[.int .i64 (M:Int)]]):=by rw[Heap.get_add,if_pos rfl]
 obtain⟨G1,hG1⟩:∃ G1,G.add (.rows false 1 [[.int .i64 (M:Int)]])=G1:=⟨_,rfl⟩
 have n1:G1.next=G.next+1:=by rw[← hG1];rfl
 rw[hG1] at t1 hx1
 have eN:=qNew (lf:=lf) (K:=K) (w:=n+8) (G:=G1) (pp:=some ⟨.run G.next,0⟩) (P:=[(M:Int)]) ⟨fun _=>⟨.run G.next,0,false,_,rfl,by show _ < _;omega,fun h=>h,hx1,fun i hi=>by
  have:i=0:=by simpa using hi
  subst this;rfl⟩⟩ ⟨Nat.le_refl 1,show 1≤17 by decide,fun n hn=>by
  rw[List.mem_singleton] at hn;subst hn;omega⟩ 1 0
 have hB:disk.newB [(M:Int)]=devB (List.replicate M 0) [] 0:=by
  unfold disk.newB devB disk.blank
  simp
 rw[hB] at eN
 change U lf K (n+9) 23 [.slice (some ⟨.run G.next,0⟩) 1 1 0] G1=_ at eN
 have t2:Turns Z G ((G1.add (bx false (devB (List.replicate M 0) [] 0))).skip (K+1)):=(t1.addm _).skip _
 have hb2:((G1.add (bx false (devB (List.replicate M 0) [] 0))).skip (K+1)).get (.run G1.next)=some (bx false (devB (List.replicate M 0) [] 0)):=by rw[get_skip,Heap.get_add,if_pos rfl]
 obtain⟨G2,hG2⟩:∃ G2,(G1.add (bx false (devB (List.replicate M 0) [] 0))).skip (K+1)=G2:=⟨_,rfl⟩
 have n2:G1.next < G2.next:=by rw[← hG2];show _ < _+1+_;omega
 rw[hG2] at eN t2 hb2
 have hSn:List.replicate M 0≠[]:=fun e=>by have:=congrArg List.length e;simp at this;omega
 have hroom:roomC (devB (List.replicate M 0) [] 0) 0 (M:Int)=0:=by
  unfold roomC
  rw[if_neg]
  rintro(h | h | h)
  ·exact absurd h (by decide)
  ·exact absurd h (show ¬ ((1:Nat):Int)≤0 by decide)
  ·unfold disk.Bn.sectors at h
   rw[if_pos (show disk.Bn.tc (devB (List.replicate M 0) [] 0) 0=0 from rfl)] at h
   have:(((devB (List.replicate M 0) [] 0).dev 0).S.length:Int)=(M:Int):=by
    show ((List.replicate M 0).length:Int)=_
    rw[List.length_replicate]
   omega
 obtain⟨v3,G3,e3,h3⟩:=ullay hlf (K:=K) (G:=G2) (b:=.run G1.next) ((t2.same (.run 0) h00 (fun h=>h)).trans hgl) (Nat.lt_of_lt_of_le h00 t2.next) hb2 (by show _ < _;exact n2) (devB_rm hSn (by simp;omega) (by decide) (by decide)) 0 (id:=7) (by decide) (R:Int) (T:=(M:Int)) (by rw[if_neg (by omega)];exact w2.symm) (fun _ _ _=>rfl) n
 rcases h3 with ⟨h3,_⟩ | ⟨_,hb3,t3,e,he,h3⟩
 ·rcases h3 with h | h | h | h
  ·exact absurd hroom h
  ·cases h
  ·omega
  ·omega
 obtain⟨d1,d2,d3⟩:=lay_ok (S:=List.replicate M 0) (st:=0) (id:=7) (R:=R) (by simp;omega)
 rw[Int.toNat_natCast] at he hb3 h3
 rw[d1] at he
 rw[d2] at hb3
 subst he
 rcases h3 with ⟨h,_⟩ | ⟨_,l,rfl,hl,hln⟩
 ·exact absurd rfl h
 change U lf K (n+9) 24 [.ptr (some ⟨.run G1.next,0⟩),.int .i64 0,.int .u64 7,.int .i64 (R:Int)] G2=_ at e3
 refine ret_callU rfl rfl c6_eq ?_
 simp (maxDischargeDepth:=12) only[c6,w0,r1,w1,w2,hG1,eN,e3,hv,ldO_one,stO_one,sy,tup,↓reduceIte,zA,zG,zC,zD,zF,zE,zB,zH,reduceCtorEq]
 have bo2:G2.Old (.run G1.next):=n2
 refine⟨trivial,.inr trivial,_,rfl,.run G1.next,l,rfl,hl,by rw[← hM];exact hb3,fun e=>hln (by rw[e];exact bo2),fun ho=>absurd ho (Heap.not_old t1.next),fun ho=>hln (ho.mono t2.next),bo2.mono t3.next,?_⟩
 exact t2.later t3 (fun c ho e=>by subst e;exact absurd ho (Heap.not_old t1.next))
end
end Go.Proofs.YtabebpemfinejaaDoor.draft
namespace Go.Proofs.YtabebpemfinejaaDoor.draft
open Go.Am
open disk (bx Fit A1 R1 Low Bn)
structure LS (G0 G:Heap) (l b:Bk) (R i cnt first tail head:Nat) (N:List Nt) (lv:V) (S:List Nat) (st:Nat):Prop where
 log:LogAt G l b 7 R cnt first tail head N lv
 ch:Chain first tail N head
 hb:G.get b=some (bx false (devB S [] st))
 len:S.length=R+10
 R:40≤R∧R≤255
 cnt:1≤cnt∧cnt≤1+i
 fst:1≤first∧first+N.length≤1+i
 hd:head≤34*i
 st:st≤13+40*i
 lvn:∀ c,Bof lv c→¬ G0.Old c
 bo:G.Old b
 lb:l≠b
 bn:¬ G0.Old b
 ln:¬ G0.Old l
 t:Turns Z G0 G
theorem LS.same {G0 G G':Heap} {l b:Bk} {R i cnt first tail head:Nat} {N:List Nt} {lv:V} {S:List Nat} {st:Nat} (h:LS G0 G l b R i cnt first tail head N lv S st) (t:Turns Z G G'):LS G0 G' l b R i cnt first tail head N lv S st:=by
 obtain⟨hg,G1,hN,hn⟩:=h.log.ex
 exact { h with log:=⟨⟨(t.same l h.log.old (fun h=>h)).trans hg,G1,hN.turns t (fun _ _ h=>h),Nat.le_trans hn t.next⟩,h.log.old.mono t.next,h.log.rb,h.log.rg,h.log.fn,h.log.nl⟩,hb:=(t.same b h.bo (fun h=>h)).trans h.hb,bo:=h.bo.mono t.next,t:=h.t.trans t }
theorem LS.up {G0 G:Heap} {l b:Bk} {R i cnt first tail head:Nat} {N:List Nt} {lv:V} {S:List Nat} {st:Nat} (h:LS G0 G l b R i cnt first tail head N lv S st):LS G0 G l b R (i+1) cnt first tail head N lv S st:=
 { h with cnt:=⟨h.cnt.1,by have:=h.cnt;omega⟩,fst:=⟨h.fst.1,by have:=h.fst;omega⟩,hd:=by have:=h.hd;omega,st:=by have:=h.st;omega }
section
variable {lf K:Nat} (hlf:1000 < lf)
include hlf
variable {G0 G:Heap} {l b:Bk} {R i cnt first tail head:Nat} {N:List Nt} {lv:V} {S:List Nat} {st:Nat} (h:LS G0 G l b R i cnt first tail head N lv S st) (hi:i≤45) (hgl:G0.get (.run 0)=some (.rows true 4 (intsR [8,2,8,8]))) (h00:0 < G0.next)
include h hi hgl h00
theorem LS.clear {f:Nat} (hf:first≤f∧f≤first+N.length) (n:Nat):ret (U lf K (n+7) 10 [.ptr (some ⟨l,0⟩),.int .u64 (f:Int)] G) fun v G'=>v=.int .i64 0∧tail≤posAt N head (f - first)∧∃ lv' S',LS G0 G' l b R (i+1) (cnt+1) f (posAt N head (f - first)) head (N.drop (f - first)) lv' S' (st+2):=by
 have h1:=h.len
 have h2:=h.R
 have h3:=h.cnt
 have h4:=h.fst
 have h5:=h.hd
 have h6:=h.st
 have hS0:S≠[]:=fun e=>by rw[e] at h1;simp at h1
 obtain⟨v,G',e,hr⟩:=ulclear hlf (K:=K) ((h.t.same (.run 0) h00 (fun h=>h)).trans hgl) (Nat.lt_of_lt_of_le h00 h.t.next) h.log h.ch h.bo h.lb h.hb (devB_rm hS0 (by omega) (by decide) (by omega)) (by decide) h2.1 (by omega) h4.1 (f:=f) (by omega) n
 refine⟨v,G',e,?_⟩
 rcases hr with ⟨h7,_⟩ | ⟨_,p,rfl,hb',c,hc,hr⟩
 ·omega
 obtain⟨d1,S',_,d2,d3⟩:=mark_ok (S:=S) (st:=st) (m:=(cnt+1) % 2) (x:=markB (cnt+1) 7 R f (posAt N head (f - first))) (Nat.mod_lt _ (by decide)) (by omega)
 rw[d1] at hc
 rw[d2] at hb'
 subst hc
 rcases hr with ⟨h7,_⟩ | ⟨_,rfl,ht,lv',hL,hlv⟩
 ·exact absurd rfl h7
 obtain⟨hd1,hd2⟩:=h.ch.drop (f - first) (by omega)
 refine⟨rfl,hd2,lv',S',⟨hL,?_,hb',by omega,h2,⟨by omega,by omega⟩,⟨by omega,by rw[List.length_drop];omega⟩,by omega,by omega,fun c hc ho=>hlv c hc (ho.mono h.t.next),h.bo.mono ht.next,h.lb,h.bn,h.ln,?_⟩⟩
 ·rw[show first+(f - first)=f by omega] at hd1
  exact hd1
 ·exact h.t.later ht (fun c ho hc=>by
   rcases hc with rfl | rfl | hc
   ·exact absurd ho h.bn
   ·exact absurd ho h.ln
   ·exact absurd ho (h.lvn c hc))
theorem LS.append {pp:Option Ptr} {cs:List Cl} {pc po:Nat} (hc:CellsAt G pp cs) (h1c:1≤cs.length) (h32:cs.length≤32) (n:Nat):ret (U lf K (n+6) 11 [.ptr (some ⟨l,0⟩),.slice pp cs.length pc po] G) fun v G'=>Turns (LX b l lv) G G'∧(
  (v=.tuple [.int .u64 0,.int .i64 2]∧LS G0 G' l b R (i+1) cnt first tail head N lv S st) ∨
  (roomN R tail head N cs=false∧v=.tuple [.int .u64 0,.int .i64 10]∧LS G0 G' l b R (i+1) cnt first tail head N lv S st) ∨
  (roomN R tail head N cs=true∧v=.tuple [.int .u64 ((first+N.length:Nat):Int),.int .i64 0]∧∃ lv' S' st',LS G0 G' l b R (i+1) cnt first tail (head+recS cs.length) (N++[ntOf first head N cs]) lv' S' st')):=by
 have h1:=h.len
 have h2:=h.R
 have h3:=h.cnt
 have h4:=h.fst
 have h5:=h.hd
 have h6:=h.st
 have hS0:S≠[]:=fun e=>by rw[e] at h1;simp at h1
 obtain⟨v,G',e,hr⟩:=ulappend hlf (K:=K) h.log h.bo h.lb h.hb (devB_rm hS0 (by omega) (by decide) (by omega)) hc (by omega) (by omega) (pc:=pc) (po:=po) h4.1 (by omega) n
 refine⟨v,G',e,?_⟩
 rcases hr with ⟨c,hc0,rfl,ht,⟨hp,rfl⟩ | ⟨hp,hr,rfl⟩⟩ | ⟨hp,hr,hb',c,hcc,hx⟩
 ·refine⟨ht.wide (fun c h=>h.elim),.inl ⟨?_,(h.same ht).up⟩⟩
  have:pcode cs=2:=by
   unfold pcode at hp ⊢
   rw[if_neg (fun e=>by rw[e] at h1c;simp at h1c)] at hp ⊢
   split
   ·rfl
   ·rename_i h7
    rw[if_neg h7,if_neg (by omega)] at hp
    exact absurd rfl hp
  rw[this]
 ·exact⟨ht.wide (fun c h=>h.elim),.inr (.inl ⟨hr,rfl,(h.same ht).up⟩)⟩
 ·obtain⟨d1,d2,d3⟩:=app_ok (S:=S) (st:=st) (R:=R) (p:=head) (A:=recL cs) (N:=ntOf first head N cs) (by omega) h1
  rw[d1] at hcc
  rw[d2,recL_len] at hb'
  subst hcc
  rcases hx with ⟨h7,_⟩ | ⟨_,rfl,ht,lv',hL,hlv⟩
  ·exact absurd rfl h7
  have hk:recS cs.length≤34:=by unfold recS;omega
  refine⟨ht,.inr (.inr ⟨hr,rfl,lv',_,_,⟨hL,?_,hb',by omega,h2,⟨by omega,by omega⟩,⟨by omega,by rw[List.length_append,List.length_singleton];omega⟩,by omega,by omega,fun c hc ho=>hlv c hc (ho.mono h.t.next),h.bo.mono ht.next,h.lb,h.bn,h.ln,?_⟩⟩)⟩
  ·exact h.ch.app rfl rfl ⟨h1c,h32⟩ (sumB_lt _)
  ·exact h.t.later ht (fun c ho hc=>by
    rcases hc with rfl | rfl | hc
    ·exact absurd ho h.bn
    ·exact absurd ho h.ln
    ·exact absurd ho (h.lvn c hc))
omit h hi hgl h00 in
theorem pcode_ok {cs:List Cl} (hp:pcode cs=0):1≤cs.length∧cs.length≤32∧cs.all mayC=true:=by
 unfold pcode at hp
 split at hp
 ·cases hp
 ·rename_i h1
  split at hp
  ·cases hp
  ·rename_i h2
   split at hp
   ·cases hp
   ·rename_i h3
    have:=List.length_pos_iff.2 h1
    exact⟨by omega,by omega,by simpa using h2⟩
theorem LS.append2 {pp:Option Ptr} {cs:List Cl} {pc po:Nat} (hc:CellsAt G pp cs) (hcl:cs.length+1 < lf) (hmax:cs.length≤9223372036854775807) (n:Nat):ret (U lf K (n+6) 11 [.ptr (some ⟨l,0⟩),.slice pp cs.length pc po] G) fun v G'=>Turns (LX b l lv) G G'∧(
  (∃ e:Int,e≠0∧v=.tuple [.int .u64 0,.int .i64 e]∧LS G0 G' l b R (i+1) cnt first tail head N lv S st) ∨
  (pcode cs=0∧roomN R tail head N cs=true∧v=.tuple [.int .u64 ((first+N.length:Nat):Int),.int .i64 0]∧∃ lv' st',LS G0 G' l b R (i+1) cnt first tail (head+recS cs.length) (N++[ntOf first head N cs]) lv' (appS S R head (recL cs) (ntOf first head N cs)) st')):=by
 have h1:=h.len
 have h2:=h.R
 have h3:=h.cnt
 have h4:=h.fst
 have h5:=h.hd
 have h6:=h.st
 have hS0:S≠[]:=fun e=>by rw[e] at h1;simp at h1
 obtain⟨v,G',e,hr⟩:=ulappend hlf (K:=K) h.log h.bo h.lb h.hb (devB_rm hS0 (by omega) (by decide) (by omega)) hc hcl hmax (pc:=pc) (po:=po) h4.1 (by omega) n
 refine⟨v,G',e,?_⟩
 rcases hr with ⟨c,hc0,rfl,ht,_⟩ | ⟨hp,hr,hb',c,hcc,hx⟩
 ·exact⟨ht.wide (fun c h=>h.elim),.inl ⟨c,hc0,rfl,(h.same ht).up⟩⟩
 ·obtain⟨h1c,h32,_⟩:=pcode_ok hlf hp
  obtain⟨d1,d2,d3⟩:=app_ok (S:=S) (st:=st) (R:=R) (p:=head) (A:=recL cs) (N:=ntOf first head N cs) (by omega) h1
  rw[d1] at hcc
  rw[d2,recL_len] at hb'
  subst hcc
  rcases hx with ⟨h7,_⟩ | ⟨_,rfl,ht,lv',hL,hlv⟩
  ·exact absurd rfl h7
  have hk:recS cs.length≤34:=by unfold recS;omega
  refine⟨ht,.inr ⟨hp,hr,rfl,lv',_,⟨hL,?_,hb',by omega,h2,⟨by omega,by omega⟩,⟨by omega,by rw[List.length_append,List.length_singleton];omega⟩,by omega,by omega,fun c hc ho=>hlv c hc (ho.mono h.t.next),h.bo.mono ht.next,h.lb,h.bn,h.ln,?_⟩⟩⟩
  ·exact h.ch.app rfl rfl ⟨h1c,h32⟩ (sumB_lt _)
  ·exact h.t.later ht (fun c ho hc=>by
    rcases hc with rfl | rfl | hc
    ·exact absurd ho h.bn
    ·exact absurd ho h.ln
    ·exact absurd ho (h.lvn c hc))
end
end Go.Proofs.YtabebpemfinejaaDoor.draft
namespace Go.Proofs.YtabebpemfinejaaDoor.draft
open Go.Am
open disk (bx Fit A1 R1 Low Bn)
noncomputable def c3_l0:C:=.seq (.seq (.reg [
 mv 34 8,
 mv 35 1,
 qo 36 (.p (lenF (tt 35))) [pp 35],
 qo 37 (.p (arF .lss (tt 34) (tt 36))) [pp 34,pp 36],
 mv 38 37,
 mg 39 8 38 true,
 qg 40 (.p (arF .lss (tt 39) (ii 40))) 38 true [pp 39],
 qo 41 (.p (pickF (tt 38) (tt 40) (.c (.bool false)))) [pp 38,pp 40]]) (
 .cond (tt 41) (.skip) (.exit 0))) (
 .seq (.block 1 (.seq (.reg [
 mv 44 1,
 mv 45 8,
 qo 46 (.p (iaddrSF (tt 44) (tt 45) 3)) [pp 44,pp 45],
 qo 47 (.r (loadF (tt 46) 3 .ag)) [pp 46],
 qo 9 (.m (allocF 3 [.bool false,.int .u8 0,.slice none 0 0 0])) [],
 qn (.a (storeF (tt 9) (tt 47) 3)) [pp 9,pp 47]]) (
 .seq (.reg [
 mv 49 6,
 qo 50 (.c (callF (ff 9) [(tt 49)])) [pp 49],
 mv 48 50,
 qo 51 (.p (extF (tt 48) 0)) [pp 48],
 qo 52 (.p (extF (tt 48) 1)) [pp 48],
 mv 10 51,
 mv 11 52]) (
 .seq (.reg [
 mv 53 6,
 qo 54 (.c (callF (ff 7) [(tt 53)])) [pp 53],
 mv 12 54]) (
 .seq (.seq (.reg [
 qo 55 (.p (faddrF (tt 9) 0)) [pp 9],
 qo 56 (.r (loadF (tt 55) 1 .sc)) [pp 55]]) (
 .cond (tt 56) (.seq (.seq (.reg [
 mv 57 11,
 mv 58 10,
 qo 59 (.p (arF .lss (tt 57) (tt 58))) [pp 57,pp 58],
 mv 60 59,
 mg 61 6 60 false,
 mg 62 10 60 false,
 qg 63 (.p (faddrF (tt 9) 1)) 60 false [pp 9],
 qg 64 (.r (loadF (tt 63) 1 .sc)) 60 false [pp 63],
 qg 65 (.p (convF .u64 (tt 64))) 60 false [pp 64],
 mg 66 11 60 false,
 mg 67 10 60 false,
 qg 68 (.p (arF .sub (tt 66) (tt 67))) 60 false [pp 66,pp 67],
 qg 69 (.p (arF .add (tt 68) (.c (.int .u64 1)))) 60 false [pp 68],
 qg 70 (.p (arF .rem (tt 65) (tt 69))) 60 false [pp 65,pp 69],
 qg 71 (.p (arF .add (tt 62) (tt 70))) 60 false [pp 62,pp 70],
 qg 72 (.c (callF (ff 10) [(tt 61),(tt 71)])) 60 false [pp 61,pp 71],
 qg 73 (.p (eqcF true false [.int .i64] (tt 72) (ii 0))) 60 false [pp 72],
 qo 74 (.p (pickF (tt 60) (.c (.bool true)) (tt 73))) [pp 60,pp 73],
 mv 75 74,
 mg 76 6 75 false,
 qg 77 (.c (callF (ff 7) [(tt 76)])) 75 false [pp 76],
 mg 78 12 75 false,
 qg 79 (.p (arF .lss (tt 77) (tt 78))) 75 false [pp 77,pp 78],
 qo 80 (.p (pickF (tt 75) (.c (.bool true)) (tt 79))) [pp 75,pp 79]]) (
 .cond (tt 80) (.seq (.reg [
 qo 4 (.p (S.get (.c (.bool false)))) []]) (
 .ret)) (.skip))) (
 .exit 1)) (.skip))) (
 .seq (.seq (.reg [
 qo 81 (.p (faddrF (tt 9) 2)) [pp 9],
 qo 82 (.r (loadF (tt 81) 1 .sc)) [pp 81],
 qo 83 (.p (lenF (tt 82))) [pp 82],
 qo 84 (.p (eqcF false false [.int .i64] (tt 83) (ii 0))) [pp 83],
 mv 85 84,
 qg 86 (.p (faddrF (tt 9) 2)) 85 false [pp 9],
 qg 87 (.r (loadF (tt 86) 1 .sc)) 85 false [pp 86],
 qg 88 (.p (lenF (tt 87))) 85 false [pp 87],
 qg 89 (.p (arF .gtr (tt 88) (ii 32))) 85 false [pp 88],
 qo 90 (.p (pickF (tt 85) (.c (.bool true)) (tt 89))) [pp 85,pp 89]]) (
 .cond (tt 90) (.exit 1) (.skip))) (
 .seq (.reg [
 mv 92 6,
 qo 93 (.p (faddrF (tt 9) 2)) [pp 9],
 qo 94 (.r (loadF (tt 93) 1 .sc)) [pp 93],
 qo 95 (.c (callF (ff 11) [(tt 92),(tt 94)])) [pp 92,pp 94],
 mv 91 95,
 qo 96 (.p (extF (tt 91) 0)) [pp 91],
 qo 97 (.p (extF (tt 91) 1)) [pp 91],
 mv 13 96,
 mv 14 97]) (
 .seq (.seq (.reg [
 mv 98 14,
 qo 99 (.p (eqcF false false [.int .i64] (tt 98) (ii 2))) [pp 98]]) (
 .cond (tt 99) (.exit 1) (.skip))) (
 .seq (.reg [
 qo 100 (.p (faddrF (tt 9) 2)) [pp 9],
 qo 101 (.r (loadF (tt 100) 1 .sc)) [pp 100],
 qo 102 (.p (lenF (tt 101))) [pp 101],
 qo 103 (.c (callF (ff 12) [(tt 102)])) [pp 102],
 mv 15 103]) (
 .seq (.reg [
 mv 104 15,
 mv 105 12,
 qo 106 (.p (arF .leq (tt 104) (tt 105))) [pp 104,pp 105],
 mv 107 106,
 mg 108 11 107 true,
 mg 109 10 107 true,
 qg 110 (.p (arF .sub (tt 108) (tt 109))) 107 true [pp 108,pp 109],
 qg 111 (.p (arF .lss (tt 110) (.c (.int .u64 8)))) 107 true [pp 110],
 qo 112 (.p (pickF (tt 107) (tt 111) (.c (.bool false)))) [pp 107,pp 111],
 mv 16 112]) (
 .seq (.reg [
 mv 113 16,
 mv 114 14,
 qo 115 (.p (eqcF false false [.int .i64] (tt 114) (ii 0))) [pp 114],
 qo 116 (.p (eqcF true false [.bool] (tt 113) (tt 115))) [pp 113,pp 115],
 mv 117 116,
 mg 118 16 117 false,
 qg 119 (.p (unF .not (tt 118))) 117 false [pp 118],
 mg 120 119 117 false,
 mg 121 14 120 true,
 qg 122 (.p (eqcF true false [.int .i64] (tt 121) (ii 10))) 120 true [pp 121],
 qg 123 (.p (pickF (tt 120) (tt 122) (.c (.bool false)))) 117 false [pp 120,pp 122],
 qo 124 (.p (pickF (tt 117) (.c (.bool true)) (tt 123))) [pp 117,pp 123],
 mv 125 124,
 mg 126 16 125 false,
 mg 127 126 125 false,
 mg 128 13 127 true,
 mg 129 11 127 true,
 qg 130 (.p (eqcF true false [.int .u64] (tt 128) (tt 129))) 127 true [pp 128,pp 129],
 mg 131 130 127 true,
 mg 132 6 131 false,
 qg 133 (.c (callF (ff 7) [(tt 132)])) 131 false [pp 132],
 mg 134 12 131 false,
 mg 135 15 131 false,
 qg 136 (.p (arF .sub (tt 134) (tt 135))) 131 false [pp 134,pp 135],
 qg 137 (.p (eqcF true false [.int .i64] (tt 133) (tt 136))) 131 false [pp 133,pp 136],
 qg 138 (.p (pickF (tt 131) (.c (.bool true)) (tt 137))) 127 true [pp 131,pp 137],
 qg 139 (.p (pickF (tt 127) (tt 138) (.c (.bool false)))) 125 false [pp 127,pp 138],
 qo 140 (.p (pickF (tt 125) (.c (.bool true)) (tt 139))) [pp 125,pp 139],
 mv 141 140,
 mg 142 16 141 false,
 qg 143 (.p (unF .not (tt 142))) 141 false [pp 142],
 mg 144 143 141 false,
 mg 145 6 144 true,
 qg 146 (.c (callF (ff 7) [(tt 145)])) 144 true [pp 145],
 mg 147 12 144 true,
 qg 148 (.p (eqcF true false [.int .i64] (tt 146) (tt 147))) 144 true [pp 146,pp 147],
 qg 149 (.p (pickF (tt 144) (tt 148) (.c (.bool false)))) 141 false [pp 144,pp 148],
 qo 150 (.p (pickF (tt 141) (.c (.bool true)) (tt 149))) [pp 141,pp 149]]) (
 .cond (tt 150) (.seq (.reg [
 qo 4 (.p (S.get (.c (.bool false)))) []]) (
 .ret)) (.skip))))))))))))) (
 .reg [
 mv 42 8,
 qo 43 (.p (arF .add (tt 42) (ii 1))) [pp 42],
 mv 8 43]))
noncomputable def c3:CFn:=⟨[.tmp (pp 4)],
 .seq (.reg [
 qo 4 (.p (S.get (.c (.bool false)))) []]) (
 .seq (.reg [
 mv 20 0,
 qo 21 (.c (callF (ff 6) [(tt 20)])) [pp 20],
 mv 19 21,
 qo 22 (.p (extF (tt 19) 0)) [pp 19],
 qo 23 (.p (extF (tt 19) 1)) [pp 19],
 qo 24 (.p (extF (tt 19) 2)) [pp 19],
 mv 5 22,
 mv 6 23,
 mv 7 24]) (
 .seq (.seq (.reg [
 mv 25 7,
 qo 26 (.p (unF .not (tt 25))) [pp 25],
 mv 27 26,
 mg 28 6 27 false,
 qg 29 (.c (callF (ff 7) [(tt 28)])) 27 false [pp 28],
 mg 30 6 27 false,
 qg 31 (.c (callF (ff 8) [(tt 30)])) 27 false [pp 30],
 qg 32 (.p (eqcF true false [.int .i64] (tt 29) (tt 31))) 27 false [pp 29,pp 31],
 qo 33 (.p (pickF (tt 27) (.c (.bool true)) (tt 32))) [pp 27,pp 32]]) (
 .cond (tt 33) (.seq (.reg [
 qo 4 (.p (S.get (.c (.bool false)))) []]) (
 .ret)) (.skip))) (
 .seq (.seq (.reg [
 qo 8 (.p (S.get (ii 0))) []]) (
 .block 0 (.loop c3_l0))) (
 .seq (.reg [
 mv 152 6,
 qo 153 (.c (callF (ff 9) [(tt 152)])) [pp 152],
 mv 151 153,
 qo 154 (.p (extF (tt 151) 0)) [pp 151],
 qo 155 (.p (extF (tt 151) 1)) [pp 151],
 mv 17 154,
 mv 18 155]) (
 .seq (.seq (.reg [
 mv 156 18,
 mv 157 17,
 qo 158 (.p (arF .lss (tt 156) (tt 157))) [pp 156,pp 157],
 mv 159 158,
 mg 160 6 159 false,
 mg 161 18 159 false,
 qg 162 (.c (callF (ff 10) [(tt 160),(tt 161)])) 159 false [pp 160,pp 161],
 qg 163 (.p (eqcF true false [.int .i64] (tt 162) (ii 0))) 159 false [pp 162],
 qo 164 (.p (pickF (tt 159) (.c (.bool true)) (tt 163))) [pp 159,pp 163],
 mv 165 164,
 mg 166 6 165 false,
 qg 167 (.c (callF (ff 7) [(tt 166)])) 165 false [pp 166],
 mg 168 6 165 false,
 qg 169 (.c (callF (ff 8) [(tt 168)])) 165 false [pp 168],
 qg 170 (.p (eqcF true false [.int .i64] (tt 167) (tt 169))) 165 false [pp 167,pp 169],
 qo 171 (.p (pickF (tt 165) (.c (.bool true)) (tt 170))) [pp 165,pp 170]]) (
 .cond (tt 171) (.seq (.reg [
 qo 4 (.p (S.get (.c (.bool false)))) []]) (
 .ret)) (.skip))) (
 .seq (.reg [
 mv 172 6,
 mv 173 18,
 qo 174 (.p (arF .add (tt 173) (.c (.int .u64 1)))) [pp 173],
 qo 175 (.c (callF (ff 10) [(tt 172),(tt 174)])) [pp 172,pp 174],
 qo 176 (.p (eqcF false false [.int .i64] (tt 175) (ii 2))) [pp 175],
 mv 177 176,
 mg 178 6 177 true,
 mg 179 18 177 true,
 qg 180 (.p (arF .sub (tt 179) (.c (.int .u64 1)))) 177 true [pp 179],
 qg 181 (.c (callF (ff 10) [(tt 178),(tt 180)])) 177 true [pp 178,pp 180],
 qg 182 (.p (eqcF false false [.int .i64] (tt 181) (ii 2))) 177 true [pp 181],
 qo 183 (.p (pickF (tt 177) (tt 182) (.c (.bool false)))) [pp 177,pp 182],
 mv 184 183,
 qg 185 (.c (callF (ff 13) [])) 184 true [],
 qo 186 (.p (pickF (tt 184) (tt 185) (.c (.bool false)))) [pp 184,pp 185],
 mv 4 186]) (
 .ret)))))))⟩
structure Sp where
 cl:Bool
 n:Nat
 pp:Option Ptr
 cs:List Cl
 pc:Nat
 po:Nat
def Sp.row (s:Sp):List V:=[.bool s.cl,.int .u8 (s.n:Int),.slice s.pp s.cs.length s.pc s.po]
structure SpsAt (H:Heap) (pp:Option Ptr) (L:List Sp):Prop where
 has:L≠[]→∃ x ox ro rows,pp=some ⟨x,ox*3⟩∧H.Old x∧H.get x=some (.rows ro 3 rows)∧∀ i,(hi:i < L.length)→rows[ox+i]?=some L[i].row
 cells:∀ s ∈ L,CellsAt H s.pp s.cs
 n:∀ s ∈ L,s.n < 256
theorem SpsAt.turns {H H':Heap} {pp:Option Ptr} {L:List Sp} (h:SpsAt H pp L) (k:Turns Z H H'):SpsAt H' pp L:=⟨fun e=>by
 obtain⟨x,ox,ro,rows,hp,ho,hg,hr⟩:=h.has e
 exact⟨x,ox,ro,rows,hp,ho.mono k.next,(k.same x ho (fun h=>h)).trans hg,hr⟩,fun s hs=>(h.cells s hs).turnsZ k,h.n⟩
theorem SpsAt.load {H:Heap} {pp:Option Ptr} {L:List Sp} (h:SpsAt H pp L) {i:Nat} (hi:i < L.length):∃ x ox,pp=some ⟨x,ox*3⟩∧ldO (H.get x) (ox*3+i*3) 3=some L[i].row:=by
 obtain⟨x,ox,ro,rows,hp,ho,hg,hr⟩:=h.has (fun e=>by rw[e] at hi;simp at hi)
 refine⟨x,ox,hp,?_⟩
 show loadAt H ⟨x,ox*3+i*3⟩ 3=_
 have e1:(ox*3+i*3) / 3=ox+i:=by omega
 have e2:(ox*3+i*3) % 3=0:=by omega
 rw[loadAt_eq hg (r:=L[i].row) (nth_of (by rw[e1];exact hr i hi)),e2]
 rfl
section
variable {lf K:Nat} (hlf:1000 < lf)
include hlf
end
end Go.Proofs.YtabebpemfinejaaDoor.draft
namespace Go.Proofs.YtabebpemfinejaaDoor.disk
open Go.Am
theorem wf_u8 {n:Int} (h:(Lit.int .u8 n).wf=true):∃ s:Nat,s < 256∧n=(s:Int):=by
 have h:(decide (IntKind.u8.min≤n)&&decide (n≤IntKind.u8.max))=true:=h
 simp only[Bool.and_eq_true,decide_eq_true_eq] at h
 have h1:(0:Int)≤n:=h.1
 have h2:n≤255:=h.2
 exact⟨n.toNat,by omega,(Int.toNat_of_nonneg h1).symm⟩
theorem u8_of {a:Nat→Option Am.Obj} {u:V} (h:FitsV a (.int .u8) u):∃ s:Nat,s < 256∧u=.int .u8 (s:Int):=by
 obtain⟨C,⟨n,hw,rfl⟩,hu⟩:=h
 cases hu
 obtain⟨s,hs,rfl⟩:=wf_u8 hw
 exact⟨s,hs,rfl⟩
end Go.Proofs.YtabebpemfinejaaDoor.disk
