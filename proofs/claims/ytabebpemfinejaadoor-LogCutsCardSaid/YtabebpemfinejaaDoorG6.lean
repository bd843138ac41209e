import Derived.Test.YtabebpemfinejaaDoorG5
import Derived.Test.YtabebpemfinejaaDoorG3
set_option linter.unusedVariables false
set_option linter.unusedSectionVars false
set_option linter.unusedSimpArgs false
set_option maxRecDepth 10000
open Nat renaming reduceEqDiff → zA, reduceLeDiff → zB, reduceSub → zC, reduceMul → zD, reduceMod → zE, reduceDiv → zF, reduceAdd → zG
open Int renaming reduceBEq → zH
namespace Go.Proofs.YtabebpemfinejaaDoor.draft
open Go.Am
open disk (bx Fit A1 R1 Low Bn)
noncomputable def recC (B:Bn) (R:Nat) (nt:Nt) (c:Int):Int:=if c≠0 then c else if sumB (recR B R nt.pos (recS nt.cells))≠nt.sum then 6 else if getOk (recR B R nt.pos (recS nt.cells)) nt.cells=false then 5 else 0
section
variable {lf K:Nat} (hlf:1000 < lf)
include hlf
theorem ulrecord {G:Heap} {l b:Bk} {id R cnt first tail head:Nat} {N:List Nt} {lv:V} (h:LogAt G l b id R cnt first tail head N lv) (bo:G.Old b) {B:Bn} (hb:G.get b=some (bx false B)) (hf:Fit B) {q:Nat} (hq:q < 18446744073709551616) (hnt:∀ i (hi:i < N.length),(1≤N[i].cells∧N[i].cells≤32)∧N[i].sum < 4294967296∧recS N[i].cells≤R∧N[i].pos+recS N[i].cells≤4611686018427387904) {c:Int} (hrc:∀ i (hi:i < N.length),first+i=q→∀ j,j < recS N[i].cells→B.rc 0 (((N[i].pos+j) % R+10:Nat):Int)=c) (n:Nat) :
    ret (U lf K (n+4) 16 [.ptr (some ⟨l,0⟩),.int .u64 (q:Int)] G) fun v G'=>Turns Z G G' ∧
      (((q < first∨first+N.length≤q)∧v=.tuple [.slice none 0 0 0,.int .i64 7]) ∨
       (∃(i:Nat) (hi:i < N.length),first+i=q∧((recC B R N[i] c≠0∧v=.tuple [.slice none 0 0 0,.int .i64 (recC B R N[i] c)])∨(recC B R N[i] c=0∧∃ y,v=.tuple [y,.int .i64 0]∧Lst G G' 66 (rowsC (getL (recR B R N[i].pos (recS N[i].cells)) N[i].cells)) y)))):=by
  have e0:=ulnone hlf h (K:=K) (n+2)
  have eN:=ulnext hlf h (K:=K) (n+2)
  obtain⟨hg,G0,hN,hG0⟩:=h.ex
  have hfn:=h.fn
  have hnl:=h.nl
  have hRb:=h.rb
  have hrl:=rowsT_len N
  obtain⟨lp,lc,lo,rfl⟩:=hN.val
  rw[hrl] at hg hN
  have k5:cut (lcells b id R cnt first tail head (.slice lp N.length lc lo)) 5 1=some [.int .u64 (first:Int)]:=rfl
  have k8:cut (lcells b id R cnt first tail head (.slice lp N.length lc lo)) 8 1=some [.slice lp N.length lc lo]:=rfl
  obtain⟨nx,hnx⟩:∃ nx,nx=first+N.length:=⟨_,rfl⟩
  rw[← hnx] at eN ⊢
  obtain⟨PB,hPB⟩:∃ PB:Prop,PB=(q < first∨nx≤q):=⟨_,rfl⟩
  rw[← hPB]
  refine ret_callU rfl rfl c16_eq ?_
  by_cases h1:q < first
  · simp (maxDischargeDepth:=12) only[c16,e0,hg,k5,h1,hv,ldO_one,stO_one,sy,tup,↓reduceIte,zA,zG,zC,zD,zF,zE,zB,zH,reduceCtorEq]
    exact⟨trivial,.inr trivial,_,rfl,Turns.refl _ _,.inl ⟨by rw[hPB];exact .inl h1,rfl⟩⟩
  by_cases h2:nx≤q
  · simp (maxDischargeDepth:=12) only[c16,e0,hg,k5,h1,h2,eN,hv,ldO_one,stO_one,sy,tup,↓reduceIte,zA,zG,zC,zD,zF,zE,zB,zH,reduceCtorEq]
    exact⟨trivial,.inr trivial,_,rfl,Turns.refl _ _,.inl ⟨by rw[hPB];exact .inr h2,rfl⟩⟩
  obtain⟨i,hiq⟩:∃ i,i=q - first:=⟨_,rfl⟩
  have hi:i < N.length:=by omega
  have hqi:first+i=q:=by omega
  have w1:IntKind.u64.wrap ((q:Int) - (first:Int))=(i:Int):=by rw[Go.Am.wrap_u64 (by omega)];omega
  obtain⟨m,em,hld⟩:=hN.load (i:=i) (o:=0) (k:=4) (r:=ntV N[i]) (rowsT_get hi) (by decide)
  rw[ld_get,Nat.add_zero,show cut (ntV N[i]) 0 4=some (ntV N[i]) from rfl] at hld
  have elp:lp=some ⟨.run m,0⟩:=(V.slice.inj em).1
  subst elp
  have hle:i+1≤N.length:=hi
  obtain⟨⟨hc1,hc2⟩,hsum,hkR,hpk⟩:=hnt i hi
  have hrci:=hrc i hi hqi
  have hsel:∀(v:V) (G':Heap),(((recC B R N[i] c≠0∧v=.tuple [.slice none 0 0 0,.int .i64 (recC B R N[i] c)])∨(recC B R N[i] c=0∧∃ y,v=.tuple [y,.int .i64 0]∧Lst G G' 66 (rowsC (getL (recR B R N[i].pos (recS N[i].cells)) N[i].cells)) y)))→((PB∧v=.tuple [.slice none 0 0 0,.int .i64 7])∨(∃(i:Nat) (hi:i < N.length),first+i=q∧((recC B R N[i] c≠0∧v=.tuple [.slice none 0 0 0,.int .i64 (recC B R N[i] c)])∨(recC B R N[i] c=0∧∃ y,v=.tuple [y,.int .i64 0]∧Lst G G' 66 (rowsC (getL (recR B R N[i].pos (recS N[i].cells)) N[i].cells)) y)))):=fun v G' hx=>.inr ⟨i,hi,hqi,hx⟩
  have hcc:recC B R N[i] c=if c≠0 then c else if sumB (recR B R N[i].pos (recS N[i].cells))≠N[i].sum then 6 else if getOk (recR B R N[i].pos (recS N[i].cells)) N[i].cells=false then 5 else 0:=rfl
  have hge:∀ {P:Nt→Prop},P N[i]→∃ nt,nt=N[i]∧P nt:=fun h=>⟨_,rfl,h⟩
  generalize N[i]=nt at hld hc1 hc2 hsum hkR hpk hrci hsel hcc
  obtain⟨sq,pos,cl,sm⟩:=nt
  dsimp only at hc1 hc2 hsum hkR hpk hrci hsel hcc
  unfold ntV at hld
  dsimp only at hld
  have wid4:width [V.int .u64 (sq:Int),.int .u64 (pos:Int),.int .i64 (cl:Int),.int .u32 (sm:Int)]=4:=rfl
  have put4:put [V.int .u64 0,.int .u64 0,.int .i64 0,.int .u32 0] 0 [.int .u64 (sq:Int),.int .u64 (pos:Int),.int .i64 (cl:Int),.int .u32 (sm:Int)]=some [.int .u64 (sq:Int),.int .u64 (pos:Int),.int .i64 (cl:Int),.int .u32 (sm:Int)]:=rfl
  have c1:cut [V.int .u64 (sq:Int),.int .u64 (pos:Int),.int .i64 (cl:Int),.int .u32 (sm:Int)] 1 1=some [.int .u64 (pos:Int)]:=rfl
  have c2:cut [V.int .u64 (sq:Int),.int .u64 (pos:Int),.int .i64 (cl:Int),.int .u32 (sm:Int)] 2 1=some [.int .i64 (cl:Int)]:=rfl
  have c3:cut [V.int .u64 (sq:Int),.int .u64 (pos:Int),.int .i64 (cl:Int),.int .u32 (sm:Int)] 3 1=some [.int .u32 (sm:Int)]:=rfl
  have t1:Turns Z G ((G.add (.rows false 4 [[.int .u64 0,.int .u64 0,.int .i64 0,.int .u32 0]])).set (.run G.next) (.rows false 4 [[.int .u64 (sq:Int),.int .u64 (pos:Int),.int .i64 (cl:Int),.int .u32 (sm:Int)]])):=by repeat (first | exact Turns.refl _ _ | apply Turns.skip | apply Turns.addm | apply Turns.setb | apply Turns.setl | apply Turns.setr | refine Turns.setn ?_ _ (by omega) _ | refine Turns.trans ?_ (tF _))
  have hn1:((G.add (.rows false 4 [[.int .u64 0,.int .u64 0,.int .i64 0,.int .u32 0]])).set (.run G.next) (.rows false 4 [[.int .u64 (sq:Int),.int .u64 (pos:Int),.int .i64 (cl:Int),.int .u32 (sm:Int)]])).get (.run G.next)=some (.rows false 4 [[.int .u64 (sq:Int),.int .u64 (pos:Int),.int .i64 (cl:Int),.int .u32 (sm:Int)]]):=by rw[Heap.get_set,if_pos rfl]
  obtain⟨G1,hG1⟩:∃ G1,(G.add (.rows false 4 [[.int .u64 0,.int .u64 0,.int .i64 0,.int .u32 0]])).set (.run G.next) (.rows false 4 [[.int .u64 (sq:Int),.int .u64 (pos:Int),.int .i64 (cl:Int),.int .u32 (sm:Int)]])=G1:=⟨_,rfl⟩
  have n1:G1.next=G.next+1:=by rw[← hG1];rfl
  rw[hG1] at t1 hn1
  have eZ:=usize hlf (K:=K) G1 (k:=cl) (by omega) (n+1)
  rw[szR_rec hlf hc1 hc2] at eZ
  have hk1:1≤recS cl:=by unfold recS;omega
  have hk34:recS cl≤34:=by unfold recS;omega
  obtain⟨k,hk⟩:∃ k,k=recS cl:=⟨_,rfl⟩
  rw[← hk] at eZ hkR hpk hrci hk1 hk34
  have h1':LogAt G1 l b id R cnt first tail head N (.slice (some ⟨.run m,0⟩) N.length lc lo):=⟨⟨(t1.same l h.old (fun h=>h)).trans hg,G0,hN.turns t1 (fun _ _ h=>h),Nat.le_trans hG0 t1.next⟩,h.old.mono t1.next,h.rb,h.rg,h.fn,h.nl⟩
  obtain⟨Q,hQ⟩:∃ Q:List (Option V × Option V),Q=[(loadF (.t (Tr.path 41)) 1 .sc (Tr.setP (Tr.path 41) (.ptr (some ⟨.run G.next,1⟩)) .e) G1,some (.int .u64 (pos:Int))),(loadF (.t (Tr.path 41)) 1 .sc (Tr.setP (Tr.path 41) (.ptr (some ⟨.run G.next,1⟩)) .e) G1,some (.int .u64 (pos:Int)))]:=⟨_,rfl⟩
  have hQ':∀ x ∈ Q,x.1=x.2:=by
    rw[hQ]
    intro x hx
    simp only[List.mem_cons,List.not_mem_nil,or_false] at hx
    rcases hx with rfl | rfl<;>simp (maxDischargeDepth:=12) only[hn1,c1,hv,ldO_one,stO_one,sy,tup,↓reduceIte,zA,zG,zC,zD,zF,zE,zB,zH,reduceCtorEq]
  obtain⟨v2,G2,e2,u,rfl,hu0,hu1,hu,t2⟩:=ulsectors hlf (K:=K) h1' (p:=pos) (k:=k) hpk ⟨hk1,hkR⟩ n
  simp (maxDischargeDepth:=12) only[c16,e0,hg,k5,k8,h1,h2,eN,w1,hle,hld,wid4,put4,hG1,Nat.mul_one,hv,ldO_one,stO_one,sy,tup,↓reduceIte,zA,zG,zC,zD,zF,zE,zB,zH,reduceCtorEq]
  rw[endD_ok (by kernel_rfl) (by kernel_rfl)]
  simp (maxDischargeDepth:=12) only[hn1,c1,c2,eZ,e2,hv,ldO_one,stO_one,sy,tup,↓reduceIte,zA,zG,zC,zD,zF,zE,zB,zH,reduceCtorEq]
  rw[endD_q (q:=Q) (by kernel_rfl) (by rw[hQ];kernel_rfl)]
  have t2':=t2.owe hQ'
  have hu':(G2.owe Q).get (.run u)=some (.rows false 1 (rowsI (secs R pos k))):=by rw[get_owe];exact hu
  have hu1':u < (G2.owe Q).next:=hu1
  obtain⟨G3,hG3⟩:∃ G3,G2.owe Q=G3:=⟨_,rfl⟩
  rw[hG3] at t2' hu' hu1' ⊢
  have t13:=t1.trans t2'
  have hg3:=(t13.same l h.old (fun h=>h)).trans hg
  have hb3:=(t13.same b bo (fun h=>h)).trans hb
  have hn3:=(t2'.same (.run G.next) (by show _ < _;omega) (fun h=>h)).trans hn1
  have o3:G.next < G3.next:=by have:=t2'.next;omega
  have hloop:=ulrecord_read hlf (K:=K) hg3 (h.old.mono t13.next) hb3 (bo.mono t13.next) hf hu' hu1' (by omega) hRb hrci (t6:=.ptr (some ⟨.run G.next,0⟩)) (n+2)
  simp (maxDischargeDepth:=12) only[hv,ldO_one,stO_one,sy,tup,↓reduceIte,zA,zG,zC,zD,zF,zE,zB,zH,reduceCtorEq]
  refine wp_ctx (F:=fun r=>seqC _ _ _ (blockC _ r)) (hloop _ ?_ ?_ ?_ ?_ ?_ ?_) ?_
  · simp only[sy,tup,↓reduceIte,zA,zG,zC,zD,zF,zE,zB,zH,reduceCtorEq]
  · simp only[sy,tup,↓reduceIte,zA,zG,zC,zD,zF,zE,zB,zH,reduceCtorEq]
  · simp only[sy,tup,↓reduceIte,zA,zG,zC,zD,zF,zE,zB,zH,reduceCtorEq]
  · simp only[sy,tup,↓reduceIte,zA,zG,zC,zD,zF,zE,zB,zH,reduceCtorEq]
  · simp only[sy,tup,↓reduceIte,zA,zG,zC,zD,zF,zE,zB,zH,reduceCtorEq]
  · simp only[sy,tup,↓reduceIte,zA,zG,zC,zD,zF,zE,zB,zH,reduceCtorEq]
  rintro x ⟨t,G4,dd⟩ ⟨hd,t4,⟨rfl,hc0,q6,y,q7,hy⟩ | ⟨rfl,hc0,q4,q5⟩⟩
  rotate_left
  · dsimp only at hd t4 q4 q5
    subst hd
    simp (maxDischargeDepth:=12) only[q4,q5,hv,ldO_one,stO_one,sy,tup,↓reduceIte,zA,zG,zC,zD,zF,zE,zB,zH,reduceCtorEq]
    rw[if_pos hc0] at hcc
    rw[hcc] at hsel
    exact⟨trivial,.inr trivial,_,rfl,t13.trans t4,hsel _ _ (.inl ⟨hc0,rfl⟩)⟩
  dsimp only at hd t4 q6 q7 hy
  subst hd
  have hcz:c=0:=by
    rcases hc0 with h | h
    · omega
    · exact h
  rw[if_neg (fun h=>h hcz),← hk] at hcc
  have hAl:=recR_len B R pos k
  obtain⟨A,hA⟩:∃ A,A=recR B R pos k:=⟨_,rfl⟩
  rw[← hA] at hcc hy hAl
  have t14:=t13.trans t4
  have hn4:=(t4.same (.run G.next) (by show _ < _;exact o3) (fun h=>h)).trans hn3
  obtain⟨v5,G5,e5,rfl,t5⟩:=usum (K:=K) hlf (G:=G4) (v:=y) (l:=A) (fun H tH=>blks_lst (hy.turns tH (fun _ _ h=>h))) (by omega) n
  have hn5:=(t5.same (.run G.next) (by show _ < _;exact Nat.lt_of_lt_of_le o3 t4.next) (fun h=>h)).trans hn4
  obtain⟨Q2,hQ2⟩:∃ Q2:List (Option V × Option V),Q2=[(loadF (.t (Tr.path 75)) 1 .sc (Tr.setP (Tr.path 75) (.ptr (some ⟨.run G.next,3⟩)) .e) G4,some (.int .u32 (sm:Int))),(loadF (.t (Tr.path 75)) 1 .sc (Tr.setP (Tr.path 75) (.ptr (some ⟨.run G.next,3⟩)) .e) G5,some (.int .u32 (sm:Int)))]:=⟨_,rfl⟩
  have hQ2':∀ x ∈ Q2,x.1=x.2:=by
    rw[hQ2]
    intro x hx
    simp only[List.mem_cons,List.not_mem_nil,or_false] at hx
    rcases hx with rfl | rfl<;>simp (maxDischargeDepth:=12) only[hn4,hn5,c3,hv,ldO_one,stO_one,sy,tup,↓reduceIte,zA,zG,zC,zD,zF,zE,zB,zH,reduceCtorEq]
  obtain⟨sA,hsA⟩:∃ sA,sA=sumB A:=⟨_,rfl⟩
  rw[← hsA] at e5 hcc
  simp (maxDischargeDepth:=12) only[q6,q7,e5,hn5,c3,hv,ldO_one,stO_one,sy,tup,↓reduceIte,zA,zG,zC,zD,zF,zE,zB,zH,reduceCtorEq]
  rw[endD_q (q:=Q2) (by kernel_rfl) (by rw[hQ2];kernel_rfl)]
  have t5':=t5.owe hQ2'
  have hn6:(G5.owe Q2).get (.run G.next)=_:=(get_owe _ _ _).trans hn5
  obtain⟨G6,hG6⟩:∃ G6,G5.owe Q2=G6:=⟨_,rfl⟩
  rw[hG6] at t5' hn6 ⊢
  have t16:=t14.trans t5'
  by_cases hs:sA=sm
  rotate_left
  · have hs':((sA:Int)==(sm:Int))=false:=by rw[beq_eq_false_iff_ne];omega
    rw[if_pos hs] at hcc
    rw[hcc] at hsel
    simp (maxDischargeDepth:=12) only[hs',hv,ldO_one,stO_one,sy,tup,↓reduceIte,zA,zG,zC,zD,zF,zE,zB,zH,reduceCtorEq]
    exact⟨trivial,.inr trivial,_,rfl,t16,hsel _ _ (.inl ⟨by decide,rfl⟩)⟩
  have hs':((sA:Int)==(sm:Int))=true:=by rw[hs];exact beq_self_eq_true _
  rw[if_neg (fun h=>h hs)] at hcc
  have hy6:=hy.turns t5' (fun _ _ h=>h)
  have hAk:A.length=recS cl:=by rw[hAl,hk]
  obtain⟨w,ey,hw,wo⟩:∃ w,y=.slice (some ⟨.run w,0⟩) (recS cl) (recS cl) 64∧G6.get (.run w)=some (.rows false 64 (rowsK A))∧w < G6.next:=by
    rcases hy6 with ⟨e,_⟩ | ⟨w,_,e,hg,_,hw⟩
    · have:=congrArg List.length e
      rw[rowsK_len,hAl] at this
      simp only[List.length_nil] at this
      omega
    · rw[rowsK_len,hAk] at e
      exact⟨w,e,hg,hw⟩
  subst ey
  obtain⟨v7,G7,e7,t7,h7⟩:=ucget hlf (K:=K) (c:=recS cl) (z:=64) hw wo ⟨hc1,hc2⟩ hAk n
  rcases h7 with ⟨hgo,y7,rfl,hy7⟩ | ⟨hgo,rfl⟩
  · rw[if_neg (by rw[hgo];decide)] at hcc
    simp (maxDischargeDepth:=12) only[hs',q6,q7,hn6,c2,e7,hv,ldO_one,stO_one,sy,tup,↓reduceIte,zA,zG,zC,zD,zF,zE,zB,zH,reduceCtorEq]
    refine⟨trivial,.inr trivial,_,rfl,t16.trans t7,hsel _ _ (.inr ⟨hcc,y7,rfl,?_⟩)⟩
    rw[← hk,← hA]
    rcases hy7 with e | ⟨j,a1,a2,a3,a4,a5⟩
    · exact .inl e
    · exact .inr ⟨j,a1,a2,a3,Nat.le_trans t16.next a4,a5⟩
  · rw[if_pos hgo] at hcc
    rw[hcc] at hsel
    simp (maxDischargeDepth:=12) only[hs',q6,q7,hn6,c2,e7,hv,ldO_one,stO_one,sy,tup,↓reduceIte,zA,zG,zC,zD,zF,zE,zB,zH,reduceCtorEq]
    exact⟨trivial,.inr trivial,_,rfl,t16.trans t7,hsel _ _ (.inl ⟨by decide,rfl⟩)⟩
end
end Go.Proofs.YtabebpemfinejaaDoor.draft
namespace Go.Proofs.YtabebpemfinejaaDoor.draft
open Go.Am
end Go.Proofs.YtabebpemfinejaaDoor.draft
namespace Go.Proofs.YtabebpemfinejaaDoor.draft
open Go.Am
theorem hd_byte (l:List Cl) (hl:∀ i,(∀ x ∈ placeL (l.getD i noC),x < 256)) (q:Nat):∀(m o:Nat),o < 64→byte (hdN l m q) o=if 16*q+o / 4 < m then(placeL (l.getD (16*q+o / 4) noC)).getD (o % 4) 0 else 0
 | 0,o,ho=>by
  rw[if_neg (by omega)]
  show (0 / 256 ^ o) % 256=0
  rw[Nat.zero_div]
 | m+1,o,ho=>by
  have ih:=hd_byte l hl q m o ho
  show byte (if q=m / 16 then layB (hdN l m q) (m % 16*4) (placeL (l.getD m noC)) else hdN l m q) o=_
  by_cases e:q=m / 16
  ·rw[if_pos e,layB_byte _ _ _ (hl m)]
   have hp3:(placeL (l.getD m noC)).length=3:=rfl
   rw[hp3]
   by_cases h:m % 16*4≤o∧o < m % 16*4+3
   ·rw[if_pos h,if_pos (by omega),show 16*q+o / 4=m by omega,show o - m % 16*4=o % 4 by omega]
   ·rw[if_neg h,ih]
    by_cases h1:16*q+o / 4 < m
    ·rw[if_pos h1,if_pos (by omega)]
    ·rw[if_neg h1]
     by_cases h2:16*q+o / 4 < m+1
     ·rw[if_pos h2]
      have:o % 4=3:=by omega
      rw[this];rfl
     ·rw[if_neg h2]
  ·rw[if_neg e,ih]
   by_cases h1:16*q+o / 4 < m
   ·rw[if_pos h1,if_pos (by omega)]
   ·rw[if_neg h1,if_neg (by omega)]
theorem place_lt {l:List Cl} (hl:l.all mayC=true) (i:Nat):∀ x ∈ placeL (l.getD i noC),x < 256:=by
 have hm:0≤(l.getD i noC).m∧(l.getD i noC).m < 16:=by
  rw[List.getD_eq_getElem?_getD]
  by_cases h:i < l.length
  ·rw[List.getElem?_eq_getElem h]
   have:=mayC_t (List.all_eq_true.1 hl l[i] (List.getElem_mem h))
   exact⟨this.2.2.1,this.2.2.2⟩
  ·rw[List.getElem?_eq_none (by omega)]
   exact⟨by decide,by decide⟩
 intro x hx
 unfold placeL at hx
 simp only[List.mem_cons,List.not_mem_nil,or_false] at hx
 rcases hx with rfl | rfl | rfl
 ·exact dig_lt _ _
 ·exact dig_lt _ _
 ·omega
theorem recL_get {l:List Cl} {k:Nat} (hk:k < recS l.length):(recL l).getD k 0=if k < headsN l.length then hdN l l.length k else(l.getD (k - headsN l.length) noC).x:=by
 have hk':k < (recL l).length:=by rw[recL_len];exact hk
 have e:(recL l)[k]'hk'=_:=outA_get l l.length k hk'
 rw[getD_get hk',e]
 by_cases h:k < headsN l.length
 ·rw[if_pos h,if_pos h]
 ·rw[if_neg h,if_neg h,if_pos (by have:recS l.length=headsN l.length+l.length:=rfl;omega)]
theorem plB_rec {l:List Cl} (hl:l.all mayC=true) {i j:Nat} (hi:i < headsN l.length*16) (hj:j < 4):plB (recL l) i j=if i < l.length then(placeL (l.getD i noC)).getD j 0 else 0:=by
 unfold plB
 have hh:headsN l.length≤recS l.length:=Nat.le_add_right _ _
 rw[recL_get (by omega),if_pos (by omega),hd_byte l (place_lt hl) _ _ _ (by omega)]
 rw[show 16*(i / 16)+(i % 16*4+j) / 4=i by omega,show (i % 16*4+j) % 4=j by omega]
theorem plS_rec {l:List Cl} (hl:l.all mayC=true) {i:Nat} (hi:i < l.length):(plS (recL l) i:Int)=l[i].s∧(plB (recL l) i 2:Int)=l[i].m∧plB (recL l) i 3=0:=by
 have hh:headsN l.length=(l.length+15) / 16:=rfl
 have hm:=mayC_t (List.all_eq_true.1 hl l[i] (List.getElem_mem hi))
 have hg:l.getD i noC=l[i]:=by rw[List.getD_eq_getElem?_getD,List.getElem?_eq_getElem hi];rfl
 have hp:∀ j,j < 4→plB (recL l) i j=(placeL l[i]).getD j 0:=fun j hj=>by rw[plB_rec hl (by omega) hj,if_pos hi,hg]
 refine⟨?_,?_,?_⟩
 ·unfold plS
  rw[leN_dig (x:=l[i].s.toNat) (by omega) (fun j hj=>?_)]
  ·omega
  ·rw[hp j (by omega)]
   have:j=0∨j=1:=by omega
   rcases this with rfl | rfl<;>rfl
 ·rw[hp 2 (by omega)]
  show ((l[i].m.toNat:Nat):Int)=_
  omega
 ·rw[hp 3 (by omega)];rfl
theorem get_rec {l:List Cl} (hl:l.all mayC=true):getOk (recL l) l.length=true∧getL (recL l) l.length=l:=by
 have hh:headsN l.length=(l.length+15) / 16:=rfl
 constructor
 ·unfold getOk
  rw[Bool.and_eq_true]
  constructor
  ·rw[List.all_eq_true]
   intro i hi
   have hi:=List.mem_range.1 hi
   obtain⟨e1,e2,e3⟩:=plS_rec hl hi
   unfold plOk
   rw[e1,e2,e3]
   have:mayC l[i]=true:=List.all_eq_true.1 hl l[i] (List.getElem_mem hi)
   unfold mayC at this
   rw[this];rfl
  ·rw[List.all_eq_true]
   intro j hj
   have hj:=List.mem_range.1 hj
   unfold plZ
   rw[plB_rec hl (by omega) (by decide),plB_rec hl (by omega) (by decide),plB_rec hl (by omega) (by decide),plB_rec hl (by omega) (by decide)]
   simp only[if_neg (show ¬ (l.length+j < l.length) by omega)]
   rfl
 ·unfold getL
  apply List.ext_getElem
  ·rw[List.length_map,List.length_range]
  ·intro i h1 h2
   rw[List.getElem_map,List.getElem_range]
   obtain⟨e1,e2,_⟩:=plS_rec hl h2
   unfold cellA
   rw[e1,e2,recL_get (by have:recS l.length=headsN l.length+l.length:=rfl;omega),if_neg (by omega),Nat.add_sub_cancel_left]
   rw[List.getD_eq_getElem?_getD,List.getElem?_eq_getElem h2]
   rfl
end Go.Proofs.YtabebpemfinejaaDoor.draft
namespace Go.Proofs.YtabebpemfinejaaDoor.draft
open Go.Am
noncomputable def c14:CFn:=⟨[.tmp (pp 2)],
 .seq (.reg [
 qo 2 (.p (S.get (.c (.slice none 0 0 0)))) []]) (
 .seq (.reg [
 qo 3 (.p (S.get (.c (.slice none 0 0 0)))) []]) (
 .seq (.reg [
 mv 4 3,
 mv 5 0,
 qo 6 (.a (appF 66 80 (tt 4) (tt 5))) [pp 4,pp 5],
 mv 2 6]) (
 .ret)))⟩
theorem c14_eq:fnOf Tryd.prog 14=some c14:=by kernel_rfl
noncomputable def c17_l0:C:=.seq (.seq (.reg [
 mv 11 5,
 mv 12 0,
 qo 13 (.p (lenF (tt 12))) [pp 12],
 qo 14 (.p (arF .lss (tt 11) (tt 13))) [pp 11,pp 13]]) (
 .cond (tt 14) (.skip) (.exit 0))) (
 .seq (.block 1 (.seq (.regD [
 mv 17 0,
 mv 18 5,
 qo 19 (.p (iaddrSF (tt 17) (tt 18) 66)) [pp 17,pp 18],
 qo 20 (.r (loadF (tt 19) 66 .ag)) [pp 19],
 mv 21 1,
 mv 22 5,
 qo 23 (.p (iaddrSF (tt 21) (tt 22) 66)) [pp 21,pp 22],
 qo 24 (.r (loadF (tt 23) 66 .ag)) [pp 23],
 qo 25 (.p (eqcF true true [.int .i64,.int .i64,.blk] (tt 20) (tt 24))) [pp 20,pp 24]] [0,0,3,7,0,0,48,112,255]) (
 .cond (tt 25) (.seq (.reg [
 qo 4 (.p (S.get (.c (.bool false)))) []]) (
 .ret)) (.skip)))) (
 .reg [
 mv 15 5,
 qo 16 (.p (arF .add (tt 15) (ii 1))) [pp 15],
 mv 5 16]))
noncomputable def c17:CFn:=⟨[.tmp (pp 4)],
 .seq (.reg [
 qo 4 (.p (S.get (.c (.bool false)))) []]) (
 .seq (.seq (.reg [
 mv 6 0,
 qo 7 (.p (lenF (tt 6))) [pp 6],
 mv 8 1,
 qo 9 (.p (lenF (tt 8))) [pp 8],
 qo 10 (.p (eqcF true false [.int .i64] (tt 7) (tt 9))) [pp 7,pp 9]]) (
 .cond (tt 10) (.seq (.reg [
 qo 4 (.p (S.get (.c (.bool false)))) []]) (
 .ret)) (.skip))) (
 .seq (.seq (.reg [
 qo 5 (.p (S.get (ii 0))) []]) (
 .block 0 (.loop c17_l0))) (
 .seq (.reg [
 qo 4 (.p (S.get (.c (.bool true)))) []]) (
 .ret))))⟩
theorem c17_eq:fnOf Tryd.prog 17=some c17:=by kernel_rfl
structure ClsAt (H:Heap) (v:V) (l:List Cl):Prop where
 ex:∃ p c z,v=.slice p l.length c z
 get:∀(i:Nat) (hi:i < l.length),∃ x o c z,v=.slice (some ⟨x,o⟩) l.length c z∧ldO (H.get x) (o+i*66) 66=some (rowC l[i])
theorem rowsC_get {l:List Cl} {i:Nat} (hi:i < l.length):(rowsC l)[i]?=some (rowC l[i]):=by unfold rowsC;rw[List.getElem?_map,List.getElem?_eq_getElem hi];rfl
theorem cls_lst {H0 H:Heap} {v:V} {l:List Cl} (h:Lst H0 H 66 (rowsC l) v):ClsAt H v l:=by
 refine⟨?_,fun i hi=>?_⟩
 ·obtain⟨p,c,o,e⟩:=h.val
  rw[rowsC_len] at e
  exact⟨p,c,o,e⟩
 ·obtain⟨n,e,hl⟩:=h.load (i:=i) (o:=0) (k:=66) (r:=rowC l[i]) (rowsC_get hi) (by decide)
  rw[rowsC_len] at e
  refine⟨.run n,0,_,_,e,?_⟩
  rw[Nat.zero_add]
  have hl:loadAt H ⟨.run n,i*66+0⟩ 66=_:=hl
  rw[Nat.add_zero,ld_get] at hl
  exact hl
theorem cls_cells {H:Heap} {p:Option Ptr} {c z:Nat} {l:List Cl} (h:CellsAt H p l):ClsAt H (.slice p l.length c z) l:=by
 refine⟨⟨_,_,_,rfl⟩,fun i hi=>?_⟩
 obtain⟨x,ox,rfl,hl⟩:=h.load hi
 exact⟨x,ox*66,_,_,rfl,hl 0 66 (by decide)⟩
theorem elems_cells {H:Heap} {x:Bk} {ro:Bool} {rows:List (List V)} (hg:H.get x=some (.rows ro 66 rows)):∀(l:List Cl) (ox:Nat),(∀ i (hi:i < l.length),rows[ox+i]?=some (rowC l[i]))→elems H x 66 l.length (ox*66)=some (rowsC l)
 | [],ox,_=>rfl
 | c::l,ox,h=>by
  have h0:=h 0 (by simp)
  rw[Nat.add_zero] at h0
  have l0:loadAt H ⟨x,ox*66⟩ 66=some (rowC c):=by
   rw[loadAt_eq hg (r:=rowC c) (nth_of (by rw[Nat.mul_div_cancel _ (by decide)];exact h0)),Nat.mul_mod_left]
   rfl
  show elems H x 66 (l.length+1) (ox*66)=_
  unfold elems
  rw[l0]
  simp only
  rw[show Nat.add (ox*66) 66=(ox+1)*66 by show ox*66+66=_;rw[Nat.succ_mul],elems_cells hg l (ox+1) (fun i hi=>by
   have:=h (i+1) (by simpa using hi)
   rw[show ox+1+i=ox+(i+1) by omega,this]
   rfl)]
  rfl
section
variable {lf K:Nat} (hlf:1000 < lf)
include hlf
theorem ucopy {G:Heap} {p:Option Ptr} {c z:Nat} {l:List Cl} (h:CellsAt G p l) (hl:l.length≤1000) (n:Nat):ret (U lf K (n+1) 14 [.slice p l.length c z] G) fun v G'=>Lst G G' 66 (rowsC l) v∧Turns Z G G':=by
 have hrl:=rowsC_len l
 obtain⟨y,G1,ea,hy,t1⟩:∃ y G1,appendV 66 80 G (.slice none 0 0 0) (.slice p l.length c z)=some (y,G1)∧Lst G G1 66 (rowsC l) y∧Turns Z G G1:=by
  by_cases h0:l=[]
  ·subst h0
   exact⟨.slice none 0 0 0,G,rfl,.inl ⟨rfl,rfl⟩,Turns.refl _ _⟩
  ·obtain⟨x,ox,ro,rows,rfl,ho,hg,hr⟩:=h.has h0
   have hel:firstE G 66 (.slice (some ⟨x,ox*66⟩) l.length c z)=some (rowsC l):=elems_cells hg l ox hr
   obtain⟨G1,ea,hy,t1,_⟩:=(Lst.nil G G 66).app (by':=80) (x:=.slice (some ⟨x,ox*66⟩) l.length c z) (Nat.le_refl _) hel (by rw[hrl];rfl) (fun e=>h0 (List.map_eq_nil_iff.1 e)) (by decide) (by rw[hrl];simp only[List.length_nil];omega) (by rw[hrl];simp only[List.length_nil];omega)
   exact⟨_,G1,ea,hy,t1.wide (fun c ⟨_,_,_,_,e,_⟩=>by cases e)⟩
 refine ret_callU rfl rfl c14_eq ?_
 simp (maxDischargeDepth:=12) only[c14,ea,hv,ldO_one,stO_one,sy,tup,↓reduceIte,zA,zG,zC,zD,zF,zE,zB,zH,reduceCtorEq]
 exact⟨trivial,.inr trivial,_,rfl,hy,t1⟩
theorem ucells {G:Heap} {a b:V} {l:List Cl} (ha:ClsAt G a l) (hb:ClsAt G b l) (hl:l.length≤1000) (hf:l.length+1 < lf) (n:Nat):U lf K (n+1) 17 [a,b] G=some (.v (.bool true),G):=by
 obtain⟨v,H',e',rfl,rfl⟩:ret (U lf K (n+1) 17 [a,b] G) fun v H'=>v=.bool true∧H'=G:=by
  have hloop:∀ t:T,t.getP (Tr.path 0)=some a→t.getP (Tr.path 1)=some b→t.getP (Tr.path 5)=some (.int .i64 0)→wp (loopF (runC (U lf K n) lf c17_l0) lf ⟨t,G,[]⟩) fun x s=>x=.ex 0∧s.d=[]∧s.H=G:=by
   intro t q0 q1 q5
   refine wp_loopF (fun u s=>∃ i:Nat,u=l.length - i∧i≤l.length∧s.d=[]∧s.H=G∧s.t.getP (Tr.path 0)=some a∧s.t.getP (Tr.path 1)=some b∧s.t.getP (Tr.path 5)=some (.int .i64 (i:Int))) ?_ lf l.length _ ⟨0,rfl,by omega,rfl,rfl,q0,q1,q5⟩ (by omega)
   rintro u ⟨t,HH,d⟩ ⟨i,rfl,hi,hd,hH,q0,q1,q5⟩
   dsimp only at hd hH q0 q1 q5
   subst hd;subst hH
   by_cases hlt:i < l.length
   ·have hlt':(i:Int) < (l.length:Int):=by omega
    have hle:i+1≤l.length:=hlt
    have w1:IntKind.i64.wrap ((i:Int)+1)=((i+1:Nat):Int):=by rw[Go.Am.wrap_i64 (by omega)];omega
    obtain⟨x,o,c,z,rfl,lx⟩:=ha.get i hlt
    obtain⟨x',o',c',z',rfl,lx'⟩:=hb.get i hlt
    unfold rowC at lx lx'
    have bs:(l[i].s==l[i].s)=true:=beq_self_eq_true _
    have bm:(l[i].m==l[i].m)=true:=beq_self_eq_true _
    have bx:(l[i].x==l[i].x)=true:=beq_self_eq_true _
    simp (maxDischargeDepth:=12) only[c17_l0,q0,q1,q5,hlt',hlt,hle,lx,lx',hv,ldO_one,stO_one,sy,tup,↓reduceIte,zA,zG,zC,zD,zF,zE,zB,zH,reduceCtorEq]
    rw[endD_ok (by kernel_rfl) (by kernel_rfl)]
    simp (maxDischargeDepth:=12) only[q5,bs,bm,bx,w1,hv,ldO_one,stO_one,sy,tup,↓reduceIte,zA,zG,zC,zD,zF,zE,zB,zH,reduceCtorEq]
    exact⟨l.length - (i+1),by omega,i+1,rfl,hlt,trivial,trivial,q0,q1,by simp⟩
   ·have:i=l.length:=by omega
    subst this
    obtain⟨p,c,z,rfl⟩:=ha.ex
    simp (maxDischargeDepth:=12) only[c17_l0,q0,q1,q5,Int.lt_irrefl,Nat.lt_irrefl,hv,ldO_one,stO_one,sy,tup,↓reduceIte,zA,zG,zC,zD,zF,zE,zB,zH,reduceCtorEq]
    exact⟨trivial,trivial,trivial⟩
  obtain⟨p,c,z,rfl⟩:=ha.ex
  obtain⟨p',c',z',rfl⟩:=hb.ex
  have bl:((l.length:Int)==(l.length:Int))=true:=beq_self_eq_true _
  refine ret_callU rfl rfl c17_eq ?_
  simp (maxDischargeDepth:=12) only[c17,bl,hv,ldO_one,stO_one,sy,tup,↓reduceIte,zA,zG,zC,zD,zF,zE,zB,zH,reduceCtorEq]
  refine wp_ctx (F:=fun r=>seqC _ _ _ (blockC _ r)) (hloop _ ?_ ?_ ?_) ?_
  ·simp only[sy,tup,↓reduceIte,zA,zG,zC,zD,zF,zE,zB,zH,reduceCtorEq]
  ·simp only[sy,tup,↓reduceIte,zA,zG,zC,zD,zF,zE,zB,zH,reduceCtorEq]
  ·simp only[sy,tup,↓reduceIte,zA,zG,zC,zD,zF,zE,zB,zH,reduceCtorEq]
  rintro x ⟨t,HH,d⟩ ⟨rfl,hd,hH⟩
  dsimp only at hd hH
  subst hd;subst hH
  simp (maxDischargeDepth:=12) only[hv,ldO_one,stO_one,sy,tup,↓reduceIte,zA,zG,zC,zD,zF,zE,zB,zH,reduceCtorEq]
  simp
 exact e'
end
end Go.Proofs.YtabebpemfinejaaDoor.draft
namespace Go.Proofs.YtabebpemfinejaaDoor.draft
open Go.Am
open disk (bx Fit A1 R1 Low Bn)
noncomputable def c4_l0:C:=.seq (.seq (.reg [
 mv 100 20,
 mv 101 12,
 qo 102 (.p (lenF (tt 101))) [pp 101],
 qo 103 (.p (arF .lss (tt 100) (tt 102))) [pp 100,pp 102]]) (
 .cond (tt 103) (.skip) (.exit 4))) (
 .seq (.block 5 (.seq (.reg [
 mv 107 10,
 mv 108 20,
 qo 109 (.p (convF .u64 (tt 108))) [pp 108],
 qo 110 (.p (arF .add (tt 109) (.c (.int .u64 1)))) [pp 109],
 qo 111 (.c (callF (ff 16) [(tt 107),(tt 110)])) [pp 107,pp 110],
 mv 106 111,
 qo 112 (.p (extF (tt 106) 0)) [pp 106],
 qo 113 (.p (extF (tt 106) 1)) [pp 106],
 mv 21 112,
 mv 22 113]) (
 .seq (.seq (.reg [
 mv 114 20,
 mv 115 16,
 qo 116 (.p (eqcF false false [.int .i64] (tt 114) (tt 115))) [pp 114,pp 115],
 mv 117 116,
 mg 118 3 117 true,
 qg 119 (.p (eqcF true false [.int .u8] (tt 118) (.c (.int .u8 0)))) 117 true [pp 118],
 qo 120 (.p (pickF (tt 117) (tt 119) (.c (.bool false)))) [pp 117,pp 119]]) (
 .cond (tt 120) (.seq (.seq (.reg [
 mv 121 22,
 qo 122 (.p (eqcF true false [.int .i64] (tt 121) (ii 6))) [pp 121],
 mv 123 122,
 mg 124 21 123 false,
 qg 125 (.p (lenF (tt 124))) 123 false [pp 124],
 qg 126 (.p (eqcF true false [.int .i64] (tt 125) (ii 0))) 123 false [pp 125],
 qo 127 (.p (pickF (tt 123) (.c (.bool true)) (tt 126))) [pp 123,pp 126]]) (
 .cond (tt 127) (.seq (.reg [
 qo 8 (.p (S.get (.c (.bool false)))) []]) (
 .ret)) (.skip))) (
 .exit 5)) (.skip))) (
 .seq (.reg [
 mv 128 22,
 qo 129 (.p (eqcF true false [.int .i64] (tt 128) (ii 0))) [pp 128],
 mv 130 129,
 mg 131 21 130 false,
 mg 132 12 130 false,
 mg 133 20 130 false,
 qg 134 (.p (iaddrSF (tt 132) (tt 133) 1)) 130 false [pp 132,pp 133],
 qg 135 (.r (loadF (tt 134) 1 .sc)) 130 false [pp 134],
 qg 136 (.c (callF (ff 17) [(tt 131),(tt 135)])) 130 false [pp 131,pp 135],
 qg 137 (.p (unF .not (tt 136))) 130 false [pp 136],
 qo 138 (.p (pickF (tt 130) (.c (.bool true)) (tt 137))) [pp 130,pp 137]]) (
 .cond (tt 138) (.seq (.reg [
 qo 8 (.p (S.get (.c (.bool false)))) []]) (
 .ret)) (.skip)))))) (
 .reg [
 mv 104 20,
 qo 105 (.p (arF .add (tt 104) (ii 1))) [pp 104],
 mv 20 105]))
noncomputable def c4_l1:C:=.seq (.seq (.reg [
 mv 68 18,
 mv 69 16,
 qo 70 (.p (arF .lss (tt 68) (tt 69))) [pp 68,pp 69]]) (
 .cond (tt 70) (.skip) (.exit 2))) (
 .seq (.block 3 (.reg [
 mv 73 17,
 mv 74 12,
 mv 75 18,
 qo 76 (.p (iaddrSF (tt 74) (tt 75) 1)) [pp 74,pp 75],
 qo 77 (.r (loadF (tt 76) 1 .sc)) [pp 76],
 qo 78 (.p (lenF (tt 77))) [pp 77],
 qo 79 (.c (callF (ff 12) [(tt 78)])) [pp 78],
 qo 80 (.p (arF .add (tt 73) (tt 79))) [pp 73,pp 79],
 mv 17 80])) (
 .reg [
 mv 71 18,
 qo 72 (.p (arF .add (tt 71) (ii 1))) [pp 71],
 mv 18 72]))
noncomputable def c4_l2:C:=.seq (.seq (.reg [
 mv 30 13,
 mv 31 0,
 qo 32 (.p (lenF (tt 31))) [pp 31],
 qo 33 (.p (arF .lss (tt 30) (tt 32))) [pp 30,pp 32],
 mv 34 33,
 mg 35 13 34 true,
 qg 36 (.p (arF .lss (tt 35) (ii 8))) 34 true [pp 35],
 qo 37 (.p (pickF (tt 34) (tt 36) (.c (.bool false)))) [pp 34,pp 36]]) (
 .cond (tt 37) (.skip) (.exit 0))) (
 .seq (.block 1 (.seq (.reg [
 mv 41 10,
 mv 42 0,
 mv 43 13,
 qo 44 (.p (iaddrSF (tt 42) (tt 43) 1)) [pp 42,pp 43],
 qo 45 (.r (loadF (tt 44) 1 .sc)) [pp 44],
 qo 46 (.c (callF (ff 11) [(tt 41),(tt 45)])) [pp 41,pp 45],
 mv 40 46,
 qo 47 (.p (extF (tt 40) 0)) [pp 40],
 qo 48 (.p (extF (tt 40) 1)) [pp 40],
 mv 14 47,
 mv 15 48]) (
 .seq (.reg [
 mv 49 15,
 qo 50 (.p (eqcF false false [.int .i64] (tt 49) (ii 0))) [pp 49]]) (
 .cond (tt 50) (.reg [
 mv 51 12,
 mv 52 0,
 mv 53 13,
 qo 54 (.p (iaddrSF (tt 52) (tt 53) 1)) [pp 52,pp 53],
 qo 55 (.r (loadF (tt 54) 1 .sc)) [pp 54],
 qo 56 (.c (callF (ff 14) [(tt 55)])) [pp 55],
 qo 57 (.m (bsliceF 1 1 [.slice none 0 0 0] [(0,1,(tt 56))])) [pp 56],
 qo 58 (.a (appF 1 24 (tt 51) (tt 57))) [pp 51,pp 57],
 mv 12 58]) (.skip))))) (
 .reg [
 mv 38 13,
 qo 39 (.p (arF .add (tt 38) (ii 1))) [pp 38],
 mv 13 39]))
noncomputable def c4:CFn:=⟨[.tmp (pp 8)],
 .seq (.reg [
 qo 8 (.p (S.get (.c (.bool false)))) []]) (
 .seq (.reg [
 qo 24 (.c (callF (ff 6) [(.c (.int .u8 200))])) [],
 mv 23 24,
 qo 25 (.p (extF (tt 23) 0)) [pp 23],
 qo 26 (.p (extF (tt 23) 1)) [pp 23],
 qo 27 (.p (extF (tt 23) 2)) [pp 23],
 mv 9 25,
 mv 10 26,
 mv 11 27]) (
 .seq (.seq (.reg [
 mv 28 11,
 qo 29 (.p (unF .not (tt 28))) [pp 28]]) (
 .cond (tt 29) (.seq (.reg [
 qo 8 (.p (S.get (.c (.bool false)))) []]) (
 .ret)) (.skip))) (
 .seq (.reg [
 qo 12 (.p (S.get (.c (.slice none 0 0 0)))) []]) (
 .seq (.seq (.reg [
 qo 13 (.p (S.get (ii 0))) []]) (
 .block 0 (.loop c4_l2))) (
 .seq (.seq (.reg [
 mv 59 12,
 qo 60 (.p (lenF (tt 59))) [pp 59],
 qo 61 (.p (eqcF false false [.int .i64] (tt 60) (ii 0))) [pp 60]]) (
 .cond (tt 61) (.seq (.reg [
 qo 62 (.c (callF (ff 13) [])) [],
 mv 8 62]) (
 .ret)) (.skip))) (
 .seq (.reg [
 mv 63 1,
 qo 64 (.p (convF .i64 (tt 63))) [pp 63],
 mv 65 12,
 qo 66 (.p (lenF (tt 65))) [pp 65],
 qo 67 (.p (arF .rem (tt 64) (tt 66))) [pp 64,pp 66],
 mv 16 67]) (
 .seq (.reg [
 qo 17 (.p (S.get (ii 10))) []]) (
 .seq (.seq (.reg [
 qo 18 (.p (S.get (ii 0))) []]) (
 .block 2 (.loop c4_l1))) (
 .seq (.reg [
 mv 81 12,
 mv 82 16,
 qo 83 (.p (iaddrSF (tt 81) (tt 82) 1)) [pp 81,pp 82],
 qo 84 (.r (loadF (tt 83) 1 .sc)) [pp 83],
 qo 85 (.p (lenF (tt 84))) [pp 84],
 qo 86 (.c (callF (ff 12) [(tt 85)])) [pp 85],
 mv 19 86]) (
 .seq (.seq (.reg [
 mv 87 9,
 mv 88 17,
 mv 89 2,
 qo 90 (.p (convF .i64 (tt 89))) [pp 89],
 mv 91 19,
 qo 92 (.p (arF .rem (tt 90) (tt 91))) [pp 90,pp 91],
 qo 93 (.p (arF .add (tt 88) (tt 92))) [pp 88,pp 92],
 mv 94 2,
 qo 95 (.p (convF .i64 (tt 94))) [pp 94],
 qo 96 (.p (arF .rem (tt 95) (ii 64))) [pp 95],
 mv 97 3,
 qo 98 (.c (callF (ff 15) [(tt 87),(ii 0),(tt 93),(tt 96),(tt 97)])) [pp 87,pp 93,pp 96,pp 97],
 qo 99 (.p (eqcF true false [.int .i64] (tt 98) (ii 0))) [pp 98]]) (
 .cond (tt 99) (.seq (.reg [
 qo 8 (.p (S.get (.c (.bool false)))) []]) (
 .ret)) (.skip))) (
 .seq (.seq (.reg [
 qo 20 (.p (S.get (ii 0))) []]) (
 .block 4 (.loop c4_l0))) (
 .seq (.reg [
 qo 139 (.c (callF (ff 13) [])) [],
 mv 8 139]) (
 .ret)))))))))))))⟩
theorem LS.sameX {X:Bk→Prop} {G0 G G':Heap} {l b:Bk} {R i cnt first tail head:Nat} {N:List Nt} {lv:V} {S:List Nat} {st:Nat} (h:LS G0 G l b R i cnt first tail head N lv S st) (t:Turns X G G') (hb:¬ X b) (hl:¬ X l) (hv:∀ c,Bof lv c→¬ X c) (ho:∀ c,G0.Old c→¬ X c):LS G0 G' l b R i cnt first tail head N lv S st:=by
 obtain⟨hg,G1,hN,hn⟩:=h.log.ex
 exact { h with log:=⟨⟨(t.same l h.log.old hl).trans hg,G1,hN.turns t hv,Nat.le_trans hn t.next⟩,h.log.old.mono t.next,h.log.rb,h.log.rg,h.log.fn,h.log.nl⟩,hb:=(t.same b h.bo hb).trans h.hb,bo:=h.bo.mono t.next,t:=h.t.later t (fun c hc hx=>absurd hx (ho c hc)) }
theorem LS.lx {G0 G:Heap} {l b:Bk} {R i cnt first tail head:Nat} {N:List Nt} {lv:V} {S:List Nat} {st:Nat} (h:LS G0 G l b R i cnt first tail head N lv S st) {c:Bk} {w:Nat} {r:List (List V)} (hc:G.get c=some (.rows false w r)) (h9:w≠9) (h4:w≠4):¬ LX b l lv c:=by
 obtain⟨hg,G1,hN,hn⟩:=h.log.ex
 rintro(e | e | e)
 ·rw[e,h.hb] at hc;cases hc
 ·rw[e,hg] at hc;cases hc;exact h9 rfl
 ·obtain⟨_,_,_,_,hgB⟩:=hN.bof e
  rw[hgB] at hc;cases hc;exact h4 rfl
structure Ll where
 pp:Option Ptr
 cs:List Cl
 pc:Nat
 po:Nat
def Ll.v (s:Ll):V:=.slice s.pp s.cs.length s.pc s.po
structure LlsAt (H:Heap) (pp:Option Ptr) (L:List Ll):Prop where
 has:L≠[]→∃ x ox ro rows,pp=some ⟨x,ox⟩∧H.Old x∧H.get x=some (.rows ro 1 rows)∧∀ i,(hi:i < L.length)→rows[ox+i]?=some [L[i].v]
 cells:∀ s ∈ L,CellsAt H s.pp s.cs
 small:∀ s ∈ L,∀ c ∈ s.cs,c.x < 256 ^ 64
 len:∀ s ∈ L,s.cs.length≤9223372036854775807
theorem LlsAt.turns {H H':Heap} {pp:Option Ptr} {L:List Ll} (h:LlsAt H pp L) (k:Turns Z H H'):LlsAt H' pp L:=⟨fun e=>by
 obtain⟨x,ox,ro,rows,hp,ho,hg,hr⟩:=h.has e
 exact⟨x,ox,ro,rows,hp,ho.mono k.next,(k.same x ho (fun h=>h)).trans hg,hr⟩,fun s hs=>(h.cells s hs).turnsZ k,h.small,h.len⟩
theorem LlsAt.load {H:Heap} {pp:Option Ptr} {L:List Ll} (h:LlsAt H pp L) {i:Nat} (hi:i < L.length):∃ x ox,pp=some ⟨x,ox⟩∧ldO (H.get x) (ox+i) 1=some [L[i].v]:=by
 obtain⟨x,ox,ro,rows,hp,ho,hg,hr⟩:=h.has (fun e=>by rw[e] at hi;simp at hi)
 refine⟨x,ox,hp,?_⟩
 show loadAt H ⟨x,ox+i⟩ 1=_
 rw[loadAt_eq hg (r:=[L[i].v]) (nth_of (by rw[Nat.div_one];exact hr i hi)),Nat.mod_one]
 rfl
theorem Lst.base {G0 G1 H:Heap} {w:Nat} {r:List (List V)} {v:V} (h:Lst G1 H w r v) (hn:G0.next≤G1.next):Lst G0 H w r v:=by
 rcases h with h | ⟨n,a,b,c,d,e⟩
 ·exact .inl h
 ·exact .inr ⟨n,a,b,c,Nat.le_trans hn d,e⟩
section
variable {lf K:Nat} (hlf:1000 < lf)
include hlf
end
end Go.Proofs.YtabebpemfinejaaDoor.draft
namespace Go.Proofs.YtabebpemfinejaaDoor.draft
open Go.Am
section
variable {a:Nat→Option Am.Obj} {H:Heap} (hH:∀ n,H.get (.arg n)=a n)
include hH
end
theorem u16_of {a:Nat→Option Am.Obj} {u:V} (h:FitsV a (.int .u16) u):∃ s:Nat,s < 65536∧u=.int .u16 (s:Int):=by
 obtain⟨C,⟨n,h,rfl⟩,hu⟩:=h
 cases hu
 have h:(decide (0≤n)&&decide (n≤65535))=true:=h
 simp only[Bool.and_eq_true,decide_eq_true_eq] at h
 exact⟨n.toNat,by omega,by rw[Int.toNat_of_nonneg h.1]⟩
end Go.Proofs.YtabebpemfinejaaDoor.draft
namespace Go.Proofs.YtabebpemfinejaaDoor.draft
open Go.Am
section
variable {a:Nat→Option Am.Obj} {H:Heap} (hH:∀ n,H.get (.arg n)=a n)
include hH
theorem stepS_of {r:List V} (h:Fits a stepSh r):∃ s:Sp,r=s.row∧CellsAt H s.pp s.cs∧s.n < 256∧(∀ c ∈ s.cs,c.x < 256 ^ 64)∧s.cs.length≤9223372036854775807:=by
 obtain⟨_,_,rfl,⟨cl,rfl⟩,_,_,rfl,⟨n,hn,rfl⟩,_,_,rfl,hs,rfl⟩:=h
 obtain⟨p,lc,l,rfl,hc,hx,hl⟩:=cells_of hH hs
 have hn:(decide (0≤n)&&decide (n≤255))=true:=hn
 simp only[Bool.and_eq_true,decide_eq_true_eq] at hn
 refine⟨⟨cl,n.toNat,p,l,lc,0⟩,?_,hc,by show n.toNat < 256;omega,hx,Nat.le_trans hl (by decide)⟩
 show _=[V.bool cl,.int .u8 ((n.toNat:Nat):Int),.slice p l.length lc 0]
 rw[Int.toNat_of_nonneg hn.1];rfl
theorem stepsS_list:∀(R:List (List V)),(∀ r ∈ R,Fits a stepSh r)→∃ l:List Sp,l.map Sp.row=R∧∀ s ∈ l,CellsAt H s.pp s.cs∧s.n < 256∧(∀ c ∈ s.cs,c.x < 256 ^ 64)∧s.cs.length≤9223372036854775807
 | [],_=>⟨[],rfl,fun c h=>by cases h⟩
 | r::R,h=>by
  obtain⟨c,e,hc⟩:=stepS_of hH (h r (List.mem_cons_self ..))
  obtain⟨l,el,hl⟩:=stepsS_list R (fun r hr=>h r (List.mem_cons_of_mem _ hr))
  refine⟨c::l,by rw[List.map_cons,e,el],fun x hx=>?_⟩
  rcases List.mem_cons.1 hx with rfl | hx
  ·exact hc
  ·exact hl x hx
theorem stepsS_of {u:V} (h:FitsV a (.slice 3 stepSh) u):∃ p lc L,u=.slice p (List.length L) lc 0∧SpsAt H p L∧(∀ s ∈ L,∀ c ∈ s.cs,c.x < 256 ^ 64)∧∀ s ∈ L,s.cs.length≤9223372036854775807:=by
 obtain⟨C,hf,hu⟩:=h
 rcases hf with rfl | ⟨b,len,rows,rfl,hb,hl,hm,hr⟩
 ·cases hu
  exact⟨none,0,[],rfl,⟨fun e=>absurd rfl e,fun s h=>(by cases h),fun s h=>(by cases h)⟩,fun s h=>(by cases h),fun s h=>(by cases h)⟩
 ·cases hu
  obtain⟨l,el,hc⟩:=stepsS_list hH rows hr
  have hll:l.length=rows.length:=by rw[← el,List.length_map]
  refine⟨some ⟨.arg b,0⟩,rows.length,l.take len,by rw[List.length_take,Nat.min_eq_left (by omega)],⟨fun _=>⟨.arg b,0,true,rows,rfl,trivial,(hH b).trans hb,fun i hi=>?_⟩,fun s hs=>(hc s (List.mem_of_mem_take hs)).1,fun s hs=>(hc s (List.mem_of_mem_take hs)).2.1⟩,fun s hs=>(hc s (List.mem_of_mem_take hs)).2.2.1,fun s hs=>(hc s (List.mem_of_mem_take hs)).2.2.2⟩
  rw[List.length_take] at hi
  rw[Nat.zero_add,← el,List.getElem?_map,List.getElem?_eq_getElem (by omega),List.getElem_take]
  rfl
theorem picksB_of {u:V} (h:FitsV a (.slice 1 (.int .i64)) u):∃ lp lc W,u=.slice lp (List.length W) lc 0∧W.length≤lc∧disk.PicksAt H lp W disk.Z:=by
 obtain⟨C,hf,hu⟩:=h
 rcases hf with rfl | ⟨b,len,rows,rfl,hb,hl,_,hr⟩
 ·cases hu
  exact⟨none,0,[],rfl,Nat.le_refl _,⟨fun e=>absurd rfl e⟩⟩
 ·cases hu
  refine⟨some ⟨.arg b,0⟩,rows.length,(rows.take len).map disk.intOf,by simp[Nat.min_eq_left hl],by simp;omega,⟨fun _=>⟨.arg b,0,true,rows,rfl,trivial,id,(hH b).trans hb,fun i hi=>?_⟩⟩⟩
  simp only[List.length_map,List.length_take] at hi
  have hi':i < rows.length:=by omega
  rw[Nat.zero_add,List.getElem?_eq_getElem hi']
  obtain⟨n,_,e1⟩:=hr _ (List.getElem_mem hi')
  simp[e1,disk.intOf]
end
end Go.Proofs.YtabebpemfinejaaDoor.draft
namespace Go.Proofs.YtabebpemfinejaaDoor.draft
open Go.Am
noncomputable def c50:CFn:=⟨[.cell (pp 2) 4 .ag,.tmp (pp 3)],
 .seq (.reg [
 qo 1 (.m (boxF 64 (tt 0))) [pp 0],
 qo 2 (.m (allocF 4 [.int .u64 0,.int .u64 0,.int .i64 0,.int .u32 0])) [],
 qo 3 (.p (S.get (ii 0))) []]) (
 .seq (.reg [
 qo 15 (.r (loadF (tt 1) 64 .bk)) [pp 1],
 qo 16 (.c (callF (ff 77) [(tt 15)])) [pp 15],
 mv 14 16,
 qo 17 (.p (extF (tt 14) 0)) [pp 14],
 qo 18 (.p (extF (tt 14) 1)) [pp 14],
 qo 19 (.p (extF (tt 14) 2)) [pp 14],
 mv 4 17,
 mv 5 18,
 mv 6 19]) (
 .seq (.seq (.reg [
 mv 20 6,
 qo 21 (.p (eqcF true false [.int .i64] (tt 20) (ii 0))) [pp 20]]) (
 .cond (tt 21) (.seq (.reg [
 qo 22 (.p (buildF [.int .u64 0,.int .u64 0,.int .i64 0,.int .u32 0] .ag [])) [],
 mv 23 6,
 qn (.a (storeF (tt 2) (tt 22) 4)) [pp 2,pp 22],
 mv 3 23]) (
 .ret)) (.skip))) (
 .seq (.reg [
 mv 24 4,
 qo 25 (.p (buildF [.int .u64 0,.int .u64 0,.int .i64 0,.int .u32 0] .ag [(0,1,(tt 24))])) [pp 24],
 qo 7 (.m (allocF 4 [.int .u64 0,.int .u64 0,.int .i64 0,.int .u32 0])) [],
 qn (.a (storeF (tt 7) (tt 25) 4)) [pp 7,pp 25]]) (
 .seq (.reg [
 mv 27 5,
 qo 28 (.c (callF (ff 78) [(tt 27),(ii 0),(ii 8)])) [pp 27],
 mv 26 28,
 qo 29 (.p (extF (tt 26) 0)) [pp 26],
 qo 30 (.p (extF (tt 26) 1)) [pp 26],
 qo 31 (.p (faddrF (tt 7) 1)) [pp 7],
 qn (.a (storeF (tt 31) (tt 29) 1)) [pp 31,pp 29]]) (
 .seq (.reg [
 mv 33 5,
 qo 34 (.c (callF (ff 78) [(tt 33),(ii 8),(ii 2)])) [pp 33],
 mv 32 34,
 qo 35 (.p (extF (tt 32) 0)) [pp 32],
 qo 36 (.p (extF (tt 32) 1)) [pp 32],
 mv 8 35,
 mv 9 36]) (
 .seq (.reg [
 mv 38 5,
 qo 39 (.c (callF (ff 78) [(tt 38),(ii 10),(ii 4)])) [pp 38],
 mv 37 39,
 qo 40 (.p (extF (tt 37) 0)) [pp 37],
 qo 41 (.p (extF (tt 37) 1)) [pp 37],
 mv 10 40,
 mv 11 41]) (
 .seq (.reg [
 mv 42 8,
 qo 43 (.p (convF .i64 (tt 42))) [pp 42],
 mv 44 10,
 qo 45 (.p (convF .u32 (tt 44))) [pp 44],
 qo 46 (.p (faddrF (tt 7) 2)) [pp 7],
 qn (.a (storeF (tt 46) (tt 43) 1)) [pp 46,pp 43],
 qo 47 (.p (faddrF (tt 7) 3)) [pp 7],
 qn (.a (storeF (tt 47) (tt 45) 1)) [pp 47,pp 45]]) (
 .seq (.seq (.reg [
 qo 49 (.r (loadF (tt 7) 4 .ag)) [pp 7],
 qo 50 (.c (callF (ff 34) [(tt 49)])) [pp 49],
 mv 48 50,
 qo 51 (.p (extF (tt 48) 0)) [pp 48],
 qo 52 (.p (extF (tt 48) 1)) [pp 48],
 qo 12 (.m (allocF 64 [.blk 0])) [],
 qn (.a (storeF (tt 12) (tt 51) 64)) [pp 12,pp 51],
 mv 13 52]) (
 .seq (.reg [
 mv 53 13,
 qo 54 (.p (eqcF true false [.int .i64] (tt 53) (ii 0))) [pp 53],
 mv 55 54,
 qg 56 (.r (loadF (tt 12) 64 .bk)) 55 false [pp 12],
 qg 57 (.r (loadF (tt 1) 64 .bk)) 55 false [pp 1],
 qg 58 (.p (eqcF true true [.blk] (tt 56) (tt 57))) 55 false [pp 56,pp 57],
 qo 59 (.p (pickF (tt 55) (.c (.bool true)) (tt 58))) [pp 55,pp 58]]) (
 .cond (tt 59) (.seq (.reg [
 qo 60 (.p (buildF [.int .u64 0,.int .u64 0,.int .i64 0,.int .u32 0] .ag [])) [],
 qn (.a (storeF (tt 2) (tt 60) 4)) [pp 2,pp 60],
 qo 3 (.p (S.get (ii 5))) []]) (
 .ret)) (.skip)))) (
 .seq (.reg [
 qo 61 (.r (loadF (tt 7) 4 .ag)) [pp 7],
 qn (.a (storeF (tt 2) (tt 61) 4)) [pp 2,pp 61],
 qo 3 (.p (S.get (ii 0))) []]) (
 .ret))))))))))⟩
theorem c50_eq:fnOf Tryd.prog 50=some c50:=by kernel_rfl
noncomputable def bd (B a n:Nat):Nat:=leN (fun i=>byte B (8+(a+i))) n
noncomputable def ntG (B:Nat):Nt:=⟨sealN B,bd B 0 8,bd B 8 2,bd B 10 4⟩
def ntMay (N:Nt):Bool:=decide (1≤N.seq∧N.seq≤4611686018427387904∧N.pos≤4611686018427387904∧1≤N.cells∧N.cells≤32)
noncomputable def noteOk (B:Nat):Bool:=decide (sealE B=0)&&ntMay (ntG B)&&decide (noteB (ntG B)=B)
theorem bd_lt (B a:Nat) {n:Nat}:bd B a n < 256 ^ n:=by
 unfold bd
 rw[leN_sumD (fun i _=>byte_lt _ _)]
 exact sumD_lt (fun i _=>byte_lt _ _)
theorem ntMay_ok {N:Nt} (h:ntMay N=true) (hs:N.sum < 4294967296):NtOk N:=by
 have h:=of_decide_eq_true h
 exact⟨⟨h.1,h.2.1⟩,h.2.2.1,h.2.2.2,hs⟩
section
variable {lf K:Nat} (hlf:1000 < lf)
include hlf
theorem unmay' (G:Heap) (N:Nt) (n:Nat):ret (U lf K (n+1) 63 [.agg (ntV N)] G) fun v G'=>v=.bool (ntMay N)∧Turns Z G G':=by
 have k0:cut (ntV N) 0 1=some [.int .u64 (N.seq:Int)]:=rfl
 have k1:cut (ntV N) 1 1=some [.int .u64 (N.pos:Int)]:=rfl
 have k2:cut (ntV N) 2 1=some [.int .i64 (N.cells:Int)]:=rfl
 have hw:width (ntV N)=4:=rfl
 have e:∀(a b:Nat),decide ((a:Int)≤(b:Int))=decide (a≤b):=fun a b=>decide_eq_decide.2 (by omega)
 have key:ntMay N=(decide (1≤N.seq)&&decide (N.seq≤4611686018427387904)&&decide (N.pos≤4611686018427387904)&&decide (1≤N.cells)&&decide (N.cells≤32)):=by
  unfold ntMay
  simp only[Bool.decide_and,Bool.and_assoc]
 rw[key]
 refine ret_callU rfl rfl c63_eq ?_
 by_cases h1:1≤N.seq<;>by_cases h2:N.seq≤4611686018427387904<;>by_cases h3:N.pos≤4611686018427387904<;>by_cases h4:1≤N.cells<;>by_cases h5:N.cells≤32
 all_goals
  have i1:((1:Int)≤(N.seq:Int))=(1≤N.seq):=propext (by omega)
  have i2:((N.seq:Int)≤4611686018427387904)=(N.seq≤4611686018427387904):=propext (by omega)
  have i3:((N.pos:Int)≤4611686018427387904)=(N.pos≤4611686018427387904):=propext (by omega)
  have i4:((1:Int)≤(N.cells:Int))=(1≤N.cells):=propext (by omega)
  have i5:((N.cells:Int)≤32)=(N.cells≤32):=propext (by omega)
  simp (maxDischargeDepth:=12) only[c63,hw,k0,k1,k2,i1,i2,i3,i4,i5,h1,h2,h3,h4,h5,hv,ldO_one,stO_one,sy,tup,↓reduceIte,zA,zG,zC,zD,zF,zE,zB,zH,reduceCtorEq]
  exact⟨trivial,.inr trivial,_,rfl,rfl,Turns.add Z G _⟩
theorem unote_no (G:Heap) {N:Nt} (h:ntMay N=false) (n:Nat):ret (U lf K (n+2) 34 [.agg (ntV N)] G) fun v G'=>v=.tuple [.blk 0,.int .i64 2]∧Turns Z G G':=by
 have hw:width (ntV N)=4:=rfl
 have k4:cut (ntV N) 0 4=some (ntV N):=rfl
 have t1:Turns Z G ((G.add (.rows false 4 [ntV N])).add (.rows false 64 [[.blk 0]])):=by repeat (first | exact Turns.refl _ _ | apply Turns.skip | apply Turns.addm | apply Turns.setb | apply Turns.setl | apply Turns.setr | refine Turns.setn ?_ _ (by omega) _ | refine Turns.trans ?_ (tF _))
 have hg1:((G.add (.rows false 4 [ntV N])).add (.rows false 64 [[.blk 0]])).get (.run G.next)=some (.rows false 4 [ntV N]):=by rw[Heap.get_add,if_neg (run_ne (by simp)),Heap.get_add,if_pos rfl]
 have hb1:((G.add (.rows false 4 [ntV N])).add (.rows false 64 [[.blk 0]])).get (.run (G.next+1))=some (.rows false 64 [[.blk 0]]):=by rw[Heap.get_add,if_pos (by simp)]
 obtain⟨G1,hG1⟩:∃ G1,(G.add (.rows false 4 [ntV N])).add (.rows false 64 [[.blk 0]])=G1:=⟨_,rfl⟩
 have wo1:G1.Old (.run G.next):=by rw[← hG1];show _ < _+1+1;omega
 have bo1:G1.Old (.run (G.next+1)):=by rw[← hG1];show _ < _+1+1;omega
 rw[hG1] at t1 hg1 hb1
 obtain⟨v2,G2,e2,rfl,t2⟩:=unmay' hlf G1 N (K:=K) n
 rw[h] at e2
 have hb2:=(t2.same _ bo1 (fun h=>h)).trans hb1
 refine ret_callU rfl rfl c34_eq ?_
 simp (maxDischargeDepth:=12) only[c34,hw,hG1,hg1,k4,e2,hb2,hv,ldO_one,stO_one,sy,tup,↓reduceIte,zA,zG,zC,zD,zF,zE,zB,zH,reduceCtorEq]
 exact⟨trivial,.inr trivial,_,rfl,rfl,(t1.trans t2).setn _ (by omega) _⟩
theorem unget (G:Heap) (B:Nat) (n:Nat):ret (U lf K (n+6) 50 [.blk B] G) fun v G'=>Turns Z G G'∧((noteOk B=true∧v=.tuple [.agg (ntV (ntG B)),.int .i64 0])∨(noteOk B=false∧∃ e:Int,e≠0∧v=.tuple [.agg [.int .u64 0,.int .u64 0,.int .i64 0,.int .u32 0],.int .i64 e])):=by
 have t1:Turns Z G ((G.add (.rows false 64 [[.blk B]])).add (.rows false 4 [[.int .u64 0,.int .u64 0,.int .i64 0,.int .u32 0]])):=by repeat (first | exact Turns.refl _ _ | apply Turns.skip | apply Turns.addm | apply Turns.setb | apply Turns.setl | apply Turns.setr | refine Turns.setn ?_ _ (by omega) _ | refine Turns.trans ?_ (tF _))
 have hb1:((G.add (.rows false 64 [[.blk B]])).add (.rows false 4 [[.int .u64 0,.int .u64 0,.int .i64 0,.int .u32 0]])).get (.run G.next)=some (.rows false 64 [[.blk B]]):=by rw[Heap.get_add,if_neg (run_ne (by simp)),Heap.get_add,if_pos rfl]
 have hr1:((G.add (.rows false 64 [[.blk B]])).add (.rows false 4 [[.int .u64 0,.int .u64 0,.int .i64 0,.int .u32 0]])).get (.run (G.next+1))=some (.rows false 4 [[.int .u64 0,.int .u64 0,.int .i64 0,.int .u32 0]]):=by rw[Heap.get_add,if_pos (by simp)]
 obtain⟨G1,hG1⟩:∃ G1,(G.add (.rows false 64 [[.blk B]])).add (.rows false 4 [[.int .u64 0,.int .u64 0,.int .i64 0,.int .u32 0]])=G1:=⟨_,rfl⟩
 have n1:G1.next=G.next+1+1:=by rw[← hG1];rfl
 rw[hG1] at t1 hb1 hr1
 obtain⟨v2,G2,e2,t2,h2⟩:=u_sget_ok (K:=K) G1 B (lf:=lf) (by omega) (n+1)
 have hb2:=(t2.same (.run G.next) (by show _ < _;omega) (fun h=>h)).trans hb1
 have hr2:=(t2.same (.run (G.next+1)) (by show _ < _;omega) (fun h=>h)).trans hr1
 have nn2:=t2.next
 have put0:∀(a b:Nat) (c d:Int) (e f:Nat) (g h:Int),put [V.int .u64 (a:Int),.int .u64 (b:Int),.int .i64 c,.int .u32 d] 0 [.int .u64 (e:Int),.int .u64 (f:Int),.int .i64 g,.int .u32 h]=some [V.int .u64 (e:Int),.int .u64 (f:Int),.int .i64 g,.int .u32 h]:=fun _ _ _ _ _ _ _ _=>rfl
 have z4:put [V.int .u64 0,.int .u64 0,.int .i64 0,.int .u32 0] 0 [.int .u64 0,.int .u64 0,.int .i64 0,.int .u32 0]=some [V.int .u64 0,.int .u64 0,.int .i64 0,.int .u32 0]:=rfl
 have c4:cut [V.int .u64 0,.int .u64 0,.int .i64 0,.int .u32 0] 0 4=some [V.int .u64 0,.int .u64 0,.int .i64 0,.int .u32 0]:=rfl
 have w4:width [V.int .u64 0,.int .u64 0,.int .i64 0,.int .u32 0]=4:=rfl
 refine ret_callU rfl rfl c50_eq ?_
 rcases h2 with ⟨hs,rfl⟩ | ⟨hs,k,rfl,hbk,hk⟩
 ·have hno:noteOk B=false:=by unfold noteOk;rw[decide_eq_false hs,Bool.false_and,Bool.false_and]
  have hs':(sealE B==0)=false:=beq_eq_false_iff_ne.2 hs
  generalize sealE B=E at e2 hs hs'
  simp (maxDischargeDepth:=12) only[c50,hG1,hb1,Dj,e2,hs',z4,w4,hr2,c4,hv,ldO_one,stO_one,sy,tup,↓reduceIte,zA,zG,zC,zD,zF,zE,zB,zH,reduceCtorEq]
  exact⟨trivial,.inr trivial,_,rfl,(t1.trans t2).setn _ (by omega) _,.inr ⟨hno,E,hs,rfl⟩⟩
 ·obtain⟨sq,hsq⟩:∃ sq,sq=sealN B:=⟨_,rfl⟩
  rw[← hsq] at e2
  have b00:((0:Int)==0)=true:=rfl
  have hcb:∀ i,i < 44→(fun i=>byte B (8+i)) i < 256:=fun i _=>byte_lt _ _
  have eg:∀ {H:Heap},Turns Z G2 H→∀(a s:Nat),1≤s∧s≤8→a+s≤44→U lf K (n+5) 78 [.slice (some ⟨.run k,0⟩) 44 44 1,.int .i64 (a:Int),.int .i64 (s:Int)] H=some (.v (.tuple [.int .u64 ((bd B a s:Nat):Int),.int .i64 0]),H):=fun {H} tH a s hs1 hs2=>u_nget_ok (K:=K) (H:=H) (p:=⟨.run k,0⟩) (len:=44) (cap:=44) (loose:=1) (a:=a) (sz:=s) (c:=fun i=>byte B (8+(a+i))) hs1 hs2 (by omega) (by omega) (.inr rfl) (fun _ _=>byte_lt _ _) (fun i hi=>by
   have:=(hbk.turns tH).load (i:=a+i) (by omega)
   simpa [Nat.add_assoc] using this) lf (n+4) (by omega)
  obtain⟨ps,hps⟩:∃ ps,ps=bd B 0 8:=⟨_,rfl⟩
  obtain⟨cl,hcl⟩:∃ cl,cl=bd B 8 2:=⟨_,rfl⟩
  obtain⟨sm,hsm⟩:∃ sm,sm=bd B 10 4:=⟨_,rfl⟩
  have hcl2:cl < 65536:=by rw[hcl];exact bd_lt B 8
  have hsm2:sm < 4294967296:=by rw[hsm];exact bd_lt B 10
  have hnt:ntG B=⟨sq,ps,cl,sm⟩:=by rw[hsq,hps,hcl,hsm];rfl
  have wc:IntKind.i64.wrap (cl:Int)=(cl:Int):=Go.Am.wrap_i64 (by omega)
  have ws:IntKind.u32.wrap (sm:Int)=(sm:Int):=crc.u32_wrap hsm2
  have pf:put [V.int .u64 0,.int .u64 0,.int .i64 0,.int .u32 0] 0 [.int .u64 (sq:Int)]=some [.int .u64 (sq:Int),.int .u64 0,.int .i64 0,.int .u32 0]:=rfl
  have w1:width [V.int .u64 (sq:Int),.int .u64 0,.int .i64 0,.int .u32 0]=4:=rfl
  have p0:put [V.int .u64 0,.int .u64 0,.int .i64 0,.int .u32 0] 0 [.int .u64 (sq:Int),.int .u64 0,.int .i64 0,.int .u32 0]=some [.int .u64 (sq:Int),.int .u64 0,.int .i64 0,.int .u32 0]:=rfl
  have p1:put [V.int .u64 (sq:Int),.int .u64 0,.int .i64 0,.int .u32 0] 1 [.int .u64 (ps:Int)]=some [.int .u64 (sq:Int),.int .u64 (ps:Int),.int .i64 0,.int .u32 0]:=rfl
  have p2:put [V.int .u64 (sq:Int),.int .u64 (ps:Int),.int .i64 0,.int .u32 0] 2 [.int .i64 (cl:Int)]=some [.int .u64 (sq:Int),.int .u64 (ps:Int),.int .i64 (cl:Int),.int .u32 0]:=rfl
  have p3:put [V.int .u64 (sq:Int),.int .u64 (ps:Int),.int .i64 (cl:Int),.int .u32 0] 3 [.int .u32 (sm:Int)]=some [.int .u64 (sq:Int),.int .u64 (ps:Int),.int .i64 (cl:Int),.int .u32 (sm:Int)]:=rfl
  have cR:cut [V.int .u64 (sq:Int),.int .u64 (ps:Int),.int .i64 (cl:Int),.int .u32 (sm:Int)] 0 4=some [.int .u64 (sq:Int),.int .u64 (ps:Int),.int .i64 (cl:Int),.int .u32 (sm:Int)]:=rfl
  have wR:width [V.int .u64 (sq:Int),.int .u64 (ps:Int),.int .i64 (cl:Int),.int .u32 (sm:Int)]=4:=rfl
  have pR:put [V.int .u64 0,.int .u64 0,.int .i64 0,.int .u32 0] 0 [.int .u64 (sq:Int),.int .u64 (ps:Int),.int .i64 (cl:Int),.int .u32 (sm:Int)]=some [.int .u64 (sq:Int),.int .u64 (ps:Int),.int .i64 (cl:Int),.int .u32 (sm:Int)]:=rfl
  have t3:Turns Z G2 ((G2.add (.rows false 4 [[.int .u64 0,.int .u64 0,.int .i64 0,.int .u32 0]])).set (.run G2.next) (.rows false 4 [[.int .u64 (sq:Int),.int .u64 0,.int .i64 0,.int .u32 0]])):=by repeat (first | exact Turns.refl _ _ | apply Turns.skip | apply Turns.addm | apply Turns.setb | apply Turns.setl | apply Turns.setr | refine Turns.setn ?_ _ (by omega) _ | refine Turns.trans ?_ (tF _))
  have h3:((G2.add (.rows false 4 [[.int .u64 0,.int .u64 0,.int .i64 0,.int .u32 0]])).set (.run G2.next) (.rows false 4 [[.int .u64 (sq:Int),.int .u64 0,.int .i64 0,.int .u32 0]])).get (.run G2.next)=some (.rows false 4 [[.int .u64 (sq:Int),.int .u64 0,.int .i64 0,.int .u32 0]]):=by rw[Heap.get_set,if_pos rfl]
  obtain⟨G3,hG3⟩:∃ G3,(G2.add (.rows false 4 [[.int .u64 0,.int .u64 0,.int .i64 0,.int .u32 0]])).set (.run G2.next) (.rows false 4 [[.int .u64 (sq:Int),.int .u64 0,.int .i64 0,.int .u32 0]])=G3:=⟨_,rfl⟩
  have nn3:G3.next=G2.next+1:=by rw[← hG3];rfl
  rw[hG3] at t3 h3
  have eA:=eg t3 0 8 (by omega) (by omega)
  rw[← hps] at eA
  have t4:Turns Z G2 (G3.set (.run G2.next) (.rows false 4 [[.int .u64 (sq:Int),.int .u64 (ps:Int),.int .i64 0,.int .u32 0]])):=t3.setn _ (Nat.le_refl _) _
  have h4:(G3.set (.run G2.next) (.rows false 4 [[.int .u64 (sq:Int),.int .u64 (ps:Int),.int .i64 0,.int .u32 0]])).get (.run G2.next)=some (.rows false 4 [[.int .u64 (sq:Int),.int .u64 (ps:Int),.int .i64 0,.int .u32 0]]):=by rw[Heap.get_set,if_pos rfl]
  obtain⟨G4,hG4⟩:∃ G4,G3.set (.run G2.next) (.rows false 4 [[.int .u64 (sq:Int),.int .u64 (ps:Int),.int .i64 0,.int .u32 0]])=G4:=⟨_,rfl⟩
  have nn4:G4.next=G2.next+1:=by rw[← hG4];exact nn3
  rw[hG4] at t4 h4
  have eB:=eg t4 8 2 (by omega) (by omega)
  have eC:=eg t4 10 4 (by omega) (by omega)
  rw[← hcl] at eB
  rw[← hsm] at eC
  have t5:Turns Z G2 ((G4.set (.run G2.next) (.rows false 4 [[.int .u64 (sq:Int),.int .u64 (ps:Int),.int .i64 (cl:Int),.int .u32 0]])).set (.run G2.next) (.rows false 4 [[.int .u64 (sq:Int),.int .u64 (ps:Int),.int .i64 (cl:Int),.int .u32 (sm:Int)]])):=(t4.setn _ (Nat.le_refl _) _).setn _ (Nat.le_refl _) _
  have h5:((G4.set (.run G2.next) (.rows false 4 [[.int .u64 (sq:Int),.int .u64 (ps:Int),.int .i64 (cl:Int),.int .u32 0]])).set (.run G2.next) (.rows false 4 [[.int .u64 (sq:Int),.int .u64 (ps:Int),.int .i64 (cl:Int),.int .u32 (sm:Int)]])).get (.run G2.next)=some (.rows false 4 [[.int .u64 (sq:Int),.int .u64 (ps:Int),.int .i64 (cl:Int),.int .u32 (sm:Int)]]):=by rw[Heap.get_set,if_pos rfl]
  have h45:(G4.set (.run G2.next) (.rows false 4 [[.int .u64 (sq:Int),.int .u64 (ps:Int),.int .i64 (cl:Int),.int .u32 0]])).get (.run G2.next)=some (.rows false 4 [[.int .u64 (sq:Int),.int .u64 (ps:Int),.int .i64 (cl:Int),.int .u32 0]]):=by rw[Heap.get_set,if_pos rfl]
  obtain⟨G5,hG5⟩:∃ G5,(G4.set (.run G2.next) (.rows false 4 [[.int .u64 (sq:Int),.int .u64 (ps:Int),.int .i64 (cl:Int),.int .u32 0]])).set (.run G2.next) (.rows false 4 [[.int .u64 (sq:Int),.int .u64 (ps:Int),.int .i64 (cl:Int),.int .u32 (sm:Int)]])=G5:=⟨_,rfl⟩
  have nn5:G5.next=G2.next+1:=by rw[← hG5];exact nn4
  rw[hG5] at t5 h5
  have hvn:ntV (ntG B)=[.int .u64 (sq:Int),.int .u64 (ps:Int),.int .i64 (cl:Int),.int .u32 (sm:Int)]:=by rw[hnt];rfl
  obtain⟨Y,hY⟩:∃ Y,Y=noteB (ntG B):=⟨_,rfl⟩
  obtain⟨X,e,G6,e6,t6,hX⟩:∃ X e G6,U lf K (n+5) 34 [.agg [.int .u64 (sq:Int),.int .u64 (ps:Int),.int .i64 (cl:Int),.int .u32 (sm:Int)]] G5=some (.v (.tuple [.blk X,.int .i64 e]),G6)∧Turns Z G5 G6∧((ntMay (ntG B)=true∧e=0∧X=Y)∨(ntMay (ntG B)=false∧e=2)):=by
   by_cases hm:ntMay (ntG B)=true
   ·obtain⟨v,G6,e6,rfl,t6⟩:=unote hlf G5 (ntMay_ok hm (by rw[hnt];exact hsm2)) (K:=K) n
    rw[hvn,← hY] at e6
    exact⟨_,_,G6,e6,t6,.inl ⟨hm,rfl,rfl⟩⟩
   ·rw[Bool.not_eq_true] at hm
    obtain⟨v,G6,e6,rfl,t6⟩:=unote_no hlf G5 hm (K:=K) (n+3)
    rw[hvn] at e6
    exact⟨_,_,G6,e6,t6,.inr ⟨hm,rfl⟩⟩
  have nn6:=t6.next
  have hb6:=((t5.trans t6).same (.run G.next) (by show _ < _;omega) (fun h=>h)).trans hb2
  have hr6:=((t5.trans t6).same (.run (G.next+1)) (by show _ < _;omega) (fun h=>h)).trans hr2
  have h6:=(t6.same (.run G2.next) (by show _ < _;omega) (fun h=>h)).trans h5
  have t7:Turns Z G6 ((G6.add (.rows false 64 [[.blk 0]])).set (.run G6.next) (.rows false 64 [[.blk X]])):=by repeat (first | exact Turns.refl _ _ | apply Turns.skip | apply Turns.addm | apply Turns.setb | apply Turns.setl | apply Turns.setr | refine Turns.setn ?_ _ (by omega) _ | refine Turns.trans ?_ (tF _))
  have h7:((G6.add (.rows false 64 [[.blk 0]])).set (.run G6.next) (.rows false 64 [[.blk X]])).get (.run G6.next)=some (.rows false 64 [[.blk X]]):=by rw[Heap.get_set,if_pos rfl]
  obtain⟨G7,hG7⟩:∃ G7,(G6.add (.rows false 64 [[.blk 0]])).set (.run G6.next) (.rows false 64 [[.blk X]])=G7:=⟨_,rfl⟩
  have nn7:G7.next=G6.next+1:=by rw[← hG7];rfl
  rw[hG7] at t7 h7
  have hb7:=(t7.same (.run G.next) (by show _ < _;omega) (fun h=>h)).trans hb6
  have hr7:=(t7.same (.run (G.next+1)) (by show _ < _;omega) (fun h=>h)).trans hr6
  have hn7:=(t7.same (.run G2.next) (by show _ < _;omega) (fun h=>h)).trans h6
  have tF:Turns Z G G7:=(((t1.trans t2).trans t5).trans t6).trans t7
  change U lf K (n+5) 78 [.slice (some ⟨.run k,0⟩) 44 44 1,.int .i64 0,.int .i64 8] G3=_ at eA
  change U lf K (n+5) 78 [.slice (some ⟨.run k,0⟩) 44 44 1,.int .i64 8,.int .i64 2] G4=_ at eB
  change U lf K (n+5) 78 [.slice (some ⟨.run k,0⟩) 44 44 1,.int .i64 10,.int .i64 4] G4=_ at eC
  rcases hX with ⟨hm,rfl,rfl⟩ | ⟨hm,rfl⟩
  ·by_cases hYB:X=B
   ·have hYB':decide (X=B)=true:=decide_eq_true hYB
    simp (maxDischargeDepth:=12) only[c50,hG1,hb1,Dj,e2,b00,pf,w1,p0,hG3,eA,h3,p1,hG4,eB,eC,wc,ws,h4,p2,h45,p3,hG5,h5,cR,e6,hG7,h7,hb7,hYB',hn7,wR,hr7,pR,hv,ldO_one,stO_one,sy,tup,↓reduceIte,zA,zG,zC,zD,zF,zE,zB,zH,reduceCtorEq]
    refine⟨trivial,.inr trivial,_,rfl,tF.setn _ (by omega) _,.inl ⟨?_,by rw[hvn]⟩⟩
    unfold noteOk
    rw[decide_eq_true hs,hm,← hY,decide_eq_true hYB];rfl
   ·have hYB':decide (X=B)=false:=decide_eq_false hYB
    simp (maxDischargeDepth:=12) only[c50,hG1,hb1,Dj,e2,b00,pf,w1,p0,hG3,eA,h3,p1,hG4,eB,eC,wc,ws,h4,p2,h45,p3,hG5,h5,cR,e6,hG7,h7,hb7,hYB',hr7,z4,w4,c4,hv,ldO_one,stO_one,sy,tup,↓reduceIte,zA,zG,zC,zD,zF,zE,zB,zH,reduceCtorEq]
    refine⟨trivial,.inr trivial,_,rfl,tF.setn _ (by omega) _,.inr ⟨?_,5,by decide,rfl⟩⟩
    unfold noteOk
    rw[← hY,decide_eq_false hYB,Bool.and_false]
  ·have b20:((2:Int)==0)=false:=rfl
   simp (maxDischargeDepth:=12) only[c50,hG1,hb1,Dj,e2,b00,b20,pf,w1,p0,hG3,eA,h3,p1,hG4,eB,eC,wc,ws,h4,p2,h45,p3,hG5,h5,cR,e6,hG7,h7,hr7,z4,w4,c4,hv,ldO_one,stO_one,sy,tup,↓reduceIte,zA,zG,zC,zD,zF,zE,zB,zH,reduceCtorEq]
   refine⟨trivial,.inr trivial,_,rfl,tF.setn _ (by omega) _,.inr ⟨?_,5,by decide,rfl⟩⟩
   unfold noteOk
   rw[hm,Bool.and_false,Bool.false_and]
end
end Go.Proofs.YtabebpemfinejaaDoor.draft
namespace Go.Proofs.YtabebpemfinejaaDoor.draft
open Go.Am
noncomputable def c89:CFn:=⟨[.tmp (pp 2)],
 .seq (.reg [
 qo 2 (.p (S.get (.c (.bool false)))) []]) (
 .seq (.reg [
 mv 3 0,
 qo 4 (.p (eqcF true false [.int .u8] (tt 3) (.c (.int .u8 0)))) [pp 3],
 mv 2 4]) (
 .ret))⟩
theorem c89_eq:fnOf Tryd.prog 89=some c89:=by kernel_rfl
section
variable {K:Nat}
theorem u_nz_ok (H:Heap) (x:Nat) (lf n:Nat):U lf K (n+1) 89 [.int .u8 (x:Int)] H=some (.v (.bool (!((x:Int)==0))),H):=by
 obtain⟨v,H',e,rfl,rfl⟩:ret (U lf K (n+1) 89 [.int .u8 (x:Int)] H) fun v H'=>v=.bool (!((x:Int)==0))∧H'=H:=by
  refine ret_callU rfl rfl c89_eq ?_
  simp only[c89,sy,tup,↓reduceIte,zA,zG,zC,zD,zF,zE,zB,zH,reduceCtorEq]
  simp
 exact e
theorem u_index_ok {H:Heap} {p:Ptr} {len cap loose:Nat} {c:Nat→Nat} (hm:len < 1000000) (hd:∀ i,i < len→loadAt H ⟨p.b,p.o+i⟩ 1=some [.int .u8 (c i:Int)]) (lf n:Nat) (hlf:len+1 < lf) :
  ret (U lf K (n+2) 92 [.slice (some p) len cap loose,.func (.func 89) [] []] H) fun v H'=>H'=H∧((zeroTo c len∧v=.int .i64 (-1))∨(¬ zeroTo c len∧∃ i:Nat,v=.int .i64 (i:Int))):=by
 refine ret_callU rfl rfl c92_eq ?_
 simp only[c92,sy,tup,↓reduceIte,zA,zG,zC,zD,zF,zE,zB,zH,reduceCtorEq]
 have hloop:∀ t:T,t.getP (Tr.path 0)=some (.slice (some p) len cap loose)→t.getP (Tr.path 1)=some (.func (.func 89) [] [])→t.getP (Tr.path 7)=some (.int .i64 (len:Int))→t.getP (Tr.path 8)=some (.int .i64 0) →
   wp (loopF (runC (U lf K (n+1)) lf c92_l0) lf ⟨t,H,[]⟩) fun x s=>s.d=[]∧s.H=H∧((x=.ex 0∧zeroTo c len)∨(x=.ret∧¬ zeroTo c len∧∃ i:Nat,s.t.getP (Tr.path 4)=some (.int .i64 (i:Int)))):=by
  intro t q0 q1 q7 q8
  refine wp_loopF (fun k s=>∃ i:Nat,k=len - i∧i≤len∧s.d=[]∧s.H=H∧zeroTo c i∧s.t.getP (Tr.path 0)=some (.slice (some p) len cap loose)∧s.t.getP (Tr.path 1)=some (.func (.func 89) [] [])∧s.t.getP (Tr.path 7)=some (.int .i64 (len:Int))∧s.t.getP (Tr.path 8)=some (.int .i64 (i:Int))) ?_ lf len _ ⟨0,rfl,by omega,rfl,rfl,fun i hi=>absurd hi (by omega),q0,q1,q7,q8⟩ (by omega)
  rintro k ⟨t,HH,d⟩ ⟨i,rfl,hi,hd',hH,hz,q0,q1,q7,q8⟩
  dsimp only at hd' hH q0 q1 q7 q8
  subst hd';subst hH
  by_cases hlt:i < len
  ·have hlt':(i:Int) < (len:Int):=by omega
   have hle':i+1≤len:=hlt
   have lk:=hd i hlt
   have w3:IntKind.i64.wrap ((i:Int)+1)=((i+1:Nat):Int):=by rw[wrap_i64 (by omega)];omega
   have nz:=u_nz_ok (K:=K) HH (c i) lf n
   by_cases h0:c i=0
   ·have b0:((c i:Int)==0)=true:=by simp[h0]
    rw[b0] at nz
    simp only[c92_l0,q0,q1,q7,q8,hlt',hle',w3,lk,nz,Nat.mul_one,sy,tup,↓reduceIte,zA,zG,zC,zD,zF,zE,zB,zH,reduceCtorEq]
    refine⟨len - (i+1),by omega,i+1,rfl,by omega,trivial,trivial,fun j hj=>?_,trivial,trivial,trivial,by simp⟩
    by_cases e:j=i
    ·subst e;exact h0
    ·exact hz j (by omega)
   ·have b0:((c i:Int)==0)=false:=by simp[h0]
    rw[b0] at nz
    simp only[c92_l0,q0,q1,q7,q8,hlt',hle',w3,lk,nz,Nat.mul_one,sy,tup,↓reduceIte,zA,zG,zC,zD,zF,zE,zB,zH,reduceCtorEq]
    exact⟨trivial,trivial,.inr ⟨trivial,fun h=>h0 (h i hlt),i,rfl⟩⟩
  ·have:i=len:=by omega
   subst this
   simp only[c92_l0,q0,q1,q7,q8,Nat.lt_irrefl,Int.lt_irrefl,sy,tup,↓reduceIte,zA,zG,zC,zD,zF,zE,zB,zH,reduceCtorEq]
   exact⟨trivial,trivial,.inl ⟨trivial,hz⟩⟩
 refine wp_ctx (F:=fun r=>seqC _ _ _ (blockC _ r)) (hloop _ ?_ ?_ ?_ ?_) ?_
 ·simp only[sy,tup,↓reduceIte,zA,zG,zC,zD,zF,zE,zB,zH,reduceCtorEq]
 ·simp only[sy,tup,↓reduceIte,zA,zG,zC,zD,zF,zE,zB,zH,reduceCtorEq]
 ·simp only[sy,tup,↓reduceIte,zA,zG,zC,zD,zF,zE,zB,zH,reduceCtorEq]
 ·simp only[sy,tup,↓reduceIte,zA,zG,zC,zD,zF,zE,zB,zH,reduceCtorEq]
 rintro x ⟨t,HH,d⟩ ⟨hd',hH,⟨rfl,hz⟩ | ⟨rfl,hz,i,q4⟩⟩
 ·dsimp only at hd' hH
  subst hd';subst hH
  simp only[sy,tup,↓reduceIte,zA,zG,zC,zD,zF,zE,zB,zH,reduceCtorEq]
  exact⟨trivial,.inr trivial,_,rfl,trivial,.inl ⟨hz,rfl⟩⟩
 ·dsimp only at hd' hH q4
  subst hd';subst hH
  simp only[q4,sy,tup,↓reduceIte,zA,zG,zC,zD,zF,zE,zB,zH,reduceCtorEq]
  exact⟨trivial,.inr trivial,_,rfl,trivial,.inr ⟨hz,i,rfl⟩⟩
theorem u_contains_ok {H:Heap} {p:Ptr} {len cap loose:Nat} {c:Nat→Nat} (hm:len < 1000000) (hd:∀ i,i < len→loadAt H ⟨p.b,p.o+i⟩ 1=some [.int .u8 (c i:Int)]) (lf n:Nat) (hlf:len+1 < lf) :
  ret (U lf K (n+3) 88 [.slice (some p) len cap loose,.func (.func 89) [] []] H) fun v H'=>H'=H∧∃ z:Bool,v=.bool z∧(z=false↔zeroTo c len):=by
 obtain⟨v,H',e,rfl,hv⟩:=u_index_ok (K:=K) (cap:=cap) (loose:=loose) hm hd lf n hlf
 refine ret_callU rfl rfl c88_eq ?_
 rcases hv with ⟨hz,rfl⟩ | ⟨hz,i,rfl⟩
 ·have hn:¬ ((0:Int)≤-1):=by omega
  simp only[c88,e,hn,sy,tup,↓reduceIte,zA,zG,zC,zD,zF,zE,zB,zH,reduceCtorEq]
  exact⟨trivial,.inr trivial,_,rfl,trivial,false,rfl,by simp[hz]⟩
 ·have hn:(0:Int)≤(i:Int):=by omega
  simp only[c88,e,hn,sy,tup,↓reduceIte,zA,zG,zC,zD,zF,zE,zB,zH,reduceCtorEq]
  exact⟨trivial,.inr trivial,_,rfl,trivial,true,rfl,by simp[hz]⟩
end
end Go.Proofs.YtabebpemfinejaaDoor.draft
namespace Go.Proofs.YtabebpemfinejaaDoor.draft
open Go.Am
noncomputable def c75_l0:C:=.seq (.reg [
 qo 25 (.p (arF .lss (tt 24) (ii 4))) [pp 24]]) (
 .seq (.cond (tt 25) (.skip) (.exit 0)) (
 .seq (.block 1 (.seq (.reg [
 mv 26 24,
 qo 27 (.p (idxAF (tt 23) (tt 24) 4 1 .sc)) [pp 23,pp 24],
 mv 10 26,
 mv 11 27]) (
 .seq (.reg [
 mv 29 10,
 mv 30 6,
 mv 31 9,
 mv 32 11,
 qo 33 (.c (callF (ff 78) [(tt 30),(tt 31),(tt 32)])) [pp 30,pp 31,pp 32],
 mv 28 33,
 qo 34 (.p (extF (tt 28) 0)) [pp 28],
 qo 35 (.p (extF (tt 28) 1)) [pp 28],
 qo 36 (.p (iaddrAF (tt 8) (tt 29) 4 1)) [pp 8,pp 29],
 qn (.a (storeF (tt 36) (tt 34) 1)) [pp 36,pp 34]]) (
 .reg [
 mv 37 9,
 mv 38 11,
 qo 39 (.p (arF .add (tt 37) (tt 38))) [pp 37,pp 38],
 mv 9 39])))) (
 .reg [
 qo 40 (.p (arF .add (tt 24) (ii 1))) [pp 24],
 mv 24 40])))
noncomputable def c75:CFn:=⟨[.tmp (pp 2),.cell (pp 3) 4 .ag,.tmp (pp 4)],
 .seq (.reg [
 qo 1 (.m (boxF 64 (tt 0))) [pp 0],
 qo 2 (.p (S.get (.c (.int .u64 0)))) [],
 qo 3 (.m (allocF 4 [.int .u64 0,.int .i64 0,.int .u64 0,.int .u64 0])) [],
 qo 4 (.p (S.get (ii 0))) []]) (
 .seq (.reg [
 qo 14 (.r (loadF (tt 1) 64 .bk)) [pp 1],
 qo 15 (.c (callF (ff 77) [(tt 14)])) [pp 14],
 mv 13 15,
 qo 16 (.p (extF (tt 13) 0)) [pp 13],
 qo 17 (.p (extF (tt 13) 1)) [pp 13],
 qo 18 (.p (extF (tt 13) 2)) [pp 13],
 mv 5 16,
 mv 6 17,
 mv 7 18]) (
 .seq (.seq (.reg [
 mv 19 7,
 qo 20 (.p (eqcF true false [.int .i64] (tt 19) (ii 0))) [pp 19]]) (
 .cond (tt 20) (.seq (.reg [
 qo 21 (.p (buildF [.int .u64 0,.int .i64 0,.int .u64 0,.int .u64 0] .ag [])) [],
 mv 22 7,
 qo 2 (.p (S.get (.c (.int .u64 0)))) [],
 qn (.a (storeF (tt 3) (tt 21) 4)) [pp 3,pp 21],
 mv 4 22]) (
 .ret)) (.skip))) (
 .seq (.reg [
 qo 8 (.m (allocF 4 [.int .u64 0,.int .u64 0,.int .u64 0,.int .u64 0])) []]) (
 .seq (.reg [
 qo 9 (.p (S.get (ii 0))) []]) (
 .seq (.seq (.reg [
 qo 23 (.r (loadF (.c (.ptr (some ⟨.run 0,0⟩))) 4 .ag)) [],
 qo 24 (.p (S.get (ii 0))) []]) (
 .block 0 (.loop c75_l0))) (
 .seq (.reg [
 qo 41 (.p (iaddrAF (tt 8) (ii 0) 4 1)) [pp 8],
 qo 42 (.r (loadF (tt 41) 1 .sc)) [pp 41],
 qo 43 (.p (iaddrAF (tt 8) (ii 1) 4 1)) [pp 8],
 qo 44 (.r (loadF (tt 43) 1 .sc)) [pp 43],
 qo 45 (.p (convF .i64 (tt 44))) [pp 44],
 qo 46 (.p (iaddrAF (tt 8) (ii 2) 4 1)) [pp 8],
 qo 47 (.r (loadF (tt 46) 1 .sc)) [pp 46],
 qo 48 (.p (iaddrAF (tt 8) (ii 3) 4 1)) [pp 8],
 qo 49 (.r (loadF (tt 48) 1 .sc)) [pp 48],
 qo 50 (.p (buildF [.int .u64 0,.int .i64 0,.int .u64 0,.int .u64 0] .ag [(0,1,(tt 42)),(1,1,(tt 45)),(2,1,(tt 47)),(3,1,(tt 49))])) [pp 42,pp 45,pp 47,pp 49],
 qo 12 (.m (allocF 4 [.int .u64 0,.int .i64 0,.int .u64 0,.int .u64 0])) [],
 qn (.a (storeF (tt 12) (tt 50) 4)) [pp 12,pp 50]]) (
 .seq (.seq (.reg [
 mv 51 5,
 qo 52 (.p (arF .gtr (tt 51) (.c (.int .u64 4611686018427387904)))) [pp 51],
 mv 53 52,
 qg 54 (.r (loadF (tt 12) 4 .ag)) 53 false [pp 12],
 qg 55 (.c (callF (ff 79) [(tt 54)])) 53 false [pp 54],
 qg 56 (.p (unF .not (tt 55))) 53 false [pp 55],
 qo 57 (.p (pickF (tt 53) (.c (.bool true)) (tt 56))) [pp 53,pp 56],
 mv 58 57,
 mg 59 6 58 false,
 mg 60 9 58 false,
 qg 61 (.p (sliceF 1 (tt 59) (some (tt 60)) none none)) 58 false [pp 59,pp 60],
 qg 62 (.c (callF (ff 88) [(tt 61),(ff 89)])) 58 false [pp 61],
 qo 63 (.p (pickF (tt 58) (.c (.bool true)) (tt 62))) [pp 58,pp 62]]) (
 .cond (tt 63) (.seq (.reg [
 qo 64 (.p (buildF [.int .u64 0,.int .i64 0,.int .u64 0,.int .u64 0] .ag [])) [],
 qo 2 (.p (S.get (.c (.int .u64 0)))) [],
 qn (.a (storeF (tt 3) (tt 64) 4)) [pp 3,pp 64],
 qo 4 (.p (S.get (ii 5))) []]) (
 .ret)) (.skip))) (
 .seq (.regD [
 mv 65 5,
 qo 66 (.r (loadF (tt 12) 4 .ag)) [pp 12],
 mv 2 65,
 qn (.a (storeF (tt 3) (tt 66) 4)) [pp 3,pp 66],
 qo 4 (.p (S.get (ii 0))) []] [0,0,1,7,15]) (
 .ret)))))))))⟩
theorem c75_eq:fnOf Tryd.prog 75=some c75:=by kernel_rfl
structure Mk where
 id:Nat
 R:Nat
 first:Nat
 pos:Nat
def Mk.V (M:Mk):List V:=mkV M.id M.R M.first M.pos
noncomputable def mkG (B:Nat):Mk:=⟨bd B 0 8,bd B 8 2,bd B 10 8,bd B 18 8⟩
def mkMay (M:Mk):Bool:=decide (M.id≠0∧40≤M.R∧M.R≤256∧1≤M.first∧M.first≤4611686018427387904∧M.pos≤4611686018427387904)
open Classical in
noncomputable def markOk (B:Nat):Bool:=decide (sealE B=0)&&decide (sealN B≤4611686018427387904)&&mkMay (mkG B)&&decide (∀ i,i < 18→byte B (34+i)=0)
section
variable {lf K:Nat} (hlf:1000 < lf)
include hlf
theorem ummay' (G:Heap) (M:Mk) (n:Nat):ret (U lf K (n+1) 79 [.agg M.V] G) fun v G'=>v=.bool (mkMay M)∧Turns Z G G':=by
 have k0:cut M.V 0 1=some [.int .u64 (M.id:Int)]:=rfl
 have k1:cut M.V 1 1=some [.int .i64 (M.R:Int)]:=rfl
 have k2:cut M.V 2 1=some [.int .u64 (M.first:Int)]:=rfl
 have k3:cut M.V 3 1=some [.int .u64 (M.pos:Int)]:=rfl
 have hw:width M.V=4:=rfl
 have b0:((M.id:Int)==0)=!decide (M.id≠0):=by
  by_cases h:M.id=0
  ·rw[h];rfl
  ·rw[decide_eq_true h,Bool.not_true,beq_eq_false_iff_ne];omega
 have key:mkMay M=(decide (M.id≠0)&&decide (40≤M.R)&&decide (M.R≤256)&&decide (1≤M.first)&&decide (M.first≤4611686018427387904)&&decide (M.pos≤4611686018427387904)):=by
  unfold mkMay
  simp only[Bool.decide_and,Bool.and_assoc]
 rw[key]
 refine ret_callU rfl rfl c79_eq ?_
 by_cases h0:M.id≠0<;>by_cases h1:40≤M.R<;>by_cases h2:M.R≤256<;>by_cases h3:1≤M.first<;>by_cases h4:M.first≤4611686018427387904<;>by_cases h5:M.pos≤4611686018427387904
 all_goals
  have i1:((40:Int)≤(M.R:Int))=(40≤M.R):=propext (by omega)
  have i2:((M.R:Int)≤256)=(M.R≤256):=propext (by omega)
  have i3:((1:Int)≤(M.first:Int))=(1≤M.first):=propext (by omega)
  have i4:((M.first:Int)≤4611686018427387904)=(M.first≤4611686018427387904):=propext (by omega)
  have i5:((M.pos:Int)≤4611686018427387904)=(M.pos≤4611686018427387904):=propext (by omega)
  have d0:=b0
  simp only[h0,not_false_eq_true,not_true_eq_false,ne_eq,decide_true,decide_false,Bool.not_true,Bool.not_false] at d0
  simp (maxDischargeDepth:=12) only[c79,hw,k0,k1,k2,k3,d0,i1,i2,i3,i4,i5,h0,h1,h2,h3,h4,h5,hv,ldO_one,stO_one,sy,tup,↓reduceIte,zA,zG,zC,zD,zF,zE,zB,zH,reduceCtorEq]
  exact⟨trivial,.inr trivial,_,rfl,by simp[h0],Turns.add Z G _⟩
def arrM (M:Mk):Nat→List V
 | 0=>[.int .u64 0,.int .u64 0,.int .u64 0,.int .u64 0]
 | 1=>[.int .u64 (M.id:Int),.int .u64 0,.int .u64 0,.int .u64 0]
 | 2=>[.int .u64 (M.id:Int),.int .u64 (M.R:Int),.int .u64 0,.int .u64 0]
 | 3=>[.int .u64 (M.id:Int),.int .u64 (M.R:Int),.int .u64 (M.first:Int),.int .u64 0]
 | _=>[.int .u64 (M.id:Int),.int .u64 (M.R:Int),.int .u64 (M.first:Int),.int .u64 (M.pos:Int)]
def atM:Nat→Nat
 | 0=>0
 | 1=>8
 | 2=>10
 | 3=>18
 | _=>26
theorem umgetl {G2:Heap} {B k q:Nat} (hbk:BodyAt G2 k (fun i=>byte B (8+i)) 44) (hq:G2.next≤q) (n:Nat) {V1 V2 V3 V4 V5:V}:∀(t:T) (G3:Heap),Turns Z G2 G3→G3.get (.run q)=some (.rows false 4 [arrM (mkG B) 0])→t.getP (Tr.path 1)=some V1→t.getP (Tr.path 2)=some V2→t.getP (Tr.path 3)=some V3→t.getP (Tr.path 4)=some V4→t.getP (Tr.path 5)=some V5→t.getP (Tr.path 6)=some (.slice (some ⟨.run k,0⟩) 44 44 1)→t.getP (Tr.path 8)=some (.ptr (some ⟨.run q,0⟩))→t.getP (Tr.path 9)=some (.int .i64 0)→t.getP (Tr.path 23)=some (.agg [.int .i64 8,.int .i64 2,.int .i64 8,.int .i64 8])→t.getP (Tr.path 24)=some (.int .i64 0) →
  wp (loopF (runC (U lf K (n+1)) lf c75_l0) lf ⟨t,G3,[]⟩) fun x s=>x=.ex 0∧s.d=[]∧Turns Z G2 s.H∧s.H.get (.run q)=some (.rows false 4 [arrM (mkG B) 4])∧s.t.getP (Tr.path 1)=some V1∧s.t.getP (Tr.path 2)=some V2∧s.t.getP (Tr.path 3)=some V3∧s.t.getP (Tr.path 4)=some V4∧s.t.getP (Tr.path 5)=some V5∧s.t.getP (Tr.path 6)=some (.slice (some ⟨.run k,0⟩) 44 44 1)∧s.t.getP (Tr.path 8)=some (.ptr (some ⟨.run q,0⟩))∧s.t.getP (Tr.path 9)=some (.int .i64 26):=by
 intro t G3 t3 h3 q1 q2 q3 q4 q5 q6 q8 q9 q23 q24
 refine wp_loopF (fun f s=>∃ i,f=4 - i∧i≤4∧s.d=[]∧Turns Z G2 s.H∧s.H.get (.run q)=some (.rows false 4 [arrM (mkG B) i])∧s.t.getP (Tr.path 1)=some V1∧s.t.getP (Tr.path 2)=some V2∧s.t.getP (Tr.path 3)=some V3∧s.t.getP (Tr.path 4)=some V4∧s.t.getP (Tr.path 5)=some V5∧s.t.getP (Tr.path 6)=some (.slice (some ⟨.run k,0⟩) 44 44 1)∧s.t.getP (Tr.path 8)=some (.ptr (some ⟨.run q,0⟩))∧s.t.getP (Tr.path 9)=some (.int .i64 (atM i:Int))∧s.t.getP (Tr.path 23)=some (.agg [.int .i64 8,.int .i64 2,.int .i64 8,.int .i64 8])∧s.t.getP (Tr.path 24)=some (.int .i64 (i:Int))) ?_ lf 4 _ ⟨0,rfl,by omega,rfl,t3,h3,q1,q2,q3,q4,q5,q6,q8,q9,q23,q24⟩ (by omega)
 rintro f ⟨t,HH,d⟩ ⟨i,rfl,hi,rfl,t3,h3,q1,q2,q3,q4,q5,q6,q8,q9,q23,q24⟩
 dsimp only at t3 h3 q1 q2 q3 q4 q5 q6 q8 q9 q23 q24
 by_cases hlt:i < 4
 ·have hlt':(i:Int) < 4:=by omega
  have hle:i≤3:=by omega
  have hle':i+1≤4:=by omega
  have w1:IntKind.i64.wrap ((i:Int)+1)=((i+1:Nat):Int):=by rw[Go.Am.wrap_i64 (by omega)];omega
  have hcut:cut [V.int .i64 8,V.int .i64 2,V.int .i64 8,V.int .i64 8] i 1=some [.int .i64 (szM i:Int)]:=by
   have:i=0∨i=1∨i=2∨i=3:=by omega
   rcases this with rfl | rfl | rfl | rfl<;>rfl
  have hput:put (arrM (mkG B) i) i [.int .u64 ((bd B (atM i) (szM i):Nat):Int)]=some (arrM (mkG B) (i+1)):=by
   have:i=0∨i=1∨i=2∨i=3:=by omega
   rcases this with rfl | rfl | rfl | rfl<;>rfl
  have hat:atM i+szM i=atM (i+1)∧atM (i+1)≤26:=by
   have:i=0∨i=1∨i=2∨i=3:=by omega
   rcases this with rfl | rfl | rfl | rfl<;>decide
  have w2:IntKind.i64.wrap ((atM i:Int)+(szM i:Int))=(atM (i+1):Int):=by rw[Go.Am.wrap_i64 (by omega)];omega
  have hw4:width (arrM (mkG B) i)=4:=by
   have:i=0∨i=1∨i=2∨i=3:=by omega
   rcases this with rfl | rfl | rfl | rfl<;>rfl
  have eg:U lf K (n+1) 78 [.slice (some ⟨.run k,0⟩) 44 44 1,.int .i64 (atM i:Int),.int .i64 (szM i:Int)] HH=some (.v (.tuple [.int .u64 ((bd B (atM i) (szM i):Nat):Int),.int .i64 0]),HH):=u_nget_ok (K:=K) (H:=HH) (p:=⟨.run k,0⟩) (len:=44) (cap:=44) (loose:=1) (a:=atM i) (sz:=szM i) (c:=fun j=>byte B (8+(atM i+j))) (szM_le i) (by omega) (by omega) (by omega) (.inr rfl) (fun _ _=>byte_lt _ _) (fun j hj=>by
   have:=(hbk.turns t3).load (i:=atM i+j) (by omega)
   simpa [Nat.add_assoc] using this) lf n (by omega)
  simp (maxDischargeDepth:=12) only[c75_l0,q6,q8,q9,q23,q24,hlt',hle,hle',hcut,eg,h3,hput,w1,w2,Nat.mul_one,iaddrAF,idxAF,hv,ldO_one,stO_one,sy,tup,↓reduceIte,zA,zG,zC,zD,zF,zE,zB,zH,reduceCtorEq]
  refine⟨4 - (i+1),by omega,i+1,rfl,by omega,trivial,t3.setn _ hq _,?_,by simp[q1],by simp[q2],by simp[q3],by simp[q4],by simp[q5],by simp[q6],by simp[q8],by simp,by simp[q23],by simp⟩
  first | rfl | (rw[Heap.get_set,if_pos rfl])
 ·have:i=4:=by omega
  subst this
  have hnl:¬ (((4:Nat):Int) < 4):=by decide
  simp (maxDischargeDepth:=12) only[c75_l0,q24,hnl,hv,ldO_one,stO_one,sy,tup,↓reduceIte,zA,zG,zC,zD,zF,zE,zB,zH,reduceCtorEq]
  exact⟨trivial,trivial,t3,h3,by simp[q1],by simp[q2],by simp[q3],by simp[q4],by simp[q5],by simp[q6],by simp[q8],by simp[q9];rfl⟩
theorem umget {G:Heap} (hgl:G.get (.run 0)=some (.rows true 4 (intsR [8,2,8,8]))) (h00:0 < G.next) (B:Nat) (n:Nat):ret (U lf K (n+6) 75 [.blk B] G) fun v G'=>Turns Z G G'∧((markOk B=true∧v=.tuple [.int .u64 (sealN B:Int),.agg (mkG B).V,.int .i64 0])∨(markOk B=false∧∃ e:Int,e≠0∧v=.tuple [.int .u64 0,.agg (mkV 0 0 0 0),.int .i64 e])):=by
 have t1:Turns Z G ((G.add (.rows false 64 [[.blk B]])).add (.rows false 4 [mkV 0 0 0 0])):=by repeat (first | exact Turns.refl _ _ | apply Turns.skip | apply Turns.addm | apply Turns.setb | apply Turns.setl | apply Turns.setr | refine Turns.setn ?_ _ (by omega) _ | refine Turns.trans ?_ (tF _))
 have hb1:((G.add (.rows false 64 [[.blk B]])).add (.rows false 4 [mkV 0 0 0 0])).get (.run G.next)=some (.rows false 64 [[.blk B]]):=by rw[Heap.get_add,if_neg (run_ne (by simp)),Heap.get_add,if_pos rfl]
 have hr1:((G.add (.rows false 64 [[.blk B]])).add (.rows false 4 [mkV 0 0 0 0])).get (.run (G.next+1))=some (.rows false 4 [mkV 0 0 0 0]):=by rw[Heap.get_add,if_pos (by simp)]
 obtain⟨G1,hG1⟩:∃ G1,(G.add (.rows false 64 [[.blk B]])).add (.rows false 4 [[.int .u64 0,.int .i64 0,.int .u64 0,.int .u64 0]])=G1:=⟨_,rfl⟩
 have n1:G1.next=G.next+1+1:=by rw[← hG1];rfl
 change Turns Z G ((G.add (.rows false 64 [[.blk B]])).add (.rows false 4 [[.int .u64 0,.int .i64 0,.int .u64 0,.int .u64 0]])) at t1
 change ((G.add (.rows false 64 [[.blk B]])).add (.rows false 4 [[.int .u64 0,.int .i64 0,.int .u64 0,.int .u64 0]])).get _=_ at hb1 hr1
 rw[hG1] at t1 hb1 hr1
 obtain⟨v2,G2,e2,t2,h2⟩:=u_sget_ok (K:=K) G1 B (lf:=lf) (by omega) (n+1)
 have hb2:=(t2.same (.run G.next) (by show _ < _;omega) (fun h=>h)).trans hb1
 have hr2:=(t2.same (.run (G.next+1)) (by show _ < _;omega) (fun h=>h)).trans hr1
 have nn2:=t2.next
 have hgl2:=((t1.trans t2).same (.run 0) h00 (fun h=>h)).trans hgl
 have z4:put (mkV 0 0 0 0) 0 [.int .u64 0,.int .i64 0,.int .u64 0,.int .u64 0]=some (mkV 0 0 0 0):=rfl
 have c4:cut (mkV 0 0 0 0) 0 4=some (mkV 0 0 0 0):=rfl
 have w4:width [V.int .u64 0,.int .i64 0,.int .u64 0,.int .u64 0]=4:=rfl
 refine ret_callU rfl rfl c75_eq ?_
 rcases h2 with ⟨hs,rfl⟩ | ⟨hs,k,rfl,hbk,hk⟩
 ·have hno:markOk B=false:=by unfold markOk;rw[decide_eq_false hs,Bool.false_and,Bool.false_and,Bool.false_and]
  have hs':(sealE B==0)=false:=beq_eq_false_iff_ne.2 hs
  generalize sealE B=E at e2 hs hs'
  simp (maxDischargeDepth:=12) only[c75,hG1,hb1,Dj,e2,hs',z4,w4,hr2,c4,hv,ldO_one,stO_one,sy,tup,↓reduceIte,zA,zG,zC,zD,zF,zE,zB,zH,reduceCtorEq]
  exact⟨trivial,.inr trivial,_,rfl,(t1.trans t2).setn _ (by omega) _,.inr ⟨hno,E,hs,rfl⟩⟩
 ·obtain⟨sq,hsq⟩:∃ sq,sq=sealN B:=⟨_,rfl⟩
  rw[← hsq] at e2
  have b00:((0:Int)==0)=true:=rfl
  have n0:(0=G2.next)=False:=eq_false (by omega)
  have l0:ldO (some (.rows true 4 (intsR [8,2,8,8]))) 0 4=some [.int .i64 8,.int .i64 2,.int .i64 8,.int .i64 8]:=rfl
  have t3:Turns Z G2 (G2.add (.rows false 4 [[.int .u64 0,.int .u64 0,.int .u64 0,.int .u64 0]])):=by repeat (first | exact Turns.refl _ _ | apply Turns.skip | apply Turns.addm | apply Turns.setb | apply Turns.setl | apply Turns.setr | refine Turns.setn ?_ _ (by omega) _ | refine Turns.trans ?_ (tF _))
  have h3:(G2.add (.rows false 4 [[.int .u64 0,.int .u64 0,.int .u64 0,.int .u64 0]])).get (.run G2.next)=some (.rows false 4 [arrM (mkG B) 0]):=by rw[Heap.get_add,if_pos rfl];rfl
  simp (maxDischargeDepth:=12) only[c75,hG1,hb1,Dj,e2,b00,hgl2,n0,l0,hv,ldO_one,stO_one,sy,tup,↓reduceIte,zA,zG,zC,zD,zF,zE,zB,zH,reduceCtorEq]
  refine wp_ctx (F:=fun r=>seqC _ _ _ (blockC _ r)) (umgetl hlf hbk (Nat.le_refl _) (n+4) _ _ t3 h3 (V1:=.ptr (some ⟨.run G.next,0⟩)) (V2:=.int .u64 0) (V3:=.ptr (some ⟨.run (G.next+1),0⟩)) (V4:=.int .i64 0) (V5:=.int .u64 (sq:Int)) ?_ ?_ ?_ ?_ ?_ ?_ ?_ ?_ ?_ ?_) ?_
  ·simp only[sy,tup,↓reduceIte,zA,zG,zC,zD,zF,zE,zB,zH,reduceCtorEq]
  ·simp only[sy,tup,↓reduceIte,zA,zG,zC,zD,zF,zE,zB,zH,reduceCtorEq]
  ·simp only[sy,tup,↓reduceIte,zA,zG,zC,zD,zF,zE,zB,zH,reduceCtorEq]
  ·simp only[sy,tup,↓reduceIte,zA,zG,zC,zD,zF,zE,zB,zH,reduceCtorEq]
  ·simp only[sy,tup,↓reduceIte,zA,zG,zC,zD,zF,zE,zB,zH,reduceCtorEq]
  ·simp only[sy,tup,↓reduceIte,zA,zG,zC,zD,zF,zE,zB,zH,reduceCtorEq]
  ·simp only[sy,tup,↓reduceIte,zA,zG,zC,zD,zF,zE,zB,zH,reduceCtorEq]
  ·simp only[sy,tup,↓reduceIte,zA,zG,zC,zD,zF,zE,zB,zH,reduceCtorEq]
  ·simp only[sy,tup,↓reduceIte,zA,zG,zC,zD,zF,zE,zB,zH,reduceCtorEq]
  ·simp only[sy,tup,↓reduceIte,zA,zG,zC,zD,zF,zE,zB,zH,reduceCtorEq]
  rintro x ⟨t,G4,d⟩ ⟨rfl,hd,t4,h4,q1,q2,q3,q4,q5,q6,q8,q9⟩
  dsimp only at hd t4 h4 q1 q2 q3 q4 q5 q6 q8 q9
  subst hd
  have hR:bd B 8 2 < 65536:=bd_lt B 8
  obtain⟨M,hM⟩:∃ M,M=mkG B:=⟨_,rfl⟩
  have hMR:M.R < 65536:=by rw[hM];exact hR
  rw[← hM] at h4
  have c0:cut (arrM M 4) 0 1=some [.int .u64 (M.id:Int)]:=rfl
  have c1:cut (arrM M 4) 1 1=some [.int .u64 (M.R:Int)]:=rfl
  have c2:cut (arrM M 4) 2 1=some [.int .u64 (M.first:Int)]:=rfl
  have c3:cut (arrM M 4) 3 1=some [.int .u64 (M.pos:Int)]:=rfl
  have wR:IntKind.i64.wrap (M.R:Int)=(M.R:Int):=Go.Am.wrap_i64 (by omega)
  have a2:asNat (.int .i64 2)=some 2:=rfl
  have a3:asNat (.int .i64 3)=some 3:=rfl
  have hsl:∀(x lo:S) (t:T),x.get t=some (.slice (some ⟨.run k,0⟩) 44 44 1)→lo.get t=some (.int .i64 26)→sliceF 1 x (some lo) none none t=some (.slice (some ⟨.run k,26⟩) 18 18 1):=fun x lo t h1 h2=>by
   simp only[sliceF,h1,h2,oget,Option.map_some]
   rfl
  have g2:decide (2≤3)=true:=rfl
  have g3:decide (3≤3)=true:=rfl
  have hV:M.V=[.int .u64 (M.id:Int),.int .i64 (M.R:Int),.int .u64 (M.first:Int),.int .u64 (M.pos:Int)]:=rfl
  have hw:width [V.int .u64 (M.id:Int),.int .i64 (M.R:Int),.int .u64 (M.first:Int),.int .u64 (M.pos:Int)]=4:=rfl
  have pM:put [V.int .u64 0,.int .i64 0,.int .u64 0,.int .u64 0] 0 [.int .u64 (M.id:Int),.int .i64 (M.R:Int),.int .u64 (M.first:Int),.int .u64 (M.pos:Int)]=some [.int .u64 (M.id:Int),.int .i64 (M.R:Int),.int .u64 (M.first:Int),.int .u64 (M.pos:Int)]:=rfl
  have cM:cut [V.int .u64 (M.id:Int),.int .i64 (M.R:Int),.int .u64 (M.first:Int),.int .u64 (M.pos:Int)] 0 4=some [.int .u64 (M.id:Int),.int .i64 (M.R:Int),.int .u64 (M.first:Int),.int .u64 (M.pos:Int)]:=rfl
  have pR:put (mkV 0 0 0 0) 0 [.int .u64 (M.id:Int),.int .i64 (M.R:Int),.int .u64 (M.first:Int),.int .u64 (M.pos:Int)]=some [.int .u64 (M.id:Int),.int .i64 (M.R:Int),.int .u64 (M.first:Int),.int .u64 (M.pos:Int)]:=rfl
  have t5:Turns Z G4 ((G4.add (.rows false 4 [[.int .u64 0,.int .i64 0,.int .u64 0,.int .u64 0]])).set (.run G4.next) (.rows false 4 [[.int .u64 (M.id:Int),.int .i64 (M.R:Int),.int .u64 (M.first:Int),.int .u64 (M.pos:Int)]])):=by repeat (first | exact Turns.refl _ _ | apply Turns.skip | apply Turns.addm | apply Turns.setb | apply Turns.setl | apply Turns.setr | refine Turns.setn ?_ _ (by omega) _ | refine Turns.trans ?_ (tF _))
  have h5:((G4.add (.rows false 4 [[.int .u64 0,.int .i64 0,.int .u64 0,.int .u64 0]])).set (.run G4.next) (.rows false 4 [[.int .u64 (M.id:Int),.int .i64 (M.R:Int),.int .u64 (M.first:Int),.int .u64 (M.pos:Int)]])).get (.run G4.next)=some (.rows false 4 [[.int .u64 (M.id:Int),.int .i64 (M.R:Int),.int .u64 (M.first:Int),.int .u64 (M.pos:Int)]]):=by rw[Heap.get_set,if_pos rfl]
  obtain⟨G5,hG5⟩:∃ G5,(G4.add (.rows false 4 [[.int .u64 0,.int .i64 0,.int .u64 0,.int .u64 0]])).set (.run G4.next) (.rows false 4 [[.int .u64 (M.id:Int),.int .i64 (M.R:Int),.int .u64 (M.first:Int),.int .u64 (M.pos:Int)]])=G5:=⟨_,rfl⟩
  have nn4:=t4.next
  have nn5:G5.next=G4.next+1:=by rw[← hG5];rfl
  rw[hG5] at t5 h5
  have t25:=t4.trans t5
  have hr5:=(t25.same (.run (G.next+1)) (by show _ < _;omega) (fun h=>h)).trans hr2
  have tF:=(t1.trans t2).trans t25
  obtain⟨v6,G6,e6,rfl,t6⟩:=ummay' hlf G5 M (K:=K) (n+4)
  rw[hV] at e6
  have nn6:=t6.next
  have hr6:=(t6.same (.run (G.next+1)) (by show _ < _;omega) (fun h=>h)).trans hr5
  have h6:=(t6.same (.run G4.next) (by show _ < _;omega) (fun h=>h)).trans h5
  obtain⟨v7,G7,e7,rfl,z,rfl,hz⟩:=u_contains_ok (K:=K) (H:=G6) (p:=⟨.run k,26⟩) (len:=18) (cap:=18) (loose:=1) (c:=fun i=>byte B (8+(26+i))) (by omega) (fun i hi=>by
   have:=(hbk.turns (t25.trans t6)).load (i:=26+i) (by omega)
   simpa [Nat.add_assoc] using this) lf (n+2) (by omega)
  have hz':z=false↔∀ i,i < 18→byte B (34+i)=0:=by
   refine hz.trans ⟨fun h i hi=>?_,fun h i hi=>?_⟩
   ·have h2:byte B (8+(26+i))=0:=h i hi
    have e:8+(26+i)=34+i:=by omega
    rwa [e] at h2
   ·have e:8+(26+i)=34+i:=by omega
    show byte B (8+(26+i))=0
    rw[e];exact h i hi
  have hno:∀ v:V,(sq≤4611686018427387904→mkMay M=true→z=true)→v=.tuple [.int .u64 0,.agg (mkV 0 0 0 0),.int .i64 5]→(markOk B=true∧v=.tuple [.int .u64 (sealN B:Int),.agg (mkG B).V,.int .i64 0])∨(markOk B=false∧∃ e:Int,e≠0∧v=.tuple [.int .u64 0,.agg (mkV 0 0 0 0),.int .i64 e]):=by
   intro v h hv
   refine .inr ⟨?_,5,by decide,hv⟩
   unfold markOk
   rw[decide_eq_true hs,← hsq,← hM,Bool.true_and]
   by_cases c1:sq≤4611686018427387904
   ·by_cases c2:mkMay M=true
    ·have c3:¬ ∀ i,i < 18→byte B (34+i)=0:=fun c=>by
      have:=hz'.2 c
      rw[h c1 c2] at this;cases this
     simp only[c3,decide_false,Bool.and_false]
    ·rw[Bool.not_eq_true] at c2
     rw[c2,Bool.and_false,Bool.false_and]
   ·rw[decide_eq_false c1,Bool.false_and,Bool.false_and]
  by_cases hb:(4611686018427387904:Int) < (sq:Int)
  ·simp (maxDischargeDepth:=12) only[q1,q2,q3,q4,q5,q6,q8,q9,h4,c0,c1,c2,c3,wR,a2,a3,↓hsl,g2,g3,hb,hw,pM,hG5,hr5,z4,w4,c4,iaddrAF,idxAF,hv,ldO_one,stO_one,sy,tup,↓reduceIte,zA,zG,zC,zD,zF,zE,zB,zH,reduceCtorEq]
   exact⟨trivial,.inr trivial,_,rfl,tF.setn _ (by omega) _,hno _ (fun h=>by omega) rfl⟩
  ·cases hm:mkMay M
   ·rw[hm] at e6
    simp (maxDischargeDepth:=12) only[q1,q2,q3,q4,q5,q6,q8,q9,h4,c0,c1,c2,c3,wR,a2,a3,↓hsl,g2,g3,hb,hw,pM,hG5,h5,cM,e6,hr6,z4,w4,c4,iaddrAF,idxAF,hv,ldO_one,stO_one,sy,tup,↓reduceIte,zA,zG,zC,zD,zF,zE,zB,zH,reduceCtorEq]
    exact⟨trivial,.inr trivial,_,rfl,(tF.trans t6).setn _ (by omega) _,hno _ (fun _ h=>by rw[hm] at h;cases h) rfl⟩
   ·rw[hm] at e6
    cases z
    ·simp (maxDischargeDepth:=12) only[q1,q2,q3,q4,q5,q6,q8,q9,h4,c0,c1,c2,c3,wR,a2,a3,↓hsl,g2,g3,hb,hw,pM,hG5,h5,cM,e6,e7,h6,hr6,pR,iaddrAF,idxAF,hv,ldO_one,stO_one,sy,tup,↓reduceIte,zA,zG,zC,zD,zF,zE,zB,zH,reduceCtorEq]
     rw[endD_ok (by kernel_rfl) (by kernel_rfl)]
     simp (maxDischargeDepth:=12) only[q3,cM,hv,ldO_one,stO_one,sy,tup,↓reduceIte,zA,zG,zC,zD,zF,zE,zB,zH,reduceCtorEq]
     refine⟨trivial,.inr trivial,_,rfl,(tF.trans t6).setn _ (by omega) _,.inl ⟨?_,by rw[← hM,hV,← hsq]⟩⟩
     unfold markOk
     rw[decide_eq_true hs,← hsq,← hM,hm,decide_eq_true (show sq≤4611686018427387904 by omega)]
     have hzz:=hz'.1 rfl
     rw[eq_true hzz]
     simp
    ·simp (maxDischargeDepth:=12) only[q1,q2,q3,q4,q5,q6,q8,q9,h4,c0,c1,c2,c3,wR,a2,a3,↓hsl,g2,g3,hb,hw,pM,hG5,h5,cM,e6,e7,hr6,z4,w4,c4,iaddrAF,idxAF,hv,ldO_one,stO_one,sy,tup,↓reduceIte,zA,zG,zC,zD,zF,zE,zB,zH,reduceCtorEq]
     exact⟨trivial,.inr trivial,_,rfl,(tF.trans t6).setn _ (by omega) _,hno _ (fun _ _=>rfl) rfl⟩
end
end Go.Proofs.YtabebpemfinejaaDoor.draft
namespace Go.Proofs.YtabebpemfinejaaDoor.draft
open Go.Am
theorem stl_atD (f:Nat→Nat):∀ n j i,i < n→(stl f n j)[i]?=some (f (j+i))
 | n+1,j,0,_=>rfl
 | n+1,j,i+1,h=>by
  show (stl f n (j+1))[i]?=_
  rw[stl_atD f n (j+1) i (by omega),show j+1+i=j+(i+1) by omega]
theorem apdL {A B:List Nat} {a j:Nat} (hA:A.length=a) (h:j < a):(A++B)[j]?=A[j]?:=List.getElem?_append_left (by omega)
theorem apdR {A B:List Nat} {a j:Nat} (hA:A.length=a):(A++B)[a+j]?=B[j]?:=by
 rw[List.getElem?_append_right (by omega),show a+j - A.length=j by omega]
theorem apdLen {A B:List Nat} {a b:Nat} (hA:A.length=a) (hB:B.length=b):(A++B).length=a+b:=by rw[List.length_append,hA,hB]
theorem crcN_same {f g:Nat→Nat}:∀(m:Nat),(∀ i,i < m→f i=g i)→crcN f m=crcN g m
 | 0,_=>rfl
 | m+1,hh=>by
  show crc.takeN (crcN f m) (f m)=crc.takeN (crcN g m) (g m)
  rw[crcN_same m (fun i hi=>hh i (by omega)),hh m (by omega)]
structure Seald (N:Nat) (l:List Nat) (X:Nat):Prop where
 e:sealE X=0
 n:sealN X=N
 lo:∀ i,i < 8→byte X i=dig N i
 hi:∀ i,i < 8→byte X (56+i)=dig N i
 bd:∀ j,j < 44→byte X (8+j)=l.getD j 0
 lt:X < 256 ^ 64
theorem seal_back {N:Nat} {l:List Nat} (hN:N < 256 ^ 8) (hN0:N≠0) (hl:l.length≤44) (hlt:∀ x ∈ l,x < 256):Seald N l (blkOf N l):=by
 obtain⟨X,hX⟩:∃ X,X=blkOf N l:=⟨_,rfl⟩
 rw[← hX]
 have hrt:=row_lt (N:=N) hlt
 have hbyte:∀ j,j < 64→byte X j=(rowOf N l).getD j 0:=fun j hj=>by
  rw[hX]
  unfold blkOf
  rw[byte_fillN (fun i=>getD_lt (l:=rowOf N l) hrt i),if_pos hj]
 have hh:=head_len (N:=N) (l:=l) hl
 have hd8:=stl_len (dig N) 8 0
 have hro:rowOf N l=(headOf N l++stl (dig (sumOf N l)) 4 0)++stl (dig N) 8 0:=by unfold rowOf;rw[digs_stl,digs_stl]
 have hhd:headOf N l=stl (dig N) 8 0++(l++List.replicate (44 - l.length) 0):=by unfold headOf;rw[digs_stl]
 have ls:=stl_len (dig (sumOf N l)) 4 0
 have hk:=apdLen hh ls
 have ob:∀ {j x:Nat},j < 64→(rowOf N l)[j]?=some x→byte X j=x:=fun {j x} hj hx=>by
  rw[hbyte j hj,List.getD_eq_getElem?_getD,hx];rfl
 have b0:∀ i,i < 8→byte X i=dig N i:=fun i hi=>ob (by omega) (by
  rw[hro,apdL hk (by omega),apdL hh (by omega),hhd,apdL hd8 (by omega),stl_atD _ _ _ _ hi,Nat.zero_add])
 have b56:∀ i,i < 8→byte X (56+i)=dig N i:=fun i hi=>ob (by omega) (by
  rw[hro,apdR hk,stl_atD _ _ _ _ hi,Nat.zero_add])
 have b52:∀ i,i < 4→byte X (52+i)=dig (sumOf N l) i:=fun i hi=>ob (by omega) (by
  rw[hro,apdL hk (by omega),apdR hh,stl_atD _ _ _ _ hi,Nat.zero_add])
 have bh:∀ j,j < 52→byte X j=(headOf N l).getD j 0:=fun j hj=>by
  rw[hbyte j (by omega),List.getD_eq_getElem?_getD,List.getD_eq_getElem?_getD,hro,apdL hk (by omega),apdL hh hj]
 have bb:∀ j,j < 44→byte X (8+j)=l.getD j 0:=fun j hj=>by
  rw[bh _ (by omega),List.getD_eq_getElem?_getD,List.getD_eq_getElem?_getD,hhd,apdR hd8]
  by_cases h:j < l.length
  ·rw[List.getElem?_append_left h]
  ·rw[List.getElem?_append_right (by omega),List.getElem?_eq_none (l:=l) (by omega),List.getElem?_replicate,if_pos (by omega)];rfl
 have hsum:sumOf N l < 4294967296:=notN_lt (crcN_lt (fun i _=>getD_lt (head_lt hlt) i))
 have hcs:crcN (byte X) 52=crcN (fun i=>(headOf N l).getD i 0) 52:=crcN_same 52 bh
 have e1:sealN X=N:=leN_dig hN (fun i hi=>by rw[Nat.zero_add];exact b0 i hi)
 have e2:leN (fun i=>byte X (56+i)) 8=N:=leN_dig hN b56
 have e3:leN (fun i=>byte X (52+i)) 4=sumOf N l:=leN_dig (by show _ < 4294967296;exact hsum) b52
 have e4:notN (crcN (byte X) 52)=sumOf N l:=by rw[hcs];rfl
 have hE:sealE X=0:=by
  unfold sealE
  rw[e1,e2,e3,e4,if_neg (by intro h;rcases h with h | h;exact hN0 h;exact h rfl),if_neg (by intro h;exact h rfl)]
 exact⟨hE,e1,b0,b56,bb,by rw[hX];exact fillN_lt (fun i=>getD_lt (l:=rowOf N l) hrt i) 64 (Nat.le_refl _)⟩
def Plain (X:Nat) (N:Nat):Prop:=X < 256 ^ 64∧N < 256∧(∀ i,i < 8→byte X i=dig N i)∧∀ i,i < 8→byte X (56+i)=dig N i
theorem Seald.plain {N:Nat} {l:List Nat} {X:Nat} (h:Seald N l X) (hN:N < 256):Plain X N:=⟨h.lt,hN,h.lo,h.hi⟩
theorem byte_zero:∀ i,byte 0 i=0:=fun i=>by
 unfold byte
 show (0 / 256 ^ i) % 256=0
 rw[Nat.zero_div]
theorem plain0:Plain 0 0:=⟨by decide,by decide,fun i _=>by rw[byte_zero];unfold dig;simp,fun i _=>by rw[byte_zero];unfold dig;simp⟩
theorem dig_small {N i:Nat} (h:N < 256) (hi:i≠0):dig N i=0:=by
 unfold dig
 have:N / 256 ^ i=0:=Nat.div_eq_of_lt (Nat.lt_of_lt_of_le h (by
  have:256 ^ 1≤256 ^ i:=Nat.pow_le_pow_right (by decide) (by omega)
  simpa using this))
 rw[this]
theorem dig_zero {N:Nat} (h:N < 256):dig N 0=N:=by
 unfold dig
 rw[Nat.pow_zero,Nat.div_one,Nat.mod_eq_of_lt h]
theorem torn {X Y N M:Nat} (hX:Plain X N) (hY:Plain Y M) (hNM:N≠M) {k:Nat} (hk:k≤64):disk.tornN X Y k=X∨disk.tornN X Y k=Y∨sealE (disk.tornN X Y k)≠0:=by
 obtain⟨x1,x2,x3,x4⟩:=hX
 obtain⟨y1,y2,y3,y4⟩:=hY
 by_cases h0:k=0
 ·left;subst h0;rfl
 by_cases h57:57≤k
 ·right;left
  refine disk.eq_of_bytes (disk.tornN_lt x1 k hk) y1 (fun j hj=>?_)
  rw[disk.byte_tornN]
  split
  ·rfl
  ·have e:j=56+(j - 56):=by omega
   rw[e,x4 _ (by omega),y4 _ (by omega),dig_small x2 (by omega),dig_small y2 (by omega)]
 ·right;right
  obtain⟨T,hT⟩:∃ T,T=disk.tornN X Y k:=⟨_,rfl⟩
  have bT:∀ j,byte T j=if j < k then byte Y j else byte X j:=fun j=>by rw[hT];exact disk.byte_tornN _ _ _ _
  rw[← hT]
  have n1:sealN T=leN (fun i=>byte T i) 8:=by unfold sealN;simp only[Nat.zero_add]
  have hl:(leN (fun i=>byte T i) 8) % 256=M:=by
   rw[leN_sumD (fun i _=>byte_lt _ _)]
   have:∀ n,sumD (fun i=>byte T i) (n+1) % 256=byte T 0 % 256:=fun n=>by
    induction n with
    | zero=>show (0+byte T 0*256 ^ 0) % 256=_;simp
    | succ n ih=>
     show (sumD (fun i=>byte T i) (n+1)+byte T (n+1)*256 ^ (n+1)) % 256=_
     rw[Nat.pow_succ,← Nat.mul_assoc,Nat.add_mul_mod_self_right,ih]
   rw[this 7,bT,if_pos (by omega),y3 0 (by decide),dig_zero y2,Nat.mod_eq_of_lt y2]
  have hh:leN (fun i=>byte T (56+i)) 8=N:=leN_dig (Nat.lt_of_lt_of_le x2 (by decide)) (fun i hi=>by
   show byte T (56+i)=dig N i
   rw[bT,if_neg (by omega)];exact x4 i hi)
  unfold sealE
  rw[n1,hh]
  rw[if_pos]
  ·decide
  ·right
   intro e
   rw[e,Nat.mod_eq_of_lt x2] at hl
   exact hNM hl
theorem crashS_one {S:List Nat} {m x:Nat} (hm:m < S.length) (P:List Int):∃ k,k≤64∧disk.crashS S ([(m,x)].zip P)=S.set m (disk.tornN (S.getD m 0) x k):=by
 cases P with
 | nil=>
  refine⟨0,by decide,?_⟩
  show S=S.set m (S.getD m 0)
  apply List.ext_getElem
  ·simp
  ·intro i h1 h2
   rw[List.getElem_set]
   split
   ·rename_i e;subst e;rw[List.getD_eq_getElem?_getD,List.getElem?_eq_getElem hm];rfl
   ·rfl
 | cons p P=>
  refine⟨disk.clampN p,by unfold disk.clampN;omega,?_⟩
  show disk.crashS (S.set m _) ([].zip P)=_
  rfl
end Go.Proofs.YtabebpemfinejaaDoor.draft
namespace Go.Proofs.YtabebpemfinejaaDoor.draft
open Go.Am
theorem p256_8:(256:Nat) ^ 8=18446744073709551616:=by decide +kernel
theorem getD_of {l:List Nat} {i x:Nat} (h:l[i]?=some x):l.getD i 0=x:=by rw[List.getD_eq_getElem?_getD,h];rfl
theorem bd_of {N:Nat} {l:List Nat} {X a n x:Nat} (h:Seald N l X) (ha:a+n≤44) (hx:x < 256 ^ n) (hl:∀ i,i < n→l[a+i]?=some (dig x i)):bd X a n=x:=by
 unfold bd
 refine leN_dig hx (fun i hi=>?_)
 rw[h.bd (a+i) (by omega)]
 exact getD_of (hl i hi)
theorem mark_back {cnt id R first pos:Nat} (hc:1≤cnt∧cnt≤4611686018427387904) (h:MkOk id R first pos):markOk (markB cnt id R first pos)=true∧sealN (markB cnt id R first pos)=cnt∧mkG (markB cnt id R first pos)=⟨id,R,first,pos⟩∧Seald cnt (markL id R first pos 4) (markB cnt id R first pos):=by
 obtain⟨⟨i1,i2⟩,⟨r1,r2⟩,⟨f1,f2⟩,p1⟩:=h
 have hlen:=markL_len id R first pos 4
 have hl:markL id R first pos 4=(((([]++stl (dig id) 8 0)++stl (dig R) 2 0)++stl (dig first) 8 0)++stl (dig pos) 8 0):=rfl
 have l1:(([]:List Nat)++stl (dig id) 8 0).length=8:=by rw[List.nil_append,stl_len]
 have l2:=apdLen l1 (stl_len (dig R) 2 0)
 have l3:=apdLen l2 (stl_len (dig first) 8 0)
 have l4:=apdLen l3 (stl_len (dig pos) 8 0)
 obtain⟨l,hle⟩:∃ l,l=markL id R first pos 4:=⟨_,rfl⟩
 have hlt:∀ x ∈ l,x < 256:=by rw[hle];exact markL_lt (lf:=1001) (by decide) id R first pos 4
 have S:=seal_back (N:=cnt) (l:=l) (by rw[p256_8];omega) (by omega) (by rw[hle,hl,l4];decide) hlt
 have hX:markB cnt id R first pos=blkOf cnt l:=by rw[hle];rfl
 rw[hX]
 rw[← hle] at hl
 rw[← hl] at l4
 have g0:bd (blkOf cnt l) 0 8=id:=bd_of S (by decide) (by rw[p256_8];exact i2) (fun i hi=>by
  rw[hl,apdL l3 (by omega),apdL l2 (by omega),apdL l1 (by omega),List.nil_append,Nat.zero_add,stl_atD _ _ _ _ hi,Nat.zero_add])
 have g1:bd (blkOf cnt l) 8 2=R:=bd_of S (by decide) (by show R < 65536;omega) (fun i hi=>by
  rw[hl,apdL l3 (by omega),apdL l2 (by omega),apdR l1,stl_atD _ _ _ _ hi,Nat.zero_add])
 have g2:bd (blkOf cnt l) 10 8=first:=bd_of S (by decide) (by rw[p256_8];omega) (fun i hi=>by
  rw[hl,apdL l3 (by omega),apdR l2,stl_atD _ _ _ _ hi,Nat.zero_add])
 have g3:bd (blkOf cnt l) 18 8=pos:=bd_of S (by decide) (by rw[p256_8];omega) (fun i hi=>by
  rw[hl,apdR l3,stl_atD _ _ _ _ hi,Nat.zero_add])
 have hG:mkG (blkOf cnt l)=⟨id,R,first,pos⟩:=by unfold mkG;rw[g0,g1,g2,g3]
 have hz:∀ i,i < 18→byte (blkOf cnt l) (34+i)=0:=fun i hi=>by
  have:=S.bd (26+i) (by omega)
  rw[show 8+(26+i)=34+i by omega] at this
  rw[this,List.getD_eq_getElem?_getD,List.getElem?_eq_none (by rw[l4];omega)];rfl
 have hm:mkMay ⟨id,R,first,pos⟩=true:=decide_eq_true ⟨i1,r1,r2,f1,f2,p1⟩
 refine⟨?_,S.n,hG,by rw[← hle];exact S⟩
 unfold markOk
 rw[S.n,hG,hm,decide_eq_true S.e,decide_eq_true hc.2]
 simp only[Bool.true_and]
 rw[eq_true hz]
 simp
theorem note_back {nt:Nt} (h:NtOk nt):noteOk (noteB nt)=true∧ntG (noteB nt)=nt∧Seald nt.seq (noteL nt) (noteB nt):=by
 obtain⟨⟨s1,s2⟩,p1,⟨c1,c2⟩,m1⟩:=h
 have hl:noteL nt=(stl (dig nt.pos) 8 0++stl (dig nt.cells) 2 0)++stl (dig nt.sum) 4 0:=rfl
 have l1:=stl_len (dig nt.pos) 8 0
 have l2:=apdLen l1 (stl_len (dig nt.cells) 2 0)
 have l3:=apdLen l2 (stl_len (dig nt.sum) 4 0)
 obtain⟨l,hle⟩:∃ l,l=noteL nt:=⟨_,rfl⟩
 have hlt:∀ x ∈ l,x < 256:=by
  rw[hle,hl]
  intro x hx
  rcases List.mem_append.1 hx with hx | hx
  ·rcases List.mem_append.1 hx with hx | hx
   ·exact stl_lt (lf:=1001) (by decide) (dig_lt _) _ _ x hx
   ·exact stl_lt (lf:=1001) (by decide) (dig_lt _) _ _ x hx
  ·exact stl_lt (lf:=1001) (by decide) (dig_lt _) _ _ x hx
 have S:=seal_back (N:=nt.seq) (l:=l) (by rw[p256_8];omega) (by omega) (by rw[hle,hl,l3];decide) hlt
 have hX:noteB nt=blkOf nt.seq l:=by rw[hle];rfl
 rw[← hle] at hl
 rw[← hl] at l3
 have g0:bd (blkOf nt.seq l) 0 8=nt.pos:=bd_of S (by decide) (by rw[p256_8];omega) (fun i hi=>by
  rw[hl,apdL l2 (by omega),apdL l1 (by omega),Nat.zero_add,stl_atD _ _ _ _ hi,Nat.zero_add])
 have g1:bd (blkOf nt.seq l) 8 2=nt.cells:=bd_of S (by decide) (by show _ < 65536;omega) (fun i hi=>by
  rw[hl,apdL l2 (by omega),apdR l1,stl_atD _ _ _ _ hi,Nat.zero_add])
 have g2:bd (blkOf nt.seq l) 10 4=nt.sum:=bd_of S (by decide) (by show _ < 4294967296;exact m1) (fun i hi=>by
  rw[hl,apdR l2,stl_atD _ _ _ _ hi,Nat.zero_add])
 have hG:ntG (noteB nt)=nt:=by unfold ntG;rw[hX,S.n,g0,g1,g2]
 refine⟨?_,hG,by rw[hX,← hle];exact S⟩
 unfold noteOk
 rw[hG,hX,decide_eq_true S.e,← hX,decide_eq_true rfl,Bool.true_and,Bool.and_true]
 exact decide_eq_true ⟨s1,s2,p1,c1,c2⟩
theorem note_bad {X:Nat} (h:sealE X≠0):noteOk X=false:=by unfold noteOk;rw[decide_eq_false h,Bool.false_and,Bool.false_and]
theorem mark_bad {X:Nat} (h:sealE X≠0):markOk X=false:=by unfold markOk;rw[decide_eq_false h,Bool.false_and,Bool.false_and,Bool.false_and]
theorem seal0:sealE 0≠0:=by
 have:sealN 0=0:=by
  unfold sealN
  refine leN_dig (by decide) (fun i _=>?_)
  show byte 0 (0+i)=dig 0 i
  rw[byte_zero];unfold dig
  show 0=(0 / 256 ^ i) % 256
  rw[Nat.zero_div]
 unfold sealE
 rw[if_pos (.inl this)];decide
end Go.Proofs.YtabebpemfinejaaDoor.draft
