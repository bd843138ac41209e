import Derived.Test.YtllkepkaimnodaaGreatDoorAmSum
import Derived.FnData
import Derived.MakeChecks
set_option linter.unusedVariables false
set_option linter.unusedSimpArgs false
namespace Go.Am
open Go.ChangeShapes Go.RowKit
noncomputable section
def heapB (P:Program) (m:Tr Obj) (a:Nat→Option Obj):Heap:=⟨m,P.globals.size,a,[]⟩
def intsR (l:List Int):List (List V):=[l.map (V.int .i64)]
def m1 (g:Nat) (l:List Int):Tr Obj:=Tr.e.setP (Tr.path g) (.rows true l.length (intsR l))
def hasG (g:Nat) (l:List Int) (H:Heap):Bool:=match H.get (.run g) with
 | some (.rows true n [r])=>match n.beq l.length with
  | true=>eqVs (eqV 2) r (l.map (V.int .i64))
  | false=>false
 | _=>false
def sumG (g:Nat) (l:List Int) (f:FuncId):CallT:=fun id args H=>match Nat.beq id f,args with
 | true,[]=>match hasG g l H with
  | true=>some (.v (.bool true),H)
  | false=>none
 | _,_=>none
end
theorem hasG_some {g:Nat} {l:List Int} {H:Heap} (h:hasG g l H=true):H.get (.run g)=some (.rows true l.length (intsR l)):=by
 unfold hasG at h
 split at h
 ·rename_i n r hg
  split at h
  ·rename_i hn
   have:=beq_iff.1 hn
   subst this
   rw[hg,eqVs_iff (eqV_iff 2) _ _ h];rfl
  ·cases h
 ·cases h
theorem m1_get {g n:Nat} {l:List Int} {o:Obj} (h:(m1 g l).getP (Tr.path n)=some o):n=g∧o=.rows true l.length (intsR l):=by
 unfold m1 at h
 rw[Tr.get_set] at h
 simp only[Tr.path_eq] at h
 by_cases e:n=g
 ·rw[if_pos e] at h;cases h;exact⟨e,rfl⟩
 ·rw[if_neg e,Tr.getP_e] at h;cases h
theorem ints_rel (ρ:Emb):∀ l:List Int,CRel ρ (l.map (V.int .i64)) (l.map (Value.int .i64))
 | []=>rfl
 | n::l=>CRel.cons_flat rfl rfl (ints_rel ρ l)
theorem intsR_rel (ρ:Emb) (l:List Int):RRel ρ l.length (intsR l) (l.map (Value.int .i64)):=by
 have:=RRel.one (ints_rel ρ l)
 simpa [intsR] using this
theorem CRel.ints {ρ:Emb}:∀ {l:List Int} {xs:List Value},CRel ρ (l.map (V.int .i64)) xs→xs=l.map (Value.int .i64)
 | [],xs,h=>h
 | n::l,xs,h=>by
  obtain⟨a,ys,rfl,h2,h3⟩:=h
  rcases h2 with ⟨B,hB,_⟩ | ⟨_,y,rfl,hy⟩
  ·cases hB
  ·have hy:y=_:=hy
   subst hy
   rw[CRel.ints h3];rfl
structure Holds (P:Program) (g:Nat) (l:List Int) (w:World):Prop where
 lt:g < P.globals.size
 low:g < w.heap.size
 cell:∀ i x,(l.map (Value.int .i64))[i]?=some x→w.cell? ⟨g,i,none⟩=some x
theorem at'_plain (g r i:Nat):at' ⟨g,0,r,none⟩ i=⟨g,i,none⟩:=by
 unfold at' Addr.add
 simp
 exact fun h=>h.symm
theorem Holds.orel {P:Program} {g:Nat} {l:List Int} {w:World} (h:Holds P g l w) (ρ:Emb) (r:Nat):ORel w.heap.size ρ w ⟨g,0,r,none⟩ (.rows true l.length (intsR l)):=
 ⟨fun _=>h.low,_,intsR_rel ρ l,fun i x hx=>by rw[at'_plain];exact h.cell i x hx⟩
theorem Base.simB {P:Program} {w:World} {ρ:Emb} {a:Nat→Option Obj} {k:Nat} {g:Nat} {l:List Int} (hb:Base P w ρ a k) (h:Holds P g l w):Sim w.heap.size ρ (heapB P (m1 g l) a).get w∧(heapB P (m1 g l) a).Wf:=by
 have hg:∀ b o,(heapB P (m1 g l) a).get b=some o→(∃ n,b=.arg n∧a n=some o)∨(b=.run g∧o=.rows true l.length (intsR l)):=by
  intro b o h
  cases b with
  | run n=>
   obtain⟨rfl,rfl⟩:=m1_get h
   exact .inr ⟨rfl,rfl⟩
  | arg n=>exact .inl ⟨n,rfl,h⟩
 refine⟨⟨?_,?_,Nat.le_refl _⟩,?_⟩
 ·intro b o lc ho hr
  rcases hg b o ho with ⟨n,rfl,ho⟩ | ⟨rfl,rfl⟩
  ·exact hb.obj n o lc ho hr
  ·obtain⟨r,hr'⟩:=hb.g g h.lt
   rw[hr'] at hr
   cases hr
   exact h.orel ρ r
 ·intro b b' l l' o o' _ _ _ ho hl
  rcases hg b o ho with ⟨n,rfl,ho⟩ | ⟨rfl,rfl⟩
  ·obtain⟨_,_,rfl⟩:=hb.ro n o ho
   cases hl
  ·cases hl
 ·intro b o ho
  rcases hg b o ho with ⟨n,rfl,ho⟩ | ⟨rfl,rfl⟩
  ·trivial
  ·exact h.lt
theorem alone_sndG {P:Program} {S:CallT} (hS:CallSnd P S) {lf d:Nat} {g:Nat} {l:List Int} {id:FuncId} {args:List V} {v:V} {H1:Heap} (hg0:g < P.globals.size) (hl0:l≠[]) (h:callS P S lf d id args (heapB P (m1 g l) fun _=>none)=some (.v v,H1)) (hq:QOk H1) (ha:noRefs args=true) (hv:v.noRef=true) (H:Heap)
  (hH:H.get (.run g)=some (.rows true l.length (intsR l))) :
  HasBody P id∧H.Upto H ∧
  ∀(N:Nat) (ρ:Emb) (w:World) (args':Array Value),GRel P ρ→VRels ρ args args'.toList→Sim N ρ H.get w→H.Wf→Free ρ H H →
   Calls P id args' w fun e w'=>∃ x ρ',e=.returned x∧Step N ρ H w ρ' H w'∧VRel ρ' v x:=by
 obtain⟨hb,_,k⟩:=(callS_sound hS lf d).1 id args _ v H1 h
 refine⟨hb,.refl _,fun N ρ w args' hg hr hs hw hf=>?_⟩
 have b0:=base0 P w
 have hlow:=hs.low
 have hold:Holds P g l w:=by
  obtain⟨r,hr'⟩:=hg g hg0
  obtain⟨h1,xs,h2,h3⟩:=hs.obj _ _ _ hH hr'
  have hx:xs=l.map (Value.int .i64):=by
   obtain⟨a,ys,rfl,h4,h5,h6⟩:=h2
   have h6:ys=[]:=h6
   subst h6
   rw[List.append_nil];exact h5.ints
  subst hx
  refine⟨hg0,?_,fun i x hx=>?_⟩
  ·have:=h1 (by simp[intsR]);simp only at this;omega
  ·have:=h3 i x hx;rwa [at'_plain] at this
 have b1:=b0.simB hold
 refine(k w.heap.size (emb0 P) w args' b0.g (VRels.any _ _ ha hr) b1.1 b1.2 ⟨hq,fun b h1 _=>b0.run b h1⟩).mono ?_
 rintro e w' ⟨x,ρ',rfl,st,hx⟩
 have same:∀ c,c < w.heap.size→w'.heap[c]?=w.heap[c]?:=fun c hc=>st.frame c hc (fun b l' o _ ho hlo=>by
  cases b with
  | run n=>obtain⟨rfl,rfl⟩:=m1_get ho;cases hlo
  | arg n=>simp[Heap.get,heapB] at ho)
 refine⟨x,ρ,rfl,⟨st.os,st.tape,st.output,st.size,Ext.refl _,fun b l h=>.inl h,⟨fun b o l ho hr=>?_,hs.inj,Nat.le_trans hlow st.size⟩,hw,Nat.le_refl _,fun n h1 h2=>absurd h2 (by omega),fun c hc _=>same c hc,fun _ _ _=>rfl,fun b o h1 h2 h3=>⟨o,h2,h3⟩⟩,VRel.any v x hv hx⟩
 have ho':=hs.obj b o l ho hr
 exact ho'.frame (fun c hc=>same c (by omega)) (fun hl=>same _ (ho'.live_lt hl))
theorem sumG_snd {P:Program} {S:CallT} (hS:CallSnd P S) {lf d:Nat} {g:Nat} {l:List Int} {f:FuncId} (hg0:g < P.globals.size) (hl0:l≠[]) (h:∃ H1,callS P S lf d f [] (heapB P (m1 g l) fun _=>none)=some (.v (.bool true),H1)∧QOk H1):CallSnd P (sumG g l f):=by
 obtain⟨H1,h,hq⟩:=h
 refine CallSndV.calm (fun id args H v H' e=>?_) (fun id args H v H' e=>?_)
 ·unfold sumG at e
  split at e
  ·rename_i hid
   split at e
   ·rename_i hh
    cases e
    have:=beq_iff.1 hid
    subst this
    exact alone_sndG hS hg0 hl0 h hq rfl rfl H (hasG_some hh)
   ·cases e
  ·cases e
 ·unfold sumG at e
  split at e
  ·split at e<;>cases e
  ·cases e
theorem holds_of_laid {P:Program} {name:String} {l:List Int} {g:Nat} {t e:TypeId} {w:World} (hg:P.globalNamed name=some g) (hlt:g < P.globals.size) (htg:(P.globals[g]?).map (·.type)=some t) (ht:P.underlying t=some (.array l.length e)) (he:P.underlying e=some (.int .i64)) (hc:P.cellsOf e=1) (hl0:l≠[])
  (h:laidMet P [(name,.agg (l.map fun n=>.lit (.int .i64 n)))] w):Holds P g l w:=by
 obtain⟨ps,⟨g0,t0,cs,fuel,p,q,h1,h2,hv,hd,_⟩,_,_⟩:=h
 obtain rfl:=Option.some.inj (hg.symm.trans h1)
 obtain rfl:=Option.some.inj (htg.symm.trans h2)
 obtain⟨xs,m,rfl,hx1,hlen,hn,hel⟩:=DataW.trod_array ht hd
 simp only[Prod.mk.injEq,DataW.agg.injEq] at hx1
 have key:∀(i:Nat) (n:Int),l[i]?=some n→cs[i]?=some (Value.int .i64 n):=by
  intro i n hi
  have hil:=(List.getElem?_eq_some_iff.1 hi).1
  have h3:=hel i hil
  have hxi:i < xs.length:=by omega
  rw[List.getElem?_eq_getElem hxi] at h3
  obtain⟨k,e1,e2,_⟩:=DataW.trod_int he h3
  have h4:(xs.map (·.1))[i]?=some (.lit (.int .i64 n)):=by rw[← hx1.1,List.getElem?_map,hi];rfl
  rw[List.getElem?_map,List.getElem?_eq_getElem hxi,e2] at h4
  simp only[Option.map_some,Option.some.injEq,DataW.lit.injEq,Lit.int.injEq,true_and] at h4
  subst h4
  rw[hc,Nat.mul_one] at e1
  have:((cs.toList.drop i).take 1)[0]?=some (.int .i64 k):=by rw[e1];rfl
  simpa using this
 have cell:∀ i x,(l.map (Value.int .i64))[i]?=some x→w.cell? ⟨g,i,none⟩=some x:=by
  intro i x hx
  rw[List.getElem?_map] at hx
  cases hi:l[i]? with
  | none=>rw[hi] at hx;cases hx
  | some n=>
   rw[hi] at hx
   cases hx
   rw[World.var?_cell hg hv,key i n hi]
 refine⟨hlt,?_,cell⟩
 cases l with
 | nil=>exact absurd rfl hl0
 | cons n l=>
  have:=cell 0 (.int .i64 n) (by simp)
  by_cases hh:g < w.heap.size
  ·exact hh
  ·exfalso
   unfold World.cell? at this
   rw[Array.getElem?_eq_none (by simpa using hh)] at this
   simp at this
theorem laws_runG {H'':Type} {enc:TypeId × Value→H''} {P:Program} {fid:FuncId} {f:Func} {s:ChangeSpec} {apart fresh handsOn again:Bool} {d:Nat} {tb:TypeId} {ss:List Sh} {S:CallT} (hS:CallSnd P S) (hl:laidOutB P=true) (hok:shAll P d f.params.toList=some ss)
  (hts:(f.params.toList.all fun t=>P.readableRec t&&decide (t < P.types.size))=true) (hvars:s.vars=[]) (hrt:f.resultTypes=#[tb]) (hbool:P.underlying tb=some .bool)
  (hfn:∀ ds:List (DataW H''),ds.length=f.params.size→s.fn H'' ds={ results:=[.lit (.bool true)],args:=ds })
  {g:Nat} {l:List Int} (hrun:∀(a:Nat→Option Obj) (us:List V),FitsAll a ss us→∃ lf n H1,callS P S lf n fid us (heapB P (m1 g l) a)=some (.v (.bool true),H1)∧QOk H1)
  {W:World} {base:Nat} {args:Array Value} {ds gs:List (DataW H'')} {before:List MemPlace} (hold:Holds P g l W) (hval:∀(j:Nat) t v,f.params[j]?=some t→args[j]?=some v→Value.okWide P W .any base t v) (hW:DataW.Whole enc P f.params.toList s.vars apart W args.toList ds gs before) :
  Calls P fid args W fun e W'=>∃ v,e=.returned v∧s.post enc P f apart fresh handsOn again W args v W':=by
 have hgs:gs=[]:=by
  obtain⟨p,q,_,hV,_⟩:=hW
  rw[hvars] at hV
  cases gs with
  | nil=>rfl
  | cons g gs=>exact hV.elim
 subst hgs
 have hdl:ds.length=f.params.size:=by
  obtain⟨p,q,hA,_⟩:=hW
  have key:∀(ts:List TypeId) (vs:List Value) (ds:List (DataW H'')) (ps:List MemPlace),DataW.TrodAll enc P W 0 (fun _=>true) true ts vs ds ps→ds.length=ts.length:=by
   intro ts
   induction ts with
   | nil=>intro vs ds ps h;cases vs<;>cases ds<;>first | rfl | exact h.elim
   | cons t ts ih=>
    intro vs ds ps h
    cases vs<;>cases ds<;>first | exact h.elim | skip
    obtain⟨_,q,_,h2,_⟩:=h
    simp[ih _ _ _ h2]
  simpa using key _ _ _ _ hA
 have hs:s.fn H'' (ds++[])={ results:=[.lit (.bool true)],args:=ds }:=by rw[List.append_nil];exact hfn ds hdl
 have hA:=hW
 obtain⟨p,q,hA,_⟩:=hA
 obtain⟨ρ,a,k,us,b1,g1,r1,f1⟩:=open_args f.params.toList ss args.toList ds p hok (fun j t v h1 h2=>⟨.any,base,hval j t v (by simpa using h1) (by simpa using h2)⟩) hA (emb0 P) (fun _=>none) 0 (base0 P W)
 obtain⟨lf,n,H1,hr,hq⟩:=hrun a us f1
 obtain⟨_,_,kk⟩:=(callS_sound hS lf n).1 fid us _ _ H1 hr
 have b2:=b1.simB hold
 refine(kk W.heap.size ρ W args b1.g r1 b2.1 b2.2 ⟨hq,fun n h _=>b1.run n h⟩).mono ?_
 rintro e W' ⟨x,ρ',rfl,st,hx⟩
 have hbel:=st.below b2.1
 have hx:x=.bool true:=hx
 subst hx
 refine⟨_,rfl,post_of_below hl hts hvars (by rw[hs]) (by rw[hs]) hW hbel (fun b sp hd=>?_) (ok_one hrt rfl (okWide_bool_mk hbool true))⟩
 rw[hs,hrt]
 exact⟨[],[],⟨1,by simp[DataW.trod,Value.cells,Value.resultList,hbool]⟩,rfl,rfl⟩
end Go.Am
