import Derived.Test.YtllkepkaimnodaaGreatDoorAmStep
set_option linter.unusedVariables false
set_option linter.unusedSimpArgs false
namespace Go.Am
inductive Bef (ops:Array Oper):Nat→Nat→Prop
 | edge {j:Nat} {o:Oper} {e:Edge}:ops[j]?=some o→e ∈ o.after→Region.binds .any e=true→Bef ops e.on j
 | trans {i k j:Nat}:Bef ops i k→Bef ops k j→Bef ops i j
theorem maskOf_bit {acc:List Nat} {i:Nat}:∀(es:List Edge),(maskOf acc es).testBit i=true→∃ e ∈ es,Region.binds .any e=true∧(e.on=i∨∃ m,nth acc e.on=some m∧m.testBit i=true)
 | [],h=>by simp[maskOf] at h
 | e::es,h=>by
  simp only[maskOf] at h
  split at h
  ·rename_i hb
   have h:(2 ^ e.on ||| (nth acc e.on).getD 0 ||| maskOf acc es).testBit i=true:=h
   simp only[Nat.testBit_or,Nat.testBit_two_pow,Bool.or_eq_true,decide_eq_true_eq] at h
   rcases h with (h | h) | h
   ·exact⟨e,List.mem_cons_self ..,hb,.inl h⟩
   ·cases hn:nth acc e.on with
    | none=>rw[hn] at h;simp at h
    | some m=>rw[hn] at h;exact⟨e,List.mem_cons_self ..,hb,.inr ⟨m,hn,h⟩⟩
   ·obtain⟨e',he',h'⟩:=maskOf_bit es h
    exact⟨e',List.mem_cons_of_mem _ he',h'⟩
  ·obtain⟨e',he',h'⟩:=maskOf_bit es h
   exact⟨e',List.mem_cons_of_mem _ he',h'⟩
theorem masks_bef {ops:Array Oper}:∀(os:List Oper) (acc:List Nat),(∀ i o,os[i]?=some o→ops[acc.length+i]?=some o)→(∀ j m i,nth acc j=some m→m.testBit i=true→Bef ops i j) →
  ∀ j m i,nth (masks os acc) j=some m→m.testBit i=true→Bef ops i j
 | [],acc,hsub,hacc=>hacc
 | o::os,acc,hsub,hacc=>by
  simp only[masks]
  refine masks_bef os _ (fun i o' h=>?_) (fun j m i hj hm=>?_)
  ·have:=hsub (i+1) o' (by simpa using h)
   simp only[List.length_append,List.length_cons,List.length_nil]
   rwa [show acc.length+(0+1)+i=acc.length+(i+1) by omega]
  ·rw[nth_eq] at hj
   by_cases hl:j < acc.length
   ·rw[List.getElem?_append_left hl,← nth_eq] at hj
    exact hacc j m i hj hm
   ·rw[List.getElem?_append_right (by omega)] at hj
    have hj0:j - acc.length=0:=by
     cases hc:j - acc.length with
     | zero=>rfl
     | succ k=>rw[hc] at hj;simp at hj
    rw[hj0] at hj
    simp at hj
    subst hj
    have hjl:j=acc.length:=by omega
    have ho:=hsub 0 o rfl
    rw[Nat.add_zero,← hjl] at ho
    obtain⟨e,he,hb,h⟩:=maskOf_bit _ hm
    have he':e ∈ o.after:=by simpa using he
    rcases h with h | ⟨m',hm',hbit⟩
    ·rw[← h];exact .edge ho he' hb
    ·exact .trans (hacc e.on m' i hm' hbit) (.edge ho he' hb)
theorem ordered_bef {ops:Array Oper} {i j:Nat} (hlt:i < j) (h:ordered (masks ops.toList []) i j=true):Bef ops i j:=by
 unfold ordered at h
 rw[Nat.max_eq_right (by omega),Nat.min_eq_left (by omega)] at h
 cases hn:nth (masks ops.toList []) j with
 | none=>rw[hn] at h;simp at h
 | some m=>
  rw[hn] at h
  exact masks_bef ops.toList [] (fun i o h=>by simpa using h) (fun j m i h=>by simp at h) j m i hn h
theorem ordered_symm (b:List Nat) (i j:Nat):ordered b i j=ordered b j i:=by
 unfold ordered;rw[Nat.max_comm,Nat.min_comm]
def Closed (ops:Array Oper) (D:Nat→Bool):Prop:=∀ j o e,D j=true→ops[j]?=some o→e ∈ o.after→Region.binds .any e=true→D e.on=true
theorem Closed.bef {ops:Array Oper} {D:Nat→Bool} (h:Closed ops D) {i j:Nat} (hb:Bef ops i j):D j=true→D i=true:=by
 induction hb with
 | edge ho he hbi=>exact fun hj=>h _ _ _ hj ho he hbi
 | trans _ _ ih1 ih2=>exact fun hj=>ih1 (ih2 hj)
theorem Closed.bef_ready {ops:Array Oper} {D:Nat→Bool} (h:Closed ops D) {i j:Nat} (hb:Bef ops i j):(∀ o e,ops[j]?=some o→e ∈ o.after→Region.binds .any e=true→D e.on=true)→D i=true:=by
 induction hb with
 | edge ho he hbi=>exact fun hj=>hj _ _ ho he hbi
 | trans h1 _ ih1 ih2=>exact fun hj=>h.bef h1 (ih2 hj)
theorem edgesOk_lt {i:Nat}:∀ {es:List Edge},edgesOk es i=true→∀ e ∈ es,Region.binds .any e=true→e.on < i
 | [],h,e,he,_=>by cases he
 | e0::es,h,e,he,hb=>by
  simp only[edgesOk,Bool.and_eq_true] at h
  rcases List.mem_cons.1 he with rfl | he
  ·rw[hb] at h;exact ble_iff.1 h.1
  ·exact edgesOk_lt h.2 e he hb
theorem apartWith_get {ops:Array Oper} {b:List Nat} {x:Oper} {i:Nat}:∀ {ys:List Oper} {j k:Nat} {y:Oper},apartWith ops b x i ys j=true→ys[k]?=some y→ordered b i (j+k)=true∨x.apart ops y=true
 | [],j,k,y,h,hy=>by simp at hy
 | y0::ys,j,0,y,h,hy=>by
  simp only[apartWith,Bool.and_eq_true,Bool.or_eq_true] at h
  simp at hy;subst hy;exact h.1
 | y0::ys,j,k+1,y,h,hy=>by
  simp only[apartWith,Bool.and_eq_true,Bool.or_eq_true] at h
  have:=apartWith_get h.2 (k:=k) (by simpa using hy)
  rwa [show Nat.succ j+k=j+(k+1) by omega] at this
theorem regionOk_get {ops:Array Oper} {b:List Nat}:∀ {xs:List Oper} {i k:Nat} {x:Oper},regionOk ops b xs i=true→xs[k]?=some x →
  (∀ e ∈ x.after,Region.binds .any e=true→e.on < i+k)∧∀ l y,k < l→xs[l]?=some y→ordered b (i+k) (i+l)=true∨x.apart ops y=true
 | [],i,k,x,h,hx=>by simp at hx
 | x0::xs,i,0,x,h,hx=>by
  simp only[regionOk,Bool.and_eq_true] at h
  simp at hx
  subst hx
  refine⟨fun e he=>edgesOk_lt h.1.1 e (by simpa using he),fun l y hl hy=>?_⟩
  obtain⟨m,rfl⟩:∃ m,l=m+1:=⟨l - 1,by omega⟩
  have:=apartWith_get h.1.2 (k:=m) (y:=y) (by simpa using hy)
  rwa [show Nat.succ i+m=i+(m+1) by omega] at this
 | x0::xs,i,k+1,x,h,hx=>by
  simp only[regionOk,Bool.and_eq_true] at h
  obtain⟨h1,h2⟩:=regionOk_get h.2 (k:=k) (x:=x) (by simpa using hx)
  refine⟨fun e he hb=>by have:=h1 e he hb;omega,fun l y hl hy=>?_⟩
  obtain⟨m,rfl⟩:∃ m,l=m+1:=⟨l - 1,by omega⟩
  have:=h2 m y (by omega) (by simpa using hy)
  rwa [show Nat.succ i+k=i+(k+1) by omega,show Nat.succ i+m=i+(m+1) by omega] at this
def OpActs (P:Program) (n:Nat) (o:Oper) (t:T) (H:Heap) (v:V) (H1:Heap):Prop:=
 ∀(N:Nat) (ρ:Emb) (a:Act) (w:World),GRel P ρ→TRel n ρ t a→Sim N ρ H.get w→H.Wf→Free ρ H H1→∀(K:Act→World→Prop) (Q:Exit→Act→World→Prop),
  (∀ ρ' x w',Step N ρ H w ρ' H1 w'→VRel ρ' v x→K (a.put o.dst x) w')→o.wp P a w K Q
inductive EvOk (P:Program) (n:Nat) (ops:Array Oper) (o:Oper) (t:T):DEv→Prop
 | skip (H:Heap):wanted t (prepOper P n ops o).guard=some false→EvOk P n ops o t ⟨.q,undef,H,H⟩
 | pure (H:Heap) (f:T→Option V) (v:V):wanted t (prepOper P n ops o).guard=some true→dstOk n o.dst=true→SndP P o f→f (narrow t (seeOf o.op.operands.toList))=some v→EvOk P n ops o t ⟨.q,v,H,H⟩
 | read (H:Heap) (f:T→Heap→Option V) (v:V):wanted t (prepOper P n ops o).guard=some true→dstOk n o.dst=true→SndR P o f→f (narrow t (seeOf o.op.operands.toList)) H=some v→EvOk P n ops o t ⟨.r (f (narrow t (seeOf o.op.operands.toList))),v,H,H⟩
 | make (H:Heap) (f:T→Option (Obj × (Nat→V))) (ob:Obj) (mk:Nat→V):wanted t (prepOper P n ops o).guard=some true→dstOk n o.dst=true→SndM P o f→f (narrow t (seeOf o.op.operands.toList))=some (ob,mk)→EvOk P n ops o t ⟨.m ob,mk H.next,H,H.add ob⟩
 | act (H H':Heap) (v:V):wanted t (prepOper P n ops o).guard=some true→dstOk n o.dst=true→OpActs P n o (narrow t (seeOf o.op.operands.toList)) H v H'→H.Upto H'→EvOk P n ops o t ⟨.a,v,H,H'⟩
theorem runOpD_ok {P:Program} {n:Nat} {call:CallT} (hcall:CallSnd P call) {ops:Array Oper} {o:Oper} {t:T} {H:Heap} {e:DEv} (h:runIOpD call (prepOper P n ops o) t H=some e):e.b=H∧EvOk P n ops o t e:=by
 unfold runIOpD at h
 split at h
 ·rename_i hwant
  split at h
  ·rename_i s hs
   obtain⟨hdst,hprep⟩:dstOk n o.dst=true∧prep P o.op=some s:=by
    unfold prepOper at hs
    dsimp only at hs
    split at hs
    ·rename_i hd;exact⟨hd,hs⟩
    ·cases hs
   have hsnd:OpSnd P o s:=by
    obtain⟨dst,op,ty,pos,after,guard⟩:=o
    exact prep_sound hprep
   have hsee:(prepOper P n ops o).see=seeOf o.op.operands.toList:=rfl
   rw[hsee] at h
   unfold runOpD at h
   split at h
   ·rename_i f
    split at h
    ·rename_i v hf;cases h;exact⟨rfl,.pure H f v hwant hdst hsnd hf⟩
    ·cases h
   ·rename_i f
    split at h
    ·rename_i v hf;cases h;exact⟨rfl,.read H f v hwant hdst hsnd hf⟩
    ·cases h
   ·rename_i f
    split at h
    ·rename_i ob mk hf;cases h;exact⟨rfl,.make H f ob mk hwant hdst hsnd hf⟩
    ·cases h
   ·rename_i f
    split at h
    ·rename_i v H' hf
     cases h
     refine⟨rfl,.act H H' v hwant hdst (fun N ρ a w hg ht hs hw hfree K Q hK=>?_) (hsnd.1 _ _ _ _ hf)⟩
     obtain⟨nx,v',ρ',w',hrun,hnx,hstep,hv⟩:=hsnd.2 n ρ _ a v N H H' w hg ht hs hw hfree.2 hf
     unfold Oper.wp
     rw[hrun]
     rcases hnx with rfl | ⟨rfl,rfl⟩
     ·rw[Oper.upon_value];exact hK ρ' _ w' hstep hv
     ·rw[Oper.upon_skip];exact hK ρ' _ w' hstep hv
    ·cases h
   ·rename_i f
    split at h
    ·rename_i id args hf
     split at h
     ·rename_i v H' hc
      cases h
      obtain⟨hb,hn,hc'⟩:=hcall.1 id args H v H' hc
      refine⟨rfl,.act H H' v hwant hdst (fun N ρ a w hg ht hs hw hfree K Q hK=>?_) hn⟩
      obtain⟨args',hargs,hrun⟩:=hsnd n ρ _ a id args hg ht hf hb
      unfold Oper.wp
      rw[hrun w,Oper.upon_enter]
      refine(hc' N ρ w args' hg hargs hs hw hfree).mono ?_
      rintro e w' ⟨x,ρ',rfl,hstep,hv⟩
      exact hK ρ' _ w' hstep hv
     ·cases h
    ·cases h
   ·cases h
  ·cases h
 ·rename_i hwant
  cases h
  exact⟨rfl,.skip H hwant⟩
 ·cases h
def Trace (P:Program) (n:Nat) (ops:Array Oper):List Oper→T→Heap→List DEv→Prop
 | [],_,_,es=>es=[]
 | o::os,t,H,es=>∃ e es',es=e::es'∧e.b=H∧EvOk P n ops o t e∧Trace P n ops os (setT (o.dst.map Tr.path) e.v t) e.a es'
noncomputable def tD (D:Nat→Bool):List Oper→List DEv→Nat→T→T
 | o::os,e::es,k,t=>tD D os es (k+1) (if D k then setT (o.dst.map Tr.path) e.v t else t)
 | _,_,_,t=>t
def hs:List DEv→Heap→Nat→Heap
 | [],H,_=>H
 | _::_,H,0=>H
 | e::es,_,i+1=>hs es e.a i
theorem runOpsD_trace {P:Program} {n:Nat} {call:CallT} (hcall:CallSnd P call) {ops:Array Oper}:∀(os:List Oper) (t:T) (H:Heap) (t':T) (H':Heap) (es:List DEv) (k:Nat),runOpsD call (os.map (prepOper P n ops)) t H=some (t',H',es) →
  Trace P n ops os t H es∧t'=tD (fun _=>true) os es k t∧H'=hs es H es.length
 | [],t,H,t',H',es,k,h=>by
  cases h
  exact⟨rfl,rfl,rfl⟩
 | o::os,t,H,t',H',es,k,h=>by
  have h:(match runIOpD call (prepOper P n ops o) t H with
   | some e=>match runOpsD call (os.map (prepOper P n ops)) (setT (prepOper P n ops o).dst e.v t) e.a with
    | some (t',H',es)=>some (t',H',e::es)
    | none=>none
   | none=>none)=some (t',H',es):=h
  split at h
  ·rename_i e he
   split at h
   ·rename_i t2 H2 es2 hr
    cases h
    obtain⟨h1,h2⟩:=runOpD_ok hcall he
    obtain⟨k1,k2,k3⟩:=runOpsD_trace hcall os _ _ _ _ _ (k+1) hr
    exact⟨⟨e,es2,rfl,h1,h2,k1⟩,by simp only[tD,if_true];exact k2,by simpa [hs] using k3⟩
   ·cases h
  ·cases h
theorem Trace.len {P:Program} {n:Nat} {ops:Array Oper}:∀ {os:List Oper} {t:T} {H:Heap} {es:List DEv},Trace P n ops os t H es→es.length=os.length
 | [],t,H,es,h=>by
  have h:es=[]:=h
  subst h;rfl
 | o::os,t,H,es,h=>by
  obtain⟨e,es',rfl,_,_,h4⟩:=h
  simp[h4.len]
theorem tD_none {D:Nat→Bool}:∀(os:List Oper) (es:List DEv) (k:Nat) (t:T),(∀ j,k≤j→D j=false)→tD D os es k t=t
 | [],es,k,t,h=>by cases es<;>rfl
 | o::os,[],k,t,h=>rfl
 | o::os,e::es,k,t,h=>by
  simp only[tD,h k (Nat.le_refl _)]
  exact tD_none os es (k+1) t (fun j hj=>h j (by omega))
theorem setT_other {x:Nat} {dst:Option Nat} {v:V} {t:T} (h:dst≠some x):(setT (dst.map Tr.path) v t).getP (Tr.path x)=t.getP (Tr.path x):=by
 cases dst with
 | none=>rfl
 | some d=>
  simp only[Option.map_some,setT,Tr.get_set,Tr.path_eq]
  rw[if_neg (fun e=>h (by rw[e]))]
theorem tD_get {D E:Nat→Bool} {x:Nat}:∀(os:List Oper) (es:List DEv) (k:Nat) (t t':T),(∀ j o,os[j]?=some o→D (k+j)≠E (k+j)→o.dst≠some x)→t.getP (Tr.path x)=t'.getP (Tr.path x) →
  (tD D os es k t).getP (Tr.path x)=(tD E os es k t').getP (Tr.path x)
 | [],es,k,t,t',h,ht=>by cases es<;>exact ht
 | o::os,[],k,t,t',h,ht=>ht
 | o::os,e::es,k,t,t',h,ht=>by
  simp only[tD]
  refine tD_get os es (k+1) _ _ (fun j o' hj hne=>h (j+1) o' (by simpa using hj) (by rwa [show k+(j+1)=k+1+j by omega])) ?_
  have h0:=h 0 o rfl
  rw[Nat.add_zero] at h0
  cases hD:D k<;>cases hE:E k<;>simp only[hD,hE,if_true,if_false,Bool.false_eq_true]
  ·exact ht
  ·rw[setT_other (h0 (by rw[hD,hE];decide))];exact ht
  ·rw[setT_other (h0 (by rw[hD,hE];decide))];exact ht
  ·cases hd:o.dst with
   | none=>exact ht
   | some d=>
    simp only[Option.map_some,setT,Tr.get_set]
    rw[ht]
theorem tD_last {D:Nat→Bool} {x:Nat}:∀(os:List Oper) (es:List DEv) (k i:Nat) (t:T) (o:Oper) (e:DEv),os[i]?=some o→es[i]?=some e→D (k+i)=true→o.dst=some x→(∀ j o',i < j→os[j]?=some o'→D (k+j)=true→o'.dst≠some x) →
  (tD D os es k t).getP (Tr.path x)=some e.v
 | [],es,k,i,t,o,e,ho,he,hD,hx,hl=>by simp at ho
 | o0::os,[],k,i,t,o,e,ho,he,hD,hx,hl=>by simp at he
 | o0::os,e0::es,k,0,t,o,e,ho,he,hD,hx,hl=>by
  simp at ho he
  subst ho he
  rw[Nat.add_zero] at hD
  simp only[tD,hD,if_true]
  have:=tD_get (D:=D) (E:=fun _=>false) (x:=x) os es (k+1) (setT (o0.dst.map Tr.path) e0.v t) (setT (o0.dst.map Tr.path) e0.v t) (fun j o' hj hne=>hl (j+1) o' (by omega) (by simpa using hj) (by
   rw[show k+(j+1)=k+1+j by omega]
   cases hc:D (k+1+j) with
   | true=>rfl
   | false=>exact absurd hc hne)) rfl
  rw[this,tD_none _ _ _ _ (fun _ _=>rfl),hx]
  simp[setT,Tr.get_set]
 | o0::os,e0::es,k,i+1,t,o,e,ho,he,hD,hx,hl=>by
  simp only[tD]
  exact tD_last os es (k+1) i _ o e (by simpa using ho) (by simpa using he) (by rwa [show k+1+i=k+(i+1) by omega]) hx (fun j o' hj hjo hDj=>hl (j+1) o' (by omega) (by simpa using hjo) (by rwa [show k+(j+1)=k+1+j by omega]))
theorem Trace.get {P:Program} {n:Nat} {ops:Array Oper}:∀ {os:List Oper} {t:T} {H:Heap} {es:List DEv} (k i:Nat) {o:Oper},Trace P n ops os t H es→os[i]?=some o →
  ∃ e,es[i]?=some e∧e.b=hs es H i∧e.a=hs es H (i+1)∧EvOk P n ops o (tD (fun j=>decide (j < k+i)) os es k t) e
 | [],t,H,es,k,i,o,h,ho=>by simp at ho
 | o0::os,t,H,es,k,0,o,h,ho=>by
  obtain⟨e,es',rfl,h2,h3,h4⟩:=h
  simp at ho
  subst ho
  refine⟨e,rfl,h2,by cases es'<;>rfl,?_⟩
  ·rw[tD_none _ _ _ _ (fun j hj=>by simp;omega)];exact h3
 | o0::os,t,H,es,k,i+1,o,h,ho=>by
  obtain⟨e,es',rfl,h2,h3,h4⟩:=h
  obtain⟨e',k1,k2,k3,k4⟩:=h4.get (k+1) i (o:=o) (by simpa using ho)
  refine⟨e',by simpa using k1,k2,k3,?_⟩
  simp only[tD]
  rw[if_pos (by simp)]
  have:(fun j=>decide (j < k+(i+1)))=(fun j=>decide (j < k+1+i)):=by funext j;congr 1;rw[show k+(i+1)=k+1+i by omega]
  rw[this];exact k4
theorem ev_upto {P:Program} {n:Nat} {ops:Array Oper} {o:Oper} {t:T} {e:DEv} (h:EvOk P n ops o t e):e.b.Upto e.a:=by
 cases h with
 | skip H _=>exact .refl _
 | pure H f v _ _ _ _=>exact .refl _
 | read H f v _ _ _ _=>exact .refl _
 | make H f ob mk _ _ _ _=>exact .add _ _
 | act H H' v _ _ _ hn=>exact hn
theorem Trace.upto {P:Program} {n:Nat} {ops:Array Oper}:∀ {os:List Oper} {t:T} {H:Heap} {es:List DEv},Trace P n ops os t H es→H.Upto (hs es H es.length)
 | [],t,H,es,h=>by
  have h:es=[]:=h
  subst h;exact .refl _
 | o::os,t,H,es,h=>by
  obtain⟨e,es',rfl,h2,h3,h4⟩:=h
  have h1:=ev_upto h3
  rw[h2] at h1
  exact h1.trans h4.upto
end Go.Am
