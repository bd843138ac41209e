import Derived.Test.YtllkepkaimnodaaGreatDoorAmDraw2
set_option linter.unusedVariables false
set_option linter.unusedSimpArgs false
namespace Go.Am
theorem least {p:Nat→Prop} (h:∃ n,p n):∃ n,p n∧∀ m,p m→n≤m:=by
 obtain⟨n,hn⟩:=h
 induction n using Nat.strongRecOn with
 | _ n ih=>
  by_cases hm:∃ m,m < n∧p m
  ·obtain⟨m,hlt,hp⟩:=hm;exact ih m hlt hp
  ·exact⟨n,hn,fun m hp=>Nat.le_of_not_lt fun hlt=>hm ⟨m,hlt,hp⟩⟩
theorem narrow_get {t:T} {v:V} {q:List Bool}:∀ {ps:List (List Bool)},(narrow t ps).getP q=some v→q ∈ ps∧t.getP q=some v
 | [],h=>by simp[narrow,Tr.getP_e] at h
 | p::ps,h=>by
  simp only[narrow] at h
  split at h
  ·rename_i u hu
   rw[Tr.get_set] at h
   by_cases e:q=p
   ·rw[if_pos e] at h
    cases h
    subst e
    exact⟨List.mem_cons_self ..,hu⟩
   ·rw[if_neg e] at h
    obtain⟨h1,h2⟩:=narrow_get h
    exact⟨List.mem_cons_of_mem _ h1,h2⟩
  ·obtain⟨h1,h2⟩:=narrow_get h
   exact⟨List.mem_cons_of_mem _ h1,h2⟩
theorem seeOf_mem {p:List Bool}:∀ {xs:List Operand},p ∈ seeOf xs→∃ x,p=Tr.path x∧Operand.tmp x ∈ xs
 | [],h=>by cases h
 | .tmp t::xs,h=>by
  simp only[seeOf] at h
  rcases List.mem_cons.1 h with rfl | h
  ·exact⟨t,rfl,List.mem_cons_self ..⟩
  ·obtain⟨x,h1,h2⟩:=seeOf_mem h
   exact⟨x,h1,List.mem_cons_of_mem _ h2⟩
 | .const _::xs,h=>by
  obtain⟨x,h1,h2⟩:=seeOf_mem (xs:=xs) h
  exact⟨x,h1,List.mem_cons_of_mem _ h2⟩
 | .global _::xs,h=>by
  obtain⟨x,h1,h2⟩:=seeOf_mem (xs:=xs) h
  exact⟨x,h1,List.mem_cons_of_mem _ h2⟩
 | .func _::xs,h=>by
  obtain⟨x,h1,h2⟩:=seeOf_mem (xs:=xs) h
  exact⟨x,h1,List.mem_cons_of_mem _ h2⟩
section
variable {P:Program} {n:Nat} {ops:Array Oper} {t0:T} {H0:Heap} {es:List DEv}
theorem Facts.next_step (F:Facts P n ops t0 H0 es) {i:Nat} (hi:i < ops.size):(hs es H0 i).Upto (hs es H0 (i+1)):=by
 obtain⟨e,h1,h2,h3,h4⟩:=F.ev i _ (Array.getElem?_eq_getElem hi)
 rw[← h2,← h3];exact ev_upto h4
theorem Facts.qok (F:Facts P n ops t0 H0 es) (h:QOk (hs es H0 ops.size)):∀(k i:Nat),i+k=ops.size→QOk (hs es H0 i)
 | 0,i,hi=>by
  have:i=ops.size:=by omega
  subst this;exact h
 | k+1,i,hi=>(F.next_step (by omega)).2 (F.qok h k (i+1) (by omega))
theorem Facts.next_mono (F:Facts P n ops t0 H0 es) {i:Nat}:∀(j:Nat),i≤j→j≤ops.size→(hs es H0 i).next≤(hs es H0 j).next
 | 0,h,_=>by
  have:i=0:=by omega
  subst this;exact Nat.le_refl _
 | j+1,h,hj=>by
  by_cases e:i=j+1
  ·subst e;exact Nat.le_refl _
  ·exact Nat.le_trans (F.next_mono j (by omega) (by omega)) (F.next_step (by omega)).1
theorem hs_zero (es:List DEv) (H:Heap):hs es H 0=H:=by cases es<;>rfl
theorem Facts.cases (F:Facts P n ops t0 H0 es) {i:Nat} (hi:i < ops.size):∃ e,es[i]?=some e ∧
  ((e.k=.a)∨(∃ ob,e.k=.m ob∧hs es H0 (i+1)=(hs es H0 i).add ob)∨(e.k≠.a∧(∀ ob,e.k≠.m ob)∧hs es H0 (i+1)=hs es H0 i)):=by
 obtain⟨e,h1,h2,h3,h4⟩:=F.ev i _ (Array.getElem?_eq_getElem hi)
 refine⟨e,h1,?_⟩
 rw[← h2,← h3]
 cases h4 with
 | skip H _=>exact .inr (.inr ⟨by simp,by simp,rfl⟩)
 | pure H f v _ _ _ _=>exact .inr (.inr ⟨by simp,by simp,rfl⟩)
 | read H f v _ _ _ _=>exact .inr (.inr ⟨by simp,by simp,rfl⟩)
 | make H f ob mk _ _ _ _=>exact .inr (.inl ⟨ob,rfl,rfl⟩)
 | act H H' v _ _ _ hn=>exact .inl rfl
theorem Facts.since (F:Facts P n ops t0 H0 es) {i:Nat}:∀(s:Nat),i≤s→s≤ops.size→(∀ c e,i≤c→c < s→es[c]?=some e→e.k≠.a)→∀ b o,(hs es H0 s).get b=some o →
  (∃ j e ob,i≤j∧j < s∧es[j]?=some e∧e.k=.m ob∧b=.run (hs es H0 j).next∧o=ob)∨(hs es H0 i).get b=some o
 | 0,h,_,_,b,o,hb=>by
  have:i=0:=by omega
  subst this;exact .inr hb
 | s+1,h,hs',hno,b,o,hb=>by
  by_cases e0:i=s+1
  ·subst e0;exact .inr hb
  ·obtain⟨e,he,hcase⟩:=F.cases (i:=s) (by omega)
   have ih:=F.since s (by omega) (by omega) (fun c e h1 h2=>hno c e h1 (by omega)) b o
   have lift:(hs es H0 s).get b=some o→(∃ j e ob,i≤j∧j < s+1∧es[j]?=some e∧e.k=.m ob∧b=.run (hs es H0 j).next∧o=ob)∨(hs es H0 i).get b=some o:=fun h=>by
    rcases ih h with ⟨j,e,ob,h1,h2,h3⟩ | h
    ·exact .inl ⟨j,e,ob,h1,by omega,h3⟩
    ·exact .inr h
   rcases hcase with hk | ⟨ob,hk,ha⟩ | ⟨_,_,ha⟩
   ·exact absurd hk (hno s e (by omega) (by omega) he)
   ·rw[ha,Heap.get_add] at hb
    by_cases eb:b=.run (hs es H0 s).next
    ·rw[if_pos eb] at hb
     cases hb
     exact .inl ⟨s,e,o,by omega,by omega,he,hk,eb,rfl⟩
    ·rw[if_neg eb] at hb;exact lift hb
   ·rw[ha] at hb;exact lift hb
theorem Facts.kept (F:Facts P n ops t0 H0 es) {i:Nat} {b:Bk} (hold:(hs es H0 i).Old b):∀(s:Nat),i≤s→s≤ops.size→(∀ c e,i≤c→c < s→es[c]?=some e→e.k=.a→(hs es H0 c).Old b→(hs es H0 (c+1)).get b=(hs es H0 c).get b)→(hs es H0 s).get b=(hs es H0 i).get b
 | 0,h,_,_=>by
  have:i=0:=by omega
  subst this;rfl
 | s+1,h,hs',hk=>by
  by_cases e0:i=s+1
  ·subst e0;rfl
  ·have ih:=F.kept hold s (by omega) (by omega) (fun c e h1 h2=>hk c e h1 (by omega))
   obtain⟨e,he,hcase⟩:=F.cases (i:=s) (by omega)
   have holds:(hs es H0 s).Old b:=hold.mono (F.next_mono s (by omega) (by omega))
   rcases hcase with hka | ⟨ob,_,ha⟩ | ⟨_,_,ha⟩
   ·rw[hk s e (by omega) (by omega) he hka holds,ih]
   ·rw[ha,Heap.get_add,if_neg (fun e=>Heap.not_old (Nat.le_refl _) (by rw[← e];exact holds)),ih]
   ·rw[ha,ih]
theorem Facts.mk_inj (F:Facts P n ops t0 H0 es) {i j:Nat} {e e':DEv} {ob ob':Obj} (hi:es[i]?=some e) (hk:e.k=.m ob) (hj:es[j]?=some e') (hk':e'.k=.m ob') (h:(hs es H0 i).next=(hs es H0 j).next):i=j:=by
 have key:∀(i j:Nat) (e:DEv) (ob:Obj),es[i]?=some e→e.k=.m ob→i < j→j < ops.size→(hs es H0 i).next < (hs es H0 j).next:=by
  intro i j e ob he hk hlt hj
  obtain⟨e1,he1,hcase⟩:=F.cases (i:=i) (by omega)
  have ee:e=e1:=Option.some.inj (he.symm.trans he1)
  rw[← ee] at hcase
  have:=F.next_mono (i:=i+1) j (by omega) (by omega)
  rcases hcase with h | ⟨ob',h,ha⟩ | ⟨_,h,_⟩
  ·rw[hk] at h;cases h
  ·rw[ha] at this;simp at this;omega
  ·exact absurd hk (h ob)
 have hil:i < ops.size:=by rw[← F.len];exact(List.getElem?_eq_some_iff.1 hi).1
 have hjl:j < ops.size:=by rw[← F.len];exact(List.getElem?_eq_some_iff.1 hj).1
 rcases Nat.lt_trichotomy i j with hlt | rfl | hlt
 ·have:=key i j e ob hi hk hlt hjl;omega
 ·rfl
 ·have:=key j i e' ob' hj hk' hlt hil;omega
def Img (ρ0:Emb) (H0:Heap) (c:Nat):Prop:=∃ b0 l0 o0,ρ0 b0=some l0∧H0.get b0=some o0∧o0.live∧l0.c=c
def Win (es:List DEv) (D:Nat→Bool) (s:Nat):Prop:=∀ c e,es[c]?=some e→e.k=.a→(D c=true↔c < s)
structure Inv (P:Program) (n:Nat) (ops:Array Oper) (t0:T) (H0:Heap) (es:List DEv) (N:Nat) (ρ0:Emb) (w0:World) (d0:List Deferred) (D:Nat→Bool) (ρ:Emb) (G:Bk→Option Obj) (a:Act) (w:World):Prop where
 closed:Closed ops D
 small:∀ j,D j=true→j < ops.size
 t:TRel n ρ (tD D ops.toList es 0 t0) a
 d:a.defers=d0
 os:w.os=w0.os
 tape:w.tape=w0.tape
 output:w.output=w0.output
 size:w0.heap.size≤w.heap.size
 sim:Sim N ρ G w
 ext:Ext ρ0 ρ
 new:∀ b l,ρ b=some l→ρ0 b=some l∨((∃ k,b=.run k∧H0.next≤k∧k < (hs es H0 ops.size).next)∧(w0.heap.size≤l.c∨Img ρ0 H0 l.c))
 img:∀ b l o,ρ b=some l→G b=some o→o.live→w0.heap.size≤l.c∨Img ρ0 H0 l.c
 frame:∀ c,c < w0.heap.size→¬ Img ρ0 H0 c→w.heap[c]?=w0.heap[c]?
 win:∀ s,s≤ops.size→Win es D s→∀ b o,(hs es H0 s).get b=some o→G b=some o
 late:∀ j e ob,es[j]?=some e→e.k=.m ob→(D j=false∨∀ c ec,es[c]?=some ec→ec.k=.a→D c=true→c < j)→G (.run (hs es H0 j).next)=some ob
 free:∀ j,j < ops.size→D j=false→∀ k,(hs es H0 j).next≤k→k < (hs es H0 (j+1)).next→ρ (.run k)=none
 keep:∀ c e,es[c]?=some e→e.k=.a→D c=true→∀ b,(hs es H0 c).Old b→ρ b=none→(hs es H0 (c+1)).get b=(hs es H0 c).get b
 was:∀ c e,es[c]?=some e→e.k=.a→D c=true→∀ b o,(hs es H0 c).Old b→(hs es H0 (c+1)).get b=some o→o.live→∃ o',(hs es H0 c).get b=some o'∧o'.live
 wf:∀ c e,es[c]?=some e→e.k=.a→D c=true→(hs es H0 (c+1)).Wf
structure Ready (ops:Array Oper) (D:Nat→Bool) (i:Nat) (o:Oper):Prop where
 op:ops[i]?=some o
 no:D i=false
 deps:∀ o' e,ops[i]?=some o'→e ∈ o'.after→Region.binds .any e=true→D e.on=true
def addD (D:Nat→Bool) (i:Nat):Nat→Bool:=fun j=>D j || decide (j=i)
theorem Ready.bef {D:Nat→Bool} {i j:Nat} {o:Oper} (r:Ready ops D i o) (h:Closed ops D) (hb:Bef ops j i):D j=true:=h.bef_ready hb r.deps
theorem Ready.after {D:Nat→Bool} {i j:Nat} {o:Oper} (r:Ready ops D i o) (h:Closed ops D) (hb:Bef ops i j):D j=false:=by
 cases hj:D j with
 | false=>rfl
 | true=>have:=h.bef hb hj;rw[r.no] at this;cases this
theorem Closed.add {D:Nat→Bool} {i:Nat} {o:Oper} (h:Closed ops D) (r:Ready ops D i o):Closed ops (addD D i):=by
 intro j o' e hj ho he hb
 simp only[addD,Bool.or_eq_true,decide_eq_true_eq] at hj ⊢
 rcases hj with hj | rfl
 ·exact .inl (h j o' e hj ho he hb)
 ·exact .inl (r.deps o' e ho he hb)
theorem looks_same (F:Facts P n ops t0 H0 es) {D:Nat→Bool} (hcl:Closed ops D) {i:Nat} {o:Oper} (r:Ready ops D i o) {x:Nat} (hx:x ∈ o.looksAt ops) :
  (tD (fun j=>decide (j < i)) ops.toList es 0 t0).getP (Tr.path x)=(tD D ops.toList es 0 t0).getP (Tr.path x):=by
 refine tD_get _ _ _ _ _ (fun j o' hj hne hd=>?_) rfl
 rw[Nat.zero_add] at hne
 have hj':ops[j]?=some o':=by simpa using hj
 rcases Nat.lt_trichotomy j i with hlt | rfl | hlt
 ·have hD:D j=false:=by
   cases hc:D j with
   | false=>rfl
   | true=>rw[hc] at hne;simp[hlt] at hne
  rcases F.apart j i o' o hlt hj' r.op with hb | ha
  ·rw[r.bef hcl hb] at hD;cases hD
  ·exact(Oper.apart_spec ha).1 x hd hx
 ·rw[r.no] at hne;simp at hne
 ·have hD:D j=true:=by
   cases hc:D j with
   | true=>rfl
   | false=>rw[hc] at hne;simp at hne;omega
  rcases F.apart i j o o' hlt r.op hj' with hb | ha
  ·rw[r.after hcl hb] at hD;cases hD
  ·exact(Oper.apart_spec ha).2.2 x hd hx
theorem looks_op {o:Oper} {x:Nat} (h:Operand.tmp x ∈ o.op.operands):x ∈ o.looksAt ops:=
 List.mem_append_left _ (List.mem_filterMap.2 ⟨.tmp x,by simpa using h,rfl⟩)
theorem trel_narrow (F:Facts P n ops t0 H0 es) {D:Nat→Bool} (hcl:Closed ops D) {i:Nat} {o:Oper} (r:Ready ops D i o) {ρ:Emb} {a:Act} (ht:TRel n ρ (tD D ops.toList es 0 t0) a) :
  TRel n ρ (narrow (tD (fun j=>decide (j < i)) ops.toList es 0 t0) (seeOf o.op.operands.toList)) a:=by
 refine⟨ht.sz,fun x v hv=>?_⟩
 obtain⟨h1,h2⟩:=narrow_get hv
 obtain⟨y,hy,hm⟩:=seeOf_mem h1
 have:=Tr.path_inj hy
 subst this
 rw[looks_same F hcl r (looks_op (by simpa using hm))] at h2
 exact ht.val x v h2
theorem wanted_same (F:Facts P n ops t0 H0 es) {D:Nat→Bool} (hcl:Closed ops D) {i:Nat} {o:Oper} (r:Ready ops D i o) {ρ:Emb} {a:Act} (ht:TRel n ρ (tD D ops.toList es 0 t0) a) {b:Bool}
  (h:wanted (tD (fun j=>decide (j < i)) ops.toList es 0 t0) (prepOper P n ops o).guard=some b):Region.wanted o (yielded ops a.tmps)=b:=by
 refine wanted_rel (P:=P) ht ?_
 rw[← h]
 unfold prepOper
 dsimp only
 cases hg:o.guard with
 | none=>rfl
 | some g=>
  obtain⟨j,want⟩:=g
  simp only[Option.map_some]
  cases hj:(ops[j]?).bind (·.dst) with
  | none=>rfl
  | some u=>
   simp only[Option.map_some,wanted]
   have hx:u ∈ o.looksAt ops:=List.mem_append_right _ (by simp[hg,hj])
   rw[looks_same F hcl r hx]
theorem trel_add (F:Facts P n ops t0 H0 es) {D:Nat→Bool} (hcl:Closed ops D) {i:Nat} {o:Oper} {e:DEv} (r:Ready ops D i o) (he:es[i]?=some e) {ρ:Emb} {a:Act} (ht:TRel n ρ (tD D ops.toList es 0 t0) a) {x:Value} (hr:VRel ρ e.v x)
  (hd:dstOk n o.dst=true∨(e.v=undef∧x=Go.undef)):TRel n ρ (tD (addD D i) ops.toList es 0 t0) (a.put o.dst x):=by
 have hput:=ht.put (dst:=o.dst) hr hd
 refine⟨hput.sz,fun y v hv=>hput.val y v ?_⟩
 rw[← hv]
 by_cases hdst:o.dst=some y
 ·have h1:=tD_last (D:=addD D i) ops.toList es 0 i t0 o e (by simpa using r.op) he (by simp[addD]) hdst (fun j o' hij hj hDj hd'=>by
   have hj':ops[j]?=some o':=by simpa using hj
   have hDj:D j=true:=by
    simp only[Nat.zero_add,addD,Bool.or_eq_true,decide_eq_true_eq] at hDj
    rcases hDj with h | h
    ·exact h
    ·omega
   rcases F.apart i j o o' hij r.op hj' with hb | ha
   ·rw[r.after hcl hb] at hDj;cases hDj
   ·exact(Oper.apart_spec ha).2.1 y hdst hd')
  rw[h1,hdst]
  simp[setT,Tr.get_set]
 ·rw[setT_other hdst]
  refine tD_get _ _ _ _ _ (fun j o' hj hne hd'=>?_) rfl
  rw[Nat.zero_add] at hne
  have hji:j=i:=by
   by_cases e:j=i
   ·exact e
   ·simp[addD,e] at hne
  subst hji
  have hj':ops[j]?=some o':=by simpa using hj
  rw[r.op] at hj'
  cases hj'
  exact hdst hd'
section
variable {N:Nat} {ρ0:Emb} {w0:World} {d0:List Deferred}
theorem Win.add {D:Nat→Bool} {i s:Nat} {o:Oper} {e:DEv} (r:Ready ops D i o) (he:es[i]?=some e) (hk:e.k≠.a) (h:Win es (addD D i) s):Win es D s:=fun c ec hc hck=>by
 have:=h c ec hc hck
 have hne:c≠i:=fun h=>by subst h;rw[he] at hc;cases hc;exact hk hck
 simpa [addD,hne] using this
theorem Inv.quiet (F:Facts P n ops t0 H0 es) {D:Nat→Bool} {ρ:Emb} {G:Bk→Option Obj} {a:Act} {w:World} (I:Inv P n ops t0 H0 es N ρ0 w0 d0 D ρ G a w) {i:Nat} {o:Oper} {e:DEv} (r:Ready ops D i o) (he:es[i]?=some e) (hk:e.k≠.a) {x:Value} (hr:VRel ρ e.v x)
  (hd:dstOk n o.dst=true∨(e.v=undef∧x=Go.undef)):Inv P n ops t0 H0 es N ρ0 w0 d0 (addD D i) ρ G (a.put o.dst x) w:=by
 have hil:i < ops.size:=(Array.getElem?_eq_some_iff.1 r.op).1
 have act:∀ c ec,es[c]?=some ec→ec.k=.a→addD D i c=true→D c=true:=fun c ec hc hck h=>by
  have hne:c≠i:=fun h=>by subst h;rw[he] at hc;cases hc;exact hk hck
  simpa [addD,hne] using h
 refine⟨I.closed.add r,?_,trel_add F I.closed r he I.t hr hd,by rw[Act.put_defers'];exact I.d,I.os,I.tape,I.output,I.size,I.sim,I.ext,I.new,I.img,I.frame,?_,?_,?_,?_,?_,?_⟩
 ·intro j hj
  simp only[addD,Bool.or_eq_true,decide_eq_true_eq] at hj
  rcases hj with hj | rfl
  ·exact I.small j hj
  ·exact hil
 ·exact fun s hs' hw=>I.win s hs' (Win.add r he hk hw)
 ·intro j ej ob hj hjk hcond
  refine I.late j ej ob hj hjk (hcond.imp (fun h=>?_) (fun h c ec hc hck hDc=>h c ec hc hck (by simp[addD,hDc])))
  simp only[addD,Bool.or_eq_false_iff] at h
  exact h.1
 ·intro j hj hDj
  simp only[addD,Bool.or_eq_false_iff] at hDj
  exact I.free j hj hDj.1
 ·exact fun c ec hc hck hDc=>I.keep c ec hc hck (act c ec hc hck hDc)
 ·exact fun c ec hc hck hDc=>I.was c ec hc hck (act c ec hc hck hDc)
 ·exact fun c ec hc hck hDc=>I.wf c ec hc hck (act c ec hc hck hDc)
theorem Inv.make (F:Facts P n ops t0 H0 es) {D:Nat→Bool} {ρ ρ':Emb} {G:Bk→Option Obj} {a:Act} {w w':World} (I:Inv P n ops t0 H0 es N ρ0 w0 d0 D ρ G a w) {i:Nat} {o:Oper} {e:DEv} {ob:Obj} (r:Ready ops D i o) (he:es[i]?=some e) (hk:e.k=.m ob)
  (hadd:hs es H0 (i+1)=(hs es H0 i).add ob) (hlow:H0.next≤(hs es H0 i).next) (st:Step N ρ ⟨.e,(hs es H0 i).next,fun _=>none,[]⟩ w ρ' (Heap.add ⟨.e,(hs es H0 i).next,fun _=>none,[]⟩ ob) w')
  {x:Value} (hr:VRel ρ' e.v x) (hd:dstOk n o.dst=true∨(e.v=undef∧x=Go.undef)) :
  Inv P n ops t0 H0 es N ρ0 w0 d0 (addD D i) ρ' G (a.put o.dst x) w':=by
 have hil:i < ops.size:=(Array.getElem?_eq_some_iff.1 r.op).1
 have hka:e.k≠.a:=by rw[hk];simp
 have act:∀ c ec,es[c]?=some ec→ec.k=.a→addD D i c=true→D c=true:=fun c ec hc hck h=>by
  have hne:c≠i:=fun h=>by subst h;rw[he] at hc;cases hc;exact hka hck
  simpa [addD,hne] using h
 have hnone:∀ b,(Heap.mk .e (hs es H0 i).next (fun _=>none) []).get b=none:=fun b=>by cases b<;>simp[Heap.get,Tr.getP_e]
 have hfr:∀ c,c < w.heap.size→w'.heap[c]?=w.heap[c]?:=fun c hc=>st.frame c hc (fun b l o _ h=>by rw[hnone] at h;cases h)
 have hnew:∀ b l,ρ' b=some l→ρ b=some l∨(b=.run (hs es H0 i).next∧w.heap.size≤l.c):=fun b l h=>by
  rcases st.new b l h with h | ⟨⟨k,rfl,h1,h2⟩,h3⟩
  ·exact .inl h
  ·have h1:(hs es H0 i).next≤k:=h1
   have h2:k < (hs es H0 i).next+1:=h2
   refine .inr ⟨by rw[show k=(hs es H0 i).next by omega],?_⟩
   rcases h3 with h3 | ⟨b0,l0,o0,_,h,_⟩
   ·exact h3
   ·rw[hnone] at h;cases h
 have hsz:=I.size
 have hGi:G (.run (hs es H0 i).next)=some ob:=I.late i e ob he hk (.inl r.no)
 have hgot:(Heap.add ⟨.e,(hs es H0 i).next,fun _=>none,[]⟩ ob).get (.run (hs es H0 i).next)=some ob:=by rw[Heap.get_add,if_pos rfl]
 have hnx:(hs es H0 (i+1)).next=(hs es H0 i).next+1:=by rw[hadd];rfl
 have hnm:=F.next_mono (i:=i+1) ops.size (by omega) (Nat.le_refl _)
 refine⟨I.closed.add r,?_,trel_add F I.closed r he (I.t.mono st.ext) hr hd,by rw[Act.put_defers'];exact I.d,st.os.trans I.os,st.tape.trans I.tape,st.output.trans I.output,Nat.le_trans I.size st.size,⟨?_,?_,Nat.le_trans I.sim.low st.size⟩,I.ext.trans st.ext,?_,?_,?_,
  fun s hs' hw=>I.win s hs' (Win.add r he hka hw),?_,?_,?_,fun c ec hc hck hDc=>I.was c ec hc hck (act c ec hc hck hDc),fun c ec hc hck hDc=>I.wf c ec hc hck (act c ec hc hck hDc)⟩
 ·intro j hj
  simp only[addD,Bool.or_eq_true,decide_eq_true_eq] at hj
  rcases hj with hj | rfl
  ·exact I.small j hj
  ·exact hil
 ·intro b o' l hb hr
  rcases hnew b l hr with h | ⟨rfl,_⟩
  ·exact((I.sim.obj b o' l hb h).mono st.ext).frame (fun c hc=>hfr c (by have:=I.sim.low;omega)) (fun hl=>hfr _ ((I.sim.obj b o' l hb h).live_lt hl))
  ·rw[hGi] at hb
   cases hb
   exact st.sim.obj _ _ l hgot hr
 ·intro b b' l l' o1 o2 hne hr hr' hb hl hb' hl'
  rcases hnew b l hr with h | ⟨e1,h1⟩
  ·rcases hnew b' l' hr' with h' | ⟨e2,h2⟩
   ·exact I.sim.inj b b' l l' o1 o2 hne h h' hb hl hb' hl'
   ·have:=(I.sim.obj b o1 l hb h).live_lt hl;omega
  ·rcases hnew b' l' hr' with h' | ⟨e2,h2⟩
   ·have:=(I.sim.obj b' o2 l' hb' h').live_lt hl';omega
   ·exact absurd (e1.trans e2.symm) hne
 ·intro b l h
  rcases hnew b l h with h | ⟨rfl,h1⟩
  ·exact I.new b l h
  ·exact .inr ⟨⟨_,rfl,hlow,by omega⟩,.inl (by omega)⟩
 ·intro b l o' hr hb hl
  rcases hnew b l hr with h | ⟨_,h1⟩
  ·exact I.img b l o' h hb hl
  ·exact .inl (by omega)
 ·intro c hc hno
  rw[hfr c (by omega)];exact I.frame c hc hno
 ·intro j ej ob' hj hjk hcond
  refine I.late j ej ob' hj hjk (hcond.imp (fun h=>?_) (fun h c ec hc hck hDc=>h c ec hc hck (by simp[addD,hDc])))
  simp only[addD,Bool.or_eq_false_iff] at h
  exact h.1
 ·intro j hj hDj k h1 h2
  simp only[addD,Bool.or_eq_false_iff,decide_eq_false_iff_not] at hDj
  cases hr:ρ' (.run k) with
  | none=>rfl
  | some l=>
   rcases hnew _ l hr with h | ⟨e1,_⟩
   ·rw[I.free j hj hDj.1 k h1 h2] at h;cases h
   ·have e1:k=(hs es H0 i).next:=by injection e1
    rcases Nat.lt_or_gt_of_ne hDj.2 with hlt | hlt
    ·have:=F.next_mono (i:=j+1) i (by omega) (by omega);omega
    ·have:=F.next_mono (i:=i+1) j (by omega) (by omega);omega
 ·intro c ec hc hck hDc b hold hb
  refine I.keep c ec hc hck (act c ec hc hck hDc) b hold ?_
  cases hr:ρ b with
  | none=>rfl
  | some l=>rw[st.ext b l hr] at hb;cases hb
open Classical in
theorem Inv.act (F:Facts P n ops t0 H0 es) {D:Nat→Bool} {ρ ρ':Emb} {G:Bk→Option Obj} {a:Act} {w w':World} (I:Inv P n ops t0 H0 es N ρ0 w0 d0 D ρ G a w) {i:Nat} {o:Oper} {e:DEv} (r:Ready ops D i o) (he:es[i]?=some e) (hk:e.k=.a)
  (hwi:Win es D i) (hlow:H0.next≤(hs es H0 i).next) (st:Step N ρ (hs es H0 i) w ρ' (hs es H0 (i+1)) w') (hwf:(hs es H0 i).Wf)
  {x:Value} (hr:VRel ρ' e.v x) (hd:dstOk n o.dst=true∨(e.v=undef∧x=Go.undef)) :
  ∃ G',Inv P n ops t0 H0 es N ρ0 w0 d0 (addD D i) ρ' G' (a.put o.dst x) w':=by
 have hil:i < ops.size:=(Array.getElem?_eq_some_iff.1 r.op).1
 have hsub:∀ b o',(hs es H0 i).get b=some o'→G b=some o':=I.win i (by omega) hwi
 have hnm:=F.next_mono (i:=i+1) ops.size (by omega) (Nat.le_refl _)
 have hsz:=I.size
 have hstep:(hs es H0 i).next≤(hs es H0 (i+1)).next:=st.next
 have hlowN:=I.sim.low
 let G':Bk→Option Obj:=fun b=>if(hs es H0 (i+1)).Old b then(hs es H0 (i+1)).get b else G b
 have gOld:∀ b,(hs es H0 (i+1)).Old b→G' b=(hs es H0 (i+1)).get b:=fun b h=>by simp only[G',if_pos h]
 have gNew:∀ b,¬ (hs es H0 (i+1)).Old b→G' b=G b:=fun b h=>by simp only[G',if_neg h]
 have imgH:∀ b l o',ρ b=some l→(hs es H0 i).get b=some o'→o'.live→w0.heap.size≤l.c∨Img ρ0 H0 l.c:=fun b l o' h1 h2 h3=>I.img b l o' h1 (hsub b o' h2) h3
 have newImg:∀ c,(w.heap.size≤c∨∃ b0 l0 o0,ρ b0=some l0∧(hs es H0 i).get b0=some o0∧o0.live∧l0.c=c)→w0.heap.size≤c∨Img ρ0 H0 c:=fun c h=>by
  rcases h with h | ⟨b0,l0,o0,h1,h2,h3,h4⟩
  ·exact .inl (by omega)
  ·rw[← h4];exact imgH b0 l0 o0 h1 h2 h3
 have lateB:∀ b,¬ (hs es H0 (i+1)).Old b→∀ l,ρ' b=some l→ρ b=some l:=fun b hb l h=>by
  rcases st.new b l h with h | ⟨⟨k,rfl,h1,h2⟩,_⟩
  ·exact h
  ·exact absurd (show (hs es H0 (i+1)).Old (.run k) from h2) hb
 have lateFrame:∀ b l o',¬ (hs es H0 (i+1)).Old b→ρ b=some l→G b=some o'→o'.live→w'.heap[l.c]?=w.heap[l.c]?:=fun b l o' hb hr hg hl=>by
  refine st.frame _ ((I.sim.obj b o' l hg hr).live_lt hl) (fun b1 l1 o1 h1 h2 h3 h4=>?_)
  have hold1:(hs es H0 (i+1)).Old b1:=(hwf b1 o1 h2).mono hstep
  exact I.sim.inj b1 b l1 l o1 o' (fun e=>hb (e ▸ hold1)) h1 hr (hsub b1 o1 h2) h3 hg hl h4
 have lowFrame:∀ c,c < N→w'.heap[c]?=w.heap[c]?:=fun c hc=>st.frame c (by omega) (fun b1 l1 o1 h1 h2 h3 h4=>by
  have:=(I.sim.obj b1 o1 l1 (hsub b1 o1 h2) h1).live_ge h3;omega)
 have act':∀ c ec,es[c]?=some ec→ec.k=.a→addD D i c=true→D c=true∨c=i:=fun c ec hc hck h=>by
  simpa [addD] using h
 refine⟨G',I.closed.add r,?_,trel_add F I.closed r he (I.t.mono st.ext) hr hd,by rw[Act.put_defers'];exact I.d,st.os.trans I.os,st.tape.trans I.tape,st.output.trans I.output,Nat.le_trans I.size st.size,⟨?_,?_,Nat.le_trans I.sim.low st.size⟩,I.ext.trans st.ext,?_,?_,?_,?_,?_,?_,?_,?_,?_⟩
 ·intro j hj
  simp only[addD,Bool.or_eq_true,decide_eq_true_eq] at hj
  rcases hj with hj | rfl
  ·exact I.small j hj
  ·exact hil
 ·intro b o' l hb hr
  by_cases hold:(hs es H0 (i+1)).Old b
  ·rw[gOld b hold] at hb
   exact st.sim.obj b o' l hb hr
  ·rw[gNew b hold] at hb
   have hr':=lateB b hold l hr
   exact((I.sim.obj b o' l hb hr').mono st.ext).frame lowFrame (fun hl=>lateFrame b l o' hold hr' hb hl)
 ·intro b b' l l' o1 o2 hne hr hr' hb hl hb' hl'
  have mixed:∀ b b' l l' o1 o2,(hs es H0 (i+1)).Old b→¬ (hs es H0 (i+1)).Old b'→ρ' b=some l→ρ' b'=some l'→(hs es H0 (i+1)).get b=some o1→o1.live→G b'=some o2→o2.live→l.c≠l'.c:=by
   intro b b' l l' o1 o2 hold hold' hr hr' hb hl hb' hl'
   have hr2:=lateB b' hold' l' hr'
   rcases st.image hr hb hl with h | ⟨b0,l0,o0,h1,h2,h3,h4⟩
   ·have:=(I.sim.obj b' o2 l' hb' hr2).live_lt hl';omega
   ·have hold0:(hs es H0 (i+1)).Old b0:=(hwf b0 o0 h2).mono hstep
    rw[← h4]
    exact I.sim.inj b0 b' l0 l' o0 o2 (fun e=>hold' (e ▸ hold0)) h1 hr2 (hsub b0 o0 h2) h3 hb' hl'
  by_cases hold:(hs es H0 (i+1)).Old b
  ·rw[gOld b hold] at hb
   by_cases hold':(hs es H0 (i+1)).Old b'
   ·rw[gOld b' hold'] at hb'
    exact st.sim.inj b b' l l' o1 o2 hne hr hr' hb hl hb' hl'
   ·rw[gNew b' hold'] at hb'
    exact mixed b b' l l' o1 o2 hold hold' hr hr' hb hl hb' hl'
  ·rw[gNew b hold] at hb
   by_cases hold':(hs es H0 (i+1)).Old b'
   ·rw[gOld b' hold'] at hb'
    exact fun h=>mixed b' b l' l o2 o1 hold' hold hr' hr hb' hl' hb hl h.symm
   ·rw[gNew b' hold'] at hb'
    exact I.sim.inj b b' l l' o1 o2 hne (lateB b hold l hr) (lateB b' hold' l' hr') hb hl hb' hl'
 ·intro b l h
  rcases st.new b l h with h | ⟨⟨k,rfl,h1,h2⟩,h3⟩
  ·exact I.new b l h
  ·exact .inr ⟨⟨k,rfl,by omega,by omega⟩,newImg _ h3⟩
 ·intro b l o' hr hb hl
  by_cases hold:(hs es H0 (i+1)).Old b
  ·rw[gOld b hold] at hb
   exact newImg _ (st.image hr hb hl)
  ·rw[gNew b hold] at hb
   exact I.img b l o' (lateB b hold l hr) hb hl
 ·intro c hc hno
  rw[st.frame c (by omega) (fun b1 l1 o1 h1 h2 h3 h4=>?_),I.frame c hc hno]
  rcases imgH b1 l1 o1 h1 h2 h3 with h | h
  ·omega
  ·exact hno (h4 ▸ h)
 ·intro s hs' hw b o' hb
  have hsi:i < s:=(hw i e he hk).1 (by simp[addD])
  have hnoact:∀ c ec,i+1≤c→c < s→es[c]?=some ec→ec.k≠.a:=fun c ec h1 h2 hc hck=>by
   have h3:=(hw c ec hc hck).2 h2
   rcases act' c ec hc hck h3 with h4 | h4
   ·have:=(hwi c ec hc hck).1 h4;omega
   ·omega
  rcases F.since (i:=i+1) s (by omega) hs' hnoact b o' hb with ⟨j,ej,ob,h1,h2,h3,h4,rfl,rfl⟩ | h
  ·have hold:¬ (hs es H0 (i+1)).Old (.run (hs es H0 j).next):=Heap.not_old (F.next_mono j h1 (by omega))
   rw[gNew _ hold]
   refine I.late j ej o' h3 h4 (.inr (fun c ec hc hck hDc=>?_))
   have:=(hwi c ec hc hck).1 hDc;omega
  ·rw[gOld b (st.wf b o' h)];exact h
 ·intro j ej ob hj hjk hcond
  by_cases hji:i < j
  ·have hjl:j < ops.size:=by rw[← F.len];exact(List.getElem?_eq_some_iff.1 hj).1
   have hold:¬ (hs es H0 (i+1)).Old (.run (hs es H0 j).next):=Heap.not_old (F.next_mono j (by omega) (by omega))
   rw[gNew _ hold]
   refine I.late j ej ob hj hjk (hcond.imp (fun h=>?_) (fun h c ec hc hck hDc=>h c ec hc hck (by simp[addD,hDc])))
   simp only[addD,Bool.or_eq_false_iff] at h
   exact h.1
  ·have hne:j≠i:=fun h=>by subst h;rw[he] at hj;cases hj;rw[hk] at hjk;cases hjk
   have hDj:D j=false:=by
    rcases hcond with h | h
    ·simp only[addD,Bool.or_eq_false_iff] at h;exact h.1
    ·have:=h i e he hk (by simp[addD]);omega
   have hjl:j < ops.size:=by omega
   obtain⟨e1,he1,hcase⟩:=F.cases hjl
   have ee:ej=e1:=Option.some.inj (hj.symm.trans he1)
   rw[← ee] at hcase
   have hadd:hs es H0 (j+1)=(hs es H0 j).add ob:=by
    rcases hcase with h | ⟨ob',h,ha⟩ | ⟨_,h,_⟩
    ·rw[hjk] at h;cases h
    ·rw[hjk] at h;cases h;exact ha
    ·exact absurd hjk (h ob)
   have hnx:(hs es H0 (j+1)).next=(hs es H0 j).next+1:=by rw[hadd];rfl
   have hun:ρ (.run (hs es H0 j).next)=none:=I.free j hjl hDj _ (Nat.le_refl _) (by omega)
   have hold1:(hs es H0 (j+1)).Old (.run (hs es H0 j).next):=by show (hs es H0 j).next < _;omega
   have hk1:=F.kept hold1 i (by omega) (by omega) (fun c ec h1 h2 hc hck hco=>I.keep c ec hc hck ((hwi c ec hc hck).2 h2) _ hco hun)
   have holdi:(hs es H0 i).Old (.run (hs es H0 j).next):=hold1.mono (F.next_mono i (by omega) (by omega))
   rw[gOld _ (holdi.mono hstep),st.keep _ holdi hun,hk1,hadd,Heap.get_add,if_pos rfl]
 ·intro j hj hDj k h1 h2
  simp only[addD,Bool.or_eq_false_iff,decide_eq_false_iff_not] at hDj
  cases hr:ρ' (.run k) with
  | none=>rfl
  | some l=>
   rcases st.new _ l hr with h | ⟨⟨k',e1,h3,h4⟩,_⟩
   ·rw[I.free j hj hDj.1 k h1 h2] at h;cases h
   ·have e1:k=k':=by injection e1
    rcases Nat.lt_or_gt_of_ne hDj.2 with hlt | hlt
    ·have:=F.next_mono (i:=j+1) i (by omega) (by omega);omega
    ·have:=F.next_mono (i:=i+1) j (by omega) (by omega);omega
 ·intro c ec hc hck hDc b hold hb
  have hb':ρ b=none:=by
   cases hr:ρ b with
   | none=>rfl
   | some l=>rw[st.ext b l hr] at hb;cases hb
  rcases act' c ec hc hck hDc with h | rfl
  ·exact I.keep c ec hc hck h b hold hb'
  ·exact st.keep b hold hb'
 ·intro c ec hc hck hDc
  rcases act' c ec hc hck hDc with h | rfl
  ·exact I.was c ec hc hck h
  ·exact st.was
 ·intro c ec hc hck hDc
  rcases act' c ec hc hck hDc with h | rfl
  ·exact I.wf c ec hc hck h
  ·exact st.wf
theorem Sim.sub {g g':Bk→Option Obj} {ρ:Emb} {w:World} (h:Sim N ρ g w) (hs:∀ b o,g' b=some o→g b=some o):Sim N ρ g' w:=
 ⟨fun b o l hb hr=>h.obj b o l (hs b o hb) hr,fun b b' l l' o o' hne hr hr' hb hl hb' hl'=>h.inj b b' l l' o o' hne hr hr' (hs b o hb) hl (hs b' o' hb') hl',h.low⟩
theorem Inv.start (F:Facts P n ops t0 H0 es) {ρ:Emb} {a:Act} {w:World} (hs0:Sim N ρ H0.get w) (hw:H0.Wf) (ht:TRel n ρ t0 a) (hf:Free ρ H0 (hs es H0 ops.size)) :
  ∃ G,Inv P n ops t0 H0 es N ρ w a.defers (fun _=>false) ρ G a w:=by
 classical
 let M:Bk→Prop:=fun b=>∃ j e ob,es[j]?=some e∧e.k=.m ob∧b=.run (hs es H0 j).next
 let G:Bk→Option Obj:=fun b=>if h:∃ ob,∃ j e,es[j]?=some e∧e.k=DK.m ob∧b=.run (hs es H0 j).next then some (Classical.choose h) else H0.get b
 have gM:∀ j e ob,es[j]?=some e→e.k=.m ob→G (.run (hs es H0 j).next)=some ob:=by
  intro j e ob he hk
  have hex:∃ ob',∃ j' e',es[j']?=some e'∧e'.k=DK.m ob'∧Bk.run (hs es H0 j).next=.run (hs es H0 j').next:=⟨ob,j,e,he,hk,rfl⟩
  simp only[G,dif_pos hex]
  obtain⟨j',e',he',hk',hn⟩:=Classical.choose_spec hex
  have hn:(hs es H0 j).next=(hs es H0 j').next:=by injection hn
  have:=F.mk_inj he hk he' hk' hn
  subst this
  rw[he] at he'
  cases he'
  rw[hk] at hk'
  injection hk' with h
  rw[← h]
 have gO:∀ b,H0.Old b→G b=H0.get b:=by
  intro b hb
  have hno:¬ ∃ ob,∃ j e,es[j]?=some e∧e.k=DK.m ob∧b=.run (hs es H0 j).next:=by
   rintro⟨ob,j,e,he,hk,rfl⟩
   have hjl:j < ops.size:=by rw[← F.len];exact(List.getElem?_eq_some_iff.1 he).1
   have:=F.next_mono (i:=0) j (by omega) (by omega)
   rw[hs_zero] at this
   exact Heap.not_old this hb
  simp only[G,dif_neg hno]
 have gR:∀ b l o,ρ b=some l→G b=some o→H0.get b=some o:=by
  intro b l o hr hg
  by_cases h:∃ ob,∃ j e,es[j]?=some e∧e.k=DK.m ob∧b=.run (hs es H0 j).next
  ·obtain⟨ob,j,e,he,hk,rfl⟩:=h
   have hjl:j < ops.size:=by rw[← F.len];exact(List.getElem?_eq_some_iff.1 he).1
   have h1:=F.next_mono (i:=0) j (by omega) (by omega)
   rw[hs_zero] at h1
   have h2:=F.next_mono (i:=j+1) ops.size (by omega) (Nat.le_refl _)
   obtain⟨e1,he1,hcase⟩:=F.cases hjl
   have ee:e=e1:=Option.some.inj (he.symm.trans he1)
   rw[← ee] at hcase
   have h3:(hs es H0 j).next < (hs es H0 (j+1)).next:=by
    rcases hcase with h | ⟨ob',_,ha⟩ | ⟨_,h,_⟩
    ·rw[hk] at h;cases h
    ·rw[ha];simp
    ·exact absurd hk (h ob)
   rw[hf.2 _ h1 (by omega)] at hr
   cases hr
  ·simp only[G,dif_neg h] at hg;exact hg
 refine⟨G,fun j o e h=>(by cases h),fun j h=>(by cases h),?_,rfl,rfl,rfl,rfl,Nat.le_refl _,⟨fun b o l hb hr=>hs0.obj b o l (gR b l o hr hb) hr,fun b b' l l' o o' hne hr hr' hb hl hb' hl'=>hs0.inj b b' l l' o o' hne hr hr' (gR b l o hr hb) hl (gR b' l' o' hr' hb') hl',hs0.low⟩,Ext.refl _,fun b l h=>.inl h,?_,fun c hc _=>rfl,?_,fun j e ob he hk _=>gM j e ob he hk,?_,fun c e _ _ h=>(by cases h),fun c e _ _ h=>(by cases h),fun c e _ _ h=>(by cases h)⟩
 ·rw[tD_none _ _ _ _ (fun _ _=>rfl)];exact ht
 ·exact fun b l o hr hg hl=>.inr ⟨b,l,o,hr,gR b l o hr hg,hl,rfl⟩
 ·intro s hs' hw' b o hb
  have hno:∀ c e,0≤c→c < s→es[c]?=some e→e.k≠.a:=fun c e _ h2 he hk=>by
   have:=(hw' c e he hk).2 h2;cases this
  rcases F.since (i:=0) s (by omega) hs' hno b o hb with ⟨j,e,ob,_,_,he,hk,rfl,rfl⟩ | h
  ·exact gM j e _ he hk
  ·rw[hs_zero] at h
   rw[gO b (hw b o h)];exact h
 ·intro j hj _ k h1 h2
  have h3:=F.next_mono (i:=0) j (by omega) (by omega)
  rw[hs_zero] at h3
  have h4:=F.next_mono (i:=j+1) ops.size (by omega) (Nat.le_refl _)
  exact hf.2 k (by omega) (by omega)
theorem Inv.wf_at (F:Facts P n ops t0 H0 es) {D:Nat→Bool} {ρ:Emb} {G:Bk→Option Obj} {a:Act} {w:World} (I:Inv P n ops t0 H0 es N ρ0 w0 d0 D ρ G a w) (hw:H0.Wf):∀ s,s≤ops.size→(∀ c e,c < s→es[c]?=some e→e.k=.a→D c=true)→(hs es H0 s).Wf
 | 0,_,_=>by rw[hs_zero];exact hw
 | s+1,hs',h=>by
  have ih:=I.wf_at F hw s (by omega) (fun c e h1=>h c e (by omega))
  obtain⟨e,he,hcase⟩:=F.cases (i:=s) (by omega)
  rcases hcase with hk | ⟨ob,_,ha⟩ | ⟨_,_,ha⟩
  ·exact I.wf s e he hk (h s e (by omega) he hk)
  ·rw[ha]
   intro b o hb
   rw[Heap.get_add] at hb
   rw[Heap.old_add]
   by_cases eb:b=.run (hs es H0 s).next
   ·exact .inr eb
   ·rw[if_neg eb] at hb;exact .inl (ih b o hb)
  ·rw[ha];exact ih
theorem Inv.finish (F:Facts P n ops t0 H0 es) {D:Nat→Bool} {ρ:Emb} {G:Bk→Option Obj} {a:Act} {w:World} (I:Inv P n ops t0 H0 es N ρ0 w0 d0 D ρ G a w) (hw:H0.Wf) (hf:Free ρ0 H0 (hs es H0 ops.size)) (hall:∀ j,j < ops.size→D j=true) :
  Step N ρ0 H0 w0 ρ (hs es H0 ops.size) w∧TRel n ρ (tD (fun _=>true) ops.toList es 0 t0) a:=by
 have hlt:∀ c e,es[c]?=some e→c < ops.size:=fun c e h=>by rw[← F.len];exact(List.getElem?_eq_some_iff.1 h).1
 have hwin:Win es D ops.size:=fun c e he _=>⟨fun _=>hlt c e he,fun h=>hall c h⟩
 have hnx:=F.next_mono (i:=0) ops.size (by omega) (Nat.le_refl _)
 rw[hs_zero] at hnx
 have hun:∀ b,H0.Old b→ρ0 b=none→ρ b=none:=fun b hb h=>by
  cases hr:ρ b with
  | none=>rfl
  | some l=>
   rcases I.new b l hr with h' | ⟨⟨k,rfl,h1,_⟩,_⟩
   ·rw[h] at h';cases h'
   ·exact absurd hb (Heap.not_old h1)
 refine⟨⟨I.os,I.tape,I.output,I.size,I.ext,I.new,I.sim.sub (I.win ops.size (Nat.le_refl _) hwin),I.wf_at F hw ops.size (Nat.le_refl _) (fun c e h1 _ _=>hall c h1),hnx,hf.2,fun c hc hno=>I.frame c hc (fun⟨b0,l0,o0,h1,h2,h3,h4⟩=>hno b0 l0 o0 h1 h2 h3 h4),?_,?_⟩,?_⟩
 ·intro b hb h
  have hold:(hs es H0 0).Old b:=by rw[hs_zero];exact hb
  have:=F.kept hold ops.size (by omega) (Nat.le_refl _) (fun c e _ h2 he hk hco=>I.keep c e he hk (hall c h2) b hco (hun b hb h))
  rw[hs_zero] at this
  exact this
 ·intro b o hb hg hl
  have key:∀ s,s≤ops.size→∀ o,(hs es H0 s).get b=some o→o.live→∃ o',H0.get b=some o'∧o'.live:=by
   intro s
   induction s with
   | zero=>intro _ o h hl;rw[hs_zero] at h;exact⟨o,h,hl⟩
   | succ s ih=>
    intro hs' o h hl
    have hold:(hs es H0 s).Old b:=hb.mono (by have:=F.next_mono (i:=0) s (by omega) (by omega);rw[hs_zero] at this;exact this)
    obtain⟨e,he,hcase⟩:=F.cases (i:=s) (by omega)
    rcases hcase with hk | ⟨ob,_,ha⟩ | ⟨_,_,ha⟩
    ·obtain⟨o',h',hl'⟩:=I.was s e he hk (hall s (by omega)) b o hold h hl
     exact ih (by omega) o' h' hl'
    ·rw[ha,Heap.get_add,if_neg (fun e=>Heap.not_old (Nat.le_refl _) (by rw[← e];exact hold))] at h
     exact ih (by omega) o h hl
    ·rw[ha] at h;exact ih (by omega) o h hl
  exact key ops.size (Nat.le_refl _) o hg hl
 ·refine⟨I.t.sz,fun x v hv=>I.t.val x v ?_⟩
  rw[← hv]
  refine tD_get _ _ _ _ _ (fun j o' hj hne=>?_) rfl
  rw[Nat.zero_add] at hne
  have hj':j < ops.size:=by simpa using (List.getElem?_eq_some_iff.1 hj).1
  rw[hall j hj'] at hne
  exact absurd rfl hne
theorem Inv.window (F:Facts P n ops t0 H0 es) {D:Nat→Bool} (hcl:Closed ops D) {i:Nat} {o:Oper} {e:DEv} {g:Heap→Option V} (r:Ready ops D i o) (he:es[i]?=some e) (hk:e.k=.r g) (hg:g (hs es H0 i)=some e.v) :
  ∃ s,s≤ops.size∧Win es D s∧g (hs es H0 s)=some e.v:=by
 have hlt:∀ c e,es[c]?=some e→c < ops.size:=fun c e h=>by rw[← F.len];exact(List.getElem?_eq_some_iff.1 h).1
 have hil:=hlt i e he
 have hne:∀ c ec,es[c]?=some ec→ec.k=.a→c≠i:=fun c ec hc hck h=>by subst h;rw[he] at hc;cases hc;rw[hk] at hck;cases hck
 by_cases hA:∃ c,(∃ ec,es[c]?=some ec∧ec.k=.a)∧c < i∧D c=false
 ·obtain⟨c,⟨⟨ec,hc,hck⟩,hci,hDc⟩,hmin⟩:=least hA
  refine⟨c,by omega,fun c' ec' hc' hck'=>?_,?_⟩
  ·constructor
   ·intro hD
    rcases Nat.lt_trichotomy c' c with h | rfl | h
    ·exact h
    ·rw[hDc] at hD;cases hD
    ·have:=hcl.bef (F.chain c c' ec ec' h hc hck hc' hck') hD
     rw[hDc] at this;cases this
   ·intro h
    cases hD:D c' with
    | true=>rfl
    | false=>have:=hmin c' ⟨⟨ec',hc',hck'⟩,by omega,hD⟩;omega
  ·rcases F.readB i c e ec g hci he hk hc hck with hb | h
   ·rw[r.bef hcl hb] at hDc;cases hDc
   ·exact h
 ·have hdone:∀ c ec,es[c]?=some ec→ec.k=.a→c < i→D c=true:=fun c ec hc hck h=>by
   cases hD:D c with
   | true=>rfl
   | false=>exact absurd ⟨c,⟨ec,hc,hck⟩,h,hD⟩ hA
  by_cases hB:∃ k,∃ c,c+k=ops.size∧(∃ ec,es[c]?=some ec∧ec.k=.a)∧i < c∧D c=true
  ·obtain⟨k,⟨c,hck0,⟨ec,hc,hck⟩,hic,hDc⟩,hmin⟩:=least hB
   refine⟨c+1,by have:=hlt c ec hc;omega,fun c' ec' hc' hck'=>?_,?_⟩
   ·constructor
    ·intro hD
     rcases Nat.lt_or_ge c' (c+1) with h | h
     ·exact h
     ·have h1:=hlt c' ec' hc'
      have:=hmin (ops.size - c') ⟨c',by omega,⟨ec',hc',hck'⟩,by omega,hD⟩
      omega
    ·intro h
     by_cases hcc:c'=c
     ·subst hcc;exact hDc
     ·exact hcl.bef (F.chain c' c ec' ec (by omega) hc' hck' hc hck) hDc
   ·rcases F.readA i c e ec g hic he hk hc hck with hb | h
    ·have:=r.after hcl hb;rw[hDc] at this;cases this
    ·exact h
  ·refine⟨i,by omega,fun c ec hc hck=>⟨fun hD=>?_,fun h=>hdone c ec hc hck h⟩,hg⟩
   rcases Nat.lt_trichotomy c i with h | h | h
   ·exact h
   ·exact absurd h (hne c ec hc hck)
   ·have h1:=hlt c ec hc
    exact absurd ⟨ops.size - c,c,by omega,⟨ec,hc,hck⟩,h,hD⟩ hB
theorem Inv.step (F:Facts P n ops t0 H0 es) {D:Nat→Bool} {ρ:Emb} {G:Bk→Option Obj} {a:Act} {w:World} (I:Inv P n ops t0 H0 es N ρ0 w0 d0 D ρ G a w) (hg0:GRel P ρ0) (hw:H0.Wf) (hqn:QOk (hs es H0 ops.size)) {i:Nat} {o:Oper} (r:Ready ops D i o) {K:Act→World→Prop} {Q:Exit→Act→World→Prop}
  (hK:∀ ρ' G' a' w',Inv P n ops t0 H0 es N ρ0 w0 d0 (addD D i) ρ' G' a' w'→K a' w'):wpOp P ops Q i K a w:=by
 obtain⟨e,he,hb,ha,hev⟩:=F.ev i o r.op
 have hil:i < ops.size:=(Array.getElem?_eq_some_iff.1 r.op).1
 have hgr:=hg0.mono I.ext
 have hnar:=trel_narrow F I.closed r I.t
 have hlow:=F.next_mono (i:=0) i (by omega) (by omega)
 rw[hs_zero] at hlow
 unfold Go.wpOp
 simp only[r.op]
 have hwin:∀ b,wanted (tD (fun j=>decide (j < i)) ops.toList es 0 t0) (prepOper P n ops o).guard=some b→Region.wanted o (yielded ops a.tmps)=b:=fun b h=>wanted_same F I.closed r I.t h
 cases hev with
 | skip H hwant=>
  rw[if_neg (by rw[hwin _ hwant];decide)]
  exact hK ρ G _ w (I.quiet F r he (by simp) (VRel.undef _) (.inr ⟨rfl,rfl⟩))
 | pure H f v hwant hdst hsnd hf=>
  rw[if_pos (hwin _ hwant)]
  obtain⟨v',hv,hrun⟩:=hsnd n ρ _ a v hgr hnar hf
  refine .inl ?_
  unfold Oper.wp
  rw[hrun w,Oper.upon_value]
  exact hK ρ G _ w (I.quiet F r he (by simp) hv (.inl hdst))
 | read H f v hwant hdst hsnd hf=>
  rw[if_pos (hwin _ hwant)]
  have hb:H=hs es H0 i:=hb
  subst hb
  obtain⟨s,hs',hws,hgs⟩:=Inv.window F I.closed r he rfl hf
  obtain⟨v',hv,hrun⟩:=hsnd n ρ _ a v N (hs es H0 s) w hgr hnar (I.sim.sub (I.win s hs' hws)) hgs
  refine .inl ?_
  unfold Oper.wp
  rw[hrun,Oper.upon_value]
  exact hK ρ G _ w (I.quiet F r he (by simp) hv (.inl hdst))
 | make H f ob mk hwant hdst hsnd hf=>
  rw[if_pos (hwin _ hwant)]
  have hb:H=hs es H0 i:=hb
  subst hb
  have ha:(hs es H0 i).add ob=hs es H0 (i+1):=ha
  have hnone:∀ b,(Heap.mk .e (hs es H0 i).next (fun _=>none) []).get b=none:=fun b=>by cases b<;>simp[Heap.get,Tr.getP_e]
  have hun:ρ (.run (hs es H0 i).next)=none:=I.free i hil r.no _ (Nat.le_refl _) (by rw[← ha];simp)
  obtain⟨v',ρ',w',hrun,hstep,hv⟩:=hsnd n ρ _ a ob mk N ⟨.e,(hs es H0 i).next,fun _=>none,[]⟩ w hgr hnar ⟨fun b o l h=>(by rw[hnone] at h;cases h),fun b b' l l' o o' _ _ _ h=>(by rw[hnone] at h;cases h),I.sim.low⟩ (fun b o h=>by rw[hnone] at h;cases h) hun hf
  refine .inl ?_
  unfold Oper.wp
  rw[hrun,Oper.upon_value]
  exact hK ρ' G _ w' (I.make F r he rfl ha.symm hlow hstep hv (.inl hdst))
 | act H H' v hwant hdst hact hnx=>
  rw[if_pos (hwin _ hwant)]
  have hb:H=hs es H0 i:=hb
  subst hb
  have ha:H'=hs es H0 (i+1):=ha
  subst ha
  have hwi:Win es D i:=by
   intro c ec hc hck
   constructor
   ·intro hD
    rcases Nat.lt_trichotomy c i with h | rfl | h
    ·exact h
    ·rw[r.no] at hD;cases hD
    ·have:=r.after I.closed (F.chain i c _ ec h he rfl hc hck);rw[hD] at this;cases this
   ·exact fun h=>r.bef I.closed (F.chain c i ec _ h hc hck he rfl)
  have hwf:=I.wf_at F hw i (by omega) (fun c ec h1 hc hck=>(hwi c ec hc hck).2 h1)
  refine .inl (hact N ρ a w hgr hnar (I.sim.sub (I.win i (by omega) hwi)) hwf ⟨F.qok hqn (ops.size - (i+1)) (i+1) (by omega),fun k h1 h2=>I.free i hil r.no k h1 h2⟩ _ _ (fun ρ' x w' hstep hv=>?_))
  obtain⟨G',I'⟩:=I.act F r he rfl hwi hlow hstep hwf hv (.inl hdst)
  exact hK ρ' G' _ w' I'
theorem count_lt {p q:Nat→Bool}:∀(l:List Nat),(∀ x ∈ l,q x=true→p x=true)→(∃ x ∈ l,p x=true∧q x=false)→(l.filter q).length < (l.filter p).length
 | [],_,h=>by obtain⟨x,hx,_⟩:=h;cases hx
 | y::l,h1,h2=>by
  have hle:∀(l:List Nat),(∀ x ∈ l,q x=true→p x=true)→(l.filter q).length≤(l.filter p).length:=by
   intro l
   induction l with
   | nil=>intro _;simp
   | cons z l ih=>
    intro h
    have:=ih (fun x hx=>h x (List.mem_cons_of_mem _ hx))
    by_cases hq:q z=true
    ·simp[hq,h z (List.mem_cons_self ..) hq,this]
    ·by_cases hp:p z=true
     ·simp[hq,hp];omega
     ·simp[hq,hp,this]
  obtain⟨x,hx,hp,hq⟩:=h2
  rcases List.mem_cons.1 hx with rfl | hx
  ·have:=hle l (fun x hx=>h1 x (List.mem_cons_of_mem _ hx))
   simp[hp,hq];omega
  ·have ih:=count_lt l (fun x hx=>h1 x (List.mem_cons_of_mem _ hx)) ⟨x,hx,hp,hq⟩
   by_cases hqy:q y=true
   ·simp[hqy,h1 y (List.mem_cons_self ..) hqy];exact ih
   ·by_cases hpy:p y=true
    ·simp[hqy,hpy];omega
    ·simp[hqy,hpy];exact ih
def left (ops:Array Oper) (listed:Array Bool):Nat:=((List.range ops.size).filter fun j=>!listed.getD j false).length
theorem drawn_all (F:Facts P n ops t0 H0 es) (hg0:GRel P ρ0) (hw:H0.Wf) (hf:Free ρ0 H0 (hs es H0 ops.size)) {Q:Exit→Act→World→Prop}
  (hQ:∀ ρ' a' w',Step N ρ0 H0 w0 ρ' (hs es H0 ops.size) w'→TRel n ρ' (tD (fun _=>true) ops.toList es 0 t0) a'→a'.defers=d0→Q .normal a' w') :
  ∀(fuel:Nat) (listed:Array Bool) (ρ:Emb) (G:Bk→Option Obj) (a:Act) (w:World),listed.size=ops.size→left ops listed≤fuel→Inv P n ops t0 H0 es N ρ0 w0 d0 (fun j=>listed.getD j false) ρ G a w→wpAny P .any ops Q fuel listed a w:=by
 have fin:∀(listed:Array Bool) (ρ:Emb) (G:Bk→Option Obj) (a:Act) (w:World),(∀ j,j < ops.size→listed.getD j false=true)→Inv P n ops t0 H0 es N ρ0 w0 d0 (fun j=>listed.getD j false) ρ G a w→Q .normal a w:=by
  intro listed ρ G a w hall I
  obtain⟨h1,h2⟩:=I.finish F hw hf hall
  exact hQ ρ a w h1 h2 I.d
 have gd:∀(listed:Array Bool) (j:Nat),listed.size=ops.size→j < ops.size→listed.getD j true=listed.getD j false:=fun listed j hl hj=>by
  simp[Array.getD,hl,hj]
 have noready:∀(listed:Array Bool),listed.size=ops.size→Region.ready .any ops listed=[]→∀ j,j < ops.size→listed.getD j false=true:=by
  intro listed hl hr j
  induction j using Nat.strongRecOn with
  | _ j ih=>
   intro hj
   cases hD:listed.getD j false with
   | true=>rfl
   | false=>
    have hm:j ∈ Region.ready .any ops listed:=mem_ready.2 ⟨by rw[gd listed j hl hj];exact hD,_,Array.getElem?_eq_getElem hj,fun e he hb=>by
     have hlt:=F.lt j _ e (Array.getElem?_eq_getElem hj) he hb
     exact ih e.on hlt (by omega)⟩
    rw[hr] at hm;cases hm
 intro fuel
 induction fuel with
 | zero=>
  intro listed ρ G a w hl hleft I
  have hall:∀ j,j < ops.size→listed.getD j false=true:=by
   intro j hj
   cases hD:listed.getD j false with
   | true=>rfl
   | false=>
    have h0:((List.range ops.size).filter fun j=>!listed.getD j false)=[]:=List.length_eq_zero_iff.1 (by unfold left at hleft;omega)
    have hm:j ∈ (List.range ops.size).filter fun j=>!listed.getD j false:=List.mem_filter.2 ⟨List.mem_range.2 hj,by rw[hD];rfl⟩
    rw[h0] at hm;cases hm
  refine⟨?_,fin listed ρ G a w hall I⟩
  cases hr:Region.ready .any ops listed with
  | nil=>rfl
  | cons x xs=>
   have hx:x ∈ Region.ready .any ops listed:=by rw[hr];exact List.mem_cons_self ..
   obtain⟨h1,o,ho,_⟩:=mem_ready.1 hx
   have hxl:=(Array.getElem?_eq_some_iff.1 ho).1
   rw[gd listed x hl hxl,hall x hxl] at h1;cases h1
 | succ fuel ih=>
  intro listed ρ G a w hl hleft I
  refine⟨fun hr=>fin listed ρ G a w (noready listed hl hr) I,fun i hi=>?_⟩
  obtain⟨h1,o,ho,hdeps⟩:=mem_ready.1 hi
  have hil:=(Array.getElem?_eq_some_iff.1 ho).1
  rw[gd listed i hl hil] at h1
  have r:Ready ops (fun j=>listed.getD j false) i o:=⟨ho,h1,fun o' e ho' he hb=>by
   rw[ho] at ho';cases ho';exact hdeps e he hb⟩
  refine I.step F hg0 hw hf.1 r (fun ρ' G' a' w' I'=>ih (listed.setIfInBounds i true) ρ' G' a' w' (by simpa using hl) ?_ ?_)
  ·have:left ops (listed.setIfInBounds i true) < left ops listed:=by
    refine count_lt _ (fun x hx hq=>?_) ⟨i,List.mem_range.2 hil,by rw[h1];rfl,?_⟩
    ·by_cases e:i=x
     ·subst e;rw[h1];rfl
     ·rwa [getD_set_ne false e] at hq
    ·have:(listed.setIfInBounds i true).getD i false=true:=by simp[Array.getD,hl,hil]
     rw[this];rfl
   omega
  ·have:(fun j=>(listed.setIfInBounds i true).getD j false)=addD (fun j=>listed.getD j false) i:=by
    funext j
    by_cases e:i=j
    ·subst e;simp[addD,Array.getD,hl,hil]
    ·rw[getD_set_ne false e];simp[addD,Ne.symm e]
   rw[this];exact I'
end
theorem Step.owe {N:Nat} {ρ ρ':Emb} {H H':Heap} {w w':World} (s:Step N ρ H w ρ' H' w') (q:List (Option V × Option V)):Step N ρ H w ρ' (H'.owe q) w':=by
 have hg:=Heap.get_owe H' q
 refine⟨s.os,s.tape,s.output,s.size,s.ext,s.new,by rw[hg];exact s.sim,fun b o h=>?_,s.next,s.pre,s.frame,?_,?_⟩
 ·rw[hg] at h
  have:=s.wf b o h
  cases b<;>exact this
 ·rw[hg];exact s.keep
 ·rw[hg];exact s.was
theorem drawn_sound {call:CallT} (hcall:CallSnd P call) {id:Nat} {s:St} {t':T} {H':Heap} {es:List DEv} (hm:P.follows .mixedOrders=true) (hreg:regionOk ops (masks ops.toList []) ops.toList 0=true)
  (hrun:runOpsD call (ops.toList.map (prepOper P n ops)) s.t s.H=some (t',H',es)) (hc:chainOk (masks ops.toList []) (acsOf es 0)=true) :
  s.H.Upto (H'.owe (owes (masks ops.toList []) (acsOf es 0) es 0))∧∀(N:Nat) (ρ:Emb) (a:Act) (w:World),Rel P n N ρ s.t s.H s.d a w→Free ρ s.H (H'.owe (owes (masks ops.toList []) (acsOf es 0) es 0))→∀(Q:Exit→Act→World→Prop),
   (∀ ρ' a' w',Step N ρ s.H w ρ' (H'.owe (owes (masks ops.toList []) (acsOf es 0) es 0)) w'→Rel P n N ρ' t' (H'.owe (owes (masks ops.toList []) (acsOf es 0) es 0)) s.d a' w'→Q .normal a' w')→(Code.region id ops true).wp P Q a w:=by
 obtain⟨htr,ht',hH'⟩:=runOpsD_trace hcall ops.toList s.t s.H t' H' es 0 hrun
 have hup:=htr.upto
 rw[← hH'] at hup
 refine⟨hup.trans (.owe _ _),fun N ρ a w r hfree Q hQ=>wp_region_any hm ?_⟩
 have F:=facts htr hreg hc (fun p hp=>hfree.1 p (List.mem_append_left _ hp))
 rw[F.len] at hH'
 have hfree':Free ρ s.H (hs es s.H ops.size):=by
  rw[← hH']
  exact⟨fun p hp=>hfree.1 p (List.mem_append_right _ hp),hfree.2⟩
 obtain⟨G,I⟩:=Inv.start F r.s r.wf r.t hfree'
 have hw':({ w with drawn:=w.drawn+1 }:World)=w.drew:=rfl
 rw[hw']
 have I':Inv P n ops s.t s.H es N ρ w a.defers (fun j=>(Array.replicate ops.size false).getD j false) ρ G a w.drew:=by
  have hfn:(fun j=>(Array.replicate ops.size false).getD j false)=fun _=>false:=by
   funext j
   simp only[Array.getD]
   split<;>simp
  rw[hfn]
  exact⟨I.closed,I.small,I.t,I.d,I.os,I.tape,I.output,I.size,I.sim.drew,I.ext,I.new,I.img,I.frame,I.win,I.late,I.free,I.keep,I.was,I.wf⟩
 refine drawn_all F r.g r.wf hfree' (fun ρ' a' w' st ht hd=>?_) ops.size (Array.replicate ops.size false) ρ G a w.drew (by simp) (by unfold left;exact Nat.le_trans (List.length_filter_le _ _) (by simp)) I'
 rw[← hH'] at st
 rw[← ht'] at ht
 have st':=st.owe (owes (masks ops.toList []) (acsOf es 0) es 0)
 exact hQ ρ' a' w' st' ⟨r.g.mono st.ext,ht,by rw[hd];exact r.d.mono st.ext,st'.sim,st'.wf⟩
end
end Go.Am
