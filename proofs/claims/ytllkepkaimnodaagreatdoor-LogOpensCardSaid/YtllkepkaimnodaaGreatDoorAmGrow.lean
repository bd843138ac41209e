import Derived.Test.YtllkepkaimnodaaGreatDoorAmVeil2
set_option linter.unusedVariables false
set_option linter.unusedSimpArgs false
set_option linter.unusedSectionVars false
namespace Go.Am
def GrowS (call:CallT) (X:Nat):Prop:=∀(id:FuncId) (args:List V) (H:Heap) (r:Rs) (H':Heap),call id args H=some (r,H')→H'.next≤H.next+X
theorem storeAt_nx {H H':Heap} {p:Ptr} {vs:List V} (h:storeAt H p vs=some H'):H'.next=H.next:=by
 unfold storeAt at h
 repeat' (split at h)
 all_goals first | (cases h;rfl) | cases h
theorem storeElems_nx {b:Bk} {sz:Nat}:∀ {xs:List (List V)} {o:Nat} {H H':Heap},storeElems b sz xs o H=some H'→H'.next=H.next
 | [],o,H,H',h=>by cases h;rfl
 | x::xs,o,H,H',h=>by
  unfold storeElems at h
  split at h
  ·rename_i H1 h1;rw[storeElems_nx h,storeAt_nx h1]
  ·cases h
theorem mapElems_nx {b:Bk} {sz o:Nat} {xs:List (List V)} {H H':Heap} {v w:V} (h:(storeElems b sz xs o H).map (fun H'=>(w,H'))=some (v,H')):H'.next≤H.next+1:=by
 cases he:storeElems b sz xs o H with
 | none=>rw[he] at h;cases h
 | some G1=>rw[he] at h;cases h;rw[storeElems_nx he];omega
def OpG:OpS→Prop
 | .a f=>∀ t H v H',f t H=some (v,H')→H'.next≤H.next+1
 | _=>True
theorem append_nx {H H':Heap} {sz by':Nat} {s x v:V} (h:appendV sz by' H s x=some (v,H')):H'.next≤H.next+1:=by
 unfold appendV at h
 repeat' (split at h)
 all_goals first | exact mapElems_nx h | (cases h;done) | (cases h;simp)
theorem copy_nx {H H':Heap} {sz:Nat} {s x v:V} (h:copyV sz H s x=some (v,H')):H'.next≤H.next+1:=by
 unfold copyV at h
 repeat' (split at h)
 all_goals first | exact mapElems_nx h | (cases h;done) | (cases h;simp)
theorem clear_nx {H H':Heap} {sz:Nat} {z:List V} {x v:V} (h:clearV sz z H x=some (v,H')):H'.next≤H.next+1:=by
 unfold clearV at h
 repeat' (split at h)
 all_goals first | exact mapElems_nx h | (cases h;done) | (cases h;simp)
theorem mapUpd_nx {H H':Heap} {m k x v:V} (h:mapUpd H m k x=some (v,H')):H'.next≤H.next+1:=by
 unfold mapUpd at h
 repeat' (split at h)
 all_goals first | (cases h;done) | (cases h;simp)
theorem mapEnt_nx {H H':Heap} {z m k v:V} (h:mapEnt z H m k=some (v,H')):H'.next≤H.next+1:=by
 unfold mapEnt at h
 repeat' (split at h)
 all_goals first | (cases h;done) | (cases h;simp)
theorem entSt_nx {H H':Heap} {m k x v:V} (h:entSt H m k x=some (v,H')):H'.next≤H.next+1:=by
 unfold entSt at h
 repeat' (split at h)
 all_goals first | (cases h;done) | (cases h;simp)
theorem mapDel_nx {H H':Heap} {m k v:V} (h:mapDel H m k=some (v,H')):H'.next≤H.next+1:=by
 unfold mapDel at h
 repeat' (split at h)
 all_goals first | (cases h;done) | (cases h;simp)
theorem rangeV_nx {H H':Heap} {x v:V} (h:rangeV H x=some (v,H')):H'.next≤H.next+1:=by
 unfold rangeV at h
 repeat' (split at h)
 all_goals first | (cases h;done) | (cases h;simp)
theorem nextV_nx {H H':Heap} {x v:V} (h:nextV H x=some (v,H')):H'.next≤H.next+1:=by
 unfold nextV at h
 repeat' (split at h)
 all_goals first | (cases h;done) | (cases h;simp)
theorem store_g (a x:S) (sz:Nat):OpG (.a (storeF a x sz)):=by
 intro t H v H' h
 unfold storeF at h
 split at h
 ·split at h
  ·split at h
   ·cases he:storeAt H _ _ with
    | none=>rw[he] at h;cases h
    | some G1=>rw[he] at h;cases h;rw[storeAt_nx he];omega
   ·cases h
  ·cases h
 ·cases h
theorem clear_g (sz:Nat) (z:List V) (x:S):OpG (.a (clearF sz z x)):=by
 intro t H v H' h
 unfold clearF at h
 split at h
 ·exact clear_nx h
 ·cases h
theorem range_g (x:S):OpG (.a (rangeF x)):=by
 intro t H v H' h
 unfold rangeF at h
 split at h
 ·exact rangeV_nx h
 ·cases h
theorem next_g (x:S):OpG (.a (nextF x)):=by
 intro t H v H' h
 unfold nextF at h
 split at h
 ·exact nextV_nx h
 ·cases h
theorem prepEq_g {P:Program} {neg:Bool} {t:TypeId} {xo yo:Operand} {x y:S} {s:OpS} (h:prepEq P neg t xo yo x y=some s):OpG s:=by
 unfold prepEq at h
 split at h
 ·split at h
  ·cases h;trivial
  ·cases h
 ·obtain⟨e,_,rfl⟩:=map_some h;trivial
theorem prepBuiltin_g {P:Program} {b:Builtin} {ts:List TypeId} {xs:List S} {s:OpS} (h:prepBuiltin P b ts xs=some s):OpG s:=by
 unfold prepBuiltin at h
 repeat' (split at h)
 all_goals first | (cases h;done) | skip
 all_goals cases h
 all_goals first | trivial | exact clear_g _ _ _ | skip
 ·intro t H v H' h
  dsimp only at h
  split at h
  ·exact append_nx h
  ·cases h
 ·intro t H v H' h
  dsimp only at h
  split at h
  ·exact copy_nx h
  ·cases h
 ·intro t H v H' h
  dsimp only at h
  split at h
  ·exact mapDel_nx h
  ·cases h
theorem prep_g {P:Program} {op:Op} {s:OpS} (h:prep P op=some s):OpG s:=by
 unfold prep at h
 repeat' (split at h)
 all_goals first
  | (cases h;done)
  | exact prepBuiltin_g h
  | exact prepEq_g h
  | (obtain⟨_,_,rfl⟩:=map_some h;first | trivial | exact next_g _)
  | (cases h;first | trivial | exact store_g _ _ _ | exact range_g _)
  | skip
 ·cases h
  intro t H v H' h
  dsimp only at h
  split at h
  ·exact mapUpd_nx h
  ·cases h
 ·cases h
  intro t H v H' h
  dsimp only at h
  split at h
  ·exact mapEnt_nx h
  ·cases h
 ·cases h
  intro t H v H' h
  dsimp only at h
  split at h
  ·exact entSt_nx h
  ·cases h
def IOpG (o:IOp):Prop:=∀ s,o.op=some s→OpG s
theorem prepOper_g (P:Program) (n:Nat) (ops:Array Oper) (o:Oper):IOpG (prepOper P n ops o):=by
 intro s h
 have h:(match dstOk n o.dst with | true=>prep P o.op | false=>none)=some s:=h
 split at h
 ·exact prep_g h
 ·cases h
def CG:C→Prop
 | .reg ops=>∀ o ∈ ops,IOpG o
 | .regD ops _=>∀ o ∈ ops,IOpG o
 | .seq a b=>CG a∧CG b
 | .cond _ a b=>CG a∧CG b
 | .block _ a=>CG a
 | .loop a=>CG a
 | .scope a=>CG a
 | _=>True
theorem prepC_g (P:Program) (n:Nat):∀ c:Code,CG (prepC P n c):=by
 intro c
 have hops:∀(ops:Array Oper) (o:IOp),o ∈ ops.toList.map (prepOper P n ops)→IOpG o:=by
  intro ops o ho
  obtain⟨p,_,rfl⟩:=List.mem_map.1 ho
  exact prepOper_g P n ops p
 induction c with
 | region id ops draw=>
  cases draw with
  | false=>exact hops ops
  | true=>
   simp only[prepC]
   split
   ·exact hops ops
   ·trivial
 | seq a b iha ihb=>exact⟨iha,ihb⟩
 | cond c a b iha ihb=>
  simp only[prepC]
  split
  ·exact⟨iha,ihb⟩
  ·trivial
 | block id a iha=>exact iha
 | loop a iha=>exact iha
 | scope a iha=>exact iha
 | _=>trivial
theorem fnOf_g {P:Program} {f:FuncId} {fn:CFn} (h:fnOf P f=some fn):CG fn.body∧f < P.funcs.size:=by
 unfold fnOf at h
 split at h
 ·rename_i g hg
  have hlt:f < P.funcs.size:=by
   apply Classical.byContradiction
   intro hn
   rw[Array.getElem?_eq_none (Nat.le_of_not_lt hn)] at hg
   cases hg
  split at h
  ·cases h
  ·unfold prepFn at h
   split at h
   ·cases h;exact⟨prepC_g P _ _,hlt⟩
   ·cases h
 ·cases h
def Pot (B:Nat) (s:St):Nat:=s.H.next+B*s.d.length
def KG (B:Nat) (k:T→Heap→List (FuncId × List V)→Option (X × St)) (Y:Nat):Prop:=∀ t H d x s,k t H d=some (x,s)→Pot B s≤H.next+B*d.length+Y
section
variable {call:CallT} {W B:Nat} (hc:GrowS call W)
include hc
theorem op_grow {k:T→Heap→List (FuncId × List V)→Option (X × St)} {Y:Nat} (hk:KG B k Y) (dst:Option (List Bool)) {s:OpS} (hs:OpG s):KG B (runOp call k dst s) (Y+(W+B+1)):=by
 intro t H d x st h
 cases s with
 | p f=>
  have h:(match f t with | some v=>k (setT dst v t) H d | none=>none)=some (x,st):=h
  split at h
  ·have:=hk _ _ _ _ _ h;omega
  ·cases h
 | r f=>
  have h:(match f t H with | some v=>k (setT dst v t) H d | none=>none)=some (x,st):=h
  split at h
  ·have:=hk _ _ _ _ _ h;omega
  ·cases h
 | m f=>
  have h:(match f t with | some (o,mk)=>k (setT dst (mk H.next) t) (H.add o) d | none=>none)=some (x,st):=h
  split at h
  ·have:=hk _ _ _ _ _ h;simp only[Heap.next_add] at this;omega
  ·cases h
 | a f=>
  have h:(match f t H with | some (v,H')=>k (setT dst v t) H' d | none=>none)=some (x,st):=h
  split at h
  ·rename_i v H1 hv
   have:=hk _ _ _ _ _ h
   have:=hs t H v H1 hv
   omega
  ·cases h
 | c f=>
  have h:(match f t with
   | some (id,args)=>match call id args H with
    | some (.v v,H')=>k (setT dst v t) H' d
    | some (.p v,H')=>some (X.pan v,St.mk t H' d)
    | none=>none
   | none=>none)=some (x,st):=h
  split at h
  ·rename_i id args hv
   split at h
   ·rename_i v H1 h1
    have:=hk _ _ _ _ _ h
    have:=hc id args H _ H1 h1
    omega
   ·rename_i v H1 h1
    have:=hc id args H _ H1 h1
    cases h
    show H1.next+B*d.length≤_
    omega
   ·cases h
  ·cases h
 | d f=>
  have h:(match f t with | some y=>k (setT dst undef t) H (y::d) | none=>none)=some (x,st):=h
  split at h
  ·have:=hk _ _ _ _ _ h
   simp only[List.length_cons,Nat.mul_add,Nat.mul_one] at this
   omega
  ·cases h
 | x f=>
  have h:(match f t with | some (.iface ty v)=>some (X.pan (.iface ty v),St.mk t H d) | _=>none)=some (x,st):=h
  split at h
  ·cases h;show H.next+B*d.length≤_;omega
  ·cases h
 | rcv=>cases h
theorem iop_grow {k:T→Heap→List (FuncId × List V)→Option (X × St)} {Y:Nat} (hk:KG B k Y) {o:IOp} (ho:IOpG o):KG B (runIOp call k o) (Y+(W+B+1)):=by
 intro t H d x st h
 unfold runIOp at h
 split at h
 ·split at h
  ·rename_i s hs
   exact op_grow hc hk o.dst (ho s hs) t H d x st h
  ·cases h
 ·have:=hk _ _ _ _ _ h;omega
 ·cases h
theorem ops_grow:∀(l:List IOp),(∀ o ∈ l,IOpG o)→KG B (runOps call l) (l.length*(W+B+1))
 | [],_=>fun t H d x st h=>by cases h;show H.next+B*d.length≤_;omega
 | o::l,hl=>fun t H d x st h=>by
  have:=iop_grow hc (ops_grow l (fun p hp=>hl p (List.mem_cons_of_mem _ hp))) (hl o (List.mem_cons_self ..)) t H d x st h
  rw[List.length_cons,Nat.add_mul,Nat.one_mul]
  exact this
theorem opsD_grow:∀(l:List IOp),(∀ o ∈ l,IOpG o)→∀ t H t' H' es,runOpsD call l t H=some (t',H',es)→H'.next≤H.next+l.length*(W+1)
 | [],_,t,H,t',H',es,h=>by cases h;simp
 | o::l,hl,t,H,t',H',es,h=>by
  have h:(match runIOpD call o t H with
   | some e=>match runOpsD call l (setT o.dst e.v t) e.a with
    | some (t',H',es)=>some (t',H',e::es)
    | none=>none
   | none=>none)=some (t',H',es):=h
  split at h
  ·rename_i e he
   split at h
   ·rename_i t1 H1 es1 h1
    cases h
    have ih:=opsD_grow l (fun p hp=>hl p (List.mem_cons_of_mem _ hp)) _ _ _ _ _ h1
    have ea:e.a.next≤H.next+(W+1):=by
     unfold runIOpD at he
     split at he
     ·split at he
      ·rename_i s hs
       have hg:=hl o (List.mem_cons_self ..) s hs
       cases s with
       | p f=>
        have he:(match f (narrow t o.see) with | some v=>some (DEv.mk .q v H H) | none=>none)=some e:=he
        split at he
        ·cases he;simp
        ·cases he
       | r f=>
        have he:(match f (narrow t o.see) H with | some v=>some (DEv.mk (.r (f (narrow t o.see))) v H H) | none=>none)=some e:=he
        split at he
        ·cases he;simp
        ·cases he
       | m f=>
        have he:(match f (narrow t o.see) with | some (o,mk)=>some (DEv.mk (.m o) (mk H.next) H (H.add o)) | none=>none)=some e:=he
        split at he
        ·cases he;simp only[Heap.next_add];omega
        ·cases he
       | a f=>
        have he:(match f (narrow t o.see) H with | some (v,H')=>some (DEv.mk .a v H H') | none=>none)=some e:=he
        split at he
        ·rename_i v H2 hv
         cases he
         have:=hg _ _ _ _ hv
         dsimp only
         omega
        ·cases he
       | c f=>
        have he:(match f (narrow t o.see) with
         | some (id,args)=>match call id args H with
          | some (.v v,H')=>some (DEv.mk .a v H H')
          | _=>none
         | none=>none)=some e:=he
        split at he
        ·split at he
         ·rename_i v H2 h2
          cases he
          have:=hc _ _ H _ H2 h2
          dsimp only
          omega
         ·cases he
        ·cases he
       | d f=>cases he
       | x f=>cases he
       | rcv=>cases he
      ·cases he
     ·cases he;simp
     ·cases he
    rw[List.length_cons,Nat.add_mul,Nat.one_mul]
    omega
   ·cases h
  ·cases h
omit hc in
theorem loop_grow {f:St→Option (X × St)} {Y:Nat} (hf:∀ s x s',f s=some (x,s')→Pot B s'≤Pot B s+Y):∀ n s x s',loopF f n s=some (x,s')→Pot B s'≤Pot B s+n*Y
 | 0,s,x,s',h=>by cases h
 | n+1,s,x,s',h=>by
  have h:(match f s with | some (.n,s')=>loopF f n s' | r=>r)=some (x,s'):=h
  rw[Nat.add_mul,Nat.one_mul]
  split at h
  ·rename_i s1 h1
   have:=hf s _ s1 h1
   have:=loop_grow hf n s1 x s' h
   omega
  ·have:=hf s x s' h
   omega
theorem runC_grow (B lf:Nat):∀ c:C,CG c→∃ Y,∀ s x s',runC call lf c s=some (x,s')→Pot B s'≤Pot B s+Y:=by
 intro c
 induction c with
 | skip=>exact fun _=>⟨0,fun s x s' h=>by cases h;omega⟩
 | reg ops=>exact fun hk=>⟨_,fun s x s' h=>ops_grow hc ops hk s.t s.H s.d x s' h⟩
 | regD ops before=>
  refine fun hk=>⟨ops.length*(W+1),fun s x s' h=>?_⟩
  have h:(match runOpsD call ops s.t s.H with
   | some (t,H,es)=>match chainOk before (acsOf es 0) with
    | true=>some (X.n,St.mk t (H.owe (owes before (acsOf es 0) es 0)) s.d)
    | false=>none
   | none=>none)=some (x,s'):=h
  split at h
  ·rename_i t1 H1 es h1
   have:=opsD_grow hc ops hk _ _ _ _ _ h1
   split at h
   ·cases h
    show H1.next+B*s.d.length≤s.H.next+B*s.d.length+_
    omega
   ·cases h
  ·cases h
 | seq a b iha ihb=>
  intro hk
  obtain⟨Y1,h1⟩:=iha hk.1
  obtain⟨Y2,h2⟩:=ihb hk.2
  refine⟨Y1+Y2,fun s x s' h=>?_⟩
  have h:(match runC call lf a s with | some (.n,s')=>runC call lf b s' | r=>r)=some (x,s'):=h
  split at h
  ·rename_i s1 e1
   have:=h1 _ _ _ e1
   have:=h2 _ _ _ h
   omega
  ·have:=h1 _ _ _ h
   omega
 | cond c a b iha ihb=>
  intro hk
  obtain⟨Y1,h1⟩:=iha hk.1
  obtain⟨Y2,h2⟩:=ihb hk.2
  refine⟨Y1+Y2,fun s x s' h=>?_⟩
  have h:(match c.get s.t with | some (.bool true)=>runC call lf a s | some (.bool false)=>runC call lf b s | _=>none)=some (x,s'):=h
  split at h
  ·have:=h1 _ _ _ h;omega
  ·have:=h2 _ _ _ h;omega
  ·cases h
 | block id a iha=>
  intro hk
  obtain⟨Y1,h1⟩:=iha hk
  refine⟨Y1,fun s x s' h=>?_⟩
  have h:(match runC call lf a s with | some (.ex id',s')=>(match id'.beq id with | true=>some (X.n,s') | false=>some (X.ex id',s')) | r=>r)=some (x,s'):=h
  split at h
  ·rename_i id' s1 e1
   have:=h1 _ _ _ e1
   split at h<;>(cases h;exact this)
  ·exact h1 _ _ _ h
 | loop a iha=>
  intro hk
  obtain⟨Y1,h1⟩:=iha hk
  exact⟨lf*Y1,fun s x s' h=>loop_grow h1 lf s x s' h⟩
 | exit id=>exact fun _=>⟨0,fun s x s' h=>by cases h;omega⟩
 | scope a iha=>exact fun hk=>iha hk
 | ret=>exact fun _=>⟨0,fun s x s' h=>by cases h;omega⟩
 | bad=>exact fun _=>⟨0,fun s x s' h=>by cases h⟩
theorem opsR_grow:∀(l:List IOp),(∀ o ∈ l,IOpG o)→∀ v s x s' v',runOpsR call l v s=some (x,s',v')→Pot B s'≤Pot B s+l.length*(W+B+1)
 | [],_=>fun v s x s' v' h=>by cases h;simp
 | o::l,hl=>fun v s x s' v' h=>by
  have hl':=fun p hp=>hl p (List.mem_cons_of_mem _ hp)
  rw[List.length_cons,Nat.add_mul,Nat.one_mul]
  unfold runOpsR at h
  split at h
  ·split at h
   ·have:=opsR_grow l hl' _ _ _ _ _ h
    have e:Pot B ⟨setT o.dst (recU v).1 s.t,s.H,s.d⟩=Pot B s:=rfl
    omega
   ·have:=opsR_grow l hl' _ _ _ _ _ h
    have e:Pot B ⟨setT o.dst undef s.t,s.H,s.d⟩=Pot B s:=rfl
    omega
   ·cases h
  ·split at h
   ·rename_i s1 h1
    have h2:=iop_grow (B:=B) (Y:=0) hc (k:=fun t H d=>some (.n,⟨t,H,d⟩)) (fun t H d x s h=>by cases h;show H.next+B*d.length≤_;omega) (hl o (List.mem_cons_self ..)) _ _ _ _ _ h1
    have h3:=opsR_grow l hl' _ _ _ _ _ h
    have e:Pot B s=s.H.next+B*s.d.length:=rfl
    omega
   ·cases h
theorem runCR_grow (B lf:Nat):∀ c:C,CG c→∃ Y,∀ v s x s' v',runCR call lf c v s=some (x,s',v')→Pot B s'≤Pot B s+Y:=by
 have base:∀ c:C,CG c→∃ Y,∀(v:U) (s:St) (x:X) (s':St) (v':U),(match runC call lf c s with | some (x,s')=>some (x,s',v) | none=>none)=some (x,s',v')→Pot B s'≤Pot B s+Y:=by
  intro c hk
  obtain⟨Y,h1⟩:=runC_grow hc B lf c hk
  refine⟨Y,fun v s x s' v' h=>?_⟩
  split at h
  ·rename_i e1;cases h;exact h1 _ _ _ e1
  ·cases h
 intro c
 induction c with
 | reg ops=>exact fun hk=>⟨_,fun v s x s' v' h=>opsR_grow hc ops hk v s x s' v' h⟩
 | seq a b iha ihb=>
  intro hk
  obtain⟨Y1,h1⟩:=iha hk.1
  obtain⟨Y2,h2⟩:=ihb hk.2
  refine⟨Y1+Y2,fun v s x s' v' h=>?_⟩
  have h:(match runCR call lf a v s with | some (.n,s',u')=>runCR call lf b u' s' | r=>r)=some (x,s',v'):=h
  split at h
  ·rename_i s1 v1 e1
   have:=h1 _ _ _ _ _ e1
   have:=h2 _ _ _ _ _ h
   omega
  ·have:=h1 _ _ _ _ _ h
   omega
 | cond c a b iha ihb=>
  intro hk
  obtain⟨Y1,h1⟩:=iha hk.1
  obtain⟨Y2,h2⟩:=ihb hk.2
  refine⟨Y1+Y2,fun v s x s' v' h=>?_⟩
  have h:(match c.get s.t with | some (.bool true)=>runCR call lf a v s | some (.bool false)=>runCR call lf b v s | _=>none)=some (x,s',v'):=h
  split at h
  ·have:=h1 _ _ _ _ _ h;omega
  ·have:=h2 _ _ _ _ _ h;omega
  ·cases h
 | skip=>exact fun hk=>base .skip hk
 | regD ops b=>exact fun hk=>base (.regD ops b) hk
 | block id a _=>exact fun hk=>base (.block id a) hk
 | loop a _=>exact fun hk=>base (.loop a) hk
 | exit id=>exact fun hk=>base (.exit id) hk
 | scope a _=>exact fun hk=>base (.scope a) hk
 | ret=>exact fun hk=>base .ret hk
 | bad=>exact fun hk=>base .bad hk
omit hc in
theorem bound_all {p:Nat→Nat→Prop} (hp:∀ i,∃ Y,p i Y) (mono:∀ i Y Y',p i Y→Y≤Y'→p i Y'):∀ n,∃ Y,∀ i,i < n→p i Y
 | 0=>⟨0,fun i h=>absurd h (by omega)⟩
 | n+1=>by
  obtain⟨Y1,h1⟩:=bound_all hp mono n
  obtain⟨Y2,h2⟩:=hp n
  refine⟨Y1+Y2,fun i hi=>?_⟩
  by_cases e:i=n
  ·subst e;exact mono _ _ _ h2 (by omega)
  ·exact mono _ _ _ (h1 i (by omega)) (by omega)
theorem runDef_grow (P:Program) (lf:Nat):∃ Y,∀ id args v v' H H',runDef P call lf id args v H=some (v',H')→H'.next≤H.next+Y:=by
 have one:∀ id,∃ Y,∀ args v v' H H',runDef P call lf id args v H=some (v',H')→H'.next≤H.next+Y:=by
  intro id
  cases hfn:fnOf P id with
  | none=>exact⟨0,fun args v v' H H' h=>by unfold runDef at h;rw[hfn] at h;cases h⟩
  | some fn=>
   obtain⟨Y,h1⟩:=runCR_grow hc 0 lf fn.body (fnOf_g hfn).1
   refine⟨Y,fun args v v' H H' h=>?_⟩
   unfold runDef at h
   rw[hfn] at h
   dsimp only at h
   split at h
   ·rename_i x s v1 e1
    have:=h1 _ _ _ _ _ e1
    split at h
    ·cases h
     have e2:Pot 0 s=s.H.next:=by simp[Pot]
     have e3:Pot 0 ⟨argsT args 0 .e,H,[]⟩=H.next:=by simp[Pot]
     omega
    ·cases h
   ·cases h
 obtain⟨Y,h⟩:=bound_all one (fun i Y Y' h hle args v v' H H' e=>Nat.le_trans (h args v v' H H' e) (by omega)) P.funcs.size
 refine⟨Y,fun id args v v' H H' e=>?_⟩
 by_cases hi:id < P.funcs.size
 ·exact h id hi args v v' H H' e
 ·unfold runDef at e
  cases hfn:fnOf P id with
  | none=>rw[hfn] at e;cases e
  | some fn=>exact absurd (fnOf_g hfn).2 hi
theorem runF_grow (P:Program) (lf:Nat):∃ Y,∀ f fn args H r H',fnOf P f=some fn→runF P call lf fn args H=some (r,H')→H'.next≤H.next+Y:=by
 obtain⟨B,hB⟩:=runDef_grow hc P lf
 have lv:∀ ds v v' H H',leave P call lf ds v H=some (v',H')→H'.next≤H.next+B*ds.length:=by
  intro ds
  induction ds with
  | nil=>intro v v' H H' h;cases h;simp
  | cons a ds ih=>
   intro v v' H H' h
   obtain⟨id,args⟩:=a
   unfold leave at h
   split at h
   ·rename_i v1 H1 h1
    have:=hB _ _ _ _ _ _ h1
    have:=ih _ _ _ _ h
    rw[List.length_cons,Nat.mul_add,Nat.mul_one]
    omega
   ·cases h
 have en:∀ res t o r H',endF res t o=some (r,H')→∃ v,o=some (v,H'):=by
  intro res t o r H' h
  unfold endF at h
  split at h
  ·split at h
   ·cases h;exact⟨_,rfl⟩
   ·cases h
  ·cases h;exact⟨_,rfl⟩
  ·cases h
 have one:∀ f,∃ Y,∀ fn args H r H',fnOf P f=some fn→runF P call lf fn args H=some (r,H')→H'.next≤H.next+Y:=by
  intro f
  cases hfn:fnOf P f with
  | none=>exact⟨0,fun fn args H r H' h=>by cases h⟩
  | some fn=>
   obtain⟨Y,h1⟩:=runC_grow hc B lf fn.body (fnOf_g hfn).1
   refine⟨Y,fun fn' args H r H' hf h=>?_⟩
   cases hf
   unfold runF at h
   split at h
   ·rename_i x s e1
    have h2:=h1 _ _ _ e1
    have e3:Pot B ⟨argsT args 0 .e,H,[]⟩=H.next:=by simp[Pot]
    have e4:Pot B s=s.H.next+B*s.d.length:=rfl
    split at h
    ·obtain⟨v,e⟩:=en _ _ _ _ _ h;have:=lv _ _ _ _ _ e;omega
    ·obtain⟨v,e⟩:=en _ _ _ _ _ h;have:=lv _ _ _ _ _ e;omega
    ·obtain⟨v,e⟩:=en _ _ _ _ _ h;have:=lv _ _ _ _ _ e;omega
    ·cases h
   ·cases h
 obtain⟨Y,h⟩:=bound_all one (fun i Y Y' h hle fn args H r H' hf e=>Nat.le_trans (h fn args H r H' hf e) (by omega)) P.funcs.size
 exact⟨Y,fun f fn args H r H' hf e=>h f (fnOf_g hf).2 fn args H r H' hf e⟩
end
theorem callU_grow {P:Program} {S:CallT} {X0:Nat} (hS:GrowS S X0) (dom:FuncId→Bool) (lf:Nat):∀ d,∃ Y,GrowS (callU P S dom lf d) Y
 | 0=>⟨0,fun f args H r H' h=>by cases h⟩
 | d+1=>by
  obtain⟨Y1,h1⟩:=callU_grow hS dom lf d
  obtain⟨Y2,h2⟩:=runF_grow h1 P lf
  refine⟨X0+Y2,fun f args H r H' h=>?_⟩
  have h:(match S f args H with
   | some r=>some r
   | none=>match dom f with
    | true=>none
    | false=>match fnOf P f with
     | some fn=>runF P (callU P S dom lf d) lf fn args H
     | none=>none)=some (r,H'):=h
  split at h
  ·rename_i hr
   cases h
   have:=hS f args H _ _ hr
   omega
  ·split at h
   ·cases h
   ·split at h
    ·rename_i fn hfn
     have:=h2 f fn args H r H' hfn h
     omega
    ·cases h
theorem GrowS.mono {call:CallT} {X Y:Nat} (h:GrowS call X) (k:X≤Y):GrowS call Y:=fun f args H r H' e=>Nat.le_trans (h f args H r H' e) (by omega)
noncomputable def padS (call:CallT) (dom:FuncId→Bool) (K:Nat):CallT:=fun f args H=>match dom f with
 | false=>none
 | true=>match call f args H with
  | some (.v v,H')=>match Nat.ble H'.next (H.next+K) with
   | true=>some (.v v,⟨H'.m,H.next+K,H'.a,H'.q⟩)
   | false=>none
  | _=>none
theorem padS_calm (call:CallT) (dom:FuncId→Bool) (K:Nat):NoPan (padS call dom K):=by
 intro f args H v H' h
 unfold padS at h
 repeat' (split at h)
 all_goals cases h
theorem padS_some {call:CallT} {dom:FuncId→Bool} {K:Nat} {f:FuncId} {args:List V} {H H1:Heap} {v:V} (hf:dom f=true) (h:call f args H=some (.v v,H1)) (hn:H1.next≤H.next+K):padS call dom K f args H=some (.v v,⟨H1.m,H.next+K,H1.a,H1.q⟩):=by
 unfold padS
 rw[hf]
 dsimp only
 rw[h]
 dsimp only
 rw[ble_iff.2 hn]
theorem pad_get (H1:Heap) (n:Nat):(Heap.mk H1.m n H1.a H1.q).get=H1.get:=by funext b;cases b<;>rfl
theorem padS_snd {P:Program} {call:CallT} (hc:CallSnd P call) (dom:FuncId→Bool) (K:Nat):CallSnd P (padS call dom K):=by
 refine CallSndV.calm (fun id args H v H' h=>?_) (padS_calm _ _ _)
 unfold padS at h
 split at h
 ·cases h
 ·split at h
  ·rename_i v1 H1 h1
   split at h
   ·rename_i hle
    have hle:=ble_iff.1 hle
    cases h
    obtain⟨b,up,k⟩:=hc.1 id args H v H1 h1
    refine⟨b,⟨Nat.le_add_right _ _,up.2⟩,fun N ρ w args' hg hr hs hw hf=>?_⟩
    refine(k N ρ w args' hg hr hs hw ⟨hf.1,fun b h1 h2=>hf.2 b h1 (Nat.lt_of_lt_of_le h2 hle)⟩).mono ?_
    rintro e w' ⟨x,ρ',rfl,st,hx⟩
    refine⟨x,ρ',rfl,⟨st.os,st.tape,st.output,st.size,st.ext,fun b l hb=>?_,?_,fun b o hb=>?_,Nat.le_add_right _ _,hf.2,st.frame,fun b h1 h2=>?_,fun b o h1 h2 h3=>?_⟩,hx⟩
    ·rcases st.new b l hb with h | ⟨⟨n,rfl,h1,h2⟩,h3⟩
     ·exact .inl h
     ·exact .inr ⟨⟨n,rfl,h1,Nat.lt_of_lt_of_le h2 hle⟩,h3⟩
    ·rw[pad_get];exact st.sim
    ·rw[pad_get] at hb
     have:=st.wf b o hb
     cases b with
     | arg n=>trivial
     | run n=>exact Nat.lt_of_lt_of_le this hle
    ·rw[pad_get];exact st.keep b h1 h2
    ·rw[pad_get] at h2;exact st.was b o h1 h2 h3
   ·cases h
  ·cases h
end Go.Am
