import Derived.Test.YtllkepkaimnodaaGreatDoorAmVeil
set_option linter.unusedVariables false
set_option linter.unusedSimpArgs false
set_option linter.unusedSectionVars false
namespace Go.Am
section
variable {A:V→Prop} {R:RepT}
theorem prep_u (ok:RepOk A R) {P:Program} {op:Op} {s:OpS} (h:prep P op=some s):OpU A R s:=by
 unfold prep at h
 repeat' (split at h)
 all_goals first
  | (cases h;done)
  | exact prepBuiltin_u ok h
  | exact prepEq_u h
  | (obtain⟨_,_,rfl⟩:=map_some h;first | trivial | exact next_u ok _ | exact entry_u _ | exact bslice_u _ _ _ _)
  | (cases h;first | trivial | exact alloc_u _ _ | exact box_u _ _ | exact load_u _ _ _ | exact store_u ok _ _ _ | exact mkmap_u | exact mkslice_u _ _ _ _ _ | exact look_u _ _ _ _ | exact range_u ok _)
  | skip
 ·cases h
  intro t G H v G' u h
  dsimp only at h ⊢
  split at h
  ·exact mapUpd_under ok u h
  ·cases h
 ·cases h
  intro t G H v G' u h
  dsimp only at h ⊢
  split at h
  ·exact mapEnt_under ok u h
  ·cases h
 ·cases h
  intro t G H v G' u h
  dsimp only at h ⊢
  split at h
  ·exact entSt_under ok u h
  ·cases h
def IOpU (A:V→Prop) (R:RepT) (o:IOp):Prop:=∀ s,o.op=some s→OpU A R s
theorem prepOper_u (ok:RepOk A R) (P:Program) (n:Nat) (ops:Array Oper) (o:Oper):IOpU A R (prepOper P n ops o):=by
 intro s h
 have h:(match dstOk n o.dst with | true=>prep P o.op | false=>none)=some s:=h
 split at h
 ·exact prep_u ok h
 ·cases h
def CallU (A:V→Prop) (R:RepT) (call call':CallT):Prop:=∀(id:FuncId) (args:List V) (G:Heap) (r:Rs) (G':Heap),call id args G=some (r,G')→∀ H,Under A R G H→∃ H',call' id args H=some (r,H')∧Under A R G' H'
def SimF (A:V→Prop) (R:RepT) (f f':T→Heap→List (FuncId × List V)→Option (X × St)):Prop:=
 ∀ t G H d x s,Under A R G H→f t G d=some (x,s)→∃ H',f' t H d=some (x,⟨s.t,H',s.d⟩)∧Under A R s.H H'
variable {call call':CallT} (hc:CallU A R call call') (ok:RepOk A R)
include hc ok
theorem op_under {k k':T→Heap→List (FuncId × List V)→Option (X × St)} (hk:SimF A R k k') (dst:Option (List Bool)) {s:OpS} (hs:OpU A R s):SimF A R (runOp call k dst s) (runOp call' k' dst s):=by
 intro t G H d x st u h
 cases s with
 | p f=>
  have h:(match f t with | some v=>k (setT dst v t) G d | none=>none)=some (x,st):=h
  show ∃ H',(match f t with | some v=>k' (setT dst v t) H d | none=>none)=_∧_
  split at h
  ·exact hk _ _ _ _ _ _ u h
  ·cases h
 | r f=>
  have h:(match f t G with | some v=>k (setT dst v t) G d | none=>none)=some (x,st):=h
  show ∃ H',(match f t H with | some v=>k' (setT dst v t) H d | none=>none)=_∧_
  split at h
  ·rename_i v hv
   rw[hs t G H v u hv]
   exact hk _ _ _ _ _ _ u h
  ·cases h
 | m f=>
  have h:(match f t with | some (o,mk)=>k (setT dst (mk G.next) t) (G.add o) d | none=>none)=some (x,st):=h
  show ∃ H',(match f t with | some (o,mk)=>k' (setT dst (mk H.next) t) (H.add o) d | none=>none)=_∧_
  split at h
  ·rename_i o mk hv
   rw[u.next] at h
   exact hk _ _ _ _ _ _ (u.add ok (hs t o mk hv)) h
  ·cases h
 | a f=>
  have h:(match f t G with | some (v,H')=>k (setT dst v t) H' d | none=>none)=some (x,st):=h
  show ∃ H',(match f t H with | some (v,H')=>k' (setT dst v t) H' d | none=>none)=_∧_
  split at h
  ·rename_i v G1 hv
   obtain⟨H1,e1,u1⟩:=hs t G H v G1 u hv
   rw[e1]
   exact hk _ _ _ _ _ _ u1 h
  ·cases h
 | c f=>
  have h:(match f t with
   | some (id,args)=>match call id args G with
    | some (.v v,H')=>k (setT dst v t) H' d
    | some (.p v,H')=>some (X.pan v,St.mk t H' d)
    | none=>none
   | none=>none)=some (x,st):=h
  show ∃ H',(match f t with
   | some (id,args)=>match call' id args H with
    | some (.v v,H')=>k' (setT dst v t) H' d
    | some (.p v,H')=>some (X.pan v,St.mk t H' d)
    | none=>none
   | none=>none)=_∧_
  split at h
  ·rename_i id args hv
   split at h
   ·rename_i v G1 h1
    obtain⟨H1,e1,u1⟩:=hc id args G _ G1 h1 H u
    try dsimp only
    rw[e1]
    exact hk _ _ _ _ _ _ u1 h
   ·rename_i v G1 h1
    obtain⟨H1,e1,u1⟩:=hc id args G _ G1 h1 H u
    cases h
    try dsimp only
    rw[e1]
    exact⟨H1,rfl,u1⟩
   ·cases h
  ·cases h
 | d f=>
  have h:(match f t with | some y=>k (setT dst undef t) G (y::d) | none=>none)=some (x,st):=h
  show ∃ H',(match f t with | some y=>k' (setT dst undef t) H (y::d) | none=>none)=_∧_
  split at h
  ·exact hk _ _ _ _ _ _ u h
  ·cases h
 | x f=>
  have h:(match f t with | some (.iface ty v)=>some (X.pan (.iface ty v),St.mk t G d) | _=>none)=some (x,st):=h
  show ∃ H',(match f t with | some (.iface ty v)=>some (X.pan (.iface ty v),St.mk t H d) | _=>none)=_∧_
  split at h
  ·cases h;exact⟨H,rfl,u⟩
  ·cases h
 | rcv=>cases h
theorem iop_under {k k':T→Heap→List (FuncId × List V)→Option (X × St)} (hk:SimF A R k k') {o:IOp} (ho:IOpU A R o):SimF A R (runIOp call k o) (runIOp call' k' o):=by
 intro t G H d x st u h
 unfold runIOp at h ⊢
 split at h
 ·rename_i hw
  try simp only[hw]
  split at h
  ·rename_i s hs
   try simp only[hs]
   exact op_under hc ok hk o.dst (ho s hs) t G H d x st u h
  ·cases h
 ·rename_i hw
  try simp only[hw]
  exact hk _ _ _ _ _ _ u h
 ·cases h
theorem ops_under:∀(l:List IOp),(∀ o ∈ l,IOpU A R o)→SimF A R (runOps call l) (runOps call' l)
 | [],_=>fun t G H d x st u h=>by cases h;exact⟨H,rfl,u⟩
 | o::l,hl=>fun t G H d x st u h=>iop_under hc ok (ops_under l (fun p hp=>hl p (List.mem_cons_of_mem _ hp))) (hl o (List.mem_cons_self ..)) t G H d x st u h
omit hc ok in
def KU (A:V→Prop) (R:RepT):DK→DK→Prop
 | .q,.q=>True
 | .r g,.r g'=>g=g'∧∀ G H v,Under A R G H→g G=some v→g H=some v
 | .m _,.m _=>True
 | .a,.a=>True
 | _,_=>False
omit hc ok in
def DevU (A:V→Prop) (R:RepT) (e e':DEv):Prop:=KU A R e.k e'.k∧e.v=e'.v∧Under A R e.b e'.b∧Under A R e.a e'.a
omit hc ok in
def All2 {α β:Type} (r:α→β→Prop):List α→List β→Prop
 | [],[]=>True
 | a::as,b::bs=>r a b∧All2 r as bs
 | _,_=>False
theorem opD_under {s:OpS} (hs:OpU A R s) {t:T} {G H:Heap} {e:DEv} (u:Under A R G H) (h:runOpD call s t G=some e):∃ e',runOpD call' s t H=some e'∧DevU A R e e':=by
 cases s with
 | p f=>
  have h:(match f t with | some v=>some (DEv.mk .q v G G) | none=>none)=some e:=h
  show ∃ e',(match f t with | some v=>some (DEv.mk .q v H H) | none=>none)=_∧_
  split at h
  ·cases h;exact⟨_,rfl,trivial,rfl,u,u⟩
  ·cases h
 | r f=>
  have h:(match f t G with | some v=>some (DEv.mk (.r (f t)) v G G) | none=>none)=some e:=h
  show ∃ e',(match f t H with | some v=>some (DEv.mk (.r (f t)) v H H) | none=>none)=_∧_
  split at h
  ·rename_i v hv
   cases h
   rw[hs t G H v u hv]
   exact⟨_,rfl,⟨rfl,fun G H v u h=>hs t G H v u h⟩,rfl,u,u⟩
  ·cases h
 | m f=>
  have h:(match f t with | some (o,mk)=>some (DEv.mk (.m o) (mk G.next) G (G.add o)) | none=>none)=some e:=h
  show ∃ e',(match f t with | some (o,mk)=>some (DEv.mk (.m o) (mk H.next) H (H.add o)) | none=>none)=_∧_
  split at h
  ·rename_i o mk hv
   cases h
   exact⟨_,rfl,trivial,by show mk G.next=mk H.next;rw[u.next],u,u.add ok (hs t o mk hv)⟩
  ·cases h
 | a f=>
  have h:(match f t G with | some (v,H')=>some (DEv.mk .a v G H') | none=>none)=some e:=h
  show ∃ e',(match f t H with | some (v,H')=>some (DEv.mk .a v H H') | none=>none)=_∧_
  split at h
  ·rename_i v G1 hv
   cases h
   obtain⟨H1,e1,u1⟩:=hs t G H v G1 u hv
   rw[e1]
   exact⟨_,rfl,trivial,rfl,u,u1⟩
  ·cases h
 | c f=>
  have h:(match f t with
   | some (id,args)=>match call id args G with
    | some (.v v,H')=>some (DEv.mk .a v G H')
    | _=>none
   | none=>none)=some e:=h
  show ∃ e',(match f t with
   | some (id,args)=>match call' id args H with
    | some (.v v,H')=>some (DEv.mk .a v H H')
    | _=>none
   | none=>none)=_∧_
  split at h
  ·rename_i id args hv
   split at h
   ·rename_i v G1 h1
    obtain⟨H1,e1,u1⟩:=hc id args G _ G1 h1 H u
    cases h
    try dsimp only
    rw[e1]
    exact⟨_,rfl,trivial,rfl,u,u1⟩
   ·cases h
  ·cases h
 | d f=>cases h
 | x f=>cases h
 | rcv=>cases h
theorem iopD_under {o:IOp} (ho:IOpU A R o) {t:T} {G H:Heap} {e:DEv} (u:Under A R G H) (h:runIOpD call o t G=some e):∃ e',runIOpD call' o t H=some e'∧DevU A R e e':=by
 unfold runIOpD at h ⊢
 split at h
 ·rename_i hw
  try simp only[hw]
  split at h
  ·rename_i s hs
   try simp only[hs]
   exact opD_under hc ok (ho s hs) u h
  ·cases h
 ·rename_i hw
  try simp only[hw]
  cases h
  exact⟨_,rfl,trivial,rfl,u,u⟩
 ·cases h
theorem opsD_under:∀(l:List IOp),(∀ o ∈ l,IOpU A R o)→∀ t G H t' G' es,Under A R G H→runOpsD call l t G=some (t',G',es)→∃ H' es',runOpsD call' l t H=some (t',H',es')∧Under A R G' H'∧All2 (DevU A R) es es'
 | [],_,t,G,H,t',G',es,u,h=>by cases h;exact⟨H,[],rfl,u,trivial⟩
 | o::l,hl,t,G,H,t',G',es,u,h=>by
  have h:(match runIOpD call o t G with
   | some e=>match runOpsD call l (setT o.dst e.v t) e.a with
    | some (t',H',es)=>some (t',H',e::es)
    | none=>none
   | none=>none)=some (t',G',es):=h
  show ∃ H' es',(match runIOpD call' o t H with
   | some e=>match runOpsD call' l (setT o.dst e.v t) e.a with
    | some (t',H',es)=>some (t',H',e::es)
    | none=>none
   | none=>none)=_∧_
  split at h
  ·rename_i e he
   split at h
   ·rename_i t1 G1 es1 h1
    cases h
    obtain⟨e',he',ku,hv,hb,ha⟩:=iopD_under hc ok (hl o (List.mem_cons_self ..)) u he
    obtain⟨H1,es',e1,u1,hes⟩:=opsD_under l (fun p hp=>hl p (List.mem_cons_of_mem _ hp)) _ _ e'.a _ _ _ ha h1
    rw[he']
    try dsimp only
    rw[← hv,e1]
    exact⟨H1,e'::es',rfl,u1,⟨ku,hv,hb,ha⟩,hes⟩
   ·cases h
  ·cases h
omit hc ok in
def AcU (A:V→Prop) (R:RepT) (c c':Ac):Prop:=c.j=c'.j∧Under A R c.b c'.b∧Under A R c.a c'.a
omit hc ok in
theorem acs_under:∀ {es es':List DEv} (j:Nat),All2 (DevU A R) es es'→All2 (AcU A R) (acsOf es j) (acsOf es' j)
 | [],[],j,_=>trivial
 | e::es,e'::es',j,h=>by
  obtain⟨⟨ku,hv,hb,ha⟩,h2⟩:=h
  have ih:=acs_under (j+1) h2
  unfold acsOf
  cases hk:e.k<;>cases hk':e'.k<;>simp only[hk,hk',KU] at ku<;>first | exact ih | exact⟨⟨rfl,hb,ha⟩,ih⟩
 | [],_::_,_,h=>h.elim
 | _::_,[],_,h=>h.elim
omit hc ok in
theorem all2_map {α β γ:Type} {r:α→β→Prop} {f:α→γ} {g:β→γ} (hr:∀ a b,r a b→f a=g b):∀ {l:List α} {l':List β},All2 r l l'→l.map f=l'.map g
 | [],[],_=>rfl
 | a::l,b::l',h=>by rw[List.map_cons,List.map_cons,hr a b h.1,all2_map hr h.2]
 | [],_::_,h=>h.elim
 | _::_,[],h=>h.elim
omit hc ok in
theorem chain_under {before:List Nat} {acs acs':List Ac} (h:All2 (AcU A R) acs acs'):chainOk before acs=chainOk before acs':=by
 have key:∀ l:List Ac,chainOk before l=(l.map Ac.j).all fun i=>(l.map Ac.j).all fun k=>i.beq k || ordered before i k:=by
  intro l
  unfold chainOk
  rw[List.all_map]
  congr 1
  funext e
  simp only[Function.comp,List.all_map]
  rfl
 rw[key,key,all2_map (f:=Ac.j) (g:=Ac.j) (fun a b h=>h.1) h]
omit hc ok in
theorem owesBy_under {before:List Nat} {g:Heap→Option V} {v:V} {i:Nat} (hg:∀ G H v,Under A R G H→g G=some v→g H=some v):∀ {acs acs':List Ac},All2 (AcU A R) acs acs'→(∀ p ∈ owesBy before g v i acs,p.1=p.2)→∀ p ∈ owesBy before g v i acs',p.1=p.2
 | [],[],_,h=>h
 | c::cs,c'::cs',hh,h=>by
  obtain⟨⟨hj,hb,ha⟩,h2⟩:=hh
  unfold owesBy at h ⊢
  rw[← hj]
  cases ho:ordered before i c.j with
  | true=>
   rw[ho] at h
   exact owesBy_under hg h2 h
  | false=>
   rw[ho] at h
   intro p hp
   have h0:=h _ (List.mem_cons_self ..)
   have h1:=h _ (List.mem_cons_of_mem _ (List.mem_cons_self ..))
   rcases List.mem_cons.1 hp with rfl | hp
   ·exact hg _ _ v hb h0
   ·rcases List.mem_cons.1 hp with rfl | hp
    ·exact hg _ _ v ha h1
    ·exact owesBy_under hg h2 (fun q hq=>h q (List.mem_cons_of_mem _ (List.mem_cons_of_mem _ hq))) p hp
 | [],_::_,h,_=>h.elim
 | _::_,[],h,_=>h.elim
omit hc ok in
theorem owes_under {before:List Nat} {acs acs':List Ac} (hac:All2 (AcU A R) acs acs'):∀ {es es':List DEv} (i:Nat),All2 (DevU A R) es es'→(∀ p ∈ owes before acs es i,p.1=p.2)→∀ p ∈ owes before acs' es' i,p.1=p.2
 | [],[],i,_,h=>h
 | e::es,e'::es',i,hh,h=>by
  obtain⟨⟨ku,hv,hb,ha⟩,h2⟩:=hh
  unfold owes at h ⊢
  cases hk:e.k with
  | q=>cases hk':e'.k<;>simp only[hk,hk',KU] at ku h ⊢;exact owes_under hac (i+1) h2 h
  | m o=>cases hk':e'.k<;>simp only[hk,hk',KU] at ku h ⊢;exact owes_under hac (i+1) h2 h
  | a=>cases hk':e'.k<;>simp only[hk,hk',KU] at ku h ⊢;exact owes_under hac (i+1) h2 h
  | r g=>
   cases hk':e'.k with
   | r g'=>
    simp only[hk,hk',KU] at ku h ⊢
    obtain⟨rfl,hg⟩:=ku
    rw[← hv]
    intro p hp
    rcases List.mem_append.1 hp with hp | hp
    ·exact owesBy_under hg hac (fun q hq=>h q (List.mem_append_left _ hq)) p hp
    ·exact owes_under hac (i+1) h2 (fun q hq=>h q (List.mem_append_right _ hq)) p hp
   | q=>simp only[hk,hk',KU] at ku
   | m o=>simp only[hk,hk',KU] at ku
   | a=>simp only[hk,hk',KU] at ku
 | [],_::_,_,h,_=>h.elim
 | _::_,[],_,h,_=>h.elim
omit hc ok in
def COk (A:V→Prop) (R:RepT):C→Prop
 | .reg ops=>∀ o ∈ ops,IOpU A R o
 | .regD ops _=>∀ o ∈ ops,IOpU A R o
 | .seq a b=>COk A R a∧COk A R b
 | .cond _ a b=>COk A R a∧COk A R b
 | .block _ a=>COk A R a
 | .loop a=>COk A R a
 | .scope a=>COk A R a
 | _=>True
omit hc in
theorem prepC_u (P:Program) (n:Nat):∀ c:Code,COk A R (prepC P n c):=by
 intro c
 have hops:∀(ops:Array Oper) (o:IOp),o ∈ ops.toList.map (prepOper P n ops)→IOpU A R o:=by
  intro ops o ho
  obtain⟨p,_,rfl⟩:=List.mem_map.1 ho
  exact prepOper_u ok P n ops p
 induction c with
 | region id ops draw=>
  cases draw with
  | false=>exact hops ops
  | true=>
   simp only[prepC]
   split
   ·exact hops ops
   ·trivial
 | seq a b iha ihb=>exact⟨iha,ihb⟩
 | cond c a b iha ihb=>
  simp only[prepC]
  split
  ·exact⟨iha,ihb⟩
  ·trivial
 | block id a iha=>exact iha
 | loop a iha=>exact iha
 | scope a iha=>exact iha
 | _=>trivial
omit hc ok in
def SimS (A:V→Prop) (R:RepT) (f f':St→Option (X × St)):Prop:=
 ∀ t G H d x s,Under A R G H→f ⟨t,G,d⟩=some (x,s)→∃ H',f' ⟨t,H,d⟩=some (x,⟨s.t,H',s.d⟩)∧Under A R s.H H'
omit hc ok in
theorem loop_under {f f':St→Option (X × St)} (hf:SimS A R f f'):∀ n,SimS A R (loopF f n) (loopF f' n)
 | 0=>fun t G H d x s u h=>by cases h
 | n+1=>fun t G H d x s u h=>by
  have h:(match f ⟨t,G,d⟩ with | some (.n,s')=>loopF f n s' | r=>r)=some (x,s):=h
  show ∃ H',(match f' ⟨t,H,d⟩ with | some (.n,s')=>loopF f' n s' | r=>r)=_∧_
  split at h
  ·rename_i s1 h1
   obtain⟨H1,e1,u1⟩:=hf _ _ _ _ _ _ u h1
   rw[e1]
   exact loop_under hf n s1.t s1.H H1 s1.d x s u1 h
  ·rename_i hno
   obtain⟨H1,e1,u1⟩:=hf _ _ _ _ _ _ u h
   rw[e1]
   cases x with
   | n=>exact absurd h (hno s)
   | ex id=>exact⟨H1,rfl,u1⟩
   | ret=>exact⟨H1,rfl,u1⟩
   | pan v=>exact⟨H1,rfl,u1⟩
theorem runC_under (lf:Nat):∀ c:C,COk A R c→SimS A R (runC call lf c) (runC call' lf c):=by
 intro c
 induction c with
 | skip=>intro _ t G H d x s u h;cases h;exact⟨H,rfl,u⟩
 | reg ops=>exact fun hk t G H d x s u h=>ops_under hc ok ops hk t G H d x s u h
 | regD ops before=>
  intro hk t G H d x s u h
  have h:(match runOpsD call ops t G with
   | some (t,H,es)=>match chainOk before (acsOf es 0) with
    | true=>some (X.n,St.mk t (H.owe (owes before (acsOf es 0) es 0)) d)
    | false=>none
   | none=>none)=some (x,s):=h
  show ∃ H',(match runOpsD call' ops t H with
   | some (t,H,es)=>match chainOk before (acsOf es 0) with
    | true=>some (X.n,St.mk t (H.owe (owes before (acsOf es 0) es 0)) d)
    | false=>none
   | none=>none)=_∧_
  split at h
  ·rename_i t1 G1 es h1
   obtain⟨H1,es',e1,u1,hes⟩:=opsD_under hc ok ops hk _ _ _ _ _ _ u h1
   have hac:=acs_under 0 hes
   rw[e1]
   try dsimp only
   rw[← chain_under hac]
   split at h
   ·rename_i hch
    cases h
    try simp only[hch]
    exact⟨_,rfl,u1.owe ok (owes_under hac 0 hes)⟩
   ·cases h
  ·cases h
 | seq a b iha ihb=>
  intro hk t G H d x s u h
  have h:(match runC call lf a ⟨t,G,d⟩ with | some (.n,s')=>runC call lf b s' | r=>r)=some (x,s):=h
  show ∃ H',(match runC call' lf a ⟨t,H,d⟩ with | some (.n,s')=>runC call' lf b s' | r=>r)=_∧_
  split at h
  ·rename_i s1 h1
   obtain⟨H1,e1,u1⟩:=iha hk.1 _ _ _ _ _ _ u h1
   rw[e1]
   exact ihb hk.2 s1.t s1.H H1 s1.d x s u1 h
  ·rename_i hno
   obtain⟨H1,e1,u1⟩:=iha hk.1 _ _ _ _ _ _ u h
   rw[e1]
   cases x with
   | n=>exact absurd h (hno s)
   | ex id=>exact⟨H1,rfl,u1⟩
   | ret=>exact⟨H1,rfl,u1⟩
   | pan v=>exact⟨H1,rfl,u1⟩
 | cond c a b iha ihb=>
  intro hk t G H d x s u h
  have h:(match c.get t with | some (.bool true)=>runC call lf a ⟨t,G,d⟩ | some (.bool false)=>runC call lf b ⟨t,G,d⟩ | _=>none)=some (x,s):=h
  show ∃ H',(match c.get t with | some (.bool true)=>runC call' lf a ⟨t,H,d⟩ | some (.bool false)=>runC call' lf b ⟨t,H,d⟩ | _=>none)=_∧_
  split at h
  ·exact iha hk.1 _ _ _ _ _ _ u h
  ·exact ihb hk.2 _ _ _ _ _ _ u h
  ·cases h
 | block id a iha=>
  intro hk t G H d x s u h
  have h:(match runC call lf a ⟨t,G,d⟩ with | some (.ex id',s')=>(match id'.beq id with | true=>some (X.n,s') | false=>some (X.ex id',s')) | r=>r)=some (x,s):=h
  show ∃ H',(match runC call' lf a ⟨t,H,d⟩ with | some (.ex id',s')=>(match id'.beq id with | true=>some (X.n,s') | false=>some (X.ex id',s')) | r=>r)=_∧_
  split at h
  ·rename_i id' s1 h1
   obtain⟨H1,e1,u1⟩:=iha hk _ _ _ _ _ _ u h1
   rw[e1]
   try dsimp only
   split at h
   ·rename_i hid;cases h;(try simp only[hid]);exact⟨H1,rfl,u1⟩
   ·rename_i hid;cases h;(try simp only[hid]);exact⟨H1,rfl,u1⟩
  ·rename_i hno
   obtain⟨H1,e1,u1⟩:=iha hk _ _ _ _ _ _ u h
   rw[e1]
   cases x with
   | ex id'=>exact absurd h (hno id' s)
   | n=>exact⟨H1,rfl,u1⟩
   | ret=>exact⟨H1,rfl,u1⟩
   | pan v=>exact⟨H1,rfl,u1⟩
 | loop a iha=>exact fun hk t G H d x s u h=>loop_under (iha hk) lf t G H d x s u h
 | exit id=>intro _ t G H d x s u h;cases h;exact⟨H,rfl,u⟩
 | scope a iha=>exact fun hk t G H d x s u h=>iha hk t G H d x s u h
 | ret=>intro _ t G H d x s u h;cases h;exact⟨H,rfl,u⟩
 | bad=>intro _ t G H d x s u h;cases h
omit hc ok in
def SimR (A:V→Prop) (R:RepT) (f f':U→St→Option (X × St × U)):Prop:=
 ∀ v t G H d x s v',Under A R G H→f v ⟨t,G,d⟩=some (x,s,v')→∃ H',f' v ⟨t,H,d⟩=some (x,⟨s.t,H',s.d⟩,v')∧Under A R s.H H'
theorem opsR_under:∀(l:List IOp),(∀ o ∈ l,IOpU A R o)→SimR A R (runOpsR call l) (runOpsR call' l)
 | [],_=>fun v t G H d x s v' u h=>by cases h;exact⟨H,rfl,u⟩
 | o::l,hl=>fun v t G H d x s v' u h=>by
  have hl':=fun p hp=>hl p (List.mem_cons_of_mem _ hp)
  unfold runOpsR at h ⊢
  split at h
  ·rename_i hk
   try simp only[hk]
   split at h
   ·rename_i hw
    try simp only[hw]
    exact opsR_under l hl' _ _ _ _ _ _ _ _ u h
   ·rename_i hw
    try simp only[hw]
    exact opsR_under l hl' _ _ _ _ _ _ _ _ u h
   ·cases h
  ·rename_i hk
   try simp only[hk]
   split at h
   ·rename_i s1 h1
    obtain⟨H1,e1,u1⟩:=iop_under hc ok (k:=fun t H d=>some (.n,⟨t,H,d⟩)) (k':=fun t H d=>some (.n,⟨t,H,d⟩)) (fun t G H d x s u h=>by cases h;exact⟨H,rfl,u⟩) (hl o (List.mem_cons_self ..)) _ _ _ _ _ _ u h1
    rw[e1]
    exact opsR_under l hl' v s1.t s1.H H1 s1.d x s v' u1 h
   ·cases h
theorem runCR_under (lf:Nat):∀ c:C,COk A R c→SimR A R (runCR call lf c) (runCR call' lf c):=by
 have base:∀ c:C,COk A R c→∀(v:U) (t:T) (G H:Heap) (d:List (FuncId × List V)) (x:X) (s:St) (v':U),Under A R G H→(match runC call lf c ⟨t,G,d⟩ with | some (x,s')=>some (x,s',v) | none=>none)=some (x,s,v')→∃ H',(match runC call' lf c ⟨t,H,d⟩ with | some (x,s')=>some (x,s',v) | none=>none)=some (x,St.mk s.t H' s.d,v')∧Under A R s.H H':=by
  intro c hk v t G H d x s v' u h
  split at h
  ·rename_i x1 s1 h1
   cases h
   obtain⟨H1,e1,u1⟩:=runC_under hc ok lf c hk _ _ _ _ _ _ u h1
   rw[e1]
   exact⟨H1,rfl,u1⟩
  ·cases h
 intro c
 induction c with
 | reg ops=>exact fun hk=>opsR_under hc ok ops hk
 | seq a b iha ihb=>
  intro hk v t G H d x s v' u h
  have h:(match runCR call lf a v ⟨t,G,d⟩ with | some (.n,s',u')=>runCR call lf b u' s' | r=>r)=some (x,s,v'):=h
  show ∃ H',(match runCR call' lf a v ⟨t,H,d⟩ with | some (.n,s',u')=>runCR call' lf b u' s' | r=>r)=_∧_
  split at h
  ·rename_i s1 v1 h1
   obtain⟨H1,e1,u1⟩:=iha hk.1 _ _ _ _ _ _ _ _ u h1
   rw[e1]
   exact ihb hk.2 v1 s1.t s1.H H1 s1.d x s v' u1 h
  ·rename_i hno
   obtain⟨H1,e1,u1⟩:=iha hk.1 _ _ _ _ _ _ _ _ u h
   rw[e1]
   cases x with
   | n=>exact absurd h (hno s v')
   | ex id=>exact⟨H1,rfl,u1⟩
   | ret=>exact⟨H1,rfl,u1⟩
   | pan v=>exact⟨H1,rfl,u1⟩
 | cond c a b iha ihb=>
  intro hk v t G H d x s v' u h
  have h:(match c.get t with | some (.bool true)=>runCR call lf a v ⟨t,G,d⟩ | some (.bool false)=>runCR call lf b v ⟨t,G,d⟩ | _=>none)=some (x,s,v'):=h
  show ∃ H',(match c.get t with | some (.bool true)=>runCR call' lf a v ⟨t,H,d⟩ | some (.bool false)=>runCR call' lf b v ⟨t,H,d⟩ | _=>none)=_∧_
  split at h
  ·exact iha hk.1 _ _ _ _ _ _ _ _ u h
  ·exact ihb hk.2 _ _ _ _ _ _ _ _ u h
  ·cases h
 | skip=>exact fun hk=>base .skip hk
 | regD ops b=>exact fun hk=>base (.regD ops b) hk
 | block id a _=>exact fun hk=>base (.block id a) hk
 | loop a _=>exact fun hk=>base (.loop a) hk
 | exit id=>exact fun hk=>base (.exit id) hk
 | scope a _=>exact fun hk=>base (.scope a) hk
 | ret=>exact fun hk=>base .ret hk
 | bad=>exact fun hk=>base .bad hk
omit hc in
theorem fnOf_u {P:Program} {f:FuncId} {fn:CFn} (h:fnOf P f=some fn):COk A R fn.body:=by
 unfold fnOf at h
 split at h
 ·split at h
  ·cases h
  ·unfold prepFn at h
   split at h
   ·cases h;exact prepC_u ok P _ _
   ·cases h
 ·cases h
omit hc ok in
theorem result_under {G H:Heap} (u:Under A R G H) {t:T} {r:Am.R} {v:V} (h:result t G r=some v):result t H r=some v:=by
 unfold result at h ⊢
 split at h
 ·exact h
 ·split at h
  ·rename_i q hq
   cases he:loadAt G q _ with
   | none=>rw[he] at h;cases h
   | some l=>rw[he] at h;simp only[loadAt_under u he];exact h
  ·cases h
omit hc ok in
theorem results_under {G H:Heap} (u:Under A R G H) {t:T}:∀ {l:List Am.R} {vs:List V},resultsV t G l=some vs→resultsV t H l=some vs
 | [],vs,h=>h
 | r::l,vs,h=>by
  unfold resultsV at h ⊢
  split at h
  ·rename_i v hv
   rw[result_under u hv]
   try dsimp only
   cases he:resultsV t G l with
   | none=>rw[he] at h;cases h
   | some z=>rw[he] at h;rw[results_under u he];exact h
  ·cases h
theorem runDef_under {P:Program} {lf:Nat} {id:FuncId} {args:List V} {v v':U} {G H G':Heap} (u:Under A R G H) (h:runDef P call lf id args v G=some (v',G')):∃ H',runDef P call' lf id args v H=some (v',H')∧Under A R G' H':=by
 unfold runDef at h ⊢
 split at h
 ·rename_i fn hfn
  try simp only[hfn]
  split at h
  ·rename_i x s v1 h1
   obtain⟨H1,e1,u1⟩:=runCR_under hc ok lf fn.body (fnOf_u ok hfn) _ _ _ _ _ _ _ _ u h1
   rw[e1]
   try dsimp only
   split at h
   ·rename_i vs hd hx hr
    cases h
    try simp only[hd,hx,results_under u1 hr]
    exact⟨H1,rfl,u1⟩
   ·cases h
  ·cases h
 ·cases h
theorem leave_under {P:Program} {lf:Nat}:∀(ds:List (FuncId × List V)) {v v':U} {G H G':Heap},Under A R G H→leave P call lf ds v G=some (v',G')→∃ H',leave P call' lf ds v H=some (v',H')∧Under A R G' H'
 | [],v,v',G,H,G',u,h=>by cases h;exact⟨H,rfl,u⟩
 | (id,args)::ds,v,v',G,H,G',u,h=>by
  unfold leave at h ⊢
  split at h
  ·rename_i v1 G1 h1
   obtain⟨H1,e1,u1⟩:=runDef_under hc ok u h1
   rw[e1]
   exact leave_under ds u1 h
  ·cases h
omit hc ok in
theorem endF_under {res:List Am.R} {t:T} {o o':Option (U × Heap)} {r:Rs} {G':Heap} (ho:∀ v G,o=some (v,G)→∃ H,o'=some (v,H)∧Under A R G H) (h:endF res t o=some (r,G')):∃ H',endF res t o'=some (r,H')∧Under A R G' H':=by
 unfold endF at h
 split at h
 ·rename_i G1
  obtain⟨H1,rfl,u1⟩:=ho _ _ rfl
  split at h
  ·rename_i vs hr
   cases h
   exact⟨H1,by unfold endF;simp only[results_under u1 hr],u1⟩
  ·cases h
 ·rename_i v G1
  obtain⟨H1,rfl,u1⟩:=ho _ _ rfl
  cases h
  exact⟨H1,rfl,u1⟩
 ·cases h
theorem runF_under {P:Program} {lf:Nat} {f:FuncId} {fn:CFn} (hfn:fnOf P f=some fn) {args:List V} {G H G':Heap} {r:Rs} (u:Under A R G H) (h:runF P call lf fn args G=some (r,G')):∃ H',runF P call' lf fn args H=some (r,H')∧Under A R G' H':=by
 unfold runF at h ⊢
 split at h
 ·rename_i x s h1
  obtain⟨H1,e1,u1⟩:=runC_under hc ok lf fn.body (fnOf_u ok hfn) _ _ _ _ _ _ u h1
  rw[e1]
  try dsimp only
  split at h
  ·exact endF_under (fun v G1 e=>leave_under hc ok _ u1 e) h
  ·exact endF_under (fun v G1 e=>leave_under hc ok _ u1 e) h
  ·exact endF_under (fun v G1 e=>leave_under hc ok _ u1 e) h
  ·cases h
 ·cases h
end
noncomputable def callU (P:Program) (S:CallT) (dom:FuncId→Bool) (lf:Nat) (d:Nat):CallT:=
 Nat.rec (motive:=fun _=>CallT) (fun _ _ _=>none) (fun _ ih f args H=>match S f args H with
  | some r=>some r
  | none=>match dom f with
   | true=>none
   | false=>match fnOf P f with
    | some fn=>runF P ih lf fn args H
    | none=>none) d
theorem callU_none (P:Program) (S:CallT) (lf:Nat):∀ d,callU P S (fun _=>false) lf d=callS P S lf d
 | 0=>rfl
 | d+1=>by
  funext f args H
  show (match S f args H with | some r=>some r | none=>match fnOf P f with | some fn=>runF P (callU P S (fun _=>false) lf d) lf fn args H | none=>none)=_
  rw[callU_none P S lf d]
  rfl
theorem callU_under {A:V→Prop} {R:RepT} (ok:RepOk A R) {P:Program} {S S':CallT} {dom dom':FuncId→Bool} (hd:∀ f,dom f=false→dom' f=false∧∀ args H,S' f args H=none) (hS:CallU A R S S') (lf:Nat):∀ d,CallU A R (callU P S dom lf d) (callU P S' dom' lf d)
 | 0=>fun f args G r G' h=>by cases h
 | d+1=>fun f args G r G' h H u=>by
  have h:(match S f args G with
   | some r=>some r
   | none=>match dom f with
    | true=>none
    | false=>match fnOf P f with
     | some fn=>runF P (callU P S dom lf d) lf fn args G
     | none=>none)=some (r,G'):=h
  show ∃ H',(match S' f args H with
   | some r=>some r
   | none=>match dom' f with
    | true=>none
    | false=>match fnOf P f with
     | some fn=>runF P (callU P S' dom' lf d) lf fn args H
     | none=>none)=some (r,H')∧_
  split at h
  ·rename_i r' hr
   cases h
   obtain⟨H',e,u'⟩:=hS f args G _ _ hr H u
   rw[e]
   exact⟨H',rfl,u'⟩
  ·split at h
   ·cases h
   ·rename_i hdom
    obtain⟨h1,h2⟩:=hd f hdom
    rw[h2 args H,h1]
    try dsimp only
    split at h
    ·rename_i fn hfn
     exact runF_under (callU_under ok hd hS lf d) ok hfn u h
    ·cases h
end Go.Am
