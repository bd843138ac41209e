import Derived.Test.YtllkepkaimnodaaGreatDoorAmSum
set_option linter.unusedVariables false
set_option linter.unusedSimpArgs false
namespace Go.Am
def constF (v:V) (_:T):Option V:=some v
noncomputable def unF (op:UnOp) (x:S) (t:T):Option V:=(x.get t).bind (unary op)
noncomputable def mkifF (ty:TypeId) (x:S) (t:T):Option V:=(x.get t).map (.iface ty ·)
noncomputable def appF (sz by':Nat) (s x:S) (t:T) (H:Heap):Option (V × Heap):=match s.get t,x.get t with
 | some s,some x=>appendV sz by' H s x
 | _,_=>none
noncomputable def cpyF (sz:Nat) (d s:S) (t:T) (H:Heap):Option (V × Heap):=match d.get t,s.get t with
 | some d,some s=>copyV sz H d s
 | _,_=>none
noncomputable def delF (m k:S) (t:T) (H:Heap):Option (V × Heap):=match m.get t,k.get t with
 | some m,some k=>mapDel H m k
 | _,_=>none
noncomputable def updF (m k v:S) (t:T) (H:Heap):Option (V × Heap):=match m.get t,k.get t,v.get t with
 | some m,some k,some v=>mapUpd H m k v
 | _,_,_=>none
theorem Bt (p:List Bool) (t:T):(S.t p).get t=t.getP p:=rfl
theorem Bu (v:V) (t:T):(S.c v).get t=some v:=rfl
theorem Bv {α:Type} (i j:Nat) (v:α) (t:Tr α):(t.setP (Tr.path j) v).getP (Tr.path i)=if i=j then some v else t.getP (Tr.path i):=by
 rw[Tr.get_set];simp only[Tr.path_eq]
theorem callS_succ (P:Program) (S:CallT) (lf d:Nat) (f:FuncId) (args:List V) (H:Heap):callS P S lf (d+1) f args H=(match S f args H with
  | some r=>some r
  | none=>match fnOf P f with
   | some fn=>runF P (callS P S lf d) lf fn args H
   | none=>none):=rfl
theorem callS_run {P:Program} {S:CallT} {lf d:Nat} {f:FuncId} {args:List V} {H:Heap} {c:CFn} (hS:S f args H=none) (hf:fnOf P f=some c):callS P S lf (d+1) f args H=runF P (callS P S lf d) lf c args H:=by
 rw[callS_succ,hS,hf]
def wp (o:Option (X × St)) (Q:X→St→Prop):Prop:=∃ x s,o=some (x,s)∧Q x s
def ret (o:Option (Rs × Heap)) (Q:V→Heap→Prop):Prop:=∃ v H,o=some (.v v,H)∧Q v H
noncomputable section
def seqC (call:CallT) (lf:Nat) (b:C) (r:Option (X × St)):Option (X × St):=match r with
 | some (.n,s')=>runC call lf b s'
 | r=>r
def condC (call:CallT) (lf:Nat) (v:Option V) (a b:C) (s:St):Option (X × St):=match v with
 | some (.bool true)=>runC call lf a s
 | some (.bool false)=>runC call lf b s
 | _=>none
def blockC (id:Nat) (r:Option (X × St)):Option (X × St):=match r with
 | some (.ex id',s')=>match id'.beq id with
  | true=>some (.n,s')
  | false=>some (.ex id',s')
 | r=>r
def guardI (call:CallT) (b:Option Bool) (dst:Option (List Bool)) (x:OpS) (l:List IOp) (t:T) (H:Heap) (d:List (FuncId × List V)):Option (X × St):=match b with
 | some true=>runOp call (runOps call l) dst x t H d
 | some false=>runOps call l (setT dst undef t) H d
 | none=>none
def stepO (call:CallT) (dst:Option (List Bool)) (x:OpS) (l:List IOp) (t:T) (H:Heap) (d:List (FuncId × List V)):Option (X × St):=runOp call (runOps call l) dst x t H d
def afterV (call:CallT) (dst:Option (List Bool)) (l:List IOp) (t:T) (H:Heap) (d:List (FuncId × List V)) (v:Option V):Option (X × St):=match v with
 | some v=>runOps call l (setT dst v t) H d
 | none=>none
def afterM (call:CallT) (dst:Option (List Bool)) (l:List IOp) (t:T) (H:Heap) (d:List (FuncId × List V)) (v:Option (Obj × (Nat→V))):Option (X × St):=match v with
 | some (o,mk)=>runOps call l (setT dst (mk H.next) t) (H.add o) d
 | none=>none
def afterA (call:CallT) (dst:Option (List Bool)) (l:List IOp) (t:T) (d:List (FuncId × List V)) (v:Option (V × Heap)):Option (X × St):=match v with
 | some (v,H')=>runOps call l (setT dst v t) H' d
 | none=>none
def afterC (call:CallT) (dst:Option (List Bool)) (l:List IOp) (t:T) (d:List (FuncId × List V)) (r:Option (Rs × Heap)):Option (X × St):=match r with
 | some (.v v,H')=>runOps call l (setT dst v t) H' d
 | some (.p v,H')=>some (.pan v,⟨t,H',d⟩)
 | none=>none
def callC (call:CallT) (dst:Option (List Bool)) (l:List IOp) (t:T) (H:Heap) (d:List (FuncId × List V)) (r:Option (FuncId × List V)):Option (X × St):=match r with
 | some (id,args)=>afterC call dst l t d (call id args H)
 | none=>none
def contD (call:CallT) (dst:Option (List Bool)) (l:List IOp) (t:T) (r:Option DEv):Option (T × Heap × List DEv):=match r with
 | some e=>match runOpsD call l (setT dst e.v t) e.a with
  | some (t',H',es)=>some (t',H',e::es)
  | none=>none
 | none=>none
def consD (e:DEv) (r:Option (T × Heap × List DEv)):Option (T × Heap × List DEv):=match r with
 | some (t,H,es)=>some (t,H,e::es)
 | none=>none
def guardD (call:CallT) (b:Option Bool) (x:OpS) (t:T) (H:Heap) (see:List (List Bool)):Option DEv:=match b with
 | some true=>runOpD call x (narrow t see) H
 | some false=>some ⟨.q,undef,H,H⟩
 | none=>none
def evQ (H:Heap) (v:Option V):Option DEv:=match v with
 | some v=>some ⟨.q,v,H,H⟩
 | none=>none
def evR (g:Heap→Option V) (H:Heap) (v:Option V):Option DEv:=match v with
 | some v=>some ⟨.r g,v,H,H⟩
 | none=>none
def evM (H:Heap) (v:Option (Obj × (Nat→V))):Option DEv:=match v with
 | some (o,mk)=>some ⟨.m o,mk H.next,H,H.add o⟩
 | none=>none
def evA (H:Heap) (v:Option (V × Heap)):Option DEv:=match v with
 | some (v,H')=>some ⟨.a,v,H,H'⟩
 | none=>none
def evC (H:Heap) (r:Option (Rs × Heap)):Option DEv:=match r with
 | some (.v v,H')=>some ⟨.a,v,H,H'⟩
 | _=>none
def callD (call:CallT) (H:Heap) (r:Option (FuncId × List V)):Option DEv:=match r with
 | some (id,args)=>evC H (call id args H)
 | none=>none
def endD (before:List Nat) (d:List (FuncId × List V)) (r:Option (T × Heap × List DEv)):Option (X × St):=match r with
 | some (t,H,es)=>match chainOk before (acsOf es 0) with
  | true=>some (.n,⟨t,H.owe (owes before (acsOf es 0) es 0),d⟩)
  | false=>none
 | none=>none
def narrowC (t:T) (p:List Bool) (ps:List (List Bool)) (v:Option V):T:=match v with
 | some v=>(narrow t ps).setP p v
 | none=>narrow t ps
def wantV (w:Bool) (v:Option V):Option Bool:=match v with
 | some (.bool b)=>some (eqB b w)
 | some (.tuple [])=>some false
 | _=>none
end
section
variable {call:CallT} {lf:Nat} {s:St} {t:T} {H:Heap} {d:List (FuncId × List V)}
theorem Aa:runC call lf .skip s=some (.n,s):=rfl
theorem Ab (ops:List IOp):runC call lf (.reg ops) s=runOps call ops s.t s.H s.d:=rfl
theorem Ad (a b:C):runC call lf (.seq a b) s=seqC call lf b (runC call lf a s):=rfl
theorem Ae (c:S) (a b:C):runC call lf (.cond c a b) s=condC call lf (c.get s.t) a b s:=rfl
theorem Af (id:Nat) (a:C):runC call lf (.block id a) s=blockC id (runC call lf a s):=rfl
theorem De (a:C):runC call lf (.loop a) s=loopF (runC call lf a) lf s:=rfl
theorem Ag (id:Nat):runC call lf (.exit id) s=some (.ex id,s):=rfl
theorem Ah (a:C):runC call lf (.scope a) s=runC call lf a s:=rfl
theorem Ai:runC call lf .ret s=some (.ret,s):=rfl
theorem Aj (ops:List IOp) (before:List Nat):runC call lf (.regD ops before) s=endD before s.d (runOpsD call ops s.t s.H):=rfl
theorem loopF_succ (f:St→Option (X × St)) (n:Nat):loopF f (n+1) s=(match f s with
   | some (.n,s')=>loopF f n s'
   | r=>r):=rfl
theorem Ak:runOps call [] t H d=some (.n,⟨t,H,d⟩):=rfl
theorem Al (dst:Option (List Bool)) (x:OpS) (see:List (List Bool)) (l:List IOp):runOps call (⟨dst,some x,none,see⟩::l) t H d=stepO call dst x l t H d:=rfl
theorem Ao (dst:Option (List Bool)) (x:OpS) (g:List Bool) (w:Bool) (see:List (List Bool)) (l:List IOp):runOps call (⟨dst,some x,some (some g,w),see⟩::l) t H d=guardI call (wantV w (t.getP g)) dst x l t H d:=rfl
theorem Ap (dst:Option (List Bool)) (x:OpS) (l:List IOp):guardI call (some true) dst x l t H d=stepO call dst x l t H d:=rfl
theorem Aq (dst:Option (List Bool)) (x:OpS) (l:List IOp):guardI call (some false) dst x l t H d=runOps call l (setT dst undef t) H d:=rfl
theorem Ar (b w:Bool):wantV w (some (.bool b))=some (b==w):=by simp only[wantV,Cz]
theorem Au (w:Bool):wantV w (some (.tuple []))=some false:=rfl
theorem sO_p (dst:Option (List Bool)) (f:T→Option V) (l:List IOp):stepO call dst (.p f) l t H d=afterV call dst l t H d (f t):=rfl
theorem sO_r (dst:Option (List Bool)) (f:T→Heap→Option V) (l:List IOp):stepO call dst (.r f) l t H d=afterV call dst l t H d (f t H):=rfl
theorem sO_m (dst:Option (List Bool)) (f:T→Option (Obj × (Nat→V))) (l:List IOp):stepO call dst (.m f) l t H d=afterM call dst l t H d (f t):=rfl
theorem sO_a (dst:Option (List Bool)) (f:T→Heap→Option (V × Heap)) (l:List IOp):stepO call dst (.a f) l t H d=afterA call dst l t d (f t H):=rfl
theorem sO_c (dst:Option (List Bool)) (f:T→Option (FuncId × List V)) (l:List IOp):stepO call dst (.c f) l t H d=callC call dst l t H d (f t):=by
 show (match f t with
  | some (id,args)=>match call id args H with
   | some (.v v,H')=>runOps call l (setT dst v t) H' d
   | some (.p v,H')=>some (X.pan v,⟨t,H',d⟩)
   | none=>none
  | none=>none)=_
 unfold callC
 cases f t with
 | none=>rfl
 | some p=>rfl
theorem Av:runOpsD call [] t H=some (t,H,[]):=rfl
theorem Aw (dst:Option (List Bool)) (x:OpS) (see:List (List Bool)) (l:List IOp):runOpsD call (⟨dst,some x,none,see⟩::l) t H=contD call dst l t (runOpD call x (narrow t see) H):=rfl
theorem Ax (dst:Option (List Bool)) (x:OpS) (g:List Bool) (w:Bool) (see:List (List Bool)) (l:List IOp):runOpsD call (⟨dst,some x,some (some g,w),see⟩::l) t H=contD call dst l t (guardD call (wantV w (t.getP g)) x t H see):=rfl
theorem Ay (x:OpS) (see:List (List Bool)):guardD call (some true) x t H see=runOpD call x (narrow t see) H:=rfl
theorem Az (x:OpS) (see:List (List Bool)):guardD call (some false) x t H see=some ⟨.q,undef,H,H⟩:=rfl
theorem sE_p (f:T→Option V):runOpD call (.p f) t H=evQ H (f t):=rfl
theorem sE_r (f:T→Heap→Option V):runOpD call (.r f) t H=evR (f t) H (f t H):=rfl
theorem sE_m (f:T→Option (Obj × (Nat→V))):runOpD call (.m f) t H=evM H (f t):=rfl
theorem sE_a (f:T→Heap→Option (V × Heap)):runOpD call (.a f) t H=evA H (f t H):=rfl
theorem sE_c (f:T→Option (FuncId × List V)):runOpD call (.c f) t H=callD call H (f t):=rfl
theorem A0 (v:V):evQ H (some v)=some ⟨.q,v,H,H⟩:=rfl
theorem A2 (g:Heap→Option V) (v:V):evR g H (some v)=some ⟨.r g,v,H,H⟩:=rfl
theorem A3 (o:Obj) (mk:Nat→V):evM H (some (o,mk))=some ⟨.m o,mk H.next,H,H.add o⟩:=rfl
theorem A4 (v:V) (H':Heap):evA H (some (v,H'))=some ⟨.a,v,H,H'⟩:=rfl
theorem A5 (v:V) (H':Heap):evC H (some (.v v,H'))=some ⟨.a,v,H,H'⟩:=rfl
theorem A6 (id:FuncId) (args:List V):callD call H (some (id,args))=evC H (call id args H):=rfl
theorem A7 (dst:Option (List Bool)) (l:List IOp) (e:DEv):contD call dst l t (some e)=consD e (runOpsD call l (setT dst e.v t) e.a):=rfl
theorem A8 (e:DEv) (es:List DEv):consD e (some (t,H,es))=some (t,H,e::es):=rfl
theorem endD_some (before:List Nat) (es:List DEv):endD before d (some (t,H,es))=(match chainOk before (acsOf es 0) with
  | true=>some (.n,⟨t,H.owe (owes before (acsOf es 0) es 0),d⟩)
  | false=>none):=rfl
theorem endD_ok {before:List Nat} {es:List DEv} (h1:chainOk before (acsOf es 0)=true) (h2:owes before (acsOf es 0) es 0=[]):endD before d (some (t,H,es))=some (.n,⟨t,H,d⟩):=by
 rw[endD_some,h1,h2];rfl
theorem endD_q {before:List Nat} {es:List DEv} {q:List (Option V × Option V)} (h1:chainOk before (acsOf es 0)=true) (h2:owes before (acsOf es 0) es 0=q):endD before d (some (t,H,es))=some (.n,⟨t,H.owe q,d⟩):=by
 rw[endD_some,h1,h2]
theorem A9 (p:List Bool) (v:V):setT (some p) v t=t.setP p v:=rfl
theorem Ba (v:V):setT none v t=t:=rfl
theorem Bb:narrow t []=.e:=rfl
theorem Bc (p:List Bool) (ps:List (List Bool)):narrow t (p::ps)=narrowC t p ps (t.getP p):=rfl
theorem Bd (p:List Bool) (ps:List (List Bool)) (v:V):narrowC t p ps (some v)=(narrow t ps).setP p v:=rfl
theorem Be (b:C):seqC call lf b (some (.n,s))=runC call lf b s:=rfl
theorem Bf (b:C):seqC call lf b (some (.ret,s))=some (.ret,s):=rfl
theorem Bg (b:C) (id:Nat):seqC call lf b (some (.ex id,s))=some (.ex id,s):=rfl
theorem Bh (id:Nat):blockC id (some (.n,s))=some (.n,s):=rfl
theorem Bi (id:Nat):blockC id (some (.ret,s))=some (.ret,s):=rfl
theorem Bj (id id':Nat):blockC id (some (.ex id',s))=if id'=id then some (.n,s) else some (.ex id',s):=by
 unfold blockC
 by_cases h:id'=id
 ·rw[if_pos h];simp[beq_iff.2 h]
 ·rw[if_neg h];simp[beq_false.2 h]
theorem Bl (a b:C):condC call lf (some (.bool true)) a b s=runC call lf a s:=rfl
theorem Bm (a b:C):condC call lf (some (.bool false)) a b s=runC call lf b s:=rfl
theorem Bo (dst:Option (List Bool)) (l:List IOp) (v:V):afterV call dst l t H d (some v)=runOps call l (setT dst v t) H d:=rfl
theorem Bp (dst:Option (List Bool)) (l:List IOp) (o:Obj) (mk:Nat→V):afterM call dst l t H d (some (o,mk))=runOps call l (setT dst (mk H.next) t) (H.add o) d:=rfl
theorem Bq (dst:Option (List Bool)) (l:List IOp) (v:V):afterA call dst l t d (some (v,H))=runOps call l (setT dst v t) H d:=rfl
theorem Br (dst:Option (List Bool)) (l:List IOp) (v:V):afterC call dst l t d (some (.v v,H))=runOps call l (setT dst v t) H d:=rfl
theorem Bs (dst:Option (List Bool)) (l:List IOp) (id:FuncId) (args:List V):callC call dst l t H d (some (id,args))=afterC call dst l t d (call id args H):=rfl
theorem C8 {x:X} {Q:X→St→Prop}:wp (some (x,s)) Q↔Q x s:=⟨fun⟨_,_,h,q⟩=>by cases h;exact q,fun q=>⟨_,_,rfl,q⟩⟩
theorem wp_seq {r:Option (X × St)} {b:C} {Q:X→St→Prop} {R:X→St→Prop} (h:wp r R) (hk:∀ x s,R x s→wp (seqC call lf b (some (x,s))) Q):wp (seqC call lf b r) Q:=by
 obtain⟨x,s,rfl,hr⟩:=h
 exact hk x s hr
theorem wp_block {id:Nat} {r:Option (X × St)} {Q:X→St→Prop} {R:X→St→Prop} (h:wp r R) (hk:∀ x s,R x s→wp (blockC id (some (x,s))) Q):wp (blockC id r) Q:=by
 obtain⟨x,s,rfl,hr⟩:=h
 exact hk x s hr
theorem wp_ctx {F:Option (X × St)→Option (X × St)} {r:Option (X × St)} {R Q:X→St→Prop} (h:wp r R) (hk:∀ x s,R x s→wp (F (some (x,s))) Q):wp (F r) Q:=by
 obtain⟨x,s,rfl,hr⟩:=h
 exact hk x s hr
theorem wp.mono {r:Option (X × St)} {R Q:X→St→Prop} (h:wp r R) (hk:∀ x s,R x s→Q x s):wp r Q:=by
 obtain⟨x,s,rfl,hr⟩:=h
 exact⟨x,s,rfl,hk x s hr⟩
theorem ret.mono {r:Option (Rs × Heap)} {R Q:V→Heap→Prop} (h:ret r R) (hk:∀ v H,R v H→Q v H):ret r Q:=by
 obtain⟨x,s,rfl,hr⟩:=h
 exact⟨x,s,rfl,hk x s hr⟩
theorem wp_loopF {f:St→Option (X × St)} {Q:X→St→Prop} (I:Nat→St→Prop) (step:∀ m s,I m s→wp (f s) fun x s'=>match x with
  | .n=>∃ m',m' < m∧I m' s'
  | x=>Q x s'):∀(n m:Nat) (s:St),I m s→m < n→wp (loopF f n s) Q
 | 0,m,s,_,h=>absurd h (by omega)
 | n+1,m,s,hi,h=>by
  obtain⟨x,s',e,q⟩:=step m s hi
  rw[loopF_succ,e]
  cases x with
  | n=>
   obtain⟨m',hlt,hi'⟩:=q
   exact wp_loopF I step n m' s' hi' (by omega)
  | ex id=>exact⟨_,_,rfl,q⟩
  | ret=>exact⟨_,_,rfl,q⟩
  | pan v=>exact⟨_,_,rfl,q⟩
theorem ret_run {P:Program} {c:CFn} {args:List V} {Q:V→Heap→Prop} (h:wp (runC call lf c.body ⟨argsT args 0 .e,H,[]⟩) fun x s=>s.d=[]∧(x=.n∨x=.ret)∧∃ vs,resultsV s.t s.H c.res=some vs∧Q (tup vs) s.H):ret (runF P call lf c args H) Q:=by
 obtain⟨x,s,e,hd,hx,vs,hvs,hq⟩:=h
 refine⟨tup vs,s.H,?_,hq⟩
 unfold runF
 rw[e]
 rcases hx with rfl | rfl<;>simp only[hd,leave,endF,hvs]
theorem ret_call {P:Program} {S:CallT} {n:Nat} {f:FuncId} {args:List V} {c:CFn} {Q:V→Heap→Prop} (hS:S f args H=none) (hf:fnOf P f=some c) (h:wp (runC (callS P S lf n) lf c.body ⟨argsT args 0 .e,H,[]⟩) fun x s=>s.d=[]∧(x=.n∨x=.ret)∧∃ vs,resultsV s.t s.H c.res=some vs∧Q (tup vs) s.H):ret (callS P S lf (n+1) f args H) Q:=by
 rw[callS_run hS hf]
 exact ret_run h
end
theorem wrap_i64 {n:Int} (h:-9223372036854775808≤n∧n≤9223372036854775807):IntKind.i64.wrap n=n:=by
 have h1:=h.1
 have h2:=h.2
 show (if true&&decide (n % (2 ^ 64:Int)≥(2 ^ (64 - 1):Int)) then n % (2 ^ 64:Int) - (2 ^ 64:Int) else n % (2 ^ 64:Int))=n
 rw[show (2 ^ 64:Int)=18446744073709551616 from rfl,show (2 ^ (64 - 1):Int)=9223372036854775808 from rfl]
 simp only[Bool.true_and,decide_eq_true_eq]
 split<;>omega
theorem wrap_u64 {n:Int} (h:0≤n∧n≤18446744073709551615):IntKind.u64.wrap n=n:=by
 have h1:=h.1
 have h2:=h.2
 show (if false&&decide (n % (2 ^ 64:Int)≥(2 ^ (64 - 1):Int)) then n % (2 ^ 64:Int) - (2 ^ 64:Int) else n % (2 ^ 64:Int))=n
 rw[show (2 ^ 64:Int)=18446744073709551616 from rfl]
 simp only[Bool.false_and,Bool.false_eq_true,if_false]
 omega
end Go.Am
