import Derived.Test.YtllkepkaimnodaaGreatDoorAmIter
set_option linter.unusedVariables false
set_option linter.unusedSimpArgs false
namespace Go.Am
theorem VRels.append {ρ:Emb}:∀ {us vs:List V} {xs ys:List Value},VRels ρ us xs→VRels ρ vs ys→VRels ρ (us++vs) (xs++ys)
 | [],vs,xs,ys,h,k=>by
  have h:xs=[]:=h
  subst h;exact k
 | u::us,vs,xs,ys,h,k=>by
  obtain⟨y,zs,rfl,h2,h3⟩:=h
  exact⟨y,zs++ys,rfl,h2,VRels.append h3 k⟩
def HasBody (P : Program) (id : FuncId) : Prop := ∃ fn b, P.funcs[id]? = some fn ∧ (fn.name == "runtime.NumGoroutine") = false ∧ fn.body = some b
def SndC (P:Program) (o:Oper) (f:T→Option (FuncId × List V)):Prop:=
 ∀(n:Nat) (ρ:Emb) (t:T) (a:Act) (id:FuncId) (args:List V),GRel P ρ→TRel n ρ t a→f t=some (id,args)→HasBody P id→∃ args':Array Value,VRels ρ args args'.toList∧∀ w,(execOp a.eval o).run P w=.ok (.enter id args') w
def SndD (P:Program) (o:Oper) (f:T→Option (FuncId × List V)):Prop:=
 ∀(n:Nat) (ρ:Emb) (t:T) (a:Act) (id:FuncId) (args:List V),GRel P ρ→TRel n ρ t a→f t=some (id,args)→∃ cap args':Array Value,VRels ρ args (args'.toList++cap.toList)∧∀ w,(execOp a.eval o).run P w=.ok (.defer { target:=.fn (.func id) cap,args:=args' }) w
def SndX (P:Program) (o:Oper) (f:T→Option V):Prop:=
 ∀(n:Nat) (ρ:Emb) (t:T) (a:Act) (ty:TypeId) (v:V),GRel P ρ→TRel n ρ t a→f t=some (.iface ty v)→∃ x,VRel ρ (.iface ty v) x∧∀ w,(execOp a.eval o).run P w=.halt (.panic x) w
def SndK (P:Program) (o:Oper):Prop:=∀(a:Act) (w:World),(execOp a.eval o).run P w=.ok .recover w
def OpSnd (P:Program) (o:Oper):OpS→Prop
 | .p f=>SndP P o f
 | .r f=>SndR P o f
 | .m f=>SndM P o f
 | .a f=>SndA P o f
 | .c f=>SndC P o f
 | .d f=>SndD P o f
 | .x f=>SndX P o f
 | .rcv=>SndK P o
theorem run_valueTo {P:Program} {s:Sem Value} {v:Value} {w w':World} (h:s.run P w=.ok v w'):(do pure (Next.value (← s)):Sem Next).run P w=.ok (.value v) w':=by
 simp[h]
section
variable {P:Program} {dst:Option Nat} {ty:TypeId} {pos:String} {after:Array Edge} {guard:Option (Nat × Bool)}
theorem run_callBTo {b:Builtin} {at':Array TypeId} {xs:Array Operand} {a:Act} {w w':World} {v:Value} (h:(builtin b at' ty (xs.map fun | .const _=>true | _=>false) (xs.map a.eval)).run P w=.ok (.value v) w') :
  (execOp a.eval ⟨dst,.call ⟨.builtin b,xs,at'⟩,ty,pos,after,guard⟩).run P w=.ok (.value v) w':=by
 simp[execOp,resolve,invoke]
 exact h
theorem snd_call {f:Operand} {xs:Array Operand} {ts:Array TypeId} {sf:S} {sx:List S} (hf:src P f=some sf) (hx:srcs P xs.toList=some sx):SndC P ⟨dst,.call ⟨.value f,xs,ts⟩,ty,pos,after,guard⟩ (callF sf sx):=by
 intro n ρ t' a id args hg ht h hb
 obtain⟨fn,b,hfn,hnm,hbody⟩:=hb
 unfold callF at h
 split at h
 ·rename_i id' first cap args' h1 h2
  cases h
  obtain⟨f',c',he,hr1,hr2⟩:=src_rel hg ht hf h1
  have hr:=srcs_rel hg ht hx h2
  refine⟨f'++xs.map a.eval++c',by simpa using (hr1.append hr).append hr2,fun w=>?_⟩
  have hnm' : ¬ (fn.name = "runtime.NumGoroutine") := by simpa using hnm
  simp[execOp,resolve,he,Deferred.ofValue,invoke,callFunc,hfn,hnm',hbody]
 ·cases h
theorem snd_defer {f:Operand} {xs:Array Operand} {ts:Array TypeId} {sf:S} {sx:List S} (hf:src P f=some sf) (hx:srcs P xs.toList=some sx):SndD P ⟨dst,.defer ⟨.value f,xs,ts⟩,ty,pos,after,guard⟩ (callF sf sx):=by
 intro n ρ t' a id args hg ht h
 unfold callF at h
 split at h
 ·rename_i id' first cap args' h1 h2
  cases h
  obtain⟨f',c',he,hr1,hr2⟩:=src_rel hg ht hf h1
  have hr:=srcs_rel hg ht hx h2
  refine⟨c',f'++xs.map a.eval,by simpa using (hr1.append hr).append hr2,fun w=>?_⟩
  simp[execOp,resolve,he,Deferred.ofValue]
 ·cases h
theorem snd_panic {x:Operand} {s:S} (hx:src P x=some s):SndX P ⟨dst,.panic x,ty,pos,after,guard⟩ s.get:=by
 intro n ρ t a u v hg ht h
 obtain⟨y,he,hr⟩:=src_rel hg ht hx h
 exact⟨.iface u y,⟨y,rfl,hr⟩,fun w=>by simp[execOp,he,Instr.panic,goPanic,Sem.run]⟩
theorem srcs_two {x y:Operand} {xs:List S} (h:srcs P [x,y]=some xs):∃ sx sy,src P x=some sx∧src P y=some sy∧xs=[sx,sy]:=by
 simp only[srcs] at h
 cases h1:src P x with
 | none=>rw[h1] at h;cases h
 | some sx=>
  cases h2:src P y with
  | none=>rw[h1,h2] at h;cases h
  | some sy=>rw[h1,h2] at h;cases h;exact⟨sx,sy,rfl,rfl,rfl⟩
theorem srcs_len:∀ {xs:List Operand} {ss:List S},srcs P xs=some ss→ss.length=xs.length
 | [],ss,h=>by simp only[srcs] at h;cases h;rfl
 | x::xs,ss,h=>by
  simp only[srcs] at h
  split at h
  ·cases hr:srcs P xs with
   | none=>rw[hr] at h;cases h
   | some rs=>rw[hr] at h;cases h;simp[srcs_len hr]
  ·cases h
theorem arr1 {α:Type} {xs:Array α} {x:α} (h:xs.toList=[x]):xs=#[x]:=by
 apply Array.ext';simpa using h
theorem arr2 {α:Type} {xs:Array α} {x y:α} (h:xs.toList=[x,y]):xs=#[x,y]:=by
 apply Array.ext';simpa using h
theorem snd_append {t u e e':TypeId} {x y:Operand} {sx sy:S} {sz by':Nat} {z:List V} (hu:P.underlying t=some (.slice e)) (hu':P.underlying u=some (.slice e')) (hsz:sizeT P e=some sz) (hby:bytesT P e=some by') (hz:zeroC P e=some z) (h0:sz≠0) (hx:src P x=some sx) (hy:src P y=some sy) :
  SndA P ⟨dst,.call ⟨.builtin .append,#[x,y],#[t,u]⟩,ty,pos,after,guard⟩ (fun t H=>match sx.get t,sy.get t with | some s,some x=>appendV sz by' H s x | _,_=>none):=by
 refine⟨fun t' H v H' h=>?_,fun n ρ t' a v N H H' w hg ht hs hw hf h=>?_⟩
 ·dsimp only at h
  split at h
  ·exact elems_next_mono h
  ·cases h
 ·dsimp only at h
  split at h
  ·rename_i s v1 h1 h2
   obtain⟨v',ρ',w',k1,k2,k3⟩:=append_does (P:=P) (ty:=ty) hu hu' hsz hby hz h0 hs hw hf (src_rel hg ht hx h1) (src_rel hg ht hy h2) h
   exact⟨.value v',v',ρ',w',run_callBTo (by simp[builtin,k1]),.inl rfl,k2,k3⟩
  ·cases h
theorem copy_next {sz:Nat} {H H':Heap} {d s v:V} (h:copyV sz H d s=some (v,H')):H.Upto H':=by
 unfold copyV at h
 split at h
 ·split at h
  ·cases h;first | exact .refl _ | exact .set _ _ _
  ·split at h
   ·cases hst:storeElems _ _ _ _ H with
    | none=>rw[hst] at h;cases h
    | some H1=>rw[hst] at h;cases h;exact storeElems_next hst
   ·cases h
 ·cases h
theorem snd_copy {t u e:TypeId} {x y:Operand} {sx sy:S} {sz:Nat} (hu:P.underlying t=some (.slice e)) (hsz:sizeT P e=some sz) (hx:src P x=some sx) (hy:src P y=some sy) :
  SndA P ⟨dst,.call ⟨.builtin .copy,#[x,y],#[t,u]⟩,ty,pos,after,guard⟩ (fun t H=>match sx.get t,sy.get t with | some d,some s=>copyV sz H d s | _,_=>none):=by
 refine⟨fun t' H v H' h=>?_,fun n ρ t' a v N H H' w hg ht hs hw hf h=>?_⟩
 ·dsimp only at h
  split at h
  ·exact copy_next h
  ·cases h
 ·dsimp only at h
  split at h
  ·rename_i s v1 h1 h2
   obtain⟨v',ρ',w',k1,k2,k3⟩:=copy_does (P:=P) (ty:=ty) (u:=u) hu hsz hs hw (src_rel hg ht hx h1) (src_rel hg ht hy h2) h
   exact⟨.value v',v',ρ',w',run_callBTo (by simp[builtin,k1]),.inl rfl,k2,k3⟩
  ·cases h
theorem mapDel_next {H H':Heap} {m k v:V} (h:mapDel H m k=some (v,H')):H.Upto H':=by
 unfold mapDel at h
 split at h
 ·cases h;first | exact .refl _ | exact .set _ _ _
 ·split at h
  ·split at h
   ·cases h;first | exact .refl _ | exact .set _ _ _
   ·cases h;first | exact .refl _ | exact .set _ _ _
   ·cases h
  ·cases h
 ·cases h
theorem mapUpd_next {H H':Heap} {m k v u:V} (h:mapUpd H m k v=some (u,H')):H.Upto H':=by
 unfold mapUpd at h
 split at h
 ·split at h
  ·split at h
   ·cases h;first | exact .refl _ | exact .set _ _ _
   ·cases h;first | exact .refl _ | exact .set _ _ _
   ·cases h
  ·cases h
 ·cases h
theorem mapEnt_next {H H':Heap} {z m k u:V} (h:mapEnt z H m k=some (u,H')):H.Upto H':=by
 unfold mapEnt at h
 split at h
 ·split at h
  ·split at h
   ·cases h;first | exact .refl _ | exact .set _ _ _
   ·cases h;first | exact .refl _ | exact .set _ _ _
   ·cases h
  ·cases h
 ·cases h
theorem entSt_next {H H':Heap} {m k v u:V} (h:entSt H m k v=some (u,H')):H.Upto H':=by
 unfold entSt at h
 split at h
 ·split at h
  ·split at h
   ·cases h;first | exact .refl _ | exact .set _ _ _
   ·cases h
  ·cases h
 ·cases h
theorem snd_delete {t u k e:TypeId} {x y:Operand} {sx sy:S} (hu:P.underlying t=some (.map k e)) (hk:isIntKey P k=true) (hx:src P x=some sx) (hy:src P y=some sy) :
  SndA P ⟨dst,.call ⟨.builtin .delete,#[x,y],#[t,u]⟩,ty,pos,after,guard⟩ (fun t H=>match sx.get t,sy.get t with | some m,some k=>mapDel H m k | _,_=>none):=by
 refine⟨fun t' H v H' h=>?_,fun n ρ t' a v N H H' w hg ht hs hw hf h=>?_⟩
 ·dsimp only at h
  split at h
  ·exact mapDel_next h
  ·cases h
 ·dsimp only at h
  split at h
  ·rename_i s v1 h1 h2
   obtain⟨v',ρ',w',k1,k2,k3⟩:=mapDel_does (P:=P) (ty:=ty) (ts:=#[t,u]) rfl hu hk hs hw (src_rel hg ht hx h1) (src_rel hg ht hy h2) h
   exact⟨.value v',v',ρ',w',run_callBTo (by simp[builtin,k1]),.inl rfl,k2,k3⟩
  ·cases h
theorem snd_mapUpd {t k e:TypeId} {x y v:Operand} {sx sy sv:S} (hu:P.underlying t=some (.map k e)) (hk:isIntKey P k=true) (hx:src P x=some sx) (hy:src P y=some sy) (hv:src P v=some sv) :
  SndA P ⟨dst,.mapUpdate t x y v,ty,pos,after,guard⟩ (fun t H=>match sx.get t,sy.get t,sv.get t with | some m,some k,some v=>mapUpd H m k v | _,_,_=>none):=by
 refine⟨fun t' H v H' h=>?_,fun n ρ t' a u N H H' w hg ht hs hw hf h=>?_⟩
 ·dsimp only at h
  split at h
  ·exact mapUpd_next h
  ·cases h
 ·dsimp only at h
  split at h
  ·rename_i m1 k1 v1 h1 h2 h3
   obtain⟨rfl,ρ',w',k1,k2⟩:=mapUpd_does (P:=P) hu hk hs hw (src_rel hg ht hx h1) (src_rel hg ht hy h2) (src_rel hg ht hv h3) h
   exact⟨.skip,Go.undef,ρ',w',by simp[execOp,k1],.inr ⟨rfl,rfl⟩,k2,VRel.undef _⟩
  ·cases h
theorem snd_mapEnt {t k e:TypeId} {x y:Operand} {sx sy:S} {z:V} (hu:P.underlying t=some (.map k e)) (hk:isIntKey P k=true) (hz:zeroV P e=some z) (hx:src P x=some sx) (hy:src P y=some sy) :
  SndA P ⟨dst,.mapEntry t x y,ty,pos,after,guard⟩ (fun t H=>match sx.get t,sy.get t with | some m,some k=>mapEnt z H m k | _,_=>none):=by
 refine⟨fun t' H v H' h=>?_,fun n ρ t' a u N H H' w hg ht hs hw hf h=>?_⟩
 ·dsimp only at h
  split at h
  ·exact mapEnt_next h
  ·cases h
 ·dsimp only at h
  split at h
  ·rename_i m1 k1 h1 h2
   obtain⟨v',ρ',w',k1,k2,k3⟩:=mapEnt_does (P:=P) hu hk hz hs hw (src_rel hg ht hx h1) (src_rel hg ht hy h2) h
   exact⟨.value v',v',ρ',w',run_valueTo k1,.inl rfl,k2,k3⟩
  ·cases h
theorem snd_entSt {t:TypeId} {x y v:Operand} {sx sy sv:S} (hx:src P x=some sx) (hy:src P y=some sy) (hv:src P v=some sv) :
  SndA P ⟨dst,.entryStore t x y v,ty,pos,after,guard⟩ (fun t H=>match sx.get t,sy.get t,sv.get t with | some m,some k,some v=>entSt H m k v | _,_,_=>none):=by
 refine⟨fun t' H v H' h=>?_,fun n ρ t' a u N H H' w hg ht hs hw hf h=>?_⟩
 ·dsimp only at h
  split at h
  ·exact entSt_next h
  ·cases h
 ·dsimp only at h
  split at h
  ·rename_i m1 k1 v1 h1 h2 h3
   obtain⟨rfl,ρ',w',k1,k2⟩:=entSt_does (P:=P) (t:=t) hs hw (src_rel hg ht hx h1) (src_rel hg ht hy h2) (src_rel hg ht hv h3) h
   exact⟨.skip,Go.undef,ρ',w',by simp[execOp,k1],.inr ⟨rfl,rfl⟩,k2,VRel.undef _⟩
  ·cases h
theorem prepBuiltin_sound {b:Builtin} {xs:Array Operand} {ts:Array TypeId} {ss:List S} {k:OpS} (hx:srcs P xs.toList=some ss) (h:prepBuiltin P b ts.toList ss=some k):OpSnd P ⟨dst,.call ⟨.builtin b,xs,ts⟩,ty,pos,after,guard⟩ k:=by
 have one:∀ {s:S},ss=[s]→∃ x,xs=#[x]∧src P x=some s:=by
  intro s e
  subst e
  have hl:=srcs_len hx
  obtain⟨x,hxx⟩:∃ x,xs.toList=[x]:=by
   match hh:xs.toList,hl with
   | [x],_=>exact⟨x,rfl⟩
  rw[hxx] at hx
  simp only[srcs] at hx
  cases h1:src P x with
  | none=>rw[h1] at hx;cases hx
  | some sx=>rw[h1] at hx;cases hx;exact⟨x,arr1 hxx,h1⟩
 have two:∀ {s s':S},ss=[s,s']→∃ x y,xs=#[x,y]∧src P x=some s∧src P y=some s':=by
  intro s s' e
  subst e
  have hl:=srcs_len hx
  obtain⟨x,y,hxx⟩:∃ x y,xs.toList=[x,y]:=by
   match hh:xs.toList,hl with
   | [x,y],_=>exact⟨x,y,rfl⟩
  rw[hxx] at hx
  obtain⟨sx,sy,h1,h2,h3⟩:=srcs_two hx
  cases h3
  exact⟨x,y,arr2 hxx,h1,h2⟩
 unfold prepBuiltin at h
 split at h
 ·rename_i t s ht
  obtain⟨x,rfl,hs⟩:=one rfl
  have:=arr1 ht
  subst this
  split at h
  ·rename_i e hu;cases h;exact snd_len hu hs
  ·rename_i m e hu;cases h;exact snd_lenC hu (.inl ⟨e,rfl⟩) ⟨s,hs⟩
  ·rename_i A hu
   split at h
   ·rename_i m e hA;cases h;exact snd_lenC hu (.inr ⟨A,e,rfl,hA⟩) ⟨s,hs⟩
   ·cases h
  ·rename_i k' e hu;cases h;exact snd_lenM hu hs
  ·cases h
 ·rename_i t s ht
  obtain⟨x,rfl,hs⟩:=one rfl
  have:=arr1 ht
  subst this
  split at h
  ·rename_i e hu;cases h;exact snd_cap hu hs
  ·cases h
 ·cases h;exact snd_fold (.inl ⟨rfl,rfl⟩) hx
 ·cases h;exact snd_fold (.inr ⟨rfl,rfl⟩) hx
 ·rename_i t u s s' ht
  obtain⟨x,y,rfl,hs,hs'⟩:=two rfl
  have:=arr2 ht
  subst this
  split at h
  ·rename_i e e' hu hu'
   split at h
   ·rename_i sz by' z hsz hby hz
    cases h0:sz.beq 0 with
    | true=>rw[h0] at h;cases h
    | false=>rw[h0] at h;cases h;exact snd_append hu hu' hsz hby hz (beq_false.1 h0) hs hs'
   ·cases h
  ·cases h
 ·rename_i t u s s' ht
  obtain⟨x,y,rfl,hs,hs'⟩:=two rfl
  have:=arr2 ht
  subst this
  split at h
  ·rename_i e e' hu hu'
   split at h
   ·rename_i sz hsz;cases h;exact snd_copy hu hsz hs hs'
   ·cases h
  ·cases h
 ·rename_i t u s s' ht
  obtain⟨x,y,rfl,hs,hs'⟩:=two rfl
  have:=arr2 ht
  subst this
  split at h
  ·rename_i kt e hu
   cases hk:isIntKey P kt with
   | false=>rw[hk] at h;cases h
   | true=>rw[hk] at h;cases h;exact snd_delete hu hk hs hs'
  ·cases h
 ·rename_i t s ht
  obtain⟨x,rfl,hs⟩:=one rfl
  have:=arr1 ht
  subst this
  split at h
  ·rename_i e hu
   split at h
   ·rename_i sz z hsz hz
    cases h0:sz.beq 0 with
    | true=>rw[h0] at h;cases h
    | false=>rw[h0] at h;cases h;exact snd_clear (beq_false.1 h0) hu hsz hz hs
   ·cases h
  ·cases h
 ·rename_i ht
  cases h
  have hl:=srcs_len hx
  have hxs:xs=#[]:=by
   apply Array.eq_empty_of_size_eq_zero
   simpa using hl.symm
  have hts:ts=#[]:=by
   apply Array.ext'
   simpa using ht
  subst hxs hts
  intro a w
  simp[execOp,resolve,invoke,builtin]
 ·cases h
theorem prepEq_sound {neg:Bool} {op:BinOp} {xT yT:TypeId} {x y:Operand} {sx sy:S} {k:OpS} (hop:op=match neg with | true=>.neq | false=>.eql) (hx:src P x=some sx) (hy:src P y=some sy) (h:prepEq P neg xT x y sx sy=some k) :
  OpSnd P ⟨dst,.binOp op xT x y yT,ty,pos,after,guard⟩ k:=by
 unfold prepEq at h
 split at h
 ·rename_i ck hck
  split at h
  ·rename_i k' hgd hk
   cases h
   exact snd_eqc hop hck hgd hk hx hy
  ·cases h
 ·cases he:ekOf P xT x y with
  | none=>rw[he] at h;cases h
  | some e=>rw[he] at h;cases h;exact snd_eqn hop he hx hy
theorem map_some {α β:Type} {o:Option α} {f:α→β} {b:β} (h:o.map f=some b):∃ a,o=some a∧f a=b:=by
 cases o with
 | none=>cases h
 | some a=>cases h;exact⟨a,rfl,rfl⟩
theorem prep_sound {op:Op} {k:OpS} (h:prep P op=some k):OpSnd P ⟨dst,op,ty,pos,after,guard⟩ k:=by
 unfold prep at h
 split at h
 ·obtain⟨s,hs,rfl⟩:=map_some h;exact snd_move hs
 ·obtain⟨s,hs,rfl⟩:=map_some h;exact snd_assign hs
 ·split at h
  ·rename_i h1 h2 h3;cases h;exact snd_pick h1 h2 h3
  ·cases h
 ·split at h
  ·rename_i h1 h2;cases h;exact snd_alloc h1 h2
  ·cases h
 ·split at h
  ·rename_i h1 h2;cases h;exact snd_box h1 h2
  ·cases h
 ·split at h
  ·rename_i z fs k' hz hu hk
   split at h
   ·rename_i hall
    obtain⟨l,hl,rfl⟩:=map_some h
    exact snd_buildS hz hu hk hall hl
   ·cases h
  ·rename_i z m e k' hz hu hk
   split at h
   ·rename_i sz hsz
    obtain⟨l,hl,rfl⟩:=map_some h
    exact snd_buildA hz hu hk hsz hl
   ·cases h
  ·cases h
 ·split at h
  ·rename_i e hu
   split at h
   ·rename_i sz z hsz hz
    split at h
    ·rename_i hc
     simp only[Bool.and_eq_true,Bool.not_eq_true'] at hc
     obtain⟨l,hl,rfl⟩:=map_some h
     exact snd_bslice hu hsz hz (ble_iff.1 hc.1) (beq_false.1 hc.2) hl
    ·cases h
   ·cases h
  ·cases h
 ·split at h
  ·rename_i h1 h2 h3;cases h;exact snd_load h1 h3 h2
  ·cases h
 ·split at h
  ·rename_i h1 h2 h3;cases h;exact snd_store h1 h2 h3
  ·cases h
 ·obtain⟨s,hs,rfl⟩:=map_some h;exact snd_nilc hs
 ·split at h
  ·rename_i sx sy hx hy
   split at h
   ·exact prepEq_sound (neg:=false) rfl hx hy h
   ·exact prepEq_sound (neg:=true) rfl hx hy h
   ·rename_i h1 h2;cases h;exact snd_ar ⟨h1,h2⟩ hx hy
  ·cases h
 ·obtain⟨s,hs,rfl⟩:=map_some h;exact snd_un hs
 ·split at h
  ·rename_i h1 h2 h3;cases h;exact snd_conv h1 h2 h3
  ·cases h
 ·split at h
  ·rename_i h1 h2;cases h;exact snd_s2ap h1 h2
  ·cases h
 ·split at h
  ·cases h
  ·rename_i d s hni hd hs;cases h;exact snd_mkif hd (fun ms e=>by subst e;exact hni ms rfl) hs
  ·cases h
 ·split at h
  ·rename_i h1 h2;cases h;exact snd_mkfn h1 h2
  ·cases h
 ·cases h;exact snd_mkmap
 ·split at h
  ·rename_i e l c hu hl hc
   split at h
   ·rename_i sz by' z hsz hby hz
    cases h0:sz.beq 0 with
    | true=>rw[h0] at h;cases h
    | false=>rw[h0] at h;cases h;exact snd_mkslice hu hl hc hsz hby hz (beq_false.1 h0)
   ·cases h
  ·cases h
 ·split at h
  ·rename_i sx slo shi smx hx hlo hhi hmx
   split at h
   ·rename_i e hu
    obtain⟨sz,hsz,rfl⟩:=map_some h
    exact snd_slice hu hsz hx hlo hhi hmx
   ·rename_i m e hu
    obtain⟨sz,hsz,rfl⟩:=map_some h
    exact snd_sliceA (A:=0) (.inl hu) hsz hx hlo hhi hmx
   ·rename_i A hu
    split at h
    ·rename_i m e hA
     obtain⟨sz,hsz,rfl⟩:=map_some h
     exact snd_sliceA (.inr ⟨hu,hA⟩) hsz hx hlo hhi hmx
    ·cases h
   ·cases h
  ·cases h
 ·split at h
  ·rename_i fd s hfd hs
   split at h
   ·rename_i sz hsz
    cases h0:sz.beq 0 with
    | true=>rw[h0] at h;cases h
    | false=>rw[h0] at h;cases h;exact snd_faddr hfd hs hsz (beq_false.1 h0)
   ·cases h
  ·cases h
 ·split at h
  ·rename_i fd s hfd hs
   split at h
   ·rename_i sz k' hsz hk;cases h;exact snd_field hfd hs hsz hk
   ·cases h
  ·cases h
 ·split at h
  ·rename_i m e sx si hu hx hi
   obtain⟨sz,hsz,rfl⟩:=map_some h
   exact snd_iaddrA hu hx hi hsz
  ·rename_i e sx si hu hx hi
   obtain⟨sz,hsz,rfl⟩:=map_some h
   exact snd_iaddrS hu hx hi hsz
  ·cases h
 ·split at h
  ·rename_i m e sx si hu hx hi
   split at h
   ·rename_i sz k' hsz hk;cases h;exact snd_idxA hu hx hi hsz hk
   ·cases h
  ·rename_i hu hx hi;cases h;exact snd_idxS hu hx hi
  ·cases h
 ·split at h
  ·rename_i kt e sx si hu hx hi
   split at h
   ·rename_i z hk hz;cases h;exact snd_look hu hk hz hx hi
   ·cases h
  ·cases h
 ·split at h
  ·rename_i kt e sx sk sv hu hx hk hv
   cases hi:isIntKey P kt with
   | false=>rw[hi] at h;cases h
   | true=>rw[hi] at h;cases h;exact snd_mapUpd hu hi hx hk hv
  ·cases h
 ·split at h
  ·rename_i kt e sx sk hu hx hk
   split at h
   ·rename_i z hi hz;cases h;exact snd_mapEnt hu hi hz hx hk
   ·cases h
  ·cases h
 ·split at h
  ·rename_i sx sk sv hx hk hv;cases h;exact snd_entSt hx hk hv
  ·cases h
 ·split at h
  ·rename_i hu hs;cases h;exact snd_range hu hs
  ·cases h
 ·obtain⟨s,hs,rfl⟩:=map_some h;exact snd_next hs
 ·obtain⟨s,hs,rfl⟩:=map_some h;exact snd_entry hs
 ·obtain⟨s,hs,rfl⟩:=map_some h;exact snd_ext hs
 ·split at h
  ·cases h
  ·rename_i d s hni hd hs
   obtain⟨z,hz,rfl⟩:=map_some h
   exact snd_tassert hd (fun ms e=>by subst e;exact hni ms rfl) hs hz
  ·cases h
 ·rename_i c
  obtain⟨callee,args,argTypes⟩:=c
  split at h
  ·rename_i f ss hf hss
   obtain⟨s,hs,rfl⟩:=map_some h
   cases hf
   exact snd_call hs hss
  ·rename_i b ss hb hss
   cases hb
   exact prepBuiltin_sound hss h
  ·cases h
 ·rename_i c
  obtain⟨callee,args,argTypes⟩:=c
  split at h
  ·rename_i f ss hf hss
   obtain⟨s,hs,rfl⟩:=map_some h
   cases hf
   exact snd_defer hs hss
  ·cases h
 ·rename_i x
  obtain⟨s,hs,rfl⟩:=map_some h;exact snd_panic hs
 ·cases h
end
end Go.Am
