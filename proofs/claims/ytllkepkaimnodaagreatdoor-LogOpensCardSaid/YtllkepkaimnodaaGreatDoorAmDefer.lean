import Derived.Test.YtllkepkaimnodaaGreatDoorAmRun
import Derived.Recover
set_option linter.unusedVariables false
set_option linter.unusedSimpArgs false
namespace Go.Am
def URel (ρ:Emb):U→FrameMode→Prop
 | none,m=>m=.returning
 | some (v,b),m=>∃ x,m=.panicking [{ v:=x,recovered:=b }]∧VRel ρ v x
theorem URel.mono {ρ ρ':Emb} (h:Ext ρ ρ'):∀ {u:U} {m:FrameMode},URel ρ u m→URel ρ' u m
 | none,m,r=>r
 | some (v,b),m,r=>by
  obtain⟨x,h1,h2⟩:=r
  exact⟨x,h1,VRel.mono h _ _ h2⟩
theorem URel.settle {ρ:Emb}:∀ {u:U} {m:FrameMode},URel ρ u m→URel ρ (settleU u) (settle m)
 | none,m,r=>by have r:m=_:=r;subst r;rfl
 | some (v,true),m,r=>by
  obtain⟨x,rfl,h2⟩:=r
  simp[Go.settle,settleU,URel]
 | some (v,false),m,r=>by
  obtain⟨x,rfl,h2⟩:=r
  exact⟨x,rfl,h2⟩
theorem URel.ne {ρ:Emb}:∀ {u:U} {m:FrameMode},URel ρ u m→m≠.run
 | none,m,r=>by have r:m=_:=r;subst r;simp
 | some (v,b),m,r=>by obtain⟨x,rfl,_⟩:=r;simp
def OpsR (P:Program) (n:Nat) (ops:Array Oper) (k:Nat) (ls:List Oper) (u:U) (s:St) (x:X) (s':St) (u':U):Prop:=
 s.H.Upto s'.H∧∀(N:Nat) (ρ:Emb) (a:Act) (w:World) (m:FrameMode) (c0:Frame) (cs:List Frame),Rel P n N ρ s.t s.H s.d a w→URel ρ u m→Free ρ s.H s'.H→∀(Q:Exit→Act→List Frame→World→Prop),
  (∀ ρ' a' w' m' e,ExitRel ρ' x e→Step N ρ s.H w ρ' s'.H w'→Rel P n N ρ' s'.t s'.H s'.d a' w'→URel ρ' u' m'→Q e a' ({ c0 with mode:=m' }::cs) w')→wpOpsS P ops Q (List.range' k ls.length) a ({ c0 with mode:=m }::cs) w
theorem opsR_sound {P:Program} {n:Nat} {call:CallT} (hcall:CallSnd P call) {ops:Array Oper}:∀(ls:List Oper) (k:Nat) (u:U) (s:St) (x:X) (s':St) (u':U),
  (∀ i o,ls[i]?=some o→ops[k+i]?=some o)→runOpsR call (ls.map (prepOper P n ops)) u s=some (x,s',u')→OpsR P n ops k ls u s x s' u'
 | [],k,u,s,x,s',u',hsub,h=>by
  cases h
  refine⟨.refl _,fun N ρ a w m c0 cs r hu hfree Q hQ=>?_⟩
  exact hQ ρ a w m _ rfl r.refl r hu
 | o::ls,k,u,s,x,s',u',hsub,h=>by
  have ho:ops[k]?=some o:=hsub 0 o rfl
  have hsub':∀ i o',ls[i]?=some o'→ops[k+1+i]?=some o':=fun i o' hi=>by
   have:=hsub (i+1) o' (by simpa using hi)
   rwa [show k+(i+1)=k+1+i by omega] at this
  simp only[List.map_cons,runOpsR] at h
  split at h
  ·rename_i hk
   obtain⟨hdst,hprep⟩:dstOk n o.dst=true∧prep P o.op=some .rcv:=by
    unfold prepOper at hk
    dsimp only at hk
    split at hk
    ·rename_i hd
     refine⟨hd,?_⟩
     unfold isK at hk
     split at hk
     ·rename_i h';exact h'
     ·cases hk
    ·cases hk
   have hsnd:SndK P o:=by
    obtain⟨dst,op,ty,pos,after,guard⟩:=o
    exact prep_sound (P:=P) hprep
   split at h
   ·rename_i hwant
    obtain⟨hn',hrest⟩:=opsR_sound hcall ls (k+1) _ _ x s' u' hsub' h
    refine⟨hn',fun N ρ a w m c0 cs r hu hfree Q hQ=>?_⟩
    simp only[List.length_cons,List.range'_succ,wpOpsS,ho]
    rw[if_pos (wanted_rel r.t hwant),hsnd a w]
    simp only
    match u,hu with
    | none,hu=>
     have hu:m=_:=hu
     subst hu
     exact hrest N ρ _ w .returning c0 cs (r.put rfl (.inl hdst)) rfl hfree Q hQ
    | some (v,true),hu=>
     obtain⟨y,rfl,hy⟩:=hu
     exact hrest N ρ _ w _ c0 cs (r.put rfl (.inl hdst)) ⟨y,rfl,hy⟩ hfree Q hQ
    | some (v,false),hu=>
     obtain⟨y,rfl,hy⟩:=hu
     exact hrest N ρ _ w _ c0 cs (r.put hy (.inl hdst)) ⟨y,rfl,hy⟩ hfree Q hQ
   ·rename_i hwant
    obtain⟨hn',hrest⟩:=opsR_sound hcall ls (k+1) _ _ x s' u' hsub' h
    refine⟨hn',fun N ρ a w m c0 cs r hu hfree Q hQ=>?_⟩
    simp only[List.length_cons,List.range'_succ,wpOpsS,ho]
    rw[if_neg (by rw[wanted_rel r.t hwant];decide)]
    exact hrest N ρ _ w m c0 cs (r.put (VRel.undef _) (.inr ⟨rfl,rfl⟩)) hu hfree Q hQ
   ·cases h
  ·split at h
   ·rename_i s1 h1
    obtain⟨hn',hrest⟩:=opsR_sound hcall ls (k+1) u s1 x s' u' hsub' h
    unfold runIOp at h1
    split at h1
    ·rename_i hwant
     split at h1
     ·rename_i sp hs
      obtain⟨hdst,hprep⟩:dstOk n o.dst=true∧prep P o.op=some sp:=by
       unfold prepOper at hs
       dsimp only at hs
       split at hs
       ·rename_i hd;exact⟨hd,hs⟩
       ·cases hs
      have hsnd:OpSnd P o sp:=by
       obtain⟨dst,op,ty,pos,after,guard⟩:=o
       exact prep_sound hprep
      rcases runOp_does hcall hsnd hdst h1 with ⟨t1,H1,d1,hk,hn,hdoes⟩ | ⟨v,H1,h',_⟩
      ·cases hk
       refine⟨hn.trans hn',fun N ρ a w m c0 cs r hu hfree Q hQ=>?_⟩
       simp only[List.length_cons,List.range'_succ,wpOpsS,ho]
       rw[if_pos (wanted_rel r.t hwant)]
       have hdo:=hdoes N ρ a w r (hfree.left hn') (fun a' w'=>wpOpsS P ops Q (List.range' (k+1) ls.length) a' ({ c0 with mode:=m }::cs) w') (fun e a' w'=>Q e a' ({ c0 with mode:=m }::cs) w')
        (fun ρ1 a1 w1 hstep hrel=>hrest N ρ1 a1 w1 m c0 cs hrel (hu.mono hstep.ext) (hfree.right hn hstep) Q (fun ρ2 a2 w2 m2 e he hstep2 hrel2 hu2=>hQ ρ2 a2 w2 m2 e he (hstep.trans hstep2) hrel2 hu2))
       unfold Oper.wp at hdo
       split
       ·rename_i hrec
        rw[hrec] at hdo
        exact hdo.elim
       ·exact hdo
      ·cases h'
     ·cases h1
    ·rename_i hwant
     cases h1
     refine⟨hn',fun N ρ a w m c0 cs r hu hfree Q hQ=>?_⟩
     simp only[List.length_cons,List.range'_succ,wpOpsS,ho]
     rw[if_neg (by rw[wanted_rel r.t hwant];decide)]
     exact hrest N ρ _ w m c0 cs (r.put (VRel.undef _) (.inr ⟨rfl,rfl⟩)) hu hfree Q hQ
    ·cases h1
   ·cases h
def CodeR (P:Program) (n:Nat) (c:Code) (u:U) (s:St) (x:X) (s':St) (u':U):Prop:=
 s.H.Upto s'.H∧∀(N:Nat) (ρ:Emb) (a:Act) (w:World) (m:FrameMode) (c0:Frame) (cs:List Frame),Rel P n N ρ s.t s.H s.d a w→URel ρ u m→Free ρ s.H s'.H→∀(Q:Exit→Act→List Frame→World→Prop),
  (∀ ρ' a' w' m' e,ExitRel ρ' x e→Step N ρ s.H w ρ' s'.H w'→Rel P n N ρ' s'.t s'.H s'.d a' w'→URel ρ' u' m'→Q e a' ({ c0 with mode:=m' }::cs) w')→c.wpS P Q a ({ c0 with mode:=m }::cs) w
theorem CodeDoes.toR {P:Program} {n:Nat} {c:Code} {s s':St} {x:X} (u:U) (h:CodeDoes P n c s x s'):CodeR P n c u s x s' u:=
 ⟨h.1,fun N ρ a w m c0 cs r hu hfree Q hQ=>wpS_of_wp (h.2 N ρ a w r hfree _ (fun ρ' a' w' e he st r'=>hQ ρ' a' w' m e he st r' (hu.mono st.ext)))⟩
theorem codeR_sound {P:Program} {n:Nat} {call:CallT} (hcall:CallSnd P call) (lf:Nat):∀(c:Code) (u:U) (s:St) (x:X) (s':St) (u':U),runCR call lf (prepC P n c) u s=some (x,s',u')→CodeR P n c u s x s' u':=by
 intro c
 have plain:∀(c:Code) (u:U) (s:St) (x:X) (s':St) (u':U),(match runC call lf (prepC P n c) s with | some (x,s')=>some (x,s',u) | none=>none)=some (x,s',u')→CodeR P n c u s x s' u':=by
  intro c u s x s' u' h
  split at h
  ·rename_i x1 s1 h1
   cases h
   exact(code_sound hcall lf c s _ _ h1).toR u
  ·cases h
 induction c with
 | seq a b iha ihb=>
  intro u s x s' u' h
  simp only[prepC,runCR] at h
  split at h
  ·rename_i s1 u1 h1
   obtain⟨n1,d1⟩:=iha u s .n s1 u1 h1
   obtain⟨n2,d2⟩:=ihb u1 s1 x s' u' h
   refine⟨n1.trans n2,fun N ρ ac w m c0 cs r hu hfree Q hQ=>wpS_seq ?_⟩
   refine d1 N ρ ac w m c0 cs r hu (hfree.left n2) _ (fun ρ1 a1 w1 m1 e1 he1 st1 r1 hu1=>?_)
   have he1:e1=_:=he1
   subst he1
   exact d2 N ρ1 a1 w1 m1 c0 cs r1 hu1 (hfree.right n1 st1) Q (fun ρ2 a2 w2 m2 e he st2 r2 hu2=>hQ ρ2 a2 w2 m2 e he (st1.trans st2) r2 hu2)
  ·rename_i hno
   have hxn:x≠.n:=fun e=>by subst e;exact hno _ _ h
   obtain⟨n1,d1⟩:=iha u s x s' u' h
   refine⟨n1,fun N ρ ac w m c0 cs r hu hfree Q hQ=>wpS_seq ?_⟩
   refine d1 N ρ ac w m c0 cs r hu hfree _ (fun ρ1 a1 w1 m1 e he st1 r1 hu1=>?_)
   have:=hQ ρ1 a1 w1 m1 e he st1 r1 hu1
   cases x with
   | n=>exact absurd rfl hxn
   | ex id=>have he:e=_:=he;subst he;exact this
   | ret=>have he:e=_:=he;subst he;exact this
   | pan v=>obtain⟨y,rfl,_⟩:=he;exact this
 | cond c a b iha ihb=>
  intro u s x s' u' h
  simp only[prepC] at h
  cases hc:src P c with
  | none=>rw[hc] at h;simp only[runCR] at h;cases h
  | some sc=>
   rw[hc] at h
   simp only[runCR] at h
   split at h
   ·rename_i hv
    obtain⟨n1,d1⟩:=iha u s x s' u' h
    exact⟨n1,fun N ρ ac w m c0 cs r hu hfree Q hQ=>wpS_cond (t:=true) (src_rel r.g r.t hc hv) (by simpa using d1 N ρ ac w m c0 cs r hu hfree Q hQ)⟩
   ·rename_i hv
    obtain⟨n1,d1⟩:=ihb u s x s' u' h
    exact⟨n1,fun N ρ ac w m c0 cs r hu hfree Q hQ=>wpS_cond (t:=false) (src_rel r.g r.t hc hv) (by simpa using d1 N ρ ac w m c0 cs r hu hfree Q hQ)⟩
   ·cases h
 | region id ops draw=>
  intro u s x s' u' h
  cases draw with
  | true=>
   refine plain (.region id ops true) u s x s' u' ?_
   simp only[prepC] at h ⊢
   split at h
   ·exact h
   ·exact h
  | false=>
   have h:runOpsR call (ops.toList.map (prepOper P n ops)) u s=some (x,s',u'):=h
   obtain⟨hn,hrest⟩:=opsR_sound hcall ops.toList 0 u s x s' u' (fun i o hi=>by simpa using hi) h
   refine⟨hn,fun N ρ a w m c0 cs r hu hfree Q hQ=>wpS_region ?_⟩
   have:=hrest N ρ a w m c0 cs r hu hfree Q hQ
   rwa [Array.length_toList,← List.range_eq_range'] at this
 | skip=>intro u s x s' u' h;exact plain _ u s x s' u' h
 | label l=>intro u s x s' u' h;exact plain _ u s x s' u' h
 | block id a _=>intro u s x s' u' h;exact plain _ u s x s' u' h
 | loop a _=>intro u s x s' u' h;exact plain _ u s x s' u' h
 | exit id=>intro u s x s' u' h;exact plain _ u s x s' u' h
 | scope a _=>intro u s x s' u' h;exact plain _ u s x s' u' h
 | ret=>intro u s x s' u' h;exact plain _ u s x s' u' h
 | goto l=>intro u s x s' u' h;exact plain _ u s x s' u' h
 | rangeFunc=>intro u s x s' u' h;exact plain _ u s x s' u' h
 | refuse=>intro u s x s' u' h;exact plain _ u s x s' u' h
theorem fnOf_some {P : Program} {id : FuncId} {cfn : CFn} (h : fnOf P id = some cfn) : ∃ fn b r, P.funcs[id]? = some fn ∧ (fn.name == "runtime.NumGoroutine") = false ∧ fn.body = some b ∧ prepRes P fn.results.toList = some r ∧ cfn = ⟨r, prepC P fn.ntmps b⟩ := by
 unfold fnOf at h
 split at h
 ·rename_i fn hf
  cases hname : (fn.name == "runtime.NumGoroutine") with
  | true=>rw[hname] at h;cases h
  | false=>
   rw[hname] at h
   dsimp only at h
   unfold prepFn at h
   split at h
   ·rename_i b r hb hr
    cases h
    exact⟨fn,b,r,hf,hname,hb,hr,rfl⟩
   ·cases h
 ·cases h
theorem results_run {P:Program} {fn:Func} {n N:Nat} {ρ:Emb} {t:T} {H:Heap} {d:List (FuncId × List V)} {a:Act} {w:World} {r:List R} {vs:List V} (rel:Rel P n N ρ t H d a w) (hr:prepRes P fn.results.toList=some r) (hvs:resultsV t H r=some vs) :
  ∃ x,VRel ρ (tup vs) x∧(results fn a.tmps).run P w=.ok x w:=by
 obtain⟨xs,hxs,hres⟩:=results_rel rel fn.results.toList r vs hr hvs
 refine⟨_,tup_rel hxs,?_⟩
 have e:results fn a.tmps=(do let vs ← fn.results.mapM (resRun a.tmps);pure (if h:vs.size=1 then vs[0] else .tuple vs)):=by
  unfold results
  congr 2
 rw[e,Array.mapM_eq_mapM_toList]
 simp[hres]
theorem runDef_sound {P:Program} {call:CallT} (hcall:CallSnd P call) {lf:Nat} {id:FuncId} {args:List V} {u u':U} {H H':Heap} (h:runDef P call lf id args u H=some (u',H')) :
  HasBody P id∧H.Upto H'∧∀(N:Nat) (ρ:Emb) (w:World) (m:FrameMode) (args':Array Value),GRel P ρ→VRels ρ args args'.toList→Sim N ρ H.get w→H.Wf→URel ρ u m→Free ρ H H' →
   CallsD P id args' m w fun e m' w'=>∃ x ρ',e=.returned x∧Step N ρ H w ρ' H' w'∧URel ρ' u' m':=by
 unfold runDef at h
 split at h
 ·rename_i cfn hfn
  obtain⟨fn,b,r,hf,hname,hb,hr,rfl⟩:=fnOf_some hfn
  split at h
  ·rename_i x s u1 hrun
   split at h
   ·rename_i vs hd hx hvs
    cases h
    obtain⟨n1,d1⟩:=codeR_sound hcall lf b u _ x s _ hrun
    refine⟨⟨fn,b,hf,hname,hb⟩,n1,fun N ρ w m args' hg ha hs hw hu hfree=>?_⟩
    refine callsD_of_wpS hf hb (fun c0 cs hc0=>?_)
    have ec:c0={ c0 with mode:=m }:=by subst hc0;rfl
    rw[ec]
    refine d1 N ρ _ w m c0 cs ⟨hg,args_rel fn.ntmps ha,rfl,hs,hw⟩ hu hfree _ (fun ρ' a' w' m' e he st r' hu'=>?_)
    obtain⟨y,hy,hres⟩:=results_run r' hr hvs
    have hdf:a'.defers=[]:=by have:=r'.d;rw[hd] at this;exact this
    have fin:a'.defers=[]∧∃ u2,({ c0 with mode:=m' }::cs:List Frame)={ ({ c0 with mode:=m }:Frame) with mode:=u2 }::cs∧∃ v,(results fn a'.tmps).run P w'=.ok v w'∧∃ x ρ',Ending.returned v=.returned x∧Step N ρ H w ρ' s.H w'∧URel ρ' u' u2:=
     ⟨hdf,m',rfl,y,hres,y,ρ',rfl,st,hu'⟩
    cases x with
    | n=>have he:e=_:=he;subst he;exact fin
    | ret=>have he:e=_:=he;subst he;exact fin
    | ex id=>cases hx
    | pan v=>cases hx
   ·cases h
  ·cases h
 ·cases h
theorem leave_sound {P:Program} {call:CallT} (hcall:CallSnd P call) {lf:Nat} {fn:Func} {tmps:Array Value} {R:Ending→World→Prop}:∀(d:List (FuncId × List V)) (ds:List Deferred) (u u':U) (H H':Heap),leave P call lf d u H=some (u',H') →
  H.Upto H'∧∀(N:Nat) (ρ:Emb) (w:World) (m:FrameMode),GRel P ρ→DRel ρ d ds→Sim N ρ H.get w→H.Wf→URel ρ u m→Free ρ H H' →
   (∀ ρ' w' m',Step N ρ H w ρ' H' w'→URel ρ' u' m'→Leaves P fn tmps R [] m' w')→Leaves P fn tmps R ds m w
 | [],ds,u,u',H,H',h=>by
  cases h
  refine⟨.refl _,fun N ρ w m hg hd hs hw hu hf k=>?_⟩
  have hd:ds=[]:=hd
  subst hd
  exact k ρ w m (Step.refl hs hw) hu
 | (id,args)::d,ds,u,u',H,H',h=>by
  simp only[leave] at h
  split at h
  ·rename_i u1 H1 h1
   obtain⟨hb,n1,k1⟩:=runDef_sound hcall h1
   refine⟨n1.trans (leave_sound (fn:=fn) (tmps:=tmps) (R:=R) hcall d (ds.drop 1) _ _ _ _ h).1,fun N ρ w m hg hd hs hw hu hf k=>?_⟩
   obtain⟨cap,args',ds',rfl,hargs,hd'⟩:=hd
   obtain⟨n2,k2⟩:=leave_sound (fn:=fn) (tmps:=tmps) (R:=R) hcall d ds' _ _ _ _ h
   obtain⟨fn',b,hfn,hnm,hbody⟩:=hb
   have hnm' : ¬ (fn'.name = "runtime.NumGoroutine") := by simpa using hnm
   refine leaves_cons (f:=id) (args:=args'++cap) hu.ne (by simp[invoke,callFunc,hfn,hnm',hbody]) ?_
   refine(k1 N ρ w m (args'++cap) hg (by simpa using hargs) hs hw hu (hf.left n2)).mono ?_
   rintro e m' w' ⟨x,ρ1,rfl,st,hu1⟩
   exact k2 N ρ1 w' (settle m') (hg.mono st.ext) (hd'.mono st.ext) st.sim st.wf hu1.settle (hf.right n1 st) (fun ρ2 w2 m2 st2 hu2=>k ρ2 w2 m2 (st.trans st2) hu2)
  ·cases h
def RetRel (ρ:Emb):Rs→Ending→Prop
 | .v v,e=>∃ x,e=.returned x∧VRel ρ v x
 | .p v,e=>∃ x,e=.panicked [{ v:=x,recovered:=false }]∧VRel ρ v x
theorem runF_sound {P:Program} {lf:Nat} {call:CallT} (ih:CallSnd P call) {id:FuncId} {args:List V} {H H':Heap} {r:Rs} {cfn:CFn} (hfn:fnOf P id=some cfn) (h:runF P call lf cfn args H=some (r,H')) :
  HasBody P id∧H.Upto H' ∧
  ∀(N:Nat) (ρ:Emb) (w:World) (args':Array Value),GRel P ρ→VRels ρ args args'.toList→Sim N ρ H.get w→H.Wf→Free ρ H H' →
   Calls P id args' w fun e w'=>∃ ρ',RetRel ρ' r e∧Step N ρ H w ρ' H' w':=by
 obtain⟨fn,b,rs,hf,hname,hb,hr,rfl⟩:=fnOf_some hfn
 unfold runF at h
 split at h
 ·rename_i x s hrun
  obtain⟨n1,d1⟩:=code_sound ih lf b _ x s hrun
  have fin:∀(u:U),endF rs s.t (leave P call lf s.d u s.H)=some (r,H') →
    s.H.Upto H'∧∀(N:Nat) (ρ ρ1:Emb) (a1:Act) (w w1:World) (m:FrameMode),Step N ρ H w ρ1 s.H w1→Rel P fn.ntmps N ρ1 s.t s.H s.d a1 w1→URel ρ1 u m→Free ρ1 s.H H' →
     Leaves P fn a1.tmps (fun e w'=>∃ ρ',RetRel ρ' r e∧Step N ρ H w ρ' H' w') a1.defers m w1:=by
   intro u h
   cases hl:leave P call lf s.d u s.H with
   | none=>rw[hl] at h;cases h
   | some p=>
    obtain⟨u1,H1⟩:=p
    rw[hl] at h
    have e1:H1=H':=by
     unfold endF at h
     split at h
     ·rename_i e;cases e;split at h<;>cases h;rfl
     ·rename_i e;cases e;cases h;rfl
     ·cases h
    subst e1
    refine⟨(leave_sound (fn:=fn) (tmps:=#[]) (R:=fun _ _=>True) ih s.d [] u u1 s.H H1 hl).1,fun N ρ ρ1 a1 w w1 m st1 r1 hu hfr=>?_⟩
    obtain⟨_,k2⟩:=leave_sound (fn:=fn) (tmps:=a1.tmps) (R:=fun e w'=>∃ ρ',RetRel ρ' r e∧Step N ρ H w ρ' H1 w') ih s.d a1.defers u u1 s.H H1 hl
    refine k2 N ρ1 w1 m r1.g r1.d r1.s r1.wf hu hfr (fun ρ2 w2 m2 st2 hu2=>?_)
    have r2:Rel P fn.ntmps N ρ2 s.t H1 [] { a1 with defers:=[] } w2:=⟨r1.g.mono st2.ext,⟨r1.t.sz,fun i v hv=>VRel.mono st2.ext v _ (r1.t.val i v hv)⟩,rfl,st2.sim,st2.wf⟩
    unfold endF at h
    split at h
    ·rename_i e
     cases e
     have hu2:m2=_:=hu2
     subst hu2
     split at h
     ·rename_i vs hvs
      cases h
      obtain⟨y,hy,hres⟩:=results_run r2 hr hvs
      exact⟨y,hres,ρ2,⟨y,rfl,hy⟩,st1.trans st2⟩
     ·cases h
    ·rename_i e
     cases e
     cases h
     obtain⟨y,rfl,hy⟩:=hu2
     exact⟨ρ2,⟨y,rfl,hy⟩,st1.trans st2⟩
    ·cases h
  have go:∀(u:U),endF rs s.t (leave P call lf s.d u s.H)=some (r,H') →
    (∀(N:Nat) (ρ ρ1:Emb) (a1:Act) (w w1:World) (e:Exit),ExitRel ρ1 x e→(∀ m,URel ρ1 u m→Leaves P fn a1.tmps (fun e w'=>∃ ρ',RetRel ρ' r e∧Step N ρ H w ρ' H' w') a1.defers m w1)→bodyPostD P fn (fun e w'=>∃ ρ',RetRel ρ' r e∧Step N ρ H w ρ' H' w') e a1 w1) →
    HasBody P id∧H.Upto H'∧∀(N:Nat) (ρ:Emb) (w:World) (args':Array Value),GRel P ρ→VRels ρ args args'.toList→Sim N ρ H.get w→H.Wf→Free ρ H H' →
     Calls P id args' w fun e w'=>∃ ρ',RetRel ρ' r e∧Step N ρ H w ρ' H' w':=by
   intro u h hx
   obtain⟨n2,k2⟩:=fin u h
   refine⟨⟨fn,b,hf,hname,hb⟩,n1.trans n2,fun N ρ w args' hg ha hs hw hfree=>?_⟩
   refine calls_of_wp_defers hf hb (d1 N ρ _ w ⟨hg,args_rel fn.ntmps ha,rfl,hs,hw⟩ (hfree.left n2) _ (fun ρ' a' w' e he st r'=>?_))
   exact hx N ρ ρ' a' w w' e he (fun m hm=>k2 N ρ ρ' a' w w' m st r' hm (hfree.right n1 st))
  cases x with
  | n=>exact go none h (fun N ρ ρ1 a1 w w1 e he k=>by have he:e=_:=he;subst he;exact k _ rfl)
  | ret=>exact go none h (fun N ρ ρ1 a1 w w1 e he k=>by have he:e=_:=he;subst he;exact k _ rfl)
  | pan v=>exact go (some (v,false)) h (fun N ρ ρ1 a1 w w1 e he k=>by obtain⟨y,rfl,hy⟩:=he;exact k _ ⟨y,rfl,hy⟩)
  | ex id=>cases h
 ·cases h
end Go.Am
