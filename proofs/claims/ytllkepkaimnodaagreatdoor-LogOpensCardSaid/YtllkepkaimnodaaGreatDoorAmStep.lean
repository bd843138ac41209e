import Derived.Test.YtllkepkaimnodaaGreatDoorAmPrep
set_option linter.unusedVariables false
set_option linter.unusedSimpArgs false
namespace Go.Am
def DRel (ρ:Emb):List (FuncId × List V)→List Deferred→Prop
 | [],ds=>ds=[]
 | (id,args)::d,ds=>∃(cap args':Array Value) (ds':List Deferred),ds={ target:=.fn (.func id) cap,args:=args' }::ds'∧VRels ρ args (args'.toList++cap.toList)∧DRel ρ d ds'
theorem DRel.mono {ρ ρ':Emb} (h:Ext ρ ρ'):∀ {d:List (FuncId × List V)} {ds:List Deferred},DRel ρ d ds→DRel ρ' d ds
 | [],ds,r=>r
 | (id,args)::d,ds,r=>by
  obtain⟨c,a,ds',h1,h2,h3⟩:=r
  exact⟨c,a,ds',h1,VRels.mono h _ _ h2,DRel.mono h h3⟩
structure Rel (P:Program) (n N:Nat) (ρ:Emb) (t:T) (H:Heap) (d:List (FuncId × List V)) (a:Act) (w:World):Prop where
 g:GRel P ρ
 t:TRel n ρ t a
 d:DRel ρ d a.defers
 s:Sim N ρ H.get w
 wf:H.Wf
def Free (ρ:Emb) (H H':Heap):Prop:=QOk H'∧∀ b,H.next≤b→b < H'.next→ρ (.run b)=none
def CallSndV (P:Program) (call:CallT):Prop:=
 ∀(id:FuncId) (args:List V) (H:Heap) (v:V) (H':Heap),call id args H=some (.v v,H')→HasBody P id∧H.Upto H' ∧
  ∀(N:Nat) (ρ:Emb) (w:World) (args':Array Value),GRel P ρ→VRels ρ args args'.toList→Sim N ρ H.get w→H.Wf→Free ρ H H' →
   Calls P id args' w fun e w'=>∃ x ρ',e=.returned x∧Step N ρ H w ρ' H' w'∧VRel ρ' v x
def CallSndP (P:Program) (call:CallT):Prop:=
 ∀(id:FuncId) (args:List V) (H:Heap) (v:V) (H':Heap),call id args H=some (.p v,H')→HasBody P id∧H.Upto H' ∧
  ∀(N:Nat) (ρ:Emb) (w:World) (args':Array Value),GRel P ρ→VRels ρ args args'.toList→Sim N ρ H.get w→H.Wf→Free ρ H H' →
   Calls P id args' w fun e w'=>∃ x ρ',e=.panicked [{ v:=x,recovered:=false }]∧Step N ρ H w ρ' H' w'∧VRel ρ' v x
def CallSnd (P:Program) (call:CallT):Prop:=CallSndV P call∧CallSndP P call
def NoPan (call:CallT):Prop:=∀(id:FuncId) (args:List V) (H:Heap) (v:V) (H':Heap),call id args H≠some (.p v,H')
theorem CallSndV.calm {P:Program} {call:CallT} (h:CallSndV P call) (hn:NoPan call):CallSnd P call:=⟨h,fun id args H v H' e=>absurd e (hn id args H v H')⟩
def ExitRel (ρ:Emb):X→Exit→Prop
 | .n,e=>e=.normal
 | .ex id,e=>e=.exit id
 | .ret,e=>e=.ret
 | .pan v,e=>∃ x,e=.panic [{ v:=x,recovered:=false }]∧VRel ρ v x
theorem Rel.step {P:Program} {n N:Nat} {ρ ρ':Emb} {t:T} {H H':Heap} {d:List (FuncId × List V)} {a:Act} {w w':World} (r:Rel P n N ρ t H d a w) (s:Step N ρ H w ρ' H' w'):Rel P n N ρ' t H' d a w':=
 ⟨r.g.mono s.ext,r.t.mono s.ext,r.d.mono s.ext,s.sim,s.wf⟩
theorem Act.put_defers' (a:Act) (dst:Option Nat) (v:Value):(a.put dst v).defers=a.defers:=by cases dst<;>rfl
theorem Rel.put {P:Program} {n N:Nat} {ρ:Emb} {t:T} {H:Heap} {d:List (FuncId × List V)} {a:Act} {w:World} (r:Rel P n N ρ t H d a w) {dst:Option Nat} {v:V} {x:Value} (hr:VRel ρ v x) (hd:dstOk n dst=true∨(v=undef∧x=Go.undef)) :
  Rel P n N ρ (setT (dst.map Tr.path) v t) H d (a.put dst x) w:=
 ⟨r.g,r.t.put hr hd,by rw[Act.put_defers'];exact r.d,r.s,r.wf⟩
theorem Rel.refl {P:Program} {n N:Nat} {ρ:Emb} {t:T} {H:Heap} {d:List (FuncId × List V)} {a:Act} {w:World} (r:Rel P n N ρ t H d a w):Step N ρ H w ρ H w:=Step.refl r.s r.wf
def OpDoes (P:Program) (n:Nat) (o:Oper) (t:T) (H:Heap) (d:List (FuncId × List V)) (t1:T) (H1:Heap) (d1:List (FuncId × List V)):Prop:=
 ∀(N:Nat) (ρ:Emb) (a:Act) (w:World),Rel P n N ρ t H d a w→Free ρ H H1→∀(K:Act→World→Prop) (Q:Exit→Act→World→Prop),
  (∀ ρ' a' w',Step N ρ H w ρ' H1 w'→Rel P n N ρ' t1 H1 d1 a' w'→K a' w')→o.wp P a w K Q
def OpPans (P:Program) (o:Oper) (n:Nat) (t:T) (H:Heap) (d:List (FuncId × List V)) (v:V) (H1:Heap):Prop:=
 ∀(N:Nat) (ρ:Emb) (a:Act) (w:World),Rel P n N ρ t H d a w→Free ρ H H1→∀(K:Act→World→Prop) (Q:Exit→Act→World→Prop),
  (∀ ρ' w' x,Step N ρ H w ρ' H1 w'→VRel ρ' v x→Q (.panic [{ v:=x,recovered:=false }]) a w')→o.wp P a w K Q
theorem runOp_does {P:Program} {n:Nat} {call:CallT} (hcall:CallSnd P call) {k:T→Heap→List (FuncId × List V)→Option (X × St)} {o:Oper} {s:OpS} {t:T} {H:Heap} {d:List (FuncId × List V)} {x:X} {s':St}
  (hs:OpSnd P o s) (hdst:dstOk n o.dst=true) (h:runOp call k (o.dst.map Tr.path) s t H d=some (x,s')) :
  (∃ t1 H1 d1,k t1 H1 d1=some (x,s')∧H.Upto H1∧OpDoes P n o t H d t1 H1 d1)∨∃ v H1,x=.pan v∧s'=⟨t,H1,d⟩∧H.Upto H1∧OpPans P o n t H d v H1:=by
 unfold runOp at h
 cases s with
 | p f=>
  dsimp only at h
  cases hf:f t with
  | none=>rw[hf] at h;cases h
  | some v=>
   rw[hf] at h
   refine .inl ⟨_,_,_,h,.refl _,fun N ρ a w r hfree K Q hK=>?_⟩
   obtain⟨v',hv,hrun⟩:=hs n ρ t a v r.g r.t hf
   unfold Oper.wp
   rw[hrun w,Oper.upon_value]
   exact hK ρ _ w r.refl (r.put hv (.inl hdst))
 | r f=>
  dsimp only at h
  cases hf:f t H with
  | none=>rw[hf] at h;cases h
  | some v=>
   rw[hf] at h
   refine .inl ⟨_,_,_,h,.refl _,fun N ρ a w r hfree K Q hK=>?_⟩
   obtain⟨v',hv,hrun⟩:=hs n ρ t a v N H w r.g r.t r.s hf
   unfold Oper.wp
   rw[hrun,Oper.upon_value]
   exact hK ρ _ w r.refl (r.put hv (.inl hdst))
 | m f=>
  dsimp only at h
  cases hf:f t with
  | none=>rw[hf] at h;cases h
  | some p=>
   obtain⟨ob,mk⟩:=p
   rw[hf] at h
   refine .inl ⟨_,_,_,h,.add _ _,fun N ρ a w r hfree K Q hK=>?_⟩
   obtain⟨v',ρ',w',hrun,hstep,hv⟩:=hs n ρ t a ob mk N H w r.g r.t r.s r.wf (hfree.2 _ (Nat.le_refl _) (by simp)) hf
   unfold Oper.wp
   rw[hrun,Oper.upon_value]
   exact hK ρ' _ w' hstep ((r.step hstep).put hv (.inl hdst))
 | a f=>
  dsimp only at h
  cases hf:f t H with
  | none=>rw[hf] at h;cases h
  | some p=>
   obtain⟨v,H1⟩:=p
   rw[hf] at h
   refine .inl ⟨_,_,_,h,hs.1 _ _ _ _ hf,fun N ρ a w r hfree K Q hK=>?_⟩
   obtain⟨nx,v',ρ',w',hrun,hnx,hstep,hv⟩:=hs.2 n ρ t a v N H H1 w r.g r.t r.s r.wf hfree.2 hf
   unfold Oper.wp
   rw[hrun]
   rcases hnx with rfl | ⟨rfl,rfl⟩
   ·rw[Oper.upon_value]
    exact hK ρ' _ w' hstep ((r.step hstep).put hv (.inl hdst))
   ·rw[Oper.upon_skip]
    exact hK ρ' _ w' hstep ((r.step hstep).put hv (.inl hdst))
 | c f=>
  dsimp only at h
  cases hf:f t with
  | none=>rw[hf] at h;cases h
  | some p=>
   obtain⟨id,args⟩:=p
   rw[hf] at h
   dsimp only at h
   split at h
   ·rename_i v H1 hc
    obtain⟨hb,hn,hsnd⟩:=hcall.1 id args H v H1 hc
    refine .inl ⟨_,_,_,h,hn,fun N ρ a w r hfree K Q hK=>?_⟩
    obtain⟨args',hargs,hrun⟩:=hs n ρ t a id args r.g r.t hf hb
    unfold Oper.wp
    rw[hrun w,Oper.upon_enter]
    refine(hsnd N ρ w args' r.g hargs r.s r.wf hfree).mono ?_
    rintro e w' ⟨x,ρ',rfl,hstep,hv⟩
    exact hK ρ' _ w' hstep ((r.step hstep).put hv (.inl hdst))
   ·rename_i v H1 hc
    cases h
    obtain⟨hb,hn,hsnd⟩:=hcall.2 id args H v H1 hc
    refine .inr ⟨v,H1,rfl,rfl,hn,fun N ρ a w r hfree K Q hK=>?_⟩
    obtain⟨args',hargs,hrun⟩:=hs n ρ t a id args r.g r.t hf hb
    unfold Oper.wp
    rw[hrun w,Oper.upon_enter]
    refine(hsnd N ρ w args' r.g hargs r.s r.wf hfree).mono ?_
    rintro e w' ⟨x,ρ',rfl,hstep,hv⟩
    exact hK ρ' w' x hstep hv
   ·cases h
 | d f=>
  dsimp only at h
  cases hf:f t with
  | none=>rw[hf] at h;cases h
  | some p=>
   obtain⟨id,args⟩:=p
   rw[hf] at h
   refine .inl ⟨_,_,_,h,.refl _,fun N ρ a w r hfree K Q hK=>?_⟩
   obtain⟨cap,args',hargs,hrun⟩:=hs n ρ t a id args r.g r.t hf
   unfold Oper.wp
   rw[hrun w,Oper.upon_defer]
   have r':Rel P n N ρ t H ((id,args)::d) { a with defers:={ target:=.fn (.func id) cap,args:=args' }::a.defers } w:=⟨r.g,⟨r.t.sz,r.t.val⟩,⟨cap,args',_,rfl,hargs,r.d⟩,r.s,r.wf⟩
   exact hK ρ _ w r.refl (r'.put (VRel.undef _) (.inl hdst))
 | x f=>
  dsimp only at h
  split at h
  ·rename_i ty v hf
   cases h
   refine .inr ⟨_,_,rfl,rfl,.refl _,fun N ρ a w r hfree K Q hK=>?_⟩
   obtain⟨v',hv,hrun⟩:=hs n ρ t a ty v r.g r.t hf
   unfold Oper.wp
   rw[hrun w,Oper.upon_panic]
   exact hK ρ w _ r.refl hv
  ·cases h
 | rcv=>cases h
theorem wanted_rel {P:Program} {n:Nat} {ρ:Emb} {t:T} {a:Act} {ops:Array Oper} {o:Oper} {b:Bool} (ht:TRel n ρ t a) (h:wanted t (prepOper P n ops o).guard=some b):Region.wanted o (yielded ops a.tmps)=b:=by
 unfold prepOper at h
 dsimp only at h
 cases hg:o.guard with
 | none=>rw[hg] at h;simp only[Option.map_none,wanted] at h;cases h;simp[Region.wanted,hg]
 | some g=>
  obtain⟨j,want⟩:=g
  rw[hg] at h
  simp only[Option.map_some] at h
  cases hj:(ops[j]?).bind (·.dst) with
  | none=>rw[hj] at h;simp only[Option.map_none,wanted] at h;cases h
  | some u=>
   rw[hj] at h
   simp only[Option.map_some,wanted] at h
   have hy:yielded ops a.tmps j=match a.tmps[u]? with | some (.bool b)=>some b | _=>none:=by
    simp only[yielded,hj,Option.bind_some]
    rfl
   split at h
   ·rename_i c hc
    cases h
    have hv:=ht.val u _ hc
    have hv:a.tmps.getD u Go.undef=.bool c:=hv
    have hlt:a.tmps[u]?=some (.bool c):=by
     cases hu:a.tmps[u]? with
     | none=>simp[Array.getD,Array.getElem?_eq_none_iff.1 hu,Nat.not_lt.2 (Array.getElem?_eq_none_iff.1 hu),Go.undef] at hv
     | some y=>
      obtain⟨hl,hy⟩:=Array.getElem?_eq_some_iff.1 hu
      simp[Array.getD,hl,hy] at hv
      rw[hv]
    simp only[Region.wanted,hg,hy,hlt,Cz]
    cases c<;>cases want<;>rfl
   ·rename_i hc
    cases h
    have hv:=ht.val u _ hc
    obtain⟨xs,hv,hxs⟩:=hv
    have hne:∀ c,a.tmps[u]?≠some (.bool c):=by
     intro c hu
     obtain⟨hl,hy⟩:=Array.getElem?_eq_some_iff.1 hu
     simp[Array.getD,hl,hy] at hv
    simp only[Region.wanted,hg,hy]
    cases want<;>rfl
   ·cases h
def Ops (P:Program) (n:Nat) (ops:Array Oper) (k:Nat) (ls:List Oper) (t:T) (H:Heap) (d:List (FuncId × List V)) (x:X) (s':St):Prop:=
 H.Upto s'.H∧∀(N:Nat) (ρ:Emb) (a:Act) (w:World),Rel P n N ρ t H d a w→Free ρ H s'.H→∀(Q:Exit→Act→World→Prop),
  (∀ ρ' a' w' e,ExitRel ρ' x e→Step N ρ H w ρ' s'.H w'→Rel P n N ρ' s'.t s'.H s'.d a' w'→Q e a' w')→wpOps P ops Q (List.range' k ls.length) a w
theorem Free.left {ρ:Emb} {H H1 H2:Heap} (h:Free ρ H H2) (h1:H1.Upto H2):Free ρ H H1:=⟨h1.2 h.1,fun b k1 k2=>h.2 b k1 (by have:=h1.1;omega)⟩
theorem Free.right {N:Nat} {ρ ρ1:Emb} {H H1 H2:Heap} {w w1:World} (h:Free ρ H H2) (h1:H.Upto H1) (s:Step N ρ H w ρ1 H1 w1):Free ρ1 H1 H2:=⟨h.1,fun b k1 k2=>by
 have h1:=h1.1
 cases hb:ρ1 (.run b) with
 | none=>rfl
 | some l=>
  rcases s.new _ l hb with h' | ⟨⟨n,e,_,h'⟩,_⟩
  ·rw[h.2 b (by omega) k2] at h';cases h'
  ·cases e;omega⟩
theorem ops_sound {P:Program} {n:Nat} {call:CallT} (hcall:CallSnd P call) {ops:Array Oper}:∀(ls:List Oper) (k:Nat) (t:T) (H:Heap) (d:List (FuncId × List V)) (x:X) (s':St),
  (∀ i o,ls[i]?=some o→ops[k+i]?=some o)→runOps call (ls.map (prepOper P n ops)) t H d=some (x,s')→Ops P n ops k ls t H d x s'
 | [],k,t,H,d,x,s',hsub,h=>by
  cases h
  refine⟨.refl _,fun N ρ a w r hfree Q hQ=>?_⟩
  exact hQ ρ a w _ rfl r.refl r
 | o::ls,k,t,H,d,x,s',hsub,h=>by
  have h:runIOp call (runOps call (ls.map (prepOper P n ops))) (prepOper P n ops o) t H d=some (x,s'):=h
  have ho:ops[k]?=some o:=hsub 0 o rfl
  have hsub':∀ i o',ls[i]?=some o'→ops[k+1+i]?=some o':=fun i o' hi=>by
   have:=hsub (i+1) o' (by simpa using hi)
   rwa [show k+(i+1)=k+1+i by omega] at this
  unfold runIOp at h
  split at h
  ·rename_i hwant
   split at h
   ·rename_i s hs
    obtain⟨hdst,hprep⟩:dstOk n o.dst=true∧prep P o.op=some s:=by
     unfold prepOper at hs
     dsimp only at hs
     split at hs
     ·rename_i hd;exact⟨hd,hs⟩
     ·cases hs
    have hsnd:OpSnd P o s:=by
     obtain⟨dst,op,ty,pos,after,guard⟩:=o
     exact prep_sound hprep
    rcases runOp_does hcall hsnd hdst h with ⟨t1,H1,d1,hk,hn,hdoes⟩ | ⟨v,H1,rfl,rfl,hn,hpans⟩
    ·obtain⟨hn',hrest⟩:=ops_sound hcall ls (k+1) t1 H1 d1 x s' hsub' hk
     refine⟨hn.trans hn',fun N ρ a w r hfree Q hQ=>?_⟩
     simp only[List.length_cons,List.range'_succ,wpOps,ho]
     rw[if_pos (wanted_rel r.t hwant)]
     refine .inl (hdoes N ρ a w r (hfree.left hn') _ _ (fun ρ1 a1 w1 hstep hrel=>?_))
     exact hrest N ρ1 a1 w1 hrel (hfree.right hn hstep) Q (fun ρ2 a2 w2 e he hstep2 hrel2=>hQ ρ2 a2 w2 e he (hstep.trans hstep2) hrel2)
    ·refine⟨hn,fun N ρ a w r hfree Q hQ=>?_⟩
     simp only[List.length_cons,List.range'_succ,wpOps,ho]
     rw[if_pos (wanted_rel r.t hwant)]
     exact .inl (hpans N ρ a w r hfree _ _ (fun ρ1 w1 x hstep hv=>hQ ρ1 a w1 _ ⟨x,rfl,hv⟩ hstep (r.step hstep)))
   ·cases h
  ·rename_i hwant
   obtain⟨hn',hrest⟩:=ops_sound hcall ls (k+1) _ H d x s' hsub' h
   refine⟨hn',fun N ρ a w r hfree Q hQ=>?_⟩
   simp only[List.length_cons,List.range'_succ,wpOps,ho]
   rw[if_neg (by rw[wanted_rel r.t hwant];decide)]
   exact hrest N ρ _ w (r.put (VRel.undef _) (.inr ⟨rfl,rfl⟩)) hfree Q hQ
  ·cases h
end Go.Am
