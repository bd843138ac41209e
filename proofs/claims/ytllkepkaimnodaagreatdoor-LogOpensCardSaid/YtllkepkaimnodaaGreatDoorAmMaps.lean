import Derived.Test.YtllkepkaimnodaaGreatDoorAmMem2
import Derived.MapKept
set_option linter.unusedVariables false
set_option linter.unusedSimpArgs false
namespace Go.Am
def MonA (f:T→Heap→Option (V × Heap)):Prop:=∀ t H v H',f t H=some (v,H')→H.Upto H'
def Does (P:Program) (N:Nat) (ρ:Emb) (H:Heap) (w:World) (s:Sem Value) (v:V) (H':Heap):Prop:=
 ∃ v' ρ' w',s.run P w=.ok v' w'∧Step N ρ H w ρ' H' w'∧VRel ρ' v v'
def DoesU (P:Program) (N:Nat) (ρ:Emb) (H:Heap) (w:World) (s:Sem Unit) (H':Heap):Prop:=
 ∃ ρ' w',s.run P w=.ok () w'∧Step N ρ H w ρ' H' w'
def SndA (P:Program) (o:Oper) (f:T→Heap→Option (V × Heap)):Prop:=
 MonA f∧∀(n:Nat) (ρ:Emb) (t:T) (a:Act) (v:V) (N:Nat) (H H':Heap) (w:World),GRel P ρ→TRel n ρ t a→Sim N ρ H.get w→H.Wf→(∀ b,H.next≤b→b < H'.next→ρ (.run b)=none)→f t H=some (v,H') →
  ∃ nx v' ρ' w',(execOp a.eval o).run P w=.ok nx w'∧(nx=.value v'∨(nx=.skip∧v'=Go.undef))∧Step N ρ H w ρ' H' w'∧VRel ρ' v v'
def SndM (P:Program) (o:Oper) (f:T→Option (Obj × (Nat→V))):Prop:=
 ∀(n:Nat) (ρ:Emb) (t:T) (a:Act) (ob:Obj) (mk:Nat→V) (N:Nat) (H:Heap) (w:World),GRel P ρ→TRel n ρ t a→Sim N ρ H.get w→H.Wf→ρ (.run H.next)=none→f t=some (ob,mk) →
  ∃ v' ρ' w',(execOp a.eval o).run P w=.ok (.value v') w'∧Step N ρ H w ρ' (H.add ob) w'∧VRel ρ' (mk H.next) v'
section
variable {P:Program} {dst:Option Nat} {ty:TypeId} {pos:String} {after:Array Edge} {guard:Option (Nat × Bool)}
theorem isIntKey_some {t:TypeId} (h:isIntKey P t=true):∃ k,P.underlying t=some (.int k):=by
 unfold isIntKey at h
 split at h
 ·rename_i k hk;exact⟨k,hk⟩
 ·cases h
theorem isInt_some {v:V} (h:isInt v=true):∃ k n,v=.int k n:=by
 cases v<;>simp[isInt] at h
 exact⟨_,_,rfl⟩
theorem ERel.length {ρ:Emb}:∀ {es:List (V × V × Nat)} {xs:List MapEntry},ERel ρ es xs→xs.length=es.length
 | [],xs,h=>by
  have h:xs=[]:=h
  subst h;rfl
 | (k,v,b)::es,xs,h=>by
  obtain⟨x,y,ys,rfl,_,_,h4⟩:=h
  simp[h4.length]
theorem ERel.append {ρ:Emb}:∀ {es:List (V × V × Nat)} {xs:List MapEntry} {k v:V} {b:Nat} {x y:Value},ERel ρ es xs→VRel ρ k x→VRel ρ v y→ERel ρ (es++[(k,v,b)]) (xs++[⟨x,y,b⟩])
 | [],xs,k,v,b,x,y,h,hk,hv=>by
  have h:xs=[]:=h
  subst h;exact⟨x,y,[],rfl,hk,hv,rfl⟩
 | (k',v',b')::es,xs,k,v,b,x,y,h,hk,hv=>by
  obtain⟨x',y',ys,rfl,h2,h3,h4⟩:=h
  exact⟨x',y',_,rfl,h2,h3,ERel.append h4 hk hv⟩
theorem ERel.upd {ρ:Emb}:∀ {es:List (V × V × Nat)} {xs:List MapEntry} {k v:V} {b:Nat} {x y:Value} (i:Nat),ERel ρ es xs→VRel ρ k x→VRel ρ v y→ERel ρ (upd (k,v,b) es i) (xs.set i ⟨x,y,b⟩)
 | [],xs,k,v,b,x,y,i,h,hk,hv=>by
  have h:xs=[]:=h
  subst h;simp[ERel]
 | (k',v',b')::es,xs,k,v,b,x,y,0,h,hk,hv=>by
  obtain⟨x',y',ys,rfl,h2,h3,h4⟩:=h
  exact⟨x,y,ys,rfl,hk,hv,h4⟩
 | (k',v',b')::es,xs,k,v,b,x,y,i+1,h,hk,hv=>by
  obtain⟨x',y',ys,rfl,h2,h3,h4⟩:=h
  exact⟨x',y',_,rfl,h2,h3,ERel.upd i h4 hk hv⟩
theorem ERel.del {ρ:Emb}:∀ {es:List (V × V × Nat)} {xs:List MapEntry} (i:Nat),ERel ρ es xs→ERel ρ (del es i) (xs.eraseIdx i)
 | [],xs,i,h=>by
  have h:xs=[]:=h
  subst h;cases i<;>rfl
 | (k',v',b')::es,xs,0,h=>by
  obtain⟨x',y',ys,rfl,h2,h3,h4⟩:=h
  exact h4
 | (k',v',b')::es,xs,i+1,h=>by
  obtain⟨x',y',ys,rfl,h2,h3,h4⟩:=h
  exact⟨x',y',_,rfl,h2,h3,ERel.del i h4⟩
theorem findE_rel {ρ:Emb} {K kk:IntKind} {n:Int}:∀(es:List (V × V × Nat)) (xs:List MapEntry) (i:Nat) (r:Option (Nat × V × Nat)),ERel ρ es xs→findE (.int kk n) es i=some r →
  (r=none∧Instr.findNow (.int K) (.int kk n) xs i=some none) ∨
  ∃ m v born y,r=some (i+m,v,born)∧xs[m]?=some ⟨.int kk n,y,born⟩∧VRel ρ v y∧Instr.findNow (.int K) (.int kk n) xs i=some (some (i+m,y))
 | [],xs,i,r,h,hf=>by
  have h:xs=[]:=h
  subst h
  simp only[findE] at hf
  cases hf
  exact .inl ⟨rfl,rfl⟩
 | (k',v',b')::es,xs,i,r,h,hf=>by
  obtain⟨x,y,ys,rfl,h2,h3,h4⟩:=h
  simp only[findE] at hf
  cases k' with
  | int k2 m=>
   have h2:x=_:=h2
   subst h2
   simp only[sameKey] at hf
   cases hd:decide (kk=k2) with
   | false=>rw[hd] at hf;cases hf
   | true=>
    have:=of_decide_eq_true hd
    subst this
    rw[hd,Cy] at hf
    simp only at hf
    cases hb:(n==m) with
    | true=>
     rw[hb] at hf
     cases hf
     have:n=m:=by simpa using hb
     subst this
     exact .inr ⟨0,v',b',y,rfl,rfl,h3,by simp[Instr.findNow,Instr.sameNow]⟩
    | false=>
     rw[hb] at hf
     have e:Instr.findNow (.int K) (.int kk n) (⟨.int kk m,y,b'⟩::ys) i=Instr.findNow (.int K) (.int kk n) ys (i+1):=by simp[Instr.findNow,Instr.sameNow,hb]
     rw[e]
     rcases findE_rel es ys (i+1) r h4 hf with h | ⟨m',v,born,y',k1,k2,k3,k4⟩
     ·exact .inl h
     ·exact .inr ⟨m'+1,v,born,y',by rw[k1];simp[Nat.add_assoc,Nat.add_comm 1],by simpa using k2,k3,by rw[k4];simp[Nat.add_assoc,Nat.add_comm 1]⟩
  | bool _=>simp[sameKey] at hf
  | blk _=>simp[sameKey] at hf
  | str _=>simp[sameKey] at hf
  | ptr _=>simp[sameKey] at hf
  | slice _ _ _ _=>simp[sameKey] at hf
  | map _=>simp[sameKey] at hf
  | func _ _ _=>simp[sameKey] at hf
  | nilFunc=>simp[sameKey] at hf
  | iface _ _=>simp[sameKey] at hf
  | nilIface=>simp[sameKey] at hf
  | agg _=>simp[sameKey] at hf
  | tuple _=>simp[sameKey] at hf
theorem mapAt_some {H:Heap} {r:Bk} {es:List (V × V × Nat)} {c:Nat} (h:mapAt H r=some (es,c)):H.get r=some (.map es c):=by
 unfold mapAt at h
 split at h
 ·rename_i es' c' hg;cases h;exact hg
 ·cases h
theorem check_int {w:World} {K kk:IntKind} {t:TypeId} {n:Int} (e:Bool) (h:P.underlying t=some (.int K)):(Instr.checkKey e 10000 t (.int kk n)).run P w=.ok () w:=by
 have:Instr.checkKey e 10000 t (.int kk n)=Instr.checkKey e (9999+1) t (.int kk n):=rfl
 rw[this]
 unfold Instr.checkKey
 simp[run_underlying h]
theorem find_int {w:World} {K kk:IntKind} {t:TypeId} {n:Int} {l:List MapEntry} {r:Option (Nat × Value)} (h:P.underlying t=some (.int K)) (hf:Instr.findNow (.int K) (.int kk n) l 0=some r):(Instr.findKey t (.int kk n) l).run P w=.ok r w:=by
 simp[Instr.findKey,run_underlying h,hf]
theorem snd_lenM {t k e:TypeId} {x:Operand} {sx:S} (hu:P.underlying t=some (.map k e)) (hx:src P x=some sx):SndR P ⟨dst,.call ⟨.builtin .len,#[x],#[t]⟩,ty,pos,after,guard⟩ (lenMF sx):=by
 intro n ρ t' a v N H w hg ht hs hv
 unfold lenMF at hv
 split at hv
 ·rename_i h1
  cases hv
  have he:a.eval x=_:=src_rel hg ht hx h1
  exact⟨_,rfl,run_callB (by simp[builtin,Builtin.len_,run_underlying hu,he,goInt])⟩
 ·rename_i r h1
  split at hv
  ·rename_i es c hm
   cases hv
   obtain⟨l,hl,he⟩:=src_rel hg ht hx h1
   obtain⟨_,es',hb,hr⟩:=hs.obj _ _ l (mapAt_some hm) hl
   have hlen:=hr.length
   rw[Array.length_toList] at hlen
   exact⟨_,rfl,run_callB (by simp[builtin,Builtin.len_,run_underlying hu,he,MapKept.run_getObj_map hb,goInt,hlen])⟩
  ·cases hv
 ·cases hv
theorem snd_look {t k e:TypeId} {x i:Operand} {sx si:S} {z:V} {ok:Bool} (hu:P.underlying t=some (.map k e)) (hk:isIntKey P k=true) (hz:zeroV P e=some z) (hx:src P x=some sx) (hi:src P i=some si) :
  SndR P ⟨dst,.lookup t x i ok,ty,pos,after,guard⟩ (lookF z ok sx si):=by
 intro n ρ t' a v N H w hg ht hs hv
 obtain⟨K,hK⟩:=isIntKey_some hk
 obtain⟨z',hz',hzr⟩:=zeroV_rel hz ρ
 unfold lookF at hv
 split at hv
 ·rename_i r j h1 h2
  split at hv
  ·cases hv
  ·rename_i hj
   obtain⟨kk,m,rfl⟩:=isInt_some hj
   have hj:a.eval i=_:=src_rel hg ht hi h2
   have hxr:=src_rel hg ht hx h1
   split at hv
   ·have he:a.eval x=_:=hxr
    cases hv
    have hf:Instr.findNow (.int K) (.int kk m) (#[]:Array MapEntry).toList 0=some none:=rfl
    cases ok with
    | true=>exact⟨.tuple #[z',.bool false],⟨_,rfl,_,_,rfl,hz',_,_,rfl,rfl,rfl⟩,by simp[execOp,he,hj,Instr.lookup,run_underlying hu,check_int _ hK,find_int hK hf,hzr w]⟩
    | false=>exact⟨z',hz',by simp[execOp,he,hj,Instr.lookup,run_underlying hu,check_int _ hK,find_int hK hf,hzr w]⟩
   ·rename_i r
    obtain⟨l,hl,he⟩:=hxr
    split at hv
    ·rename_i es c hm
     obtain⟨_,es',hb,hr⟩:=hs.obj _ _ l (mapAt_some hm) hl
     split at hv
     ·rename_i p u q hf
      cases hv
      rcases findE_rel (K:=K) es es'.toList 0 _ hr hf with ⟨h,_⟩ | ⟨m',u',born,y,h,k2,k3,k4⟩
      ·cases h
      ·cases h
       cases ok with
       | true=>exact⟨.tuple #[y,.bool true],⟨_,rfl,_,_,rfl,k3,_,_,rfl,rfl,rfl⟩,by simp[execOp,he,hj,Instr.lookup,run_underlying hu,MapKept.run_getObj_map hb,check_int _ hK,find_int hK k4]⟩
       | false=>exact⟨y,k3,by simp[execOp,he,hj,Instr.lookup,run_underlying hu,MapKept.run_getObj_map hb,check_int _ hK,find_int hK k4]⟩
     ·rename_i hf
      cases hv
      rcases findE_rel (K:=K) es es'.toList 0 _ hr hf with ⟨_,h⟩ | ⟨m',u',born,y,h,k2,k3,k4⟩
      ·cases ok with
       | true=>exact⟨.tuple #[z',.bool false],⟨_,rfl,_,_,rfl,hz',_,_,rfl,rfl,rfl⟩,by simp[execOp,he,hj,Instr.lookup,run_underlying hu,MapKept.run_getObj_map hb,check_int _ hK,find_int hK h,hzr w]⟩
       | false=>exact⟨z',hz',by simp[execOp,he,hj,Instr.lookup,run_underlying hu,MapKept.run_getObj_map hb,check_int _ hK,find_int hK h,hzr w]⟩
      ·cases h
     ·cases hv
    ·cases hv
 ·cases hv
theorem snd_mkmap {t:TypeId}:SndM P ⟨dst,.makeMap t none,ty,pos,after,guard⟩ mkmapF:=by
 intro n ρ t' a ob mk N H w hg ht hs hw hf hv
 unfold mkmapF at hv
 cases hv
 refine⟨.map (some w.heap.size),ρ.add (.run H.next) ⟨w.heap.size,0,0,none⟩,w.alloc (.map #[] 0),by simp[execOp,Instr.makeMap],?_,⟨_,Emb.add_same _ _ _,rfl⟩⟩
 refine Step.make hs hw hf rfl rfl rfl rfl (by simp) (fun c hc=>heap_alloc_old _ _ _ hc) ⟨hs.low,#[],heap_alloc_new _ _,rfl⟩
theorem setObj_self {w:World} {c:Nat} {o:Go.Obj} (h:w.heap[c]?=some o):w.heap.setIfInBounds c o=w.heap:=by
 apply Array.ext_getElem?
 intro i
 by_cases hi:c=i
 ·subst hi
  have hlt:=(Array.getElem?_eq_some_iff.1 h).1
  rw[Array.getElem?_setIfInBounds_self_of_lt hlt,h]
 ·rw[Array.getElem?_setIfInBounds_ne hi]
theorem set_self {α:Type}:∀(l:List α) (i:Nat) (x:α),l[i]?=some x→l.set i x=l
 | [],i,x,h=>by simp at h
 | a::l,0,x,h=>by simp at h;subst h;rfl
 | a::l,i+1,x,h=>by simp at h;simp[set_self l i x h]
theorem setMap_step {N:Nat} {ρ:Emb} {H:Heap} {w:World} {r:Bk} {l:Loc} {es es1:List (V × V × Nat)} {c c1:Nat} {xs1:Array MapEntry} (hs:Sim N ρ H.get w) (hw:H.Wf) (hl:ρ r=some l) (hm:H.get r=some (.map es c)) (hr:ERel ρ es1 xs1.toList) :
  Step N ρ H w ρ (H.set r (.map es1 c1)) { w with heap:=w.heap.setIfInBounds l.c (.map xs1 c1) }:=by
 have hlt:=(hs.obj _ _ l hm hl).live_lt trivial
 obtain⟨hN,es',hb,_⟩:=hs.obj _ _ l hm hl
 refine Step.change hs hw hl hm trivial rfl rfl rfl (by simp) (fun k hk=>?_) ⟨hN,xs1,by simp[hlt],hr⟩
 simp[Array.getElem?_setIfInBounds_ne (Ne.symm hk)]
theorem modify_set {α:Type} (f:α→α):∀(l:List α) (i:Nat) (x:α),l[i]?=some x→l.modify i f=l.set i (f x)
 | [],i,x,h=>by simp at h
 | a::l,0,x,h=>by simp at h;subst h;rfl
 | a::l,i+1,x,h=>by simp at h;simp[modify_set f l i x h]
theorem sameBits_int (n:Nat) (k:IntKind) (m:Int):Instr.sameBits n (.int k m) (.int k m)=true:=by
 cases n<;>simp[Instr.sameBits]
theorem mapUpd_does {N:Nat} {ρ:Emb} {H H':Heap} {w:World} {t kt e:TypeId} {m k v:V} {xm xk xv:Value} {u:V} (hu:P.underlying t=some (.map kt e)) (hk:isIntKey P kt=true) (hs:Sim N ρ H.get w) (hw:H.Wf)
  (hm:VRel ρ m xm) (hkr:VRel ρ k xk) (hv:VRel ρ v xv) (h:mapUpd H m k v=some (u,H')):u=undef∧DoesU P N ρ H w (Instr.mapUpdate t xm xk xv) H':=by
 obtain⟨K,hK⟩:=isIntKey_some hk
 unfold mapUpd at h
 split at h
 ·rename_i r hj
  obtain⟨kk,n,rfl⟩:=isInt_some hj
  have hkr:xk=_:=hkr
  subst hkr
  obtain⟨l,hl,rfl⟩:=hm
  split at h
  ·rename_i es c hm
   have hg:=mapAt_some hm
   obtain⟨_,es',hb,hr⟩:=hs.obj _ _ l hg hl
   split at h
   ·rename_i i u' born hf
    cases h
    rcases findE_rel (K:=K) es es'.toList 0 _ hr hf with ⟨h,_⟩ | ⟨m',u'',born',y,h,k2,k3,k4⟩
    ·cases h
    ·cases h
     have k2':es'[m']?=some ⟨.int kk n,y,born⟩:=by simpa using k2
     refine⟨rfl,ρ,_,?_,setMap_step (xs1:=es'.modify m' fun e=>{ e with key:=.int kk n,val:=xv }) hs hw hl hg ?_⟩
     ·simp[Instr.mapUpdate,run_underlying hu,MapKept.run_getObj_map hb,check_int _ hK,find_int hK k4,Instr.keyThatStays,k2',sameBits_int,MapKept.run_setObj_map _ hb]
     ·rw[Array.toList_modify,modify_set _ _ _ _ k2,Nat.zero_add]
      exact hr.upd m' rfl hv
   ·rename_i hf
    cases h
    rcases findE_rel (K:=K) es es'.toList 0 _ hr hf with ⟨_,h⟩ | ⟨m',u'',born',y,h,k2,k3,k4⟩
    ·refine⟨rfl,ρ,_,?_,setMap_step (xs1:=es'.push ⟨.int kk n,xv,c⟩) (c1:=c+1) hs hw hl hg ?_⟩
     ·simp[Instr.mapUpdate,run_underlying hu,MapKept.run_getObj_map hb,check_int _ hK,find_int hK h,MapKept.run_setObj_map _ hb]
     ·rw[Array.toList_push];exact hr.append rfl hv
    ·cases h
   ·cases h
  ·cases h
 ·cases h
theorem mapDel_does {N:Nat} {ρ:Emb} {H H':Heap} {w:World} {t kt e ty:TypeId} {m k:V} {xm xk:Value} {u:V} {ts:Array TypeId} (hts:ts[0]?=some t) (hu:P.underlying t=some (.map kt e)) (hk:isIntKey P kt=true) (hs:Sim N ρ H.get w) (hw:H.Wf)
  (hm:VRel ρ m xm) (hkr:VRel ρ k xk) (h:mapDel H m k=some (u,H')):Does P N ρ H w (Builtin.delete_ ts ty #[xm,xk]) u H':=by
 obtain⟨K,hK⟩:=isIntKey_some hk
 unfold mapDel at h
 split at h
 ·rename_i hj
  obtain⟨kk,n,rfl⟩:=isInt_some hj
  have hkr:xk=_:=hkr
  subst hkr
  have hm:xm=_:=hm
  subst hm
  cases h
  exact⟨.tuple #[],ρ,w,by simp[Builtin.delete_,hts,run_underlying hu,check_int _ hK],Step.refl hs hw,⟨#[],rfl,rfl⟩⟩
 ·rename_i r hj
  obtain⟨kk,n,rfl⟩:=isInt_some hj
  have hkr:xk=_:=hkr
  subst hkr
  obtain⟨l,hl,rfl⟩:=hm
  split at h
  ·rename_i es c hm
   have hg:=mapAt_some hm
   obtain⟨_,es',hb,hr⟩:=hs.obj _ _ l hg hl
   split at h
   ·rename_i i u' born hf
    cases h
    rcases findE_rel (K:=K) es es'.toList 0 _ hr hf with ⟨h,_⟩ | ⟨m',u'',born',y,h,k2,k3,k4⟩
    ·cases h
    ·cases h
     refine⟨.tuple #[],ρ,_,?_,setMap_step (xs1:=es'.eraseIdxIfInBounds m') hs hw hl hg ?_,⟨#[],rfl,rfl⟩⟩
     ·simp[Builtin.delete_,hts,run_underlying hu,MapKept.run_getObj_map hb,check_int _ hK,find_int hK k4,MapKept.run_setObj_map _ hb]
     ·rw[Array.toList_eraseIdxIfInBounds,Nat.zero_add];exact hr.del m'
   ·rename_i hf
    cases h
    rcases findE_rel (K:=K) es es'.toList 0 _ hr hf with ⟨_,h⟩ | ⟨m',u'',born',y,h,k2,k3,k4⟩
    ·have e:=setObj_self hb
     refine⟨.tuple #[],ρ,w,?_,Step.refl hs hw,⟨#[],rfl,rfl⟩⟩
     simp[Builtin.delete_,hts,run_underlying hu,MapKept.run_getObj_map hb,check_int _ hK,find_int hK h,MapKept.run_setObj_map _ hb,e]
    ·cases h
   ·cases h
  ·cases h
 ·cases h
theorem mapEnt_does {N:Nat} {ρ:Emb} {H H':Heap} {w:World} {t kt e:TypeId} {m k z:V} {xm xk:Value} {u:V} (hu:P.underlying t=some (.map kt e)) (hk:isIntKey P kt=true) (hz:zeroV P e=some z) (hs:Sim N ρ H.get w) (hw:H.Wf)
  (hm:VRel ρ m xm) (hkr:VRel ρ k xk) (h:mapEnt z H m k=some (u,H')):Does P N ρ H w (Instr.mapEntry t xm xk) u H':=by
 obtain⟨K,hK⟩:=isIntKey_some hk
 obtain⟨z',hz',hzr⟩:=zeroV_rel hz ρ
 unfold mapEnt at h
 split at h
 ·rename_i r hj
  obtain⟨kk,n,rfl⟩:=isInt_some hj
  have hkr:xk=_:=hkr
  subst hkr
  obtain⟨l,hl,rfl⟩:=hm
  split at h
  ·rename_i es c hm
   have hg:=mapAt_some hm
   obtain⟨_,es',hb,hr⟩:=hs.obj _ _ l hg hl
   split at h
   ·rename_i i u' born hf
    cases h
    rcases findE_rel (K:=K) es es'.toList 0 _ hr hf with ⟨h,_⟩ | ⟨m',u'',born',y,h,k2,k3,k4⟩
    ·cases h
    ·cases h
     have k2':es'[m']?=some ⟨.int kk n,y,born⟩:=by simpa using k2
     have e:w.heap.setIfInBounds l.c (.map (es'.modify m' fun e=>{ e with key:=.int kk n }) c)=w.heap:=by
      have em:(es'.modify m' fun e=>{ e with key:=.int kk n })=es':=by
       apply Array.ext'
       rw[Array.toList_modify,modify_set _ _ _ _ k2]
       exact set_self _ _ _ k2
      rw[em]
      exact setObj_self hb
     refine⟨.tuple #[y,.int .i64 born],ρ,w,?_,Step.refl hs hw,⟨_,rfl,_,_,rfl,k3,_,_,rfl,rfl,rfl⟩⟩
     simp[Instr.mapEntry,run_underlying hu,MapKept.run_getObj_map hb,check_int _ hK,find_int hK k4,Instr.keyThatStays,k2',sameBits_int,MapKept.run_setObj_map _ hb,goInt,e]
   ·rename_i hf
    cases h
    rcases findE_rel (K:=K) es es'.toList 0 _ hr hf with ⟨_,h⟩ | ⟨m',u'',born',y,h,k2,k3,k4⟩
    ·refine⟨.tuple #[z',.int .i64 c],ρ,_,?_,setMap_step (xs1:=es'.push ⟨.int kk n,z',c⟩) (c1:=c+1) hs hw hl hg ?_,⟨_,rfl,_,_,rfl,hz',_,_,rfl,rfl,rfl⟩⟩
     ·simp[Instr.mapEntry,run_underlying hu,MapKept.run_getObj_map hb,check_int _ hK,find_int hK h,MapKept.run_setObj_map _ hb,hzr w,goInt]
     ·rw[Array.toList_push];exact hr.append rfl hz'
    ·cases h
   ·cases h
  ·cases h
 ·cases h
theorem setBorn_rel {ρ:Emb} {v:V} {y:Value} {born:Nat} (hv:VRel ρ v y):∀(es:List (V × V × Nat)) (xs:List MapEntry) (es':List (V × V × Nat)),ERel ρ es xs→setBorn born v es=some es' →
  ∃ i e,xs.findIdx? (fun e=>(e.born:Int)==(born:Int))=some i∧xs[i]?=some e∧ERel ρ es' (xs.set i { e with val:=y })
 | [],xs,es',h,hb=>by simp only[setBorn] at hb;cases hb
 | (k,u,b)::es,xs,es',h,hb=>by
  obtain⟨x,y',ys,rfl,h2,h3,h4⟩:=h
  simp only[setBorn] at hb
  cases hbb:b.beq born with
  | true=>
   rw[hbb] at hb
   cases hb
   have:=beq_iff.1 hbb
   subst this
   exact⟨0,_,by rw[List.findIdx?_cons];simp,rfl,⟨x,y,ys,rfl,h2,hv,h4⟩⟩
  | false=>
   rw[hbb] at hb
   have hne:=beq_false.1 hbb
   cases hr:setBorn born v es with
   | none=>rw[hr] at hb;cases hb
   | some es1=>
    rw[hr] at hb
    cases hb
    obtain⟨i,e,k1,k2,k3⟩:=setBorn_rel hv es ys es1 h4 hr
    refine⟨i+1,e,?_,by simpa using k2,⟨x,y',_,rfl,h2,h3,k3⟩⟩
    rw[List.findIdx?_cons]
    have hnb:((b:Int)==(born:Int))=false:=by simp;omega
    simp only[hnb,k1]
    simp
theorem entSt_does {N:Nat} {ρ:Emb} {H H':Heap} {w:World} {t:TypeId} {m s v:V} {xm xs xv:Value} {u:V} (hs:Sim N ρ H.get w) (hw:H.Wf)
  (hm:VRel ρ m xm) (hsr:VRel ρ s xs) (hv:VRel ρ v xv) (h:entSt H m s v=some (u,H')):u=undef∧DoesU P N ρ H w (Instr.entryStore t xm xs xv) H':=by
 unfold entSt at h
 split at h
 ·rename_i r born hj
  obtain⟨kk,rfl⟩:=asNat_some hj
  have hsr:xs=_:=hsr
  subst hsr
  obtain⟨l,hl,rfl⟩:=hm
  split at h
  ·rename_i es c hm
   have hg:=mapAt_some hm
   obtain⟨_,es',hb,hr⟩:=hs.obj _ _ l hg hl
   split at h
   ·rename_i es1 hb1
    cases h
    obtain⟨i,e,k1,k2,k3⟩:=setBorn_rel hv es es'.toList es1 hr hb1
    have k1':es'.findIdx? (fun e=>(e.born:Int)==(born:Int))=some i:=by rw[← List.findIdx?_toArray] at k1;simpa using k1
    refine⟨rfl,ρ,_,?_,setMap_step (xs1:=es'.modify i fun e=>{ e with val:=xv }) hs hw hl hg ?_⟩
    ·simp only[Int.ofNat_eq_natCast]
     simp[Instr.entryStore,MapKept.run_getObj_map hb,asInt,asIntOf,k1',MapKept.run_setObj_map _ hb]
    ·rw[Array.toList_modify,modify_set _ _ _ _ k2];exact k3
   ·cases h
  ·cases h
 ·cases h
end
end Go.Am
