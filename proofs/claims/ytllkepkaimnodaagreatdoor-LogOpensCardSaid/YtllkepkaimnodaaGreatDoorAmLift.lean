import Derived.Test.YtllkepkaimnodaaGreatDoorAmArgs
import Derived.Carry
import Derived.ProofKit
set_option linter.unusedVariables false
set_option linter.unusedSimpArgs false
namespace Go.Am
open Go.ChangeShapes Go.RowKit
def shK:Sh→TK
 | .blk=>.bk
 | .nil=>.ag
 | .seq _ _=>.ag
 | _=>.sc
def FitsV (a:Nat→Option Obj) (s:Sh) (v:V):Prop:=∃ C,Fits a s C∧unc (shK s) C=some v
def FitsAll (a:Nat→Option Obj):List Sh→List V→Prop
 | [],vs=>vs=[]
 | s::ss,vs=>∃ u us,vs=u::us∧FitsV a s u∧FitsAll a ss us
def shAll (P:Program) (d:Nat):List TypeId→Option (List Sh)
 | []=>some []
 | t::ts=>match shOf P d t,shAll P d ts with
  | some s,some ss=>some (s::ss)
  | _,_=>none
section
variable {H':Type} {enc:TypeId × Value→H'} {P:Program} {w:World} {held:Bool}
theorem FitsV.mono {a a1:Nat→Option Obj} (h:Keeps a a1) {s:Sh} {v:V} (k:FitsV a s v):FitsV a1 s v:=by
 obtain⟨C,k1,k2⟩:=k
 exact⟨C,Fits.mono h s C k1,k2⟩
theorem okWide_agg {W:World} {r:Reach} {base:Nat} {t:TypeId} {v:Value} {D:TypeDesc} (ht:P.underlying t=some D) (ha:aggD D=true) (h:Value.okWide P W r base t v):∃ cs,v=.agg cs:=by
 unfold Value.okWide at h
 rw[ht] at h
 cases D<;>simp[aggD] at ha
 ·obtain⟨cs,h,_⟩:=h;exact⟨cs,h⟩
 ·obtain⟨cs,h,_⟩:=h;exact⟨cs,h⟩
def scD:TypeDesc→Bool
 | .bool=>true
 | .int _=>true
 | .string=>true
 | .slice _=>true
 | _=>false
theorem okWide_sc {W:World} {r:Reach} {base:Nat} {t:TypeId} {v:Value} {D:TypeDesc} (ht:P.underlying t=some D) (ha:scD D=true) (h:Value.okWide P W r base t v):v.cells=#[v]:=by
 unfold Value.okWide at h
 rw[ht] at h
 cases D<;>simp[scD] at ha<;>cases v<;>simp_all [Cell.okWide,Cell.ok,Value.cells]
theorem shOf_kind {d:Nat} {t:TypeId} {s:Sh} (h:shOf P d t=some s):∃ D,P.underlying t=some D∧((shK s=.sc∧scD D=true)∨(shK s≠.sc∧aggD D=true)):=by
 cases d with
 | zero=>cases h
 | succ d=>
  unfold shOf at h
  split at h
  ·rename_i ht;cases h;exact⟨_,ht,.inl ⟨rfl,rfl⟩⟩
  ·rename_i k ht;cases h;exact⟨_,ht,.inl ⟨rfl,rfl⟩⟩
  ·rename_i ht;cases h;exact⟨_,ht,.inl ⟨rfl,rfl⟩⟩
  ·rename_i e ht
   split at h
   ·cases h;exact⟨_,ht,.inl ⟨rfl,rfl⟩⟩
   ·cases h
  ·rename_i fs ht
   refine⟨_,ht,.inr ⟨?_,rfl⟩⟩
   have key:∀(l:List Field) (off tot:Nat) (s:Sh),shFs P (shOf P d) l off tot=some s→shK s≠.sc:=by
    intro l off tot s h
    cases l with
    | nil=>
     simp only[shFs] at h
     split at h
     ·cases h;simp[shK]
     ·cases h
    | cons f l=>
     simp only[shFs] at h
     split at h
     ·obtain⟨s2,_,rfl⟩:=map_some h;simp[shK]
     ·cases h
   exact key _ _ _ _ h
  ·rename_i n e ht
   refine⟨_,ht,.inr ⟨?_,rfl⟩⟩
   split at h
   ·split at h
    ·cases h;simp[shK]
    ·cases h
   ·split at h
    ·cases h;cases n<;>simp[shN,shK]
    ·cases h
  ·cases h
theorem fits_sc {a:Nat→Option Obj} {s:Sh} {C:List V} (hk:shK s=.sc) (h:Fits a s C):∃ c,C=[c]∧c.flat=true:=by
 cases s<;>simp[shK] at hk
 ·obtain⟨b,rfl⟩:=h;exact⟨_,rfl,rfl⟩
 ·obtain⟨b,_,rfl⟩:=h;exact⟨_,rfl,rfl⟩
 ·obtain⟨b,rfl⟩:=h;exact⟨_,rfl,rfl⟩
 ·rcases h with rfl | ⟨b,len,rows,rfl,_⟩<;>exact⟨_,rfl,rfl⟩
theorem open_arg {d:Nat} {t:TypeId} {s:Sh} {v:Value} {x:DataW H'} {ps:List MemPlace} {r:Reach} {base:Nat} (hok:shOf P d t=some s) (hval:Value.okWide P w r base t v) (h:DataW.Trod enc P w 0 (fun _=>true) held t v x ps) {ρ:Emb} {a:Nat→Option Obj} {k:Nat} (hb:Base P w ρ a k) :
  ∃ ρ' a' k' u,Base P w ρ' a' k'∧Grow ρ a ρ' a'∧VRel ρ' u v∧FitsV a' s u:=by
 obtain⟨fuel,h⟩:=h
 obtain⟨ρ',a1,k1,C,b1,g1,r1,f1⟩:=open_cells d t s fuel _ _ hok h ρ a k hb
 obtain⟨D,hD,hcase⟩:=shOf_kind hok
 rcases hcase with ⟨hk,hsc⟩ | ⟨hk,hag⟩
 ·obtain⟨c,rfl,hfl⟩:=fits_sc hk f1
  rw[okWide_sc hD hsc hval] at r1
  refine⟨ρ',a1,k1,c,b1,g1,?_,[c],f1,?_⟩
  ·rcases r1.head with ⟨_,_,hb',_⟩ | ⟨y,ys,_,_,hy,hr,_⟩
   ·rw[flat_asBlk hfl] at hb';cases hb'
   ·have:v=y:=by simpa using (List.cons.inj hy).1
    rw[this];exact hr
  ·rw[hk]
   cases c<;>simp[V.flat] at hfl<;>rfl
 ·obtain⟨cs,rfl⟩:=okWide_agg hD hag hval
  have r1:CRel ρ' C cs.toList:=r1
  have hag2:s=.blk∨shK s=.ag:=by cases s<;>simp[shK] at hk ⊢
  rcases hag2 with rfl | hk2
  ·have hf:=f1
   obtain⟨B,hB,rfl⟩:=hf
   refine⟨ρ',a1,k1,.blk B,b1,g1,⟨hB,?_⟩,[.blk B],f1,rfl⟩
   rcases r1.head with ⟨B',ys,_,he',_,hcs,h3⟩ | ⟨_,_,hb',_⟩
   ·cases he'
    have h3:ys=[]:=h3
    subst h3
    rw[List.append_nil] at hcs
    rw[← hcs]
   ·cases hb'
  ·exact⟨ρ',a1,k1,.agg C,b1,g1,⟨cs,rfl,r1⟩,C,f1,by rw[hk2];rfl⟩
theorem open_args {d:Nat}:∀(ts:List TypeId) (ss:List Sh) (vs:List Value) (ds:List (DataW H')) (ps:List MemPlace),shAll P d ts=some ss→(∀(j:Nat) t v,ts[j]?=some t→vs[j]?=some v→∃ r base,Value.okWide P w r base t v)→DataW.TrodAll enc P w 0 (fun _=>true) held ts vs ds ps →
  ∀ ρ a k,Base P w ρ a k→∃ ρ' a' k' us,Base P w ρ' a' k'∧Grow ρ a ρ' a'∧VRels ρ' us vs∧FitsAll a' ss us
 | [],ss,[],[],ps,hok,hval,h,ρ,a,k,hb=>by
  simp only[shAll] at hok
  cases hok
  exact⟨ρ,a,k,[],hb,Grow.refl _ _,rfl,rfl⟩
 | t::ts,ss,v::vs,x::ds,ps,hok,hval,h,ρ,a,k,hb=>by
  obtain⟨p,q,h1,h2,_⟩:=h
  simp only[shAll] at hok
  split at hok
  ·rename_i s ss' hs hss
   cases hok
   obtain⟨r,base,hv⟩:=hval 0 t v rfl rfl
   obtain⟨ρ1,a1,k1,u,b1,g1,r1,f1⟩:=open_arg hs hv h1 hb
   obtain⟨ρ2,a2,k2,us,b2,g2,r2,f2⟩:=open_args ts ss' vs ds q hss (fun j t v h1 h2=>hval (j+1) t v (by simpa using h1) (by simpa using h2)) h2 ρ1 a1 k1 b1
   exact⟨ρ2,a2,k2,u::us,b2,g1.trans g2,⟨v,vs,rfl,VRel.mono g2.ext _ _ r1,r2⟩,u,us,rfl,f1.mono g2.keeps,f2⟩
  ·cases hok
 | [],_,_::_,_,_,_,_,h,_,_,_,_=>h.elim
 | _::_,_,[],_,_,_,_,h,_,_,_,_=>h.elim
 | [],_,[],_::_,_,_,_,h,_,_,_,_=>h.elim
 | _::_,_,_::_,[],_,_,_,h,_,_,_,_=>h.elim
def emb0 (P:Program):Emb
 | .run g=>if g < P.globals.size then some ⟨g,0,0,none⟩ else none
 | .arg _=>none
theorem base0 (P:Program) (w:World):Base P w (emb0 P) (fun _=>none) 0:=
 ⟨fun g hg=>⟨0,by simp[emb0,hg]⟩,fun _ _ _ h=>(by cases h),fun _ _=>rfl,fun _ _=>rfl,fun n h=>by simp[emb0,Nat.not_lt.2 h],fun _ _ h=>(by cases h)⟩
theorem trodAll_stays {W W':World} {sp:Nat→Bool} (hl:laidOutB P=true) (hb:Below W.heap.size W W'):∀(ts:List TypeId) (vs:List Value) (ds:List (DataW H')) (ps:List MemPlace),(ts.all fun t=>P.readableRec t&&decide (t < P.types.size))=true→DataW.TrodAll enc P W 0 (fun _=>true) true ts vs ds ps →
  (∀ p ∈ ps,p.block < W.heap.size)→(∀ p ∈ ps,sp p.block=true)→DataW.TrodAll enc P W' 0 sp true ts vs ds ps
 | [],[],[],ps,_,h,_,_=>h
 | t::ts,v::vs,x::ds,ps,hok,h,hlt,hsp=>by
  obtain⟨p,q,h1,h2,rfl⟩:=h
  simp only[List.all_cons,Bool.and_eq_true,decide_eq_true_eq] at hok
  refine⟨p,q,WideElems.Trod_stays hl hok.1.1 hok.1.2 h1 (fun x hx=>hb.same (hlt x (List.mem_append_left _ hx))) (fun x hx=>hsp x (List.mem_append_left _ hx)),?_,rfl⟩
  exact trodAll_stays hl hb ts vs ds q (by simpa using hok.2) h2 (fun x hx=>hlt x (List.mem_append_right _ hx)) (fun x hx=>hsp x (List.mem_append_right _ hx))
 | [],_::_,_,_,_,h,_,_=>h.elim
 | _::_,[],_,_,_,h,_,_=>h.elim
 | [],[],_::_,_,_,h,_,_=>h.elim
 | _::_,_::_,[],_,_,h,_,_=>h.elim
theorem post_of_below {f:Func} {s:ChangeSpec} {apart fresh handsOn again:Bool} {W W':World} {args:Array Value} {v:Value} {ds:List (DataW H')} {before:List MemPlace} (hl:laidOutB P=true)
  (hts:(f.params.toList.all fun t=>P.readableRec t&&decide (t < P.types.size))=true) (hvars:s.vars=[]) (hargs:(s.fn H' (ds++[])).args=ds) (hvs:(s.fn H' (ds++[])).vars=[])
  (hW:DataW.Whole enc P f.params.toList s.vars apart W args.toList ds [] before) (hb:Below W.heap.size W W')
  (hres:∀(b:Nat) (sp:Nat→Bool) (hd:Bool),DataW.TrodAll enc P W' b sp hd f.resultTypes.toList (v.resultList f.resultTypes.size) (s.fn H' (ds++[])).results [])
  (hok:∀(j:Nat) (t:TypeId) (r:Value),f.resultTypes[j]?=some t→(v.resultList f.resultTypes.size)[j]?=some r→Value.okWide P W' .any 0 t r) :
  s.post enc P f apart fresh handsOn again W args v W':=by
 have hlt:=hW.lt
 have hW0:=hW
 obtain⟨p,q,hA,hV,rfl,hz,hn⟩:=hW
 rw[hvars] at hV
 have hV:q=[]:=hV
 subst hV
 simp only[List.append_nil] at hz hn hlt
 have hold:∀ x ∈ p,(fun b=>decide (b < W.heap.size)) x.block=true:=fun x hx=>by simpa using hlt x hx
 have hst:∀ sp:Nat→Bool,(∀ x ∈ p,sp x.block=true)→DataW.TrodAll enc P W' 0 sp true f.params.toList args.toList (s.fn H' (ds++[])).args p:=fun sp hsp=>by
  rw[hargs];exact trodAll_stays hl hb _ _ _ _ hts hA hlt hsp
 have hvt:∀ sp:Nat→Bool,DataW.TrodVars enc P W' sp s.vars (s.fn H' (ds++[])).vars []:=fun sp=>by rw[hvars,hvs];rfl
 refine⟨ds,[],p++[],[],p,[],hW0,hres _ _ _,hst _ hold,hvt _,hb.frame _,fun _=>?_⟩
 refine⟨hok,_,_,([]++p)++[],⟨[]++p,[],trodAll_append (hst _ (fun _ _=>rfl)) (hres _ _ _),hvt _,rfl,?_,?_⟩,?_⟩
 ·intro b off hp
  have hp:MemPlace.cell b off ∈ p:=by simpa using hp
  rw[hb.frozen (hlt _ hp)]
  exact hz b off hp
 ·intro ha
  have:=hn ha
  simpa using this
 ·intro x hx _
  simpa using hx
end
end Go.Am
