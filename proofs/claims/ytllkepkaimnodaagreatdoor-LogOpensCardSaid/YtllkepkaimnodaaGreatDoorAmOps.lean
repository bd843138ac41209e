import Derived.Test.YtllkepkaimnodaaGreatDoorAmRel
import Derived.Orders
import Derived.Laws.Entries
import Derived.Laws.Append
import Derived.Deep.AppendSrc
set_option linter.unusedVariables false
set_option linter.unusedSimpArgs false
namespace Go.Am
def GRel (P:Program) (ρ:Emb):Prop:=∀ g,g < P.globals.size→∃ r,ρ (.run g)=some ⟨g,0,r,none⟩
theorem GRel.mono {P:Program} {ρ ρ':Emb} (h:GRel P ρ) (e:Ext ρ ρ'):GRel P ρ':=fun g hg=>let ⟨r,hr⟩:=h g hg;⟨r,e _ _ hr⟩
structure TRel (n:Nat) (ρ:Emb) (t:T) (a:Act):Prop where
 sz:n≤a.tmps.size
 val:∀ i v,t.getP (Tr.path i)=some v→VRel ρ v (a.tmps.getD i Go.undef)
theorem TRel.mono {n:Nat} {ρ ρ':Emb} {t:T} {a:Act} (h:TRel n ρ t a) (e:Ext ρ ρ'):TRel n ρ' t a:=⟨h.sz,fun i v hv=>VRel.mono e v _ (h.val i v hv)⟩
theorem VRel.undef (ρ:Emb):VRel ρ undef Go.undef:=⟨#[],rfl,rfl⟩
theorem TRel.put {n:Nat} {ρ:Emb} {t:T} {a:Act} (h:TRel n ρ t a) {dst:Option Nat} {v:V} {x:Value} (hr:VRel ρ v x) (hd:dstOk n dst=true∨(v=undef∧x=Go.undef)) :
  TRel n ρ (setT (dst.map Tr.path) v t) (a.put dst x):=by
 cases dst with
 | none=>exact h
 | some d=>
  refine⟨by simpa [Act.put] using h.sz,fun i u hu=>?_⟩
  simp only[Option.map_some,setT,Tr.get_set,Tr.path_eq] at hu
  by_cases hi:i=d
  ·subst hi
   rw[if_pos rfl] at hu
   cases hu
   rcases hd with hd | ⟨rfl,rfl⟩
   ·have:i < a.tmps.size:=Nat.lt_of_lt_of_le (ble_iff.1 hd) h.sz
    simpa [Act.put,this] using hr
   ·simp only[Act.put]
    by_cases hs:i < a.tmps.size
    ·simpa [hs] using hr
    ·simpa [hs] using hr
  ·rw[if_neg hi] at hu
   have:=h.val i u hu
   have hne:d≠i:=fun e=>hi e.symm
   simpa [Act.put,Array.getElem?_setIfInBounds_ne hne] using this
theorem ofSc_rel {ρ:Emb} {x:Value} {v:V} (h:ofSc x=some v):VRel ρ v x:=by
 unfold ofSc at h
 split at h<;>cases h<;>first
  | exact rfl
  | exact⟨rfl,rfl,.inl ⟨rfl,rfl⟩⟩
theorem ofSc_flat {x:Value} {v:V} (h:ofSc x=some v):v.flat=true:=by
 unfold ofSc at h
 split at h<;>cases h<;>rfl
section
variable {P:Program} {n:Nat} {ρ:Emb} {t:T} {a:Act}
theorem src_rel (hg:GRel P ρ) (ht:TRel n ρ t a) {x:Operand} {s:S} {v:V} (h:src P x=some s) (hv:s.get t=some v):VRel ρ v (a.eval x):=by
 cases x with
 | tmp i=>simp only[src] at h;cases h;exact ht.val i v hv
 | const y=>
  simp only[src] at h
  cases hy:ofSc y with
  | none=>rw[hy] at h;cases h
  | some u=>rw[hy] at h;cases h;have hv:some u=some v:=hv;cases hv;exact ofSc_rel hy
 | global g=>
  simp only[src] at h
  cases hb:Nat.ble (Nat.succ g) P.globals.size with
  | false=>rw[hb] at h;cases h
  | true=>
   rw[hb] at h
   cases h
   have hv:some _=some v:=hv
   cases hv
   obtain⟨r,hr⟩:=hg g (ble_iff.1 hb)
   exact⟨_,hr,by simp[Act.eval,at',Addr.add]⟩
 | func f=>
  simp only[src] at h
  cases h
  have hv:some _=some v:=hv
  cases hv
  exact⟨#[],#[],rfl,rfl,rfl⟩
theorem srcs_rel (hg:GRel P ρ) (ht:TRel n ρ t a):∀ {xs:List Operand} {ss:List S} {vs:List V},srcs P xs=some ss→gets t ss=some vs→VRels ρ vs (xs.map a.eval)
 | [],ss,vs,h,hv=>by
  simp only[srcs] at h;cases h;simp only[gets] at hv;cases hv;exact rfl
 | x::xs,ss,vs,h,hv=>by
  simp only[srcs] at h
  cases h1:src P x with
  | none=>rw[h1] at h;cases h
  | some s=>
   rw[h1] at h
   cases h2:srcs P xs with
   | none=>rw[h2] at h;cases h
   | some ss'=>
    rw[h2] at h
    cases h
    simp only[gets] at hv
    cases h3:s.get t with
    | none=>rw[h3] at hv;cases hv
    | some v=>
     rw[h3] at hv
     simp only at hv
     cases h4:gets t ss' with
     | none=>rw[h4] at hv;cases hv
     | some vs'=>
      rw[h4] at hv
      cases hv
      exact⟨_,_,rfl,src_rel hg ht h1 h3,srcs_rel hg ht h2 h4⟩
theorem osrc_rel (hg:GRel P ρ) (ht:TRel n ρ t a) {x:Option Operand} {s:Option S} {v:Option V} (h:osrc P x=some s) (hv:oget t s=some v) :
  (v=none∧x.map a.eval=none)∨∃ u y,v=some u∧x.map a.eval=some y∧VRel ρ u y:=by
 cases x with
 | none=>simp only[osrc] at h;cases h;simp only[oget] at hv;cases hv;exact .inl ⟨rfl,rfl⟩
 | some x=>
  simp only[osrc] at h
  cases h1:src P x with
  | none=>rw[h1] at h;cases h
  | some s'=>
   rw[h1] at h
   cases h
   simp only[oget] at hv
   cases h3:s'.get t with
   | none=>rw[h3] at hv;cases hv
   | some u=>rw[h3] at hv;cases hv;exact .inr ⟨u,_,rfl,rfl,src_rel hg ht h1 h3⟩
end
def SndP (P:Program) (o:Oper) (f:T→Option V):Prop:=
 ∀(n:Nat) (ρ:Emb) (t:T) (a:Act) (v:V),GRel P ρ→TRel n ρ t a→f t=some v→∃ v',VRel ρ v v'∧∀ w,(execOp a.eval o).run P w=.ok (.value v') w
theorem run_value {P:Program} {s:Sem Value} {v:Value} {w w':World} (h:s.run P w=.ok v w'):(do pure (Next.value (← s)):Sem Next).run P w=.ok (.value v) w':=by
 simp[h]
section
variable {P:Program} {dst:Option Nat} {ty:TypeId} {pos:String} {after:Array Edge} {guard:Option (Nat × Bool)}
theorem snd_move {x:Operand} {s:S} (h:src P x=some s):SndP P ⟨dst,.move x,ty,pos,after,guard⟩ s.get:=
 fun n ρ t a v hg ht hv=>⟨_,src_rel hg ht h hv,fun w=>rfl⟩
theorem snd_assign {x:Operand} {s:S} (h:src P x=some s):SndP P ⟨dst,.assign x,ty,pos,after,guard⟩ s.get:=
 fun n ρ t a v hg ht hv=>⟨_,src_rel hg ht h hv,fun w=>rfl⟩
theorem snd_pick {c x y:Operand} {sc sx sy:S} (hc:src P c=some sc) (hx:src P x=some sx) (hy:src P y=some sy):SndP P ⟨dst,.pick c x y,ty,pos,after,guard⟩ (pickF sc sx sy):=by
 intro n ρ t a v hg ht hv
 unfold pickF at hv
 split at hv
 ·rename_i h1
  have:=src_rel hg ht hc h1
  have:a.eval c=.bool true:=this
  exact⟨_,src_rel hg ht hx hv,fun w=>by simp[execOp,this,asBool]⟩
 ·rename_i h1
  have:=src_rel hg ht hc h1
  have:a.eval c=.bool false:=this
  exact⟨_,src_rel hg ht hy hv,fun w=>by simp[execOp,this,asBool]⟩
 ·cases hv
theorem snd_nilc {x:Operand} {s:S} (h:src P x=some s):SndP P ⟨dst,.nilCheck x,ty,pos,after,guard⟩ (nilcF s):=by
 intro n ρ t a v hg ht hv
 unfold nilcF at hv
 split at hv
 ·rename_i p h1
  cases hv
  have hr:=src_rel hg ht h h1
  obtain⟨l,hl,he⟩:=hr
  exact⟨_,⟨l,hl,rfl⟩,fun w=>by simp[execOp,he]⟩
 ·rename_i f c d h1
  cases hv
  have hr:=src_rel hg ht h h1
  obtain⟨f',c',he,h2,h3⟩:=hr
  exact⟨_,⟨f',c',rfl,h2,h3⟩,fun w=>by simp[execOp,he]⟩
 ·cases hv
theorem structF_some {t:TypeId} {f:Nat} {fd:Field} (h:structF P t f=some fd):∃ fs,P.underlying t=some (.struct fs)∧fs[f]?=some fd:=by
 unfold structF at h
 split at h
 ·rename_i fs hfs;exact⟨fs,hfs,h⟩
 ·cases h
theorem sizeT_some {t:TypeId} {sz:Nat} (h:sizeT P t=some sz):∃ i,P.info? t=some i∧i.size=sz:=by
 unfold sizeT at h
 cases hi:P.info? t with
 | none=>rw[hi] at h;cases h
 | some i=>rw[hi] at h;cases h;exact⟨i,rfl,rfl⟩
theorem run_sizeOf {t:TypeId} {sz:Nat} (h:sizeT P t=some sz) (w:World):(sizeOf t).run P w=.ok sz w:=by
 obtain⟨i,hi,rfl⟩:=sizeT_some h
 simp[sizeOf,typeInfo,hi]
theorem snd_faddr {s:TypeId} {x:Operand} {f:Nat} {fd:Field} {sx:S} {sz:Nat} (h1:structF P s f=some fd) (hx:src P x=some sx) (hsz:sizeT P fd.type=some sz) (h0:sz≠0) :
  SndP P ⟨dst,.fieldAddr s x f,ty,pos,after,guard⟩ (faddrF sx fd.offset):=by
 intro n ρ t a v hg ht hv
 unfold faddrF at hv
 split at hv
 ·rename_i p hp
  cases hv
  obtain⟨fs,hfs,hf⟩:=structF_some h1
  obtain⟨l,hl,he⟩:=src_rel hg ht hx hp
  refine⟨_,⟨l,hl,rfl⟩,fun w=>?_⟩
  simp[execOp,he,Instr.fieldAt,run_underlying hfs,hf,Instr.sureAddr,fieldPlace,run_sizeOf hsz,h0,at'_add]
 ·cases hv
def aggD:TypeDesc→Bool
 | .struct _=>true
 | .array _ _=>true
 | _=>false
theorem isAgg_run {t:TypeId} {d:TypeDesc} (h:P.underlying t=some d) (w:World):(isAgg t).run P w=.ok (aggD d) w:=by
 cases d<;>simp[isAgg,run_underlying h,aggD]
theorem tkOf_sc {t:TypeId} {d:TypeDesc} (h:P.underlying t=some d):(tkOf P t=.sc∧aggD d=false)∨(tkOf P t≠.sc∧aggD d=true):=by
 unfold tkOf
 rw[h]
 cases d<;>simp[aggD]
 cases isBlk P t<;>simp
theorem unc_rel {ρ:Emb} {k:TK} {cs:List V} {v:V} {xs:List Value} (h:unc k cs=some v) (hr:CRel ρ cs xs) :
  (k=.sc∧∃ x,xs=[x]∧VRel ρ v x)∨(k≠.sc∧VRel ρ v (.agg xs.toArray)):=by
 unfold unc at h
 split at h
 ·cases h;exact .inr ⟨by simp,_,rfl,by simpa using hr⟩
 ·cases h
  rcases hr.head with ⟨B,ys,hb,he,hB,rfl,h3⟩ | ⟨y,ys,hb,hf,_⟩
  ·cases he
   have h3:ys=[]:=h3
   subst h3
   exact .inr ⟨by simp,hB,by simp⟩
  ·cases hb
 ·cases h
 ·rename_i u hne
  cases h
  rcases hr.head with ⟨B,ys,hb,he,hB,rfl,h3⟩ | ⟨y,ys,hb,hf,rfl,h2,h3⟩
  ·exact absurd he (hne B)
  ·have h3:ys=[]:=h3
   subst h3
   exact .inl ⟨rfl,y,rfl,h2⟩
 ·cases h
theorem tkT_some {t:TypeId} {k:TK} (h:tkT P t=some k):∃ d,P.underlying t=some d∧((k=.sc∧aggD d=false)∨(k≠.sc∧aggD d=true)):=by
 unfold tkT at h
 cases hd:P.underlying t with
 | none=>rw[hd] at h;cases h
 | some d=>rw[hd] at h;cases h;exact⟨d,rfl,tkOf_sc hd⟩
theorem part_run {ρ:Emb} {t:TypeId} {k:TK} {sz off:Nat} {cs ds:List V} {v:V} {xs:Array Value} (hk:tkT P t=some k) (hsz:sizeT P t=some sz) (hr:CRel ρ cs xs.toList) (hc:cut cs off sz=some ds) (hv:unc k ds=some v) :
  ∃ x,VRel ρ v x∧∀ w,(part t xs off).run P w=.ok x w:=by
 obtain⟨d,hd,hdk⟩:=tkT_some hk
 obtain⟨k1,k2⟩:=cut_rel cs xs.toList off sz ds hr hc
 have hx':xs.extract off (off+sz)=((xs.toList.drop off).take sz).toArray:=by
  apply Array.ext'
  simp[List.extract_eq_take_drop]
 rcases unc_rel hv k1 with ⟨hk,y,hy,hr'⟩ | ⟨hk,hr'⟩
 ·rcases hdk with ⟨_,ha⟩ | ⟨hk',_⟩
  ·refine⟨y,hr',fun w=>?_⟩
   have hg2:xs[off]?=some y:=by
    have:=congrArg (·[0]?) hy
    simp only[List.getElem?_take,List.getElem?_drop] at this
    simpa using (Option.ite_none_right_eq_some.1 this).2
   simp[part,isAgg_run hd,ha,hg2]
  ·exact absurd hk hk'
 ·rcases hdk with ⟨hk',_⟩ | ⟨_,ha⟩
  ·exact absurd hk' hk
  ·exact⟨_,hr',fun w=>by simp[part,isAgg_run hd,ha,run_sizeOf hsz,hx']⟩
theorem snd_field {xT:TypeId} {x:Operand} {f:Nat} {fd:Field} {sx:S} {sz:Nat} {k:TK} (h1:structF P xT f=some fd) (hx:src P x=some sx) (hsz:sizeT P fd.type=some sz) (hk:tkT P fd.type=some k) :
  SndP P ⟨dst,.field xT x f,ty,pos,after,guard⟩ (fldF sx fd.offset sz k):=by
 intro n ρ t a v hg ht hv
 unfold fldF at hv
 split at hv
 ·rename_i cs hp
  obtain⟨fs,hfs,hf⟩:=structF_some h1
  obtain⟨xs,he,hr⟩:=src_rel hg ht hx hp
  cases hc:cut cs fd.offset sz with
  | none=>rw[hc] at hv;cases hv
  | some ds=>
   rw[hc] at hv
   obtain⟨y,hy,hrun⟩:=part_run hk hsz hr hc hv
   exact⟨y,hy,fun w=>by simp[execOp,he,Instr.field,run_underlying hfs,hf,asAgg,hrun]⟩
 ·cases hv
theorem asNat_some {v:V} {n:Nat} (h:asNat v=some n):∃ k,v=.int k (.ofNat n):=by
 unfold asNat at h
 split at h
 ·cases h;exact⟨_,rfl⟩
 ·cases h
theorem getNat_rel {n:Nat} {ρ:Emb} {t:T} {a:Act} (hg:GRel P ρ) (ht:TRel n ρ t a) {x:Operand} {s:S} {m:Nat} (h:src P x=some s) (hv:(s.get t).bind asNat=some m):∃ k,a.eval x=.int k (m:Int):=by
 cases hs:s.get t with
 | none=>rw[hs] at hv;cases hv
 | some v=>
  rw[hs] at hv
  obtain⟨k,rfl⟩:=asNat_some hv
  exact⟨k,src_rel hg ht h hs⟩
theorem snd_iaddrA {T':TypeId} {x i:Operand} {sx si:S} {m sz:Nat} {e:TypeId} (hT:P.underlying T'=some (.array m e)) (hx:src P x=some sx) (hi:src P i=some si) (hsz:sizeT P e=some sz) :
  SndP P ⟨dst,.indexAddr T' x i,ty,pos,after,guard⟩ (iaddrAF sx si m sz):=by
 intro n ρ t a v hg ht hv
 unfold iaddrAF at hv
 split at hv
 ·rename_i p j h1 h2
  cases hb:Nat.ble (Nat.succ j) m with
  | false=>rw[hb] at hv;cases hv
  | true=>
   rw[hb] at hv
   cases hv
   have hjm:j < m:=ble_iff.1 hb
   obtain⟨l,hl,he⟩:=src_rel hg ht hx h1
   obtain⟨k,hk⟩:=getNat_rel hg ht hi h2
   refine⟨_,⟨l,hl,rfl⟩,fun w=>?_⟩
   simp[execOp,he,hk,Instr.indexAt,asIntOf,run_underlying hT,Instr.sureAddr,hjm,run_sizeOf hsz,at'_add,B8]
 ·cases hv
theorem snd_iaddrS {T':TypeId} {x i:Operand} {sx si:S} {sz:Nat} {e:TypeId} (hT:P.underlying T'=some (.slice e)) (hx:src P x=some sx) (hi:src P i=some si) (hsz:sizeT P e=some sz) :
  SndP P ⟨dst,.indexAddr T' x i,ty,pos,after,guard⟩ (iaddrSF sx si sz):=by
 intro n ρ t a v hg ht hv
 unfold iaddrSF at hv
 split at hv
 ·rename_i p len cap loose j h1 h2
  cases hb:Nat.ble (Nat.succ j) len with
  | false=>rw[hb] at hv;cases hv
  | true=>
   rw[hb] at hv
   cases hv
   have hjm:j < len:=ble_iff.1 hb
   obtain⟨l,cap',hl,he,_⟩:=src_rel hg ht hx h1
   obtain⟨k,hk⟩:=getNat_rel hg ht hi h2
   refine⟨_,⟨l,hl,rfl⟩,fun w=>?_⟩
   simp[execOp,he,hk,Instr.indexAt,asIntOf,run_underlying hT,hjm,run_sizeOf hsz,at'_add,B8]
 ·cases hv
theorem cells_rel {ρ:Emb} {v:V} {cs:List V} {x:Value} (h:v.cells=some cs) (hr:VRel ρ v x):CRel ρ cs x.cells.toList:=by
 cases v with
 | agg ds=>simp only[V.cells] at h;cases h;obtain⟨xs,rfl,hr⟩:=hr;exact hr
 | tuple ds=>simp only[V.cells] at h;cases h
 | blk B=>simp only[V.cells] at h;cases h;obtain⟨hB,rfl⟩:=hr;simpa [Value.cells] using CRel.cons_blk (ρ:=ρ) (cs:=[]) (ys:=[]) hB rfl
 | bool b=>simp only[V.cells] at h;cases h;have hr:x=_:=hr;subst hr;exact CRel.cons_flat rfl rfl rfl
 | int k n=>simp only[V.cells] at h;cases h;have hr:x=_:=hr;subst hr;exact CRel.cons_flat rfl rfl rfl
 | str s=>simp only[V.cells] at h;cases h;have hr:x=_:=hr;subst hr;exact CRel.cons_flat rfl rfl rfl
 | ptr p=>cases p with
  | none=>simp only[V.cells] at h;cases h;have hr:x=_:=hr;subst hr;exact CRel.cons_flat rfl rfl rfl
  | some p=>simp only[V.cells] at h;cases h;obtain⟨l,hl,rfl⟩:=hr;exact CRel.cons_flat rfl ⟨l,hl,rfl⟩ rfl
 | slice p len cap loose=>cases p with
  | none=>simp only[V.cells] at h;cases h;obtain⟨h1,h2,⟨h3,rfl⟩ | ⟨h3,q,c,rfl⟩⟩:=hr;exact CRel.cons_flat rfl ⟨h1,h2,.inl ⟨h3,rfl⟩⟩ rfl;exact CRel.cons_flat rfl ⟨h1,h2,.inr ⟨h3,q,c,rfl⟩⟩ rfl
  | some p=>simp only[V.cells] at h;cases h;obtain⟨l,c,hl,rfl,h3⟩:=hr;exact CRel.cons_flat rfl ⟨l,c,hl,rfl,h3⟩ rfl
 | map r=>cases r with
  | none=>simp only[V.cells] at h;cases h;have hr:x=_:=hr;subst hr;exact CRel.cons_flat rfl rfl rfl
  | some p=>simp only[V.cells] at h;cases h;obtain⟨l,hl,rfl⟩:=hr;exact CRel.cons_flat rfl ⟨l,hl,rfl⟩ rfl
 | func fn f c=>simp only[V.cells] at h;cases h;obtain⟨f',c',rfl,h2,h3⟩:=hr;exact CRel.cons_flat rfl ⟨f',c',rfl,h2,h3⟩ rfl
 | nilFunc=>simp only[V.cells] at h;cases h;have hr:x=_:=hr;subst hr;exact CRel.cons_flat rfl rfl rfl
 | iface t u=>simp only[V.cells] at h;cases h;obtain⟨y,rfl,h2⟩:=hr;exact CRel.cons_flat rfl ⟨y,rfl,h2⟩ rfl
 | nilIface=>simp only[V.cells] at h;cases h;have hr:x=_:=hr;subst hr;exact CRel.cons_flat rfl rfl rfl
theorem agg_rel {ρ:Emb} {v:V} {cs:List V} {x:Value} (hf:v.flat=false) (h:v.cells=some cs) (hr:VRel ρ v x):∃ xs,x=.agg xs∧CRel ρ cs xs.toList:=by
 have h2:=cells_rel h hr
 cases v<;>simp[V.flat] at hf
 case blk B=>obtain⟨hB,rfl⟩:=hr;exact⟨_,rfl,h2⟩
 case agg ds=>obtain⟨xs,rfl,hr⟩:=hr;exact⟨_,rfl,h2⟩
 case tuple ds=>simp only[V.cells] at h;cases h
theorem snd_idxA {T':TypeId} {x i:Operand} {sx si:S} {m sz:Nat} {e:TypeId} {k:TK} (hT:P.underlying T'=some (.array m e)) (hx:src P x=some sx) (hi:src P i=some si) (hsz:sizeT P e=some sz) (hk:tkT P e=some k) :
  SndP P ⟨dst,.index T' x i,ty,pos,after,guard⟩ (idxAF sx si m sz k):=by
 intro n ρ t a v hg ht hv
 unfold idxAF at hv
 split at hv
 ·rename_i u j h1 h2
  split at hv
  ·rename_i cs hf hcs
   cases hb:Nat.ble (Nat.succ j) m with
   | false=>rw[hb] at hv;cases hv
   | true=>
    rw[hb] at hv
    have hjm:j < m:=ble_iff.1 hb
    simp only[B8] at hv
    cases hc:cut cs (j*sz) sz with
    | none=>rw[hc] at hv;cases hv
    | some ds=>
     rw[hc] at hv
     obtain⟨xs,he,hr⟩:=agg_rel hf hcs (src_rel hg ht hx h1)
     obtain⟨kk,hkk⟩:=getNat_rel hg ht hi h2
     obtain⟨y,hy,hrun⟩:=part_run hk hsz hr hc hv
     refine⟨y,hy,fun w=>?_⟩
     simp[execOp,he,hkk,Instr.index,asIntOf,run_underlying hT,hjm,run_sizeOf hsz,hrun]
  ·cases hv
 ·cases hv
theorem snd_idxS {T':TypeId} {x i:Operand} {sx si:S} (hT:P.underlying T'=some .string) (hx:src P x=some sx) (hi:src P i=some si) :
  SndP P ⟨dst,.index T' x i,ty,pos,after,guard⟩ (idxSF sx si):=by
 intro n ρ t a v hg ht hv
 unfold idxSF at hv
 split at hv
 ·rename_i u j h1 h2
  split at hv
  ·rename_i b hb
   cases hv
   have he:a.eval x=.string u:=src_rel hg ht hx h1
   obtain⟨kk,hkk⟩:=getNat_rel hg ht hi h2
   refine⟨_,rfl,fun w=>?_⟩
   rw[nth_eq] at hb
   have hb':u[j]?=some b:=by
    have hlt:=(List.getElem?_eq_some_iff.1 hb).1
    have hlt':j < u.size:=by simpa using hlt
    rw[getElem?_pos u j hlt']
    have:=(List.getElem?_eq_some_iff.1 hb).2
    rw[← this]
    simp[ByteArray.getElem_eq_getElem_data]
   simp[execOp,he,hkk,Instr.index,asIntOf,run_underlying hT,hb']
  ·cases hv
 ·cases hv
theorem snd_conv {s d:TypeId} {x:Operand} {sx:S} {k0 k:IntKind} (hs:P.underlying s=some (.int k0)) (hd:P.underlying d=some (.int k)) (hx:src P x=some sx) :
  SndP P ⟨dst,.convert s d x,ty,pos,after,guard⟩ (convF k sx):=by
 intro n ρ t a v hg ht hv
 unfold convF at hv
 split at hv
 ·rename_i k' m h1
  rw[C0] at hv
  cases hv
  have he:a.eval x=.int k' m:=src_rel hg ht hx h1
  exact⟨_,rfl,fun w=>by simp[execOp,he,convert,run_underlying hs,run_underlying hd,Conv.intToInt]⟩
 ·cases hv
theorem nth_rel {ρ:Emb}:∀ {vs:List V} {xs:List Value} {i:Nat} {v:V},VRels ρ vs xs→nth vs i=some v→∃ x,xs[i]?=some x∧VRel ρ v x
 | [],xs,i,v,h,hn=>by simp at hn
 | u::vs,xs,0,v,h,hn=>by
  obtain⟨y,ys,rfl,h2,h3⟩:=h
  simp at hn;subst hn;exact⟨y,rfl,h2⟩
 | u::vs,xs,i+1,v,h,hn=>by
  obtain⟨y,ys,rfl,h2,h3⟩:=h
  simp at hn
  obtain⟨x,hx,hr⟩:=nth_rel h3 hn
  exact⟨x,by simpa using hx,hr⟩
theorem snd_ext {x:Operand} {sx:S} {i:Nat} (hx:src P x=some sx):SndP P ⟨dst,.extract x i,ty,pos,after,guard⟩ (extF sx i):=by
 intro n ρ t a v hg ht hv
 unfold extF at hv
 split at hv
 ·rename_i vs h1
  obtain⟨xs,he,hr⟩:=src_rel hg ht hx h1
  obtain⟨y,hy,hr'⟩:=nth_rel hr hv
  have hy':xs[i]?=some y:=by simpa using hy
  exact⟨y,hr',fun w=>by simp[execOp,he,Instr.extract,hy']⟩
 ·cases hv
theorem snd_mkif {xT:TypeId} {x:Operand} {sx:S} {d:TypeDesc} (hd:P.underlying xT=some d) (hni:∀ ms,d≠.interface ms) (hx:src P x=some sx) :
  SndP P ⟨dst,.makeInterface xT x,ty,pos,after,guard⟩ (fun s=>(sx.get s).map (.iface xT ·)):=by
 intro n ρ t a v hg ht hv
 cases hs:sx.get t with
 | none=>simp only[hs] at hv;cases hv
 | some u=>
  simp only[hs] at hv
  cases hv
  refine⟨_,⟨_,rfl,src_rel hg ht hx hs⟩,fun w=>?_⟩
  cases d<;>simp_all [execOp,Instr.makeInterface,run_underlying hd]
theorem snd_mkfn {fn:Fn} {f c:Array Operand} {sf sc:List S} (hf:srcs P f.toList=some sf) (hc:srcs P c.toList=some sc) :
  SndP P ⟨dst,.makeFunc fn f c,ty,pos,after,guard⟩ (mkfnF fn sf sc):=by
 intro n ρ t a v hg ht hv
 unfold mkfnF at hv
 split at hv
 ·rename_i us ws h1 h2
  cases hv
  refine⟨_,⟨_,_,rfl,?_,?_⟩,fun w=>by simp[execOp,Instr.makeFunc];exact⟨rfl,rfl⟩⟩
  ·simpa using srcs_rel hg ht hf h1
  ·simpa using srcs_rel hg ht hc h2
 ·cases hv
theorem fitsK_lt {k:IntKind} {m:Nat} (h:fitsK k m=true):m < 2 ^ k.bits:=by
 cases k<;>simp only[fitsK,ble_iff] at h<;>simp[IntKind.bits]<;>omega
theorem bitI_eq (f:Nat→Nat→Nat) (g:(w:Nat)→BitVec w→BitVec w→BitVec w) (hfg:∀(w:Nat) (x y:BitVec w),(g w x y).toNat=f x.toNat y.toNat) (k:IntKind) (a b:Int) :
  bitI f g k a b=.ofNat (g k.bits (BitVec.ofInt k.bits a) (BitVec.ofInt k.bits b)).toNat:=by
 cases a with
 | negSucc a=>cases b<;>rfl
 | ofNat a=>cases b with
  | negSucc b=>rfl
  | ofNat b=>
   simp only[bitI]
   cases h:fitsK k a&&fitsK k b with
   | false=>rfl
   | true=>
    simp only[Bool.and_eq_true] at h
    have ha:=fitsK_lt h.1
    have hb:=fitsK_lt h.2
    simp only[hfg]
    have e:∀ m,m < 2 ^ k.bits→(BitVec.ofInt k.bits (Int.ofNat m)).toNat=m:=by
     intro m hm
     have e2:BitVec.ofInt k.bits (Int.ofNat m)=BitVec.ofNat k.bits m:=BitVec.ofInt_natCast k.bits m
     rw[e2,BitVec.toNat_ofNat,Nat.mod_eq_of_lt hm]
    rw[e a ha,e b hb]
theorem land_ok (w:Nat) (x y:BitVec w):(x&&&y).toNat=Nat.land x.toNat y.toNat:=BitVec.toNat_and _ _
theorem lor_ok (w:Nat) (x y:BitVec w):(x ||| y).toNat=Nat.lor x.toNat y.toNat:=BitVec.toNat_or _ _
theorem lxor_ok (w:Nat) (x y:BitVec w):(x ^^^ y).toNat=Nat.xor x.toNat y.toNat:=BitVec.toNat_xor _ _
theorem snd_un {op:UnOp} {xT:TypeId} {x:Operand} {sx:S} (hx:src P x=some sx):SndP P ⟨dst,.unOp op xT x,ty,pos,after,guard⟩ (fun t=>(sx.get t).bind (unary op)):=by
 intro n ρ t a v hg ht hv
 cases hs:sx.get t with
 | none=>simp only[hs] at hv;cases hv
 | some u=>
  simp only[hs,Option.bind_some] at hv
  have hr:=src_rel hg ht hx hs
  unfold unary at hv
  split at hv
  ·have he:a.eval x=_:=hr
   cases op<;>simp at hv
   subst hv
   exact⟨_,rfl,fun w=>by simp[execOp,he,Op.unary]⟩
  ·have he:a.eval x=_:=hr
   cases op<;>simp at hv
   ·rw[C0,subI_eq] at hv
    cases hv
    exact⟨_,rfl,fun w=>by simp[execOp,he,Op.unary,Op.intArith]⟩
   ·rw[C0,bitI_eq _ _ lxor_ok] at hv
    cases hv
    exact⟨_,rfl,fun w=>by simp[execOp,he,Op.unary,Op.intBits]⟩
  ·cases hv
theorem eqGuard_ne {op:BinOp} (t:TypeId) (x y:Operand) (u v:Value) (h:op≠.eql∧op≠.neq):eqGuard op t x y u v=pure ():=by
 cases op<;>simp_all<;>rfl
theorem arith_run {op:BinOp} {xT:TypeId} {u y v:V} {ρ:Emb} {u' y':Value} (hu:VRel ρ u u') (hy:VRel ρ y y') (h:arith op u y=some v) :
  ∃ v',VRel ρ v v'∧∀ w,(binOp op xT u' y').run P w=.ok v' w:=by
 unfold arith at h
 split at h
 ·rename_i k a k' b
  have hu:u'=_:=hu
  have hy:y'=_:=hy
  subst hu hy
  split at h
  ·split at h
   ·rename_i b'
    rw[C0,mulI_eq] at h
    cases h
    refine⟨_,rfl,fun w=>?_⟩
    simp only[binOp,Op.shift]
    rw[if_neg (by exact Int.not_lt.2 (Int.natCast_nonneg b'))]
    simp[pow_eq]
   ·cases h
  ·split at h
   ·rename_i b'
    split at h
    ·rename_i a'
     cases h
     refine⟨_,rfl,fun w=>?_⟩
     simp only[binOp,Op.shift]
     rw[if_neg (by exact Int.not_lt.2 (Int.natCast_nonneg b'))]
     simp[pow_eq,Ca]
     rw[Int.fdiv_eq_ediv_of_nonneg _ (Int.pow_nonneg (by decide))]
    ·rw[frc_eq] at h
     cases h
     refine⟨_,rfl,fun w=>?_⟩
     simp only[binOp,Op.shift]
     rw[if_neg (by exact Int.not_lt.2 (Int.natCast_nonneg b'))]
     simp
   ·cases h
  ·rename_i h1 h2
   cases hk:decide (k=k') with
   | false=>rw[hk] at h;cases h
   | true=>
    have:=of_decide_eq_true hk
    subst this
    rw[hk] at h
    cases op<;>simp only[C0,addI_eq,subI_eq,mulI_eq,bitI_eq _ _ land_ok,bitI_eq _ _ lor_ok,bitI_eq _ _ lxor_ok,Cy,ltI_eq] at h
    case shl=>exact absurd rfl (h1)
    case shr=>exact absurd rfl (h2)
    case quo=>
     split at h
     ·cases h
     ·rename_i hb
      cases h
      have hb':b≠0:=by simpa using hb
      exact⟨_,rfl,fun w=>by simp[binOp,Op.intDiv,hb',quoI_eq]⟩
    case rem=>
     split at h
     ·cases h
     ·rename_i hb
      rw[frc_eq] at h
      cases h
      have hb':b≠0:=by simpa using hb
      exact⟨_,rfl,fun w=>by simp[binOp,Op.intDiv,hb',remI_eq]⟩
    all_goals cases h
    all_goals refine⟨_,rfl,fun w=>?_⟩
    all_goals simp[binOp,Op.intArith,Op.intBits,Op.intCmp]
    ·rfl
    ·rw[Bool.eq_iff_iff];simp
    ·rw[Bool.eq_iff_iff];simp
 ·cases h
theorem snd_ar {op:BinOp} {xT yT:TypeId} {x y:Operand} {sx sy:S} (hop:op≠.eql∧op≠.neq) (hx:src P x=some sx) (hy:src P y=some sy) :
  SndP P ⟨dst,.binOp op xT x y yT,ty,pos,after,guard⟩ (arF op sx sy):=by
 intro n ρ t a v hg ht hv
 unfold arF at hv
 split at hv
 ·rename_i u w' h1 h2
  obtain⟨v',hr,hrun⟩:=arith_run (P:=P) (xT:=xT) (src_rel hg ht hx h1) (src_rel hg ht hy h2) hv
  exact⟨v',hr,fun w=>by simp[execOp,eqGuard_ne xT x y _ _ hop,hrun w]⟩
 ·cases hv
end
end Go.Am
