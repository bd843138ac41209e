import Derived.Test.YtllkepkaimnodaaGreatDoorAmActs
import Derived.Maps.RangeRun
set_option linter.unusedVariables false
set_option linter.unusedSimpArgs false
namespace Go.Am
open Go.ChangeMaps (setBlock)
theorem hasN_iff {n:Nat}:∀ {l:List Nat},hasN n l=true↔n ∈ l
 | []=>by simp[hasN]
 | m::l=>by
  unfold hasN
  cases h:n.beq m with
  | true=>have:=beq_iff.1 h;subst this;simp
  | false=>have:=beq_false.1 h;simp[hasN_iff,this]
theorem allLt_iff {ρ:Emb} {since:Nat}:∀ {es:List (V × V × Nat)} {xs:List MapEntry},ERel ρ es xs→allLt since es=true→∀ x ∈ xs,x.born < since
 | [],xs,r,_,x,hx=>by
  have r:xs=[]:=r
  subst r;cases hx
 | (k,v,b)::es,xs,r,h,x,hx=>by
  obtain⟨y,z,ys,rfl,_,_,r⟩:=r
  unfold allLt at h
  split at h
  ·rename_i hb
   have hb:=ble_iff.1 hb
   rcases List.mem_cons.1 hx with rfl | hx
   ·exact hb
   ·exact allLt_iff r h x hx
  ·cases h
theorem leftE_rel {ρ:Emb} (seen:List Nat):∀ {es:List (V × V × Nat)} {xs:List MapEntry},ERel ρ es xs→ERel ρ (leftE seen es) (xs.filter fun e=>!seen.toArray.contains e.born)
 | [],xs,r=>by
  have r:xs=[]:=r
  subst r;rfl
 | (k,v,b)::es,xs,r=>by
  obtain⟨y,z,ys,rfl,h1,h2,r⟩:=r
  unfold leftE
  cases h:hasN b seen with
  | true=>
   have:=hasN_iff.1 h
   simp only
   rw[List.filter_cons_of_neg (by simpa using this)]
   exact leftE_rel seen r
  | false=>
   have:¬ b ∈ seen:=fun e=>by rw[hasN_iff.2 e] at h;cases h
   simp only
   rw[List.filter_cons_of_pos (by simpa using this)]
   exact⟨y,z,_,rfl,h1,h2,leftE_rel seen r⟩
theorem lastN_eq:∀(l:List Nat),lastN l=l.getLast?
 | []=>rfl
 | [n]=>rfl
 | n::m::l=>by
  unfold lastN
  simp only
  rw[lastN_eq (m::l)]
  simp
theorem findB_rel {ρ:Emb} {b:Nat}:∀ {es:List (V × V × Nat)} {xs:List MapEntry} {k v:V},ERel ρ es xs→findB b es=some (k,v)→∃ e,xs.find? (·.born==b)=some e∧VRel ρ k e.key∧VRel ρ v e.val
 | [],xs,k,v,r,h=>by cases h
 | (k',v',c)::es,xs,k,v,r,h=>by
  obtain⟨y,z,ys,rfl,h1,h2,r⟩:=r
  unfold findB at h
  cases hc:c.beq b with
  | true=>
   rw[hc] at h
   cases h
   have:=beq_iff.1 hc
   subst this
   exact⟨⟨y,z,c⟩,by simp,h1,h2⟩
  | false=>
   rw[hc] at h
   have:=beq_false.1 hc
   obtain⟨e,he,k1,k2⟩:=findB_rel r h
   exact⟨e,by simp[this,he],k1,k2⟩
section
variable {P:Program} {dst:Option Nat} {ty:TypeId} {pos:String} {after:Array Edge} {guard:Option (Nat × Bool)}
theorem run_callB' {b:Builtin} {at':Array TypeId} {xs:Array Operand} {a:Act} {w w':World} {v:Value} (h:(builtin b at' ty (xs.map fun | .const _=>true | _=>false) (xs.map a.eval)).run P w=.ok (.value v) w') :
  (execOp a.eval ⟨dst,.call ⟨.builtin b,xs,at'⟩,ty,pos,after,guard⟩).run P w=.ok (.value v) w':=by
 simp[execOp,resolve,invoke]
 exact h
theorem at'_zero {l:Loc} (h1:l.s=none) (h2:l.d=0):at' l 0=⟨l.c,0,none⟩:=by
 obtain⟨c,d,r,s⟩:=l
 simp only at h1 h2
 subst h1 h2
 rfl
theorem rangeV_next {H H':Heap} {x v:V} (h:rangeV H x=some (v,H')):H.Upto H':=by
 unfold rangeV at h
 split at h
 ·cases h;exact Heap.Upto.add _ _
 ·split at h
  ·cases h;exact Heap.Upto.add _ _
  ·cases h
 ·cases h
theorem nextV_next {H H':Heap} {x v:V} (h:nextV H x=some (v,H')):H.Upto H':=by
 unfold nextV at h
 split at h
 ·split at h
  ·cases h;exact .refl _
  ·split at h
   ·split at h
    ·split at h
     ·cases h;exact .refl _
     ·cases h;exact Heap.Upto.set _ _ _
     ·cases h
    ·cases h
   ·cases h
  ·cases h
 ·cases h
theorem snd_range {t:TypeId} {x:Operand} {sx:S} {k e:TypeId} (hu:P.underlying t=some (.map k e)) (hx:src P x=some sx):SndA P ⟨dst,.range t x,ty,pos,after,guard⟩ (rangeF sx):=by
 refine⟨fun t' H v H' h=>?_,fun n ρ t' a v N H H' w hg ht hs hw hf h=>?_⟩
 ·unfold rangeF at h
  split at h
  ·exact rangeV_next h
  ·cases h
 unfold rangeF at h
 split at h
 ·rename_i u hu'
  have hr:=src_rel hg ht hx hu'
  unfold rangeV at h
  split at h
  ·cases h
   have hr:a.eval x=.map none:=hr
   have hfr:ρ (.run H.next)=none:=hf _ (Nat.le_refl _) (by simp)
   refine⟨_,.pointer (some ⟨w.heap.size,0,none⟩),ρ.add (.run H.next) ⟨w.heap.size,0,0,none⟩,w.alloc (.mapIter none 0 #[] 0),?_,.inl rfl,?_,⟨_,Emb.add_same _ _ _,rfl⟩⟩
   ·simp[execOp,hr,Instr.range,run_underlying hu]
   ·exact Step.make hs hw hfr rfl rfl rfl rfl (by simp) (fun c hc=>Go.heap_alloc_old _ _ hc) ⟨⟨hs.low,rfl,rfl⟩,none,Go.heap_alloc_new _ _,rfl⟩
  ·rename_i r
   split at h
   ·rename_i es clock hm
    cases h
    obtain⟨l,hl,hr⟩:=hr
    have hg':=mapAt_some hm
    obtain⟨_,es',hb,hre⟩:=hs.obj _ _ l hg' hl
    have hfr:ρ (.run H.next)=none:=hf _ (Nat.le_refl _) (by simp)
    refine⟨_,.pointer (some ⟨w.heap.size,0,none⟩),ρ.add (.run H.next) ⟨w.heap.size,0,0,none⟩,w.alloc (.mapIter (some l.c) clock #[] clock),?_,.inl rfl,?_,⟨_,Emb.add_same _ _ _,rfl⟩⟩
    ·simp[execOp,hr,Instr.range,run_underlying hu,MapKept.run_getObj_map hb]
    ·exact Step.make hs hw hfr rfl rfl rfl rfl (by simp) (fun c hc=>Go.heap_alloc_old _ _ hc) ⟨⟨hs.low,rfl,rfl⟩,some l.c,Go.heap_alloc_new _ _,l,Emb.add_ext _ hfr _ _ hl,rfl⟩
   ·cases h
  ·cases h
 ·cases h
theorem Step.from_drew {N:Nat} {ρ ρ':Emb} {H H':Heap} {w w1 w':World} (h:w1=w∨w1=w.drew) (s:Step N ρ H w1 ρ' H' w'):Step N ρ H w ρ' H' w':=by
 rcases h with rfl | rfl
 ·exact s
 ·exact s.of_drew
theorem iter_step {N:Nat} {ρ:Emb} {H:Heap} {w w1:World} {b:Bk} {l:Loc} {m:Option Bk} {m':Option Nat} {since last clock:Nat} {seen:List Nat} (n:Nat) (hs:Sim N ρ H.get w) (hw:H.Wf) (hl:ρ b=some l) (hi:H.get b=some (.iter m since seen last))
  (hm:MRel ρ m m') (hd:w1=w∨w1=w.drew):Step N ρ H w ρ (H.set b (.iter m since (seen++[n]) clock)) (setBlock w1 l.c (.mapIter m' since (seen.toArray.push n) clock)):=by
 refine Step.from_drew hd ?_
 have hs1:Sim N ρ H.get w1:=by
  rcases hd with rfl | rfl
  ·exact hs
  ·exact hs.drew
 have hlt:=(hs1.obj _ _ l hi hl).live_lt trivial
 obtain⟨h1,_,hb,_⟩:=hs1.obj _ _ l hi hl
 refine Step.change hs1 hw hl hi trivial rfl rfl rfl (by simp[setBlock]) (fun c hc=>?_) ⟨h1,m',by simp[setBlock,hlt],hm⟩
 simp[setBlock,Array.getElem?_setIfInBounds_ne (Ne.symm hc)]
theorem snd_next {x:Operand} {sx:S} (hx:src P x=some sx):SndA P ⟨dst,.next x false,ty,pos,after,guard⟩ (nextF sx):=by
 refine⟨fun t' H v H' h=>?_,fun n ρ t' a v N H H' w hg ht hs hw hf h=>?_⟩
 ·unfold nextF at h
  split at h
  ·exact nextV_next h
  ·cases h
 unfold nextF at h
 split at h
 ·rename_i u hu'
  have hr:=src_rel hg ht hx hu'
  unfold nextV at h
  split at h
  ·rename_i p
   obtain⟨l,hl,he⟩:=hr
   split at h
   ·rename_i ho hi
    have ho:=beq_iff.1 ho
    rw[ho] at he
    obtain⟨⟨_,h2,h3⟩,m',hb,hm⟩:=hs.obj _ _ l hi hl
    have hm:m'=none:=hm
    subst hm
    rw[at'_zero h2 h3] at he
    cases h
    refine⟨_,_,ρ,w,?_,.inl rfl,Step.refl hs hw,⟨#[.bool false],rfl,_,[],rfl,rfl,rfl⟩⟩
    simp[execOp,he,Instr.next,getObj,Sem.run,hb]
   ·rename_i r since seen last ho hi
    have ho:=beq_iff.1 ho
    rw[ho] at he
    obtain⟨⟨_,h2,h3⟩,m',hb,hm⟩:=hs.obj _ _ l hi hl
    obtain⟨lr,hlr,rfl⟩:=hm
    rw[at'_zero h2 h3] at he
    split at h
    ·rename_i es clock hmap
     have hg':=mapAt_some hmap
     obtain⟨_,es',hbm,hre⟩:=hs.obj _ _ lr hg' hlr
     split at h
     ·rename_i hok
      simp only[Bool.and_eq_true] at hok
      have hold:=allLt_iff hre hok.1
      have hsc:=ble_iff.1 hok.2
      have hleft:=leftE_rel seen hre
      have hrun:=run_next_at (P:=P) w ty l.c lr.c since last seen.toArray es' clock hb hbm hold hsc
      have hsz:(leftOf es' seen.toArray).toList=es'.toList.filter fun e=>!seen.toArray.contains e.born:=by unfold leftOf;simp
      split at h
      ·rename_i hnil
       cases h
       rw[hnil] at hleft
       have hleft:es'.toList.filter (fun e=>!seen.toArray.contains e.born)=[]:=hleft
       rcases hrun with ⟨_,hrun⟩ | ⟨e,he',_⟩
       ·refine⟨_,_,ρ,w,?_,.inl rfl,Step.refl hs hw,⟨#[.bool false],rfl,_,[],rfl,rfl,rfl⟩⟩
        simp[execOp,he,hrun]
       ·rw[hsz,hleft] at he';cases he'
      ·rename_i k v b hone
       cases h
       rw[hone] at hleft
       obtain⟨y,z,ys,hl1,hy,hz,hys⟩:=hleft
       have hys:ys=[]:=hys
       subst hys
       rcases hrun with ⟨h0,_⟩ | ⟨e,he',w1,hd,hrun⟩
       ·rw[← Array.length_toList,hsz,hl1] at h0;simp at h0
       ·rw[hsz,hl1] at he'
        have he':e=_:=List.mem_singleton.1 he'
        subst he'
        refine⟨_,_,ρ,_,?_,.inl rfl,iter_step b hs hw hl hi ⟨lr,hlr,rfl⟩ hd,⟨#[.bool true,y,z],rfl,_,_,rfl,rfl,_,_,rfl,hy,_,_,rfl,hz,rfl⟩⟩
        simp[execOp,he,hrun]
      ·cases h
     ·cases h
    ·cases h
   ·cases h
  ·cases h
 ·cases h
theorem snd_entry {x:Operand} {sx:S} (hx:src P x=some sx):SndR P ⟨dst,.entry x,ty,pos,after,guard⟩ (entryF sx):=by
 intro n ρ t a v N H w hg ht hs h
 unfold entryF at h
 split at h
 ·rename_i u hu'
  have hr:=src_rel hg ht hx hu'
  unfold entryV at h
  split at h
  ·rename_i p
   obtain⟨l,hl,he⟩:=hr
   split at h
   ·rename_i r since seen last ho hi
    have ho:=beq_iff.1 ho
    rw[ho] at he
    obtain⟨⟨_,h2,h3⟩,m',hb,hm⟩:=hs.obj _ _ l hi hl
    obtain⟨lr,hlr,rfl⟩:=hm
    rw[at'_zero h2 h3] at he
    split at h
    ·rename_i es clock b hmap hlast
     have hg':=mapAt_some hmap
     obtain⟨_,es',hbm,hre⟩:=hs.obj _ _ lr hg' hlr
     split at h
     ·rename_i hc
      have hc:=beq_iff.1 hc
      subst hc
      cases hfb:findB b es with
      | none=>rw[hfb] at h;cases h
      | some kv=>
       obtain⟨k,v'⟩:=kv
       rw[hfb] at h
       cases h
       obtain⟨e,hfind,h5,h6⟩:=findB_rel hre hfb
       rw[lastN_eq] at hlast
       have hback:seen.toArray.back?=some b:=by simpa using hlast
       have hfind':es'.find? (·.born==b)=some e:=by rw[← Array.find?_toList];exact hfind
       refine⟨.tuple #[e.key,e.val],⟨_,rfl,_,_,rfl,h5,_,_,rfl,h6,rfl⟩,?_⟩
       simp[execOp,he,Instr.entry,getObj,Sem.run,hb,hbm,hback,hfind']
     ·cases h
    ·cases h
   ·cases h
  ·cases h
 ·cases h
theorem clearV_next {sz:Nat} {z:List V} {H H':Heap} {x v:V} (h:clearV sz z H x=some (v,H')):H.Upto H':=by
 unfold clearV at h
 split at h
 ·split at h
  ·cases h;exact .refl _
  ·split at h
   ·rename_i p
    cases hst:storeElems p.b sz (List.replicate _ z) p.o H with
    | none=>rw[hst] at h;cases h
    | some H1=>rw[hst] at h;cases h;exact storeElems_next hst
   ·cases h
 ·cases h
theorem snd_clear {t e:TypeId} {x:Operand} {sx:S} {sz:Nat} {z:List V} (h00:sz≠0) (hu:P.underlying t=some (.slice e)) (hsz:sizeT P e=some sz) (hz:zeroC P e=some z) (hx:src P x=some sx):SndA P ⟨dst,.call ⟨.builtin .clear,#[x],#[t]⟩,ty,pos,after,guard⟩ (clearF sz z sx):=by
 refine⟨fun t' H v H' h=>?_,fun n ρ t' a v N H H' w hg ht hs hw hf h=>?_⟩
 ·unfold clearF at h
  split at h
  ·exact clearV_next h
  ·cases h
 unfold clearF at h
 split at h
 ·rename_i u hu'
  have hr:=src_rel hg ht hx hu'
  unfold clearV at h
  split at h
  ·rename_i p m cap loose
   have hval:∃ q c,a.eval x=.slice q m c∧∀ p',p=some p'→∃ l,ρ p'.b=some l∧q=some (at' l p'.o):=by
    cases p with
    | none=>obtain⟨rfl,_,⟨_,he⟩ | ⟨_,q,c,he⟩⟩:=hr<;>exact⟨_,_,he,fun p' h=>by cases h⟩
    | some p=>obtain⟨l,c,hl,he,_⟩:=hr;exact⟨_,_,he,fun p' h=>by cases h;exact⟨l,hl,rfl⟩⟩
   obtain⟨q,c,he,hq⟩:=hval
   split at h
   ·rename_i h0
    have h0:=beq_iff.1 h0
    subst h0
    cases h
    refine⟨_,.tuple #[],ρ,w,?_,.inl rfl,Step.refl hs hw,⟨#[],rfl,rfl⟩⟩
    apply run_callB'
    cases q<;>simp[builtin,Builtin.clear_,run_underlying hu,he]
   ·rename_i h0
    have h0:=beq_false.1 h0
    split at h
    ·rename_i p
     obtain⟨l,hl,rfl⟩:=hq p rfl
     cases hst:storeElems p.b sz (List.replicate m z) p.o H with
     | none=>rw[hst] at h;cases h
     | some H1=>
      rw[hst] at h
      cases h
      obtain⟨i,zz,hi,hzz,hwid,hrel⟩:=zeroC_some hz
      obtain⟨i',hi',hsz'⟩:=sizeT_some hsz
      rw[hi] at hi'
      cases hi'
      have hlen:=(hrel ρ).length
      rw[Array.length_toList,hwid,hsz'] at hlen
      have hrr:=RRel.replicate (hrel ρ) m
      rw[Array.length_toList,hlen] at hrr
      have hmade:(Builtin.zeroCells zz.cells m).toList=(List.replicate m zz.cells.toList).flatten:=by
       rw[← range_rep _ (by omega)]
       simp[Builtin.zeroCells]
      obtain⟨w',hrun,hstep⟩:=storeElems_step (P:=P) hl _ _ p.o H H' w hs hw hrr hst
      refine⟨_,.tuple #[],ρ,w',?_,.inl rfl,hstep,⟨#[],rfl,rfl⟩⟩
      apply run_callB'
      cases m with
      | zero=>exact absurd rfl h0
      | succ m=>
       have hzv:=run_zeroValue hi hzz w
       simp[builtin,Builtin.clear_,run_underlying hu,he,hzv,hmade,hrun]
    ·cases h
  ·cases h
 ·cases h
end
end Go.Am
