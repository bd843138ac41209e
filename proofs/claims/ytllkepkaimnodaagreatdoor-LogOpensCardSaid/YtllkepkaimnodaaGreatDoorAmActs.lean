import Derived.Test.YtllkepkaimnodaaGreatDoorAmMaps
import Derived.Laws.MakeOwn
set_option linter.unusedVariables false
set_option linter.unusedSimpArgs false
namespace Go.Am
theorem Tr.set_set {α:Type} (v u:α):∀(p:List Bool) (t:Tr α),setP p v (setP p u t)=setP p v t
 | [],.e=>by simp
 | [],.n _ _ _=>by simp
 | true::p,.e=>by simp[set_set v u p]
 | false::p,.e=>by simp[set_set v u p]
 | true::p,.n _ _ _=>by simp[set_set v u p]
 | false::p,.n _ _ _=>by simp[set_set v u p]
theorem Heap.set_set (H:Heap) (b:Bk) (o o':Obj):(H.set b o).set b o'=H.set b o':=by
 cases b with
 | run b=>simp[Heap.set,Tr.set_set]
 | arg b=>
  simp only[Heap.set]
  congr 1
  funext c
  cases c.beq b<;>rfl
section
variable {P:Program} {dst:Option Nat} {ty:TypeId} {pos:String} {after:Array Edge} {guard:Option (Nat × Bool)}
theorem make_step {N:Nat} {ρ:Emb} {H:Heap} {w:World} {rs:List (List V)} {xs:List Value} {arr:Array Value} {e:TypeId} {esz:Nat} (hs:Sim N ρ H.get w) (hw:H.Wf) (hf:ρ (.run H.next)=none) (hr:RRel ρ esz rs xs)
  (hx:∀(i:Nat) (x:Value),xs[i]?=some x→arr[i]?=some x) (hle:xs.length≤arr.size):Step N ρ H w (ρ.add (.run H.next) ⟨w.heap.size,0,arr.size,none⟩) (H.add (.rows false esz rs)) (w.alloc (.cells arr e)):=by
 refine Step.make hs hw hf rfl rfl rfl rfl (by simp) (fun c hc=>heap_alloc_old _ _ _ hc) ?_
 exact⟨⟨hs.low,rfl⟩,xs,arr,e,hr.mono (Emb.add_ext _ hf),heap_alloc_new _ _,by simp,hle,fun i x h=>by simpa using hx i x h⟩
theorem make_step_drew {N:Nat} {ρ:Emb} {H:Heap} {w:World} {rs:List (List V)} {xs:List Value} {arr:Array Value} {e:TypeId} {esz:Nat} (hs:Sim N ρ H.get w) (hw:H.Wf) (hf:ρ (.run H.next)=none) (hr:RRel ρ esz rs xs)
  (hx:∀(i:Nat) (x:Value),xs[i]?=some x→arr[i]?=some x) (hle:xs.length≤arr.size):Step N ρ H w (ρ.add (.run H.next) ⟨w.heap.size,0,arr.size,none⟩) (H.add (.rows false esz rs)) (w.drew.alloc (.cells arr e)):=
 Step.of_drew (make_step hs.drew hw hf hr hx hle)
theorem snd_alloc {t:TypeId} {sz:Nat} {z:List V} (hsz:sizeT P t=some sz) (hz:zeroC P t=some z):SndM P ⟨dst,.alloc t,ty,pos,after,guard⟩ (allocF sz z):=by
 intro n ρ t' a ob mk N H w hg ht hs hw hf hv
 unfold allocF at hv
 cases hv
 obtain⟨i,zz,hi,hzz,hwid,hrel⟩:=zeroC_some hz
 obtain⟨i',hi',hsz'⟩:=sizeT_some hsz
 rw[hi] at hi'
 cases hi'
 have hlen:=(hrel ρ).length
 have hr:=RRel.one (hrel ρ)
 rw[hlen,hwid,hsz'] at hr
 refine⟨.pointer (some ⟨w.heap.size,0,none⟩),_,_,?_,make_step (arr:=zz.cells) (e:=t) hs hw hf hr (fun i x h=>by simpa using h) (by simp),⟨_,Emb.add_same _ _ _,rfl⟩⟩
 simp[execOp,Instr.alloc,run_zeroValue hi hzz,newVar,newRow]
theorem snd_box {t:TypeId} {sz:Nat} {x:Operand} {sx:S} (hsz:sizeT P t=some sz) (hx:src P x=some sx):SndM P ⟨dst,.box t x,ty,pos,after,guard⟩ (boxF sz sx):=by
 intro n ρ t' a ob mk N H w hg ht hs hw hf hv
 unfold boxF at hv
 split at hv
 ·rename_i v h1
  split at hv
  ·rename_i vs hvs
   split at hv
   ·rename_i hwid
    cases hv
    have hwid:=beq_iff.1 hwid
    have hc:=cells_rel hvs (src_rel hg ht hx h1)
    have hr:=RRel.one hc
    rw[hc.length,hwid] at hr
    refine⟨.pointer (some ⟨w.heap.size,0,none⟩),_,_,?_,make_step (arr:=(a.eval x).cells) (e:=t) hs hw hf hr (fun i x h=>by simpa using h) (by simp),⟨_,Emb.add_same _ _ _,rfl⟩⟩
    simp[execOp,Instr.box,newVar,newRow]
   ·cases hv
  ·cases hv
 ·cases hv
theorem range_rep (z:Array Value) (hz:0 < z.size):∀ n,((List.range (n*z.size)).map fun i=>z[i % z.size]!)=(List.replicate n z.toList).flatten
 | 0=>by simp
 | n+1=>by
  rw[Nat.add_mul,Nat.one_mul,Nat.add_comm,List.range_add,List.map_append,List.replicate_succ,List.flatten_cons,← range_rep z hz n]
  congr 1
  ·apply List.ext_getElem?
   intro i
   rw[List.getElem?_map]
   by_cases hi:i < z.size
   ·rw[List.getElem?_range hi];simp[hi,Nat.mod_eq_of_lt hi]
   ·rw[List.getElem?_eq_none (by simpa using hi),List.getElem?_eq_none (by simpa using hi)];rfl
  ·rw[List.map_map]
   apply List.map_congr_left
   intro i _
   simp[Nat.add_mod_left]
theorem snd_mkslice {t e:TypeId} {l c:Operand} {sl sc:S} {sz by':Nat} {z:List V} (hu:P.underlying t=some (.slice e)) (hl:src P l=some sl) (hc:src P c=some sc) (hsz:sizeT P e=some sz) (hby:bytesT P e=some by') (hz:zeroC P e=some z) (h0:sz≠0) :
  SndM P ⟨dst,.makeSlice t l c,ty,pos,after,guard⟩ (mksliceF sz by' z sl sc):=by
 intro n ρ t' a ob mk N H w hg ht hs hw hf hv
 unfold mksliceF at hv
 split at hv
 ·rename_i l' c' h1 h2
  split at hv
  ·rename_i hcond
   cases hv
   simp only[Bool.and_eq_true] at hcond
   have g1:=ble_iff.1 hcond.1.1
   have g2:=ble_iff.1 hcond.1.2
   have g3:=ble_iff.1 hcond.2
   obtain⟨i,zz,hi,hzz,hwid,hrel⟩:=zeroC_some hz
   obtain⟨i',hi',hsz'⟩:=sizeT_some hsz
   rw[hi] at hi'
   cases hi'
   have hb:i.bytes=by':=by simpa [bytesT,hi] using hby
   have hlen:=(hrel ρ).length
   rw[Array.length_toList,hwid,hsz'] at hlen
   obtain⟨kl,hkl⟩:=getNat_rel hg ht hl h1
   obtain⟨kc,hkc⟩:=getNat_rel hg ht hc h2
   have hbytes:(i.bytes:Int)*(c':Int)≤281474976710656:=by
    have:((i.bytes*c':Nat):Int)≤281474976710656:=by rw[hb];rw[B8] at g2;omega
    rwa [Int.natCast_mul] at this
   have hr:=RRel.replicate (hrel ρ) c'
   rw[Array.length_toList,hlen] at hr
   have hmade:(madeCells zz.cells (c'*sz)).toList=(List.replicate c' zz.cells.toList).flatten:=by
    rw[← hlen,← range_rep _ (by omega)]
    simp[madeCells]
   have hrun:=run_make (P:=P) w t e i zz hu hi hzz kl kc l' c' (by omega) (by omega) hbytes (by omega)
   rw[hsz'] at hrun
   refine⟨.slice (some ⟨w.heap.size,0,none⟩) l' c',_,_,?_,make_step (arr:=madeCells zz.cells (c'*sz)) (e:=e) hs hw hf hr (fun i x h=>?_) (by rw[← Array.length_toList,hmade];exact Nat.le_refl _),⟨_,c',Emb.add_same _ _ _,rfl,fun _=>rfl,fun h=>absurd rfl h⟩⟩
   ·simp only[execOp,hkl,hkc]
    simp[hrun]
   ·rw[← hmade] at h;simpa using h
  ·cases hv
 ·cases hv
theorem nth_lt {α:Type}:∀(l:List α) (i:Nat),i < l.length→∃ x,nth l i=some x
 | [],i,h=>by simp at h
 | a::l,0,h=>⟨a,rfl⟩
 | a::l,i+1,h=>by simp at h;simpa using nth_lt l i h
theorem fillRows_run {n sz:Nat} {ρ:Emb} {t:T} {a:Act} (hg:GRel P ρ) (ht:TRel n ρ t a):∀(ps:List (Nat × Operand)) (qs:List (Nat × Nat × S)) (rs ds:List (List V)) (xs:Array Value),
  partsA P sz 1 ps=some qs→RRel ρ sz rs xs.toList→fillRows t qs rs=some ds→∃ ys:Array Value,Instr.fill (fun i=>some (i*sz,sz)) xs (ps.map fun p=>(p.1,a.eval p.2))=some ys∧RRel ρ sz ds ys.toList
 | [],qs,rs,ds,xs,hq,hr,h=>by
  simp only[partsA] at hq;cases hq;simp only[fillRows] at h;cases h;exact⟨xs,rfl,hr⟩
 | (i,x)::ps,qs,rs,ds,xs,hq,hr,h=>by
  simp only[partsA] at hq
  split at hq
  ·rename_i s hs
   cases hrest:partsA P sz 1 ps with
   | none=>rw[hrest] at hq;cases hq
   | some qs'=>
    rw[hrest] at hq
    cases hq
    simp only[fillRows,B8,Nat.mul_one] at h
    split at h
    ·rename_i v hv
     split at h
     ·rename_i vs hvs
      split at h
      ·rename_i hcond
       simp only[Bool.and_eq_true] at hcond
       have hw':=beq_iff.1 hcond.1
       have hlt:i < rs.length:=ble_iff.1 hcond.2
       have hcv:=cells_rel hvs (src_rel hg ht hs hv)
       have hlen:(a.eval x).cells.size=sz:=by have:=hcv.length;rw[Array.length_toList] at this;omega
       obtain⟨r,hnr⟩:=nth_lt rs i hlt
       obtain⟨p,b,q,hxs,k1,k2,k3,k4⟩:=hr.split hnr
       have hsize:xs.size=p.length+sz+q.length:=by rw[← Array.length_toList,hxs];simp[k2];omega
       have hfold:=foldl_over (i*sz) (a.eval x).cells.toList 0 xs (by simp[hsize];omega)
       have hover:over xs.toList (i*sz+0) (a.eval x).cells.toList=p++(a.eval x).cells.toList++q:=by
        rw[hxs,Nat.add_zero,List.append_assoc,over_append _ _ _ _ (by omega),k1,Nat.sub_self,List.append_assoc]
        congr 1
        unfold over
        simp only[List.take_zero,List.nil_append,Nat.zero_add,Array.length_toList]
        rw[List.drop_append,List.drop_eq_nil_of_le (by omega),show (a.eval x).cells.size - b.length=0 by omega]
        simp
       obtain⟨ys,hys,hry⟩:=fillRows_run hg ht ps qs' (upd vs rs i) ds (((a.eval x).cells.toList.zipIdx).foldl (fun cs (p:Value × Nat)=>cs.setIfInBounds (i*sz+p.2) p.1) xs) hrest (by rw[hfold,hover];exact k4 vs _ hcv (by simpa using hlen)) h
       refine⟨ys,?_,hry⟩
       simp only[List.map_cons,Instr.fill]
       have hno:(decide ((a.eval x).cells.size≠sz) || decide (i*sz+(a.eval x).cells.size > xs.size))=false:=by
        rw[decide_eq_false (by omega),decide_eq_false (by omega)];rfl
       rw[hno,if_neg (by decide)]
       have e:(a.eval x).cells.zipIdx.foldl (fun cs (p:Value × Nat)=>cs.setIfInBounds (i*sz+p.2) p.1) xs=((a.eval x).cells.toList.zipIdx).foldl (fun cs (p:Value × Nat)=>cs.setIfInBounds (i*sz+p.2) p.1) xs:=by
        rw[← Array.foldl_toList,Array.toList_zipIdx]
       rw[e]
       exact hys
      ·cases h
     ·cases h
    ·cases h
  ·cases hq
theorem snd_bslice {t e:TypeId} {m sz:Nat} {z:List V} {ps:Array (Nat × Operand)} {qs:List (Nat × Nat × S)} (hu:P.underlying t=some (.slice e)) (hsz:sizeT P e=some sz) (hz:zeroC P e=some z) (hsmall:m*sz≤16777216) (h0:sz≠0) (hq:partsA P sz 1 ps.toList=some qs) :
  SndM P ⟨dst,.buildSlice t m ps,ty,pos,after,guard⟩ (bsliceF m sz z qs):=by
 intro n ρ t' a ob mk N H w hg ht hs hw hf hv
 unfold bsliceF at hv
 cases hfr:fillRows t' qs (List.replicate m z) with
 | none=>rw[hfr] at hv;cases hv
 | some rs=>
  rw[hfr] at hv
  cases hv
  obtain⟨i,zz,hi,hzz,hwid,hrel⟩:=zeroC_some hz
  obtain⟨i',hi',hsz'⟩:=sizeT_some hsz
  rw[hi] at hi'
  cases hi'
  have hlen:=(hrel ρ).length
  rw[Array.length_toList,hwid,hsz'] at hlen
  have hr:=RRel.replicate (hrel ρ) m
  rw[Array.length_toList,hlen] at hr
  by_cases hm:m*sz=0
  ·
   have hm0:m=0:=by rcases Nat.mul_eq_zero.1 hm with h | h;exact h;exact absurd h h0
   subst hm0
   obtain⟨ys,hys,hry⟩:=fillRows_run hg ht ps.toList qs [] rs #[] hq rfl hfr
   have hrun:(execOp a.eval ⟨dst,.buildSlice t 0 ps,ty,pos,after,guard⟩).run P w=.ok (.value (.slice (some ⟨w.heap.size,0,none⟩) 0 0)) (w.alloc (.cells ys e)):=by
    have hys':Instr.fill (fun i=>some (i*sz,sz)) #[] (ps.map fun(i,x)=>(i,a.eval x)).toList=some ys:=by simpa using hys
    have hys'':Instr.fill (fun i=>some (i*sz,sz)) #[] (List.map (fun x=>(x.fst,a.eval x.snd)) ps.toList)=some ys:=hys
    simp[execOp,Instr.buildSlice,run_underlying hu,run_sizeOf hsz,hys'',newRow,Array.range_zero']
   exact⟨_,_,_,hrun,make_step (arr:=ys) (e:=e) hs hw hf hry (fun i x h=>by simpa using h) (by simp),⟨_,0,Emb.add_same _ _ _,rfl,fun _=>rfl,fun h=>absurd rfl h⟩⟩
  ·have hmade:((Array.range (m*sz)).map (zz.cells[· % zz.cells.size]!)).toList=(List.replicate m zz.cells.toList).flatten:=by
    rw[← hlen,← range_rep _ (by omega)]
    simp
   obtain⟨ys,hys,hry⟩:=fillRows_run hg ht ps.toList qs (List.replicate m z) rs ((Array.range (m*sz)).map (zz.cells[· % zz.cells.size]!)) hq (by rw[hmade];exact hr) hfr
   have hrun:=run_buildSlice (P:=P) w t e m (ps.map fun(i,x)=>(i,a.eval x)) ys i zz hu hi hzz (by rw[hsz'];omega) (by rw[hsz'];exact hm) (by rw[hsz'];simpa using hys)
   exact⟨_,_,_,run_value hrun,make_step (arr:=ys) (e:=e) hs hw hf hry (fun i x h=>by simpa using h) (by simp),⟨_,m,Emb.add_same _ _ _,rfl,fun _=>rfl,fun h=>absurd rfl h⟩⟩
theorem storeAt_next {H H':Heap} {p:Ptr} {vs:List V} (h:storeAt H p vs=some H'):H.Upto H':=by
 unfold storeAt at h
 split at h
 ·split at h
  ·split at h
   ·cases h;exact .set _ _ _
   ·cases h
  ·cases h
 ·cases h
theorem storeElems_next {b:Bk} {sz:Nat}:∀ {xs:List (List V)} {o:Nat} {H H':Heap},storeElems b sz xs o H=some H'→H.Upto H'
 | [],o,H,H',h=>by simp only[storeElems] at h;cases h;exact .refl _
 | x::xs,o,H,H',h=>by
  simp only[storeElems] at h
  split at h
  ·rename_i H1 h1
   exact(storeAt_next h1).trans (storeElems_next h)
  ·cases h
theorem snd_store {t:TypeId} {x y:Operand} {sx sy:S} {sz:Nat} (hsz:sizeT P t=some sz) (hx:src P x=some sx) (hy:src P y=some sy):SndA P ⟨dst,.store t x y,ty,pos,after,guard⟩ (storeF sx sy sz):=by
 refine⟨fun t' H v H' h=>?_,fun n ρ t' a v N H H' w hg ht hs hw hf h=>?_⟩
 ·unfold storeF at h
  split at h
  ·split at h
   ·split at h
    ·cases hst:storeAt H _ _ with
     | none=>rw[hst] at h;cases h
     | some H1=>rw[hst] at h;cases h;exact storeAt_next hst
    ·cases h
   ·cases h
  ·cases h
 ·unfold storeF at h
  split at h
  ·rename_i p v1 h1 h2
   split at h
   ·rename_i vs hvs
    split at h
    ·rename_i hwid
     have hwid:=beq_iff.1 hwid
     cases hst:storeAt H p vs with
     | none=>rw[hst] at h;cases h
     | some H1=>
      rw[hst] at h
      cases h
      obtain⟨l,hl,he⟩:=src_rel hg ht hx h1
      have hc:=cells_rel hvs (src_rel hg ht hy h2)
      obtain⟨w',hrun,hstep⟩:=storeAt_step (P:=P) hs hw hl hst hc
      have hlen:(a.eval y).cells.size=sz:=by have:=hc.length;rw[Array.length_toList] at this;omega
      refine⟨.skip,Go.undef,ρ,w',?_,.inr ⟨rfl,rfl⟩,hstep,VRel.undef _⟩
      simp[execOp,he,Instr.storeAt,Instr.sureAddr,storeVar,run_sizeOf hsz,hlen,hrun]
    ·cases h
   ·cases h
  ·cases h
theorem storeCells_shift (a:Addr):∀(vs:List Value) (i j:Nat),storeCells a vs (i+j)=storeCells (a.add i) vs j
 | [],_,_=>rfl
 | v::vs,i,j=>by
  have e:(a.add i).add j=a.add (i+j):=by
   by_cases hi:i=0<;>by_cases hj:j=0<;>simp_all [Addr.add,Nat.add_assoc]
  simp only[storeCells,e]
  congr 1
  funext _
  have:=storeCells_shift a vs i (j+1)
  rw[← this];congr 1
theorem run_storeCells_append {a:Addr}:∀(xs ys:List Value) (i:Nat) (w:World),(storeCells a (xs++ys) i).run P w=((storeCells a xs i).run P w).andThen fun _ w'=>(storeCells a ys (i+xs.length)).run P w'
 | [],ys,i,w=>by simp[storeCells]
 | x::xs,ys,i,w=>by
  simp only[List.cons_append,storeCells,Sem.run_bind]
  cases hst:(store (a.add i) x).run P w with
  | halt e w'=>rfl
  | ok u w'=>
   simp only[Result.andThen_ok]
   rw[run_storeCells_append xs ys (i+1) w']
   simp[Nat.add_assoc,Nat.add_comm 1]
theorem storeElems_step {b:Bk} {sz:Nat} {l:Loc} {N:Nat} {ρ:Emb} (hl:ρ b=some l):∀(new:List (List V)) (xs:List Value) (o:Nat) (H H':Heap) (w:World),Sim N ρ H.get w→H.Wf→RRel ρ sz new xs→storeElems b sz new o H=some H' →
  ∃ w',(storeCells (at' l o) xs).run P w=.ok () w'∧Step N ρ H w ρ H' w'
 | [],xs,o,H,H',w,hs,hw,hr,h=>by
  have hr:xs=[]:=hr
  subst hr
  simp only[storeElems] at h
  cases h
  exact⟨w,rfl,Step.refl hs hw⟩
 | x::new,xs,o,H,H',w,hs,hw,hr,h=>by
  obtain⟨a,ys,rfl,h2,h3,h4⟩:=hr
  simp only[storeElems] at h
  split at h
  ·rename_i H1 hst
   obtain⟨w1,hrun1,hstep1⟩:=storeAt_step (P:=P) hs hw (p:=⟨b,o⟩) hl hst h3
   obtain⟨w2,hrun2,hstep2⟩:=storeElems_step hl new ys (o+sz) H1 H' w1 hstep1.sim hstep1.wf h4 h
   refine⟨w2,?_,hstep1.trans hstep2⟩
   rw[run_storeCells_append,hrun1]
   simp only[Result.andThen_ok,Nat.zero_add]
   have:=storeCells_shift (at' l o) ys a.length 0
   rw[Nat.add_zero] at this
   rw[this,at'_add,h2]
   exact hrun2
  ·cases h
theorem firstE_rel {N:Nat} {ρ:Emb} {H:Heap} {w:World} {sz m cap cap' loose:Nat} {p:Option Ptr} {new:List (List V)} {len:Nat} {q:Option Addr} (hs:Sim N ρ H.get w) (hp:(p=none∧m=0)∨∃ p' l,p=some p'∧ρ p'.b=some l∧q=some (at' l p'.o)) (h:firstE H sz (.slice p m cap loose)=some new) :
  ∃ xs,RRel ρ sz new xs∧new.length=m∧(∀ w',w'.heap=w.heap→(Builtin.firstCells sz m (.slice q len cap')).run P w'=.ok xs.toArray w'):=by
 rcases hp with ⟨rfl,rfl⟩ | ⟨p',l,rfl,hl,rfl⟩
 ·simp only[firstE] at h
  cases h
  exact⟨[],rfl,rfl,fun w' _=>by cases q<;>simp[Builtin.firstCells,loadCells,loadCellsFrom]⟩
 ·simp only[firstE] at h
  obtain⟨xs,h1,h2,h3⟩:=elems_rel hs hl m p'.o new h
  have hlen:=h1.length
  rw[h2] at hlen
  refine⟨xs,h1,h2,fun w' hw'=>?_⟩
  simp only[Builtin.firstCells]
  refine run_loadCells_at hlen (fun j x hx=>?_)
  have:=h3 j x hx
  simpa [World.cell?,hw'] using this
theorem copy_does {N:Nat} {ρ:Emb} {H H':Heap} {w:World} {t u e ty:TypeId} {d s v:V} {xd xs:Value} {sz:Nat} (hu:P.underlying t=some (.slice e)) (hsz:sizeT P e=some sz) (hs:Sim N ρ H.get w) (hw:H.Wf)
  (hd:VRel ρ d xd) (hsr:VRel ρ s xs) (h:copyV sz H d s=some (v,H')):Does P N ρ H w (Builtin.copy_ #[t,u] ty #[xd,xs]) v H':=by
 unfold copyV at h
 split at h
 ·rename_i dp dl dc dx sp sl sc sx
  have hd':∃ q cap',xd=.slice q dl cap'∧((dp=none∧dl=0)∨∃ p' l,dp=some p'∧ρ p'.b=some l∧q=some (at' l p'.o)):=by
   cases dp with
   | none=>obtain⟨rfl,_,⟨_,rfl⟩ | ⟨_,q,c,rfl⟩⟩:=hd<;>exact⟨_,_,rfl,.inl ⟨rfl,rfl⟩⟩
   | some p=>obtain⟨l,c,hl,rfl,_⟩:=hd;exact⟨_,c,rfl,.inr ⟨p,l,rfl,hl,rfl⟩⟩
  have hs':∃ q cap',xs=.slice q sl cap'∧((sp=none∧sl=0)∨∃ p' l,sp=some p'∧ρ p'.b=some l∧q=some (at' l p'.o)):=by
   cases sp with
   | none=>obtain⟨rfl,_,⟨_,rfl⟩ | ⟨_,q,c,rfl⟩⟩:=hsr<;>exact⟨_,_,rfl,.inl ⟨rfl,rfl⟩⟩
   | some p=>obtain⟨l,c,hl,rfl,_⟩:=hsr;exact⟨_,c,rfl,.inr ⟨p,l,rfl,hl,rfl⟩⟩
  obtain⟨qd,cd,rfl,hqd⟩:=hd'
  obtain⟨qs,cs,rfl,hqs⟩:=hs'
  split at h
  ·rename_i hz
   cases h
   have hz:=beq_iff.1 hz
   have hz':Nat.min sl dl=0:=hz
   have hload:∀ q:Option Addr,(Builtin.firstCells sz 0 (.slice q sl cs)).run P w=.ok #[] w:=by
    intro q
    cases q with
    | none=>simp[Builtin.firstCells]
    | some a=>simp[Builtin.firstCells,loadCells,loadCellsFrom]
   refine⟨.int .i64 0,ρ,w,?_,Step.refl hs hw,rfl⟩
   cases qd with
   | none=>simp[Builtin.copy_,run_underlying hu,Builtin.lenOf,hz',run_sizeOf hsz,hload,goInt]
   | some a=>simp[Builtin.copy_,run_underlying hu,Builtin.lenOf,hz',run_sizeOf hsz,hload,goInt,storeCells]
  ·rename_i hz
   have hz:=beq_false.1 hz
   split at h
   ·rename_i new p hfe
    obtain⟨l,hl,rfl⟩:∃ l,ρ p.b=some l∧qd=some (at' l p.o):=by
     rcases hqd with ⟨h,_⟩ | ⟨p',l,h,hl,hq⟩
     ·cases h
     ·cases h;exact⟨l,hl,hq⟩
    have hqs':(sp=none∧min sl dl=0)∨∃ p' l,sp=some p'∧ρ p'.b=some l∧qs=some (at' l p'.o):=by
     rcases hqs with ⟨h1,h3⟩ | h
     ·exact .inl ⟨h1,by omega⟩
     ·exact .inr h
    obtain⟨xs,hr,hn,hrun⟩:=firstE_rel (P:=P) (len:=sl) (cap':=cs) hs hqs' hfe
    cases hst:storeElems p.b sz new p.o H with
    | none=>rw[hst] at h;cases h
    | some H1=>
     rw[hst] at h
     cases h
     obtain⟨w',hrun',hstep⟩:=storeElems_step (P:=P) hl new xs p.o H H' w hs hw hr hst
     refine⟨.int .i64 (min sl dl:Nat),ρ,w',?_,hstep,rfl⟩
     have e:Nat.min sl dl=min sl dl:=rfl
     simp only[Builtin.copy_,Sem.run_bind]
     simp[run_underlying hu,Builtin.lenOf,run_sizeOf hsz,e,hrun w rfl,hrun',goInt]
   ·cases h
 ·cases h
theorem run_append_room {w w':World} (t tx ty e:TypeId) (i:TypeInfo) (ht:P.underlying t=some (.slice e)) (hi:P.info? e=some i) (a:Addr) (sLen sCap:Nat) (x:Value) (n:Nat) (news:List Value) (hs:Src P i.size tx x n news w)
  (hroom:sLen+n≤sCap) (hst:(storeCells (a.add (sLen*i.size)) news).run P w=.ok () w') :
  (Builtin.append_ #[t,tx] ty #[.slice (some a) sLen sCap,x]).run P w=.ok (.slice (some a) (sLen+n) sCap) w':=by
 rcases hs.kind with ⟨e',hk⟩ | hk<;>simp[Builtin.append_,run_underlying ht,run_underlying hk,sizeOf,typeInfo,hi,hs.len,hroom,hs.cells,hst]
theorem elems_next_mono {sz by':Nat} {H H':Heap} {s x v:V} (h:appendV sz by' H s x=some (v,H')):H.Upto H':=by
 unfold appendV at h
 split at h
 ·split at h
  ·split at h
   ·cases h;exact .refl _
   ·cases h
  ·split at h
   ·cases h
   ·split at h
    ·cases h
    ·split at h
     ·split at h
      ·split at h
       ·cases hst:storeElems _ _ _ _ H with
        | none=>rw[hst] at h;cases h
        | some H1=>rw[hst] at h;cases h;exact storeElems_next hst
       ·cases h
      ·split at h
       ·cases h;exact .add _ _
       ·cases h
     ·split at h
      ·split at h
       ·split at h
        ·cases h;exact(Heap.Upto.set _ _ _).trans (.add _ _)
        ·cases h
       ·cases h
      ·cases h
 ·cases h
theorem append_does {N:Nat} {ρ:Emb} {H H':Heap} {w:World} {t u e e' ty:TypeId} {s x v:V} {xs xx:Value} {sz by':Nat} {z:List V} (hu:P.underlying t=some (.slice e)) (hu':P.underlying u=some (.slice e')) (hsz:sizeT P e=some sz) (hby:bytesT P e=some by') (hz:zeroC P e=some z) (h0:sz≠0)
  (hs:Sim N ρ H.get w) (hw:H.Wf) (hpre:∀ b,H.next≤b→b < H'.next→ρ (.run b)=none) (hsr:VRel ρ s xs) (hxr:VRel ρ x xx) (h:appendV sz by' H s x=some (v,H')):Does P N ρ H w (Builtin.append_ #[t,u] ty #[xs,xx]) v H':=by
 obtain⟨i,zz,hi,hzz,hwid,hrel⟩:=zeroC_some hz
 obtain⟨i',hi',hsz'⟩:=sizeT_some hsz
 rw[hi] at hi'
 cases hi'
 have hb:i.bytes=by':=by simpa [bytesT,hi] using hby
 have hzlen:=(hrel ρ).length
 rw[Array.length_toList,hwid,hsz'] at hzlen
 unfold appendV at h
 split at h
 ·rename_i p len cap loose n hlo
  have hx':∃ q cx sp sc sx,x=.slice sp n sc sx∧xx=.slice q n cx∧((sp=none∧n=0)∨∃ p' l,sp=some p'∧ρ p'.b=some l∧q=some (at' l p'.o)):=by
   cases x<;>simp[lenOf] at hlo
   rename_i sp sl sc sx
   subst hlo
   cases sp with
   | none=>obtain⟨rfl,_,⟨_,rfl⟩ | ⟨_,q,c,rfl⟩⟩:=hxr<;>exact⟨_,_,_,_,_,rfl,rfl,.inl ⟨rfl,rfl⟩⟩
   | some p=>obtain⟨l,c,hl,rfl,_⟩:=hxr;exact⟨_,c,_,_,_,rfl,rfl,.inr ⟨p,l,rfl,hl,rfl⟩⟩
  obtain⟨qx,cx,sp,sc,sx,rfl,rfl,hqx⟩:=hx'
  split at h
  ·
   rename_i hn
   have hn:=beq_iff.1 hn
   subst hn
   split at h
   ·rename_i hlc
    cases h
    have hlc:=ble_iff.1 hlc
    have hload:(Builtin.firstCells sz 0 (.slice qx 0 cx)).run P w=.ok #[] w:=by
     cases qx with
     | none=>simp[Builtin.firstCells]
     | some a=>simp[Builtin.firstCells,loadCells,loadCellsFrom]
    refine⟨xs,ρ,w,?_,Step.refl hs hw,hsr⟩
    cases p with
    | none=>
     obtain⟨rfl,rfl,⟨_,rfl⟩ | ⟨_,q,c,rfl⟩⟩:=hsr
     ·simp[Builtin.append_,run_underlying hu,run_underlying hu',run_sizeOf hsz,Builtin.lenOf,hload]
     ·cases q<;>simp[Builtin.append_,run_underlying hu,run_underlying hu',run_sizeOf hsz,Builtin.lenOf,hload,storeCells]
    | some p=>
     obtain⟨l,c',hl,rfl,h1,h2⟩:=hsr
     have:len≤c':=by
      by_cases hlo:loose=0
      ·rw[h1 hlo];exact hlc
      ·exact Nat.le_trans hlc (h2 hlo).1
     simp[Builtin.append_,run_underlying hu,run_underlying hu',run_sizeOf hsz,Builtin.lenOf,hload,this,storeCells]
   ·cases h
  ·rename_i hn
   have hn:=beq_false.1 hn
   split at h
   ·cases h
   ·rename_i hbound
    simp only[Bool.and_eq_true] at hbound
    have hb1:=ble_iff.1 hbound.1
    have hb2:=ble_iff.1 hbound.2
    simp only[B8,B7] at hb1 hb2
    split at h
    ·cases h
    ·rename_i new hnew
     obtain⟨news,hnr,hnl,hnrun⟩:=firstE_rel (P:=P) (len:=n) (cap':=cx) hs hqx hnew
     have hnlen:=hnr.length
     rw[hnl] at hnlen
     have hsrc:Src P i.size u (.slice qx n cx) n news w:=⟨.inl ⟨e',hu'⟩,fun _=>rfl,by rw[hsz'];exact hnrun w rfl,by rw[hsz'];exact hnrun w.drew rfl,by rw[hsz'];exact hnlen,hnr.ones⟩
     have hgrow:∀(sCap:Nat) (base:Option Addr) (olds:List Value) (rs:List (List V)) (Hk:Heap),sCap < len+n→RRel ρ sz rs olds→olds.length=len*sz→Sim N ρ Hk.get w→Hk.Wf→ρ (.run Hk.next)=none →
       (Builtin.firstCells sz len (.slice base len sCap)).run P w.drew=.ok olds.toArray w.drew →
       Does P N ρ Hk w (Builtin.append_ #[t,u] ty #[.slice base len sCap,.slice qx n cx]) (.slice (some ⟨.run Hk.next,0⟩) (len+n) (len+n) sz) (Hk.add (.rows false sz (rs++new))):=by
      intro sCap base olds rs Hk hcap hors holen hks hkw hkf horun
      have hfit:Builtin.nextslicecap (len+n) sCap*i.bytes≤281474976710656:=growslice_fits hcap (by rw[hb];omega)
      have hrun:=run_append_grow_src (P:=P) w t u ty e i zz hu hi hzz base len sCap olds (by rw[hsz'];exact horun) (.slice qx n cx) n news hsrc hcap (by omega) hfit
      have hge:=grownCap_ge w (len+n) sCap e
      have hasz:((olds++news).toArray++Builtin.zeroCells zz.cells (grownCap w (len+n) sCap e - (len+n))).size=grownCap w (len+n) sCap e*sz:=by
       simp[Builtin.zeroCells,holen,hnlen,hzlen]
       rw[← Nat.add_mul,← Nat.add_mul]
       congr 1
       omega
      refine⟨_,_,_,hrun,make_step_drew hks hkw hkf (hors.append hnr) (fun j x hx=>?_) ?_,⟨_,_,Emb.add_same _ _ _,rfl,fun h=>absurd h h0,fun _=>⟨hge,?_⟩⟩⟩
      ·have hlt:=(List.getElem?_eq_some_iff.1 hx).1
       rw[Array.getElem?_append_left (by simpa using hlt)]
       simpa using hx
      ·simp
      ·show 0+_≤_
       rw[hasz,Nat.zero_add]
       exact Nat.le_refl _
     split at h
     ·
      rename_i hlo
      have hlo:=beq_iff.1 hlo
      subst hlo
      split at h
      ·
       rename_i hroom
       have hroom:len+n≤cap:=ble_iff.1 hroom
       split at h
       ·rename_i p
        cases hst:storeElems p.b sz new (Nat.add p.o (Nat.mul len sz)) H with
        | none=>rw[hst] at h;cases h
        | some H1=>
         rw[hst] at h
         cases h
         obtain⟨l,c',hl,rfl,h1,_⟩:=hsr
         have:=h1 rfl
         subst this
         obtain⟨w',hrun',hstep⟩:=storeElems_step (P:=P) hl new news _ H H' w hs hw hnr hst
         have hrun:=run_append_room (P:=P) t u ty e i hu hi (at' l p.o) len c' _ n news hsrc hroom (by rw[hsz',at'_add];exact hrun')
         exact⟨_,ρ,w',hrun,hstep,⟨l,c',hstep.ext _ _ hl,rfl,fun _=>rfl,fun h=>absurd rfl h⟩⟩
       ·cases h
      ·
       rename_i hroom
       have hroom:cap < len+n:=ble_false.1 hroom
       split at h
       ·rename_i old hold
        cases h
        have hf:ρ (.run H.next)=none:=hpre _ (Nat.le_refl _) (by simp)
        have hq:∃ q,xs=.slice q len cap∧((p=none∧len=0)∨∃ p' l,p=some p'∧ρ p'.b=some l∧q=some (at' l p'.o)):=by
         cases p with
         | none=>obtain⟨rfl,rfl,⟨_,rfl⟩ | ⟨h,_⟩⟩:=hsr;exact⟨none,rfl,.inl ⟨rfl,rfl⟩⟩;exact absurd rfl h
         | some p=>obtain⟨l,c,hl,rfl,h1,_⟩:=hsr;have:=h1 rfl;subst this;exact⟨_,rfl,.inr ⟨p,l,rfl,hl,rfl⟩⟩
        obtain⟨q,rfl,hq⟩:=hq
        obtain⟨olds,hor,hol,horun⟩:=firstE_rel (P:=P) (len:=len) (cap':=cap) hs hq hold
        have holen:=hor.length
        rw[hol] at holen
        exact hgrow cap q olds old H hroom hor holen hs hw hf (horun w.drew rfl)
       ·cases h
     ·
      rename_i hlo
      have hlo:=beq_false.1 hlo
      split at h
      ·rename_i q
       split at h
       ·rename_i esz rs hg
        split at h
        ·rename_i hcond
         cases h
         simp only[Bool.and_eq_true] at hcond
         have c1:=beq_iff.1 hcond.1.1.1.1
         have c2:=beq_iff.1 hcond.1.1.1.2
         have c3:=beq_iff.1 hcond.1.1.2
         have c4:=beq_iff.1 hcond.1.2
         have c5:=beq_iff.1 hcond.2
         simp only[Cb,Ca,B7] at c3 c4
         subst c1 c2
         obtain⟨l,c',hl,rfl,_,hroom⟩:=hsr
         obtain⟨hcc,hcr⟩:=hroom hlo
         have hf:ρ (.run H.next)=none:=hpre _ (Nat.le_refl _) (by simp)
         obtain⟨hN,cells,arr,et,hr,hh,hsize,hle,hcell⟩:=hs.obj _ _ l hg hl
         have hqo:q.o / loose*loose=q.o:=by
          have:=Nat.div_add_mod q.o loose
          rw[c3,Nat.add_zero,Nat.mul_comm] at this
          exact this
         have hclen:cells.length=q.o+len*loose:=by rw[hr.length,← c4,Nat.add_mul,hqo]
         have hdrop:=hr.drop (q.o / loose)
         rw[hqo] at hdrop
         have hdlen:(cells.drop q.o).length=len*loose:=by simp[hclen]
         by_cases hfits:len+n≤c'
         ·
          have hmul:(len+n)*loose≤c'*loose:=Nat.mul_le_mul_right _ hfits
          rw[Nat.add_mul] at hmul
          have hst:=run_storeCells_at (P:=P) l.c (l.d+(q.o+len*loose)) et news 0 arr w hh (by omega) hnr.ones
          have hrun:=run_append_room (P:=P) t u ty e i hu hi (at' l q.o) len c' _ n news hsrc hfits (by rw[hsz',at'_add,at'_lit hN.2];exact hst)
          have hov:∀(j:Nat) (x:Value),(cells++news)[j]?=some x→(List.take (l.d+(q.o+len*loose)+0) arr.toList++news++List.drop (l.d+(q.o+len*loose)+0+news.length) arr.toList).toArray[l.d+j]?=some x:=by
           intro j x hx
           simp only[Nat.add_zero,List.getElem?_toArray]
           have harr:(List.take (l.d+(q.o+len*loose)) arr.toList++news++List.drop (l.d+(q.o+len*loose)+news.length) arr.toList)=over arr.toList (l.d+(q.o+len*loose)) news:=rfl
           rw[harr,over_get _ _ _ (by have e:arr.toList.length=arr.size:=Array.length_toList;omega)]
           by_cases hj:j < cells.length
           ·rw[if_neg (by omega)]
            rw[List.getElem?_append_left hj] at hx
            simpa using hcell j x hx
           ·rw[List.getElem?_append_right (by omega)] at hx
            have hlt:=(List.getElem?_eq_some_iff.1 hx).1
            rw[if_pos (by omega),show l.d+j - (l.d+(q.o+len*loose))=j - cells.length by omega]
            exact hx
          have hstep1:Step N ρ H w ρ (H.set q.b (.rows false loose (rs++new))) (w.setRow l.c (List.take (l.d+(q.o+len*loose)+0) arr.toList++news++List.drop (l.d+(q.o+len*loose)+0+news.length) arr.toList).toArray):=by
           refine Step.change hs hw hl hg rfl rfl rfl rfl (by simp) (fun c hc=>setRow_other _ _ _ _ hc) ?_
           refine⟨hN,_,_,et,hr.append hnr,setRow_heap _ _ _ _ _ _ hh,?_,?_,hov⟩
           ·simp;omega
           ·simp;omega
          have hg1:(H.set q.b (.rows false loose (rs++new))).get q.b=some (.rows false loose (rs++new)):=by rw[Heap.get_set,if_pos rfl]
          have hdn:RRel ρ loose (rs.drop (q.o / loose)++new) (cells.drop q.o++news):=hdrop.append hnr
          have hstep2:=Step.rename (l1:=⟨l.c,l.d+q.o,l.room - q.o,none⟩) (o1:=.rows false loose (rs.drop (q.o / loose)++new)) hstep1.sim hstep1.wf hl hg1 rfl hf rfl
           ⟨⟨hN.1,rfl⟩,_,_,et,hdn.mono (Emb.add_ext _ hf),setRow_heap _ _ _ _ _ _ hh,by simp;omega,by simp;omega,fun j x hx=>by
            have:=hov (q.o+j) x (by
             by_cases hj:j < (cells.drop q.o).length
             ·rw[List.getElem?_append_left hj,List.getElem?_drop] at hx
              rw[List.getElem?_append_left (by simp at hj;omega)]
              exact hx
             ·rw[List.getElem?_append_right (by omega)] at hx
              rw[List.getElem?_append_right (by simp at hj;omega)]
              rw[← hx];congr 1;simp;omega)
            have e:l.d+(q.o+j)=l.d+q.o+j:=by omega
            rw[e] at this
            exact this⟩
          have hstep:=hstep1.trans hstep2
          rw[Heap.set_set] at hstep
          refine⟨_,_,_,hrun,hstep,⟨_,c',Emb.add_same _ _ _,?_,fun h=>absurd h h0,fun _=>⟨hfits,?_⟩⟩⟩
          ·rw[at'_lit hN.2,at'_lit rfl];simp
          ·simp only[Nat.zero_add];omega
         ·
          have hk:=Step.kill hs hw hl hg rfl
          have horun:(Builtin.firstCells loose len (.slice (some (at' l q.o)) len c')).run P w.drew=.ok (cells.drop q.o).toArray w.drew:=by
           simp only[Builtin.firstCells]
           refine run_loadCells_at hdlen (fun j x hx=>?_)
           rw[List.getElem?_drop] at hx
           have h2:=hcell (q.o+j) x hx
           rw[at'_lit hN.2,World.cell?_drew]
           rw[cell_of_row w l.c _ arr et (0,0) hh]
           exact h2
          obtain⟨v',ρ',w',k1,k2,k3⟩:=hgrow c' (some (at' l q.o)) (cells.drop q.o) (rs.drop (q.o / loose)) (H.set q.b .dead) (by omega) hdrop hdlen hk.sim hk.wf hf horun
          exact⟨v',ρ',w',k1,hk.trans k2,k3⟩
        ·cases h
       ·cases h
      ·cases h
 ·cases h
end
end Go.Am
