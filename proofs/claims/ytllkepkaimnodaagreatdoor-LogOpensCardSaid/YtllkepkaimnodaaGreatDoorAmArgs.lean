import Derived.Test.YtllkepkaimnodaaGreatDoorAmRun
import Derived.Deep.Slices
import Derived.OpenShut
set_option linter.unusedVariables false
set_option linter.unusedSimpArgs false
namespace Go.Am
inductive Sh where
 | bool
 | int (k:IntKind)
 | str
 | blk
 | slice (esz:Nat) (e:Sh)
 | nil
 | seq (a b:Sh)
def shN (s:Sh):Nat→Sh
 | 0=>.nil
 | n+1=>.seq s (shN s n)
def shFs (P:Program) (rec:TypeId→Option Sh):List Field→Nat→Nat→Option Sh
 | [],off,total=>match off.beq total with
  | true=>some .nil
  | false=>none
 | f::fs,off,total=>match f.offset.beq off,rec f.type with
  | true,some s=>(shFs P rec fs (off+P.cellsOf f.type) total).map (.seq s)
  | _,_=>none
def shOf (P:Program):Nat→TypeId→Option Sh
 | 0,_=>none
 | d+1,t=>
  match P.underlying t with
  | some .bool=>some .bool
  | some (.int k)=>some (.int k)
  | some .string=>some .str
  | some (.slice e)=>match Nat.ble 1 (P.cellsOf e),shOf P d e with
   | true,some s=>some (.slice (P.cellsOf e) s)
   | _,_=>none
  | some (.struct fs)=>shFs P (shOf P d) fs.toList 0 (P.cellsOf t)
  | some (.array n e)=>match isBlk P t with
   | true=>match (P.cellsOf e).beq 1&&(P.cellsOf t).beq 64 with
    | true=>some .blk
    | false=>none
   | false=>match (P.cellsOf t).beq (n*P.cellsOf e),shOf P d e with
    | true,some s=>some (shN s n)
    | _,_=>none
  | _=>none
def Fits (a:Nat→Option Obj):Sh→List V→Prop
 | .bool,C=>∃ b,C=[.bool b]
 | .int k,C=>∃ n,(Lit.int k n).wf=true∧C=[.int k n]
 | .str,C=>∃ s,C=[.str s]
 | .blk,C=>∃ B,B < 256 ^ 64∧C=[.blk B]
 | .slice esz e,C=>C=[.slice none 0 0 0]∨∃ b len rows,C=[.slice (some ⟨.arg b,0⟩) len rows.length 0]∧a b=some (.rows true esz rows)∧len≤rows.length∧rows.length≤maxLen∧∀ r ∈ rows,Fits a e r
 | .nil,C=>C=[]
 | .seq s t,C=>∃ C1 C2,C=C1++C2∧Fits a s C1∧Fits a t C2
def Keeps (a a':Nat→Option Obj):Prop:=∀ b o,a b=some o→a' b=some o
theorem Fits.mono {a a':Nat→Option Obj} (h:Keeps a a'):∀(s:Sh) (C:List V),Fits a s C→Fits a' s C
 | .bool,C,k=>k
 | .int _,C,k=>k
 | .str,C,k=>k
 | .blk,C,k=>k
 | .slice esz e,C,k=>by
  rcases k with k | ⟨b,len,rows,k1,k2,k3,k4,k5⟩
  ·exact .inl k
  ·exact .inr ⟨b,len,rows,k1,h _ _ k2,k3,k4,fun r hr=>Fits.mono h e r (k5 r hr)⟩
 | .nil,C,k=>k
 | .seq s t,C,k=>by
  obtain⟨C1,C2,e,k1,k2⟩:=k
  exact⟨C1,C2,e,Fits.mono h s _ k1,Fits.mono h t _ k2⟩
def heapA (P:Program) (a:Nat→Option Obj):Heap:=⟨.e,P.globals.size,a,[]⟩
structure Base (P:Program) (w:World) (ρ:Emb) (a:Nat→Option Obj) (k:Nat):Prop where
 g:GRel P ρ
 obj:∀ n o l,a n=some o→ρ (.arg n)=some l→ORel w.heap.size ρ w l o
 free:∀ n,k≤n→ρ (.arg n)=none
 gone:∀ n,k≤n→a n=none
 run:∀ n,P.globals.size≤n→ρ (.run n)=none
 ro:∀ n o,a n=some o→∃ esz rs,o=.rows true esz rs
structure Grow (ρ:Emb) (a:Nat→Option Obj) (ρ':Emb) (a':Nat→Option Obj):Prop where
 ext:Ext ρ ρ'
 keeps:Keeps a a'
theorem Grow.refl (ρ:Emb) (a:Nat→Option Obj):Grow ρ a ρ a:=⟨Ext.refl _,fun _ _ h=>h⟩
theorem Grow.trans {ρ ρ1 ρ2:Emb} {a a1 a2:Nat→Option Obj} (g:Grow ρ a ρ1 a1) (k:Grow ρ1 a1 ρ2 a2):Grow ρ a ρ2 a2:=⟨g.ext.trans k.ext,fun x o h=>k.keeps x o (g.keeps x o h)⟩
def addA (a:Nat→Option Obj) (k:Nat) (o:Obj):Nat→Option Obj:=fun n=>if n=k then some o else a n
theorem Base.add {P:Program} {w:World} {ρ:Emb} {a:Nat→Option Obj} {k:Nat} (hb:Base P w ρ a k) {l:Loc} {esz:Nat} {rs:List (List V)} (ho:ORel w.heap.size (ρ.add (.arg k) l) w l (.rows true esz rs)) :
  Base P w (ρ.add (.arg k) l) (addA a k (.rows true esz rs)) (k+1)∧Grow ρ a (ρ.add (.arg k) l) (addA a k (.rows true esz rs)):=by
 have hf:=hb.free k (Nat.le_refl _)
 have hx:=Emb.add_ext l hf
 refine⟨⟨hb.g.mono hx,?_,?_,?_,?_,?_⟩,hx,?_⟩
 ·intro n o l' h hr
  unfold addA at h
  unfold Emb.add at hr
  by_cases e:n=k
  ·subst e
   rw[if_pos rfl] at h
   rw[if_pos rfl] at hr
   cases h;cases hr
   exact ho
  ·rw[if_neg e] at h
   rw[if_neg (by simpa using e)] at hr
   exact(hb.obj n o l' h hr).mono hx
 ·intro n h
  have hne:n≠k:=by omega
  simp[Emb.add,hne]
  exact hb.free n (by omega)
 ·intro n h
  have hne:n≠k:=by omega
  simp[addA,hne]
  exact hb.gone n (by omega)
 ·intro n h
  simp[Emb.add]
  exact hb.run n h
 ·intro n o h
  unfold addA at h
  by_cases e:n=k
  ·rw[if_pos e] at h;cases h;exact⟨_,_,rfl⟩
  ·rw[if_neg e] at h;exact hb.ro n o h
 ·intro n o h
  have hne:n≠k:=fun e=>by subst e;rw[hb.gone n (Nat.le_refl _)] at h;cases h
  simp[addA,hne,h]
theorem Base.sim {P:Program} {w:World} {ρ:Emb} {a:Nat→Option Obj} {k:Nat} (hb:Base P w ρ a k):Sim w.heap.size ρ (heapA P a).get w∧(heapA P a).Wf:=by
 have hg:∀ b o,(heapA P a).get b=some o→∃ n,b=.arg n∧a n=some o:=by
  intro b o h
  cases b with
  | run n=>simp[Heap.get,heapA,Tr.getP_e] at h
  | arg n=>exact⟨n,rfl,h⟩
 refine⟨⟨?_,?_,Nat.le_refl _⟩,?_⟩
 ·intro b o l h hr
  obtain⟨n,rfl,h⟩:=hg b o h
  exact hb.obj n o l h hr
 ·intro b b' l l' o o' _ _ _ h hl
  obtain⟨n,rfl,h⟩:=hg b o h
  obtain⟨_,_,rfl⟩:=hb.ro n o h
  cases hl
 ·intro b o h
  obtain⟨n,rfl,_⟩:=hg b o h
  trivial
theorem byte_cons (m B i:Nat) (hm:m < 256):byte (m+256*B) (i+1)=byte B i:=by
 rw[byte_eq,byte_eq,Nat.pow_succ,Nat.mul_comm (256 ^ i) 256,← Nat.div_div_eq_div_mul]
 congr 2
 omega
theorem bytesV_cons (m B:Nat) (hm:m < 256):∀(n o:Nat),bytesV (m+256*B) n (o+1)=bytesV B n o
 | 0,_=>rfl
 | n+1,o=>by simp only[bytesV,byte_cons m B o hm,bytesV_cons m B hm n (o+1)]
theorem bytes_blk:∀(n:Nat) (cs:List Value),cs.length=n→(∀ i,i < n→∃ m,m < 256∧cs[i]?=some (.int .u8 (.ofNat m)))→∃ B,B < 256 ^ n∧cs=bytesV B n 0
 | 0,cs,hl,h=>⟨0,by simp,by cases cs<;>simp_all [bytesV]⟩
 | n+1,cs,hl,h=>by
  cases cs with
  | nil=>simp at hl
  | cons c cs=>
   obtain⟨m,hm,hc⟩:=h 0 (by omega)
   simp at hc
   obtain⟨B,hB,hcs⟩:=bytes_blk n cs (by simpa using hl) (fun i hi=>by
    obtain⟨k,hk,hck⟩:=h (i+1) (by omega)
    exact⟨k,hk,by simpa using hck⟩)
   refine⟨m+256*B,?_,?_⟩
   ·rw[Nat.pow_succ];omega
   ·simp only[bytesV]
    rw[show (0:Nat)+1=0+1 from rfl,bytesV_cons m B hm,← hcs,hc]
    have:byte (m+256*B) 0=m:=by rw[byte_eq];simp;omega
    rw[this];rfl
section
variable {H':Type} {enc:TypeId × Value→H'} {P:Program} {w:World} {held:Bool}
theorem trod_bool' {fuel:Nat} {t:TypeId} {cs:List Value} {x:DataW H' × List MemPlace} (ht:P.underlying t=some .bool) (h:DataW.trod enc P w 0 (fun _=>true) held fuel t cs=some x):∃ b,cs=[.bool b]:=by
 cases fuel with
 | zero=>simp[DataW.trod] at h
 | succ n=>
  unfold DataW.trod at h
  rw[ht] at h
  split at h<;>simp_all
theorem trod_int' {fuel:Nat} {t:TypeId} {k:IntKind} {cs:List Value} {x:DataW H' × List MemPlace} (ht:P.underlying t=some (.int k)) (h:DataW.trod enc P w 0 (fun _=>true) held fuel t cs=some x):∃ n,(Lit.int k n).wf=true∧cs=[.int k n]:=by
 cases fuel with
 | zero=>simp[DataW.trod] at h
 | succ n=>
  unfold DataW.trod at h
  rw[ht] at h
  split at h<;>simp_all
theorem trod_string' {fuel:Nat} {t:TypeId} {cs:List Value} {x:DataW H' × List MemPlace} (ht:P.underlying t=some .string) (h:DataW.trod enc P w 0 (fun _=>true) held fuel t cs=some x):∃ s,cs=[.string s]:=by
 cases fuel with
 | zero=>simp[DataW.trod] at h
 | succ n=>
  unfold DataW.trod at h
  rw[ht] at h
  split at h<;>simp_all
theorem addr_add_add (a:Addr) (i k:Nat):(a.add i).add k=a.add (i+k):=by
 by_cases hi:i=0<;>by_cases hj:k=0<;>simp_all [Addr.add,Nat.add_assoc]
def Opens (P:Program) (w:World) (s:Sh) (cs:List Value):Prop:=
 ∀ ρ a k,Base P w ρ a k→∃ ρ' a' k' C,Base P w ρ' a' k'∧Grow ρ a ρ' a'∧CRel ρ' C cs∧Fits a' s C
theorem open_fields {rec:TypeId→Option Sh} {cs:List Value} {total:Nat} (htot:cs.length=total):∀(l:List Field) (off:Nat) (s:Sh),shFs P rec l off total=some s→(∀ f ∈ l,∀ s,rec f.type=some s→Opens P w s ((cs.drop f.offset).take (P.cellsOf f.type))) →
  Opens P w s (cs.drop off)
 | [],off,s,hok,hop,ρ,a,k,hb=>by
  simp only[shFs] at hok
  split at hok
  ·rename_i ho
   cases hok
   have:off=total:=beq_iff.1 ho
   subst this
   exact⟨ρ,a,k,[],hb,Grow.refl _ _,by rw[List.drop_eq_nil_of_le (by omega)];rfl,rfl⟩
  ·cases hok
 | f::l,off,s,hok,hop,ρ,a,k,hb=>by
  simp only[shFs] at hok
  split at hok
  ·rename_i s1 h1 h2
   cases hr:shFs P rec l (off+P.cellsOf f.type) total with
   | none=>rw[hr] at hok;cases hok
   | some s2=>
    rw[hr] at hok
    cases hok
    have h1:=beq_iff.1 h1
    obtain⟨ρ1,a1,k1,C1,b1,g1,r1,f1⟩:=hop f (List.mem_cons_self ..) s1 h2 ρ a k hb
    obtain⟨ρ2,a2,k2,C2,b2,g2,r2,f2⟩:=open_fields htot l (off+P.cellsOf f.type) s2 hr (fun g hg=>hop g (List.mem_cons_of_mem _ hg)) ρ1 a1 k1 b1
    refine⟨ρ2,a2,k2,C1++C2,b2,g1.trans g2,?_,C1,C2,rfl,Fits.mono g2.keeps _ _ f1,f2⟩
    rw[h1] at r1
    have e:cs.drop off=(cs.drop off).take (P.cellsOf f.type)++cs.drop (off+P.cellsOf f.type):=by
     rw[← List.drop_drop,List.take_append_drop]
    rw[e]
    exact CRel.append (CRel.mono g2.ext _ _ r1) r2
  ·cases hok
theorem open_elems {s:Sh} {cs:List Value} {sz:Nat}:∀(n i:Nat),cs.length=(i+n)*sz→(∀ j,i≤j→j < i+n→Opens P w s ((cs.drop (j*sz)).take sz))→Opens P w (shN s n) (cs.drop (i*sz))
 | 0,i,hl,hop,ρ,a,k,hb=>⟨ρ,a,k,[],hb,Grow.refl _ _,by rw[List.drop_eq_nil_of_le (by rw[hl];exact Nat.le_refl _)];rfl,rfl⟩
 | n+1,i,hl,hop,ρ,a,k,hb=>by
  obtain⟨ρ1,a1,k1,C1,b1,g1,r1,f1⟩:=hop i (Nat.le_refl _) (by omega) ρ a k hb
  obtain⟨ρ2,a2,k2,C2,b2,g2,r2,f2⟩:=open_elems n (i+1) (by rw[hl];congr 1;omega) (fun j h1 h2=>hop j (by omega) (by omega)) ρ1 a1 k1 b1
  refine⟨ρ2,a2,k2,C1++C2,b2,g1.trans g2,?_,C1,C2,rfl,Fits.mono g2.keeps _ _ f1,f2⟩
  have e':cs.drop (i*sz)=(cs.drop (i*sz)).take sz++cs.drop ((i+1)*sz):=by
   rw[Nat.add_mul,Nat.one_mul,← List.drop_drop,List.take_append_drop]
  rw[e']
  exact CRel.append (CRel.mono g2.ext _ _ r1) r2
theorem open_rows {s:Sh} {sz:Nat} {ad:Addr}:∀(m i0:Nat),(∀ i,i0≤i→i < i0+m→∃ cs',w.cells? 0 (ad.add (i*sz)) sz=some cs'∧Opens P w s cs') →
  ∀ ρ a k,Base P w ρ a k→∃ ρ' a' k' rows xs,Base P w ρ' a' k'∧Grow ρ a ρ' a'∧RRel ρ' sz rows xs∧rows.length=m∧(∀ r ∈ rows,Fits a' s r)∧∀ j x,xs[j]?=some x→w.cell? (ad.add (i0*sz+j))=some x
 | 0,i0,h,ρ,a,k,hb=>⟨ρ,a,k,[],[],hb,Grow.refl _ _,rfl,rfl,fun r hr=>(by cases hr),fun j x hx=>by simp at hx⟩
 | m+1,i0,h,ρ,a,k,hb=>by
  obtain⟨cs',hc,hop⟩:=h i0 (Nat.le_refl _) (by omega)
  obtain⟨ρ1,a1,k1,C1,b1,g1,r1,f1⟩:=hop ρ a k hb
  obtain⟨ρ2,a2,k2,rows,xs,b2,g2,r2,hl,f2,hcell⟩:=open_rows m (i0+1) (fun i h1 h2=>h i (by omega) (by omega)) ρ1 a1 k1 b1
  obtain⟨_,hlen,hcc⟩:=World.cells?_some hc
  refine⟨ρ2,a2,k2,C1::rows,cs'++xs,b2,g1.trans g2,⟨cs',xs,rfl,hlen,CRel.mono g2.ext _ _ r1,r2⟩,by simp[hl],?_,?_⟩
  ·intro r hr
   rcases List.mem_cons.1 hr with rfl | hr
   ·exact Fits.mono g2.keeps _ _ f1
   ·exact f2 r hr
  ·intro j x hx
   by_cases hj:j < cs'.length
   ·rw[List.getElem?_append_left hj] at hx
    have:=hcc j (by omega)
    rw[addr_add_add] at this
    rw[this];exact hx
   ·rw[List.getElem?_append_right (by omega)] at hx
    have:=hcell (j - cs'.length) x hx
    rw[Nat.add_mul,Nat.one_mul,show i0*sz+sz+(j - cs'.length)=i0*sz+j by omega] at this
    exact this
theorem isBlk_some {t:TypeId} (h:isBlk P t=true):∃ e,P.underlying t=some (.array 64 e)∧P.underlying e=some (.int .u8):=by
 unfold isBlk at h
 split at h
 ·rename_i e he
  unfold isU8 at h
  split at h
  ·rename_i hu;exact⟨e,he,hu⟩
  ·cases h
 ·cases h
theorem open_cells:∀(d:Nat) (t:TypeId) (s:Sh) (fuel:Nat) (cs:List Value) (x:DataW H' × List MemPlace),shOf P d t=some s→DataW.trod enc P w 0 (fun _=>true) held fuel t cs=some x→Opens P w s cs
 | 0,t,s,fuel,cs,x,hok,h=>by cases hok
 | d+1,t,s,fuel,cs,x,hok,h=>by
  unfold shOf at hok
  split at hok
  ·rename_i ht
   cases hok
   obtain⟨b,rfl⟩:=trod_bool' ht h
   exact fun ρ a k hb=>⟨ρ,a,k,[.bool b],hb,Grow.refl _ _,CRel.cons_flat rfl rfl rfl,b,rfl⟩
  ·rename_i kd ht
   cases hok
   obtain⟨n,hwf,rfl⟩:=trod_int' ht h
   exact fun ρ a k hb=>⟨ρ,a,k,[.int kd n],hb,Grow.refl _ _,CRel.cons_flat rfl rfl rfl,n,hwf,rfl⟩
  ·rename_i ht
   cases hok
   obtain⟨s,rfl⟩:=trod_string' ht h
   exact fun ρ a k hb=>⟨ρ,a,k,[.str s],hb,Grow.refl _ _,CRel.cons_flat rfl rfl rfl,s,rfl⟩
  ·rename_i e ht
   split at hok
   ·rename_i s1 h1 hs1
    cases hok
    have h1:=ble_iff.1 h1
    intro ρ a k hb
    rcases Deep.open_slice ht h with ⟨rfl,_⟩ | ⟨ad,len,cap,m,n,D,Pl,rfl,_,hle,hmax,hm,_,hel⟩
    ·exact⟨ρ,a,k,[.slice none 0 0 0],hb,Grow.refl _ _,CRel.cons_flat rfl ⟨rfl,rfl,.inl ⟨rfl,rfl⟩⟩ rfl,.inl rfl⟩
    ·have hm:m=cap:=by simpa using hm
     subst hm
     obtain⟨ρ1,a1,k1,rows,xs,b1,g1,r1,hl,f1,hcell⟩:=open_rows (P:=P) (w:=w) (s:=s1) (sz:=P.cellsOf e) (ad:=ad) m 0 (fun i h1 h2=>by
      obtain⟨cs',k1,k2⟩:=hel i (by omega)
      exact⟨cs',k1,open_cells d e s1 n cs' _ hs1 k2⟩) ρ a k hb
     have hf:=b1.free k1 (Nat.le_refl _)
     have hx:=Emb.add_ext ⟨ad.block,ad.off,0,ad.spot⟩ hf
     obtain⟨b2,g2⟩:=b1.add (l:=⟨ad.block,ad.off,0,ad.spot⟩) (esz:=P.cellsOf e) (rs:=rows) ⟨fun hne=>by
       have hm0:0 < m:=by
        rw[← hl]
        exact List.length_pos_iff.2 hne
       obtain⟨cs',k1,_⟩:=hel 0 hm0
       have:=World.cells?_block k1 h1
       rw[Nat.zero_mul] at this
       simpa [Addr.add] using this,xs,r1.mono hx,fun i x hxx=>by
       have:=hcell i x hxx
       rw[Nat.zero_mul,Nat.zero_add] at this
       exact this⟩
     refine⟨_,_,_,[.slice (some ⟨.arg k1,0⟩) len rows.length 0],b2,g1.trans g2,CRel.cons_flat rfl ⟨_,rows.length,Emb.add_same _ _ _,?_,fun _=>rfl,fun h=>absurd rfl h⟩ rfl,?_⟩
     ·rw[hl];simp[at',Addr.add]
     ·exact .inr ⟨k1,len,rows,rfl,by simp[addA],by omega,by omega,fun r hr=>Fits.mono g2.keeps _ r (f1 r hr)⟩
   ·cases hok
  ·rename_i fs ht
   obtain⟨xs,n,_,_,hlen,hn,hel⟩:=DataW.trod_struct ht h
   have:=open_fields (P:=P) (w:=w) hlen fs.toList 0 s hok (fun f hf s hokf=>by
    obtain⟨i,hi⟩:=List.mem_iff_getElem?.1 hf
    have hi':fs[i]?=some f:=by simpa using hi
    have:=hel i f hi'
    have hlt:i < xs.length:=by rw[hn];exact(Array.getElem?_eq_some_iff.1 hi').1
    rw[List.getElem?_eq_getElem hlt] at this
    exact open_cells d f.type s n _ _ hokf this)
   simpa using this
  ·rename_i n e ht
   obtain⟨xs,m,_,_,hlen,hn,hel⟩:=DataW.trod_array ht h
   split at hok
   ·rename_i hib
    split at hok
    ·rename_i hok'
     cases hok
     simp only[Bool.and_eq_true] at hok'
     have c1:=beq_iff.1 hok'.1
     have c2:=beq_iff.1 hok'.2
     obtain⟨e',he',hu⟩:=isBlk_some hib
     rw[ht] at he'
     cases he'
     obtain⟨B,hB,rfl⟩:=bytes_blk 64 cs (by omega) (fun i hi=>by
      have:=hel i hi
      rw[c1,Nat.mul_one,List.getElem?_eq_getElem (by omega)] at this
      obtain⟨z,hwf,hz⟩:=trod_int' hu this
      have hb:=bounds_u8 hwf
      have hz':cs[i]?=some (.int .u8 z):=by
       have:=congrArg (·[0]?) hz
       simp only[List.getElem?_take,List.getElem?_drop] at this
       simpa using this
      refine⟨z.toNat,by omega,?_⟩
      rw[hz']
      congr 2
      have:(Int.ofNat z.toNat)=z:=Int.toNat_of_nonneg hb.1
      exact this.symm)
     exact fun ρ a k hb=>⟨ρ,a,k,[.blk B],hb,Grow.refl _ _,by simpa [blkV] using CRel.cons_blk (ρ:=ρ) (cs:=[]) (ys:=[]) hB rfl,B,hB,rfl⟩
    ·cases hok
   ·rename_i hib
    split at hok
    ·rename_i s1 c2 hs1
     cases hok
     have c2:=beq_iff.1 c2
     have:=open_elems (P:=P) (w:=w) (s:=s1) (cs:=cs) (sz:=P.cellsOf e) n 0 (by rw[hlen,c2,Nat.zero_add]) (fun j _ hj=>by
      have:=hel j (by omega)
      rw[List.getElem?_eq_getElem (by omega)] at this
      exact open_cells d e s1 m _ _ hs1 this)
     simpa using this
    ·cases hok
  ·cases hok
end
end Go.Am
