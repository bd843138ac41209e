import Derived.Test.YtllkepkaimnodaaGreatDoorAmOps2
import Derived.Laws.CopyRow
import Derived.Laws.Rows
set_option linter.unusedVariables false
set_option linter.unusedSimpArgs false
namespace Go.Am
def RRel (ρ:Emb) (esz:Nat):List (List V)→List Value→Prop
 | [],xs=>xs=[]
 | r::rs,xs=>∃ a ys,xs=a++ys∧a.length=esz∧CRel ρ r a∧RRel ρ esz rs ys
theorem RRel.mono {ρ ρ':Emb} (h:Ext ρ ρ') {esz:Nat}:∀ {rs:List (List V)} {xs:List Value},RRel ρ esz rs xs→RRel ρ' esz rs xs
 | [],xs,r=>r
 | _::rs,xs,r=>by
  obtain⟨a,ys,h1,h2,h3,h4⟩:=r
  exact⟨a,ys,h1,h2,CRel.mono h _ _ h3,RRel.mono h h4⟩
theorem RRel.length {ρ:Emb} {esz:Nat}:∀ {rs:List (List V)} {xs:List Value},RRel ρ esz rs xs→xs.length=rs.length*esz
 | [],xs,r=>by
  have r:xs=[]:=r
  subst r;simp
 | _::rs,xs,r=>by
  obtain⟨a,ys,rfl,h2,h3,h4⟩:=r
  simp[h4.length,h2,Nat.add_mul,Nat.add_comm]
theorem RRel.append {ρ:Emb} {esz:Nat}:∀ {rs qs:List (List V)} {xs ys:List Value},RRel ρ esz rs xs→RRel ρ esz qs ys→RRel ρ esz (rs++qs) (xs++ys)
 | [],qs,xs,ys,r,k=>by
  have r:xs=[]:=r
  subst r;exact k
 | _::rs,qs,xs,ys,r,k=>by
  obtain⟨a,zs,rfl,h2,h3,h4⟩:=r
  exact⟨a,zs++ys,by simp,h2,h3,RRel.append h4 k⟩
theorem RRel.split {ρ:Emb} {esz:Nat}:∀ {rs:List (List V)} {xs:List Value} {i:Nat} {r:List V},RRel ρ esz rs xs→nth rs i=some r →
  ∃ p a q,xs=p++a++q∧p.length=i*esz∧a.length=esz∧CRel ρ r a∧∀ r' a',CRel ρ r' a'→a'.length=esz→RRel ρ esz (upd r' rs i) (p++a'++q)
 | [],xs,i,r,h,hn=>by simp at hn
 | r0::rs,xs,0,r,h,hn=>by
  obtain⟨a,ys,rfl,h2,h3,h4⟩:=h
  simp at hn
  subst hn
  exact⟨[],a,ys,by simp,by simp,h2,h3,fun r' a' k1 k2=>⟨a',ys,by simp,k2,k1,h4⟩⟩
 | r0::rs,xs,i+1,r,h,hn=>by
  obtain⟨a,ys,rfl,h2,h3,h4⟩:=h
  simp at hn
  obtain⟨p,b,q,rfl,k1,k2,k3,k4⟩:=RRel.split h4 hn
  exact⟨a++p,b,q,by simp,by simp[h2,k1,Nat.add_mul,Nat.add_comm],k2,k3,fun r' a' j1 j2=>⟨a,p++a'++q,by simp,h2,h3,k4 r' a' j1 j2⟩⟩
theorem RRel.drop {ρ:Emb} {esz:Nat}:∀ {rs:List (List V)} {xs:List Value} (i:Nat),RRel ρ esz rs xs→RRel ρ esz (rs.drop i) (xs.drop (i*esz))
 | rs,xs,0,h=>by simpa using h
 | [],xs,i+1,h=>by
  have h:xs=[]:=h
  subst h;simp[RRel]
 | r::rs,xs,i+1,h=>by
  obtain⟨a,ys,rfl,h2,h3,h4⟩:=h
  have:=RRel.drop i h4
  simp only[List.drop_succ_cons]
  have e:(a++ys).drop ((i+1)*esz)=ys.drop (i*esz):=by
   rw[Nat.add_mul,Nat.one_mul,Nat.add_comm,List.drop_append,List.drop_eq_nil_of_le (by omega),h2]
   simp
  rw[e];exact this
theorem RRel.replicate {ρ:Emb} {z:List V} {zs:List Value} (h:CRel ρ z zs):∀ n,RRel ρ zs.length (List.replicate n z) (List.replicate n zs).flatten
 | 0=>rfl
 | n+1=>⟨zs,_,by simp[List.replicate_succ],rfl,h,RRel.replicate h n⟩
theorem RRel.one {ρ:Emb} {r:List V} {xs:List Value} (h:CRel ρ r xs):RRel ρ xs.length [r] xs:=⟨xs,[],by simp,rfl,h,rfl⟩
theorem flat_one {ρ:Emb} {v:V} {x:Value} (hf:v.flat=true) (h:VRel ρ v x):x.oneCell'=true:=by
 cases v with
 | agg ds=>simp[V.flat] at hf
 | tuple ds=>simp[V.flat] at hf
 | blk B=>simp[V.flat] at hf
 | bool b=>have h:x=_:=h;subst h;rfl
 | int k n=>have h:x=_:=h;subst h;rfl
 | str s=>have h:x=_:=h;subst h;rfl
 | ptr p=>cases p with
  | none=>have h:x=_:=h;subst h;rfl
  | some p=>obtain⟨l,hl,rfl⟩:=h;rfl
 | slice p len cap loose=>cases p with
  | none=>obtain⟨h1,h2,⟨h3,rfl⟩ | ⟨h3,q,c,rfl⟩⟩:=h<;>rfl
  | some p=>obtain⟨l,c,hl,rfl,h3⟩:=h;rfl
 | map r=>cases r with
  | none=>have h:x=_:=h;subst h;rfl
  | some p=>obtain⟨l,hl,rfl⟩:=h;rfl
 | func fn f c=>obtain⟨f',c',rfl,h2,h3⟩:=h;rfl
 | nilFunc=>have h:x=_:=h;subst h;rfl
 | iface t u=>obtain⟨y,rfl,h2⟩:=h;rfl
 | nilIface=>have h:x=_:=h;subst h;rfl
theorem bytesV_one (B:Nat):∀(n o:Nat) (x:Value),x ∈ bytesV B n o→x.oneCell'=true
 | 0,o,x,h=>by simp[bytesV] at h
 | n+1,o,x,h=>by
  simp only[bytesV,List.mem_cons] at h
  rcases h with rfl | h
  ·rfl
  ·exact bytesV_one B n (o+1) x h
theorem CRel.ones {ρ:Emb}:∀ {cs:List V} {xs:List Value},CRel ρ cs xs→∀ x ∈ xs,x.oneCell'=true
 | [],xs,h,x,hx=>by
  have h:xs=[]:=h
  subst h;cases hx
 | c::cs,xs,h,x,hx=>by
  rcases h.head with ⟨B,ys,_,_,_,rfl,h3⟩ | ⟨y,ys,_,hf,rfl,hr,h3⟩
  ·rcases List.mem_append.1 hx with hx | hx
   ·exact bytesV_one B 64 0 x hx
   ·exact h3.ones x hx
  ·rcases List.mem_cons.1 hx with rfl | hx
   ·exact flat_one hf hr
   ·exact h3.ones x hx
theorem RRel.ones {ρ:Emb} {esz:Nat}:∀ {rs:List (List V)} {xs:List Value},RRel ρ esz rs xs→∀ x ∈ xs,x.oneCell'=true
 | [],xs,h,x,hx=>by
  have h:xs=[]:=h
  subst h;cases hx
 | r::rs,xs,h,x,hx=>by
  obtain⟨a,ys,rfl,h2,h3,h4⟩:=h
  rcases List.mem_append.1 hx with hx | hx
  ·exact h3.ones x hx
  ·exact h4.ones x hx
def ERel (ρ:Emb):List (V × V × Nat)→List MapEntry→Prop
 | [],xs=>xs=[]
 | (k,v,b)::es,xs=>∃ x y ys,xs=⟨x,y,b⟩::ys∧VRel ρ k x∧VRel ρ v y∧ERel ρ es ys
theorem ERel.mono {ρ ρ':Emb} (h:Ext ρ ρ'):∀ {es:List (V × V × Nat)} {xs:List MapEntry},ERel ρ es xs→ERel ρ' es xs
 | [],xs,r=>r
 | (k,v,b)::es,xs,r=>by
  obtain⟨x,y,ys,h1,h2,h3,h4⟩:=r
  exact⟨x,y,ys,h1,VRel.mono h _ _ h2,VRel.mono h _ _ h3,ERel.mono h h4⟩
def Obj.live:Obj→Prop
 | .rows ro _ _=>ro=false
 | .map _ _=>True
 | .box _=>True
 | .iter _ _ _ _=>True
 | .dead=>False
def MRel (ρ:Emb):Option Bk→Option Nat→Prop
 | none,m=>m=none
 | some r,m=>∃ l,ρ r=some l∧m=some l.c
theorem MRel.mono {ρ ρ':Emb} (h:Ext ρ ρ'):∀ {m:Option Bk} {x:Option Nat},MRel ρ m x→MRel ρ' m x
 | none,x,r=>r
 | some r,x,k=>by
  obtain⟨l,h1,h2⟩:=k
  exact⟨l,h _ _ h1,h2⟩
def ORel (N:Nat) (ρ:Emb) (w:World) (l:Loc):Obj→Prop
 | .rows true esz rs=>(rs≠[]→l.c < N)∧∃ xs,RRel ρ esz rs xs∧∀ i x,xs[i]?=some x→w.cell? (at' l i)=some x
 | .rows false esz rs=>(N≤l.c∧l.s=none)∧∃ xs arr e,RRel ρ esz rs xs∧w.heap[l.c]?=some (.cells arr e (0,0))∧arr.size=l.d+l.room∧xs.length≤l.room∧∀ i x,xs[i]?=some x→arr[l.d+i]?=some x
 | .map es clock=>N≤l.c∧∃ es',w.heap[l.c]?=some (.map es' clock)∧ERel ρ es es'.toList
 | .box v=>(N≤l.c∧l.s=none∧l.d=0)∧∃ x arr e,VRel ρ v x∧w.heap[l.c]?=some (.cells arr e (0,0))∧arr[0]?=some x
 | .iter m since seen last=>(N≤l.c∧l.s=none∧l.d=0)∧∃ m',w.heap[l.c]?=some (.mapIter m' since seen.toArray last)∧MRel ρ m m'
 | .dead=>True
theorem ORel.mono {N:Nat} {ρ ρ':Emb} (h:Ext ρ ρ') {w:World} {l:Loc}:∀ {o:Obj},ORel N ρ w l o→ORel N ρ' w l o
 | .rows true esz rs,r=>by
  obtain⟨h1,xs,h2,h3⟩:=r
  exact⟨h1,xs,h2.mono h,h3⟩
 | .rows false esz rs,r=>by
  obtain⟨h1,xs,arr,e,h2,h3⟩:=r
  exact⟨h1,xs,arr,e,h2.mono h,h3⟩
 | .map es clock,r=>by
  obtain⟨h1,es',h2,h3⟩:=r
  exact⟨h1,es',h2,h3.mono h⟩
 | .box v,r=>by
  obtain⟨h1,x,arr,e,h2,h3⟩:=r
  exact⟨h1,x,arr,e,VRel.mono h _ _ h2,h3⟩
 | .iter m since seen last,r=>by
  obtain⟨h1,x,h2,h3⟩:=r
  exact⟨h1,x,h2,h3.mono h⟩
 | .dead,r=>trivial
theorem ORel.cells {N:Nat} {ρ:Emb} {w:World} {l:Loc} {ro:Bool} {esz:Nat} {rs:List (List V)} (h:ORel N ρ w l (.rows ro esz rs)):∃ xs,RRel ρ esz rs xs∧∀ i x,xs[i]?=some x→w.cell? (at' l i)=some x:=by
 cases ro with
 | true=>exact h.2
 | false=>
  obtain⟨h1,xs,arr,e,h2,h3,h4,h5,h6⟩:=h
  exact⟨xs,h2,fun i x hx=>by rw[at'_lit h1.2,cell_of_row w l.c (l.d+i) arr e (0,0) h3];exact h6 i x hx⟩
theorem ORel.live_ge {N:Nat} {ρ:Emb} {w:World} {l:Loc} {o:Obj} (h:ORel N ρ w l o) (hl:o.live):N≤l.c:=by
 cases o with
 | rows ro esz rs=>have hl:ro=false:=hl;subst hl;exact h.1.1
 | map es c=>exact h.1
 | box v=>exact h.1.1
 | iter m since seen last=>exact h.1.1
 | dead=>exact hl.elim
theorem ORel.live_lt {N:Nat} {ρ:Emb} {w:World} {l:Loc} {o:Obj} (h:ORel N ρ w l o) (hl:o.live):l.c < w.heap.size:=by
 cases o with
 | rows ro esz rs=>
  have hl:ro=false:=hl
  subst hl
  obtain⟨_,_,_,_,_,h3,_⟩:=h
  exact(Array.getElem?_eq_some_iff.1 h3).1
 | map es c=>
  obtain⟨_,_,h3,_⟩:=h
  exact(Array.getElem?_eq_some_iff.1 h3).1
 | box v=>
  obtain⟨_,_,_,_,_,h3,_⟩:=h
  exact(Array.getElem?_eq_some_iff.1 h3).1
 | iter m since seen last=>
  obtain⟨_,_,h3,_⟩:=h
  exact(Array.getElem?_eq_some_iff.1 h3).1
 | dead=>exact hl.elim
theorem ORel.frame {N:Nat} {ρ:Emb} {w w':World} {l:Loc} {o:Obj} (h:ORel N ρ w l o) (hlow:∀ c,c < N→w'.heap[c]?=w.heap[c]?) (hl:o.live→w'.heap[l.c]?=w.heap[l.c]?):ORel N ρ w' l o:=by
 cases o with
 | rows ro esz rs=>
  cases ro with
  | true=>
   obtain⟨h1,xs,h2,h3⟩:=h
   refine⟨h1,xs,h2,fun i x hx=>?_⟩
   have hne:rs≠[]:=fun e=>by
    subst e
    have h2:xs=[]:=h2
    subst h2;simp at hx
   rw[World.cell?_of_block (w:=w) (hlow _ (by rw[at'_block];exact h1 hne))]
   exact h3 i x hx
  | false=>
   obtain⟨h1,xs,arr,e,h2,h3,h4⟩:=h
   exact⟨h1,xs,arr,e,h2,(hl rfl).trans h3,h4⟩
 | map es c=>
  obtain⟨h1,es',h2,h3⟩:=h
  exact⟨h1,es',(hl trivial).trans h2,h3⟩
 | box v=>
  obtain⟨h1,x,arr,e,h2,h3,h4⟩:=h
  exact⟨h1,x,arr,e,h2,(hl trivial).trans h3,h4⟩
 | iter m since seen last=>
  obtain⟨h1,x,h3,h4⟩:=h
  exact⟨h1,x,(hl trivial).trans h3,h4⟩
 | dead=>trivial
structure Sim (N:Nat) (ρ:Emb) (g:Bk→Option Obj) (w:World):Prop where
 obj:∀ b o l,g b=some o→ρ b=some l→ORel N ρ w l o
 inj:∀ b b' l l' o o',b≠b'→ρ b=some l→ρ b'=some l'→g b=some o→o.live→g b'=some o'→o'.live→l.c≠l'.c
 low:N≤w.heap.size
def Heap.Old (H:Heap):Bk→Prop
 | .run n=>n < H.next
 | .arg _=>True
theorem Heap.old_or (H:Heap) (b:Bk):H.Old b∨∃ n,b=.run n∧H.next≤n:=by
 cases b with
 | arg n=>exact .inl trivial
 | run n=>
  by_cases h:n < H.next
  ·exact .inl h
  ·exact .inr ⟨n,rfl,by omega⟩
theorem Heap.Old.mono {H H':Heap} (h:H.next≤H'.next) {b:Bk} (k:H.Old b):H'.Old b:=by
 cases b with
 | arg n=>trivial
 | run n=>exact Nat.lt_of_lt_of_le k h
theorem Heap.not_old {H:Heap} {n:Nat} (h:H.next≤n):¬ H.Old (.run n):=fun k=>by
 have k:n < H.next:=k
 omega
@[simp] theorem Heap.old_set (H:Heap) (b c:Bk) (o:Obj):(H.set b o).Old c↔H.Old c:=by cases c<;>simp[Heap.Old]
@[simp] theorem Heap.old_add (H:Heap) (c:Bk) (o:Obj):(H.add o).Old c↔H.Old c∨c=.run H.next:=by
 cases c with
 | arg n=>simp[Heap.Old]
 | run n=>simp[Heap.Old];omega
def Heap.Wf (H:Heap):Prop:=∀ b o,H.get b=some o→H.Old b
structure Step (N:Nat) (ρ:Emb) (H:Heap) (w:World) (ρ':Emb) (H':Heap) (w':World):Prop where
 os:w'.os=w.os
 tape:w'.tape=w.tape
 output:w'.output=w.output
 size:w.heap.size≤w'.heap.size
 ext:Ext ρ ρ'
 new:∀ b l,ρ' b=some l→ρ b=some l∨((∃ n,b=.run n∧H.next≤n∧n < H'.next)∧(w.heap.size≤l.c∨∃ b0 l0 o0,ρ b0=some l0∧H.get b0=some o0∧o0.live∧l0.c=l.c))
 sim:Sim N ρ' H'.get w'
 wf:H'.Wf
 next:H.next≤H'.next
 pre:∀ n,H.next≤n→n < H'.next→ρ (.run n)=none
 frame:∀ c,c < w.heap.size→(∀ b l o,ρ b=some l→H.get b=some o→o.live→l.c≠c)→w'.heap[c]?=w.heap[c]?
 keep:∀ b,H.Old b→ρ b=none→H'.get b=H.get b
 was:∀ b o,H.Old b→H'.get b=some o→o.live→∃ o',H.get b=some o'∧o'.live
theorem Step.refl {N:Nat} {ρ:Emb} {H:Heap} {w:World} (hs:Sim N ρ H.get w) (hw:H.Wf):Step N ρ H w ρ H w:=
 ⟨rfl,rfl,rfl,Nat.le_refl _,Ext.refl _,fun b l h=>.inl h,hs,hw,Nat.le_refl _,fun b h1 h2=>absurd h2 (by omega),fun _ _ _=>rfl,fun _ _ _=>rfl,fun b o h1 h2 h3=>⟨o,h2,h3⟩⟩
theorem Step.image {N:Nat} {ρ ρ1:Emb} {H H1:Heap} {w w1:World} (s:Step N ρ H w ρ1 H1 w1) {b:Bk} {l:Loc} {o:Obj} (hb:ρ1 b=some l) (ho:H1.get b=some o) (hl:o.live) :
  w.heap.size≤l.c∨∃ b0 l0 o0,ρ b0=some l0∧H.get b0=some o0∧o0.live∧l0.c=l.c:=by
 rcases s.new b l hb with hb' | ⟨_,h3⟩
 ·rcases H.old_or b with hbn | ⟨n,rfl,hn⟩
  ·obtain⟨o',ho',hl'⟩:=s.was b o hbn ho hl
   exact .inr ⟨b,l,o',hb',ho',hl',rfl⟩
  ·have hbl:n < H1.next:=s.wf _ o ho
   have:=s.pre n hn hbl
   rw[this] at hb';cases hb'
 ·exact h3
theorem Step.trans {N:Nat} {ρ ρ1 ρ2:Emb} {H H1 H2:Heap} {w w1 w2:World} (s:Step N ρ H w ρ1 H1 w1) (k:Step N ρ1 H1 w1 ρ2 H2 w2):Step N ρ H w ρ2 H2 w2:=by
 have hs:=s.size
 have hn:=s.next
 have hn':=k.next
 have none1:∀ b,H.Old b→ρ b=none→ρ1 b=none:=fun b hb h=>by
  cases h1:ρ1 b with
  | none=>rfl
  | some l=>
   rcases s.new b l h1 with h' | ⟨⟨n,rfl,h',_⟩,_⟩
   ·rw[h] at h';cases h'
   ·exact absurd hb (Heap.not_old h')
 refine⟨k.os.trans s.os,k.tape.trans s.tape,k.output.trans s.output,Nat.le_trans s.size k.size,s.ext.trans k.ext,?_,k.sim,k.wf,Nat.le_trans s.next k.next,?_,?_,?_,?_⟩
 ·intro b l h
  rcases k.new b l h with h | ⟨⟨n,rfl,h1,h2⟩,h3⟩
  ·rcases s.new b l h with h | ⟨⟨n,rfl,h1,h2⟩,h3⟩
   ·exact .inl h
   ·exact .inr ⟨⟨n,rfl,h1,by omega⟩,h3⟩
  ·refine .inr ⟨⟨n,rfl,by omega,h2⟩,?_⟩
   rcases h3 with h3 | ⟨b0,l0,o0,g1,g2,g3,g4⟩
   ·exact .inl (by omega)
   ·rw[← g4];exact s.image g1 g2 g3
 ·intro n h1 h2
  by_cases h:n < H1.next
  ·exact s.pre n h1 h
  ·have:=k.pre n (by omega) h2
   cases hb:ρ (.run n) with
   | none=>rfl
   | some l=>rw[s.ext _ l hb] at this;cases this
 ·intro c hc hno
  rw[k.frame c (by omega) ?_,s.frame c hc hno]
  intro b l o hb ho hl hlc
  rcases s.image hb ho hl with h | ⟨b0,l0,o0,g1,g2,g3,g4⟩
  ·omega
  ·exact hno b0 l0 o0 g1 g2 g3 (g4.trans hlc)
 ·intro b hb h
  rw[k.keep b (hb.mono hn) (none1 b hb h),s.keep b hb h]
 ·intro b o hb h hl
  obtain⟨o',h',hl'⟩:=k.was b o (hb.mono hn) h hl
  exact s.was b o' hb h' hl'
theorem Step.below {N:Nat} {ρ ρ':Emb} {H H':Heap} {w w':World} (s:Step N ρ H w ρ' H' w') (hs:Sim N ρ H.get w):RowKit.Below N w w':=by
 have:=hs.low
 refine⟨s.os,s.tape,s.output,s.size,fun c hc=>s.frame c (by omega) (fun b l o h1 h2 h3 h4=>?_)⟩
 have:=(hs.obj b o l h2 h1).live_ge h3
 omega
theorem Step.change {N:Nat} {ρ:Emb} {H:Heap} {w w':World} {b0:Bk} {l0:Loc} {o0 o1:Obj} (hs:Sim N ρ H.get w) (hw:H.Wf) (hb:ρ b0=some l0) (ho:H.get b0=some o0) (hl:o0.live)
  (h1:w'.os=w.os) (h2:w'.tape=w.tape) (h3:w'.output=w.output) (h4:w'.heap.size=w.heap.size) (hoth:∀ c,c≠l0.c→w'.heap[c]?=w.heap[c]?) (hnew:ORel N ρ w' l0 o1):Step N ρ H w ρ (H.set b0 o1) w':=by
 have hge:=(hs.obj b0 o0 l0 ho hb).live_ge hl
 refine⟨h1,h2,h3,Nat.le_of_eq h4.symm,Ext.refl _,fun b l h=>.inl h,⟨?_,?_,by rw[h4];exact hs.low⟩,?_,by simp,fun b h1 h2=>absurd h2 (by simp;omega),?_,?_,?_⟩
 ·intro b o l hg hr
  rw[Heap.get_set] at hg
  by_cases hbb:b=b0
  ·subst hbb
   rw[if_pos rfl] at hg
   cases hg
   rw[hb] at hr
   cases hr
   exact hnew
  ·rw[if_neg hbb] at hg
   refine(hs.obj b o l hg hr).frame (fun c hc=>hoth c (by omega)) (fun hlo=>hoth _ (hs.inj b b0 l l0 o o0 hbb hr hb hg hlo ho hl))
 ·intro b b' l l' o o' hne hr hr' hg hlo hg' hlo'
  rw[Heap.get_set] at hg hg'
  have find:∀ b o,(if b=b0 then some o1 else H.get b)=some o→o.live→∃ o',H.get b=some o'∧o'.live:=by
   intro b o hg hlo
   by_cases hbb:b=b0
   ·subst hbb;exact⟨o0,ho,hl⟩
   ·rw[if_neg hbb] at hg;exact⟨o,hg,hlo⟩
  obtain⟨q,hq,hql⟩:=find b o hg hlo
  obtain⟨q',hq',hql'⟩:=find b' o' hg' hlo'
  exact hs.inj b b' l l' q q' hne hr hr' hq hql hq' hql'
 ·intro b o hg
  rw[Heap.get_set] at hg
  rw[Heap.old_set]
  by_cases hbb:b=b0
  ·subst hbb;exact hw b o0 ho
  ·rw[if_neg hbb] at hg;exact hw b o hg
 ·intro c hc hno
  exact hoth c (fun e=>hno b0 l0 o0 hb ho hl e.symm)
 ·intro b hbn hr
  rw[Heap.get_set,if_neg (fun e=>by subst e;rw[hb] at hr;cases hr)]
 ·intro b o hbn hg hlo
  rw[Heap.get_set] at hg
  by_cases hbb:b=b0
  ·subst hbb;exact⟨o0,ho,hl⟩
  ·rw[if_neg hbb] at hg;exact⟨o,hg,hlo⟩
def Emb.add (ρ:Emb) (b:Bk) (l:Loc):Emb:=fun x=>if x=b then some l else ρ x
theorem Emb.add_same (ρ:Emb) (b:Bk) (l:Loc):ρ.add b l b=some l:=by simp[Emb.add]
theorem Emb.add_ext {ρ:Emb} {b:Bk} (l:Loc) (h:ρ b=none):Ext ρ (ρ.add b l):=fun x y hx=>by
 have:x≠b:=fun e=>by subst e;rw[h] at hx;cases hx
 simp[Emb.add,this,hx]
theorem Step.make {N:Nat} {ρ:Emb} {H:Heap} {w w':World} {l0:Loc} {o0:Obj} (hs:Sim N ρ H.get w) (hw:H.Wf) (hb:ρ (.run H.next)=none) (hc:l0.c=w.heap.size)
  (h1:w'.os=w.os) (h2:w'.tape=w.tape) (h3:w'.output=w.output) (h4:w'.heap.size=w.heap.size+1) (hoth:∀ c,c < w.heap.size→w'.heap[c]?=w.heap[c]?) (hnew:ORel N (ρ.add (.run H.next) l0) w' l0 o0) :
  Step N ρ H w (ρ.add (.run H.next) l0) (H.add o0) w':=by
 have hx:=Emb.add_ext l0 hb
 have hlow:=hs.low
 have old:∀ b l,ρ.add (.run H.next) l0 b=some l→(b=.run H.next∧l=l0)∨(b≠.run H.next∧ρ b=some l):=fun b l h=>by
  unfold Emb.add at h
  by_cases e:b=.run H.next
  ·rw[if_pos e] at h;cases h;exact .inl ⟨e,rfl⟩
  ·rw[if_neg e] at h;exact .inr ⟨e,h⟩
 have noold:¬ H.Old (.run H.next):=Heap.not_old (Nat.le_refl _)
 refine⟨h1,h2,h3,by omega,hx,?_,⟨?_,?_,by omega⟩,?_,by simp,?_,?_,?_,?_⟩
 ·intro b l h
  rcases old b l h with ⟨rfl,rfl⟩ | ⟨_,h⟩
  ·exact .inr ⟨⟨_,rfl,Nat.le_refl _,by simp⟩,.inl (Nat.le_of_eq hc.symm)⟩
  ·exact .inl h
 ·intro b o l hg hr
  rw[Heap.get_add] at hg
  rcases old b l hr with ⟨rfl,rfl⟩ | ⟨hne,hr⟩
  ·rw[if_pos rfl] at hg;cases hg;exact hnew
  ·rw[if_neg hne] at hg
   exact((hs.obj b o l hg hr).mono hx).frame (fun c hc'=>hoth c (by omega)) (fun hlo=>hoth _ ((hs.obj b o l hg hr).live_lt hlo))
 ·intro b b' l l' o o' hne hr hr' hg hlo hg' hlo'
  rw[Heap.get_add] at hg hg'
  rcases old b l hr with ⟨e,e1⟩ | ⟨hb1,k⟩
  ·rcases old b' l' hr' with ⟨e',e2⟩ | ⟨hb2,k'⟩
   ·exact absurd (e.trans e'.symm) hne
   ·rw[if_neg hb2] at hg';have:=(hs.obj b' o' l' hg' k').live_lt hlo';subst e1;omega
  ·rcases old b' l' hr' with ⟨e',e2⟩ | ⟨hb2,k'⟩
   ·rw[if_neg hb1] at hg;have:=(hs.obj b o l hg k).live_lt hlo;subst e2;omega
   ·rw[if_neg hb1] at hg
    rw[if_neg hb2] at hg'
    exact hs.inj b b' l l' o o' hne k k' hg hlo hg' hlo'
 ·intro b o hg
  rw[Heap.get_add] at hg
  rw[Heap.old_add]
  by_cases e:b=.run H.next
  ·exact .inr e
  ·rw[if_neg e] at hg;exact .inl (hw b o hg)
 ·intro n h1 h2
  simp at h2
  have:n=H.next:=by omega
  subst this;exact hb
 ·intro c hc' hno
  exact hoth c hc'
 ·intro b hbn hr
  rw[Heap.get_add,if_neg (fun e=>noold (by rw[← e];exact hbn))]
 ·intro b o hbn hg hlo
  rw[Heap.get_add,if_neg (fun e=>noold (by rw[← e];exact hbn))] at hg
  exact⟨o,hg,hlo⟩
theorem Sim.drew {N:Nat} {ρ:Emb} {g:Bk→Option Obj} {w:World} (h:Sim N ρ g w):Sim N ρ g w.drew:=⟨h.obj,h.inj,h.low⟩
theorem Step.of_drew {N:Nat} {ρ ρ':Emb} {H H':Heap} {w w':World} (s:Step N ρ H w.drew ρ' H' w'):Step N ρ H w ρ' H' w':=
 ⟨s.os,s.tape,s.output,s.size,s.ext,s.new,s.sim,s.wf,s.next,s.pre,s.frame,s.keep,s.was⟩
theorem Step.kill {N:Nat} {ρ:Emb} {H:Heap} {w:World} {b0:Bk} {l0:Loc} {o0:Obj} (hs:Sim N ρ H.get w) (hw:H.Wf) (hb:ρ b0=some l0) (ho:H.get b0=some o0) (hl:o0.live):Step N ρ H w ρ (H.set b0 .dead) w:=
 Step.change hs hw hb ho hl rfl rfl rfl rfl (fun _ _=>rfl) trivial
theorem Step.rename {N:Nat} {ρ:Emb} {H:Heap} {w:World} {b0:Bk} {l0 l1:Loc} {o0 o1:Obj} (hs:Sim N ρ H.get w) (hw:H.Wf) (hb:ρ b0=some l0) (ho:H.get b0=some o0) (hl:o0.live) (hf:ρ (.run H.next)=none) (hc:l1.c=l0.c)
  (hnew:ORel N (ρ.add (.run H.next) l1) w l1 o1):Step N ρ H w (ρ.add (.run H.next) l1) ((H.set b0 .dead).add o1) w:=by
 have hx:=Emb.add_ext l1 hf
 have hbl:=hw b0 o0 ho
 have noold:¬ H.Old (.run H.next):=Heap.not_old (Nat.le_refl _)
 have old:∀ b l,ρ.add (.run H.next) l1 b=some l→(b=.run H.next∧l=l1)∨(b≠.run H.next∧ρ b=some l):=fun b l h=>by
  unfold Emb.add at h
  by_cases e:b=.run H.next
  ·rw[if_pos e] at h;cases h;exact .inl ⟨e,rfl⟩
  ·rw[if_neg e] at h;exact .inr ⟨e,h⟩
 have get:∀ b,((H.set b0 .dead).add o1).get b=if b=.run H.next then some o1 else if b=b0 then some .dead else H.get b:=fun b=>by
  rw[Heap.get_add,Heap.get_set,Heap.next_set]
 refine⟨rfl,rfl,rfl,Nat.le_refl _,hx,?_,⟨?_,?_,hs.low⟩,?_,by simp,?_,fun _ _ _=>rfl,?_,?_⟩
 ·intro b l h
  rcases old b l h with ⟨rfl,rfl⟩ | ⟨_,h⟩
  ·exact .inr ⟨⟨_,rfl,Nat.le_refl _,by simp⟩,.inr ⟨b0,l0,o0,hb,ho,hl,hc.symm⟩⟩
  ·exact .inl h
 ·intro b o l hg hr
  rw[get] at hg
  rcases old b l hr with ⟨rfl,rfl⟩ | ⟨hne,hr⟩
  ·rw[if_pos rfl] at hg;cases hg;exact hnew
  ·rw[if_neg hne] at hg
   by_cases e:b=b0
   ·rw[if_pos e] at hg;cases hg;trivial
   ·rw[if_neg e] at hg;exact(hs.obj b o l hg hr).mono hx
 ·intro b b' l l' o o' hne hr hr' hg hlo hg' hlo'
  rw[get] at hg hg'
  rcases old b l hr with ⟨e,e1⟩ | ⟨hb1,k⟩
  ·rcases old b' l' hr' with ⟨e',e2⟩ | ⟨hb2,k'⟩
   ·exact absurd (e.trans e'.symm) hne
   ·rw[if_neg hb2] at hg'
    by_cases e3:b'=b0
    ·rw[if_pos e3] at hg';cases hg';exact hlo'.elim
    ·rw[if_neg e3] at hg'
     rw[e1,hc]
     exact hs.inj b0 b' l0 l' o0 o' (Ne.symm e3) hb k' ho hl hg' hlo'
  ·rw[if_neg hb1] at hg
   by_cases e3:b=b0
   ·rw[if_pos e3] at hg;cases hg;exact hlo.elim
   ·rw[if_neg e3] at hg
    rcases old b' l' hr' with ⟨e',e2⟩ | ⟨hb2,k'⟩
    ·rw[e2,hc]
     exact hs.inj b b0 l l0 o o0 e3 k hb hg hlo ho hl
    ·rw[if_neg hb2] at hg'
     by_cases e4:b'=b0
     ·rw[if_pos e4] at hg';cases hg';exact hlo'.elim
     ·rw[if_neg e4] at hg'
      exact hs.inj b b' l l' o o' hne k k' hg hlo hg' hlo'
 ·intro b o hg
  rw[get] at hg
  rw[Heap.old_add,Heap.old_set,Heap.next_set]
  by_cases e:b=.run H.next
  ·exact .inr e
  ·rw[if_neg e] at hg
   by_cases e3:b=b0
   ·subst e3;exact .inl hbl
   ·rw[if_neg e3] at hg;exact .inl (hw b o hg)
 ·intro n h1 h2
  simp at h2
  have:n=H.next:=by omega
  subst this;exact hf
 ·intro b hbn hr
  rw[get,if_neg (fun e=>noold (by rw[← e];exact hbn)),if_neg (fun e=>by subst e;rw[hb] at hr;cases hr)]
 ·intro b o hbn hg hlo
  rw[get,if_neg (fun e=>noold (by rw[← e];exact hbn))] at hg
  by_cases e:b=b0
  ·rw[if_pos e] at hg;cases hg;exact hlo.elim
  ·rw[if_neg e] at hg;exact⟨o,hg,hlo⟩
section
variable {P:Program} {N:Nat} {ρ:Emb} {H:Heap} {w:World}
theorem loadAt_rel {p:Ptr} {l:Loc} {sz:Nat} {cs:List V} (hs:Sim N ρ H.get w) (hp:ρ p.b=some l) (h:loadAt H p sz=some cs) :
  ∃ xs,CRel ρ cs xs∧xs.length=sz∧∀ j x,xs[j]?=some x→w.cell? (at' l (p.o+j))=some x:=by
 unfold loadAt at h
 split at h
 ·rename_i ro esz rs hg
  split at h
  ·rename_i r hn
   simp only[Ca,Cb] at hn h
   obtain⟨xs,hr,hcell⟩:=(hs.obj _ _ l hg hp).cells
   obtain⟨pre,a,q,rfl,h1,h2,h3,_⟩:=hr.split hn
   obtain⟨k1,k2⟩:=cut_rel r a (p.o % esz) sz cs h3 h
   refine⟨_,k1,?_,fun j x hx=>?_⟩
   ·rw[List.length_take,List.length_drop]
    omega
   ·rw[List.getElem?_take] at hx
    split at hx
    ·rename_i hj
     rw[List.getElem?_drop] at hx
     have hlt:p.o % esz+j < a.length:=(List.getElem?_eq_some_iff.1 hx).1
     apply hcell
     have e:p.o+j=pre.length+(p.o % esz+j):=by
      rw[h1]
      have:=Nat.div_add_mod p.o esz
      rw[Nat.mul_comm] at this
      omega
     rw[e,List.append_assoc,List.getElem?_append_right (by omega),List.getElem?_append_left (by omega)]
     simpa using hx
    ·cases hx
  ·cases h
 ·cases h
theorem run_loadCells_at {l:Loc} {o:Nat} {xs:List Value} {sz:Nat} (hl:xs.length=sz) (hc:∀ j x,xs[j]?=some x→w.cell? (at' l (o+j))=some x):(loadCells (at' l o) sz).run P w=.ok xs.toArray w:=by
 subst hl
 exact run_loadCells_list w (at' l o) xs (fun j x hx=>by rw[at'_add];exact hc j x hx)
theorem elems_rel {b:Bk} {sz:Nat} {l:Loc} (hs:Sim N ρ H.get w) (hp:ρ b=some l):∀(n o:Nat) (new:List (List V)),elems H b sz n o=some new →
  ∃ xs,RRel ρ sz new xs∧new.length=n∧∀ j x,xs[j]?=some x→w.cell? (at' l (o+j))=some x
 | 0,o,new,h=>by simp only[elems] at h;cases h;exact⟨[],rfl,rfl,fun j x hx=>by simp at hx⟩
 | n+1,o,new,h=>by
  simp only[elems] at h
  split at h
  ·rename_i x hx
   cases hr:elems H b sz n (Nat.add o sz) with
   | none=>rw[hr] at h;cases h
   | some rest=>
    rw[hr] at h
    cases h
    obtain⟨xs,h1,h2,h3⟩:=loadAt_rel hs (p:=⟨b,o⟩) hp hx
    obtain⟨ys,k1,k2,k3⟩:=elems_rel hs hp n (o+sz) rest hr
    refine⟨xs++ys,⟨xs,ys,rfl,h2,h1,k1⟩,by simp[k2],fun j x hx=>?_⟩
    by_cases hj:j < xs.length
    ·rw[List.getElem?_append_left hj] at hx;exact h3 j x hx
    ·rw[List.getElem?_append_right (by omega)] at hx
     have:=k3 (j - xs.length) x hx
     rw[show o+sz+(j - xs.length)=o+j by omega] at this
     exact this
  ·cases h
theorem storeAt_step {p:Ptr} {l:Loc} {vs:List V} {ys:List Value} {H':Heap} (hs:Sim N ρ H.get w) (hw:H.Wf) (hp:ρ p.b=some l) (h:storeAt H p vs=some H') (hv:CRel ρ vs ys) :
  ∃ w',(storeCells (at' l p.o) ys).run P w=.ok () w'∧Step N ρ H w ρ H' w':=by
 unfold storeAt at h
 split at h
 ·rename_i esz rs hg
  split at h
  ·rename_i r hn
   split at h
   ·rename_i r' hput
    cases h
    simp only[Ca,Cb] at hn hput ⊢
    have ho:=hs.obj _ _ l hg hp
    obtain⟨hN,xs,arr,e,hr,hh,hsz,hle,hcell⟩:=ho
    obtain⟨pre,a,q,rfl,h1,h2,h3,h4⟩:=hr.split hn
    obtain⟨k1,k2⟩:=put_rel r a (p.o % esz) vs ys r' h3 hv hput
    rcases k2 with rfl | k2
    ·
     have hv:ys=[]:=hv
     subst hv
     rw[put_nil] at hput
     cases hput
     refine⟨w,rfl,?_⟩
     refine Step.change hs hw hp hg rfl rfl rfl rfl rfl (fun _ _=>rfl) ⟨hN,_,arr,e,h4 r a h3 h2,hh,hsz,?_,hcell⟩
     simpa using hle
    ·have hpos:p.o=pre.length+p.o % esz:=by
      rw[h1]
      have:=Nat.div_add_mod p.o esz
      rw[Nat.mul_comm] at this
      omega
     have hle':pre.length+a.length+q.length≤l.room:=by simpa [Nat.add_assoc] using hle
     have hbound:l.d+p.o+0+ys.length≤arr.size:=by omega
     have hst:=run_storeCells_at (P:=P) l.c (l.d+p.o) e ys 0 arr w hh hbound hv.ones
     refine⟨_,by rw[at'_lit hN.2];exact hst,?_⟩
     refine Step.change hs hw hp hg rfl rfl rfl rfl (by simp) (fun c hc=>setRow_other _ _ _ _ hc) ?_
     have hlen:(over a (p.o % esz) ys).length=a.length:=over_length _ _ _ k2
     refine⟨hN,_,_,e,h4 r' _ k1 (by rw[hlen,h2]),setRow_heap _ _ _ _ _ _ hh,?_,?_,?_⟩
     ·simp;omega
     ·simp[hlen];omega
     ·intro i x hx
      simp only[Nat.add_zero,List.getElem?_toArray]
      have harr:(List.take (l.d+p.o) arr.toList++ys++List.drop (l.d+p.o+ys.length) arr.toList)=over arr.toList (l.d+p.o) ys:=rfl
      rw[harr,over_get _ _ _ (by simpa using hbound)]
      by_cases hi:i < pre.length
      ·have c1:¬ (l.d+p.o≤l.d+i∧l.d+i < l.d+p.o+ys.length):=by omega
       rw[if_neg c1]
       have:=hcell i x
       rw[List.append_assoc,List.getElem?_append_left hi] at hx
       rw[List.append_assoc,List.getElem?_append_left hi] at this
       simpa using this hx
      ·by_cases hi2:i - pre.length < a.length
       ·rw[List.append_assoc,List.getElem?_append_right (by omega),List.getElem?_append_left (by omega),over_get _ _ _ k2] at hx
        by_cases hi3:p.o % esz≤i - pre.length∧i - pre.length < p.o % esz+ys.length
        ·rw[if_pos hi3] at hx
         have c1:l.d+p.o≤l.d+i∧l.d+i < l.d+p.o+ys.length:=by omega
         rw[if_pos c1,show l.d+i - (l.d+p.o)=i - pre.length - p.o % esz by omega]
         exact hx
        ·rw[if_neg hi3] at hx
         have c1:¬ (l.d+p.o≤l.d+i∧l.d+i < l.d+p.o+ys.length):=by omega
         rw[if_neg c1]
         have:=hcell i x
         rw[List.append_assoc,List.getElem?_append_right (by omega),List.getElem?_append_left (by omega)] at this
         simpa using this hx
       ·rw[List.append_assoc,List.getElem?_append_right (by omega),List.getElem?_append_right (by omega),hlen] at hx
        have c1:¬ (l.d+p.o≤l.d+i∧l.d+i < l.d+p.o+ys.length):=by omega
        rw[if_neg c1]
        have:=hcell i x
        rw[List.append_assoc,List.getElem?_append_right (by omega),List.getElem?_append_right (by omega)] at this
        simpa using this hx
   ·cases h
  ·cases h
 ·cases h
end
end Go.Am
