import Derived.Test.YtllkepkaimnodaaGreatDoorAmDraw1
set_option linter.unusedVariables false
set_option linter.unusedSimpArgs false
namespace Go.Am
theorem acsOf_mem:∀ {es:List DEv} {j0 i:Nat} {e:DEv},es[i]?=some e→e.k=.a→⟨j0+i,e.b,e.a⟩ ∈ acsOf es j0
 | [],j0,i,e,h,hk=>by simp at h
 | e0::es,j0,0,e,h,hk=>by
  simp at h
  subst h
  simp only[acsOf,hk]
  exact List.mem_cons_self ..
 | e0::es,j0,i+1,e,h,hk=>by
  have:=acsOf_mem (es:=es) (j0:=j0+1) (i:=i) (by simpa using h) hk
  rw[show j0+1+i=j0+(i+1) by omega] at this
  simp only[acsOf]
  split
  ·exact List.mem_cons_of_mem _ this
  ·exact this
theorem owesBy_mem {b:List Nat} {g:Heap→Option V} {v:V} {i:Nat}:∀ {acs:List Ac} {c:Ac},c ∈ acs→ordered b i c.j=true∨((g c.b,some v) ∈ owesBy b g v i acs∧(g c.a,some v) ∈ owesBy b g v i acs)
 | [],c,h=>by cases h
 | c0::cs,c,h=>by
  simp only[owesBy]
  rcases List.mem_cons.1 h with rfl | h
  ·cases ho:ordered b i c.j with
   | true=>exact .inl rfl
   | false=>exact .inr ⟨List.mem_cons_self ..,List.mem_cons_of_mem _ (List.mem_cons_self ..)⟩
  ·rcases owesBy_mem (b:=b) (g:=g) (v:=v) (i:=i) h with h | ⟨h1,h2⟩
   ·exact .inl h
   ·cases ordered b i c0.j with
    | true=>exact .inr ⟨h1,h2⟩
    | false=>exact .inr ⟨List.mem_cons_of_mem _ (List.mem_cons_of_mem _ h1),List.mem_cons_of_mem _ (List.mem_cons_of_mem _ h2)⟩
theorem owes_get {b:List Nat} {acs:List Ac}:∀ {es:List DEv} {i0 i:Nat} {e:DEv} {g:Heap→Option V},es[i]?=some e→e.k=.r g→∀ c ∈ acs,ordered b (i0+i) c.j=true∨((g c.b,some e.v) ∈ owes b acs es i0∧(g c.a,some e.v) ∈ owes b acs es i0)
 | [],i0,i,e,g,he,hk=>by simp at he
 | e0::es,i0,0,e,g,he,hk=>by
  simp at he
  subst he
  intro c hc
  simp only[owes,hk]
  rcases owesBy_mem (b:=b) (g:=g) (v:=e0.v) (i:=i0) hc with h | ⟨h1,h2⟩
  ·exact .inl h
  ·exact .inr ⟨List.mem_append_left _ h1,List.mem_append_left _ h2⟩
 | e0::es,i0,i+1,e,g,he,hk=>by
  intro c hc
  have:=owes_get (b:=b) (acs:=acs) (es:=es) (i0:=i0+1) (i:=i) (e:=e) (by simpa using he) hk c hc
  rw[show i0+1+i=i0+(i+1) by omega] at this
  refine this.imp id (fun h=>?_)
  simp only[owes]
  split
  ·exact⟨List.mem_append_right _ h.1,List.mem_append_right _ h.2⟩
  ·exact h
structure Facts (P:Program) (n:Nat) (ops:Array Oper) (t0:T) (H0:Heap) (es:List DEv):Prop where
 len:es.length=ops.size
 ev:∀(i:Nat) (o:Oper),ops[i]?=some o→∃ e,es[i]?=some e∧e.b=hs es H0 i∧e.a=hs es H0 (i+1)∧EvOk P n ops o (tD (fun j=>decide (j < i)) ops.toList es 0 t0) e
 lt:∀(j:Nat) (o:Oper) (e:Edge),ops[j]?=some o→e ∈ o.after→Region.binds .any e=true→e.on < j
 apart:∀(i j:Nat) (x y:Oper),i < j→ops[i]?=some x→ops[j]?=some y→Bef ops i j∨x.apart ops y=true
 chain:∀(i j:Nat) (e e':DEv),i < j→es[i]?=some e→e.k=.a→es[j]?=some e'→e'.k=.a→Bef ops i j
 readA:∀(i c:Nat) (e ec:DEv) (g:Heap→Option V),i < c→es[i]?=some e→e.k=.r g→es[c]?=some ec→ec.k=.a→Bef ops i c∨g (hs es H0 (c+1))=some e.v
 readB:∀(i c:Nat) (e ec:DEv) (g:Heap→Option V),c < i→es[i]?=some e→e.k=.r g→es[c]?=some ec→ec.k=.a→Bef ops c i∨g (hs es H0 c)=some e.v
theorem facts {P:Program} {n:Nat} {ops:Array Oper} {t0:T} {H0:Heap} {es:List DEv} (ht:Trace P n ops ops.toList t0 H0 es) (hr:regionOk ops (masks ops.toList []) ops.toList 0=true) (hc:chainOk (masks ops.toList []) (acsOf es 0)=true) (hq:∀ p ∈ owes (masks ops.toList []) (acsOf es 0) es 0,p.1=p.2):Facts P n ops t0 H0 es:=by
 have ev:∀(i:Nat) (o:Oper),ops[i]?=some o→∃ e,es[i]?=some e∧e.b=hs es H0 i∧e.a=hs es H0 (i+1)∧EvOk P n ops o (tD (fun j=>decide (j < i)) ops.toList es 0 t0) e:=fun i o ho=>by
  have:=ht.get 0 i (o:=o) (by simpa using ho)
  simpa using this
 have hl:es.length=ops.size:=by simpa using ht.len
 have ab:∀(c:Nat) (ec:DEv),es[c]?=some ec→ec.b=hs es H0 c∧ec.a=hs es H0 (c+1):=fun c ec h=>by
  have hlt:c < ops.size:=by rw[← hl];exact(List.getElem?_eq_some_iff.1 h).1
  obtain⟨e,h1,h2,h3,_⟩:=ev c _ (Array.getElem?_eq_getElem hlt)
  rw[h] at h1
  cases h1
  exact⟨h2,h3⟩
 refine⟨hl,ev,?_,?_,?_,?_,?_⟩
 ·intro j o e ho he hb
  have:=(regionOk_get hr (k:=j) (x:=o) (by simpa using ho)).1 e he hb
  omega
 ·intro i j x y hij hx hy
  rcases(regionOk_get hr (k:=i) (x:=x) (by simpa using hx)).2 j y hij (by simpa using hy) with h | h
  ·rw[Nat.zero_add,Nat.zero_add] at h
   exact .inl (ordered_bef hij h)
  ·exact .inr h
 ·intro i j e e' hij he hk he' hk'
  have m1:=acsOf_mem (j0:=0) he hk
  have m2:=acsOf_mem (j0:=0) he' hk'
  have:=List.all_eq_true.1 (List.all_eq_true.1 hc _ m1) _ m2
  simp only[Nat.zero_add,Bool.or_eq_true] at this
  rcases this with h | h
  ·have:=beq_iff.1 h;omega
  ·exact ordered_bef hij h
 ·intro i c e ec g hic he hk hec hkc
  have m1:=acsOf_mem (j0:=0) hec hkc
  rcases owes_get (i0:=0) (b:=masks ops.toList []) he hk _ m1 with h | h
  ·simp only[Nat.zero_add] at h
   exact .inl (ordered_bef hic h)
  ·have:=hq _ h.2
   simp only at this
   rw[(ab c ec hec).2] at this
   exact .inr this
 ·intro i c e ec g hci he hk hec hkc
  have m1:=acsOf_mem (j0:=0) hec hkc
  rcases owes_get (i0:=0) (b:=masks ops.toList []) he hk _ m1 with h | h
  ·simp only[Nat.zero_add] at h
   rw[ordered_symm] at h
   exact .inl (ordered_bef hci h)
  ·have:=hq _ h.1
   simp only at this
   rw[(ab c ec hec).1] at this
   exact .inr this
end Go.Am
