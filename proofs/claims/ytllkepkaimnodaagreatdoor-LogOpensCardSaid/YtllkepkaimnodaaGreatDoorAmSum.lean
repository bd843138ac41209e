import Derived.Test.YtllkepkaimnodaaGreatDoorAmLift
import Derived.Test.YtllkepkaimnodaaGreatDoorAmDefer
set_option linter.unusedVariables false
set_option linter.unusedSimpArgs false
namespace Go.Am
open Go.ChangeShapes Go.RowKit
noncomputable section
def callS (P:Program) (S:CallT) (lf:Nat) (d:Nat):CallT:=
 Nat.rec (motive:=fun _=>CallT) (fun _ _ _=>none) (fun _ ih f args H=>match S f args H with
  | some r=>some r
  | none=>match fnOf P f with
   | some fn=>runF P ih lf fn args H
   | none=>none) d
end
def noSum:CallT:=fun _ _ _=>none
theorem noSum_snd (P:Program):CallSnd P noSum:=⟨fun _ _ _ _ _ h=>(by cases h),fun _ _ _ _ _ h=>(by cases h)⟩
theorem callS_sound {P:Program} {S:CallT} (hS:CallSnd P S) (lf:Nat):∀ d,CallSnd P (callS P S lf d):=by
 intro d
 induction d with
 | zero=>exact⟨fun id args H v H' h=>(by cases h),fun id args H v H' h=>(by cases h)⟩
 | succ d ih=>
  refine⟨fun id args H v H' h=>?_,fun id args H v H' h=>?_⟩
  ·have h:(match S id args H with | some r=>some r | none=>match fnOf P id with | some fn=>runF P (callS P S lf d) lf fn args H | none=>none)=some (.v v,H'):=h
   split at h
   ·rename_i r hr
    cases h
    exact hS.1 id args H v H' hr
   ·split at h
    ·rename_i cfn hfn
     obtain⟨h1,h2,h3⟩:=runF_sound ih hfn h
     refine⟨h1,h2,fun N ρ w args' hg ha hs hw hf=>(h3 N ρ w args' hg ha hs hw hf).mono ?_⟩
     rintro e w' ⟨ρ',⟨x,rfl,hx⟩,st⟩
     exact⟨x,ρ',rfl,st,hx⟩
    ·cases h
  ·have h:(match S id args H with | some r=>some r | none=>match fnOf P id with | some fn=>runF P (callS P S lf d) lf fn args H | none=>none)=some (.p v,H'):=h
   split at h
   ·rename_i r hr
    cases h
    exact hS.2 id args H v H' hr
   ·split at h
    ·rename_i cfn hfn
     obtain⟨h1,h2,h3⟩:=runF_sound ih hfn h
     refine⟨h1,h2,fun N ρ w args' hg ha hs hw hf=>(h3 N ρ w args' hg ha hs hw hf).mono ?_⟩
     rintro e w' ⟨ρ',⟨x,rfl,hx⟩,st⟩
     exact⟨x,ρ',rfl,st,hx⟩
    ·cases h
mutual
def V.noRef:V→Bool
 | .bool _=>true
 | .int _ _=>true
 | .blk _=>true
 | .str _=>true
 | .ptr none=>true
 | .slice none _ _ _=>true
 | .map none=>true
 | .nilFunc=>true
 | .nilIface=>true
 | .agg cs=>noRefs cs
 | .tuple vs=>noRefs vs
 | _=>false
def noRefs:List V→Bool
 | []=>true
 | v::vs=>v.noRef&&noRefs vs
end
mutual
theorem VRel.any {ρ ρ':Emb}:∀(v:V) (x:Value),v.noRef=true→VRel ρ v x→VRel ρ' v x
 | .bool b,x,_,r=>r
 | .int k n,x,_,r=>r
 | .blk B,x,_,r=>r
 | .str s,x,_,r=>r
 | .ptr none,x,_,r=>r
 | .ptr (some p),x,h,r=>by simp[V.noRef] at h
 | .slice none len cap loose,x,_,r=>r
 | .slice (some p) len cap loose,x,h,r=>by simp[V.noRef] at h
 | .map none,x,_,r=>r
 | .map (some p),x,h,r=>by simp[V.noRef] at h
 | .func fn f c,x,h,r=>by simp[V.noRef] at h
 | .nilFunc,x,_,r=>r
 | .iface t v,x,h,r=>by simp[V.noRef] at h
 | .nilIface,x,_,r=>r
 | .agg cs,x,h,r=>by
  obtain⟨xs,h1,h2⟩:=r
  simp only[V.noRef] at h
  exact⟨xs,h1,CRel.any cs _ h h2⟩
 | .tuple vs,x,h,r=>by
  obtain⟨xs,h1,h2⟩:=r
  simp only[V.noRef] at h
  exact⟨xs,h1,VRels.any vs _ h h2⟩
theorem VRels.any {ρ ρ':Emb}:∀(vs:List V) (xs:List Value),noRefs vs=true→VRels ρ vs xs→VRels ρ' vs xs
 | [],xs,_,r=>r
 | v::vs,xs,h,r=>by
  obtain⟨y,ys,h1,h2,h3⟩:=r
  simp only[noRefs,Bool.and_eq_true] at h
  exact⟨y,ys,h1,VRel.any v y h.1 h2,VRels.any vs ys h.2 h3⟩
theorem CRel.any {ρ ρ':Emb}:∀(cs:List V) (xs:List Value),noRefs cs=true→CRel ρ cs xs→CRel ρ' cs xs
 | [],xs,_,r=>r
 | c::cs,xs,h,r=>by
  obtain⟨a,ys,h1,h2,h3⟩:=r
  simp only[noRefs,Bool.and_eq_true] at h
  refine⟨a,ys,h1,?_,CRel.any cs ys h.2 h3⟩
  rcases h2 with h2 | ⟨hf,y,hy,hr⟩
  ·exact .inl h2
  ·exact .inr ⟨hf,y,hy,VRel.any c y h.1 hr⟩
end
theorem alone_snd {P:Program} {S:CallT} (hS:CallSnd P S) {lf d:Nat} {id:FuncId} {args:List V} {v:V} {H1:Heap} (h:callS P S lf d id args (heapA P fun _=>none)=some (.v v,H1)) (hq:QOk H1) (ha:noRefs args=true) (hv:v.noRef=true) (H:Heap) :
  HasBody P id∧H.Upto H ∧
  ∀(N:Nat) (ρ:Emb) (w:World) (args':Array Value),GRel P ρ→VRels ρ args args'.toList→Sim N ρ H.get w→H.Wf→Free ρ H H →
   Calls P id args' w fun e w'=>∃ x ρ',e=.returned x∧Step N ρ H w ρ' H w'∧VRel ρ' v x:=by
 obtain⟨hb,_,k⟩:=(callS_sound hS lf d).1 id args _ v H1 h
 refine⟨hb,.refl _,fun N ρ w args' hg hr hs hw hf=>?_⟩
 have b0:=base0 P w
 refine(k w.heap.size (emb0 P) w args' b0.g (VRels.any _ _ ha hr) b0.sim.1 b0.sim.2 ⟨hq,fun b h1 _=>b0.run b h1⟩).mono ?_
 rintro e w' ⟨x,ρ',rfl,st,hx⟩
 have same:∀ c,c < w.heap.size→w'.heap[c]?=w.heap[c]?:=fun c hc=>st.frame c hc (fun b l o _ ho _=>by
  cases b with
  | run n=>simp[Heap.get,heapA,Tr.getP_e] at ho
  | arg n=>simp[Heap.get,heapA] at ho)
 have hlow:=hs.low
 refine⟨x,ρ,rfl,⟨st.os,st.tape,st.output,st.size,Ext.refl _,fun b l h=>.inl h,⟨fun b o l ho hr=>?_,hs.inj,Nat.le_trans hlow st.size⟩,hw,Nat.le_refl _,fun n h1 h2=>absurd h2 (by omega),fun c hc _=>same c hc,fun _ _ _=>rfl,fun b o h1 h2 h3=>⟨o,h2,h3⟩⟩,VRel.any v x hv hx⟩
 have ho':=hs.obj b o l ho hr
 exact ho'.frame (fun c hc=>same c (by omega)) (fun hl=>same _ (ho'.live_lt hl))
def orS (S S':CallT):CallT:=fun id args H=>match S id args H with
 | some r=>some r
 | none=>S' id args H
theorem orS_snd {P:Program} {S S':CallT} (h:CallSnd P S) (h':CallSnd P S'):CallSnd P (orS S S'):=by
 refine⟨fun id args H v H' e=>?_,fun id args H v H' e=>?_⟩
 ·unfold orS at e
  split at e
  ·rename_i r hr;cases e;exact h.1 id args H v H' hr
  ·exact h'.1 id args H v H' e
 ·unfold orS at e
  split at e
  ·rename_i r hr;cases e;exact h.2 id args H v H' hr
  ·exact h'.2 id args H v H' e
def eqVs (f:V→V→Bool):List V→List V→Bool
 | [],[]=>true
 | x::xs,y::ys=>f x y&&eqVs f xs ys
 | _,_=>false
def eqP (p q:Ptr):Bool:=p.b.beq q.b&&p.o.beq q.o
def eqV:Nat→V→V→Bool
 | 0,_,_=>false
 | d+1,x,y=>match x,y with
  | .bool a,.bool b=>eqB a b
  | .int k a,.int l b=>decide (k=l)&&eqI a b
  | .blk a,.blk b=>a.beq b
  | .ptr none,.ptr none=>true
  | .ptr (some p),.ptr (some q)=>eqP p q
  | .slice none a b c,.slice none a' b' c'=>a.beq a'&&b.beq b'&&c.beq c'
  | .slice (some p) a b c,.slice (some q) a' b' c'=>eqP p q&&a.beq a'&&b.beq b'&&c.beq c'
  | .map none,.map none=>true
  | .map (some r),.map (some s)=>r.beq s
  | .nilFunc,.nilFunc=>true
  | .nilIface,.nilIface=>true
  | .agg xs,.agg ys=>eqVs (eqV d) xs ys
  | .tuple xs,.tuple ys=>eqVs (eqV d) xs ys
  | _,_=>false
theorem eqI_iff {a b:Int} (h:eqI a b=true):a=b:=by
 unfold eqI at h
 split at h
 ·rw[beq_iff.1 h]
 ·rw[beq_iff.1 h]
 ·cases h
theorem eqP_iff {p q:Ptr} (h:eqP p q=true):p=q:=by
 obtain⟨b,o⟩:=p
 obtain⟨c,u⟩:=q
 simp only[eqP,Bool.and_eq_true] at h
 have h1:=Bk.beq_iff.1 h.1
 have h2:=beq_iff.1 h.2
 rw[show b=c from h1,show o=u from h2]
theorem eqVs_iff {f:V→V→Bool} (hf:∀ x y,f x y=true→x=y):∀(xs ys:List V),eqVs f xs ys=true→xs=ys
 | [],[],_=>rfl
 | x::xs,y::ys,h=>by
  simp only[eqVs,Bool.and_eq_true] at h
  rw[hf x y h.1,eqVs_iff hf xs ys h.2]
 | [],_::_,h=>by cases h
 | _::_,[],h=>by cases h
theorem eqV_iff:∀(d:Nat) (x y:V),eqV d x y=true→x=y
 | 0,_,_,h=>by cases h
 | d+1,x,y,h=>by
  unfold eqV at h
  split at h
  ·rename_i a b
   cases a<;>cases b<;>first | rfl | cases h
  ·simp only[Bool.and_eq_true,decide_eq_true_eq] at h
   rw[h.1,eqI_iff h.2]
  ·rw[beq_iff.1 h]
  ·rfl
  ·rw[eqP_iff h]
  ·simp only[Bool.and_eq_true] at h
   rw[beq_iff.1 h.1.1,beq_iff.1 h.1.2,beq_iff.1 h.2]
  ·simp only[Bool.and_eq_true] at h
   rw[eqP_iff h.1.1.1,beq_iff.1 h.1.1.2,beq_iff.1 h.1.2,beq_iff.1 h.2]
  ·rfl
  ·rw[Bk.beq_iff.1 h]
  ·rfl
  ·rfl
  ·rw[eqVs_iff (eqV_iff d) _ _ h]
  ·rw[eqVs_iff (eqV_iff d) _ _ h]
  ·cases h
def eqO:Option V→Option V→Bool
 | some x,some y=>eqV 20 x y
 | none,none=>true
 | _,_=>false
def pairsOk:List (Option V × Option V)→Bool
 | []=>true
 | (x,y)::l=>match eqO x y with
  | true=>pairsOk l
  | false=>false
theorem pairsOk_iff:∀ {l:List (Option V × Option V)},pairsOk l=true→∀ p ∈ l,p.1=p.2
 | [],_,p,h=>by cases h
 | (x,y)::l,e,p,h=>by
  unfold pairsOk at e
  split at e
  ·rename_i hxy
   rcases List.mem_cons.1 h with rfl | h
   ·unfold eqO at hxy
    split at hxy
    ·rw[eqV_iff _ _ _ hxy]
    ·rfl
    ·cases hxy
   ·exact pairsOk_iff e p h
  ·cases e
def okT:Option (Rs × Heap)→Bool
 | some (.v (.bool true),H)=>pairsOk H.q
 | _=>false
theorem okT_some {r:Option (Rs × Heap)} (h:okT r=true):∃ H1,r=some (.v (.bool true),H1)∧QOk H1:=by
 unfold okT at h
 split at h
 ·exact⟨_,rfl,fun p hp=>pairsOk_iff h p hp⟩
 ·cases h
end Go.Am
