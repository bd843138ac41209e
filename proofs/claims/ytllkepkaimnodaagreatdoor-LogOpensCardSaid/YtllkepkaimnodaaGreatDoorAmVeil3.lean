import Derived.Test.YtllkepkaimnodaaGreatDoorAmGrow
import Derived.Test.YtllkepkaimnodaaGreatDoorAmSym2
set_option linter.unusedVariables false
set_option linter.unusedSimpArgs false
set_option linter.unusedSectionVars false
namespace Go.Am
section
variable {A:V→Prop} {R:RepT}
def Heap.pad (H1:Heap) (n:Nat):Heap:=⟨H1.m,n,H1.a,H1.q⟩
theorem Heap.get_pad (H1:Heap) (n:Nat):(H1.pad n).get=H1.get:=pad_get H1 n
theorem Under.pure (ok:RepOk A R) {G H H1:Heap} (u:Under A R G H) (t:Turns (fun _=>False) H H1) {K:Nat} (hK:H1.next≤H.next+K):Under A R (G.skip K) (H1.pad (H.next+K)):=by
 obtain⟨F,c⟩:=u.ex
 refine⟨by show G.next+K=H.next+K;rw[u.next],fun x y hx=>?_,fun hq=>t.q (u.q hq),F,?_,?_,?_,?_⟩
 ·rw[Heap.get_skip] at hx
  exact(u.wf x y hx).mono (Nat.le_add_right _ _)
 ·intro r v hr hv
  rw[Heap.get_skip] at hr
  have hR:=c.abs r v hr hv
  refine ok.frame hv hR (fun d hd=>?_) (Nat.le_add_right _ _)
  rw[Heap.get_pad,t.same d (ok.old hv hR hd) id]
 ·intro x y hx hy
  rw[Heap.get_skip] at hx
  rw[Heap.get_pad,t.same x ((Heap.old_iff u.next x).1 (u.wf x y hx)) id]
  exact c.con x y hx hy
 ·intro r v x y hr hv hx hy
  rw[Heap.get_skip] at hr hx
  exact c.out r v x y hr hv hx hy
 ·intro r v r' v' hr hv hr' hv'
  rw[Heap.get_skip] at hr hr'
  exact c.sep r v r' v' hr hv hr' hv'
theorem Under.op (ok:RepOk A R) {G H H1:Heap} {F:Bk→Bk→Prop} (u:Under A R G H) (c:Cov A R F G H) {b:Bk} {v v':V} (hb:G.get b=some (.box v)) (hv:A v) (hv':A v') {F':Bk→Prop} (hR':R v' H1 b F')
  (hF:∀ d,F' d→F b d∨¬ H.Old d) (t:Turns (F b) H H1) {K:Nat} (hK:H1.next≤H.next+K):Under A R ((G.set b (.box v')).skip K) (H1.pad (H.next+K)):=by
 have gs:((G.set b (.box v')).skip K).get=(G.set b (.box v')).get:=Heap.get_skip _ _
 have ne:∀ r w,(G.set b (.box v')).get r=some (.box w)→A w→(r=b∧w=v')∨(r≠b∧G.get r=some (.box w)):=by
  intro r w hr hw
  rw[Heap.get_set] at hr
  by_cases e:r=b
  ·rw[if_pos e] at hr;cases hr;exact .inl ⟨e,rfl⟩
  ·rw[if_neg e] at hr;exact .inr ⟨e,hr⟩
 have oldH:∀ x y,G.get x=some y→H.Old x:=fun x y hx=>(Heap.old_iff u.next x).1 (u.wf x y hx)
 refine⟨by show G.next+K=H.next+K;rw[u.next],fun x y hx=>?_,fun hq=>t.q (u.q hq),fun r d=>(r=b∧F' d)∨(r≠b∧F r d),?_,?_,?_,?_⟩
 ·rw[gs,Heap.get_set] at hx
  by_cases e:x=b
  ·rw[e];exact(u.wf b _ hb).mono (Nat.le_add_right _ _)
  ·rw[if_neg e] at hx;exact(u.wf x y hx).mono (Nat.le_add_right _ _)
 ·intro r w hr hw
  rw[gs] at hr
  rcases ne r w hr hw with ⟨rfl,rfl⟩ | ⟨e,hr⟩
  ·have e:(fun d=>(r=r∧F' d)∨(r≠r∧F r d))=F':=by funext d;simp
   rw[e]
   exact ok.frame hw hR' (fun d _=>by rw[Heap.get_pad]) hK
  ·have e2:(fun d=>(r=b∧F' d)∨(r≠b∧F r d))=F r:=by funext d;simp[e]
   rw[e2]
   have hR:=c.abs r w hr hw
   refine ok.frame hw hR (fun d hd=>?_) (Nat.le_add_right _ _)
   rw[Heap.get_pad,t.same d (ok.old hw hR hd) (c.sep r w b v hr hw hb hv e d hd)]
 ·intro x y hx hy
  rw[gs,Heap.get_set] at hx
  by_cases e:x=b
  ·rw[if_pos e] at hx;cases hx;exact absurd ⟨v',rfl,hv'⟩ hy
  ·rw[if_neg e] at hx
   rw[Heap.get_pad,t.same x (oldH x y hx) (c.out b v x y hb hv hx hy)]
   exact c.con x y hx hy
 ·intro r w x y hr hw hx hy
  rw[gs] at hr hx
  rw[Heap.get_set] at hx
  by_cases e:x=b
  ·rw[if_pos e] at hx;cases hx;exact absurd ⟨v',rfl,hv'⟩ hy
  ·rw[if_neg e] at hx
   rintro(⟨rfl,h⟩ | ⟨e1,h⟩)
   ·rcases hF x h with h | h
    ·exact c.out r v x y hb hv hx hy h
    ·exact h (oldH x y hx)
   ·rcases ne r w hr hw with ⟨rfl,rfl⟩ | ⟨e,hr⟩
    ·exact e1 rfl
    ·exact c.out r w x y hr hw hx hy h
 ·intro r w r' w' hr hw hr' hw' e d h h'
  rw[gs] at hr hr'
  rcases ne r w hr hw with ⟨rfl,rfl⟩ | ⟨e1,gr⟩
  ·rcases ne r' w' hr' hw' with ⟨rfl,rfl⟩ | ⟨e2,gr'⟩
   ·exact e rfl
   ·rcases h with ⟨_,h⟩ | ⟨h0,_⟩
    ·rcases h' with ⟨h0,_⟩ | ⟨_,h'⟩
     ·exact e2 h0
     ·rcases hF d h with h | h
      ·exact c.sep r v r' w' hb hv gr' hw' e d h h'
      ·exact h (ok.old hw' (c.abs r' w' gr' hw') h')
    ·exact h0 rfl
  ·rcases h with ⟨h0,_⟩ | ⟨_,h⟩
   ·exact e1 h0
   ·rcases ne r' w' hr' hw' with ⟨rfl,rfl⟩ | ⟨e2,gr'⟩
    ·rcases h' with ⟨_,h'⟩ | ⟨h0,_⟩
     ·rcases hF d h' with h' | h'
      ·exact c.sep r w r' v gr hw hb hv e1 d h h'
      ·exact h' (ok.old hw (c.abs r w gr hw) h)
     ·exact h0 rfl
    ·rcases h' with ⟨h0,_⟩ | ⟨_,h'⟩
     ·exact e2 h0
     ·exact c.sep r w r' w' gr hw gr' hw' e d h h'
theorem Under.made (ok:RepOk A R) {G H H1:Heap} (u:Under A R G H) {v':V} (hv':A v') {F':Bk→Prop} (hR':R v' H1 (.run H.next) F')
  (hF:∀ d,F' d→¬ H.Old d) (t:Turns (fun _=>False) H H1) {K:Nat} (hK:H1.next≤H.next+K) (hK1:1≤K):Under A R ((G.add (.box v')).skip (K - 1)) (H1.pad (H.next+K)):=by
 obtain⟨F,c⟩:=u.ex
 have gs:((G.add (.box v')).skip (K - 1)).get=(G.add (.box v')).get:=Heap.get_skip _ _
 have hn:=u.next
 have oldH:∀ x y,G.get x=some y→H.Old x:=fun x y hx=>(Heap.old_iff u.next x).1 (u.wf x y hx)
 have ne:∀ r w,(G.add (.box v')).get r=some (.box w)→A w→(r=.run H.next∧w=v')∨(r≠.run H.next∧G.get r=some (.box w)):=by
  intro r w hr hw
  rw[Heap.get_add,hn] at hr
  by_cases e:r=.run H.next
  ·rw[if_pos e] at hr;cases hr;exact .inl ⟨e,rfl⟩
  ·rw[if_neg e] at hr;exact .inr ⟨e,hr⟩
 refine⟨by show G.next+1+(K - 1)=H.next+K;omega,fun x y hx=>?_,fun hq=>t.q (u.q hq),fun r d=>(r=.run H.next∧F' d)∨(r≠.run H.next∧F r d),?_,?_,?_,?_⟩
 ·rw[gs,Heap.get_add] at hx
  by_cases e:x=.run G.next
  ·rw[e];show G.next < G.next+1+(K - 1);omega
  ·rw[if_neg e] at hx;exact(u.wf x y hx).mono (by show G.next≤G.next+1+(K - 1);omega)
 ·intro r w hr hw
  rw[gs] at hr
  rcases ne r w hr hw with ⟨rfl,rfl⟩ | ⟨e,hr⟩
  ·have e:(fun d=>(Bk.run H.next=.run H.next∧F' d)∨(Bk.run H.next≠.run H.next∧F (.run H.next) d))=F':=by funext d;simp
   rw[e]
   exact ok.frame hw hR' (fun d _=>by rw[Heap.get_pad]) hK
  ·have e2:(fun d=>(r=.run H.next∧F' d)∨(r≠.run H.next∧F r d))=F r:=by funext d;simp[e]
   rw[e2]
   have hR:=c.abs r w hr hw
   refine ok.frame hw hR (fun d hd=>?_) (Nat.le_add_right _ _)
   rw[Heap.get_pad,t.same d (ok.old hw hR hd) id]
 ·intro x y hx hy
  rw[gs,Heap.get_add,hn] at hx
  by_cases e:x=.run H.next
  ·rw[if_pos e] at hx;cases hx;exact absurd ⟨v',rfl,hv'⟩ hy
  ·rw[if_neg e] at hx
   rw[Heap.get_pad,t.same x (oldH x y hx) id]
   exact c.con x y hx hy
 ·intro r w x y hr hw hx hy
  rw[gs] at hr hx
  rw[Heap.get_add,hn] at hx
  by_cases e:x=.run H.next
  ·rw[if_pos e] at hx;cases hx;exact absurd ⟨v',rfl,hv'⟩ hy
  ·rw[if_neg e] at hx
   rintro(⟨rfl,h⟩ | ⟨e1,h⟩)
   ·exact hF x h (oldH x y hx)
   ·rcases ne r w hr hw with ⟨rfl,rfl⟩ | ⟨e,hr⟩
    ·exact e1 rfl
    ·exact c.out r w x y hr hw hx hy h
 ·intro r w r' w' hr hw hr' hw' e d h h'
  rw[gs] at hr hr'
  rcases ne r w hr hw with ⟨rfl,rfl⟩ | ⟨e1,gr⟩
  ·rcases ne r' w' hr' hw' with ⟨rfl,rfl⟩ | ⟨e2,gr'⟩
   ·exact e rfl
   ·rcases h with ⟨_,h⟩ | ⟨h0,_⟩
    ·rcases h' with ⟨h0,_⟩ | ⟨_,h'⟩
     ·exact e2 h0
     ·exact hF d h (ok.old hw' (c.abs r' w' gr' hw') h')
    ·exact h0 rfl
  ·rcases h with ⟨h0,_⟩ | ⟨_,h⟩
   ·exact e1 h0
   ·rcases ne r' w' hr' hw' with ⟨rfl,rfl⟩ | ⟨e2,gr'⟩
    ·rcases h' with ⟨_,h'⟩ | ⟨h0,_⟩
     ·exact hF d h' (ok.old hw (c.abs r w gr hw) h)
     ·exact h0 rfl
    ·rcases h' with ⟨h0,_⟩ | ⟨_,h'⟩
     ·exact e2 h0
     ·exact c.sep r w r' w' gr hw gr' hw' e d h h'
theorem Under.own {H:Heap} (hw:H.Wf) (h:∀ b v,H.get b=some (.box v)→¬ A v):Under A R H H:=
 ⟨rfl,hw,id,fun _ _=>False,fun b v hb hv=>absurd hv (h b v hb),fun _ _ hx _=>hx,fun _ _ _ _ _ _ _ _ h=>h,fun _ _ _ _ _ _ _ _ _ _ h=>h.elim⟩
def Blind (S:CallT):Prop:=∀(f:FuncId) (args:List V) (G:Heap) (r:Rs) (G':Heap),S f args G=some (r,G')→G'=G∧∀ H,S f args H=some (r,H)
theorem Blind.or {S S':CallT} (h:Blind S) (h':Blind S') (hn:∀ f args G H,S f args G=none→S f args H=none):Blind (orS S S'):=by
 intro f args G r G' e
 unfold orS at e
 split at e
 ·rename_i r' hr
  cases e
  obtain⟨rfl,k⟩:=h f args G _ _ hr
  exact⟨rfl,fun H=>by unfold orS;rw[k H]⟩
 ·rename_i hr
  obtain⟨rfl,k⟩:=h' f args G r G' e
  exact⟨rfl,fun H=>by unfold orS;rw[hn f args _ H hr];exact k H⟩
theorem Blind.grow {S:CallT} (h:Blind S):GrowS S 0:=fun f args H r H' e=>by rw[(h f args H r H' e).1];omega
end
theorem callU_run {P:Program} {S:CallT} {dom:FuncId→Bool} {lf d:Nat} {f:FuncId} {args:List V} {H:Heap} {c:CFn} (hS:S f args H=none) (hd:dom f=false) (hf:fnOf P f=some c):callU P S dom lf (d+1) f args H=runF P (callU P S dom lf d) lf c args H:=by
 show (match S f args H with
   | some r=>some r
   | none=>match dom f with
    | true=>none
    | false=>match fnOf P f with
     | some fn=>runF P (callU P S dom lf d) lf fn args H
     | none=>none)=_
 rw[hS,hd,hf]
theorem callU_told {P:Program} {S:CallT} {dom:FuncId→Bool} {lf d:Nat} {f:FuncId} {args:List V} {H:Heap} {r:Rs × Heap} (hS:S f args H=some r):callU P S dom lf (d+1) f args H=some r:=by
 show (match S f args H with
   | some r=>some r
   | none=>match dom f with
    | true=>none
    | false=>match fnOf P f with
     | some fn=>runF P (callU P S dom lf d) lf fn args H
     | none=>none)=_
 rw[hS]
end Go.Am
