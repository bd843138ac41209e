import Derived.Test.YtllkepkaimnodaaGreatDoorAmVeil3
import Derived.Test.YtllkepkaimnodaaGreatDoorAmLift
set_option linter.unusedVariables false
set_option linter.unusedSimpArgs false
set_option linter.unusedSectionVars false
namespace Go.Am
abbrev Row:=FuncId × (List V→Heap→Option (Rs × Heap))
noncomputable def tabU:List Row→CallT
 | [],_,_,_=>none
 | e::l,f,args,H=>match Nat.beq f e.1 with
  | true=>e.2 args H
  | false=>tabU l f args H
def inTab:List Row→FuncId→Bool
 | [],_=>false
 | e::l,f=>match Nat.beq f e.1 with
  | true=>true
  | false=>inTab l f
theorem tabU_some:∀ {l:List Row} {f:FuncId} {args:List V} {H:Heap} {r:Rs × Heap},tabU l f args H=some r→inTab l f=true∧∃ e ∈ l,e.1=f∧e.2 args H=some r
 | [],_,_,_,_,h=>by cases h
 | e::l,f,args,H,r,h=>by
  unfold tabU at h
  unfold inTab
  split at h
  ·rename_i hf
   exact⟨rfl,e,List.mem_cons_self ..,(beq_iff.1 hf).symm,h⟩
  ·rename_i hf
   obtain⟨h1,e',h2,h3⟩:=tabU_some h
   exact⟨h1,e',List.mem_cons_of_mem _ h2,h3⟩
section
variable {A:V→Prop} {R:RepT}
def RowTold (A:V→Prop) (R:RepT) (call:CallT) (K:Nat) (e:Row):Prop:=
 ∀(args:List V) (G:Heap) (r:Rs) (G':Heap),e.2 args G=some (r,G')→∀ H,Under A R G H→∃ v H1,r=.v v∧call e.1 args H=some (.v v,H1)∧(H1.next≤H.next+K→Under A R G' (H1.pad (H.next+K)))
theorem tab_under {call:CallT} {K:Nat} (hK:GrowS call K) {l:List Row} (hl:∀ e ∈ l,RowTold A R call K e):CallU A R (tabU l) (padS call (inTab l) K):=by
 intro f args G r G' h H u
 obtain⟨h1,e,he,rfl,h2⟩:=tabU_some h
 obtain⟨v,H1,rfl,h3,h4⟩:=hl e he args G r G' h2 H u
 have hn:=hK _ _ _ _ _ h3
 exact⟨_,padS_some h1 h3 hn,h4 hn⟩
noncomputable abbrev upS (l:List Row) (S0:CallT):CallT:=orS (tabU l) S0
abbrev upD (l:List Row) (dom0:FuncId→Bool):FuncId→Bool:=fun f=>inTab l f || dom0 f
noncomputable abbrev loS (call:CallT) (l:List Row) (K:Nat) (S0:CallT):CallT:=orS (padS call (inTab l) K) S0
theorem level_under (ok:RepOk A R) {P:Program} {S0:CallT} {dom0:FuncId→Bool} (hb:Blind S0) (h0:∀ f,dom0 f=false→∀ args H,S0 f args H=none) {call:CallT} {K:Nat} (hK:GrowS call K) {l:List Row} (hl:∀ e ∈ l,RowTold A R call K e) (hx:∀ f,inTab l f=true→dom0 f=false)
  (lf d:Nat):CallU A R (callU P (upS l S0) (upD l dom0) lf d) (callS P (loS call l K S0) lf d):=by
 rw[← callU_none]
 refine callU_under ok (fun f hf=>?_) (fun f args G r G' h H u=>?_) lf d
 ·have hf:(inTab l f || dom0 f)=false:=hf
  rw[Bool.or_eq_false_iff] at hf
  refine⟨rfl,fun args H=>?_⟩
  show (match padS call (inTab l) K f args H with | some r=>some r | none=>S0 f args H)=none
  have:padS call (inTab l) K f args H=none:=by unfold padS;rw[hf.1]
  rw[this]
  exact h0 f hf.2 args H
 ·have h:(match tabU l f args G with | some r=>some r | none=>S0 f args G)=some (r,G'):=h
  show ∃ H',(match padS call (inTab l) K f args H with | some r=>some r | none=>S0 f args H)=some (r,H')∧_
  split at h
  ·rename_i r' hr
   cases h
   obtain⟨H',e1,u1⟩:=tab_under hK hl f args G _ _ hr H u
   rw[e1]
   exact⟨H',rfl,u1⟩
  ·rename_i hr
   obtain⟨rfl,k⟩:=hb f args G r G' h
   cases hp:padS call (inTab l) K f args H with
   | none=>exact⟨H,k H,u⟩
   | some x=>
    have hin:inTab l f=true:=by
     unfold padS at hp
     split at hp
     ·cases hp
     ·assumption
    rw[h0 f (hx f hin)] at h
    cases h
theorem loS_snd {P:Program} {S0:CallT} (h0:CallSnd P S0) {call:CallT} (hc:CallSnd P call) (l:List Row) (K:Nat):CallSnd P (loS call l K S0):=orS_snd (padS_snd hc _ _) h0
end
def rowsOnly (a:Nat→Option Obj):Nat→Option Obj:=fun n=>match a n with
 | some (.rows ro e rs)=>some (.rows ro e rs)
 | _=>none
theorem Fits.rows {a:Nat→Option Obj}:∀(s:Sh) (C:List V),Fits a s C→Fits (rowsOnly a) s C
 | .bool,C,k=>k
 | .int _,C,k=>k
 | .str,C,k=>k
 | .blk,C,k=>k
 | .slice esz e,C,k=>by
  rcases k with k | ⟨b,len,rows,k1,k2,k3,k4,k5⟩
  ·exact .inl k
  ·exact .inr ⟨b,len,rows,k1,by unfold rowsOnly;rw[k2],k3,k4,fun r hr=>Fits.rows e r (k5 r hr)⟩
 | .nil,C,k=>k
 | .seq s t,C,k=>by
  obtain⟨C1,C2,e,k1,k2⟩:=k
  exact⟨C1,C2,e,Fits.rows s _ k1,Fits.rows t _ k2⟩
theorem FitsAll.rows {a:Nat→Option Obj}:∀ {ss:List Sh} {us:List V},FitsAll a ss us→FitsAll (rowsOnly a) ss us
 | [],us,h=>h
 | s::ss,us,h=>by
  obtain⟨v,vs,h0,⟨C,h1,h2⟩,h3⟩:=h
  exact⟨v,vs,h0,⟨C,Fits.rows s C h1,h2⟩,FitsAll.rows h3⟩
end Go.Am
