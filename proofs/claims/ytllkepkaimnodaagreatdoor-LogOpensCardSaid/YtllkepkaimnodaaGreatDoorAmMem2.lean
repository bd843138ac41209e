import Derived.Test.YtllkepkaimnodaaGreatDoorAmMem
import Derived.Great.BuildSlice
set_option linter.unusedVariables false
set_option linter.unusedSimpArgs false
namespace Go.Am
def SndR (P:Program) (o:Oper) (f:T→Heap→Option V):Prop:=
 ∀(n:Nat) (ρ:Emb) (t:T) (a:Act) (v:V) (N:Nat) (H:Heap) (w:World),GRel P ρ→TRel n ρ t a→Sim N ρ H.get w→f t H=some v→∃ v',VRel ρ v v'∧(execOp a.eval o).run P w=.ok (.value v') w
section
variable {P:Program} {dst:Option Nat} {ty:TypeId} {pos:String} {after:Array Edge} {guard:Option (Nat × Bool)}
theorem unc_load {t:TypeId} {k:TK} {sz:Nat} {cs:List V} {v:V} {xs:List Value} {ρ:Emb} {w:World} {a:Addr} (hsz:sizeT P t=some sz) (hk:tkT P t=some k) (h:unc k cs=some v) (hr:CRel ρ cs xs) (hl:xs.length=sz)
  (hrun:(loadCells a sz).run P w=.ok xs.toArray w) (h0:∀ x,xs[0]?=some x→w.cell? a=some x):∃ v',VRel ρ v v'∧(loadVar t a).run P w=.ok v' w:=by
 obtain⟨d,hd,hcase⟩:=unc_val hk h hr
 rcases hcase with ⟨ha,x,rfl,hr'⟩ | ⟨ha,hr'⟩
 ·exact⟨x,hr',by simp[loadVar,isAgg_run hd,ha,h0 x rfl]⟩
 ·exact⟨_,hr',by simp[loadVar,isAgg_run hd,ha,run_sizeOf hsz,hrun]⟩
theorem loadVar_rel {N:Nat} {ρ:Emb} {H:Heap} {w:World} {t:TypeId} {k:TK} {sz:Nat} {p:Ptr} {l:Loc} {v:V} (hsz:sizeT P t=some sz) (hk:tkT P t=some k) (hs:Sim N ρ H.get w) (hp:ρ p.b=some l) (h:(loadAt H p sz).bind (unc k)=some v) :
  ∃ v',VRel ρ v v'∧(loadVar t (at' l p.o)).run P w=.ok v' w:=by
 cases hc:loadAt H p sz with
 | none=>rw[hc] at h;cases h
 | some cs=>
  rw[hc] at h
  obtain⟨xs,h1,h2,h3⟩:=loadAt_rel hs hp hc
  exact unc_load hsz hk h h1 h2 (run_loadCells_at h2 h3) (fun x hx=>by simpa using h3 0 x hx)
theorem snd_load {t:TypeId} {k:TK} {sz:Nat} {x:Operand} {sx:S} (hsz:sizeT P t=some sz) (hk:tkT P t=some k) (hx:src P x=some sx):SndR P ⟨dst,.load t x,ty,pos,after,guard⟩ (loadF sx sz k):=by
 intro n ρ t' a v N H w hg ht hs hv
 unfold loadF at hv
 split at hv
 ·rename_i p h1
  obtain⟨l,hl,he⟩:=src_rel hg ht hx h1
  obtain⟨v',hr,hrun⟩:=loadVar_rel hsz hk hs hl hv
  exact⟨v',hr,by simp[execOp,he,Instr.loadAt,Instr.sureAddr,hrun]⟩
 ·cases hv
theorem live_rows {H:Heap} {b:Bk} (h:H.live b=true):∃ esz rs,H.get b=some (.rows false esz rs):=by
 unfold Heap.live at h
 split at h
 ·rename_i esz rs hg;exact⟨esz,rs,hg⟩
 ·cases h
theorem noView_row {w:World} {a:Addr} {arr:Array Value} {e:TypeId} {fr:Nat × Nat} (h:w.heap[a.block]?=some (.cells arr e fr)):(noView a).run P w=.ok () w:=by
 simp[noView,viewAt,World.shape?,h]
theorem sameAddr_other {w:World} {a b:Addr} {arr arr':Array Value} {e e':TypeId} (hne:a.block≠b.block) (ha:w.heap[a.block]?=some (.cells arr e (0,0))) (hb:w.heap[b.block]?=some (.cells arr' e' (0,0))):(sameAddr a b).run P w=.ok false w:=by
 have fa:∀ o s,w.frozen? ⟨a.block,o,s⟩=false:=fun o s=>by simp[World.frozen?,ha]
 have fb:∀ o s,w.frozen? ⟨b.block,o,s⟩=false:=fun o s=>by simp[World.frozen?,hb]
 have fa0:w.frozen? a=false:=by simp[World.frozen?,ha]
 have fb0:w.frozen? b=false:=by simp[World.frozen?,hb]
 have sa:(stringish a).run P w=.ok false w:=by simp[stringish,fa0,World.shape?,ha,fa]
 have sb:(stringish b).run P w=.ok false w:=by simp[stringish,fb0,World.shape?,hb,fb]
 simp[sameAddr,hne,fa0,noView_row ha,noView_row hb,mayBeOne,sa,sb]
def Plain (x:Value):Prop:=(∀ k m,x≠.int k m)∧(∀ k m,x≠.float k m)∧(∀ k m m',x≠.complex k m m')∧(∀ s,x≠.string s)
theorem eqPtr_run {N:Nat} {ρ:Emb} {H:Heap} {w:World} {t el:TypeId} {m:Nat} {u v:V} {x y:Value} {b:Bool} (d:Nat) (hs:Sim N ρ H.get w) (hd:P.underlying t=some (.pointer el)) (hn:sizeT P el=some m) (h0:m≠0) (hu:VRel ρ u x) (hv:VRel ρ v y) (h:eqPtr H u v=some b) :
  (Op.equalIn (d+1) t x y).run P w=.ok b w∧∃ p,x=.pointer p:=by
 unfold eqPtr at h
 split at h
 ·rename_i q
  cases h
  have hu:x=_:=hu
  subst hu
  cases q with
  | none=>have hv:y=_:=hv;subst hv;exact⟨by simp[Op.equalIn,run_underlying hd,isNone],_,rfl⟩
  | some q=>obtain⟨l,hl,rfl⟩:=hv;exact⟨by simp[Op.equalIn,run_underlying hd,isNone],_,rfl⟩
 ·cases h
  have hv:y=_:=hv
  subst hv
  obtain⟨l,hl,rfl⟩:=hu
  exact⟨by simp[Op.equalIn,run_underlying hd],_,rfl⟩
 ·rename_i p q
  obtain⟨l,hl,rfl⟩:=hu
  obtain⟨l',hl',rfl⟩:=hv
  refine⟨?_,_,rfl⟩
  have e1:(Op.equalIn (d+1) t (.pointer (some (at' l p.o))) (.pointer (some (at' l' q.o)))).run P w=(sameAddr (at' l p.o) (at' l' q.o)).run P w:=by
   simp[Op.equalIn,run_underlying hd,run_sizeOf hn,h0]
  rw[e1]
  cases hbb:p.b.beq q.b with
  | true=>
   rw[hbb] at h
   cases h
   have:=Bk.beq_iff.1 hbb
   rw[this,hl'] at hl
   cases hl
   by_cases ho:p.o=q.o
   ·rw[ho,beq_iff.2 rfl];simp[sameAddr]
   ·rw[beq_false.2 ho]
    have hne:at' l p.o≠at' l q.o:=fun e=>by
     have:=congrArg Addr.off e
     rw[at'_off,at'_off] at this
     omega
    simp[sameAddr,at'_block,hne]
  | false=>
   rw[hbb] at h
   have hne:=Bk.beq_false.1 hbb
   cases hlive:H.live p.b&&H.live q.b with
   | false=>rw[hlive] at h;cases h
   | true=>
    rw[hlive] at h
    cases h
    simp only[Bool.and_eq_true] at hlive
    obtain⟨e1,r1,g1⟩:=live_rows hlive.1
    obtain⟨e2,r2,g2⟩:=live_rows hlive.2
    obtain⟨_,_,a1,t1,_,k1,_⟩:=hs.obj _ _ l g1 hl
    obtain⟨_,_,a2,t2,_,k2,_⟩:=hs.obj _ _ l' g2 hl'
    exact sameAddr_other (by rw[at'_block,at'_block];exact hs.inj _ _ l l' _ _ hne hl hl' g1 rfl g2 rfl) (by rw[at'_block];exact k1) (by rw[at'_block];exact k2)
 ·cases h
theorem eqSl_run {ρ:Emb} {w:World} {t el:TypeId} {u v:V} {x y:Value} {b:Bool} (d:Nat) (hd:P.underlying t=some (.slice el)) (hu:VRel ρ u x) (hv:VRel ρ v y) (h:eqSl u v=some b) :
  (Op.equalIn (d+1) t x y).run P w=.ok b w∧∃ p l c,x=.slice p l c:=by
 unfold eqSl at h
 split at h
 ·rename_i lo1 q _ _ lo2
  split at h
  ·rename_i hl
   have hl:=beq_iff.1 hl
   subst hl
   obtain⟨_,_,⟨_,rfl⟩ | ⟨hne,_⟩⟩:=hu
   rotate_left
   ·exact absurd rfl hne
   split at h
   ·split at h
    ·rename_i hl
     have hl:=beq_iff.1 hl
     subst hl
     cases h
     obtain⟨_,_,⟨_,rfl⟩ | ⟨hne,_⟩⟩:=hv
     rotate_left
     ·exact absurd rfl hne
     exact⟨by simp[Op.equalIn,run_underlying hd],_,_,_,rfl⟩
    ·cases h
   ·cases h
    obtain⟨l,c,hl,rfl,_⟩:=hv;exact⟨by simp[Op.equalIn,run_underlying hd],_,_,_,rfl⟩
  ·cases h
 ·split at h
  ·rename_i hl
   have hl:=beq_iff.1 hl
   subst hl
   cases h
   obtain⟨_,_,⟨_,rfl⟩ | ⟨hne,_⟩⟩:=hv
   rotate_left
   ·exact absurd rfl hne
   obtain⟨l,c,hl,rfl,_⟩:=hu
   exact⟨by simp[Op.equalIn,run_underlying hd],_,_,_,rfl⟩
  ·cases h
 ·cases h
theorem eqMap_run {ρ:Emb} {w:World} {t k el:TypeId} {u v:V} {x y:Value} {b:Bool} (d:Nat) (hd:P.underlying t=some (.map k el)) (hu:VRel ρ u x) (hv:VRel ρ v y) (h:eqMap u v=some b) :
  (Op.equalIn (d+1) t x y).run P w=.ok b w∧∃ p,x=.map p:=by
 unfold eqMap at h
 split at h
 ·rename_i q
  cases h
  have hu:x=_:=hu
  subst hu
  cases q with
  | none=>have hv:y=_:=hv;subst hv;exact⟨by simp[Op.equalIn,run_underlying hd,isNone],_,rfl⟩
  | some q=>obtain⟨l,hl,rfl⟩:=hv;exact⟨by simp[Op.equalIn,run_underlying hd,isNone],_,rfl⟩
 ·cases h
  have hv:y=_:=hv
  subst hv
  obtain⟨l,hl,rfl⟩:=hu
  exact⟨by simp[Op.equalIn,run_underlying hd],_,rfl⟩
 ·cases h
theorem eqFn_run {ρ:Emb} {w:World} {t:TypeId} {p q:Array TypeId} {r:Bool} {u v:V} {x y:Value} {b:Bool} (d:Nat) (hd:P.underlying t=some (.func p q r)) (hu:VRel ρ u x) (hv:VRel ρ v y) (h:eqFn u v=some b) :
  (Op.equalIn (d+1) t x y).run P w=.ok b w∧((∃ f a b,x=.func f a b)∨x=.nilFunc):=by
 unfold eqFn at h
 split at h
 ·cases h
  have hu:x=_:=hu
  have hv:y=_:=hv
  subst hu hv
  exact⟨by simp[Op.equalIn,run_underlying hd],.inr rfl⟩
 ·cases h
  have hu:x=_:=hu
  subst hu
  obtain⟨f',c',rfl,_,_⟩:=hv
  exact⟨by simp[Op.equalIn,run_underlying hd],.inr rfl⟩
 ·cases h
  have hv:y=_:=hv
  subst hv
  obtain⟨f',c',rfl,_,_⟩:=hu
  exact⟨by simp[Op.equalIn,run_underlying hd],.inl ⟨_,_,_,rfl⟩⟩
 ·cases h
theorem eqIf_run {ρ:Emb} {w:World} {t:TypeId} {ms:Array (String × TypeId)} {xo yo:Operand} {u v:V} {x y:Value} {b:Bool} (d:Nat) (hd:P.underlying t=some (.interface ms)) (hu:VRel ρ u x) (hv:VRel ρ v y) (h:eqIf (isLit xo || isLit yo) u v=some b) :
  (Op.equalIn (d+1) t x y).run P w=.ok b w∧(∀ op,(eqGuard op t xo yo x y).run P w=.ok () w)∧((∃ t v,x=.iface t v)∨x=.nilIface):=by
 unfold eqIf at h
 split at h
 ·cases hlit:(isLit xo || isLit yo) with
  | false=>rw[hlit] at h;cases h
  | true=>
   rw[hlit] at h
   cases h
   have hu:x=_:=hu
   have hv:y=_:=hv
   subst hu hv
   refine⟨by simp[Op.equalIn,run_underlying hd],fun op=>?_,.inr rfl⟩
   cases op<;>cases xo<;>cases yo<;>simp[isLit] at hlit<;>simp[eqGuard]
 ·cases h
  have hu:x=_:=hu
  subst hu
  obtain⟨y',rfl,_⟩:=hv
  exact⟨by simp[Op.equalIn,run_underlying hd],fun op=>by cases op<;>rfl,.inr rfl⟩
 ·cases h
  have hv:y=_:=hv
  subst hv
  obtain⟨y',rfl,_⟩:=hu
  exact⟨by simp[Op.equalIn,run_underlying hd],fun op=>by cases op<;>rfl,.inl ⟨_,_,rfl⟩⟩
 ·cases h
theorem eqN_run {N:Nat} {ρ:Emb} {H:Heap} {w:World} {t:TypeId} {xo yo:Operand} {e:EK} {u v:V} {x y:Value} {b:Bool} (hs:Sim N ρ H.get w) (he:ekOf P t xo yo=some e) (hu:VRel ρ u x) (hv:VRel ρ v y) (h:eqN H e u v=some b) :
  (Op.equal t x y).run P w=.ok b w∧(∀ op,(eqGuard op t xo yo x y).run P w=.ok () w)∧Plain x:=by
 have heq:Op.equal t x y=Op.equalIn (9999+1) t x y:=rfl
 rw[heq]
 unfold ekOf at he
 split at he
 ·rename_i el hd
  split at he
  ·rename_i n hn
   cases hn0:n.beq 0 with
   | true=>rw[hn0] at he;cases he
   | false=>
    rw[hn0] at he
    cases he
    obtain⟨h1,p,rfl⟩:=eqPtr_run 9999 hs hd hn (beq_false.1 hn0) hu hv h
    exact⟨h1,fun op=>by simp[eqGuard_at_pointer],by simp[Plain]⟩
  ·cases he
 ·rename_i el hd
  cases he
  obtain⟨h1,p,l,c,rfl⟩:=eqSl_run 9999 hd hu hv h
  exact⟨h1,fun op=>by simp[eqGuard_at_slice],by simp[Plain]⟩
 ·rename_i k el hd
  cases he
  obtain⟨h1,p,rfl⟩:=eqMap_run 9999 hd hu hv h
  exact⟨h1,fun op=>by simp[eqGuard_at_map],by simp[Plain]⟩
 ·rename_i p q r hd
  cases he
  obtain⟨h1,h2⟩:=eqFn_run 9999 hd hu hv h
  refine⟨h1,fun op=>?_,?_⟩
  ·rcases h2 with ⟨f,a,b,rfl⟩ | rfl<;>cases op<;>rfl
  ·rcases h2 with ⟨f,a,b,rfl⟩ | rfl<;>simp[Plain]
 ·rename_i ms hd
  cases he
  obtain⟨h1,h2,h3⟩:=eqIf_run 9999 hd hu hv h
  exact⟨h1,h2,by rcases h3 with ⟨_,_,rfl⟩ | rfl<;>simp[Plain]⟩
 ·cases he
theorem binOp_plain_eql {w:World} {t:TypeId} {x y:Value} {b:Bool} (h:(Op.equal t x y).run P w=.ok b w) (hp:Plain x):(binOp .eql t x y).run P w=.ok (.bool b) w:=by
 obtain⟨k3,k4,k5,k6⟩:=hp
 cases x<;>first | exact absurd rfl (k3 _ _) | exact absurd rfl (k4 _ _) | exact absurd rfl (k5 _ _ _) | exact absurd rfl (k6 _) | simp[binOp,h]
theorem binOp_plain_neq {w:World} {t:TypeId} {x y:Value} {b:Bool} (h:(Op.equal t x y).run P w=.ok b w) (hp:Plain x):(binOp .neq t x y).run P w=.ok (.bool (!b)) w:=by
 obtain⟨k3,k4,k5,k6⟩:=hp
 cases x<;>first | exact absurd rfl (k3 _ _) | exact absurd rfl (k4 _ _) | exact absurd rfl (k5 _ _ _) | exact absurd rfl (k6 _) | simp[binOp,h]
theorem snd_eqn {neg:Bool} {op:BinOp} {xT yT:TypeId} {x y:Operand} {sx sy:S} {e:EK} (hop:op=match neg with | true=>.neq | false=>.eql) (he:ekOf P xT x y=some e) (hx:src P x=some sx) (hy:src P y=some sy) :
  SndR P ⟨dst,.binOp op xT x y yT,ty,pos,after,guard⟩ (eqnF neg e sx sy):=by
 intro n ρ t' a v N H w hg ht hs hv
 unfold eqnF at hv
 split at hv
 ·rename_i u u' h1 h2
  split at hv
  ·rename_i b hb
   cases hv
   obtain⟨k1,k2,k3⟩:=eqN_run (xo:=x) (yo:=y) hs he (src_rel hg ht hx h1) (src_rel hg ht hy h2) hb
   refine⟨_,rfl,?_⟩
   cases neg<;>subst hop
   ·simp[execOp,k2,binOp_plain_eql k1 k3]
   ·simp[execOp,k2,binOp_plain_neq k1 k3]
  ·cases hv
 ·cases hv
end
end Go.Am
