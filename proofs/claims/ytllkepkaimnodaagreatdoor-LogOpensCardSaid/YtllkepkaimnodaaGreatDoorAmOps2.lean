import Derived.Test.YtllkepkaimnodaaGreatDoorAmEq
import Derived.Laws.Tables
import Derived.LaidEql
set_option linter.unusedVariables false
set_option linter.unusedSimpArgs false
namespace Go.Am
section
variable {P:Program} {dst:Option Nat} {ty:TypeId} {pos:String} {after:Array Edge} {guard:Option (Nat × Bool)}
theorem flat_cells {v:V} {cs:List V} (hf:v.flat=true) (h:v.cells=some cs):cs=[v]:=by
 cases v<;>simp[V.flat] at hf<;>simp only[V.cells] at h<;>cases h<;>rfl
theorem equal_cells {ρ:Emb} {t:TypeId} {k:TK} {ls:List CK} {u v:V} {us vs:List V} {x y:Value} {b:Bool} (hk:tkT P t=some k) (hls:eqLay P 20 t=some ls) (hu:VRel ρ u x) (hv:VRel ρ v y) (hus:u.cells=some us) (hvs:v.cells=some vs)
  (hfu:u.flat=!k.isAgg) (hfv:v.flat=!k.isAgg) (hc:cmpCells ls us vs=some b) (w:World) :
  (Op.equal t x y).run P w=.ok b w∧((k=.sc∧∃ d,P.underlying t=some d∧aggD d=false)∨∃ xs ys,x=.agg xs∧y=.agg ys):=by
 obtain⟨d,hd,hrun⟩:=eqLay_ok (P:=P) 20 t ls 10000 hls (by decide)
 obtain⟨d',hd',hk'⟩:=tkT_some hk
 rw[hd] at hd'
 cases hd'
 have fin:∀(X Y:List Value),CRel ρ us X→CRel ρ vs Y→valOf (aggD d) X x→valOf (aggD d) Y y→(Op.equal t x y).run P w=.ok b w:=by
  intro X Y hX hY vx vy
  obtain⟨c1,c2,hiff⟩:=cmp_conf hX hY hc
  obtain⟨r,hr,hiff'⟩:=hrun w X Y x y c1 c2 vx vy
  have:r=b:=by rw[Bool.eq_iff_iff,hiff,hiff']
  rw[← this];exact hr
 rcases hk' with ⟨rfl,ha⟩ | ⟨hne,ha⟩
 ·have hfu:u.flat=true:=hfu
  have hfv:v.flat=true:=hfv
  have e1:=flat_cells hfu hus
  have e2:=flat_cells hfv hvs
  subst e1 e2
  exact⟨fin [x] [y] (CRel.cons_flat hfu hu rfl) (CRel.cons_flat hfv hv rfl) (by rw[ha];rfl) (by rw[ha];rfl),.inl ⟨rfl,d,hd,ha⟩⟩
 ·have hfu:u.flat=false:=by cases k<;>first | exact absurd rfl hne | exact hfu
  have hfv:v.flat=false:=by cases k<;>first | exact absurd rfl hne | exact hfv
  obtain⟨xs,rfl,hx⟩:=agg_rel hfu hus hu
  obtain⟨ys,rfl,hy⟩:=agg_rel hfv hvs hv
  exact⟨fin xs.toList ys.toList hx hy (by rw[ha];simp[valOf]) (by rw[ha];simp[valOf]),.inr ⟨xs,ys,rfl,rfl⟩⟩
theorem cmp_scalar_kind {ρ:Emb} {u v:V} {ls:List CK} {x y:Value} {b:Bool} (hfu:u.flat=true) (hu:VRel ρ u x) (hv:VRel ρ v y) (hfv:v.flat=true) (hc:cmpCells ls [u] [v]=some b) :
  (∃ k m k' m',x=.int k m∧y=.int k' m'∧k=k'∧b=(m==m'))∨(∃ m m',x=.bool m∧y=.bool m'∧b=(m==m'))∨(∃ m m',x=.string m∧y=.string m'∧b=(m==m')):=by
 unfold cmpCells at hc
 split at hc
 ·rename_i h1 h2;cases h1
 ·rename_i k ls j a xs l c ys h1 h2
  cases h1;cases h2
  have hu:x=_:=hu
  have hv:y=_:=hv
  cases hd:decide (j=k)&&decide (l=k) with
  | false=>rw[hd] at hc;cases hc
  | true=>
   rw[hd] at hc
   simp only[Bool.and_eq_true,decide_eq_true_eq] at hd
   obtain⟨rfl,rfl⟩:=hd
   cases ls with
   | nil=>simp[cmpCells] at hc;subst hc;exact .inl ⟨_,_,_,_,hu,hv,rfl,by rw[Cy]⟩
   | cons a as=>simp[cmpCells] at hc
 ·rename_i ls a xs c ys h1 h2
  cases h1;cases h2
  have hu:x=_:=hu
  have hv:y=_:=hv
  cases ls with
  | nil=>simp[cmpCells] at hc;subst hc;exact .inr (.inl ⟨_,_,hu,hv,by rw[Cz]⟩)
  | cons a as=>simp[cmpCells] at hc
 ·rename_i ls a xs c ys h1 h2
  cases h1;cases h2
  have hu:x=_:=hu
  have hv:y=_:=hv
  cases ls with
  | nil=>simp[cmpCells] at hc;subst hc;exact .inr (.inr ⟨_,_,hu,hv,rfl⟩)
  | cons a as=>simp[cmpCells] at hc
 ·rename_i h1 h2;cases h1;simp[V.flat] at hfu
 ·cases hc
theorem snd_eqc {neg:Bool} {op:BinOp} {xT yT:TypeId} {x y:Operand} {sx sy:S} {ck:List CK} {k:TK} (hop:op=match neg with | true=>.neq | false=>.eql) (hls:eqLay P 20 xT=some ck) (hgd:P.eqGuardType P.depth xT=false) (hk:tkT P xT=some k)
  (hx:src P x=some sx) (hy:src P y=some sy):SndP P ⟨dst,.binOp op xT x y yT,ty,pos,after,guard⟩ (eqcF neg k.isAgg ck sx sy):=by
 intro n ρ t a v hg ht hv
 unfold eqcF at hv
 split at hv
 ·rename_i u u' h1 h2
  split at hv
  ·rename_i us vs hus hvs hfl
   simp only[Cz,Bool.and_eq_true,beq_iff_eq] at hfl
   split at hv
   ·rename_i b hc
    cases hv
    have hu:=src_rel hg ht hx h1
    have hv':=src_rel hg ht hy h2
    refine⟨_,rfl,fun w=>?_⟩
    obtain⟨heq,hcase⟩:=equal_cells hk hls hu hv' hus hvs hfl.1 hfl.2 hc w
    rcases hcase with ⟨rfl,d,hd,ha⟩ | ⟨xs,ys,ex,ey⟩
    ·have hfu:u.flat=true:=hfl.1
     have hfv:u'.flat=true:=hfl.2
     have e1:=flat_cells hfu hus
     have e2:=flat_cells hfv hvs
     subst e1 e2
     rcases cmp_scalar_kind hfu hu hv' hfv hc with ⟨k,m,k',m',ex,ey,rfl,rfl⟩ | ⟨m,m',ex,ey,rfl⟩ | ⟨m,m',ex,ey,rfl⟩
     ·cases neg<;>subst hop<;>simp[execOp,ex,ey,eqGuard_at_int,binOp_eql,binOp_neq]
      rfl
     ·rw[ex,ey] at heq
      cases neg<;>subst hop<;>simp[execOp,ex,ey,eqGuard_at_bool,binOp,heq]
     ·cases neg<;>subst hop<;>simp[execOp,ex,ey,eqGuard_at_string,binOp,Op.stringOp,beq_toListBytes]
    ·rw[ex,ey] at heq
     cases neg<;>subst hop<;>simp[execOp,ex,ey,run_eqGuard_agg w _ _ _ _ _ _ hgd,binOp,heq]
   ·cases hv
  ·cases hv
 ·cases hv
theorem snd_s2ap {A:TypeId} {x:Operand} {sx:S} {m:Nat} {e:TypeId} (hA:P.underlying A=some (.array m e)) (hx:src P x=some sx):SndP P ⟨dst,.sliceToArrayPointer A x,ty,pos,after,guard⟩ (s2apF m sx):=by
 intro n ρ t a v hg ht hv
 unfold s2apF at hv
 split at hv
 ·rename_i p len cap loose h1
  cases hb:Nat.ble m len with
  | false=>rw[hb] at hv;cases hv
  | true=>
   rw[hb] at hv
   cases hv
   have hb':=ble_iff.1 hb
   have hr:=src_rel hg ht hx h1
   obtain⟨l,c,hl,he,_⟩:=hr
   exact⟨_,⟨l,hl,rfl⟩,fun w=>by simp[execOp,he,Instr.arrayAt,run_underlying hA,show ¬ (len < m) by omega]⟩
 ·cases hv
theorem bound_some {y:Nat} {v:V} {m:Nat} (h:bound y v=some m):∃ k,v=.int k (.ofNat m)∧m≤y:=by
 unfold bound at h
 split at h
 ·rename_i j hj
  obtain⟨k,rfl⟩:=asNat_some hj
  cases hb:Nat.ble j y with
  | false=>rw[hb] at h;cases h
  | true=>rw[hb] at h;cases h;exact⟨k,rfl,ble_iff.1 hb⟩
 ·cases h
theorem sliceBound_run {k:IntKind} {m y:Nat} (code:BoundsCode) (h:m≤y) (w:World):(Instr.sliceBound (.int k (m:Int)) y code).run P w=.ok m w:=by
 have:(m:Int)≤(y:Int):=by omega
 simp[Instr.sliceBound,asIntOf,this]
def optRel (ρ:Emb) (v:Option V) (x:Option Value):Prop:=(v=none∧x=none)∨∃ u y,v=some u∧x=some y∧VRel ρ u y
def capOf (mx:Option V) (m cap':Nat):Nat:=
 match mx with
 | some _=>m
 | none=>cap'
theorem boundD_run {ρ:Emb} {v:Option V} {x:Option Value} {y d m y':Nat} (h:optRel ρ v x) (hb:boundD y d v=some m) (hy:y≤y') (code:BoundsCode) (w:World) :
  (match x with | some v=>Instr.sliceBound v y' code | none=>pure d:Sem Nat).run P w=.ok m w∧(m≤y∨(v=none∧m=d)):=by
 rcases h with ⟨rfl,rfl⟩ | ⟨u,z,rfl,rfl,hr⟩
 ·simp only[boundD] at hb;cases hb;exact⟨rfl,.inr ⟨rfl,rfl⟩⟩
 ·simp only[boundD] at hb
  obtain⟨k,rfl,hle⟩:=bound_some hb
  have hr:z=_:=hr
  subst hr
  exact⟨sliceBound_run code (by omega) w,.inl hle⟩
theorem bounds_run {ρ:Emb} {isSlice:Bool} {len cap cap':Nat} {lo hi mx:Option V} {xlo xhi xmx:Option Value} {l h m:Nat} (h1:optRel ρ lo xlo) (h2:optRel ρ hi xhi) (h3:optRel ρ mx xmx) (hb:bounds len cap lo hi mx=some (l,h,m))
  (hcap:cap≤cap') (hmx:mx=none∨cap'=cap) (w:World) :
  (Instr.sliceBounds isSlice len cap' xlo xhi xmx).run P w=.ok (l,h,capOf mx m cap') w∧l≤h∧(h≤m∨(hi=none∧h=len))∧m≤cap∧(mx=none→m=cap):=by
 unfold bounds at hb
 split at hb
 ·cases hb
 ·rename_i hno
  split at hb
  ·rename_i m' hm
   split at hb
   ·rename_i h' hh
    split at hb
    ·rename_i l' hl
     cases hb
     have hlh:l≤h:=by
      rcases(boundD_run (P:=P) h1 hl (Nat.le_refl h) .sliceB w).2 with h' | ⟨_,h'⟩<;>omega
     have hhm:h≤m∨(hi=none∧h=len):=(boundD_run (P:=P) h2 hh (Nat.le_refl m) .sliceB w).2
     have hmc:m≤cap:=by
      rcases(boundD_run (P:=P) h3 hm (Nat.le_refl cap) .sliceB w).2 with h' | ⟨_,h'⟩<;>omega
     refine⟨?_,hlh,hhm,hmc,fun e=>by subst e;simp only[boundD] at hm;cases hm;rfl⟩
     rcases h3 with ⟨rfl,rfl⟩ | ⟨u,y,rfl,rfl,hr⟩
     ·simp only[boundD] at hm
      cases hm
      have e1:=(boundD_run (P:=P) h1 hl (Nat.le_refl h) .sliceB w).1
      rcases h2 with ⟨rfl,rfl⟩ | ⟨u2,y2,rfl,rfl,hr2⟩
      ·simp only[boundD] at hh
       cases hh
       cases xlo<;>(simp only at e1;simp[Instr.sliceBounds,e1,capOf];try (simp at e1;exact e1))
      ·have e2:=(boundD_run (P:=P) (.inr ⟨u2,y2,rfl,rfl,hr2⟩) hh hcap (if isSlice=true then BoundsCode.sliceAcap else BoundsCode.sliceAlen) w).1
       simp only at e2
       cases xlo<;>(simp only at e1;simp[Instr.sliceBounds,e1,e2,capOf];try (simp at e1;exact e1))
     ·rcases hmx with h | rfl
      ·cases h
      have e1:=(boundD_run (P:=P) h1 hl (Nat.le_refl h) .slice3C w).1
      have e3:=(boundD_run (P:=P) (.inr ⟨u,y,rfl,rfl,hr⟩) hm (Nat.le_refl cap') (if isSlice=true then BoundsCode.slice3Acap else BoundsCode.slice3Alen) w).1
      simp only at e3
      rcases h2 with ⟨rfl,rfl⟩ | ⟨u2,y2,rfl,rfl,hr2⟩
      ·exact absurd rfl (hno _ rfl)
      ·have e2:=(boundD_run (P:=P) (.inr ⟨u2,y2,rfl,rfl,hr2⟩) hh (Nat.le_refl m) BoundsCode.slice3B w).1
       simp only at e2
       cases xlo<;>(simp only at e1;simp[Instr.sliceBounds,e1,e2,e3,capOf];try (simp at e1;exact e1))
    ·cases hb
   ·cases hb
  ·cases hb
theorem osrc_opt {n:Nat} {ρ:Emb} {t:T} {a:Act} (hg:GRel P ρ) (ht:TRel n ρ t a) {x:Option Operand} {s:Option S} {v:Option V} (h:osrc P x=some s) (hv:oget t s=some v):optRel ρ v (x.map a.eval):=osrc_rel hg ht h hv
theorem snd_slice {T':TypeId} {x:Operand} {lo hi mx:Option Operand} {sx:S} {slo shi smx:Option S} {e:TypeId} {sz:Nat} (hT:P.underlying T'=some (.slice e)) (hsz:sizeT P e=some sz) (hx:src P x=some sx) (hlo:osrc P lo=some slo) (hhi:osrc P hi=some shi) (hmx:osrc P mx=some smx) :
  SndP P ⟨dst,.slice T' x lo hi mx,ty,pos,after,guard⟩ (sliceF sz sx slo shi smx):=by
 intro n ρ t a v hg ht hv
 unfold sliceF at hv
 split at hv
 ·rename_i p len cap loose vlo vhi vmx h1 h2 h3 h4
  have hr:=src_rel hg ht hx h1
  have r2:=osrc_opt hg ht hlo h2
  have r3:=osrc_opt hg ht hhi h3
  have r4:=osrc_opt hg ht hmx h4
  cases hl0:loose.beq 0 with
  | false=>
   rw[hl0] at hv
   have hl0':=beq_false.1 hl0
   simp only at hv
   cases vmx with
   | some _=>cases hv
   | none=>
    simp only at hv
    split at hv
    ·rename_i l h m hb
     cases hc:Nat.ble (Nat.succ l) m&&loose.beq sz with
     | false=>
      rw[hc] at hv
      simp only at hv
      split at hv
      ·rename_i p hml
       cases hv
       simp only[Bool.and_eq_true] at hml
       have hh:=beq_iff.1 hml.2
       have hml:=beq_iff.1 hml.1
       subst hml hh
       obtain⟨lc,cap',hl,he,_,hroom⟩:=hr
       obtain⟨hle,hroom⟩:=hroom hl0'
       have hb':=fun w=>bounds_run (P:=P) (isSlice:=true) (cap':=cap') r2 r3 r4 hb hle (.inl rfl) w
       obtain⟨_,hlh,hhm,hmc,hmm⟩:=hb' default
       have hmm:=hmm rfl
       subst hmm
       have hw:=fun w=>(hb' w).1
       by_cases hne:cap'=h
       ·subst hne
        refine⟨.slice (some (at' lc p.o)) 0 0,⟨rfl,rfl,.inr ⟨by decide,_,_,rfl⟩⟩,fun w=>?_⟩
        simp[execOp,he,Instr.sliceAt,run_underlying hT,Instr.slice,hw,run_sizeOf hsz,capOf]
       ·refine⟨.slice (some (at' lc (p.o+h*sz))) 0 (cap' - h),⟨rfl,rfl,.inr ⟨by decide,_,_,rfl⟩⟩,fun w=>?_⟩
        simp[execOp,he,Instr.sliceAt,run_underlying hT,Instr.slice,hw,run_sizeOf hsz,hne,at'_add,capOf]
      ·cases hv
     | true=>
      rw[hc] at hv
      cases hv
      simp only[Bool.and_eq_true] at hc
      have hlm:l < m:=ble_iff.1 hc.1
      have hls:=beq_iff.1 hc.2
      cases p with
      | none=>
       obtain⟨_,rfl,_⟩:=hr
       exfalso
       have hm:m≤0:=by
        unfold bounds at hb
        split at hb
        ·cases hb
        ·simp only[boundD] at hb
         repeat' split at hb
         all_goals first | cases hb | skip
         all_goals omega
       omega
      | some p=>
       obtain⟨lc,cap',hl,he,_,hroom⟩:=hr
       obtain⟨hle,hroom⟩:=hroom hl0'
       have hb':=fun w=>bounds_run (P:=P) (isSlice:=true) (cap':=cap') r2 r3 r4 hb hle (.inl rfl) w
       obtain⟨_,hlh,hhm,hmc,hmm⟩:=hb' default
       have hmm:=hmm rfl
       subst hmm
       refine⟨.slice (some (at' lc (p.o+l*sz))) (h - l) (cap' - l),⟨lc,cap' - l,hl,rfl,fun h=>absurd h hl0',fun _=>⟨Nat.sub_le_sub_right hle l,?_⟩⟩,fun w=>?_⟩
       ·subst hls
        simp only[B7,B8]
        have:l*loose+(cap' - l)*loose=cap'*loose:=by rw[← Nat.add_mul,Nat.add_sub_cancel' (by omega)]
        omega
       ·have:=(hb' w).1
        have hne:¬ (cap'=l):=by omega
        simp[execOp,he,Instr.sliceAt,run_underlying hT,Instr.slice,this,run_sizeOf hsz,hne,at'_add,capOf]
    ·cases hv
  | true=>
   rw[hl0] at hv
   have hl0':=beq_iff.1 hl0
   subst hl0'
   simp only at hv
   split at hv
   ·rename_i l h m hb
    cases hv
    cases p with
    | none=>
     obtain⟨rfl,rfl,⟨_,he⟩ | ⟨h,_⟩⟩:=hr
     rotate_left
     ·exact absurd rfl h
     have hb':=fun w=>bounds_run (P:=P) (isSlice:=true) (cap':=0) r2 r3 r4 hb (Nat.le_refl _) (.inr rfl) w
     obtain⟨_,hlh,hhm,hmc,hmm⟩:=hb' default
     have hm0:m=0:=by omega
     have hh0:h=0:=by rcases hhm with h' | ⟨_,h'⟩<;>omega
     have hl0:l=0:=by omega
     subst hm0 hh0 hl0
     refine⟨.slice none 0 0,⟨rfl,rfl,.inl ⟨rfl,rfl⟩⟩,fun w=>?_⟩
     have hw:=(hb' w).1
     have e:capOf vmx 0 0=0:=by cases vmx<;>rfl
     rw[e] at hw
     simp[execOp,he,Instr.sliceAt,run_underlying hT,Instr.slice,hw,run_sizeOf hsz]
    | some p=>
     obtain⟨lc,cap',hl,he,hcap,_⟩:=hr
     have hcap:=hcap rfl
     subst hcap
     have hb':=fun w=>bounds_run (P:=P) (isSlice:=true) (cap':=cap') r2 r3 r4 hb (Nat.le_refl _) (.inr rfl) w
     obtain⟨_,hlh,hhm,hmc,hmm⟩:=hb' default
     have e:capOf vmx m cap'=m:=by
      cases vmx with
      | none=>exact(hmm rfl).symm
      | some _=>rfl
     cases hml:m.beq l with
     | true=>
      have:=beq_iff.1 hml
      subst this
      refine⟨.slice (some (at' lc p.o)) (h - m) (m - m),⟨lc,_,hl,rfl,fun _=>rfl,fun h=>absurd rfl h⟩,fun w=>?_⟩
      have hw:=(hb' w).1
      rw[e] at hw
      simp[execOp,he,Instr.sliceAt,run_underlying hT,Instr.slice,hw,run_sizeOf hsz]
     | false=>
      have:=beq_false.1 hml
      refine⟨.slice (some (at' lc (p.o+l*sz))) (h - l) (m - l),⟨lc,_,hl,rfl,fun _=>rfl,fun h=>absurd rfl h⟩,fun w=>?_⟩
      have hw:=(hb' w).1
      rw[e] at hw
      simp[execOp,he,Instr.sliceAt,run_underlying hT,Instr.slice,hw,run_sizeOf hsz,this,at'_add]
   ·cases hv
 ·cases hv
theorem snd_sliceA {T':TypeId} {x:Operand} {lo hi mx:Option Operand} {sx:S} {slo shi smx:Option S} {e A:TypeId} {m0 sz:Nat} (hT:P.underlying T'=some (.array m0 e)∨(P.underlying T'=some (.pointer A)∧P.underlying A=some (.array m0 e))) (hsz:sizeT P e=some sz) (hx:src P x=some sx) (hlo:osrc P lo=some slo) (hhi:osrc P hi=some shi) (hmx:osrc P mx=some smx) :
  SndP P ⟨dst,.slice T' x lo hi mx,ty,pos,after,guard⟩ (sliceAF m0 sz sx slo shi smx):=by
 intro n ρ t a v hg ht hv
 unfold sliceAF at hv
 split at hv
 ·rename_i p vlo vhi vmx h1 h2 h3 h4
  obtain⟨lc,hl,he⟩:=src_rel hg ht hx h1
  have r2:=osrc_opt hg ht hlo h2
  have r3:=osrc_opt hg ht hhi h3
  have r4:=osrc_opt hg ht hmx h4
  split at hv
  ·rename_i l h m hb
   cases hv
   have hb':=fun w=>bounds_run (P:=P) (isSlice:=false) (cap':=m0) r2 r3 r4 hb (Nat.le_refl _) (.inr rfl) w
   obtain⟨_,hlh,hhm,hmc,hmm⟩:=hb' default
   have e:capOf vmx m m0=m:=by
    cases vmx with
    | none=>exact(hmm rfl).symm
    | some _=>rfl
   have hw:=fun w=>(hb' w).1
   rw[e] at hw
   cases hml:m.beq l with
   | true=>
    have:=beq_iff.1 hml
    subst this
    refine⟨.slice (some (at' lc p.o)) (h - m) (m - m),⟨lc,_,hl,rfl,fun _=>rfl,fun h=>absurd rfl h⟩,fun w=>?_⟩
    rcases hT with hT | ⟨hT,hA⟩
    ·simp[execOp,he,Instr.sliceAt,run_underlying hT,Instr.sureAddr,hw,run_sizeOf hsz]
    ·simp[execOp,he,Instr.sliceAt,Instr.slice,run_underlying hT,run_underlying hA,asAddr,hw,run_sizeOf hsz]
   | false=>
    have:=beq_false.1 hml
    refine⟨.slice (some (at' lc (p.o+l*sz))) (h - l) (m - l),⟨lc,_,hl,rfl,fun _=>rfl,fun h=>absurd rfl h⟩,fun w=>?_⟩
    rcases hT with hT | ⟨hT,hA⟩
    ·simp[execOp,he,Instr.sliceAt,run_underlying hT,Instr.sureAddr,hw,run_sizeOf hsz,this,at'_add]
    ·simp[execOp,he,Instr.sliceAt,Instr.slice,run_underlying hT,run_underlying hA,asAddr,hw,run_sizeOf hsz,this,at'_add]
  ·cases hv
 ·cases hv
theorem unc_val {ρ:Emb} {t:TypeId} {k:TK} {cs:List V} {v:V} {xs:List Value} (hk:tkT P t=some k) (h:unc k cs=some v) (hr:CRel ρ cs xs) :
  ∃ d,P.underlying t=some d∧((aggD d=false∧∃ x,xs=[x]∧VRel ρ v x)∨(aggD d=true∧VRel ρ v (.agg xs.toArray))):=by
 obtain⟨d,hd,hdk⟩:=tkT_some hk
 refine⟨d,hd,?_⟩
 rcases unc_rel h hr with ⟨hk,x,hx,hr'⟩ | ⟨hk,hr'⟩
 ·rcases hdk with ⟨_,ha⟩ | ⟨hk',_⟩
  ·exact .inl ⟨ha,x,hx,hr'⟩
  ·exact absurd hk hk'
 ·rcases hdk with ⟨hk',_⟩ | ⟨_,ha⟩
  ·exact absurd hk' hk
  ·exact .inr ⟨ha,hr'⟩
theorem packZ_sc {ρ:Emb} {v:Value} {vs:List Value} {o:Option (List V)} {cs:List V} (h:(match ofSc v with | some x=>o.map (x::·) | none=>none)=some cs) (ih:∀ ds,o=some ds→CRel ρ ds vs):CRel ρ cs (v::vs):=by
 cases hv:ofSc v with
 | none=>rw[hv] at h;cases h
 | some x=>
  rw[hv] at h
  cases ho:o with
  | none=>simp only[ho] at h;cases h
  | some ds=>
   simp only[ho] at h
   cases h
   exact CRel.cons_flat (ofSc_flat hv) (ofSc_rel hv) (ih ds ho)
theorem packZ_rel {ρ:Emb}:∀(ls:List CK) (vs:List Value) (cs:List V),packZ ls vs=some cs→CRel ρ cs vs
 | [],[],cs,h=>by simp only[packZ] at h;cases h;rfl
 | .blk::ls,vs,cs,h=>by
  simp only[packZ] at h
  split at h
  ·rename_i hc
   simp only[Bool.and_eq_true] at hc
   have hl:=beq_iff.1 hc.1
   cases hp:packZ ls (vs.drop 64) with
   | none=>rw[hp] at h;cases h
   | some ds=>
    rw[hp] at h
    cases h
    have ih:=packZ_rel (ρ:=ρ) ls (vs.drop 64) ds hp
    have hz:vs.take 64=blkV 0:=by
     apply List.ext_getElem?
     intro i
     rw[blkV,bytesV_get]
     by_cases hi:i < 64
     ·rw[if_pos hi]
      have hlt:i < (vs.take 64).length:=by omega
      have hall:=List.all_eq_true.1 hc.2 ((vs.take 64)[i]) (List.getElem_mem hlt)
      rw[List.getElem?_eq_getElem hlt]
      have:(vs.take 64)[i]=.int .u8 0:=by
       unfold zeroByte at hall
       split at hall
       ·assumption
       ·cases hall
      rw[this]
      have e0:byte 0 (0+i)=0:=by rw[byte_eq];simp
      rw[e0];rfl
     ·rw[if_neg hi,List.getElem?_eq_none (by omega)]
    rw[← List.take_append_drop 64 vs,hz]
    exact CRel.cons_blk (by decide) ih
  ·cases h
 | .int k::ls,v::vs,cs,h=>packZ_sc (o:=packZ ls vs) h (fun ds hd=>packZ_rel ls vs ds hd)
 | .bool::ls,v::vs,cs,h=>packZ_sc (o:=packZ ls vs) h (fun ds hd=>packZ_rel ls vs ds hd)
 | .str::ls,v::vs,cs,h=>packZ_sc (o:=packZ ls vs) h (fun ds hd=>packZ_rel ls vs ds hd)
 | .other::ls,v::vs,cs,h=>packZ_sc (o:=packZ ls vs) h (fun ds hd=>packZ_rel ls vs ds hd)
 | [],v::vs,cs,h=>by simp only[packZ] at h;cases h
 | .int k::ls,[],cs,h=>by simp only[packZ] at h;cases h
 | .bool::ls,[],cs,h=>by simp only[packZ] at h;cases h
 | .str::ls,[],cs,h=>by simp only[packZ] at h;cases h
 | .other::ls,[],cs,h=>by simp only[packZ] at h;cases h
theorem zeroC_some {t:TypeId} {cs:List V} (h:zeroC P t=some cs):∃ i z,P.info? t=some i∧i.zero=some z∧width cs=i.size∧∀ ρ,CRel ρ cs z.cells.toList:=by
 unfold zeroC at h
 split at h
 ·rename_i i hi
  split at h
  ·rename_i z l hz hl
   split at h
   ·rename_i ds hp
    cases hw:(width ds).beq i.size with
    | false=>rw[hw] at h;cases h
    | true=>rw[hw] at h;cases h;exact⟨i,z,hi,hz,beq_iff.1 hw,fun ρ=>packZ_rel _ _ _ hp⟩
   ·cases h
  ·cases h
 ·cases h
theorem run_zeroValue {t:TypeId} {i:TypeInfo} {z:Value} (hi:P.info? t=some i) (hz:i.zero=some z) (w:World):(zeroValue t).run P w=.ok z w:=by
 simp[zeroValue,typeInfo,hi,hz]
theorem foldl_over (off:Nat):∀(ys:List Value) (k:Nat) (cs:Array Value),off+k+ys.length≤cs.size →
  ((ys.zipIdx k).foldl (fun cs (p:Value × Nat)=>cs.setIfInBounds (off+p.2) p.1) cs).toList=over cs.toList (off+k) ys
 | [],k,cs,_=>by simp[over_nil]
 | y::ys,k,cs,h=>by
  simp only[List.length_cons] at h
  rw[List.zipIdx_cons,List.foldl_cons,foldl_over off ys (k+1) _ (by simp;omega)]
  apply List.ext_getElem?
  intro i
  rw[over_get _ _ _ (by simp;omega),over_get _ _ _ (by simp;omega)]
  simp only[Array.toList_setIfInBounds,List.getElem?_set,List.length_cons,Array.length_toList]
  by_cases h1:i=off+k
  ·subst h1
   have c1:¬ (off+(k+1)≤off+k∧off+k < off+(k+1)+ys.length):=by omega
   have c2:off+k≤off+k∧off+k < off+k+(ys.length+1):=by omega
   have c3:off+k < cs.size:=by omega
   rw[if_neg c1,if_pos rfl,if_pos c3,if_pos c2]
   simp
  ·by_cases h2:off+(k+1)≤i∧i < off+(k+1)+ys.length
   ·have c2:off+k≤i∧i < off+k+(ys.length+1):=by omega
    rw[if_pos h2,if_pos c2,show i - (off+k)=(i - (off+(k+1)))+1 by omega,List.getElem?_cons_succ]
   ·have c2:¬ (off+k≤i∧i < off+k+(ys.length+1)):=by omega
    rw[if_neg h2,if_neg (fun e=>h1 e.symm),if_neg c2]
def PartsOk (P:Program) (place:Nat→Option (Nat × Nat)):List (Nat × Operand)→List (Nat × Nat × S)→Prop
 | [],[]=>True
 | (i,x)::ps,(off,sz,s)::qs=>place i=some (off,sz)∧src P x=some s∧PartsOk P place ps qs
 | _,_=>False
theorem fill_run {n:Nat} {ρ:Emb} {t:T} {a:Act} {place:Nat→Option (Nat × Nat)} (hg:GRel P ρ) (ht:TRel n ρ t a):∀(ps:List (Nat × Operand)) (qs:List (Nat × Nat × S)) (cs ds:List V) (xs:Array Value),
  PartsOk P place ps qs→CRel ρ cs xs.toList→fill t qs cs=some ds→∃ ys:Array Value,Instr.fill place xs (ps.map fun p=>(p.1,a.eval p.2))=some ys∧CRel ρ ds ys.toList
 | [],[],cs,ds,xs,_,hr,h=>by simp only[fill] at h;cases h;exact⟨xs,rfl,hr⟩
 | (i,x)::ps,(off,sz,s)::qs,cs,ds,xs,hp,hr,h=>by
  obtain⟨h1,h2,h3⟩:=hp
  simp only[fill] at h
  split at h
  ·rename_i v hv
   split at h
   ·rename_i vs hvs
    split at h
    ·rename_i hw
     simp only[Bool.and_eq_true] at hw
     have hw':=beq_iff.1 hw.1
     have hw1:=ble_iff.1 hw.2
     split at h
     ·rename_i cs' hput
      have hrv:=src_rel hg ht h2 hv
      have hcv:=cells_rel hvs hrv
      obtain⟨k1,k2⟩:=put_rel cs xs.toList off vs _ cs' hr hcv hput
      have hlen:(a.eval x).cells.size=sz:=by have:=hcv.length;rw[Array.length_toList] at this;omega
      have hle:off+(a.eval x).cells.size≤xs.size:=by
       rcases k2 with rfl | k2
       ·simp only[width] at hw';omega
       ·simpa using k2
      have hfold:=foldl_over off (a.eval x).cells.toList 0 xs (by simpa using hle)
      obtain⟨ys,hys,hry⟩:=fill_run hg ht ps qs cs' ds (((a.eval x).cells.toList.zipIdx).foldl (fun cs (p:Value × Nat)=>cs.setIfInBounds (off+p.2) p.1) xs) h3 (by rw[hfold];exact k1) h
      refine⟨ys,?_,hry⟩
      simp only[List.map_cons,Instr.fill,h1]
      have hno:(decide ((a.eval x).cells.size≠sz) || decide (off+(a.eval x).cells.size > xs.size))=false:=by
       rw[decide_eq_false (by omega),decide_eq_false (by omega)];rfl
      rw[hno,if_neg (by decide)]
      have e:(a.eval x).cells.zipIdx.foldl (fun cs (p:Value × Nat)=>cs.setIfInBounds (off+p.2) p.1) xs=((a.eval x).cells.toList.zipIdx).foldl (fun cs (p:Value × Nat)=>cs.setIfInBounds (off+p.2) p.1) xs:=by
       rw[← Array.foldl_toList,Array.toList_zipIdx]
      rw[e]
      exact hys
     ·cases h
    ·cases h
   ·cases h
  ·cases h
 | [],_::_,_,_,_,hp,_,_=>hp.elim
 | _::_,[],_,_,_,hp,_,_=>hp.elim
theorem mapM_get {α β:Type} {f:α→Option β}:∀ {l:List α} {ys:List β} {i:Nat} {x:α},l.mapM f=some ys→l[i]?=some x→∃ y,ys[i]?=some y∧f x=some y
 | [],ys,i,x,h,hx=>by simp at hx
 | a::l,ys,i,x,h,hx=>by
  simp only[List.mapM_cons,Option.bind_eq_bind,Option.pure_def] at h
  cases ha:f a with
  | none=>simp[ha] at h
  | some b=>
   cases hl:l.mapM f with
   | none=>simp[ha,hl] at h
   | some bs=>
    simp[ha,hl] at h
    subst h
    cases i with
    | zero=>simp at hx;subst hx;exact⟨b,rfl,ha⟩
    | succ i=>simp at hx;obtain⟨y,hy,hf⟩:=mapM_get hl hx;exact⟨y,by simpa using hy,hf⟩
theorem mapM_all {α β:Type} {f:α→Option β}:∀ {l:List α},(∀ x ∈ l,(f x).isSome=true)→∃ ys,l.mapM f=some ys
 | [],_=>⟨[],rfl⟩
 | a::l,h=>by
  obtain⟨b,hb⟩:=Option.isSome_iff_exists.1 (h a (List.mem_cons_self ..))
  obtain⟨bs,hbs⟩:=mapM_all (f:=f) (l:=l) (fun x hx=>h x (List.mem_cons_of_mem _ hx))
  exact⟨b::bs,by simp[hb,hbs]⟩
theorem partsS_ok {t:TypeId} {fs:Array Field} {places:List (Nat × Nat)} (hu:P.underlying t=some (.struct fs)) (hm:fs.toList.mapM (fun f=>(P.info? f.type).map fun i=>(f.offset,i.size))=some places) :
  ∀ {ps:List (Nat × Operand)} {qs:List (Nat × Nat × S)},partsS P t ps=some qs→PartsOk P (places.toArray[·]?) ps qs
 | [],qs,h=>by simp only[partsS] at h;cases h;trivial
 | (i,x)::ps,qs,h=>by
  simp only[partsS] at h
  split at h
  ·rename_i f s hf hs
   split at h
   ·rename_i sz hsz
    cases hr:partsS P t ps with
    | none=>rw[hr] at h;cases h
    | some rs=>
     rw[hr] at h
     cases h
     obtain⟨fs',hfs',hfi⟩:=structF_some hf
     rw[hu] at hfs'
     cases hfs'
     obtain⟨y,hy,hyf⟩:=mapM_get hm (i:=i) (x:=f) (by simpa using hfi)
     obtain⟨ii,hii,hsz'⟩:=sizeT_some hsz
     refine⟨?_,hs,partsS_ok hu hm hr⟩
     rw[hii] at hyf
     simp only[Option.map_some,Option.some.injEq] at hyf
     subst hyf
     simpa [hsz'] using hy
   ·cases h
  ·cases h
theorem partsA_ok {sz mul:Nat}:∀ {ps:List (Nat × Operand)} {qs:List (Nat × Nat × S)},partsA P sz mul ps=some qs→PartsOk P (fun i=>some (i*mul,sz)) ps qs
 | [],qs,h=>by simp only[partsA] at h;cases h;trivial
 | (i,x)::ps,qs,h=>by
  simp only[partsA] at h
  split at h
  ·rename_i s hs
   cases hr:partsA P sz mul ps with
   | none=>rw[hr] at h;cases h
   | some rs=>rw[hr] at h;cases h;exact⟨rfl,hs,partsA_ok hr⟩
  ·cases h
theorem snd_buildWith {t:TypeId} {ps:Array (Nat × Operand)} {z:List V} {k:TK} {qs:List (Nat × Nat × S)} {place:Nat→Option (Nat × Nat)} (hz:zeroC P t=some z) (hk:tkT P t=some k) (hd:∃ d,P.underlying t=some d∧aggD d=true) (hp:PartsOk P place ps.toList qs)
  (hb:∀ l c,(∀ i zz,P.info? t=some i→i.zero=some zz→Instr.fill place zz.cells l=some c)→P.built t l=some c):SndP P ⟨dst,.build t ps,ty,pos,after,guard⟩ (buildF z k qs):=by
 intro n ρ t' a v hg ht hv
 unfold buildF at hv
 cases hf:fill t' qs z with
 | none=>rw[hf] at hv;cases hv
 | some ds=>
  rw[hf] at hv
  obtain⟨i,zz,hi,hzz,_,hrel⟩:=zeroC_some hz
  obtain⟨ys,hys,hry⟩:=fill_run hg ht ps.toList qs z ds zz.cells hp (hrel ρ) hf
  obtain⟨d,hd1,hcase⟩:=unc_val hk hv hry
  obtain⟨d',hd',hagg⟩:=hd
  have e:d=d':=Option.some.inj (hd1.symm.trans hd')
  subst e
  rcases hcase with ⟨hno,_⟩ | ⟨_,hr⟩
  ·rw[hno] at hagg;cases hagg
  ·refine⟨.agg ys,by simpa using hr,fun w=>?_⟩
   have hbt:P.built t (ps.map fun(i,x)=>(i,a.eval x)).toList=some ys:=by
    apply hb
    intro i' zz' hi' hzz'
    rw[hi] at hi'
    cases hi'
    rw[hzz] at hzz'
    cases hzz'
    simpa using hys
   simp[execOp,run_build w t _ _ hbt]
theorem snd_buildS {t:TypeId} {ps:Array (Nat × Operand)} {z:List V} {k:TK} {qs:List (Nat × Nat × S)} {fs:Array Field} (hz:zeroC P t=some z) (hu:P.underlying t=some (.struct fs)) (hk:tkT P t=some k) (hall:(fs.toList.all fun f=>(P.info? f.type).isSome)=true) (hq:partsS P t ps.toList=some qs) :
  SndP P ⟨dst,.build t ps,ty,pos,after,guard⟩ (buildF z k qs):=by
 obtain⟨places,hm⟩:=mapM_all (f:=fun f:Field=>(P.info? f.type).map fun i=>(f.offset,i.size)) (l:=fs.toList) (fun x hx=>by
  have:=List.all_eq_true.1 hall x hx
  simpa using this)
 obtain⟨i,zz,hi,hzz,_,_⟩:=zeroC_some hz
 refine snd_buildWith hz hk ⟨_,hu,rfl⟩ (partsS_ok hu hm hq) (fun l c h=>?_)
 simp only[Program.built,hi,hu,hzz,hm]
 exact h i zz hi hzz
theorem snd_buildA {t e:TypeId} {m:Nat} {ps:Array (Nat × Operand)} {z:List V} {k:TK} {qs:List (Nat × Nat × S)} {sz:Nat} (hz:zeroC P t=some z) (hu:P.underlying t=some (.array m e)) (hk:tkT P t=some k) (hsz:sizeT P e=some sz) (hq:partsA P sz sz ps.toList=some qs) :
  SndP P ⟨dst,.build t ps,ty,pos,after,guard⟩ (buildF z k qs):=by
 obtain⟨i,zz,hi,hzz,_,_⟩:=zeroC_some hz
 obtain⟨ie,hie,rfl⟩:=sizeT_some hsz
 refine snd_buildWith hz hk ⟨_,hu,rfl⟩ (partsA_ok hq) (fun l c h=>?_)
 simp only[Program.built,hi,hu,hzz,hie]
 exact h i zz hi hzz
theorem run_callB {b:Builtin} {at':Array TypeId} {xs:Array Operand} {a:Act} {w:World} {v:Value} (h:(builtin b at' ty (xs.map fun | .const _=>true | _=>false) (xs.map a.eval)).run P w=.ok (.value v) w) :
  (execOp a.eval ⟨dst,.call ⟨.builtin b,xs,at'⟩,ty,pos,after,guard⟩).run P w=.ok (.value v) w:=by
 simp[execOp,resolve,invoke]
 exact h
theorem snd_len {t:TypeId} {x:Operand} {sx:S} {e:TypeId} (hu:P.underlying t=some (.slice e)) (hx:src P x=some sx):SndP P ⟨dst,.call ⟨.builtin .len,#[x],#[t]⟩,ty,pos,after,guard⟩ (lenF sx):=by
 intro n ρ t' a v hg ht hv
 unfold lenF at hv
 split at hv
 ·rename_i p len cap loose h1
  cases hv
  have hr:=src_rel hg ht hx h1
  refine⟨_,rfl,fun w=>run_callB ?_⟩
  cases p with
  | none=>obtain⟨rfl,_,⟨_,he⟩ | ⟨_,q,c,he⟩⟩:=hr<;>simp[builtin,Builtin.len_,run_underlying hu,he,goInt]
  | some p=>obtain⟨l,c,hl,he,_⟩:=hr;simp[builtin,Builtin.len_,run_underlying hu,he,goInt]
 ·cases hv
theorem snd_lenC {t:TypeId} {x:Operand} {m:Nat} {d:TypeDesc} (hu:P.underlying t=some d) (hd:(∃ e,d=.array m e)∨∃ A e,d=.pointer A∧P.underlying A=some (.array m e)) (hx:∃ sx,src P x=some sx):SndP P ⟨dst,.call ⟨.builtin .len,#[x],#[t]⟩,ty,pos,after,guard⟩ (fun _=>some (.int .i64 (.ofNat m))):=by
 intro n ρ t' a v hg ht hv
 cases hv
 refine⟨_,rfl,fun w=>run_callB ?_⟩
 rcases hd with ⟨e,rfl⟩ | ⟨A,e,rfl,hA⟩
 ·simp[builtin,Builtin.len_,run_underlying hu,goInt]
 ·simp[builtin,Builtin.len_,run_underlying hu,run_underlying hA,goInt]
theorem snd_cap {t:TypeId} {x:Operand} {sx:S} {e:TypeId} (hu:P.underlying t=some (.slice e)) (hx:src P x=some sx):SndP P ⟨dst,.call ⟨.builtin .cap,#[x],#[t]⟩,ty,pos,after,guard⟩ (capF sx):=by
 intro n ρ t' a v hg ht hv
 unfold capF at hv
 split at hv
 ·rename_i p len cap h1
  cases hv
  have hr:=src_rel hg ht hx h1
  refine⟨_,rfl,fun w=>run_callB ?_⟩
  cases p with
  | none=>obtain⟨_,rfl,⟨_,he⟩ | ⟨h,_⟩⟩:=hr;simp[builtin,Builtin.cap_,run_underlying hu,he,goInt];exact absurd rfl h
  | some p=>obtain⟨l,c,hl,he,h0,_⟩:=hr;have:=h0 rfl;subst this;simp[builtin,Builtin.cap_,run_underlying hu,he,goInt]
 ·cases hv
theorem foldV_run {ρ:Emb} {f:V→V→Option V} {g:Value→Value→Sem Value} (hf:∀ u v x y z,VRel ρ u x→VRel ρ v y→f u v=some z→∃ z',VRel ρ z z'∧∀ w,(g x y).run P w=.ok z' w) :
  ∀(vs:List V) (xs:List Value) (u:V) (x:Value) (z:V),VRels ρ vs xs→VRel ρ u x→foldV f u vs=some z→∃ z',VRel ρ z z'∧∀ w,(xs.foldlM g x).run P w=.ok z' w
 | [],xs,u,x,z,h,hu,hz=>by
  have h:xs=[]:=h
  subst h
  simp only[foldV] at hz
  cases hz
  exact⟨x,hu,fun w=>rfl⟩
 | v::vs,xs,u,x,z,h,hu,hz=>by
  obtain⟨y,ys,rfl,h2,h3⟩:=h
  simp only[foldV] at hz
  cases hy:f u v with
  | none=>rw[hy] at hz;cases hz
  | some z1=>
   rw[hy] at hz
   obtain⟨z1',hr1,hrun1⟩:=hf u v x y z1 hu h2 hy
   obtain⟨z',hr,hrun⟩:=foldV_run hf vs ys z1 z1' z h3 hr1 hz
   exact⟨z',hr,fun w=>by simp[List.foldlM_cons,hrun1 w,hrun w]⟩
theorem min2_run {ρ:Emb}:∀ u v x y z,VRel ρ u x→VRel ρ v y→min2 u v=some z→∃ z',VRel ρ z z'∧∀ w,(Builtin.min2 x y).run P w=.ok z' w:=by
 intro u v x y z hu hv hz
 unfold min2 at hz
 split at hz
 ·have hu:x=_:=hu
  have hv:y=_:=hv
  subst hu hv
  cases hz
  refine⟨_,rfl,fun w=>?_⟩
  rw[ltI_eq]
  simp only[Builtin.min2]
  rename_i a k' b
  by_cases h:b < a
  ·simp[h]
  ·simp[h,decide_eq_false h]
 ·cases hz
theorem max2_run {ρ:Emb}:∀ u v x y z,VRel ρ u x→VRel ρ v y→max2 u v=some z→∃ z',VRel ρ z z'∧∀ w,(Builtin.max2 x y).run P w=.ok z' w:=by
 intro u v x y z hu hv hz
 unfold max2 at hz
 split at hz
 ·have hu:x=_:=hu
  have hv:y=_:=hv
  subst hu hv
  cases hz
  refine⟨_,rfl,fun w=>?_⟩
  rw[ltI_eq]
  simp only[Builtin.max2]
  rename_i a k' b
  by_cases h:a < b
  ·simp[h]
  ·simp[h,decide_eq_false h]
 ·cases hz
theorem snd_fold {b:Builtin} {ts:Array TypeId} {xs:Array Operand} {ss:List S} {f:V→V→Option V} (hb:(b=.min∧f=min2)∨(b=.max∧f=max2)) (hx:srcs P xs.toList=some ss) :
  SndP P ⟨dst,.call ⟨.builtin b,xs,ts⟩,ty,pos,after,guard⟩ (foldF f ss):=by
 intro n ρ t' a v hg ht hv
 unfold foldF at hv
 split at hv
 ·rename_i u vs h1
  have hr:=srcs_rel hg ht hx h1
  obtain⟨x,ys,hxs,h2,h3⟩:=hr
  rcases hb with ⟨rfl,rfl⟩ | ⟨rfl,rfl⟩
  ·obtain⟨z',hz,hrun⟩:=foldV_run (P:=P) min2_run vs ys u x v h3 h2 hv
   exact⟨z',hz,fun w=>run_callB (by simp[builtin,Builtin.min_,hxs,hrun w])⟩
  ·obtain⟨z',hz,hrun⟩:=foldV_run (P:=P) max2_run vs ys u x v h3 h2 hv
   exact⟨z',hz,fun w=>run_callB (by simp[builtin,Builtin.max_,hxs,hrun w])⟩
 ·cases hv
theorem zeroV_rel {t:TypeId} {v:V} (h:zeroV P t=some v) (ρ:Emb):∃ z,VRel ρ v z∧∀ w,(zeroValue t).run P w=.ok z w:=by
 unfold zeroV at h
 split at h
 ·rename_i cs k z hz hk hzz
  split at h
  ·rename_i he
   obtain⟨i,z',hi,hz',_,hrel⟩:=zeroC_some hz
   rw[hi] at hzz
   simp only[Option.bind_some] at hzz
   rw[hz'] at hzz
   cases hzz
   refine⟨z,?_,fun w=>run_zeroValue hi hz' w⟩
   rw[Cz] at he
   rcases unc_rel h (hrel ρ) with ⟨rfl,x,hx,hr⟩ | ⟨hk,hr⟩
   ·have:x=z:=by
     cases z<;>simp[isAggV,TK.isAgg] at he<;>simp[Value.cells] at hx<;>exact hx.symm
    rw[← this];exact hr
   ·cases z<;>simp[isAggV,TK.isAgg] at he
    all_goals cases k<;>simp at he hk
    all_goals simpa [Value.cells] using hr
  ·cases h
 ·cases h
theorem snd_tassert {x:Operand} {xT A:TypeId} {ok:Bool} {sx:S} {z:V} {d:TypeDesc} (hA:P.underlying A=some d) (hni:∀ ms,d≠.interface ms) (hx:src P x=some sx) (hz:zeroV P A=some z) :
  SndP P ⟨dst,.typeAssert x xT A ok,ty,pos,after,guard⟩ (tassertF sx A z ok):=by
 intro n ρ t' a v hg ht hv
 unfold tassertF at hv
 split at hv
 ·rename_i u y h1
  obtain⟨y',he,hr⟩:=src_rel hg ht hx h1
  cases hb:u.beq A with
  | true=>
   rw[hb] at hv
   have:=beq_iff.1 hb
   subst this
   cases ok with
   | true=>
    cases hv
    refine⟨.tuple #[y',.bool true],⟨_,rfl,_,_,rfl,hr,_,_,rfl,rfl,rfl⟩,fun w=>?_⟩
    cases d<;>first | exact absurd rfl (hni _) | simp[execOp,he,Instr.typeAssert,run_underlying hA]
   | false=>
    cases hv
    refine⟨y',hr,fun w=>?_⟩
    cases d<;>first | exact absurd rfl (hni _) | simp[execOp,he,Instr.typeAssert,run_underlying hA]
  | false=>
   rw[hb] at hv
   have hne:=beq_false.1 hb
   cases ok with
   | true=>
    cases hv
    obtain⟨z',hz',hrun⟩:=zeroV_rel hz ρ
    refine⟨.tuple #[z',.bool false],⟨_,rfl,_,_,rfl,hz',_,_,rfl,rfl,rfl⟩,fun w=>?_⟩
    cases d<;>first | exact absurd rfl (hni _) | simp[execOp,he,Instr.typeAssert,run_underlying hA,hne,hrun w]
   | false=>cases hv
 ·rename_i h1
  have he:a.eval x=_:=src_rel hg ht hx h1
  cases ok with
  | true=>
   cases hv
   obtain⟨z',hz',hrun⟩:=zeroV_rel hz ρ
   refine⟨.tuple #[z',.bool false],⟨_,rfl,_,_,rfl,hz',_,_,rfl,rfl,rfl⟩,fun w=>?_⟩
   cases d<;>first | exact absurd rfl (hni _) | simp[execOp,he,Instr.typeAssert,run_underlying hA,hrun w]
  | false=>cases hv
 ·cases hv
end
end Go.Am
