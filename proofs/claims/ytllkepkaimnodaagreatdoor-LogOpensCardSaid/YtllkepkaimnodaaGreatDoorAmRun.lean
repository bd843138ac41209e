import Derived.Test.YtllkepkaimnodaaGreatDoorAmDraw
import Derived.Scope
set_option linter.unusedVariables false
set_option linter.unusedSimpArgs false
namespace Go.Am
open Classical in
theorem wp_loop_nat {P:Program} {c:Code} {Q:Exit→Act→World→Prop} (I:Nat→Act→World→Prop) {n:Nat} {a:Act} {w:World} (h0:I n a w) (round:∀ n a w,I n a w→c.wp P (Exit.then (fun a' w'=>∃ m,m < n∧I m a' w') Q) a w):(Code.loop c).wp P Q a w:=by
 let μ:Act→World→Nat:=fun a w=>if h:∃ n,I n a w then Classical.choose (least h) else 0
 have hμ:∀ a w,(∃ n,I n a w)→I (μ a w) a w∧∀ m,I m a w→μ a w≤m:=fun a w h=>by
  have:=Classical.choose_spec (least h)
  simp only[μ,dif_pos h]
  exact this
 refine wp_loop (fun a w=>∃ n,I n a w) μ ⟨n,h0⟩ (fun a w hI=>?_)
 obtain⟨h1,h2⟩:=hμ a w hI
 refine wp_mono (round _ a w h1) (fun e a' w' hq=>?_)
 cases e with
 | normal=>
  obtain⟨m,hlt,hm⟩:=hq
  obtain⟨_,k2⟩:=hμ a' w' ⟨m,hm⟩
  exact⟨⟨m,hm⟩,Nat.lt_of_le_of_lt (k2 m hm) hlt⟩
 | exit id=>exact hq
 | goto l=>exact hq
 | ret=>exact hq
 | panic ch=>exact hq
 | outgrown=>exact hq
def CodeDoes (P:Program) (n:Nat) (c:Code) (s:St) (x:X) (s':St):Prop:=
 s.H.Upto s'.H∧∀(N:Nat) (ρ:Emb) (a:Act) (w:World),Rel P n N ρ s.t s.H s.d a w→Free ρ s.H s'.H→∀(Q:Exit→Act→World→Prop),
  (∀ ρ' a' w' e,ExitRel ρ' x e→Step N ρ s.H w ρ' s'.H w'→Rel P n N ρ' s'.t s'.H s'.d a' w'→Q e a' w')→c.wp P Q a w
theorem exit_then {next:Act→World→Prop} {Q:Exit→Act→World→Prop} {ρ:Emb} {x:X} {e:Exit} {a:Act} {w:World} (he:ExitRel ρ x e) (hx:x≠.n) (h:Q e a w):Exit.then next Q e a w:=by
 cases x with
 | n=>exact absurd rfl hx
 | ex id=>have he:e=_:=he;subst he;exact h
 | ret=>have he:e=_:=he;subst he;exact h
 | pan v=>obtain⟨y,rfl,_⟩:=he;exact h
theorem loop_next {f:St→Option (X × St)} (hf:∀ s x s',f s=some (x,s')→s.H.Upto s'.H):∀(m:Nat) (s:St) (x:X) (s':St),loopF f m s=some (x,s')→s.H.Upto s'.H
 | 0,s,x,s',h=>by cases h
 | m+1,s,x,s',h=>by
  have h:(match f s with | some (.n,s')=>loopF f m s' | r=>r)=some (x,s'):=h
  split at h
  ·rename_i s1 h1
   exact(hf s .n s1 h1).trans (loop_next hf m s1 x s' h)
  ·exact hf s x s' h
theorem code_sound {P:Program} {n:Nat} {call:CallT} (hcall:CallSnd P call) (lf:Nat):∀(c:Code) (s:St) (x:X) (s':St),runC call lf (prepC P n c) s=some (x,s')→CodeDoes P n c s x s':=by
 intro c
 induction c with
 | skip=>
  intro s x s' h
  cases h
  exact⟨.refl _,fun N ρ a w r _ Q hQ=>wp_skip (hQ ρ a w _ rfl r.refl r)⟩
 | label l=>
  intro s x s' h
  cases h
  exact⟨.refl _,fun N ρ a w r _ Q hQ=>wp_label (hQ ρ a w _ rfl r.refl r)⟩
 | region id ops draw=>
  intro s x s' h
  cases draw with
  | true=>
   simp only[prepC] at h
   split at h
   ·rename_i hok
    simp only[Bool.and_eq_true] at hok
    have h:(match runOpsD call (ops.toList.map (prepOper P n ops)) s.t s.H with
     | some (t,H,es)=>match chainOk (masks ops.toList []) (acsOf es 0) with
      | true=>some (X.n,St.mk t (H.owe (owes (masks ops.toList []) (acsOf es 0) es 0)) s.d)
      | false=>none
     | none=>none)=some (x,s'):=h
    split at h
    ·rename_i t1 H1 es hrun
     split at h
     ·rename_i hchk
      cases h
      obtain⟨h1,h2⟩:=drawn_sound (id:=id) hcall hok.1 hok.2 hrun hchk
      exact⟨h1,fun N ρ a w r hf Q hQ=>h2 N ρ a w r hf Q (fun ρ' a' w' st r'=>hQ ρ' a' w' _ rfl st r')⟩
     ·cases h
    ·cases h
   ·cases h
  | false=>
   have h:runOps call (ops.toList.map (prepOper P n ops)) s.t s.H s.d=some (x,s'):=h
   obtain⟨hn,hrest⟩:=ops_sound hcall ops.toList 0 s.t s.H s.d x s' (fun i o hi=>by simpa using hi) h
   refine⟨hn,fun N ρ a w r hfree Q hQ=>wp_region ?_⟩
   have:=hrest N ρ a w r hfree Q hQ
   rwa [Array.length_toList,← List.range_eq_range'] at this
 | seq a b iha ihb=>
  intro s x s' h
  have h:(match runC call lf (prepC P n a) s with | some (.n,s1)=>runC call lf (prepC P n b) s1 | r=>r)=some (x,s'):=h
  split at h
  ·rename_i s1 h1
   obtain⟨n1,d1⟩:=iha s .n s1 h1
   obtain⟨n2,d2⟩:=ihb s1 x s' h
   refine⟨n1.trans n2,fun N ρ ac w r hfree Q hQ=>wp_seq ?_⟩
   refine d1 N ρ ac w r (hfree.left n2) _ (fun ρ1 a1 w1 e1 he1 st1 r1=>?_)
   have he1:e1=_:=he1
   subst he1
   exact d2 N ρ1 a1 w1 r1 (hfree.right n1 st1) Q (fun ρ2 a2 w2 e he st2 r2=>hQ ρ2 a2 w2 e he (st1.trans st2) r2)
  ·rename_i hno
   have hxn:x≠.n:=fun e=>by subst e;exact hno _ h
   obtain⟨n1,d1⟩:=iha s x s' h
   refine⟨n1,fun N ρ ac w r hfree Q hQ=>wp_seq ?_⟩
   exact d1 N ρ ac w r hfree _ (fun ρ1 a1 w1 e he st1 r1=>exit_then he hxn (hQ ρ1 a1 w1 e he st1 r1))
 | cond c a b iha ihb=>
  intro s x s' h
  simp only[prepC] at h
  cases hc:src P c with
  | none=>rw[hc] at h;cases h
  | some sc=>
   rw[hc] at h
   have h:(match sc.get s.t with | some (.bool true)=>runC call lf (prepC P n a) s | some (.bool false)=>runC call lf (prepC P n b) s | _=>none)=some (x,s'):=h
   split at h
   ·rename_i hv
    obtain⟨n1,d1⟩:=iha s x s' h
    exact⟨n1,fun N ρ ac w r hfree Q hQ=>wp_cond_true (src_rel r.g r.t hc hv) (d1 N ρ ac w r hfree Q hQ)⟩
   ·rename_i hv
    obtain⟨n1,d1⟩:=ihb s x s' h
    exact⟨n1,fun N ρ ac w r hfree Q hQ=>wp_cond_false (src_rel r.g r.t hc hv) (d1 N ρ ac w r hfree Q hQ)⟩
   ·cases h
 | block id a iha=>
  intro s x s' h
  have h:(match runC call lf (prepC P n a) s with | some (.ex id',s')=>(match id'.beq id with | true=>some (.n,s') | false=>some (.ex id',s')) | r=>r)=some (x,s'):=h
  split at h
  ·rename_i id' s1 h1
   obtain⟨n1,d1⟩:=iha s (.ex id') s1 h1
   cases hid:id'.beq id with
   | true=>
    rw[hid] at h
    cases h
    have:=beq_iff.1 hid
    subst this
    exact⟨n1,fun N ρ ac w r hfree Q hQ=>wp_block (d1 N ρ ac w r hfree _ (fun ρ1 a1 w1 e he st1 r1=>by
     have he:e=_:=he
     subst he
     simp only[Exit.inBlock,if_true];exact hQ ρ1 a1 w1 _ rfl st1 r1))⟩
   | false=>
    rw[hid] at h
    cases h
    have:=beq_false.1 hid
    exact⟨n1,fun N ρ ac w r hfree Q hQ=>wp_block (d1 N ρ ac w r hfree _ (fun ρ1 a1 w1 e he st1 r1=>by
     have he:e=_:=he
     subst he
     simp only[Exit.inBlock,if_neg this];exact hQ ρ1 a1 w1 _ rfl st1 r1))⟩
  ·rename_i hno
   obtain⟨n1,d1⟩:=iha s x s' h
   refine⟨n1,fun N ρ ac w r hfree Q hQ=>wp_block (d1 N ρ ac w r hfree _ (fun ρ1 a1 w1 e he st1 r1=>?_))⟩
   have:=hQ ρ1 a1 w1 e he st1 r1
   cases x with
   | n=>have he:e=_:=he;subst he;exact this
   | ex id'=>exact absurd h (hno id' s')
   | ret=>have he:e=_:=he;subst he;exact this
   | pan v=>obtain⟨y,rfl,_⟩:=he;exact this
 | loop c0 iha=>
  intro s x s' h
  have h:loopF (runC call lf (prepC P n c0)) lf s=some (x,s'):=h
  have hnext:=loop_next (f:=runC call lf (prepC P n c0)) (fun s x s' h=>(iha s x s' h).1)
  refine⟨hnext lf s x s' h,fun N ρ a0 w0 r hfree Q hQ=>?_⟩
  refine wp_loop_nat (fun m a w=>∃ sc ρc,loopF (runC call lf (prepC P n c0)) m sc=some (x,s')∧Step N ρ s.H w0 ρc sc.H w∧Rel P n N ρc sc.t sc.H sc.d a w∧Free ρc sc.H s'.H) (n:=lf) ⟨s,ρ,h,r.refl,r,hfree⟩ ?_
  rintro m ac w ⟨sc,ρc,hl,st,rc,fc⟩
  cases m with
  | zero=>cases hl
  | succ m=>
   have hl:(match runC call lf (prepC P n c0) sc with | some (.n,s')=>loopF (runC call lf (prepC P n c0)) m s' | r=>r)=some (x,s'):=hl
   split at hl
   ·rename_i s1 h1
    obtain⟨n1,d1⟩:=iha sc .n s1 h1
    have n2:=hnext m s1 x s' hl
    refine d1 N ρc ac w rc (fc.left n2) _ (fun ρ1 a1 w1 e he st1 r1=>?_)
    have he:e=_:=he
    subst he
    exact⟨m,Nat.lt_succ_self m,s1,ρ1,hl,st.trans st1,r1,fc.right n1 st1⟩
   ·rename_i hno
    have hxn:x≠.n:=fun e=>by subst e;exact hno _ hl
    obtain⟨n1,d1⟩:=iha sc x s' hl
    exact d1 N ρc ac w rc fc _ (fun ρ1 a1 w1 e he st1 r1=>exit_then he hxn (hQ ρ1 a1 w1 e he (st.trans st1) r1))
 | exit id=>
  intro s x s' h
  cases h
  exact⟨.refl _,fun N ρ a w r _ Q hQ=>wp_exit (hQ ρ a w _ rfl r.refl r)⟩
 | scope a iha=>
  intro s x s' h
  obtain⟨n1,d1⟩:=iha s x s' h
  refine⟨n1,fun N ρ ac w r hfree Q hQ=>wp_scope_straight (d1 N ρ ac w r hfree _ (fun ρ1 a1 w1 e he st1 r1=>?_))⟩
  have:=hQ ρ1 a1 w1 e he st1 r1
  cases x with
  | n=>have he:e=_:=he;subst he;exact this
  | ex id'=>have he:e=_:=he;subst he;exact this
  | ret=>have he:e=_:=he;subst he;exact this
  | pan v=>obtain⟨y,rfl,_⟩:=he;exact this
 | ret=>
  intro s x s' h
  cases h
  exact⟨.refl _,fun N ρ a w r _ Q hQ=>wp_ret (hQ ρ a w _ rfl r.refl r)⟩
 | goto l=>intro s x s' h;cases h
 | rangeFunc=>intro s x s' h;cases h
 | refuse=>intro s x s' h;cases h
theorem argsT_get:∀(vs:List V) (k:Nat) (t:T) (i:Nat),(argsT vs k t).getP (Tr.path i)=if k≤i∧i < k+vs.length then vs[i - k]? else t.getP (Tr.path i)
 | [],k,t,i=>by
  have:¬ (k≤i∧i < k+([]:List V).length):=by simp
  rw[if_neg this];rfl
 | v::vs,k,t,i=>by
  simp only[argsT]
  rw[argsT_get vs (k+1) _ i,Tr.get_set]
  simp only[Tr.path_eq]
  by_cases h1:i=k
  ·subst h1
   have c1:¬ (i+1≤i∧i < i+1+vs.length):=by omega
   have c2:i≤i∧i < i+(v::vs).length:=by simp
   rw[if_neg c1,if_pos rfl,if_pos c2];simp
  ·by_cases h2:k+1≤i∧i < k+1+vs.length
   ·have c2:k≤i∧i < k+(v::vs).length:=by simp;omega
    rw[if_pos h2,if_pos c2,show i - k=(i - (k+1))+1 by omega];simp
   ·have c2:¬ (k≤i∧i < k+(v::vs).length):=by simp;omega
    rw[if_neg h2,if_neg h1,if_neg c2]
theorem VRels.get {ρ:Emb}:∀ {vs:List V} {xs:List Value} {i:Nat} {v:V},VRels ρ vs xs→vs[i]?=some v→∃ x,xs[i]?=some x∧VRel ρ v x
 | vs,xs,i,v,h,hv=>by rw[← nth_eq] at hv;exact nth_rel h hv
theorem args_rel {ρ:Emb} {vs:List V} {args:Array Value} (n:Nat) (h:VRels ρ vs args.toList):TRel n ρ (argsT vs 0 .e) { tmps:=args++Array.replicate (n - args.size) Go.undef,defers:=[] }:=by
 refine⟨by simp;omega,fun i v hv=>?_⟩
 rw[argsT_get] at hv
 split at hv
 ·obtain⟨x,hx,hr⟩:=h.get hv
  simp only[Nat.sub_zero] at hx
  have hx':args[i]?=some x:=by simpa using hx
  obtain⟨hlt,hxe⟩:=Array.getElem?_eq_some_iff.1 hx'
  have:(args++Array.replicate (n - args.size) Go.undef).getD i Go.undef=x:=by
   simp only[Array.getD]
   rw[dif_pos (by simp;omega)]
   simp[Array.getElem_append,hlt,hxe]
  rw[this];exact hr
 ·rw[Tr.getP_e] at hv;cases hv
theorem prepRes_cons {P:Program} {r:ResultVar} {rs:List ResultVar} {l:List R} (h:prepRes P (r::rs)=some l):∃ x xs,l=x::xs∧prepRes P rs=some xs∧((∃ t,r=.tmp t∧x=.tmp (Tr.path t))∨∃ a t sz k,r=.cell a t∧sizeT P t=some sz∧tkT P t=some k∧x=.cell (Tr.path a) sz k):=by
 cases r with
 | tmp t=>
  simp only[prepRes] at h
  obtain⟨xs,hxs,rfl⟩:=map_some h
  exact⟨_,_,rfl,hxs,.inl ⟨t,rfl,rfl⟩⟩
 | cell a t=>
  simp only[prepRes] at h
  split at h
  ·rename_i sz k hsz hk
   obtain⟨xs,hxs,rfl⟩:=map_some h
   exact⟨_,_,rfl,hxs,.inr ⟨a,t,sz,k,rfl,hsz,hk,rfl⟩⟩
  ·cases h
def resRun (tmps:Array Value):ResultVar→Sem Value
 | .tmp t=>pure (tmps.getD t Go.undef)
 | .cell a t=>do loadVar t (← asAddr (tmps.getD a Go.undef))
theorem results_rel {P:Program} {n N:Nat} {ρ:Emb} {t:T} {H:Heap} {d:List (FuncId × List V)} {a:Act} {w:World} (r:Rel P n N ρ t H d a w):∀(rs:List ResultVar) (l:List R) (vs:List V),prepRes P rs=some l→resultsV t H l=some vs →
  ∃ xs,VRels ρ vs xs∧(rs.mapM (resRun a.tmps)).run P w=.ok xs w
 | [],l,vs,hl,hv=>by
  simp only[prepRes] at hl
  cases hl
  simp only[resultsV] at hv
  cases hv
  exact⟨[],rfl,by simp⟩
 | rv::rs,l,vs,hl,hv=>by
  obtain⟨x,xs,rfl,hxs,hcase⟩:=prepRes_cons hl
  simp only[resultsV] at hv
  split at hv
  ·rename_i v hvv
   cases hr:resultsV t H xs with
   | none=>rw[hr] at hv;cases hv
   | some us=>
    rw[hr] at hv
    cases hv
    obtain⟨ys,hys,hrun⟩:=results_rel r rs xs us hxs hr
    rcases hcase with ⟨u,rfl,rfl⟩ | ⟨p,ty,sz,k,rfl,hsz,hk,rfl⟩
    ·refine⟨_::ys,⟨_,_,rfl,r.t.val u v hvv,hys⟩,?_⟩
     simp[List.mapM_cons,resRun,hrun]
    ·simp only[result] at hvv
     split at hvv
     ·rename_i q hq
      obtain⟨lc,hlc,he⟩:=r.t.val p _ hq
      obtain⟨v',hv',hload⟩:=loadVar_rel hsz hk r.s hlc hvv
      refine⟨v'::ys,⟨_,_,rfl,hv',hys⟩,?_⟩
      simp[List.mapM_cons,resRun,hrun,he,asAddr,hload]
     ·cases hvv
  ·cases hv
theorem tup_rel {ρ:Emb} {vs:List V} {xs:List Value} (h:VRels ρ vs xs):VRel ρ (tup vs) (if h:xs.toArray.size=1 then xs.toArray[0] else .tuple xs.toArray):=by
 match vs,h with
 | [],h=>
  have h:xs=[]:=h
  subst h
  simp only[tup]
  exact⟨#[],by simp,rfl⟩
 | [v],h=>
  obtain⟨y,ys,rfl,h2,h3⟩:=h
  have h3:ys=[]:=h3
  subst h3
  simp only[tup]
  simpa using h2
 | v::u::vs,h=>
  obtain⟨y,ys,rfl,h2,z,zs,rfl,h3,h4⟩:=h
  simp only[tup]
  refine⟨(y::z::zs).toArray,by simp,?_⟩
  exact⟨y,_,rfl,h2,z,zs,rfl,h3,h4⟩
end Go.Am
