import Derived.Test.YtllkepkaimnodaaGreatDoorAmOps
import Derived.DeepKeys
set_option linter.unusedVariables false
set_option linter.unusedSimpArgs false
namespace Go.Am
theorem bytes_beq (a b:ByteArray):(a==b)=true↔a=b:=by
 obtain⟨⟨x⟩⟩:=a
 obtain⟨⟨y⟩⟩:=b
 show ((⟨x⟩:Array UInt8)==⟨y⟩)=true↔_
 simp
def Conf:List CK→List Value→Prop
 | [],X=>X=[]
 | .int k::ls,X=>∃ n Y,X=.int k n::Y∧Conf ls Y
 | .bool::ls,X=>∃ b Y,X=.bool b::Y∧Conf ls Y
 | .str::ls,X=>∃ s Y,X=.string s::Y∧Conf ls Y
 | .blk::ls,X=>∃ B Y,B < 256 ^ 64∧X=blkV B++Y∧Conf ls Y
 | .other::_,_=>False
theorem Conf.length:∀ {ls:List CK} {X:List Value},Conf ls X→X.length=ckw ls
 | [],X,h=>by have h:X=[]:=h;subst h;rfl
 | .int k::ls,X,h=>by obtain⟨n,Y,rfl,h⟩:=h;simp[ckw,h.length,Nat.add_comm]
 | .bool::ls,X,h=>by obtain⟨n,Y,rfl,h⟩:=h;simp[ckw,h.length,Nat.add_comm]
 | .str::ls,X,h=>by obtain⟨n,Y,rfl,h⟩:=h;simp[ckw,h.length,Nat.add_comm]
 | .blk::ls,X,h=>by obtain⟨B,Y,_,rfl,h⟩:=h;simp[ckw,h.length,blkV_length]
 | .other::_,_,h=>h.elim
theorem Conf.split:∀ {l1 l2:List CK} {X:List Value},Conf (l1++l2) X→∃ X1 X2,X=X1++X2∧Conf l1 X1∧Conf l2 X2
 | [],l2,X,h=>⟨[],X,rfl,rfl,h⟩
 | .int k::l1,l2,X,h=>by obtain⟨n,Y,rfl,h⟩:=h;obtain⟨A,B,rfl,h1,h2⟩:=Conf.split h;exact⟨_::A,B,rfl,⟨n,A,rfl,h1⟩,h2⟩
 | .bool::l1,l2,X,h=>by obtain⟨n,Y,rfl,h⟩:=h;obtain⟨A,B,rfl,h1,h2⟩:=Conf.split h;exact⟨_::A,B,rfl,⟨n,A,rfl,h1⟩,h2⟩
 | .str::l1,l2,X,h=>by obtain⟨n,Y,rfl,h⟩:=h;obtain⟨A,B,rfl,h1,h2⟩:=Conf.split h;exact⟨_::A,B,rfl,⟨n,A,rfl,h1⟩,h2⟩
 | .blk::l1,l2,X,h=>by obtain⟨b,Y,hb,rfl,h⟩:=h;obtain⟨A,B,rfl,h1,h2⟩:=Conf.split h;exact⟨blkV b++A,B,by simp,⟨b,A,hb,rfl,h1⟩,h2⟩
 | .other::_,_,_,h=>h.elim
theorem mod_of_bytes (B C:Nat):∀ n,(∀ i,i < n→byte B i=byte C i)→B % 256 ^ n=C % 256 ^ n
 | 0,_=>by simp[Nat.mod_one]
 | n+1,h=>by
  have ih:=mod_of_bytes B C n (fun i hi=>h i (by omega))
  have hb:=h n (by omega)
  rw[byte_eq,byte_eq] at hb
  rw[Nat.pow_succ,Nat.mod_mul,Nat.mod_mul,ih,hb]
theorem blkV_inj {B C:Nat} (hB:B < 256 ^ 64) (hC:C < 256 ^ 64) (h:blkV B=blkV C):B=C:=by
 have:B % 256 ^ 64=C % 256 ^ 64:=mod_of_bytes B C 64 (fun i hi=>by
  have e:=congrArg (·[i]?) h
  simp only[blkV,bytesV_get,hi,if_true,Nat.zero_add,Option.some.injEq,Value.int.injEq,true_and] at e
  exact Int.ofNat.inj e)
 rwa [Nat.mod_eq_of_lt hB,Nat.mod_eq_of_lt hC] at this
theorem cmp_conf {ρ:Emb}:∀ {ls:List CK} {xs ys:List V} {X Y:List Value} {b:Bool},CRel ρ xs X→CRel ρ ys Y→cmpCells ls xs ys=some b →
  Conf ls X∧Conf ls Y∧(b=true↔X=Y)
 | ls,xs,ys,X,Y,b,hx,hy,h=>by
  unfold cmpCells at h
  split at h
  ·cases h
   have hx:X=[]:=hx
   have hy:Y=[]:=hy
   subst hx hy
   exact⟨rfl,rfl,by simp⟩
  ·rename_i k ls j a xs l c ys
   cases hd:decide (j=k)&&decide (l=k) with
   | false=>rw[hd] at h;cases h
   | true=>
    rw[hd] at h
    simp only[Bool.and_eq_true,decide_eq_true_eq] at hd
    obtain⟨rfl,rfl⟩:=hd
    rcases hx.head with ⟨_,_,e,_⟩ | ⟨x,X',_,_,rfl,hr,hx'⟩
    ·cases e
    rcases hy.head with ⟨_,_,e,_⟩ | ⟨y,Y',_,_,rfl,hr',hy'⟩
    ·cases e
    have hr:x=_:=hr
    have hr':y=_:=hr'
    subst hr hr'
    cases hq:cmpCells ls xs ys with
    | none=>simp only[hq] at h;cases h
    | some b'=>
     simp only[hq] at h
     cases h
     obtain⟨h1,h2,h3⟩:=cmp_conf hx' hy' hq
     refine⟨⟨_,_,rfl,h1⟩,⟨_,_,rfl,h2⟩,?_⟩
     simp[Cy,h3]
  ·rename_i ls a xs c ys
   rcases hx.head with ⟨_,_,e,_⟩ | ⟨x,X',_,_,rfl,hr,hx'⟩
   ·cases e
   rcases hy.head with ⟨_,_,e,_⟩ | ⟨y,Y',_,_,rfl,hr',hy'⟩
   ·cases e
   have hr:x=_:=hr
   have hr':y=_:=hr'
   subst hr hr'
   cases hq:cmpCells ls xs ys with
   | none=>simp only[hq] at h;cases h
   | some b'=>
    simp only[hq] at h
    cases h
    obtain⟨h1,h2,h3⟩:=cmp_conf hx' hy' hq
    refine⟨⟨_,_,rfl,h1⟩,⟨_,_,rfl,h2⟩,?_⟩
    simp[Cz,h3]
  ·rename_i ls a xs c ys
   rcases hx.head with ⟨_,_,e,_⟩ | ⟨x,X',_,_,rfl,hr,hx'⟩
   ·cases e
   rcases hy.head with ⟨_,_,e,_⟩ | ⟨y,Y',_,_,rfl,hr',hy'⟩
   ·cases e
   have hr:x=_:=hr
   have hr':y=_:=hr'
   subst hr hr'
   cases hq:cmpCells ls xs ys with
   | none=>simp only[hq] at h;cases h
   | some b'=>
    simp only[hq] at h
    cases h
    obtain⟨h1,h2,h3⟩:=cmp_conf hx' hy' hq
    refine⟨⟨_,_,rfl,h1⟩,⟨_,_,rfl,h2⟩,?_⟩
    simp only[Bool.and_eq_true,bytes_beq,h3,List.cons.injEq,Value.string.injEq]
  ·rename_i ls a xs c ys
   rcases hx.head with ⟨_,X',e,e2,hB,rfl,hx'⟩ | ⟨_,_,e,_⟩
   ·rcases hy.head with ⟨_,Y',e',e2',hB',rfl,hy'⟩ | ⟨_,_,e',_⟩
    ·cases e2;cases e2'
     cases hq:cmpCells ls xs ys with
     | none=>simp only[hq] at h;cases h
     | some b'=>
      simp only[hq] at h
      cases h
      obtain⟨h1,h2,h3⟩:=cmp_conf hx' hy' hq
      refine⟨⟨_,_,hB,rfl,h1⟩,⟨_,_,hB',rfl,h2⟩,?_⟩
      simp only[Bool.and_eq_true,beq_iff,h3]
      constructor
      ·rintro⟨rfl,rfl⟩;rfl
      ·intro e3
       have:=List.append_inj e3 (by rw[blkV_length,blkV_length])
       exact⟨blkV_inj hB hB' this.1,this.2⟩
    ·cases e'
   ·cases e
  ·cases h
termination_by ls=>ls.length
def valOf (agg:Bool) (X:List Value) (x:Value):Prop:=
 match agg with
 | true=>x=.agg X.toArray
 | false=>X=[x]
section
variable {P:Program}
def EqOk (P:Program) (D:Nat) (t:TypeId) (ls:List CK):Prop:=
 ∃ d,P.underlying t=some d∧∀(w:World) (X Y:List Value) (x y:Value),Conf ls X→Conf ls Y→valOf (aggD d) X x→valOf (aggD d) Y y →
  ∃ r:Bool,(Op.equalIn D t x y).run P w=.ok r w∧(r=true↔X=Y)
theorem part_val {t:TypeId} {d:TypeDesc} {sz off:Nat} {X Z:List Value} (hd:P.underlying t=some d) (hsz:sizeT P t=some sz) (hZ:(X.drop off).take sz=Z) (hl:aggD d=false→∃ z,Z=[z]) :
  ∃ z,valOf (aggD d) Z z∧∀ w,(part t X.toArray off).run P w=.ok z w:=by
 cases ha:aggD d with
 | true=>
  refine⟨_,rfl,fun w=>?_⟩
  have:X.toArray.extract off (off+sz)=Z.toArray:=by
   apply Array.ext'
   simp[List.extract_eq_take_drop]
   exact hZ
  simp only[part,Sem.run_bind,isAgg_run hd,ha,Result.andThen_ok,if_true,run_sizeOf hsz,this,Sem.run_pure]
 | false=>
  obtain⟨z,rfl⟩:=hl ha
  refine⟨z,rfl,fun w=>?_⟩
  have hg2:X[off]?=some z:=by
   have:=congrArg (·[0]?) hZ
   simp only[List.getElem?_take,List.getElem?_drop] at this
   simpa using (Option.ite_none_right_eq_some.1 this).2
  simp[part,isAgg_run hd,ha,hg2]
theorem conf_one {d:TypeDesc} {ls:List CK} {t:TypeId} {D:Nat} (hd:P.underlying t=some d) (ha:aggD d=false) (hls:eqLay P D t=some ls) {X:List Value} (h:Conf ls X):∃ z,X=[z]:=by
 cases D with
 | zero=>simp[eqLay] at hls
 | succ D=>
  simp only[eqLay,hd] at hls
  cases d<;>simp[aggD] at ha<;>simp at hls<;>subst hls
  ·obtain⟨b,Y,rfl,h⟩:=h;have h:Y=[]:=h;subst h;exact⟨_,rfl⟩
  ·obtain⟨b,Y,rfl,h⟩:=h;have h:Y=[]:=h;subst h;exact⟨_,rfl⟩
  ·obtain⟨b,Y,rfl,h⟩:=h;have h:Y=[]:=h;subst h;exact⟨_,rfl⟩
theorem eqFields_ok {D0 D:Nat} (X Y:List Value):∀(fs:List Field) (off:Nat) (ls:List CK),eqFields P (eqLay P D0) fs off=some ls→(∀ f ∈ fs,∀ l,eqLay P D0 f.type=some l→EqOk P D f.type l) →
  ∀(w:World) (A B A' B':List Value),X=A++B→Y=A'++B'→A.length=off→A'.length=off→Conf ls B→Conf ls B' →
   ∃ r:Bool,(Op.eqFields D X.toArray Y.toArray fs).run P w=.ok r w∧(r=true↔B=B')
 | [],off,ls,h,hok,w,A,B,A',B',hX,hY,hA,hA',hB,hB'=>by
  simp only[eqFields] at h
  cases h
  have hB:B=[]:=hB
  have hB':B'=[]:=hB'
  subst hB hB'
  exact⟨true,by simp[Op.eqFields],by simp⟩
 | f::fs,off,ls,h,hok,w,A,B,A',B',hX,hY,hA,hA',hB,hB'=>by
  simp only[eqFields] at h
  split at h
  ·rename_i l sz h1 h2 h3
   cases h4:(ckw l).beq sz with
   | false=>rw[h4] at h;cases h
   | true=>
    rw[h4] at h
    have h4':=beq_iff.1 h4
    cases h5:eqFields P (eqLay P D0) fs (Nat.add off sz) with
    | none=>simp only[h5] at h;cases h
    | some ls'=>
     simp only[h5] at h
     cases h
     obtain⟨B1,B2,rfl,c1,c2⟩:=hB.split
     obtain⟨C1,C2,rfl,c1',c2'⟩:=hB'.split
     simp only[Bool.and_eq_true,Bool.not_eq_true'] at h1
     have hoff:=beq_iff.1 h1.1
     have hn : f.name ≠ "_" := by simpa using h1.2
     obtain⟨d,hd,hrun⟩:=hok f (by simp) l h2
     have l1:B1.length=sz:=by rw[c1.length,h4']
     have l1':C1.length=sz:=by rw[c1'.length,h4']
     obtain⟨x,vx,px⟩:=part_val (X:=X) (off:=f.offset) hd h3 (Z:=B1) (by rw[hX,hoff,List.drop_append,hA,Nat.sub_self,List.drop_zero,List.drop_eq_nil_of_le (by omega),List.nil_append,List.take_append,l1,Nat.sub_self,List.take_zero,List.append_nil,List.take_of_length_le (by omega)]) (fun ha=>conf_one hd ha h2 c1)
     obtain⟨y,vy,py⟩:=part_val (X:=Y) (off:=f.offset) hd h3 (Z:=C1) (by rw[hY,hoff,List.drop_append,hA',Nat.sub_self,List.drop_zero,List.drop_eq_nil_of_le (by omega),List.nil_append,List.take_append,l1',Nat.sub_self,List.take_zero,List.append_nil,List.take_of_length_le (by omega)]) (fun ha=>conf_one hd ha h2 c1')
     obtain⟨r,hr,hiff⟩:=hrun w B1 C1 x y c1 c1' vx vy
     obtain⟨r',hr',hiff'⟩:=eqFields_ok X Y fs _ ls' h5 (fun g hg=>hok g (by simp[hg])) w (A++B1) B2 (A'++C1) C2 (by rw[hX,List.append_assoc]) (by rw[hY,List.append_assoc]) (by simp[hA,l1]) (by simp[hA',l1']) c2 c2'
     simp only[Op.eqFields,hn,ne_eq,not_false_eq_true,if_true,Sem.run_bind,px,py,hr,Result.andThen_ok]
     have key:B1++B2=C1++C2↔B1=C1∧B2=C2:=⟨fun e=>List.append_inj e (by omega),fun⟨e1,e2⟩=>by rw[e1,e2]⟩
     rw[key]
     cases r
     ·exact⟨false,by simp,by simp;intro e;exact absurd (hiff.2 e) (by simp)⟩
     ·refine⟨r',by simpa using hr',?_⟩
      rw[hiff']
      simp[hiff.1 rfl]
  ·cases h
theorem eqItems_ok {D0 D:Nat} {e:TypeId} {l:List CK} {sz:Nat} (X Y:List Value) (hl:eqLay P D0 e=some l) (hsz:sizeT P e=some sz) (hw:ckw l=sz) (hok:EqOk P D e l):∀(n j:Nat) (w:World) (A B A' B':List Value),
  X=A++B→Y=A'++B'→A.length=j*sz→A'.length=j*sz→Conf (rep l n) B→Conf (rep l n) B' →
   ∃ r:Bool,(Op.eqItems D e sz X.toArray Y.toArray (List.range' j n)).run P w=.ok r w∧(r=true↔B=B')
 | 0,j,w,A,B,A',B',hX,hY,hA,hA',hB,hB'=>by
  have hB:B=[]:=hB
  have hB':B'=[]:=hB'
  subst hB hB'
  exact⟨true,by simp[Op.eqItems],by simp⟩
 | n+1,j,w,A,B,A',B',hX,hY,hA,hA',hB,hB'=>by
  obtain⟨B1,B2,rfl,c1,c2⟩:=Conf.split (l1:=l) (l2:=rep l n) hB
  obtain⟨C1,C2,rfl,c1',c2'⟩:=Conf.split (l1:=l) (l2:=rep l n) hB'
  obtain⟨d,hd,hrun⟩:=hok
  have l1:B1.length=sz:=by rw[c1.length,hw]
  have l1':C1.length=sz:=by rw[c1'.length,hw]
  obtain⟨x,vx,px⟩:=part_val (X:=X) (off:=j*sz) hd hsz (Z:=B1) (by rw[hX,List.drop_append,hA,Nat.sub_self,List.drop_zero,List.drop_eq_nil_of_le (by omega),List.nil_append,List.take_append,l1,Nat.sub_self,List.take_zero,List.append_nil,List.take_of_length_le (by omega)]) (fun ha=>conf_one hd ha hl c1)
  obtain⟨y,vy,py⟩:=part_val (X:=Y) (off:=j*sz) hd hsz (Z:=C1) (by rw[hY,List.drop_append,hA',Nat.sub_self,List.drop_zero,List.drop_eq_nil_of_le (by omega),List.nil_append,List.take_append,l1',Nat.sub_self,List.take_zero,List.append_nil,List.take_of_length_le (by omega)]) (fun ha=>conf_one hd ha hl c1')
  obtain⟨r,hr,hiff⟩:=hrun w B1 C1 x y c1 c1' vx vy
  obtain⟨r',hr',hiff'⟩:=eqItems_ok X Y hl hsz hw ⟨d,hd,hrun⟩ n (j+1) w (A++B1) B2 (A'++C1) C2 (by rw[hX,List.append_assoc]) (by rw[hY,List.append_assoc]) (by simp[hA,l1,Nat.add_mul]) (by simp[hA',l1',Nat.add_mul]) c2 c2'
  simp only[List.range'_succ,Op.eqItems,Sem.run_bind,px,py,hr,Result.andThen_ok]
  have key:B1++B2=C1++C2↔B1=C1∧B2=C2:=⟨fun e=>List.append_inj e (by omega),fun⟨e1,e2⟩=>by rw[e1,e2]⟩
  rw[key]
  cases r
  ·exact⟨false,by simp,by simp;intro e;exact absurd (hiff.2 e) (by simp)⟩
  ·refine⟨r',by simpa using hr',?_⟩
   rw[hiff']
   simp[hiff.1 rfl]
theorem conf_blk_rep:∀(n o B:Nat),Conf (rep [.int .u8] n) (bytesV B n o)
 | 0,_,_=>rfl
 | n+1,o,B=>⟨_,_,rfl,conf_blk_rep n (o+1) B⟩
theorem eqLay_ok:∀(d:Nat) (t:TypeId) (ls:List CK) (D:Nat),eqLay P d t=some ls→d≤D→EqOk P D t ls
 | 0,t,ls,D,h,hD=>by simp[eqLay] at h
 | d+1,t,ls,D,h,hD=>by
  obtain⟨D,rfl⟩:∃ D',D=D'+1:=⟨D - 1,by omega⟩
  simp only[eqLay] at h
  split at h
  ·rename_i fs hu
   cases hst:P.stoodInHeld t with
   | true=>rw[hst] at h;cases h
   | false=>
    rw[hst] at h
    refine⟨_,hu,fun w X Y x y cx cy vx vy=>?_⟩
    have vx:x=_:=vx
    have vy:y=_:=vy
    subst vx vy
    have hfs:P.fieldsOf t=fs:=by simp[Program.fieldsOf,hu]
    rw[run_equalIn_struct w D t _ _ (by rw[hfs];exact hu) hst,hfs]
    exact eqFields_ok X Y fs.toList 0 ls h (fun f _ l hl=>eqLay_ok d f.type l D hl (by omega)) w [] X [] Y rfl rfl rfl rfl cx cy
  ·rename_i n e hu
   split at h
   ·rename_i l sz hl hsz
    cases hw:(ckw l).beq sz with
    | false=>rw[hw] at h;cases h
    | true=>
     rw[hw] at h
     have hw':=beq_iff.1 hw
     obtain⟨i,hi,hisz⟩:=sizeT_some hsz
     have hco:P.cellsOf e=sz:=by simp[Program.cellsOf,hi,hisz]
     have main:∀(w:World) (X Y:List Value),Conf (rep l n) X→Conf (rep l n) Y→∃ r:Bool,(Op.equalIn (D+1) t (.agg X.toArray) (.agg Y.toArray)).run P w=.ok r w∧(r=true↔X=Y):=by
      intro w X Y cx cy
      rw[run_equalIn_array w D _ _ hu hi,hco,List.range_eq_range']
      exact eqItems_ok X Y hl hsz hw' (eqLay_ok d e l D hl (by omega)) n 0 w [] X [] Y rfl rfl (by simp) (by simp) cx cy
     simp only at h
     split at h
     ·rename_i hb
      cases h
      have he:isU8 P e=true∧n=64:=by
       unfold isBlk at hb
       rw[hu] at hb
       split at hb
       ·rename_i e' he;cases he;exact⟨hb,rfl⟩
       ·cases hb
      obtain⟨he,rfl⟩:=he
      have hl8:l=[.int .u8]:=by
       cases d with
       | zero=>simp[eqLay] at hl
       | succ d=>
        unfold isU8 at he
        split at he
        ·rename_i h8;simp only[eqLay,h8] at hl;cases hl;rfl
        ·cases he
      subst hl8
      refine⟨_,hu,fun w X Y x y cx cy vx vy=>?_⟩
      have vx:x=_:=vx
      have vy:y=_:=vy
      subst vx vy
      obtain⟨B,X',hB,rfl,cx⟩:=cx
      obtain⟨C,Y',hC,rfl,cy⟩:=cy
      have cx:X'=[]:=cx
      have cy:Y'=[]:=cy
      subst cx cy
      simp only[List.append_nil]
      exact main w _ _ (conf_blk_rep 64 0 B) (conf_blk_rep 64 0 C)
     ·cases h
      refine⟨_,hu,fun w X Y x y cx cy vx vy=>?_⟩
      have vx:x=_:=vx
      have vy:y=_:=vy
      subst vx vy
      exact main w X Y cx cy
   ·cases h
  ·rename_i k hu
   cases h
   refine⟨_,hu,fun w X Y x y cx cy vx vy=>?_⟩
   have vx:X=[x]:=vx
   have vy:Y=[y]:=vy
   subst vx vy
   obtain⟨a,A,e1,_⟩:=cx
   obtain⟨b,B,e2,_⟩:=cy
   cases e1;cases e2
   exact⟨_,run_equalIn_int w D t k k a b hu,by simp⟩
  ·rename_i hu
   cases h
   refine⟨_,hu,fun w X Y x y cx cy vx vy=>?_⟩
   have vx:X=[x]:=vx
   have vy:Y=[y]:=vy
   subst vx vy
   obtain⟨a,A,e1,_⟩:=cx
   obtain⟨b,B,e2,_⟩:=cy
   cases e1;cases e2
   exact⟨_,run_equalIn_bool w D t a b hu,by simp⟩
  ·rename_i hu
   cases h
   refine⟨_,hu,fun w X Y x y cx cy vx vy=>?_⟩
   have vx:X=[x]:=vx
   have vy:Y=[y]:=vy
   subst vx vy
   obtain⟨a,A,e1,_⟩:=cx
   obtain⟨b,B,e2,_⟩:=cy
   cases e1;cases e2
   refine⟨a==b,by simp[Op.equalIn,run_underlying hu],by rw[bytes_beq];simp⟩
  ·cases h
end
end Go.Am
