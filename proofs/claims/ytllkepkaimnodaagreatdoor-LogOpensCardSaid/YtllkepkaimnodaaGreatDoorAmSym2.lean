import Derived.Test.YtllkepkaimnodaaGreatDoorAmSym
set_option linter.unusedVariables false
set_option linter.unusedSimpArgs false
namespace Go.Am
theorem Bw (i:Nat) (t:T):argsT [] i t=t:=rfl
theorem Bx (v:V) (vs:List V) (i:Nat) (t:T):argsT (v::vs) i t=argsT vs (i+1) (t.setP (Tr.path i) v):=rfl
theorem nbeq (a b:Nat):Nat.beq a b=decide (a=b):=by
 cases h:Nat.beq a b with
 | true=>simp[beq_iff.1 h]
 | false=>simp[beq_false.1 h]
theorem nble (a b:Nat):Nat.ble a b=decide (a≤b):=by
 cases h:Nat.ble a b with
 | true=>simp[ble_iff.1 h]
 | false=>have:=ble_false.1 h;simp;omega
theorem C3 (k:IntKind) (n:Nat):asNat (.int k (n:Int))=some n:=rfl
theorem C4 (k:IntKind):asNat (.int k 0)=some 0:=rfl
theorem C5 (k:IntKind):asNat (.int k 1)=some 1:=rfl
theorem Bz (k:IntKind) (a b:Int):arith .lss (.int k a) (.int k b)=some (.bool (decide (a < b))):=by simp[arith,ltI_eq]
theorem B0 (k:IntKind) (a b:Int):arith .leq (.int k a) (.int k b)=some (.bool (decide (a≤b))):=by
 simp only[arith,ltI_eq,decide_true,Option.some.injEq,V.bool.injEq]
 by_cases h:a≤b
 ·simp[h]
 ·simp[h];omega
theorem B3 (k:IntKind) (a b:Int):arith .gtr (.int k a) (.int k b)=some (.bool (decide (b < a))):=by simp[arith,ltI_eq]
theorem B4 (k:IntKind) (a b:Int):arith .geq (.int k a) (.int k b)=some (.bool (decide (b≤a))):=by
 simp only[arith,ltI_eq,decide_true,Option.some.injEq,V.bool.injEq]
 by_cases h:b≤a
 ·simp[h]
 ·simp[h];omega
theorem B5 (k:IntKind) (a b:Int):arith .add (.int k a) (.int k b)=some (.int k (k.wrap (a+b))):=by simp[arith,C0,addI_eq]
theorem B6 (k:IntKind) (a b:Int):arith .sub (.int k a) (.int k b)=some (.int k (k.wrap (a - b))):=by simp[arith,C0,subI_eq]
theorem arith_mul (k:IntKind) (a b:Int):arith .mul (.int k a) (.int k b)=some (.int k (k.wrap (a*b))):=by simp[arith,C0,mulI_eq]
theorem Cc (k:IntKind) (n:Int):V.asBlk (.int k n)=none:=rfl
theorem Cd (k:IntKind) (n:Int):V.flat (.int k n)=true:=rfl
theorem Ce (k:IntKind) (n:Int):V.cells (.int k n)=some [.int k n]:=rfl
theorem Cf (b:Bool):V.asBlk (.bool b)=none:=rfl
theorem Cg (b:Bool):V.flat (.bool b)=true:=rfl
theorem Ch (b:Bool):V.cells (.bool b)=some [.bool b]:=rfl
theorem Ci (p:Option Ptr):V.asBlk (.ptr p)=none:=rfl
theorem Cj (p:Option Ptr):V.flat (.ptr p)=true:=rfl
theorem Ck (p:Option Ptr):V.cells (.ptr p)=some [.ptr p]:=rfl
theorem Cm (p:Option Ptr) (a b c:Nat):V.asBlk (.slice p a b c)=none:=rfl
theorem Cn (p:Option Ptr) (a b c:Nat):V.flat (.slice p a b c)=true:=rfl
theorem Co (p:Option Ptr) (a b c:Nat):V.cells (.slice p a b c)=some [.slice p a b c]:=rfl
theorem Cp (r:Option Bk):V.asBlk (.map r)=none:=rfl
theorem Cq (r:Option Bk):V.flat (.map r)=true:=rfl
theorem Cr (r:Option Bk):V.cells (.map r)=some [.map r]:=rfl
theorem Cs (B:Nat):V.asBlk (.blk B)=some B:=rfl
theorem Ct (B:Nat):V.flat (.blk B)=false:=rfl
theorem Cu (B:Nat):V.cells (.blk B)=some [.blk B]:=rfl
theorem Cv (cs:List V):V.cells (.agg cs)=some cs:=rfl
theorem Cw (cs:List V):V.flat (.agg cs)=false:=rfl
theorem Cx (cs:List V):V.asBlk (.agg cs)=none:=rfl
theorem nth_of {α:Type} {l:List α} {i:Nat} {x:α} (h:l[i]?=some x):nth l i=some x:=by rw[nth_eq,h]
theorem cut_hit (c:V) (cs:List V) (h:c.asBlk=none):cut (c::cs) 0 1=some [c]:=by
 simp only[cut,nbeq,h]
 simp[cut_zero]
theorem cut_miss (c:V) (cs:List V) (o n:Nat) (h:c.asBlk=none):cut (c::cs) (o+1) (n+1)=cut cs o (n+1):=by
 simp only[cut,nbeq,h]
 simp
theorem Dh (B:Nat) (cs:List V):cut (.blk B::cs) 0 64=some [.blk B]:=by
 simp only[cut,nbeq,V.asBlk,nble]
 simp[cut_zero]
theorem put_hit (c v:V) (cs:List V) (h:c.asBlk=none) (hv:v.flat=true):put (c::cs) 0 [v]=some (v::cs):=by
 simp only[put,nbeq,h,hv]
 simp[put_nil]
theorem put_miss (c:V) (cs vs:List V) (v:V) (o:Nat) (h:c.asBlk=none):put (c::cs) (o+1) (v::vs)=(put cs o (v::vs)).map (c::·):=by
 simp only[put,nbeq,h]
 simp
theorem Dg (B B':Nat) (cs:List V):put (.blk B::cs) 0 [.blk B']=some (.blk B'::cs):=by
 simp only[put,nbeq,V.asBlk,nble]
 simp[put_nil]
theorem Dj (k:IntKind) (n:Int) (k2:IntKind) (n2:Int) (cs:List V):put (.int k n::cs) 0 [.int k2 n2]=some (.int k2 n2::cs):=put_hit _ _ _ rfl rfl
theorem Dk (k:IntKind) (n:Int) (cs vs:List V) (v:V) (o:Nat):put (.int k n::cs) (o+1) (v::vs)=(put cs o (v::vs)).map (.int k n::·):=put_miss _ _ _ _ _ rfl
theorem Dl (k:IntKind) (n:Int) (cs:List V):cut (.int k n::cs) 0 1=some [.int k n]:=cut_hit _ _ rfl
theorem Dm (k:IntKind) (n:Int) (cs:List V) (o n':Nat):cut (.int k n::cs) (o+1) (n'+1)=cut cs o (n'+1):=cut_miss _ _ _ _ rfl
theorem Dn (b:Bool) (b2:Bool) (cs:List V):put (.bool b::cs) 0 [.bool b2]=some (.bool b2::cs):=put_hit _ _ _ rfl rfl
theorem Dp (b:Bool) (cs vs:List V) (v:V) (o:Nat):put (.bool b::cs) (o+1) (v::vs)=(put cs o (v::vs)).map (.bool b::·):=put_miss _ _ _ _ _ rfl
theorem Dq (b:Bool) (cs:List V):cut (.bool b::cs) 0 1=some [.bool b]:=cut_hit _ _ rfl
theorem Dr (b:Bool) (cs:List V) (o n':Nat):cut (.bool b::cs) (o+1) (n'+1)=cut cs o (n'+1):=cut_miss _ _ _ _ rfl
theorem Ds (p:Option Ptr) (p2:Option Ptr) (cs:List V):put (.ptr p::cs) 0 [.ptr p2]=some (.ptr p2::cs):=put_hit _ _ _ rfl rfl
theorem Dt (p:Option Ptr) (cs vs:List V) (v:V) (o:Nat):put (.ptr p::cs) (o+1) (v::vs)=(put cs o (v::vs)).map (.ptr p::·):=put_miss _ _ _ _ _ rfl
theorem Du (p:Option Ptr) (cs:List V):cut (.ptr p::cs) 0 1=some [.ptr p]:=cut_hit _ _ rfl
theorem Dw (p:Option Ptr) (cs:List V) (o n':Nat):cut (.ptr p::cs) (o+1) (n'+1)=cut cs o (n'+1):=cut_miss _ _ _ _ rfl
theorem Dx (p:Option Ptr) (a b c:Nat) (p2:Option Ptr) (a2 b2 c2:Nat) (cs:List V):put (.slice p a b c::cs) 0 [.slice p2 a2 b2 c2]=some (.slice p2 a2 b2 c2::cs):=put_hit _ _ _ rfl rfl
theorem Dy (p:Option Ptr) (a b c:Nat) (cs vs:List V) (v:V) (o:Nat):put (.slice p a b c::cs) (o+1) (v::vs)=(put cs o (v::vs)).map (.slice p a b c::·):=put_miss _ _ _ _ _ rfl
theorem Dz (p:Option Ptr) (a b c:Nat) (cs:List V):cut (.slice p a b c::cs) 0 1=some [.slice p a b c]:=cut_hit _ _ rfl
theorem D2 (p:Option Ptr) (a b c:Nat) (cs:List V) (o n':Nat):cut (.slice p a b c::cs) (o+1) (n'+1)=cut cs o (n'+1):=cut_miss _ _ _ _ rfl
theorem D3 (r:Option Bk) (r2:Option Bk) (cs:List V):put (.map r::cs) 0 [.map r2]=some (.map r2::cs):=put_hit _ _ _ rfl rfl
theorem D4 (r:Option Bk) (cs vs:List V) (v:V) (o:Nat):put (.map r::cs) (o+1) (v::vs)=(put cs o (v::vs)).map (.map r::·):=put_miss _ _ _ _ _ rfl
theorem D5 (r:Option Bk) (cs:List V):cut (.map r::cs) 0 1=some [.map r]:=cut_hit _ _ rfl
theorem D6 (r:Option Bk) (cs:List V) (o n':Nat):cut (.map r::cs) (o+1) (n'+1)=cut cs o (n'+1):=cut_miss _ _ _ _ rfl
theorem loadAt_eq {H:Heap} {b:Bk} {o sz:Nat} {ro:Bool} {esz:Nat} {rs:List (List V)} (h:H.get b=some (.rows ro esz rs)) {r:List V} (hr:nth rs (o / esz)=some r):loadAt H ⟨b,o⟩ sz=cut r (o % esz) sz:=by
 unfold loadAt
 simp only[h,Ca,hr,Cb]
theorem storeAt_eq {H:Heap} {b:Bk} {o:Nat} {vs:List V} {esz:Nat} {rs:List (List V)} (h:H.get b=some (.rows false esz rs)) {r r':List V} (hr:nth rs (o / esz)=some r) (hp:put r (o % esz) vs=some r'):storeAt H ⟨b,o⟩ vs=some (H.set b (.rows false esz (rs.set (o / esz) r'))):=by
 unfold storeAt
 simp only[h,Ca,hr,Cb,hp,upd_eq]
theorem C9 (H:Heap) (x y:Nat):storeAt (H.add (.rows false 64 [[.blk y]])) ⟨.run H.next,0⟩ [.blk x]=some ((H.add (.rows false 64 [[.blk y]])).set (.run H.next) (.rows false 64 [[.blk x]])):=by
 have h:(H.add (.rows false 64 [[.blk y]])).get (.run H.next)=some (.rows false 64 [[.blk y]]):=by rw[Heap.get_add,if_pos rfl]
 exact storeAt_eq h (r:=[.blk y]) rfl (Dg _ _ _)
theorem D7 (H:Heap) (x:Nat):loadAt (H.add (.rows false 64 [[.blk x]])) ⟨.run H.next,0⟩ 64=some [.blk x]:=by
 have h:(H.add (.rows false 64 [[.blk x]])).get (.run H.next)=some (.rows false 64 [[.blk x]]):=by rw[Heap.get_add,if_pos rfl]
 rw[loadAt_eq h (r:=[.blk x]) rfl]
 exact Dh _ _
theorem Di (k:IntKind) (n:Int) (B:Nat):cut [.int k n,.blk B] 0 65=some [.int k n,.blk B]:=rfl
theorem Dd (H:Heap) (b:Bk) (x:Nat):loadAt (H.set b (.rows false 64 [[.blk x]])) ⟨b,0⟩ 64=some [.blk x]:=by
 have h:(H.set b (.rows false 64 [[.blk x]])).get b=some (.rows false 64 [[.blk x]]):=by rw[Heap.get_set,if_pos rfl]
 rw[loadAt_eq h (r:=[.blk x]) rfl]
 exact Dh _ _
theorem Da (H:Heap) (k k2:IntKind) (n n2:Int) (B B2:Nat):storeAt (H.add (.rows false 65 [[.int k n,.blk B]])) ⟨.run H.next,0⟩ [.int k2 n2,.blk B2]=some ((H.add (.rows false 65 [[.int k n,.blk B]])).set (.run H.next) (.rows false 65 [[.int k2 n2,.blk B2]])):=by
 have h:(H.add (.rows false 65 [[.int k n,.blk B]])).get (.run H.next)=some (.rows false 65 [[.int k n,.blk B]]):=by rw[Heap.get_add,if_pos rfl]
 exact storeAt_eq h (r:=[.int k n,.blk B]) rfl rfl
theorem Db (H:Heap) (b:Bk) (k:IntKind) (n:Int) (B:Nat):loadAt (H.set b (.rows false 65 [[.int k n,.blk B]])) ⟨b,0⟩ 1=some [.int k n]:=by
 have h:(H.set b (.rows false 65 [[.int k n,.blk B]])).get b=some (.rows false 65 [[.int k n,.blk B]]):=by rw[Heap.get_set,if_pos rfl]
 rw[loadAt_eq h (r:=[.int k n,.blk B]) rfl];rfl
theorem Dc (H:Heap) (b:Bk) (k:IntKind) (n:Int) (B:Nat):loadAt (H.set b (.rows false 65 [[.int k n,.blk B]])) ⟨b,1⟩ 64=some [.blk B]:=by
 have h:(H.set b (.rows false 65 [[.int k n,.blk B]])).get b=some (.rows false 65 [[.int k n,.blk B]]):=by rw[Heap.get_set,if_pos rfl]
 rw[loadAt_eq h (r:=[.int k n,.blk B]) rfl];rfl
structure Turns (X:Bk→Prop) (H H':Heap):Prop where
 next:H.next≤H'.next
 same:∀ c,H.Old c→¬ X c→H'.get c=H.get c
 q:QOk H→QOk H'
theorem Turns.refl (X:Bk→Prop) (H:Heap):Turns X H H:=⟨Nat.le_refl _,fun _ _ _=>rfl,id⟩
theorem Turns.trans {X:Bk→Prop} {H H1 H2:Heap} (h:Turns X H H1) (k:Turns X H1 H2):Turns X H H2:=
 ⟨Nat.le_trans h.next k.next,fun c hc hx=>(k.same c (hc.mono h.next) hx).trans (h.same c hc hx),fun q=>k.q (h.q q)⟩
theorem Turns.wide {X Y:Bk→Prop} {H H':Heap} (h:Turns X H H') (hxy:∀ c,X c→Y c):Turns Y H H':=
 ⟨h.next,fun c hc hy=>h.same c hc (fun hx=>hy (hxy c hx)),h.q⟩
theorem Turns.add (X:Bk→Prop) (H:Heap) (o:Obj):Turns X H (H.add o):=
 ⟨by simp,fun c hc _=>by rw[Heap.get_add,if_neg (fun e:c=.run H.next=>Heap.not_old (Nat.le_refl _) (by rw[← e];exact hc))],fun q=>q⟩
theorem Turns.set {X:Bk→Prop} {b:Bk} (hb:X b) (H:Heap) (o:Obj):Turns X H (H.set b o):=
 ⟨by simp,fun c hc hx=>by rw[Heap.get_set,if_neg (fun e:c=b=>hx (by rw[e];exact hb))],fun q=>q⟩
theorem Turns.setnew {X:Bk→Prop} {H K:Heap} (h:Turns X H K) {n:Nat} (hn:H.next≤n) (o:Obj):Turns X H (K.set (.run n) o):=
 ⟨by simpa using h.next,fun c hc hx=>by rw[Heap.get_set,if_neg (fun e:c=.run n=>Heap.not_old hn (by rw[← e];exact hc))];exact h.same c hc hx,fun q=>h.q q⟩
theorem Turns.addm {X:Bk→Prop} {H K:Heap} (h:Turns X H K) (o:Obj):Turns X H (K.add o):=h.trans (Turns.add X K o)
theorem Turns.setm {X:Bk→Prop} {H K:Heap} (h:Turns X H K) {b:Bk} (hb:X b) (o:Obj):Turns X H (K.set b o):=h.trans (Turns.set hb K o)
theorem Turns.owe {X:Bk→Prop} {H K:Heap} (h:Turns X H K) {q:List (Option V × Option V)} (hq:∀ p ∈ q,p.1=p.2):Turns X H (K.owe q):=
 ⟨h.next,fun c hc hx=>by rw[Heap.get_owe];exact h.same c hc hx,fun k p hp=>by
  rcases List.mem_append.1 hp with hp | hp
  ·exact hq p hp
  ·exact h.q k p hp⟩
def Good (res:List R) (x:X) (s:St):Prop:=s.d=[]∧(x=.n∨x=.ret)∧∃ vs,resultsV s.t s.H res=some vs∧tup vs=.bool true∧QOk s.H
end Go.Am
