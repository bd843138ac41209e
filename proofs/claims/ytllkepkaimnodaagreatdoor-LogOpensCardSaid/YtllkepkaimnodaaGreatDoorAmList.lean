import Derived.Test.YtllkepkaimnodaaGreatDoorAmTac
set_option linter.unusedVariables false
set_option linter.unusedSimpArgs false
namespace Go.Am
def Lst (H0 H:Heap) (sz:Nat) (R:List (List V)) (v:V):Prop:=
 (R=[]∧v=.slice none 0 0 0)∨∃ n,R≠[]∧v=.slice (some ⟨.run n,0⟩) R.length R.length sz∧H.get (.run n)=some (.rows false sz R)∧H0.next≤n∧n < H.next
def Bof (v:V):Bk→Prop:=fun c=>∃ p l k o,v=.slice (some p) l k o∧c=p.b
theorem Lst.nil (H0 H:Heap) (sz:Nat):Lst H0 H sz [] (.slice none 0 0 0):=.inl ⟨rfl,rfl⟩
theorem Lst.bof {H0 H:Heap} {sz:Nat} {R:List (List V)} {v:V} (h:Lst H0 H sz R v) {c:Bk} (hc:Bof v c):∃ n,c=.run n∧H0.next≤n∧n < H.next∧H.get c=some (.rows false sz R):=by
 obtain⟨p,l,k,o,rfl,rfl⟩:=hc
 rcases h with ⟨_,h⟩ | ⟨n,_,h,hg,h1,h2⟩
 ·cases h
 ·cases h;exact⟨n,rfl,h1,h2,hg⟩
theorem Lst.turns {H0 H H':Heap} {sz:Nat} {R:List (List V)} {v:V} (h:Lst H0 H sz R v) {X:Bk→Prop} (k:Turns X H H') (hx:∀ c,Bof v c→¬ X c):Lst H0 H' sz R v:=by
 rcases h with h | ⟨n,h1,h2,h3,h4,h5⟩
 ·exact .inl h
 ·refine .inr ⟨n,h1,h2,?_,h4,Nat.lt_of_lt_of_le h5 k.next⟩
  rw[k.same (.run n) h5 (hx _ ⟨_,_,_,_,h2,rfl⟩)];exact h3
theorem Lst.len {H0 H:Heap} {sz:Nat} {R:List (List V)} {v:V} (h:Lst H0 H sz R v) (t:T) (s:S) (hs:s.get t=some v):lenF s t=some (.int .i64 (R.length:Int)):=by
 unfold lenF
 rw[hs]
 rcases h with ⟨rfl,rfl⟩ | ⟨n,_,rfl,_⟩<;>rfl
theorem Lst.val {H0 H:Heap} {sz:Nat} {R:List (List V)} {v:V} (h:Lst H0 H sz R v):∃ p c o,v=.slice p R.length c o:=by
 rcases h with ⟨rfl,rfl⟩ | ⟨n,_,rfl,_⟩
 ·exact⟨_,_,_,rfl⟩
 ·exact⟨_,_,_,rfl⟩
theorem Lst.app {H0 H:Heap} {sz by':Nat} {R new:List (List V)} {v x:V} (h:Lst H0 H sz R v) (h0:H0.next≤H.next) (hx:firstE H sz x=some new) (hl:lenOf x=some new.length) (hne:new≠[]) (hz:sz≠0)
  (h1:(R.length+new.length)*by'≤1099511627776) (h2:R.length+new.length≤1099511627776) :
  ∃ H',appendV sz by' H v x=some (.slice (some ⟨.run H.next,0⟩) (R.length+new.length) (R.length+new.length) sz,H')∧Lst H0 H' sz (R++new) (.slice (some ⟨.run H.next,0⟩) (R.length+new.length) (R.length+new.length) sz)∧Turns (Bof v) H H'∧H'.next=H.next+1:=by
 have hn0:new.length≠0:=by simpa using hne
 have hn0':new.length.beq 0=false:=beq_false.2 hn0
 have hb1:Nat.ble (Nat.mul (Nat.add R.length new.length) by') 1099511627776=true:=ble_iff.2 h1
 have hb2:Nat.ble (Nat.add R.length new.length) 1099511627776=true:=ble_iff.2 h2
 rcases h with ⟨rfl,rfl⟩ | ⟨n,hR,rfl,hg,h3,h4⟩
 ·refine⟨H.add (.rows false sz ([]++new)),?_,.inr ⟨H.next,by simpa using hne,by simp,?_,h0,by simp⟩,Turns.add _ _ _,by simp⟩
  ·unfold appendV
   simp only[hl,hn0',List.length_nil] at hb1 hb2 ⊢
   rw[hb1,hb2]
   have hr:Nat.ble (Nat.add 0 new.length) 0=false:=by
    cases he:Nat.ble (Nat.add 0 new.length) 0 with
    | false=>rfl
    | true=>exact absurd (ble_iff.1 he) (by rw[B7];omega)
   have hf:firstE H sz (.slice none 0 0 0)=some []:=rfl
   simp only[hx,hr,hf,Bool.and_self,show Nat.beq 0 0=true from rfl]
   rfl
  ·rw[Heap.get_add,if_pos rfl]
 ·have hRl:R.length≠0:=by simpa using hR
  refine⟨(H.set (.run n) .dead).add (.rows false sz (R++new)),?_,.inr ⟨H.next,by simp[hR],by simp,?_,h0,by simp⟩,(Turns.set (b:=.run n) ⟨_,_,_,_,rfl,rfl⟩ H .dead).addm _,by simp⟩
  ·unfold appendV
   simp only[hl,hn0']
   rw[hb1,hb2]
   have hz':sz.beq 0=false:=beq_false.2 hz
   simp only[hx,hz',hg,Bool.and_self,nbeq,Cb,Ca,B7,Nat.zero_mod,Nat.zero_div,Nat.zero_add,beq_self_eq_true,List.drop_zero,Bool.true_and,Bool.and_true]
   rfl
  ·rw[Heap.get_add,if_pos (by simp)]
theorem Lst.app1 {H0 H:Heap} {sz by':Nat} {R:List (List V)} {r:List V} {v:V} {x:Bk} (h:Lst H0 H sz R v) (h0:H0.next≤H.next) (hx:H.get x=some (.rows false sz [r])) (hc:cut r 0 sz=some r) (hz:sz≠0)
  (h1:(R.length+1)*by'≤1099511627776) (h2:R.length+1≤1099511627776) :
  ∃ H',appendV sz by' H v (.slice (some ⟨x,0⟩) 1 1 0)=some (.slice (some ⟨.run H.next,0⟩) (R.length+1) (R.length+1) sz,H')∧Lst H0 H' sz (R++[r]) (.slice (some ⟨.run H.next,0⟩) (R.length+1) (R.length+1) sz)∧Turns (Bof v) H H'∧H'.next=H.next+1:=by
 have hf:firstE H sz (.slice (some ⟨x,0⟩) 1 1 0)=some [r]:=by
  simp only[firstE,elems]
  rw[loadAt_eq hx (r:=r) (by rw[Nat.zero_div];rfl),Nat.zero_mod,hc]
  rfl
 exact h.app (new:=[r]) h0 hf rfl (by simp) hz h1 h2
theorem Lst.load {H0 H:Heap} {sz:Nat} {R:List (List V)} {v:V} (h:Lst H0 H sz R v) {i o k:Nat} {r:List V} (hi:R[i]?=some r) (ho:o < sz):∃ n,v=.slice (some ⟨.run n,0⟩) R.length R.length sz∧loadAt H ⟨.run n,i*sz+o⟩ k=cut r o k:=by
 rcases h with ⟨rfl,_⟩ | ⟨n,hR,rfl,hg,h3,h4⟩
 ·cases hi
 ·refine⟨n,rfl,?_⟩
  have e1:(i*sz+o) / sz=i:=by
   rw[Nat.mul_comm,Nat.mul_add_div (by omega),Nat.div_eq_of_lt ho,Nat.add_zero]
  have e2:(i*sz+o) % sz=o:=by
   rw[Nat.mul_comm,Nat.mul_add_mod,Nat.mod_eq_of_lt ho]
  rw[loadAt_eq hg (r:=r) (nth_of (by rw[e1];exact hi)),e2]
theorem Turns.later {X:Bk→Prop} {H0 H H':Heap} {Y:Bk→Prop} (h:Turns X H0 H) (k:Turns Y H H') (hy:∀ c,H0.Old c→Y c→X c):Turns X H0 H':=
 ⟨Nat.le_trans h.next k.next,fun c hc hx=>(k.same c (hc.mono h.next) (fun e=>hx (hy c hc e))).trans (h.same c hc hx),fun q=>k.q (h.q q)⟩
end Go.Am
