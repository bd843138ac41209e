import Derived.Test.YtllkepkaimnodaaGreatDoorAmVeil4
import Derived.Test.YtllkepkaimnodaaGreatDoorAmTac
set_option linter.unusedVariables false
set_option linter.unusedSimpArgs false
set_option linter.unusedSectionVars false
namespace Go.Am
theorem ret_callU {P:Program} {S:CallT} {dom:FuncId→Bool} {lf n:Nat} {f:FuncId} {args:List V} {c:CFn} {H:Heap} {Q:V→Heap→Prop} (hS:S f args H=none) (hd:dom f=false) (hf:fnOf P f=some c)
  (h:wp (runC (callU P S dom lf n) lf c.body ⟨argsT args 0 .e,H,[]⟩) fun x s=>s.d=[]∧(x=.n∨x=.ret)∧∃ vs,resultsV s.t s.H c.res=some vs∧Q (tup vs) s.H):ret (callU P S dom lf (n+1) f args H) Q:=by
 obtain⟨x,s,e,hd',hx,vs,hv,hq⟩:=h
 refine⟨tup vs,s.H,?_,hq⟩
 rw[callU_run hS hd hf]
 unfold runF
 rw[e]
 rcases hx with rfl | rfl
 ·simp only[hd',leave,endF,hv]
 ·simp only[hd',leave,endF,hv]
theorem callU_tab {P:Program} {l:List Row} {S0:CallT} {dom:FuncId→Bool} {lf d:Nat} {f:FuncId} {k:List V→Heap→Option (Rs × Heap)} {args:List V} {G:Heap} {r:Rs × Heap} (hl:∀ args H,tabU l f args H=k args H) (h:k args G=some r):callU P (upS l S0) dom lf (d+1) f args G=some r:=
 callU_told (by show (match tabU l f args G with | some r=>some r | none=>S0 f args G)=some r;rw[hl,h])
noncomputable def ldO (o:Option Obj) (off sz:Nat):Option (List V):=match o with
 | some (.rows _ esz rs)=>match nth rs (Nat.div off esz) with
  | some r=>cut r (Nat.mod off esz) sz
  | none=>none
 | _=>none
noncomputable def stO (o:Option Obj) (off:Nat) (vs:List V):Option Obj:=match o with
 | some (.rows false esz rs)=>match nth rs (Nat.div off esz) with
  | some r=>match put r (Nat.mod off esz) vs with
   | some r'=>some (.rows false esz (upd r' rs (Nat.div off esz)))
   | none=>none
  | none=>none
 | _=>none
theorem ld_get (H:Heap) (b:Bk) (o sz:Nat):loadAt H ⟨b,o⟩ sz=ldO (H.get b) o sz:=rfl
theorem st_get (H:Heap) (b:Bk) (o:Nat) (vs:List V):storeAt H ⟨b,o⟩ vs=(stO (H.get b) o vs).map (H.set b ·):=by
 unfold storeAt stO
 dsimp only
 cases hg:H.get b with
 | none=>rfl
 | some o'=>
  cases o' with
  | rows ro esz rs=>
   cases ro with
   | false=>
    dsimp only
    cases nth rs (Nat.div o esz) with
    | none=>rfl
    | some r=>
     dsimp only
     cases put r (Nat.mod o esz) vs with
     | none=>rfl
     | some r'=>rfl
   | true=>rfl
  | map es c=>rfl
  | box v=>rfl
  | iter m a l c=>rfl
  | dead=>rfl
theorem ldO_one {ro:Bool} {esz:Nat} {r:List V} {o sz:Nat} (h:o+1≤esz):ldO (some (.rows ro esz [r])) o sz=cut r o sz:=by
 unfold ldO
 simp only[Ca,Cb,Nat.div_eq_of_lt (Nat.lt_of_succ_le h),Nat.mod_eq_of_lt (Nat.lt_of_succ_le h),C6]
theorem stO_one {esz:Nat} {r:List V} {o:Nat} {vs:List V} (h:o+1≤esz):stO (some (.rows false esz [r])) o vs=(put r o vs).map fun r'=>.rows false esz [r']:=by
 unfold stO
 simp only[Ca,Cb,Nat.div_eq_of_lt (Nat.lt_of_succ_le h),Nat.mod_eq_of_lt (Nat.lt_of_succ_le h),C6]
 cases put r o vs<;>rfl
theorem run_eq (a b:Nat):(Bk.run a=Bk.run b)=(a=b):=by simp
theorem le_chain {x y:Nat} (h:x≤y) (k:Nat):(x≤y+k)=True:=by simp;omega
theorem ne_chain {x y:Nat} (h:x≤y) (k:Nat):(x=y+(k+1))=False:=by simp;omega
theorem en_chain {x y:Nat} (h:x≤y) (k:Nat):(y+(k+1)=x)=False:=by simp;omega
theorem Heap.Old.ne {H:Heap} {b:Bk} (h:H.Old b) (n:Nat) (hn:H.next≤n):(b=.run n)=False:=by
 simp only[eq_iff_iff,iff_false]
 intro e
 exact Heap.not_old hn (by rw[← e];exact h)
theorem Heap.Old.en {H:Heap} {b:Bk} (h:H.Old b) (n:Nat) (hn:H.next≤n):(.run n=b)=False:=by rw[← h.ne n hn];exact propext ⟨Eq.symm,Eq.symm⟩
theorem get_skip (H:Heap) (k:Nat) (b:Bk):(H.skip k).get b=H.get b:=by rw[Heap.get_skip]
theorem get_owe (H:Heap) (q:List (Option V × Option V)) (b:Bk):(H.owe q).get b=H.get b:=by rw[Heap.get_owe]
theorem Turns.skip {X:Bk→Prop} {H K:Heap} (h:Turns X H K) (k:Nat):Turns X H (K.skip k):=
 ⟨Nat.le_trans h.next (Nat.le_add_right _ _),fun c hc hx=>by rw[get_skip];exact h.same c hc hx,fun q=>h.q q⟩
theorem Turns.put {X:Bk→Prop} {H K:Heap} (h:Turns X H K) {b:Bk} (hb:X b∨¬ H.Old b) (o:Obj):Turns X H (K.set b o):=
 ⟨by simpa using h.next,fun c hc hx=>by
  rw[Heap.get_set,if_neg (fun e:c=b=>?_)]
  ·exact h.same c hc hx
  ·rcases hb with hb | hb
   ·exact hx (by rw[e];exact hb)
   ·exact hb (by rw[← e];exact hc),fun q=>h.q q⟩
theorem Turns.setn {X:Bk→Prop} {H K:Heap} (h:Turns X H K) (n:Nat) (hn:H.next≤n) (o:Obj):Turns X H (K.set (.run n) o):=h.put (.inr (Heap.not_old hn)) o
theorem Turns.setb {b:Bk} {H K:Heap} (h:Turns (fun c=>c=b) H K) (o:Obj):Turns (fun c=>c=b) H (K.set b o):=h.put (.inl rfl) o
theorem Turns.setl {a b:Bk} {H K:Heap} (h:Turns (fun c=>c=a∨c=b) H K) (o:Obj):Turns (fun c=>c=a∨c=b) H (K.set a o):=h.put (.inl (.inl rfl)) o
theorem Turns.setr {a b:Bk} {H K:Heap} (h:Turns (fun c=>c=a∨c=b) H K) (o:Obj):Turns (fun c=>c=a∨c=b) H (K.set b o):=h.put (.inl (.inr rfl)) o
theorem hv:type_of% (And.intro (And.intro (And.intro (@ld_get) (And.intro (@st_get) (@Heap.get_set))) (And.intro (@Heap.get_add) (And.intro (@get_skip) (@get_owe)))) (And.intro (And.intro (@Heap.next_skip) (And.intro (@Heap.next_owe) (@run_eq))) (And.intro (And.intro (@ne_chain) (@en_chain)) (And.intro (@le_chain) (@Nat.le_refl))))):=
 (And.intro (And.intro (And.intro (@ld_get) (And.intro (@st_get) (@Heap.get_set))) (And.intro (@Heap.get_add) (And.intro (@get_skip) (@get_owe)))) (And.intro (And.intro (@Heap.next_skip) (And.intro (@Heap.next_owe) (@run_eq))) (And.intro (And.intro (@ne_chain) (@en_chain)) (And.intro (@le_chain) (@Nat.le_refl)))))
end Go.Am
