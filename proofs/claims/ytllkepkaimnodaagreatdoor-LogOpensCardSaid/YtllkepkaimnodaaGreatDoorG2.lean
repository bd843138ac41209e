import Derived.Test.YtllkepkaimnodaaGreatDoorG1
import Derived.Test.YtllkepkaimnodaaGreatDoorAmVeil4
import Derived.Test.YtllkepkaimnodaaGreatDoorG0
import Derived.Test.YtllkepkaimnodaaGreatDoorAmVeil6
import Derived.Test.YtllkepkaimnodaaGreatDoorAmList
set_option linter.unusedVariables false
set_option linter.unusedSectionVars false
set_option linter.unusedSimpArgs false
set_option maxRecDepth 10000
open Nat renaming reduceEqDiff → zA, reduceLeDiff → zB, reduceSub → zC, reduceMul → zD, reduceMod → zE, reduceDiv → zF, reduceAdd → zG
open Int renaming reduceBEq → zH
namespace Go.Proofs.YtllkepkaimnodaaGreatDoor.disk
open Go.Am
open Classical in
noncomputable def pick {α:Type} (p:α→Prop):Option α:=if h:∃ x,p x then some (Classical.choose h) else none
theorem pick_some {α:Type} {p:α→Prop} {x:α} (h:pick p=some x):p x:=by
 unfold pick at h
 split at h
 ·rename_i hx;cases h;exact Classical.choose_spec hx
 ·cases h
theorem pick_eq {α:Type} {p:α→Prop} {x:α} (h:p x) (u:∀ y,p y→y=x):pick p=some x:=by
 unfold pick
 rw[dif_pos ⟨x,h⟩]
 exact congrArg some (u _ (Classical.choose_spec ⟨x,h⟩))
def encDev (D:Dev):V:=.tuple [.tuple (D.S.map .blk),.tuple (D.L.map fun w=>.tuple [.int .i64 w.1,.blk w.2]),.bool D.dead]
def encB (r:Bool) (B:Bn):V:=.tuple [.bool r,.tuple (B.l.map encDev),.int .i64 B.st,.int .i64 B.ar,.bool B.dk]
theorem map_inj {α β:Type} {f:α→β} (hf:∀ x y,f x=f y→x=y):∀ {l l':List α},l.map f=l'.map f→l=l'
 | [],[],_=>rfl
 | a::l,b::l',h=>by
  simp only[List.map_cons,List.cons.injEq] at h
  rw[hf _ _ h.1,map_inj hf h.2]
 | [],_::_,h=>by simp at h
 | _::_,[],h=>by simp at h
theorem encDev_inj (D D':Dev) (h:encDev D=encDev D'):D=D':=by
 obtain⟨S,L,d⟩:=D
 obtain⟨S',L',d'⟩:=D'
 simp only[encDev,V.tuple.injEq,List.cons.injEq,V.bool.injEq,and_true] at h
 obtain⟨h1,h2,h3⟩:=h
 have e1:=map_inj (fun x y h=>V.blk.inj h) h1
 have e2:=map_inj (fun x y h=>by
  simp only[V.tuple.injEq,List.cons.injEq,V.int.injEq,V.blk.injEq,true_and,and_true] at h
  exact Prod.ext (by omega) h.2) h2
 rw[e1,e2,h3]
theorem encB_inj {r r':Bool} {B B':Bn} (h:encB r B=encB r' B'):r=r'∧B=B':=by
 obtain⟨l,st,ar,dk⟩:=B
 obtain⟨l',st',ar',dk'⟩:=B'
 simp only[encB,V.tuple.injEq,List.cons.injEq,V.bool.injEq,V.int.injEq,true_and,and_true] at h
 obtain⟨h0,h1,h2,h3,h4⟩:=h
 exact⟨h0,by rw[map_inj encDev_inj h1,h2,h3,h4]⟩
def bx (r:Bool) (B:Bn):Am.Obj:=.box (encB r B)
theorem bx_inj {r r':Bool} {B B':Bn} (h:some (bx r B)=some (bx r' B')):r=r'∧B=B':=encB_inj (by simpa [bx] using h)
def A1 (v:V):Prop:=∃ r B,v=encB r B
def R1:RepT:=fun v H b F=>∃ r B ds so l,v=encB r B∧Rep r H b ds so l B∧F=BFoot b ds l
theorem DevAt.regq {H H':Heap} (hn:H'.next=H.next) (hg:H'.get=H.get) {b:Bk} {y:Lay} {D:Dev} (h:DevAt H b y D):DevAt H' b y D:=
 ⟨by rw[hg];exact h.own,by rw[hg];exact h.sure,h.nil,fun e=>by rw[hg];exact h.loose e,⟨(Heap.old_iff hn b).2 h.old.1,(Heap.old_iff hn _).2 h.old.2.1,fun e=>(Heap.old_iff hn _).2 (h.old.2.2 e)⟩,h.ne⟩
theorem DvsAt.regq {H H':Heap} (hn:H'.next=H.next) (hg:H'.get=H.get) {b ds:Bk} {so:Nat} {l:List Dv} {r1 r2 r3:V} (h:DvsAt H b ds so l r1 r2 r3):DvsAt H' b ds so l r1 r2 r3:=
 ⟨by rw[hg];exact h.own,by rw[hg];exact h.ptrs,fun i hi=>(h.dev i hi).regq hn hg,h.sep,⟨(Heap.old_iff hn b).2 h.old.1,(Heap.old_iff hn _).2 h.old.2⟩,h.ne,h.out⟩
theorem ok1:RepOk A1 R1:=by
 refine⟨?_,?_,?_⟩
 ·rintro v H b F _ ⟨r,B,ds,so,l,_,_,rfl⟩
  exact .inl rfl
 ·rintro v H b F c _ ⟨r,B,ds,so,l,_,h,rfl⟩ hc
  exact h.foot_old c hc
 ·rintro v H H' b F _ ⟨r,B,ds,so,l,rfl,h,rfl⟩ hs hn
  refine⟨r,B,ds,so,l,rfl,?_,rfl⟩
  have h0:Rep r ⟨H.m,H.next,H.a,[(none,some Am.undef)]⟩ b ds so l B:=⟨DvsAt.regq (H:=H) (H':=⟨H.m,H.next,H.a,[(none,some Am.undef)]⟩) rfl (by funext c;cases c<;>rfl) h.row,h.map⟩
  refine h0.turnsX (X:=fun c=>¬ BFoot b ds l c) ⟨hn,fun c _ hc=>?_,fun q=>?_⟩ (fun c hc hn=>hn hc)
  ·have hc:BFoot b ds l c:=Classical.byContradiction hc
   rw[hs c hc]
   cases c<;>rfl
  ·have:=q (none,some Am.undef) (List.mem_cons_self ..)
   cases this
structure Fit (B:Bn):Prop where
 ne:B.l≠[]
 le:B.l.length≤17
 good:∀ D ∈ B.l,Good D
 ar:0≤B.ar∧B.ar≤9223372036854775807
 st:0≤B.st∧B.st≤100000
abbrev Rel:=List V→Heap→Rs × Heap→Prop
noncomputable def relRow (p:Rel):List V→Heap→Option (Rs × Heap):=fun args G=>pick (p args G)
noncomputable abbrev Low (lf D:Nat):CallT:=callS Tryz.prog S0 lf D
section
variable {r:Bool} {G H:Heap} (u:Under A1 R1 G H) {b:Bk} {B:Bn}
include u
theorem opened (h:G.get b=some (bx r B)):∃ F ds so l,Cov A1 R1 F G H∧Rep r H b ds so l B∧F b=BFoot b ds l:=by
 obtain⟨F,c⟩:=u.ex
 obtain⟨r',B',ds,so,l,e,hR,hF⟩:=c.abs b _ h ⟨r,B,rfl⟩
 obtain⟨rfl,rfl⟩:=encB_inj e
 exact⟨F,ds,so,l,c,hR,hF⟩
theorem asked (K:Nat) {H1:Heap} (t:Turns Z H H1) (hK:H1.next≤H.next+K):Under A1 R1 (G.skip K) (H1.pad (H.next+K)):=u.pure ok1 t hK
theorem turned {F:Bk→Bk→Prop} {ds:Bk} {so:Nat} {l l':List Dv} {B':Bn} {H1:Heap} (c:Cov A1 R1 F G H) (h:G.get b=some (bx r B)) (hF:F b=BFoot b ds l) (k:RNext r H b ds so l H1 l' B') (K:Nat) (hK:H1.next≤H.next+K):Under A1 R1 ((G.set b (bx r B')).skip K) (H1.pad (H.next+K)):=
 u.op ok1 c h ⟨r,B,rfl⟩ ⟨r,B',rfl⟩ (F':=BFoot b ds l') ⟨r,B',ds,so,l',rfl,k.rep,rfl⟩ (fun d hd=>by rw[hF];exact k.foot d hd) (by rw[hF];exact k.turns) hK
theorem made {P:List Int} {ds:Bk} {l:List Dv} {H1:Heap} (hR:Rep r H1 (.run H.next) ds 1 l (newB P)) (hN:∀ c,BFoot (.run H.next) ds l c→¬ H.Old c) (t:Turns Z H H1) (K:Nat) (hK:H1.next≤H.next+K) (hK1:1≤K):Under A1 R1 ((G.add (bx r (newB P))).skip (K - 1)) (H1.pad (H.next+K)):=
 u.made ok1 ⟨r,newB P,rfl⟩ (F':=BFoot (.run H.next) ds l) ⟨r,newB P,ds,1,l,rfl,hR,rfl⟩ hN t hK hK1
theorem picks_low {pp:Option Ptr} {P:List Int} (h:PicksAt G pp P Z):PicksAt H pp P Z:=⟨fun e=>by
 obtain⟨x,ox,ro,rows,h1,h2,h3,h4,h5⟩:=h.has e
 exact⟨x,ox,ro,rows,h1,(Heap.old_iff u.next x).1 h2,h3,u.con h4 (veil_rows _ _ _),h5⟩⟩
end
theorem picks_uniq {G:Heap} {pp:Option Ptr} {P P':List Int} (h:PicksAt G pp P Z) (h':PicksAt G pp P' Z) (hl:P.length=P'.length):P=P':=by
 apply List.ext_getElem hl
 intro i h1 h2
 obtain⟨x,ox,ro,rows,e1,_,_,e4,e5⟩:=h.has (fun e=>by rw[e] at h1;simp at h1)
 obtain⟨x',ox',ro',rows',e1',_,_,e4',e5'⟩:=h'.has (fun e=>by rw[e] at h2;simp at h2)
 rw[e1] at e1';cases e1'
 rw[e4] at e4';cases e4'
 have:=(e5 i h1).symm.trans (e5' i h2)
 simpa using this
def wRead (K:Nat):Rel:=fun args G r=>∃(b:Bk) (d:Int) (n:Int) (B:Bn),args=[.ptr (some ⟨b,0⟩),.int .i64 d,.int .i64 n]∧G.get b=some (bx false B)∧Fit B∧r=(.v (.tuple [.blk (B.read d n),.int .i64 (B.rc d n)]),G.skip K)
theorem tRead {lf:Nat} (hlf:1000 < lf) (D K:Nat):RowTold A1 R1 (Low lf (D+4)) K (30,relRow (wRead K)):=by
 intro args G r G' h H u
 obtain⟨b,d,n,B,rfl,hb,hf,e⟩:=pick_some h
 cases e
 obtain⟨F,ds,so,l,c,hR,hF⟩:=opened u hb
 have hl:l≠[]:=fun e=>hf.ne (List.length_eq_zero_iff.1 (by rw[← hR.len,e];rfl))
 obtain⟨v,H1,e1,rfl,t⟩:=bread_all hR hl hf.good d n hlf D
 exact⟨_,H1,rfl,e1,fun hK=>asked u K t hK⟩
theorem uRead {K:Nat} {G:Heap} {b:Bk} {B:Bn} (hb:G.get b=some (bx false B)) (hf:Fit B) (d:Int) (n:Int):relRow (wRead K) [.ptr (some ⟨b,0⟩),.int .i64 d,.int .i64 n] G=some (.v (.tuple [.blk (B.read d n),.int .i64 (B.rc d n)]),G.skip K):=
 pick_eq ⟨b,d,n,B,rfl,hb,hf,rfl⟩ (by
  rintro q ⟨b',d',n',B',ha,hb',_,rfl⟩
  cases ha
  rw[hb] at hb'
  obtain⟨_,rfl⟩:=bx_inj hb'
  rfl)
def wSectors (K:Nat):Rel:=fun args G r=>∃(b:Bk) (d:Int) (B:Bn),args=[.ptr (some ⟨b,0⟩),.int .i64 d]∧G.get b=some (bx false B)∧Fit B∧r=(.v (.int .i64 (B.sectors d)),G.skip K)
theorem tSectors {lf:Nat} (hlf:1000 < lf) (D K:Nat):RowTold A1 R1 (Low lf (D+3)) K (40,relRow (wSectors K)):=by
 intro args G r G' h H u
 obtain⟨b,d,B,rfl,hb,hf,e⟩:=pick_some h
 cases e
 obtain⟨F,ds,so,l,c,hR,hF⟩:=opened u hb
 have hl:l≠[]:=fun e=>hf.ne (List.length_eq_zero_iff.1 (by rw[← hR.len,e];rfl))
 exact⟨_,H,rfl,bsectors_all hR hl hf.good d lf D,fun hK=>asked u K (Turns.refl Z H) hK⟩
theorem uSectors {K:Nat} {G:Heap} {b:Bk} {B:Bn} (hb:G.get b=some (bx false B)) (hf:Fit B) (d:Int):relRow (wSectors K) [.ptr (some ⟨b,0⟩),.int .i64 d] G=some (.v (.int .i64 (B.sectors d)),G.skip K):=
 pick_eq ⟨b,d,B,rfl,hb,hf,rfl⟩ (by
  rintro q ⟨b',d',B',ha,hb',_,rfl⟩
  cases ha
  rw[hb] at hb'
  obtain⟨_,rfl⟩:=bx_inj hb'
  rfl)
def wDevices (K:Nat):Rel:=fun args G r=>∃(b:Bk) (B:Bn),args=[.ptr (some ⟨b,0⟩)]∧G.get b=some (bx false B)∧Fit B∧r=(.v (.int .i64 (B.l.length:Int)),G.skip K)
theorem tDevices {lf:Nat} (hlf:1000 < lf) (D K:Nat):RowTold A1 R1 (Low lf (D+2)) K (100,relRow (wDevices K)):=by
 intro args G r G' h H u
 obtain⟨b,B,rfl,hb,hf,e⟩:=pick_some h
 cases e
 obtain⟨F,ds,so,l,c,hR,hF⟩:=opened u hb
 have hl:l≠[]:=fun e=>hf.ne (List.length_eq_zero_iff.1 (by rw[← hR.len,e];rfl))
 exact⟨_,H,rfl,(by rw[← hR.len];exact bdevs hR hl lf D),fun hK=>asked u K (Turns.refl Z H) hK⟩
theorem uDevices {K:Nat} {G:Heap} {b:Bk} {B:Bn} (hb:G.get b=some (bx false B)) (hf:Fit B):relRow (wDevices K) [.ptr (some ⟨b,0⟩)] G=some (.v (.int .i64 (B.l.length:Int)),G.skip K):=
 pick_eq ⟨b,B,rfl,hb,hf,rfl⟩ (by
  rintro q ⟨b',B',ha,hb',_,rfl⟩
  cases ha
  rw[hb] at hb'
  obtain⟨_,rfl⟩:=bx_inj hb'
  rfl)
def wWrite (K:Nat):Rel:=fun args G r=>∃(b:Bk) (d:Int) (n:Int) (x:Nat) (B:Bn),args=[.ptr (some ⟨b,0⟩),.int .i64 d,.int .i64 n,.blk x]∧G.get b=some (bx false B)∧Fit B∧r=(.v (.int .i64 (B.wc d n)),(G.set b (bx false (B.write d n x))).skip K)
theorem tWrite {lf:Nat} (hlf:1000 < lf) (D K:Nat):RowTold A1 R1 (Low lf (D+6)) K (8,relRow (wWrite K)):=by
 intro args G r G' h H u
 obtain⟨b,d,n,x,B,rfl,hb,hf,e⟩:=pick_some h
 cases e
 obtain⟨F,ds,so,l,c,hR,hF⟩:=opened u hb
 have hl:l≠[]:=fun e=>hf.ne (List.length_eq_zero_iff.1 (by rw[← hR.len,e];rfl))
 obtain⟨v,H1,e1,rfl,l',k⟩:=bwrite_all hR hl hf.good hf.ar hf.st d n x hlf D
 exact⟨_,H1,rfl,e1,fun hK=>turned u c hb hF k K hK⟩
theorem uWrite {K:Nat} {G:Heap} {b:Bk} {B:Bn} (hb:G.get b=some (bx false B)) (hf:Fit B) (d:Int) (n:Int) (x:Nat):relRow (wWrite K) [.ptr (some ⟨b,0⟩),.int .i64 d,.int .i64 n,.blk x] G=some (.v (.int .i64 (B.wc d n)),(G.set b (bx false (B.write d n x))).skip K):=
 pick_eq ⟨b,d,n,x,B,rfl,hb,hf,rfl⟩ (by
  rintro q ⟨b',d',n',x',B',ha,hb',_,rfl⟩
  cases ha
  rw[hb] at hb'
  obtain⟨_,rfl⟩:=bx_inj hb'
  rfl)
def wRSectors (K:Nat):Rel:=fun args G r=>∃(b:Bk) (d:Int) (B:Bn),args=[.ptr (some ⟨b,0⟩),.int .i64 d]∧G.get b=some (bx true B)∧Fit B∧r=(.v (.int .i64 (B.sectors d)),G.skip K)
theorem tRSectors {lf:Nat} (hlf:1000 < lf) (D K:Nat):RowTold A1 R1 (Low lf (D+2)) K (47,relRow (wRSectors K)):=by
 intro args G r G' h H u
 obtain⟨b,d,B,rfl,hb,hf,e⟩:=pick_some h
 cases e
 obtain⟨F,ds,so,l,c,hR,hF⟩:=opened u hb
 have hl:l≠[]:=fun e=>hf.ne (List.length_eq_zero_iff.1 (by rw[← hR.len,e];rfl))
 exact⟨_,H,rfl,rsectors hR d lf D,fun hK=>asked u K (Turns.refl Z H) hK⟩
theorem uRSectors {K:Nat} {G:Heap} {b:Bk} {B:Bn} (hb:G.get b=some (bx true B)) (hf:Fit B) (d:Int):relRow (wRSectors K) [.ptr (some ⟨b,0⟩),.int .i64 d] G=some (.v (.int .i64 (B.sectors d)),G.skip K):=
 pick_eq ⟨b,d,B,rfl,hb,hf,rfl⟩ (by
  rintro q ⟨b',d',B',ha,hb',_,rfl⟩
  cases ha
  rw[hb] at hb'
  obtain⟨_,rfl⟩:=bx_inj hb'
  rfl)
def wRRead (K:Nat):Rel:=fun args G r=>∃(b:Bk) (d:Int) (n:Int) (B:Bn),args=[.ptr (some ⟨b,0⟩),.int .i64 d,.int .i64 n]∧G.get b=some (bx true B)∧Fit B∧r=(.v (.tuple [.blk (B.read d n),.int .i64 (B.rc d n)]),G.skip K)
theorem tRRead {lf:Nat} (hlf:1000 < lf) (D K:Nat):RowTold A1 R1 (Low lf (D+3)) K (48,relRow (wRRead K)):=by
 intro args G r G' h H u
 obtain⟨b,d,n,B,rfl,hb,hf,e⟩:=pick_some h
 cases e
 obtain⟨F,ds,so,l,c,hR,hF⟩:=opened u hb
 have hl:l≠[]:=fun e=>hf.ne (List.length_eq_zero_iff.1 (by rw[← hR.len,e];rfl))
 obtain⟨v,H1,e1,rfl,t⟩:=rbread hR hf.good d n hlf D
 exact⟨_,H1,rfl,e1,fun hK=>asked u K t hK⟩
theorem uRRead {K:Nat} {G:Heap} {b:Bk} {B:Bn} (hb:G.get b=some (bx true B)) (hf:Fit B) (d:Int) (n:Int):relRow (wRRead K) [.ptr (some ⟨b,0⟩),.int .i64 d,.int .i64 n] G=some (.v (.tuple [.blk (B.read d n),.int .i64 (B.rc d n)]),G.skip K):=
 pick_eq ⟨b,d,n,B,rfl,hb,hf,rfl⟩ (by
  rintro q ⟨b',d',n',B',ha,hb',_,rfl⟩
  cases ha
  rw[hb] at hb'
  obtain⟨_,rfl⟩:=bx_inj hb'
  rfl)
def wRHas (K:Nat):Rel:=fun args G r=>∃(b:Bk) (d:Int) (B:Bn),args=[.ptr (some ⟨b,0⟩),.int .i64 d]∧G.get b=some (bx true B)∧Fit B∧r=(.v (.bool (B.tc d==0)),G.skip K)
theorem tRHas {lf:Nat} (hlf:1000 < lf) (D K:Nat):RowTold A1 R1 (Low lf (D+1)) K (46,relRow (wRHas K)):=by
 intro args G r G' h H u
 obtain⟨b,d,B,rfl,hb,hf,e⟩:=pick_some h
 cases e
 obtain⟨F,ds,so,l,c,hR,hF⟩:=opened u hb
 have hl:l≠[]:=fun e=>hf.ne (List.length_eq_zero_iff.1 (by rw[← hR.len,e];rfl))
 exact⟨_,H,rfl,rhas hR d lf D,fun hK=>asked u K (Turns.refl Z H) hK⟩
theorem uRHas {K:Nat} {G:Heap} {b:Bk} {B:Bn} (hb:G.get b=some (bx true B)) (hf:Fit B) (d:Int):relRow (wRHas K) [.ptr (some ⟨b,0⟩),.int .i64 d] G=some (.v (.bool (B.tc d==0)),G.skip K):=
 pick_eq ⟨b,d,B,rfl,hb,hf,rfl⟩ (by
  rintro q ⟨b',d',B',ha,hb',_,rfl⟩
  cases ha
  rw[hb] at hb'
  obtain⟨_,rfl⟩:=bx_inj hb'
  rfl)
def wRWrite (K:Nat):Rel:=fun args G r=>∃(b:Bk) (d:Int) (n:Int) (x:Nat) (B:Bn),args=[.ptr (some ⟨b,0⟩),.int .i64 d,.int .i64 n,.blk x]∧G.get b=some (bx true B)∧Fit B∧r=(.v (.int .i64 (B.wc d n)),(G.set b (bx true (B.write d n x))).skip K)
theorem tRWrite {lf:Nat} (hlf:1000 < lf) (D K:Nat):RowTold A1 R1 (Low lf (D+3)) K (9,relRow (wRWrite K)):=by
 intro args G r G' h H u
 obtain⟨b,d,n,x,B,rfl,hb,hf,e⟩:=pick_some h
 cases e
 obtain⟨F,ds,so,l,c,hR,hF⟩:=opened u hb
 have hl:l≠[]:=fun e=>hf.ne (List.length_eq_zero_iff.1 (by rw[← hR.len,e];rfl))
 obtain⟨v,H1,e1,rfl,l',k⟩:=rbwrite hR hf.good hf.ar hf.st d n x hlf D
 exact⟨_,H1,rfl,e1,fun hK=>turned u c hb hF k K hK⟩
theorem uRWrite {K:Nat} {G:Heap} {b:Bk} {B:Bn} (hb:G.get b=some (bx true B)) (hf:Fit B) (d:Int) (n:Int) (x:Nat):relRow (wRWrite K) [.ptr (some ⟨b,0⟩),.int .i64 d,.int .i64 n,.blk x] G=some (.v (.int .i64 (B.wc d n)),(G.set b (bx true (B.write d n x))).skip K):=
 pick_eq ⟨b,d,n,x,B,rfl,hb,hf,rfl⟩ (by
  rintro q ⟨b',d',n',x',B',ha,hb',_,rfl⟩
  cases ha
  rw[hb] at hb'
  obtain⟨_,rfl⟩:=bx_inj hb'
  rfl)
def wNew (K:Nat):Rel:=fun args G r=>∃(pp:Option Ptr) (P:List Int) (pc po:Nat),args=[.slice pp P.length pc po]∧PicksAt G pp P Z∧okSizes P∧r=(.v (.tuple [.ptr (some ⟨.run G.next,0⟩),.int .i64 0]),(G.add (bx false (newB P))).skip (K - 1))
theorem tNew {lf:Nat} (hlf:1000 < lf) (D K:Nat) (hK1:1≤K):RowTold A1 R1 (Low lf (D+2)) K (26,relRow (wNew K)):=by
 intro args G r G' h H u
 obtain⟨pp,P,pc,po,rfl,hP,hok,e⟩:=pick_some h
 cases e
 obtain⟨v,H1,e1,t,⟨hn,_⟩ | ⟨_,ds,l,rfl,hR,hN⟩⟩:=bnew_at H (picks_low u hP) hlf D (pc:=pc) (po:=po)
 ·exact absurd hok hn
 ·rw[u.next]
  exact⟨_,H1,rfl,e1,fun hK=>made u hR hN t K hK hK1⟩
theorem uNew {K:Nat} {G:Heap} {pp:Option Ptr} {P:List Int} (hP:PicksAt G pp P Z) (hok:okSizes P) (pc po:Nat):relRow (wNew K) [.slice pp P.length pc po] G=some (.v (.tuple [.ptr (some ⟨.run G.next,0⟩),.int .i64 0]),(G.add (bx false (newB P))).skip (K - 1)):=
 pick_eq ⟨pp,P,pc,po,rfl,hP,hok,rfl⟩ (by
  rintro q ⟨pp',P',pc',po',ha,hP',_,rfl⟩
  simp only[List.cons.injEq,V.slice.injEq,and_true] at ha
  obtain⟨rfl,hl,_⟩:=ha
  rw[picks_uniq hP hP' hl])
def wRNew (K:Nat):Rel:=fun args G r=>∃(pp:Option Ptr) (P:List Int) (pc po:Nat),args=[.slice pp P.length pc po]∧PicksAt G pp P Z∧okSizes P∧r=(.v (.tuple [.ptr (some ⟨.run G.next,0⟩),.int .i64 0]),(G.add (bx true (newB P))).skip (K - 1))
theorem tRNew {lf:Nat} (hlf:1000 < lf) (D K:Nat) (hK1:1≤K):RowTold A1 R1 (Low lf (D+2)) K (27,relRow (wRNew K)):=by
 intro args G r G' h H u
 obtain⟨pp,P,pc,po,rfl,hP,hok,e⟩:=pick_some h
 cases e
 obtain⟨v,H1,e1,t,⟨hn,_⟩ | ⟨_,ds,l,rfl,hR,hN⟩⟩:=rbnew_at H (picks_low u hP) hlf D (pc:=pc) (po:=po)
 ·exact absurd hok hn
 ·rw[u.next]
  exact⟨_,H1,rfl,e1,fun hK=>made u hR hN t K hK hK1⟩
theorem uRNew {K:Nat} {G:Heap} {pp:Option Ptr} {P:List Int} (hP:PicksAt G pp P Z) (hok:okSizes P) (pc po:Nat):relRow (wRNew K) [.slice pp P.length pc po] G=some (.v (.tuple [.ptr (some ⟨.run G.next,0⟩),.int .i64 0]),(G.add (bx true (newB P))).skip (K - 1)):=
 pick_eq ⟨pp,P,pc,po,rfl,hP,hok,rfl⟩ (by
  rintro q ⟨pp',P',pc',po',ha,hP',_,rfl⟩
  simp only[List.cons.injEq,V.slice.injEq,and_true] at ha
  obtain⟨rfl,hl,_⟩:=ha
  rw[picks_uniq hP hP' hl])
end Go.Proofs.YtllkepkaimnodaaGreatDoor.disk
namespace Go.Proofs.YtllkepkaimnodaaGreatDoor.draft
open Go.Am
end Go.Proofs.YtllkepkaimnodaaGreatDoor.draft
namespace Go.Proofs.YtllkepkaimnodaaGreatDoor.draft
open Go.Am
def fcells (ev id m s r:Int) (S:List Nat) (c:Int) (g:Bool):List V:=[.int .u64 ev,.int .u64 id]++rcells m s r S c g
structure FndAt (H:Heap) (b:Bk) (ev id m s r:Int) (S:List Nat) (c:Int) (g:Bool):Prop where
 own:H.get b=some (.rows false 23 [fcells ev id m s r S c g])
 len:S.length=16
section
variable {H:Heap} {b:Bk} {ev id m s r:Int} {S:List Nat} {c:Int} {g:Bool} (h:FndAt H b ev id m s r S c g)
include h
theorem FndAt.turns {H':Heap} (t:Turns Z H H') (ho:H.Old b):FndAt H' b ev id m s r S c g:=⟨(t.same b ho (fun h=>h)).trans h.own,h.len⟩
end
end Go.Proofs.YtllkepkaimnodaaGreatDoor.draft
namespace Go.Proofs.YtllkepkaimnodaaGreatDoor.draft
open Go.Am
section
variable {H:Heap} {b ds:Bk} {so:Nat} {l:List disk.Dv} {B:disk.Bn}
end
end Go.Proofs.YtllkepkaimnodaaGreatDoor.draft
namespace Go.Proofs.YtllkepkaimnodaaGreatDoor.draft
open Go.Am
section
variable {H:Heap} {b ds:Bk} {so:Nat} {l:List disk.Dv} {B:disk.Bn}
end
end Go.Proofs.YtllkepkaimnodaaGreatDoor.draft
namespace Go.Proofs.YtllkepkaimnodaaGreatDoor.draft
open Go.Am
end Go.Proofs.YtllkepkaimnodaaGreatDoor.draft
namespace Go.Proofs.YtllkepkaimnodaaGreatDoor.draft
open Go.Am
open disk (bx Fit A1 R1 relRow pick pick_eq pick_some Low ok1 opened asked bx_inj Rel)
def blankH:Heap:=⟨.e,0,fun _=>none,[]⟩
open Classical in
noncomputable def pureRow (call:CallT) (f:FuncId) (K:Nat):List V→Heap→Option (Rs × Heap):=fun args G=>match call f args blankH with
 | some (.v v,_)=>if ∀ H,∃ H1,call f args H=some (.v v,H1)∧Turns Z H H1 then some (.v v,G.skip K) else none
 | _=>none
theorem pure_told (call:CallT) (f:FuncId) (K:Nat):RowTold A1 R1 call K (f,pureRow call f K):=by
 intro args G r G' h H u
 have h:pureRow call f K args G=some (r,G'):=h
 unfold pureRow at h
 split at h
 ·rename_i v H0 h0
  split at h
  ·rename_i hall
   cases h
   obtain⟨H1,e1,t⟩:=hall H
   exact⟨v,H1,rfl,e1,fun hK=>asked u K t hK⟩
  ·cases h
 ·cases h
theorem pure_use {call:CallT} {f:FuncId} {args:List V} {v:V} (h:∀ H,ret (call f args H) fun w H'=>w=v∧Turns Z H H') (K:Nat) (G:Heap):pureRow call f K args G=some (.v v,G.skip K):=by
 unfold pureRow
 obtain⟨w,H1,e,rfl,t⟩:=h blankH
 rw[e]
 dsimp only
 rw[if_pos (fun H=>by
  obtain⟨w',H2,e2,e3,t2⟩:=h H
  exact⟨H2,by rw[e2,e3],t2⟩)]
theorem lives_low {lf:Nat} {H:Heap} (h:hasG 0 [8,2,8,8] H=true):Low lf 60 14 [] H=some (.v (.bool true),H):=by
 show (match S0 14 [] H with | some r=>some r | none=>_)=_
 have e:S0 14 [] H=some (.v (.bool true),H):=by
  show (match sumG 0 [8,2,8,8] 14 14 [] H with | some r=>some r | none=>_)=_
  have e2:sumG 0 [8,2,8,8] 14 14 [] H=some (.v (.bool true),H):=by
   show (match hasG 0 [8,2,8,8] H with | true=>some (Rs.v (V.bool true),H) | false=>none)=_
   rw[h]
  rw[e2]
 rw[e]
noncomputable def tab (lf K:Nat):List Row:=[
 (26,relRow (disk.wNew (K+2))),
 (30,relRow (disk.wRead (K+2))),
 (40,relRow (disk.wSectors (K+2))),
 (100,relRow (disk.wDevices (K+2))),
 (8,relRow (disk.wWrite (K+2))),
 (27,relRow (disk.wRNew (K+2))),
 (48,relRow (disk.wRRead (K+2))),
 (47,relRow (disk.wRSectors (K+2))),
 (46,relRow (disk.wRHas (K+2))),
 (9,relRow (disk.wRWrite (K+2))),
 (121,pureRow (Low lf 60) 121 (K+2)),
 (28,pureRow (Low lf 60) 28 (K+2)),
 (52,pureRow (Low lf 60) 52 (K+2)),
 (29,pureRow (Low lf 60) 29 (K+2)),
 (195,pureRow (Low lf 60) 195 (K+2)),
 (173,pureRow (Low lf 60) 173 (K+2)),
 (14,rowG 0 [8,2,8,8] (K+2))]
def dom0 (f:FuncId):Bool:=Nat.beq f 186
noncomputable abbrev U (lf K n:Nat):CallT:=callU Tryz.prog (upS (tab lf K) crc.takeS) (upD (tab lf K) dom0) lf n
theorem tab_told {lf:Nat} (hlf:1000 < lf) (K:Nat):∀ e ∈ tab lf K,RowTold A1 R1 (Low lf 60) (K+2) e:=by
 intro e he
 unfold tab at he
 simp only[List.mem_cons,List.not_mem_nil,or_false] at he
 rcases he with rfl | rfl | rfl | rfl | rfl | rfl | rfl | rfl | rfl | rfl | rfl | rfl | rfl | rfl | rfl | rfl | rfl
 ·exact disk.tNew hlf 58 (K+2) (Nat.le_add_left _ _)
 ·exact disk.tRead hlf 56 (K+2)
 ·exact disk.tSectors hlf 57 (K+2)
 ·exact disk.tDevices hlf 58 (K+2)
 ·exact disk.tWrite hlf 54 (K+2)
 ·exact disk.tRNew hlf 58 (K+2) (Nat.le_add_left _ _)
 ·exact disk.tRRead hlf 57 (K+2)
 ·exact disk.tRSectors hlf 58 (K+2)
 ·exact disk.tRHas hlf 59 (K+2)
 ·exact disk.tRWrite hlf 57 (K+2)
 ·exact pure_told _ _ _
 ·exact pure_told _ _ _
 ·exact pure_told _ _ _
 ·exact pure_told _ _ _
 ·exact pure_told _ _ _
 ·exact pure_told _ _ _
 ·exact rowG_told ok1 (fun H h=>lives_low h)
theorem s0_blind:Blind crc.takeS:=by
 intro f args G r G' h
 unfold crc.takeS at h
 split at h
 ·rename_i r c hfi
  split at h
  ·rename_i hb
   cases h
   refine⟨rfl,fun H=>?_⟩
   unfold crc.takeS
   simp only[hfi,hb]
  ·cases h
 ·cases h
theorem s0_dom (f:FuncId) (h:dom0 f=false) (args:List V) (H:Heap):crc.takeS f args H=none:=by
 unfold dom0 at h
 unfold crc.takeS;rw[h]
theorem tab_dom (lf K:Nat) (f:FuncId) (h:inTab (tab lf K) f=true):dom0 f=false:=by
 unfold tab at h
 simp only[inTab] at h
 repeat' (split at h)
 all_goals first
  | (rename_i hf;rw[beq_iff.1 hf];rfl)
  | cases h
theorem up_low {lf:Nat} (hlf:1000 < lf) (h0:CallSnd Tryz.prog S0) (h1:CallSnd Tryz.prog crc.takeS) (d:Nat):∃ K S,CallSnd Tryz.prog S∧CallU A1 R1 (U lf K d) (callS Tryz.prog S lf d):=by
 obtain⟨Y,hY⟩:=callU_grow (P:=Tryz.prog) (orS_grow (sumG_grow _ _ _) s0_blind.grow) (fun _=>false) lf 60
 rw[callU_none] at hY
 exact⟨Y,_,loS_snd h1 (callS_sound h0 lf 60) (tab lf Y) (Y+2),level_under ok1 s0_blind s0_dom (GrowS.mono hY (Nat.le_add_right _ _)) (tab_told hlf Y) (tab_dom lf Y) lf d⟩
theorem qNew {lf K w:Nat} {G:Heap} {pp:Option Ptr} {P:List Int} (hP:disk.PicksAt G pp P disk.Z) (hok:disk.okSizes P) (pc po:Nat):U lf K (w+1) 26 [.slice pp P.length pc po] G=some (.v (.tuple [.ptr (some ⟨.run G.next,0⟩),.int .i64 0]),(G.add (bx false (disk.newB P))).skip (K+1)):=callU_tab (fun _ _=>rfl) (disk.uNew (K:=K+2) hP hok pc po)
theorem qRead {lf K w:Nat} {G:Heap} {b:Bk} {B:disk.Bn} (hb:G.get b=some (bx false B)) (hf:Fit B) (d:Int) (n:Int):U lf K (w+1) 30 [.ptr (some ⟨b,0⟩),.int .i64 d,.int .i64 n] G=some (.v (.tuple [.blk (B.read d n),.int .i64 (B.rc d n)]),G.skip (K+2)):=callU_tab (fun _ _=>rfl) (disk.uRead (K:=K+2) hb hf d n)
theorem qSectors {lf K w:Nat} {G:Heap} {b:Bk} {B:disk.Bn} (hb:G.get b=some (bx false B)) (hf:Fit B) (d:Int):U lf K (w+1) 40 [.ptr (some ⟨b,0⟩),.int .i64 d] G=some (.v (.int .i64 (B.sectors d)),G.skip (K+2)):=callU_tab (fun _ _=>rfl) (disk.uSectors (K:=K+2) hb hf d)
theorem qDevices {lf K w:Nat} {G:Heap} {b:Bk} {B:disk.Bn} (hb:G.get b=some (bx false B)) (hf:Fit B):U lf K (w+1) 100 [.ptr (some ⟨b,0⟩)] G=some (.v (.int .i64 (B.l.length:Int)),G.skip (K+2)):=callU_tab (fun _ _=>rfl) (disk.uDevices (K:=K+2) hb hf )
theorem qWrite {lf K w:Nat} {G:Heap} {b:Bk} {B:disk.Bn} (hb:G.get b=some (bx false B)) (hf:Fit B) (d:Int) (n:Int) (x:Nat):U lf K (w+1) 8 [.ptr (some ⟨b,0⟩),.int .i64 d,.int .i64 n,.blk x] G=some (.v (.int .i64 (B.wc d n)),(G.set b (bx false (B.write d n x))).skip (K+2)):=callU_tab (fun _ _=>rfl) (disk.uWrite (K:=K+2) hb hf d n x)
theorem qRNew {lf K w:Nat} {G:Heap} {pp:Option Ptr} {P:List Int} (hP:disk.PicksAt G pp P disk.Z) (hok:disk.okSizes P) (pc po:Nat):U lf K (w+1) 27 [.slice pp P.length pc po] G=some (.v (.tuple [.ptr (some ⟨.run G.next,0⟩),.int .i64 0]),(G.add (bx true (disk.newB P))).skip (K+1)):=callU_tab (fun _ _=>rfl) (disk.uRNew (K:=K+2) hP hok pc po)
theorem qRRead {lf K w:Nat} {G:Heap} {b:Bk} {B:disk.Bn} (hb:G.get b=some (bx true B)) (hf:Fit B) (d:Int) (n:Int):U lf K (w+1) 48 [.ptr (some ⟨b,0⟩),.int .i64 d,.int .i64 n] G=some (.v (.tuple [.blk (B.read d n),.int .i64 (B.rc d n)]),G.skip (K+2)):=callU_tab (fun _ _=>rfl) (disk.uRRead (K:=K+2) hb hf d n)
theorem qRSectors {lf K w:Nat} {G:Heap} {b:Bk} {B:disk.Bn} (hb:G.get b=some (bx true B)) (hf:Fit B) (d:Int):U lf K (w+1) 47 [.ptr (some ⟨b,0⟩),.int .i64 d] G=some (.v (.int .i64 (B.sectors d)),G.skip (K+2)):=callU_tab (fun _ _=>rfl) (disk.uRSectors (K:=K+2) hb hf d)
theorem qRHas {lf K w:Nat} {G:Heap} {b:Bk} {B:disk.Bn} (hb:G.get b=some (bx true B)) (hf:Fit B) (d:Int):U lf K (w+1) 46 [.ptr (some ⟨b,0⟩),.int .i64 d] G=some (.v (.bool (B.tc d==0)),G.skip (K+2)):=callU_tab (fun _ _=>rfl) (disk.uRHas (K:=K+2) hb hf d)
theorem qRWrite {lf K w:Nat} {G:Heap} {b:Bk} {B:disk.Bn} (hb:G.get b=some (bx true B)) (hf:Fit B) (d:Int) (n:Int) (x:Nat):U lf K (w+1) 9 [.ptr (some ⟨b,0⟩),.int .i64 d,.int .i64 n,.blk x] G=some (.v (.int .i64 (B.wc d n)),(G.set b (bx true (B.write d n x))).skip (K+2)):=callU_tab (fun _ _=>rfl) (disk.uRWrite (K:=K+2) hb hf d n x)
theorem qp_ashlarref09_Get {lf K w:Nat} {G:Heap} {args:List V} {v:V} (h:∀ H,ret (callS Tryz.prog S0 lf 60 121 args H) fun w H'=>w=v∧Turns Z H H'):U lf K (w+1) 121 args G=some (.v v,G.skip (K+2)):=callU_tab (fun _ _=>rfl) (pure_use h (K+2) G)
theorem qp_ashlarref09_Put {lf K w:Nat} {G:Heap} {args:List V} {v:V} (h:∀ H,ret (callS Tryz.prog S0 lf 60 28 args H) fun w H'=>w=v∧Turns Z H H'):U lf K (w+1) 28 args G=some (.v v,G.skip (K+2)):=callU_tab (fun _ _=>rfl) (pure_use h (K+2) G)
theorem qp_ashlarref13_Get {lf K w:Nat} {G:Heap} {args:List V} {v:V} (h:∀ H,ret (callS Tryz.prog S0 lf 60 52 args H) fun w H'=>w=v∧Turns Z H H'):U lf K (w+1) 52 args G=some (.v v,G.skip (K+2)):=callU_tab (fun _ _=>rfl) (pure_use h (K+2) G)
theorem qp_ashlarref13_Put {lf K w:Nat} {G:Heap} {args:List V} {v:V} (h:∀ H,ret (callS Tryz.prog S0 lf 60 29 args H) fun w H'=>w=v∧Turns Z H H'):U lf K (w+1) 29 args G=some (.v v,G.skip (K+2)):=callU_tab (fun _ _=>rfl) (pure_use h (K+2) G)
theorem qp_ashlarref02_Take {lf K w:Nat} {G:Heap} {args:List V} {v:V} (h:∀ H,ret (callS Tryz.prog S0 lf 60 195 args H) fun w H'=>w=v∧Turns Z H H'):U lf K (w+1) 195 args G=some (.v v,G.skip (K+2)):=callU_tab (fun _ _=>rfl) (pure_use h (K+2) G)
theorem qp_ashlarref11_may {lf K w:Nat} {G:Heap} {args:List V} {v:V} (h:∀ H,ret (callS Tryz.prog S0 lf 60 173 args H) fun w H'=>w=v∧Turns Z H H'):U lf K (w+1) 173 args G=some (.v v,G.skip (K+2)):=callU_tab (fun _ _=>rfl) (pure_use h (K+2) G)
theorem qLives {lf K w:Nat} {G:Heap} (h:G.get (.run 0)=some (.rows true ([8,2,8,8]:List Int).length (intsR [8,2,8,8]))):U lf K (w+1) 14 [] G=some (.v (.bool true),G.skip (K+2)):=callU_tab (fun _ _=>rfl) (rowG_use h)
end Go.Proofs.YtllkepkaimnodaaGreatDoor.draft
namespace Go.Proofs.YtllkepkaimnodaaGreatDoor.draft
open Go.Am
noncomputable def c110_l0:C:=.seq (.seq (.reg [
 mv 14 7,
 mv 15 1,
 qo 16 (.p (arF .lss (tt 14) (tt 15))) [pp 14,pp 15]]) (
 .cond (tt 16) (.skip) (.exit 0))) (
 .seq (.block 1 (.seq (.reg [
 mv 19 6,
 mv 20 0,
 qo 21 (.p (arF .rem (tt 20) (.c (.int .u64 256)))) [pp 20],
 qo 22 (.p (convF .u8 (tt 21))) [pp 21],
 qo 23 (.m (bsliceF 1 1 [.int .u8 0] [(0,1,(tt 22))])) [pp 22],
 qo 24 (.a (appF 1 1 (tt 19) (tt 23))) [pp 19,pp 23],
 mv 6 24]) (
 .reg [
 mv 25 0,
 qo 26 (.p (arF .quo (tt 25) (.c (.int .u64 256)))) [pp 25],
 mv 0 26]))) (
 .reg [
 mv 17 7,
 qo 18 (.p (arF .add (tt 17) (ii 1))) [pp 17],
 mv 7 18]))
noncomputable def c110:CFn:=⟨[.tmp (pp 4),.tmp (pp 5)],
 .seq (.reg [
 qo 4 (.p (S.get (.c (.slice none 0 0 0)))) [],
 qo 5 (.p (S.get (ii 0))) []]) (
 .seq (.seq (.reg [
 mv 8 1,
 qo 9 (.p (arF .lss (tt 8) (ii 1))) [pp 8],
 mv 10 9,
 mg 11 1 10 false,
 qg 12 (.p (arF .gtr (tt 11) (ii 8))) 10 false [pp 11],
 qo 13 (.p (pickF (tt 10) (.c (.bool true)) (tt 12))) [pp 10,pp 12]]) (
 .cond (tt 13) (.seq (.reg [
 qo 4 (.p (S.get (.c (.slice none 0 0 0)))) [],
 qo 5 (.p (S.get (ii 2))) []]) (
 .ret)) (.skip))) (
 .seq (.reg [
 qo 6 (.p (S.get (.c (.slice none 0 0 0)))) []]) (
 .seq (.seq (.reg [
 qo 7 (.p (S.get (ii 0))) []]) (
 .block 0 (.loop c110_l0))) (
 .seq (.seq (.reg [
 mv 27 0,
 qo 28 (.p (arF .gtr (tt 27) (.c (.int .u64 0)))) [pp 27]]) (
 .cond (tt 28) (.seq (.reg [
 qo 4 (.p (S.get (.c (.slice none 0 0 0)))) [],
 qo 5 (.p (S.get (ii 2))) []]) (
 .ret)) (.skip))) (
 .seq (.reg [
 mv 29 6,
 mv 4 29,
 qo 5 (.p (S.get (ii 0))) []]) (
 .ret))))))⟩
theorem c110_eq:fnOf Tryz.prog 110=some c110:=by kernel_rfl
def rowsN (l:List Nat):List (List V):=l.map fun c:Nat=>[V.int .u8 (c:Int)]
theorem rowsN_len (l:List Nat):(rowsN l).length=l.length:=by unfold rowsN;simp
theorem rowsN_app (l k:List Nat):rowsN (l++k)=rowsN l++rowsN k:=by unfold rowsN;simp
def digs (n:Nat):Nat→List Nat
 | 0=>[]
 | i+1=>digs n i++[n / 256 ^ i % 256]
theorem digs_len (n:Nat):∀ i,(digs n i).length=i
 | 0=>rfl
 | i+1=>by simp[digs,digs_len n i]
theorem digs_lt (n:Nat):∀ i,∀ x ∈ digs n i,x < 256
 | 0,x,h=>by cases h
 | i+1,x,h=>by
  simp only[digs,List.mem_append,List.mem_singleton] at h
  rcases h with h | h
  ·exact digs_lt n i x h
  ·subst h;exact Nat.mod_lt _ (by decide)
theorem rem_u64 (a b:Nat) (hb:b≠0):arith .rem (.int .u64 (a:Int)) (.int .u64 (b:Int))=some (.int .u64 ((a % b:Nat):Int)):=by
 have h0:eqI (b:Int) 0=false:=by
  rw[Cy];simpa using hb
 show (match eqI (b:Int) 0 with | true=>none | false=>frc (remI (a:Int) (b:Int)) fun n=>some (V.int .u64 n))=_
 rw[h0]
 show frc (((a % b:Nat)):Int) _=_
 generalize a % b=z
 cases z<;>rfl
theorem quo_u64 (a b:Nat) (hb:b≠0) (ha:a < 18446744073709551616):arith .quo (.int .u64 (a:Int)) (.int .u64 (b:Int))=some (.int .u64 ((a / b:Nat):Int)):=by
 have h0:eqI (b:Int) 0=false:=by
  rw[Cy];simpa using hb
 show (match eqI (b:Int) 0 with | true=>none | false=>mkI .u64 (quoI (a:Int) (b:Int)))=_
 rw[h0]
 show mkI .u64 ((a / b:Nat):Int)=_
 rw[C0,wrap_u64 (Nat.lt_of_le_of_lt (Nat.div_le_self _ _) ha)]
theorem appB {H1 HH:Heap} {ks:List (List V)} {y:V} (hy:Lst H1 HH 1 ks y) (t:H1.next≤HH.next) (hl:ks.length≤100000) (u:Nat):∃ H',appendV 1 1 (HH.add (.rows false 1 [[.int .u8 (u:Int)]])) y (.slice (some ⟨.run HH.next,0⟩) 1 1 0)=some (.slice (some ⟨.run (HH.next+1),0⟩) (ks.length+1) (ks.length+1) 1,H')∧Lst H1 H' 1 (ks++[[.int .u8 (u:Int)]]) (.slice (some ⟨.run (HH.next+1),0⟩) (ks.length+1) (ks.length+1) 1)∧Turns (Bof y) HH H':=by
 have ta:=Turns.add Z HH (.rows false 1 [[.int .u8 (u:Int)]])
 have hxg:(HH.add (.rows false 1 [[.int .u8 (u:Int)]])).get (.run HH.next)=some (.rows false 1 [[.int .u8 (u:Int)]]):=by rw[Heap.get_add,if_pos rfl]
 have hya:=hy.turns ta (fun _ _=>id)
 obtain⟨H',ea,hv',ta',_⟩:=hya.app1 (by':=1) (Nat.le_trans t ta.next) hxg rfl (by decide) (by omega) (by omega)
 rw[Heap.next_add] at ea hv'
 exact⟨H',ea,hv',(ta.wide (fun _=>False.elim)).trans ta'⟩
theorem lst_away {H0 HH H' H:Heap} {sz:Nat} {R:List (List V)} {y:V} (hy:Lst H0 HH sz R y) (t:Turns Z H HH) (h0:H.next≤H0.next) (k:Turns (Bof y) HH H'):Turns Z H H':=
 t.later k (fun c hc hb=>by
  obtain⟨_,rfl,h1,_⟩:=hy.bof hb
  exact absurd hc (Heap.not_old (Nat.le_trans h0 h1)))
theorem rnput_ok (H:Heap) {N s:Nat} (hN:N < 18446744073709551616) (hs:1≤s∧s≤8) {lf:Nat} (hlf:17 < lf) (n:Nat):ret (callS Tryz.prog S0 lf (n+1) 110 [.int .u64 (N:Int),.int .i64 (s:Int)] H) fun v H'=>Turns Z H H' ∧
  ((N / 256 ^ s=0∧∃ y,v=.tuple [y,.int .i64 0]∧Lst H H' 1 (rowsN (digs N s)) y)∨(N / 256 ^ s≠0∧v=.tuple [.slice none 0 0 0,.int .i64 2])):=by
 have g1:¬ ((s:Int) < 1):=by omega
 have g2:¬ ((8:Int) < (s:Int)):=by omega
 refine ret_call rfl c110_eq ?_
 simp only[c110,g1,g2,sy,tup,↓reduceIte,zA,zG,zC,zD,zF,zE,zB,zH,reduceCtorEq]
 have hloop:∀ t:T,t.getP (Tr.path 0)=some (.int .u64 (N:Int))→t.getP (Tr.path 1)=some (.int .i64 (s:Int))→t.getP (Tr.path 6)=some (.slice none 0 0 0)→t.getP (Tr.path 7)=some (.int .i64 0) →
   wp (loopF (runC (callS Tryz.prog S0 lf n) lf c110_l0) lf ⟨t,H,[]⟩) fun x s'=>x=.ex 0∧s'.d=[]∧s'.t.getP (Tr.path 0)=some (.int .u64 ((N / 256 ^ s:Nat):Int))∧∃ y,s'.t.getP (Tr.path 6)=some y∧Lst H s'.H 1 (rowsN (digs N s)) y∧Turns Z H s'.H:=by
  intro t q0 q1 q6 q7
  refine wp_loopF (fun j s'=>∃ i:Nat,j=s - i∧i≤s∧s'.d=[]∧s'.t.getP (Tr.path 0)=some (.int .u64 ((N / 256 ^ i:Nat):Int))∧s'.t.getP (Tr.path 1)=some (.int .i64 (s:Int))∧s'.t.getP (Tr.path 7)=some (.int .i64 (i:Int))∧∃ y,s'.t.getP (Tr.path 6)=some y∧Lst H s'.H 1 (rowsN (digs N i)) y∧Turns Z H s'.H) ?_ lf s _ ⟨0,rfl,by omega,rfl,by rw[q0];simp,q1,q7,_,q6,Lst.nil _ _ _,Turns.refl _ _⟩ (by omega)
  rintro j ⟨t,HH,d⟩ ⟨i,rfl,hi,hd,q0,q1,q7,y,q6,hy,tz⟩
  dsimp only at hd q0 q1 q7 q6 hy tz
  subst hd
  by_cases hlt:i < s
  ·have hlt':(i:Int) < (s:Int):=by omega
   have hx:N / 256 ^ i < 18446744073709551616:=Nat.lt_of_le_of_lt (Nat.div_le_self _ _) hN
   have r1:arith .rem (.int .u64 ((N / 256 ^ i:Nat):Int)) (.int .u64 256)=some (.int .u64 ((N / 256 ^ i % 256:Nat):Int)):=rem_u64 _ 256 (by decide)
   have r2:arith .quo (.int .u64 ((N / 256 ^ i:Nat):Int)) (.int .u64 256)=some (.int .u64 ((N / 256 ^ i / 256:Nat):Int)):=quo_u64 _ 256 (by decide) hx
   have hq:N / 256 ^ i / 256=N / 256 ^ (i+1):=by rw[Nat.div_div_eq_div_mul,Nat.pow_succ]
   have hdg:rowsN (digs N (i+1))=rowsN (digs N i)++[[.int .u8 ((N / 256 ^ i % 256:Nat):Int)]]:=by rw[digs,rowsN_app];rfl
   have w1:IntKind.u8.wrap ((N / 256 ^ i % 256:Nat):Int)=((N / 256 ^ i % 256:Nat):Int):=wrap_u8 (Nat.mod_lt _ (by decide))
   rw[hq] at r2
   obtain⟨H',ea,hv',ta⟩:=appB hy tz.next (by rw[rowsN_len,digs_len];omega) (N / 256 ^ i % 256)
   rw[← hdg] at hv'
   have tz':=lst_away hy tz (Nat.le_refl _) ta
   have w2:IntKind.i64.wrap ((i:Int)+1)=((i+1:Nat):Int):=by rw[wrap_i64 (by omega)];omega
   obtain⟨z,hz⟩:∃ z,z=N / 256 ^ i:=⟨_,rfl⟩
   obtain⟨z',hz'⟩:∃ z,z=N / 256 ^ (i+1):=⟨_,rfl⟩
   rw[← hz] at q0 r1 r2 w1 ea
   rw[← hz'] at r2
   obtain⟨u,hu⟩:∃ u,u=z % 256:=⟨_,rfl⟩
   rw[← hu] at r1 w1 ea
   simp only[c110_l0,q0,q1,q6,q7,hlt',r1,r2,w1,w2,ea,sy,tup,↓reduceIte,zA,zG,zC,zD,zF,zE,zB,zH,reduceCtorEq]
   exact⟨s - (i+1),by omega,i+1,rfl,by omega,trivial,by rw[← hz'],trivial,by simp,_,rfl,hv',tz'⟩
  ·have:i=s:=by omega
   subst this
   simp only[c110_l0,q0,q1,q7,Int.lt_irrefl,sy,tup,↓reduceIte,zA,zG,zC,zD,zF,zE,zB,zH,reduceCtorEq]
   exact⟨trivial,trivial,trivial,y,q6,hy,tz⟩
 refine wp_ctx (F:=fun r=>seqC _ _ _ (blockC _ r)) (hloop _ ?_ ?_ ?_ ?_) ?_
 ·simp only[sy,tup,↓reduceIte,zA,zG,zC,zD,zF,zE,zB,zH,reduceCtorEq]
 ·simp only[sy,tup,↓reduceIte,zA,zG,zC,zD,zF,zE,zB,zH,reduceCtorEq]
 ·simp only[sy,tup,↓reduceIte,zA,zG,zC,zD,zF,zE,zB,zH,reduceCtorEq]
 ·simp only[sy,tup,↓reduceIte,zA,zG,zC,zD,zF,zE,zB,zH,reduceCtorEq]
 rintro x ⟨t,HH,d⟩ ⟨rfl,hd,q0,y,q6,hy,tz⟩
 dsimp only at hd q0 q6 hy tz
 subst hd
 by_cases h0:N / 256 ^ s=0
 ·have h0':¬ ((0:Int) < ((N / 256 ^ s:Nat):Int)):=by rw[h0];decide
  simp only[q0,q6,h0',sy,tup,↓reduceIte,zA,zG,zC,zD,zF,zE,zB,zH,reduceCtorEq]
  exact⟨trivial,.inr trivial,_,rfl,tz,.inl ⟨h0,y,rfl,hy⟩⟩
 ·have h0':(0:Int) < ((N / 256 ^ s:Nat):Int):=Int.ofNat_lt.2 (Nat.pos_of_ne_zero h0)
  simp only[q0,q6,h0',sy,tup,↓reduceIte,zA,zG,zC,zD,zF,zE,zB,zH,reduceCtorEq]
  exact⟨trivial,.inr trivial,_,rfl,tz,.inr ⟨h0,rfl⟩⟩
def putB (n s:Nat):List Nat:=if n / 256 ^ s=0 then digs n s else []
theorem appL {H0 H1 HH:Heap} {R Q:List (List V)} {y x:V} (hy:Lst H0 HH 1 R y) (hx:Lst H1 HH 1 Q x) (hQ:∀ r ∈ Q,∃ c:Nat,r=[V.int .u8 (c:Int)]) (t:H0.next≤HH.next) (hl:R.length+Q.length≤100000):∃ v H',appendV 1 1 HH y x=some (v,H')∧Lst H0 H' 1 (R++Q) v∧Turns (Bof y) HH H':=by
 rcases hx with ⟨rfl,rfl⟩ | ⟨k,hne,rfl,hg,h1,h2⟩
 ·obtain⟨p,c,o,rfl⟩:=hy.val
  refine⟨_,HH,?_,by simpa using hy,Turns.refl _ _⟩
  have hb:Nat.ble R.length c=true:=by
   rcases hy with ⟨rfl,e⟩ | ⟨n,_,e,_⟩
   ·cases e;rfl
   ·cases e;exact ble_iff.2 (Nat.le_refl _)
  unfold appendV
  simp only[lenOf,List.length_nil,show Nat.beq 0 0=true from rfl,hb]
 ·have hf:firstE HH 1 (.slice (some ⟨.run k,0⟩) Q.length Q.length 1)=some Q:=by
   have:∀(L:List (List V)) (a:Nat),(∀ i,i < L.length→∃ c:Nat,Q[a+i]?=L[i]?∧L[i]?=some [V.int .u8 (c:Int)])→elems HH (.run k) 1 L.length a=some L:=by
    intro L
    induction L with
    | nil=>intro a _;rfl
    | cons r L ih=>
     intro a h
     obtain⟨c,e1,e2⟩:=h 0 (by simp)
     simp only[List.getElem?_cons_zero,Option.some.injEq] at e2
     subst e2
     rw[Nat.add_zero] at e1
     simp only[List.getElem?_cons_zero] at e1
     have lk:loadAt HH ⟨.run k,a⟩ 1=some [.int .u8 (c:Int)]:=by
      rw[loadAt_eq hg (r:=[.int .u8 (c:Int)]) (by rw[Nat.div_one,nth_eq];exact e1),Nat.mod_one]
      rfl
     show elems HH (.run k) 1 (L.length+1) a=_
     unfold elems
     rw[lk]
     simp only
     rw[show Nat.add a 1=a+1 from rfl,ih (a+1) (fun i hi=>by
      obtain⟨c',e3,e4⟩:=h (i+1) (by simp;omega)
      refine⟨c',?_,by simpa using e4⟩
      rw[show a+1+i=a+(i+1) by omega,e3];simp)]
     rfl
   show elems HH (.run k) 1 Q.length 0=some Q
   exact this Q 0 (fun i hi=>by
    obtain⟨c,hc⟩:=hQ _ (List.getElem_mem hi)
    exact⟨c,by rw[Nat.zero_add],by rw[List.getElem?_eq_getElem hi,hc]⟩)
  obtain⟨H',ea,hv,ta,_⟩:=hy.app (by':=1) t hf rfl hne (by decide) (by omega) (by omega)
  exact⟨_,H',ea,hv,ta⟩
theorem rowsN_bytes (l:List Nat):∀ r ∈ rowsN l,∃ c:Nat,r=[V.int .u8 (c:Int)]:=by
 intro r h
 unfold rowsN at h
 obtain⟨c,_,e⟩:=List.mem_map.1 h
 exact⟨c,e.symm⟩
end Go.Proofs.YtllkepkaimnodaaGreatDoor.draft
namespace Go.Proofs.YtllkepkaimnodaaGreatDoor.draft
open Go.Am
def bitOf (S:Nat→Nat) (j:Nat):Nat:=S (j / 2) / 2 ^ (j % 2) % 2
def packN (f:Nat→Nat):Nat→Nat
 | 0=>0
 | m+1=>2*packN f m+f (7 - m)
def outB (S:Nat→Nat) (q:Nat):Nat:=packN (fun k=>bitOf S (8*q+k)) 8
def outs (S:Nat→Nat):Nat→List Nat
 | 0=>[]
 | q+1=>outs S q++[outB S q]
theorem rowsN_get {l:List Nat} {i x:Nat} (h:l[i]?=some x):(rowsN l)[i]?=some [.int .u8 (x:Int)]:=by
 unfold rowsN
 rw[List.getElem?_map,h];rfl
end Go.Proofs.YtllkepkaimnodaaGreatDoor.draft
namespace Go.Proofs.YtllkepkaimnodaaGreatDoor.draft
open Go.Am
noncomputable def c204:CFn:=⟨[.tmp (pp 2)],
 .seq (.reg [
 qo 2 (.p (S.get (.c (.int .u32 0)))) []]) (
 .seq (.seq (.reg [
 mv 3 0,
 qo 4 (.p (arF .rem (tt 3) (.c (.int .u32 2)))) [pp 3],
 qo 5 (.p (eqcF false false [.int .u32] (tt 4) (.c (.int .u32 1)))) [pp 4]]) (
 .cond (tt 5) (.seq (.reg [
 mv 6 0,
 qo 7 (.p (arF .quo (tt 6) (.c (.int .u32 2)))) [pp 6],
 qo 8 (.p (arF .xor (tt 7) (.c (.int .u32 2197175160)))) [pp 7],
 mv 2 8]) (
 .ret)) (.skip))) (
 .seq (.reg [
 mv 9 0,
 qo 10 (.p (arF .quo (tt 9) (.c (.int .u32 2)))) [pp 9],
 mv 2 10]) (
 .ret)))⟩
theorem c204_eq:fnOf Tryz.prog 204=some c204:=by kernel_rfl
noncomputable def c195_l0:C:=.seq (.seq (.reg [
 mv 10 5,
 qo 11 (.p (arF .lss (tt 10) (ii 8))) [pp 10]]) (
 .cond (tt 11) (.skip) (.exit 0))) (
 .seq (.block 1 (.reg [
 mv 14 0,
 qo 15 (.c (callF (ff 204) [(tt 14)])) [pp 14],
 mv 0 15])) (
 .reg [
 mv 12 5,
 qo 13 (.p (arF .add (tt 12) (ii 1))) [pp 12],
 mv 5 13]))
noncomputable def c195:CFn:=⟨[.tmp (pp 4)],
 .seq (.reg [
 qo 4 (.p (S.get (.c (.int .u32 0)))) []]) (
 .seq (.reg [
 mv 6 0,
 mv 7 1,
 qo 8 (.p (convF .u32 (tt 7))) [pp 7],
 qo 9 (.p (arF .xor (tt 6) (tt 8))) [pp 6,pp 8],
 mv 0 9]) (
 .seq (.seq (.reg [
 qo 5 (.p (S.get (ii 0))) []]) (
 .block 0 (.loop c195_l0))) (
 .seq (.reg [
 mv 16 0,
 mv 4 16]) (
 .ret))))⟩
theorem c195_eq:fnOf Tryz.prog 195=some c195:=by kernel_rfl
noncomputable def c178_l0:C:=.seq (.seq (.reg [
 mv 9 6,
 mv 10 1,
 qo 11 (.p (lenF (tt 10))) [pp 10],
 qo 12 (.p (arF .lss (tt 9) (tt 11))) [pp 9,pp 11]]) (
 .cond (tt 12) (.skip) (.exit 0))) (
 .seq (.block 1 (.reg [
 mv 15 5,
 mv 16 1,
 mv 17 6,
 qo 18 (.p (iaddrSF (tt 16) (tt 17) 1)) [pp 16,pp 17],
 qo 19 (.r (loadF (tt 18) 1 .sc)) [pp 18],
 qo 20 (.c (callF (ff 195) [(tt 15),(tt 19)])) [pp 15,pp 19],
 mv 5 20])) (
 .reg [
 mv 13 6,
 qo 14 (.p (arF .add (tt 13) (ii 1))) [pp 13],
 mv 6 14]))
noncomputable def c178:CFn:=⟨[.tmp (pp 4)],
 .seq (.reg [
 qo 4 (.p (S.get (.c (.int .u32 0)))) []]) (
 .seq (.reg [
 mv 7 0,
 qo 8 (.p (unF .xor (tt 7))) [pp 7],
 mv 5 8]) (
 .seq (.seq (.reg [
 qo 6 (.p (S.get (ii 0))) []]) (
 .block 0 (.loop c178_l0))) (
 .seq (.reg [
 mv 21 5,
 qo 22 (.p (unF .xor (tt 21))) [pp 21],
 mv 4 22]) (
 .ret))))⟩
theorem c178_eq:fnOf Tryz.prog 178=some c178:=by kernel_rfl
noncomputable def c166:CFn:=⟨[.tmp (pp 2)],
 .seq (.reg [
 qo 2 (.p (S.get (.c (.int .u32 0)))) []]) (
 .seq (.reg [
 mv 3 0,
 qo 4 (.c (callF (ff 178) [(.c (.int .u32 0)),(tt 3)])) [pp 3],
 mv 2 4]) (
 .ret))⟩
theorem c166_eq:fnOf Tryz.prog 166=some c166:=by kernel_rfl
noncomputable def crcStep (r:Nat):Nat:=if r % 2=1 then crc.xo (r / 2) 2197175160 else r / 2
theorem crcStep_lt {r:Nat} (h:r < 4294967296):crcStep r < 4294967296:=by
 unfold crcStep
 split
 ·exact crc.xor_lt (by omega) (by decide)
 ·omega
noncomputable def crcSteps (r:Nat):Nat→Nat
 | 0=>r
 | i+1=>crcStep (crcSteps r i)
theorem crcSteps_lt {r:Nat} (h:r < 4294967296):∀ i,crcSteps r i < 4294967296
 | 0=>h
 | i+1=>crcStep_lt (crcSteps_lt h i)
def stepc (e c:Nat):Nat:=if(e+c) % 2=1 then c / 2 ^^^ 2197175160 else c / 2
theorem step_x (k e c:Nat) (he:e < 2):crcStep ((2*k+e) ^^^ c)=k ^^^ stepc e c:=by
 have hm:((2*k+e) ^^^ c) % 2=(e+c) % 2:=by
  have h:=@Nat.xor_mod_two_eq_one (2*k+e) c
  by_cases e1:((2*k+e) ^^^ c) % 2=1
  ·have:=h.1 e1;omega
  ·have:=(not_congr h).1 e1;omega
 have hd:((2*k+e) ^^^ c) / 2=k ^^^ (c / 2):=by
  rw[Nat.xor_div_two]
  rw[show (2*k+e) / 2=k by omega]
 unfold crcStep stepc
 rw[hm,hd]
 split
 ·show (k ^^^ c / 2) ^^^ 2197175160=_
  rw[Nat.xor_assoc]
 ·rfl
theorem tab_ok:∀ b,b < 16→stepc (b / 8 % 2) (stepc (b / 4 % 2) (stepc (b / 2 % 2) (stepc (b % 2) 0)))=crc.at' b
 | 0,_=>by decide +kernel | 1,_=>by decide +kernel | 2,_=>by decide +kernel | 3,_=>by decide +kernel | 4,_=>by decide +kernel | 5,_=>by decide +kernel | 6,_=>by decide +kernel | 7,_=>by decide +kernel
 | 8,_=>by decide +kernel | 9,_=>by decide +kernel | 10,_=>by decide +kernel | 11,_=>by decide +kernel | 12,_=>by decide +kernel | 13,_=>by decide +kernel | 14,_=>by decide +kernel | 15,_=>by decide +kernel
 | n+16,h=>absurd h (by omega)
theorem four_ok (a:Nat):crcStep (crcStep (crcStep (crcStep a)))=crc.half a:=by
 have h0:=step_x (a / 2) (a % 2) 0 (Nat.mod_lt _ (by decide))
 rw[show 2*(a / 2)+a % 2=a by omega,Nat.xor_zero] at h0
 have h1:=step_x (a / 4) (a / 2 % 2) (stepc (a % 2) 0) (Nat.mod_lt _ (by decide))
 rw[show 2*(a / 4)+a / 2 % 2=a / 2 by omega] at h1
 have h2:=step_x (a / 8) (a / 4 % 2) (stepc (a / 2 % 2) (stepc (a % 2) 0)) (Nat.mod_lt _ (by decide))
 rw[show 2*(a / 8)+a / 4 % 2=a / 4 by omega] at h2
 have h3:=step_x (a / 16) (a / 8 % 2) (stepc (a / 4 % 2) (stepc (a / 2 % 2) (stepc (a % 2) 0))) (Nat.mod_lt _ (by decide))
 rw[show 2*(a / 16)+a / 8 % 2=a / 8 by omega] at h3
 rw[h0,h1,h2,h3]
 have hl:crc.lo a=a % 16:=Nat.and_two_pow_sub_one_eq_mod a 4
 have ht:=tab_ok (a % 16) (Nat.mod_lt _ (by decide))
 rw[show a % 16 / 8 % 2=a / 8 % 2 by omega,show a % 16 / 4 % 2=a / 4 % 2 by omega,show a % 16 / 2 % 2=a / 2 % 2 by omega,show a % 16 % 2=a % 2 by omega] at ht
 rw[ht]
 show _=(a / 16) ^^^ crc.at' (crc.lo a)
 rw[hl]
theorem eight_ok (r c:Nat):crcSteps (crc.xo r c) 8=crc.takeN r c:=by
 show crcStep (crcStep (crcStep (crcStep (crcStep (crcStep (crcStep (crcStep (crc.xo r c))))))))=_
 rw[four_ok,four_ok]
 rfl
theorem rem_u32 (a b:Nat) (hb:b≠0):arith .rem (.int .u32 (a:Int)) (.int .u32 (b:Int))=some (.int .u32 ((a % b:Nat):Int)):=by
 have h0:eqI (b:Int) 0=false:=by
  rw[Cy];simpa using hb
 show (match eqI (b:Int) 0 with | true=>none | false=>frc (remI (a:Int) (b:Int)) fun n=>some (V.int .u32 n))=_
 rw[h0]
 show frc (((a % b:Nat)):Int) _=_
 generalize a % b=z
 cases z<;>rfl
theorem quo_u32 (a b:Nat) (hb:b≠0) (ha:a < 4294967296):arith .quo (.int .u32 (a:Int)) (.int .u32 (b:Int))=some (.int .u32 ((a / b:Nat):Int)):=by
 have h0:eqI (b:Int) 0=false:=by
  rw[Cy];simpa using hb
 show (match eqI (b:Int) 0 with | true=>none | false=>mkI .u32 (quoI (a:Int) (b:Int)))=_
 rw[h0]
 show mkI .u32 ((a / b:Nat):Int)=_
 rw[C0,crc.u32_wrap (Nat.lt_of_le_of_lt (Nat.div_le_self _ _) ha)]
theorem crcStep_ok (H:Heap) {r:Nat} (hr:r < 4294967296) (lf n:Nat):callS Tryz.prog S0 lf (n+1) 204 [.int .u32 (r:Int)] H=some (.v (.int .u32 ((crcStep r:Nat):Int)),H):=by
 obtain⟨v,H',e,rfl,rfl⟩:ret (callS Tryz.prog S0 lf (n+1) 204 [.int .u32 (r:Int)] H) fun v H'=>v=.int .u32 ((crcStep r:Nat):Int)∧H'=H:=by
  have r1:arith .rem (.int .u32 (r:Int)) (.int .u32 2)=some (.int .u32 ((r % 2:Nat):Int)):=rem_u32 r 2 (by decide)
  have r2:arith .quo (.int .u32 (r:Int)) (.int .u32 2)=some (.int .u32 ((r / 2:Nat):Int)):=quo_u32 r 2 (by decide) hr
  have r3:arith .xor (.int .u32 ((r / 2:Nat):Int)) (.int .u32 2197175160)=some (.int .u32 ((crc.xo (r / 2) 2197175160:Nat):Int)):=crc.xor_u32 (by omega) (by decide)
  have hs:crcStep r=if r % 2=1 then crc.xo (r / 2) 2197175160 else r / 2:=rfl
  rw[hs]
  generalize crc.xo (r / 2) 2197175160=z at *
  generalize r / 2=y at *
  generalize r % 2=w at *
  refine ret_call rfl c204_eq ?_
  by_cases h:w=1
  ·subst h
   have b:(((1:Nat):Int)==1)=true:=rfl
   simp only[c204,r1,r2,r3,b,sy,tup,↓reduceIte,zA,zG,zC,zD,zF,zE,zB,zH,reduceCtorEq]
   simp
  ·have b:((w:Int)==1)=false:=by simp;omega
   simp only[c204,r1,r2,r3,b,sy,tup,↓reduceIte,zA,zG,zC,zD,zF,zE,zB,zH,reduceCtorEq]
   simp[h]
 exact e
theorem rtake8_ok (H:Heap) {r c:Nat} (hr:r < 4294967296) (hc:c < 256) {lf:Nat} (hlf:17 < lf) (n:Nat):callS Tryz.prog S0 lf (n+2) 195 [.int .u32 (r:Int),.int .u8 (c:Int)] H=some (.v (.int .u32 ((crc.takeN r c:Nat):Int)),H):=by
 obtain⟨v,H',e,rfl,rfl⟩:ret (callS Tryz.prog S0 lf (n+2) 195 [.int .u32 (r:Int),.int .u8 (c:Int)] H) fun v H'=>v=.int .u32 ((crc.takeN r c:Nat):Int)∧H'=H:=by
  have w0:=crc.u32_wrap (show c < 4294967296 by omega)
  have x0:=crc.xor_u32 hr (show c < 4294967296 by omega)
  have hx:=crc.xor_lt hr (show c < 4294967296 by omega)
  have h8:=eight_ok r c
  generalize crc.xo r c=x at *
  refine ret_call rfl c195_eq ?_
  simp only[c195,w0,x0,sy,tup,↓reduceIte,zA,zG,zC,zD,zF,zE,zB,zH,reduceCtorEq]
  have hloop:∀ t:T,t.getP (Tr.path 0)=some (.int .u32 (x:Int))→t.getP (Tr.path 5)=some (.int .i64 0) →
    wp (loopF (runC (callS Tryz.prog S0 lf (n+1)) lf c195_l0) lf ⟨t,H,[]⟩) fun y s'=>y=.ex 0∧s'.d=[]∧s'.H=H∧s'.t.getP (Tr.path 0)=some (.int .u32 ((crcSteps x 8:Nat):Int)):=by
   intro t q0 q5
   refine wp_loopF (fun j s'=>∃ i:Nat,j=8 - i∧i≤8∧s'.d=[]∧s'.H=H∧s'.t.getP (Tr.path 0)=some (.int .u32 ((crcSteps x i:Nat):Int))∧s'.t.getP (Tr.path 5)=some (.int .i64 (i:Int))) ?_ lf 8 _ ⟨0,rfl,by omega,rfl,rfl,q0,q5⟩ (by omega)
   rintro j ⟨t,HH,d⟩ ⟨i,rfl,hi,hd,hH,q0,q5⟩
   dsimp only at hd hH q0 q5
   subst hd;subst hH
   by_cases hlt:i < 8
   ·have hlt':(i:Int) < 8:=by omega
    have w2:IntKind.i64.wrap ((i:Int)+1)=((i+1:Nat):Int):=by rw[wrap_i64 (by omega)];omega
    have e:=crcStep_ok HH (crcSteps_lt hx i) lf n
    simp only[c195_l0,q0,q5,hlt',w2,e,sy,tup,↓reduceIte,zA,zG,zC,zD,zF,zE,zB,zH,reduceCtorEq]
    exact⟨8 - (i+1),by omega,i+1,rfl,by omega,trivial,trivial,rfl,by simp⟩
   ·have:i=8:=by omega
    subst this
    have hnl:decide (((8:Nat):Int) < 8)=false:=rfl
    simp only[c195_l0,q0,q5,hnl,sy,tup,↓reduceIte,zA,zG,zC,zD,zF,zE,zB,zH,reduceCtorEq]
    exact⟨trivial,trivial,trivial,by first | trivial | exact q0⟩
  refine wp_ctx (F:=fun r=>seqC _ _ _ (blockC _ r)) (hloop _ ?_ ?_) ?_
  ·simp only[sy,tup,↓reduceIte,zA,zG,zC,zD,zF,zE,zB,zH,reduceCtorEq]
  ·simp only[sy,tup,↓reduceIte,zA,zG,zC,zD,zF,zE,zB,zH,reduceCtorEq]
  rintro y ⟨t,HH,d⟩ ⟨rfl,hd,hH,q0⟩
  dsimp only at hd hH q0
  subst hd;subst hH
  rw[h8] at q0
  simp only[q0,sy,tup,↓reduceIte,zA,zG,zC,zD,zF,zE,zB,zH,reduceCtorEq]
  simp
 exact e
theorem rof_ok {H:Heap} {p:Ptr} {len cap loose:Nat} {c:Nat→Nat} (hm:len < 1000000) (hb:∀ i,i < len→c i < 256) (hd:∀ i,i < len→loadAt H ⟨p.b,p.o+i⟩ 1=some [.int .u8 (c i:Int)]) (lf n:Nat) (hlf:len+18 < lf) :
  callS Tryz.prog S0 lf (n+4) 166 [.slice (some p) len cap loose] H=some (.v (.int .u32 ((notN (crcN c len):Nat):Int)),H):=by
 have e1:callS Tryz.prog S0 lf (n+3) 178 [.int .u32 0,.slice (some p) len cap loose] H=some (.v (.int .u32 ((notN (crcN c len):Nat):Int)),H):=by
  obtain⟨v,H',e,rfl,rfl⟩:ret (callS Tryz.prog S0 lf (n+3) 178 [.int .u32 0,.slice (some p) len cap loose] H) fun v H'=>v=.int .u32 ((notN (crcN c len):Nat):Int)∧H'=H:=by
   refine ret_call rfl c178_eq ?_
   have u0:unary .xor (.int .u32 0)=some (.int .u32 4294967295):=by kernel_rfl
   have hloop:∀ t:T,t.getP (Tr.path 1)=some (.slice (some p) len cap loose)→t.getP (Tr.path 5)=some (.int .u32 4294967295)→t.getP (Tr.path 6)=some (.int .i64 0) →
     wp (loopF (runC (callS Tryz.prog S0 lf (n+2)) lf c178_l0) lf ⟨t,H,[]⟩) fun x s=>x=.ex 0∧s.d=[]∧s.H=H∧s.t.getP (Tr.path 5)=some (.int .u32 ((crcN c len:Nat):Int)):=by
    intro t q1 q5 q6
    refine wp_loopF (fun k s=>∃ i:Nat,k=len - i∧i≤len∧s.d=[]∧s.H=H∧s.t.getP (Tr.path 1)=some (.slice (some p) len cap loose)∧s.t.getP (Tr.path 5)=some (.int .u32 ((crcN c i:Nat):Int))∧s.t.getP (Tr.path 6)=some (.int .i64 (i:Int))) ?_ lf len _ ⟨0,rfl,by omega,rfl,rfl,q1,q5,q6⟩ (by omega)
    rintro k ⟨t,HH,d⟩ ⟨i,rfl,hi,hd',hH,q1,q5,q6⟩
    dsimp only at hd' hH q1 q5 q6
    subst hd';subst hH
    by_cases hlt:i < len
    ·have hlt':(i:Int) < (len:Int):=by omega
     have hle':i+1≤len:=hlt
     have lk:=hd i hlt
     have w3:IntKind.i64.wrap ((i:Int)+1)=((i+1:Nat):Int):=by rw[wrap_i64 (by omega)];omega
     have tk:=rtake8_ok HH (crcN_lt (c:=c) (n:=i) (fun j hj=>hb j (by omega))) (hb i hlt) (lf:=lf) (by omega) n
     simp only[c178_l0,q1,q5,q6,hlt',hle',w3,lk,tk,Nat.mul_one,sy,tup,↓reduceIte,zA,zG,zC,zD,zF,zE,zB,zH,reduceCtorEq]
     exact⟨len - (i+1),by omega,i+1,rfl,by omega,trivial,trivial,trivial,rfl,by simp⟩
    ·have:i=len:=by omega
     subst this
     simp only[c178_l0,q1,q5,q6,Nat.lt_irrefl,Int.lt_irrefl,sy,tup,↓reduceIte,zA,zG,zC,zD,zF,zE,zB,zH,reduceCtorEq]
     exact⟨trivial,trivial,trivial,trivial⟩
   have un:=not_u32 (crcN_lt hb)
   simp only[c178,u0,sy,tup,↓reduceIte,zA,zG,zC,zD,zF,zE,zB,zH,reduceCtorEq]
   refine wp_ctx (F:=fun r=>seqC _ _ _ (blockC _ r)) (hloop _ ?_ ?_ ?_) ?_
   ·simp only[sy,tup,↓reduceIte,zA,zG,zC,zD,zF,zE,zB,zH,reduceCtorEq]
   ·simp only[sy,tup,↓reduceIte,zA,zG,zC,zD,zF,zE,zB,zH,reduceCtorEq]
   ·simp only[sy,tup,↓reduceIte,zA,zG,zC,zD,zF,zE,zB,zH,reduceCtorEq]
   rintro x ⟨t,HH,d⟩ ⟨rfl,hd',hH,q5⟩
   dsimp only at hd' hH q5
   subst hd';subst hH
   simp only[q5,un,sy,tup,↓reduceIte,zA,zG,zC,zD,zF,zE,zB,zH,reduceCtorEq]
   simp
  exact e
 obtain⟨v,H',e,rfl,rfl⟩:ret (callS Tryz.prog S0 lf (n+4) 166 [.slice (some p) len cap loose] H) fun v H'=>v=.int .u32 ((notN (crcN c len):Nat):Int)∧H'=H:=by
  refine ret_call rfl c166_eq ?_
  simp only[c166,e1,sy,tup,↓reduceIte,zA,zG,zC,zD,zF,zE,zB,zH,reduceCtorEq]
  simp
 exact e
end Go.Proofs.YtllkepkaimnodaaGreatDoor.draft
namespace Go.Proofs.YtllkepkaimnodaaGreatDoor.draft
open Go.Am
noncomputable def c107_l0:C:=.seq (.seq (.reg [
 mv 49 12,
 qo 50 (.p (arF .lss (tt 49) (ii 64))) [pp 49]]) (
 .cond (tt 50) (.skip) (.exit 2))) (
 .seq (.block 3 (.reg [
 mv 53 12,
 mv 54 8,
 mv 55 12,
 qo 56 (.p (iaddrSF (tt 54) (tt 55) 1)) [pp 54,pp 55],
 qo 57 (.r (loadF (tt 56) 1 .sc)) [pp 56],
 qo 58 (.p (iaddrAF (tt 11) (tt 53) 64 1)) [pp 11,pp 53],
 qn (.a (storeF (tt 58) (tt 57) 1)) [pp 58,pp 57]])) (
 .reg [
 mv 51 12,
 qo 52 (.p (arF .add (tt 51) (ii 1))) [pp 51],
 mv 12 52]))
noncomputable def c107_l1:C:=.seq (.seq (.reg [
 mv 30 8,
 qo 31 (.p (lenF (tt 30))) [pp 30],
 qo 32 (.p (arF .lss (tt 31) (ii 52))) [pp 31]]) (
 .cond (tt 32) (.skip) (.exit 0))) (
 .block 1 (.reg [
 mv 33 8,
 qo 34 (.m (bsliceF 1 1 [.int .u8 0] [(0,1,(.c (.int .u8 0)))])) [],
 qo 35 (.a (appF 1 1 (tt 33) (tt 34))) [pp 33,pp 34],
 mv 8 35]))
noncomputable def c107:CFn:=⟨[.cell (pp 4) 64 .bk,.tmp (pp 5)],
 .seq (.reg [
 qo 4 (.m (allocF 64 [.blk 0])) [],
 qo 5 (.p (S.get (ii 0))) []]) (
 .seq (.seq (.reg [
 mv 13 0,
 qo 14 (.p (eqcF false false [.int .u64] (tt 13) (.c (.int .u64 0)))) [pp 13]]) (
 .cond (tt 14) (.seq (.reg [
 qo 15 (.p (buildF [.blk 0] .bk [])) [],
 qn (.a (storeF (tt 4) (tt 15) 64)) [pp 4,pp 15],
 qo 5 (.p (S.get (ii 2))) []]) (
 .ret)) (.skip))) (
 .seq (.seq (.reg [
 mv 16 1,
 qo 17 (.p (lenF (tt 16))) [pp 16],
 qo 18 (.p (arF .gtr (tt 17) (ii 44))) [pp 17]]) (
 .cond (tt 18) (.seq (.reg [
 qo 19 (.p (buildF [.blk 0] .bk [])) [],
 qn (.a (storeF (tt 4) (tt 19) 64)) [pp 4,pp 19],
 qo 5 (.p (S.get (ii 3))) []]) (
 .ret)) (.skip))) (
 .seq (.reg [
 mv 21 0,
 qo 22 (.c (callF (ff 110) [(tt 21),(ii 8)])) [pp 21],
 mv 20 22,
 qo 23 (.p (extF (tt 20) 0)) [pp 20],
 qo 24 (.p (extF (tt 20) 1)) [pp 20],
 mv 6 23,
 mv 7 24]) (
 .seq (.reg [
 mv 25 6,
 qo 26 (.c (callF (ff 165) [(tt 25)])) [pp 25],
 mv 8 26]) (
 .seq (.reg [
 mv 27 8,
 mv 28 1,
 qo 29 (.a (appF 1 1 (tt 27) (tt 28))) [pp 27,pp 28],
 mv 8 29]) (
 .seq (.block 0 (.loop c107_l1)) (
 .seq (.reg [
 mv 37 8,
 qo 38 (.c (callF (ff 166) [(tt 37)])) [pp 37],
 qo 39 (.p (convF .u64 (tt 38))) [pp 38],
 qo 40 (.c (callF (ff 110) [(tt 39),(ii 4)])) [pp 39],
 mv 36 40,
 qo 41 (.p (extF (tt 36) 0)) [pp 36],
 qo 42 (.p (extF (tt 36) 1)) [pp 36],
 mv 9 41,
 mv 10 42]) (
 .seq (.reg [
 mv 43 8,
 mv 44 9,
 qo 45 (.a (appF 1 1 (tt 43) (tt 44))) [pp 43,pp 44],
 mv 8 45]) (
 .seq (.reg [
 mv 46 8,
 mv 47 6,
 qo 48 (.a (appF 1 1 (tt 46) (tt 47))) [pp 46,pp 47],
 mv 8 48]) (
 .seq (.reg [
 qo 11 (.m (allocF 64 [.blk 0])) []]) (
 .seq (.seq (.reg [
 qo 12 (.p (S.get (ii 0))) []]) (
 .block 2 (.loop c107_l0))) (
 .seq (.reg [
 qo 59 (.r (loadF (tt 11) 64 .bk)) [pp 11],
 qn (.a (storeF (tt 4) (tt 59) 64)) [pp 4,pp 59],
 qo 5 (.p (S.get (ii 0))) []]) (
 .ret)))))))))))))⟩
theorem c107_eq:fnOf Tryz.prog 107=some c107:=by kernel_rfl
noncomputable def c165:CFn:=⟨[.tmp (pp 2)],
 .seq (.reg [
 qo 2 (.p (S.get (.c (.slice none 0 0 0)))) []]) (
 .seq (.reg [
 qo 3 (.p (S.get (.c (.slice none 0 0 0)))) []]) (
 .seq (.reg [
 mv 4 3,
 mv 5 0,
 qo 6 (.a (appF 1 1 (tt 4) (tt 5))) [pp 4,pp 5],
 mv 2 6]) (
 .ret)))⟩
theorem c165_eq:fnOf Tryz.prog 165=some c165:=by kernel_rfl
noncomputable def fillN (f:Nat→Nat):Nat→Nat
 | 0=>0
 | i+1=>setByte (fillN f i) i (f i)
theorem fillN_lt {f:Nat→Nat} (h:∀ i,f i < 256):∀ n,n≤64→fillN f n < 256 ^ 64
 | 0,_=>by show 0 < _;decide +kernel
 | n+1,hn=>setByte_lt _ _ _ (h n) (by omega) (fillN_lt h n (by omega))
theorem byte_fillN {f:Nat→Nat} (h:∀ i,f i < 256):∀ n j,byte (fillN f n) j=if j < n then f j else byte 0 j
 | 0,j=>rfl
 | n+1,j=>by
  show byte (setByte (fillN f n) n (f n)) j=_
  rw[byte_setByte _ _ _ _ (h n),byte_fillN h n j]
  by_cases e:j=n
  ·subst e;simp
  ·rw[if_neg e]
   by_cases h2:j < n
   ·rw[if_pos h2,if_pos (by omega)]
   ·rw[if_neg h2,if_neg (by omega)]
theorem rcopy_ok {H0 H:Heap} {l:List Nat} {y:V} (hy:Lst H0 H 1 (rowsN l) y) (hl:l.length≤1000) (lf n:Nat):ret (callS Tryz.prog S0 lf (n+1) 165 [y] H) fun v H'=>Turns Z H H'∧Lst H H' 1 (rowsN l) v:=by
 obtain⟨w,H',ea,hw,ta⟩:=appL (Lst.nil H H 1) hy (rowsN_bytes _) (Nat.le_refl _) (by rw[rowsN_len];simp;omega)
 rw[List.nil_append] at hw
 refine ret_call rfl c165_eq ?_
 simp only[c165,ea,sy,tup,↓reduceIte,zA,zG,zC,zD,zF,zE,zB,zH,reduceCtorEq]
 exact⟨trivial,.inr trivial,_,rfl,lst_away (Lst.nil H H 1) (Turns.refl _ _) (Nat.le_refl _) ta,hw⟩
noncomputable def headOf (N:Nat) (l:List Nat):List Nat:=digs N 8++(l++List.replicate (44 - l.length) 0)
noncomputable def sumOf (N:Nat) (l:List Nat):Nat:=notN (crcN (fun i=>(headOf N l).getD i 0) 52)
noncomputable def rowOf (N:Nat) (l:List Nat):List Nat:=(headOf N l++digs (sumOf N l) 4)++digs N 8
noncomputable def blkOf (N:Nat) (l:List Nat):Nat:=fillN (fun i=>(rowOf N l).getD i 0) 64
theorem head_len {N:Nat} {l:List Nat} (h:l.length≤44):(headOf N l).length=52:=by
 unfold headOf
 rw[List.length_append,List.length_append,digs_len,List.length_replicate];omega
theorem row_len {N:Nat} {l:List Nat} (h:l.length≤44):(rowOf N l).length=64:=by
 unfold rowOf
 rw[List.length_append,List.length_append,digs_len,digs_len,head_len h]
theorem head_lt {N:Nat} {l:List Nat} (h:∀ x ∈ l,x < 256):∀ x ∈ headOf N l,x < 256:=by
 intro x hx
 unfold headOf at hx
 rcases List.mem_append.1 hx with h1 | h1
 ·exact digs_lt N 8 x h1
 ·rcases List.mem_append.1 h1 with h2 | h2
  ·exact h x h2
  ·rw[(List.mem_replicate.1 h2).2];decide
theorem row_lt {N:Nat} {l:List Nat} (h:∀ x ∈ l,x < 256):∀ x ∈ rowOf N l,x < 256:=by
 intro x hx
 unfold rowOf at hx
 rcases List.mem_append.1 hx with h1 | h1
 ·rcases List.mem_append.1 h1 with h2 | h2
  ·exact head_lt h x h2
  ·exact digs_lt _ 4 x h2
 ·exact digs_lt N 8 x h1
theorem getD_lt {l:List Nat} (h:∀ x ∈ l,x < 256) (i:Nat):l.getD i 0 < 256:=by
 rw[List.getD_eq_getElem?_getD]
 cases e:l[i]? with
 | none=>decide
 | some x=>exact h x (List.mem_of_getElem? e)
theorem getD_some {l:List Nat} {i:Nat} (h:i < l.length):l[i]?=some (l.getD i 0):=by
 rw[List.getD_eq_getElem?_getD,List.getElem?_eq_getElem h];rfl
theorem load_same {H K:Heap} {p:Ptr} {n:Nat} (h:K.get p.b=H.get p.b):loadAt K p n=loadAt H p n:=by
 unfold loadAt
 rw[h]
theorem bload {H0 H:Heap} {l:List Nat} {v:V} (h:Lst H0 H 1 (rowsN l) v) (hne:l≠[]):∃ k,v=.slice (some ⟨.run k,0⟩) l.length l.length 1∧k < H.next∧∀ i,i < l.length→loadAt H ⟨.run k,i⟩ 1=some [.int .u8 ((l.getD i 0:Nat):Int)]:=by
 have hv:=h
 rcases hv with ⟨e,_⟩ | ⟨k,_,rfl,hg,h1,h2⟩
 ·exact absurd (List.map_eq_nil_iff.1 e) hne
 refine⟨k,by rw[rowsN_len],h2,fun i hi=>?_⟩
 obtain⟨k',e',lk⟩:=h.load (o:=0) (k:=1) (rowsN_get (getD_some hi)) (by omega)
 cases e'
 rw[Nat.mul_one,Nat.add_zero] at lk
 exact lk.trans rfl
theorem rput7_ok {H0 H:Heap} {l:List Nat} {y:V} (hy:Lst H0 H 1 (rowsN l) y) (hl:l.length≤44) (hb:∀ x ∈ l,x < 256) {N:Nat} (hN:N < 18446744073709551616) (hN0:N≠0) {lf:Nat} (hlf:80 < lf) (n:Nat) :
  ret (callS Tryz.prog S0 lf (n+5) 107 [.int .u64 (N:Int),y] H) fun v H'=>Turns Z H H'∧v=.tuple [.blk (blkOf N l),.int .i64 0]:=by
 have t1:=Turns.add Z H (.rows false 64 [[.blk 0]])
 have hg1:(H.add (.rows false 64 [[.blk 0]])).get (.run H.next)=some (.rows false 64 [[.blk 0]]):=by rw[Heap.get_add,if_pos rfl]
 have hn1:(H.add (.rows false 64 [[.blk 0]])).next=H.next+1:=by simp
 obtain⟨H1,hH1⟩:∃ K,H.add (.rows false 64 [[.blk 0]])=K:=⟨_,rfl⟩
 rw[hH1] at t1 hg1 hn1
 have b0:((N:Int)==0)=false:=by simp;exact hN0
 obtain⟨p,cp,oo,ey⟩:=hy.val
 rw[rowsN_len] at ey
 have g44:¬ ((44:Int) < (l.length:Int)):=by omega
 obtain⟨vn,H2,en,t2,hvn⟩:=rnput_ok H1 hN (s:=8) (by omega) (show 17 < lf by omega) (n+3)
 change callS Tryz.prog S0 lf (n+4) 110 [.int .u64 (N:Int),.int .i64 8] H1=_ at en
 have hz8:N / 256 ^ 8=0:=Nat.div_eq_of_lt (by rw[show (256:Nat) ^ 8=18446744073709551616 by decide +kernel];exact hN)
 rcases hvn with ⟨_,yn,rfl,hyn⟩ | ⟨h,_⟩
 rotate_left
 ·exact absurd hz8 h
 obtain⟨vc,H3,ec,t3,hvc⟩:=rcopy_ok hyn (by rw[digs_len];omega) lf (n+3)
 have t13:=(t1.trans t2).trans t3
 have hy3:=hy.turns t13 (fun _ _=>id)
 obtain⟨va,H4,ea,hva,ta⟩:=appL hvc hy3 (rowsN_bytes _) t3.next (by rw[rowsN_len,rowsN_len,digs_len];omega)
 rw[← rowsN_app] at hva
 have t4:Turns Z H2 H4:=lst_away hvc t3 (Nat.le_refl _) ta
 have hloop:∀ t:T,t.getP (Tr.path 6)=some yn→t.getP (Tr.path 8)=some va→t.getP (Tr.path 4)=some (.ptr (some ⟨.run H.next,0⟩)) →
   wp (loopF (runC (callS Tryz.prog S0 lf (n+4)) lf c107_l1) lf ⟨t,H4,[]⟩) fun x s'=>x=.ex 0∧s'.d=[]∧s'.t.getP (Tr.path 6)=some yn∧s'.t.getP (Tr.path 4)=some (.ptr (some ⟨.run H.next,0⟩))∧∃ w,s'.t.getP (Tr.path 8)=some w∧Lst H2 s'.H 1 (rowsN (headOf N l)) w∧Turns Z H2 s'.H:=by
  intro t q6 q8 q4
  refine wp_loopF (fun j s'=>∃ i:Nat,j=44 - l.length - i∧i≤44 - l.length∧s'.d=[]∧s'.t.getP (Tr.path 6)=some yn∧s'.t.getP (Tr.path 4)=some (.ptr (some ⟨.run H.next,0⟩))∧∃ w,s'.t.getP (Tr.path 8)=some w∧Lst H2 s'.H 1 (rowsN (digs N 8++(l++List.replicate i 0))) w∧Turns Z H2 s'.H) ?_ lf (44 - l.length) _ ⟨0,rfl,by omega,rfl,q6,q4,_,q8,by simpa using hva,t4⟩ (by omega)
  rintro j ⟨t,HH,d⟩ ⟨i,rfl,hi,hd,q6,q4,w,q8,hw,tz⟩
  dsimp only at hd q6 q4 q8 hw tz
  subst hd
  have hlen:(digs N 8++(l++List.replicate i 0)).length=8+(l.length+i):=by rw[List.length_append,List.length_append,digs_len,List.length_replicate]
  obtain⟨L,hL⟩:∃ L,L=8+(l.length+i):=⟨_,rfl⟩
  obtain⟨pw,cw,ow,ew⟩:=hw.val
  rw[rowsN_len,hlen,← hL] at ew
  rw[ew] at q8
  by_cases hlt:L < 52
  ·have hlt':(L:Int) < 52:=by omega
   obtain⟨H',e1,hv',t1'⟩:=appB hw tz.next (by rw[rowsN_len,hlen];omega) 0
   have hz:rowsN (digs N 8++(l++List.replicate (i+1) 0))=rowsN (digs N 8++(l++List.replicate i 0))++[[.int .u8 ((0:Nat):Int)]]:=by
    rw[List.replicate_succ',← List.append_assoc l,← List.append_assoc,rowsN_app (digs N 8++(l++List.replicate i 0))];rfl
   rw[← hz] at hv'
   have tz':=lst_away hw tz (Nat.le_refl _) t1'
   rw[ew] at e1
   have e1':appendV 1 1 (HH.add (.rows false 1 [[.int .u8 0]])) (.slice pw L cw ow) (.slice (some ⟨.run HH.next,0⟩) 1 1 0)=_:=e1
   simp only[c107_l1,q4,q6,q8,hlt',e1',sy,tup,↓reduceIte,zA,zG,zC,zD,zF,zE,zB,zH,reduceCtorEq]
   exact⟨44 - l.length - (i+1),by omega,i+1,rfl,by omega,trivial,trivial,trivial,_,rfl,hv',tz'⟩
  ·have hi':i=44 - l.length:=by omega
   have hlt':¬ (L:Int) < 52:=by omega
   subst hi'
   simp only[c107_l1,q4,q6,q8,hlt',sy,tup,↓reduceIte,zA,zG,zC,zD,zF,zE,zB,zH,reduceCtorEq]
   exact⟨trivial,trivial,trivial,trivial,_,rfl,by rw[← ew];exact hw,tz⟩
 refine ret_call rfl c107_eq ?_
 rw[ey] at ea
 rw[ey]
 simp only[c107,hH1,b0,g44,en,ec,ea,sy,tup,↓reduceIte,zA,zG,zC,zD,zF,zE,zB,zH,reduceCtorEq]
 refine wp_ctx (F:=fun r=>seqC _ _ _ (blockC _ r)) (hloop _ ?_ ?_ ?_) ?_
 ·simp only[sy,tup,↓reduceIte,zA,zG,zC,zD,zF,zE,zB,zH,reduceCtorEq]
 ·simp only[sy,tup,↓reduceIte,zA,zG,zC,zD,zF,zE,zB,zH,reduceCtorEq]
 ·simp only[sy,tup,↓reduceIte,zA,zG,zC,zD,zF,zE,zB,zH,reduceCtorEq]
 rintro x ⟨t,H5,d⟩ ⟨rfl,hd,q6,q4,w,q8,hw,t5⟩
 dsimp only at hd q6 q4 q8 hw t5
 subst hd
 have hne:headOf N l≠[]:=fun e=>by have:=head_len (N:=N) hl;rw[e] at this;exact absurd this (by decide)
 obtain⟨k,ew,_,lw⟩:=bload hw hne
 rw[head_len hl] at ew lw
 have eo:=rof_ok (H:=H5) (p:=⟨.run k,0⟩) (len:=52) (cap:=52) (loose:=1) (c:=fun i=>(headOf N l).getD i 0) (by omega) (fun i _=>getD_lt (head_lt hb) i) (fun i hi=>by simpa using lw i hi) lf n (by omega)
 have hs4:sumOf N l < 4294967296:=notN_lt (crcN_lt (fun i _=>getD_lt (head_lt hb) i))
 change _=some (Rs.v (V.int .u32 ((sumOf N l:Nat):Int)),H5) at eo
 have hro:rowOf N l=(headOf N l++digs (sumOf N l) 4)++digs N 8:=rfl
 obtain⟨sm,hsm⟩:∃ z,z=sumOf N l:=⟨_,rfl⟩
 rw[← hsm] at eo hs4 hro
 have w64:IntKind.u64.wrap (sm:Int)=(sm:Int):=wrap_u64 (by omega)
 obtain⟨vs,H6,es,t6,hvs⟩:=rnput_ok H5 (N:=sm) (by omega) (s:=4) (by omega) (show 17 < lf by omega) (n+3)
 change callS Tryz.prog S0 lf (n+4) 110 [.int .u64 (sm:Int),.int .i64 4] H5=_ at es
 have hz4:sm / 256 ^ 4=0:=Nat.div_eq_of_lt hs4
 rcases hvs with ⟨_,ys,rfl,hys⟩ | ⟨h,_⟩
 rotate_left
 ·exact absurd hz4 h
 have hw6:=hw.turns t6 (fun _ _=>id)
 obtain⟨v7,H7,e7,hv7,t7⟩:=appL hw6 hys (rowsN_bytes _) (t5.trans t6).next (by rw[rowsN_len,rowsN_len,digs_len,head_len hl];omega)
 rw[← rowsN_app] at hv7
 have t27:Turns Z H2 H7:=lst_away hw6 (t5.trans t6) (Nat.le_refl _) t7
 have hyn7:=hyn.turns t27 (fun _ _=>id)
 obtain⟨v8,H8,e8,hv8,t8⟩:=appL hv7 hyn7 (rowsN_bytes _) t27.next (by rw[rowsN_len,rowsN_len,List.length_append,digs_len,digs_len,head_len hl];omega)
 rw[← rowsN_app,← hro] at hv8
 have t28:Turns Z H2 H8:=lst_away hv7 t27 (Nat.le_refl _) t8
 have hrl:=row_len (N:=N) hl
 obtain⟨kr,e8v,hkr,l8⟩:=bload hv8 (fun e=>by rw[e] at hrl;exact absurd hrl (by decide))
 rw[hrl] at e8v l8
 have t9:=Turns.add Z H8 (.rows false 64 [[.blk 0]])
 rw[ew] at q8 e7
 simp only[q4,q6,q8,eo,w64,es,e7,e8,sy,tup,↓reduceIte,zA,zG,zC,zD,zF,zE,zB,zH,reduceCtorEq]
 have g9:(H8.add (.rows false 64 [[.blk 0]])).get (.run H8.next)=some (.rows false 64 [[.blk 0]]):=by rw[Heap.get_add,if_pos rfl]
 obtain⟨kb,hkb⟩:∃ z,z=H8.next:=⟨_,rfl⟩
 have hfill:∀ t:T,t.getP (Tr.path 4)=some (.ptr (some ⟨.run H.next,0⟩))→t.getP (Tr.path 8)=some v8→t.getP (Tr.path 11)=some (.ptr (some ⟨.run kb,0⟩))→t.getP (Tr.path 12)=some (.int .i64 0) →
   wp (loopF (runC (callS Tryz.prog S0 lf (n+4)) lf c107_l0) lf ⟨t,H8.add (.rows false 64 [[.blk 0]]),[]⟩) fun x s'=>x=.ex 2∧s'.d=[]∧s'.t.getP (Tr.path 4)=some (.ptr (some ⟨.run H.next,0⟩))∧s'.t.getP (Tr.path 11)=some (.ptr (some ⟨.run kb,0⟩))∧s'.H.get (.run kb)=some (.rows false 64 [[.blk (blkOf N l)]])∧Turns Z H8 s'.H:=by
  intro t q4 q8 q11 q12
  refine wp_loopF (fun j s'=>∃ i:Nat,j=64 - i∧i≤64∧s'.d=[]∧s'.t.getP (Tr.path 4)=some (.ptr (some ⟨.run H.next,0⟩))∧s'.t.getP (Tr.path 8)=some v8∧s'.t.getP (Tr.path 11)=some (.ptr (some ⟨.run kb,0⟩))∧s'.t.getP (Tr.path 12)=some (.int .i64 (i:Int))∧s'.H.get (.run kb)=some (.rows false 64 [[.blk (fillN (fun i=>(rowOf N l).getD i 0) i)]])∧Turns Z H8 s'.H) ?_ lf 64 _ ⟨0,rfl,by omega,rfl,q4,q8,q11,q12,by rw[hkb];exact g9,t9⟩ (by omega)
  rintro j ⟨t,HH,d⟩ ⟨i,rfl,hi,hd,q4,q8,q11,q12,gb,tz⟩
  dsimp only at hd q4 q8 q11 q12 gb tz
  subst hd
  rw[e8v] at q8
  by_cases hlt:i < 64
  ·have hlt':(i:Int) < 64:=by omega
   have hle':i+1≤64:=hlt
   have w2:IntKind.i64.wrap ((i:Int)+1)=((i+1:Nat):Int):=by rw[wrap_i64 (by omega)];omega
   have lk:loadAt HH ⟨.run kr,i⟩ 1=some [.int .u8 (((rowOf N l).getD i 0:Nat):Int)]:=(load_same (tz.same (.run kr) hkr id)).trans (l8 i hlt)
   have sto:=disk.cell_store_byte gb hlt (getD_lt (l:=rowOf N l) (row_lt hb) i)
   have hf:fillN (fun i=>(rowOf N l).getD i 0) (i+1)=setByte (fillN (fun i=>(rowOf N l).getD i 0) i) i ((rowOf N l).getD i 0):=rfl
   rw[← hf] at sto
   generalize (rowOf N l).getD i 0=bb at *
   simp only[c107_l0,q4,q8,q11,q12,hlt',hle',w2,lk,sto,iaddrAF,Nat.mul_one,sy,tup,↓reduceIte,zA,zG,zC,zD,zF,zE,zB,zH,reduceCtorEq]
   exact⟨64 - (i+1),by omega,i+1,rfl,by omega,trivial,trivial,by rw[e8v],trivial,by simp,by rw[Heap.get_set,if_pos rfl],tz.setnew (by omega) _⟩
  ·have:i=64:=by omega
   subst this
   have hnl:decide (((64:Nat):Int) < 64)=false:=rfl
   simp only[c107_l0,q4,q8,q11,q12,hnl,sy,tup,↓reduceIte,zA,zG,zC,zD,zF,zE,zB,zH,reduceCtorEq]
   exact⟨trivial,trivial,trivial,trivial,gb,tz⟩
 refine wp_ctx (F:=fun r=>seqC _ _ _ (blockC _ r)) (hfill _ ?_ ?_ ?_ ?_) ?_
 ·simp only[q4,sy,tup,↓reduceIte,zA,zG,zC,zD,zF,zE,zB,zH,reduceCtorEq]
 ·simp only[sy,tup,↓reduceIte,zA,zG,zC,zD,zF,zE,zB,zH,reduceCtorEq]
 ·simp only[hkb,sy,tup,↓reduceIte,zA,zG,zC,zD,zF,zE,zB,zH,reduceCtorEq]
 ·simp only[sy,tup,↓reduceIte,zA,zG,zC,zD,zF,zE,zB,zH,reduceCtorEq]
 rintro x ⟨t,HF,d⟩ ⟨rfl,hd,q4,q11,gb,tF⟩
 dsimp only at hd q4 q11 gb tF
 subst hd
 have lb:loadAt HF ⟨.run kb,0⟩ 64=some [.blk (blkOf N l)]:=by rw[loadAt_eq gb (r:=[.blk (blkOf N l)]) rfl];exact Dh _ _
 have t1F:=(t2.trans t28).trans tF
 have gA:HF.get (.run H.next)=some (.rows false 64 [[.blk 0]]):=(t1F.same (.run H.next) (by show _ < _;omega) id).trans hg1
 have sA:=disk.cell_store (v:=blkOf N l) gA
 have lA:loadAt (HF.set (.run H.next) (.rows false 64 [[.blk (blkOf N l)]])) ⟨.run H.next,0⟩ 64=some [.blk (blkOf N l)]:=by rw[loadAt_eq (b:=.run H.next) (r:=[.blk (blkOf N l)]) (by rw[Heap.get_set,if_pos rfl]) rfl];exact Dh _ _
 simp only[q4,q11,lb,sA,lA,sy,tup,↓reduceIte,zA,zG,zC,zD,zF,zE,zB,zH,reduceCtorEq]
 exact⟨trivial,.inr trivial,_,rfl,(t1.trans t1F).setnew (Nat.le_refl _) _,rfl⟩
end Go.Proofs.YtllkepkaimnodaaGreatDoor.draft
namespace Go.Proofs.YtllkepkaimnodaaGreatDoor.draft
open Go.Am
section
variable {H:Heap} {b:Bk} {id me m s r:Int} {S:List Nat} {c:Int} {g:Bool} (h:SupAt H b id me m s r S c g)
include h
end
def bodyN (id me m s r:Nat) (S:List Nat) (c:Nat) (g:Bool):List Nat:=
 ((((((putB id 8++putB m 1)++putB s 2)++putB r 2)++putB me 1)++outs (fun i=>S.getD i 0) 4)++putB c 2)++[if g then 1 else 0]
end Go.Proofs.YtllkepkaimnodaaGreatDoor.draft
namespace Go.Proofs.YtllkepkaimnodaaGreatDoor.disk
open Go.Am
theorem sect_set {B:Bn} {d:Int} {D:Dev} (h:D.S.length=(B.dev d).S.length) (e:Int) (st ar:Int) (dk:Bool):(Bn.mk (B.l.set d.toNat D) st ar dk).sectors e=B.sectors e:=by
 unfold Bn.sectors Bn.tc Bn.dev
 simp only[List.length_set]
 by_cases ht:tcode B.l.length e=0
 ·rw[if_pos ht,if_pos ht]
  by_cases hi:d.toNat=e.toNat
  ·unfold Bn.dev at h
   rw[hi] at h ⊢
   by_cases hl:e.toNat < B.l.length
   ·rw[List.getD_eq_getElem?_getD,List.getElem?_set_self hl]
    show ((D.S.length:Nat):Int)=_
    rw[h]
   ·rw[List.set_eq_of_length_le (by omega)]
  ·rw[List.getD_eq_getElem?_getD,List.getElem?_set_ne hi,← List.getD_eq_getElem?_getD]
 ·rw[if_neg ht,if_neg ht]
structure Same (B C:Bn):Prop where
 len:C.l.length=B.l.length
 sec:∀ d,C.sectors d=B.sectors d
 dk:B.ar=0→B.dk=false→C.ar=0∧C.dk=false
theorem Same.trans {A B C:Bn} (h:Same A B) (k:Same B C):Same A C:=⟨k.len.trans h.len,fun d=>(k.sec d).trans (h.sec d),fun a b=>k.dk (h.dk a b).1 (h.dk a b).2⟩
theorem Same.refl (B:Bn):Same B B:=⟨rfl,fun _=>rfl,fun a b=>⟨a,b⟩⟩
theorem same_step {B:Bn} {d:Int} {D:Dev} (h:D.S.length=(B.dev d).S.length):Same B (B.step d D):=by
 unfold Bn.step
 split
 ·rename_i h1
  exact⟨rfl,fun _=>rfl,fun a=>by rw[h1] at a;cases a⟩
 ·refine⟨List.length_set ..,fun e=>sect_set h e _ _ _,fun a b=>⟨?_,b⟩⟩
  show arLess B.ar=0
  rw[a];rfl
theorem write_S (D:Dev) (n:Int) (x:Nat):(D.write n x).S=D.S:=by
 unfold Dev.write
 split<;>rfl
theorem same_write (B:Bn) (d n:Int) (x:Nat):Same B (B.write d n x):=by
 unfold Bn.write
 split
 ·exact same_step (by rw[write_S])
 ·exact Same.refl B
end Go.Proofs.YtllkepkaimnodaaGreatDoor.disk
namespace Go.Proofs.YtllkepkaimnodaaGreatDoor.draft
open Go.Am
def sizes (k:Nat):List Int:=List.replicate k 6++[50]
def rowsI (l:List Int):List (List V):=l.map fun n:Int=>[V.int .i64 n]
theorem rowsI_len (l:List Int):(rowsI l).length=l.length:=by unfold rowsI;simp
theorem rowsI_app (l k:List Int):rowsI (l++k)=rowsI l++rowsI k:=by unfold rowsI;simp
end Go.Proofs.YtllkepkaimnodaaGreatDoor.draft
namespace Go.Proofs.YtllkepkaimnodaaGreatDoor.draft
open Go.Am
open disk (bx Fit A1 R1 Low Bn)
noncomputable def c172:CFn:=⟨[.tmp (pp 6)],
 .seq (.reg [
 qo 6 (.p (S.get (.c (.bool false)))) []]) (
 .seq (.reg [
 mv 7 0,
 qo 8 (.p (arF .geq (tt 7) (ii 1))) [pp 7],
 mv 9 8,
 mg 10 0 9 true,
 qg 11 (.p (arF .leq (tt 10) (ii 256))) 9 true [pp 10],
 qo 12 (.p (pickF (tt 9) (tt 11) (.c (.bool false)))) [pp 9,pp 11],
 mv 13 12,
 mg 14 1 13 true,
 mg 15 2 13 true,
 qg 16 (.p (arF .leq (tt 14) (tt 15))) 13 true [pp 14,pp 15],
 qo 17 (.p (pickF (tt 13) (tt 16) (.c (.bool false)))) [pp 13,pp 16],
 mv 18 17,
 mg 19 2 18 true,
 qg 20 (.p (arF .leq (tt 19) (.c (.int .u64 4611686018427387904)))) 18 true [pp 19],
 qo 21 (.p (pickF (tt 18) (tt 20) (.c (.bool false)))) [pp 18,pp 20],
 mv 22 21,
 mg 23 2 22 true,
 mg 24 1 22 true,
 qg 25 (.p (arF .sub (tt 23) (tt 24))) 22 true [pp 23,pp 24],
 mg 26 0 22 true,
 qg 27 (.p (convF .u64 (tt 26))) 22 true [pp 26],
 qg 28 (.p (arF .leq (tt 25) (tt 27))) 22 true [pp 25,pp 27],
 qo 29 (.p (pickF (tt 22) (tt 28) (.c (.bool false)))) [pp 22,pp 28],
 mv 6 29]) (
 .ret))⟩
theorem c172_eq:fnOf Tryz.prog 172=some c172:=by kernel_rfl
noncomputable def c118:CFn:=⟨[.tmp (pp 6),.tmp (pp 7)],
 .seq (.reg [
 qo 6 (.p (S.get (ii 0))) [],
 qo 7 (.p (S.get (ii 0))) []]) (
 .seq (.seq (.reg [
 mv 8 0,
 mv 9 1,
 mv 10 2,
 qo 11 (.c (callF (ff 172) [(tt 8),(tt 9),(tt 10)])) [pp 8,pp 9,pp 10],
 qo 12 (.p (unF .not (tt 11))) [pp 11]]) (
 .cond (tt 12) (.seq (.reg [
 qo 6 (.p (S.get (ii 0))) [],
 qo 7 (.p (S.get (ii 2))) []]) (
 .ret)) (.skip))) (
 .seq (.reg [
 mv 13 0,
 mv 14 2,
 mv 15 1,
 qo 16 (.p (arF .sub (tt 14) (tt 15))) [pp 14,pp 15],
 qo 17 (.p (convF .i64 (tt 16))) [pp 16],
 qo 18 (.p (arF .sub (tt 13) (tt 17))) [pp 13,pp 17],
 mv 6 18,
 qo 7 (.p (S.get (ii 0))) []]) (
 .ret)))⟩
theorem c118_eq:fnOf Tryz.prog 118=some c118:=by kernel_rfl
noncomputable def c44:CFn:=⟨[.tmp (pp 8),.tmp (pp 9)],
 .seq (.reg [
 qo 8 (.p (S.get (.c (.int .u64 0)))) [],
 qo 9 (.p (S.get (ii 0))) []]) (
 .seq (.reg [
 mv 13 0,
 mv 14 1,
 mv 15 2,
 qo 16 (.c (callF (ff 118) [(tt 13),(tt 14),(tt 15)])) [pp 13,pp 14,pp 15],
 mv 12 16,
 qo 17 (.p (extF (tt 12) 0)) [pp 12],
 qo 18 (.p (extF (tt 12) 1)) [pp 12],
 mv 10 17,
 mv 11 18]) (
 .seq (.block 0 (.seq (.reg [
 mv 20 11,
 qo 21 (.p (eqcF true false [.int .i64] (tt 20) (ii 0))) [pp 20],
 mv 22 21,
 mg 23 3 22 false,
 qg 24 (.p (arF .lss (tt 23) (ii 0))) 22 false [pp 23],
 qo 25 (.p (pickF (tt 22) (.c (.bool true)) (tt 24))) [pp 22,pp 24],
 mv 19 25]) (
 .cond (tt 19) (.seq (.reg [
 qo 8 (.p (S.get (.c (.int .u64 0)))) [],
 qo 9 (.p (S.get (ii 2))) []]) (
 .ret)) (.seq (.reg [
 mv 27 3,
 mv 28 10,
 qo 29 (.p (arF .gtr (tt 27) (tt 28))) [pp 27,pp 28],
 mv 30 29,
 mg 31 3 30 false,
 qg 32 (.p (convF .u64 (tt 31))) 30 false [pp 31],
 mg 33 2 30 false,
 qg 34 (.p (arF .sub (.c (.int .u64 4611686018427387904)) (tt 33))) 30 false [pp 33],
 qg 35 (.p (arF .gtr (tt 32) (tt 34))) 30 false [pp 32,pp 34],
 qo 36 (.p (pickF (tt 30) (.c (.bool true)) (tt 35))) [pp 30,pp 35],
 mv 26 36]) (
 .cond (tt 26) (.seq (.reg [
 qo 8 (.p (S.get (.c (.int .u64 0)))) [],
 qo 9 (.p (S.get (ii 10))) []]) (
 .ret)) (.skip)))))) (
 .seq (.reg [
 mv 37 2,
 mv 38 3,
 qo 39 (.p (convF .u64 (tt 38))) [pp 38],
 qo 40 (.p (arF .add (tt 37) (tt 39))) [pp 37,pp 39],
 mv 8 40,
 qo 9 (.p (S.get (ii 0))) []]) (
 .ret))))⟩
theorem c44_eq:fnOf Tryz.prog 44=some c44:=by kernel_rfl
noncomputable def c185:CFn:=⟨[.tmp (pp 4)],
 .seq (.reg [
 qo 4 (.p (S.get (ii 0))) []]) (
 .seq (.reg [
 mv 5 1,
 mv 6 0,
 qo 7 (.p (convF .u64 (tt 6))) [pp 6],
 qo 8 (.p (arF .rem (tt 5) (tt 7))) [pp 5,pp 7],
 qo 9 (.p (convF .i64 (tt 8))) [pp 8],
 mv 4 9]) (
 .ret))⟩
theorem c185_eq:fnOf Tryz.prog 185=some c185:=by kernel_rfl
noncomputable def c146_l0:C:=.seq (.reg [
 qo 40 (.p (arF .lss (tt 39) (tt 38))) [pp 39,pp 38]]) (
 .seq (.cond (tt 40) (.skip) (.exit 0)) (
 .seq (.block 1 (.seq (.reg [
 mv 41 39,
 mv 9 41]) (
 .reg [
 mv 42 8,
 mv 43 9,
 mv 44 0,
 mv 45 1,
 mv 46 9,
 qo 47 (.p (convF .u64 (tt 46))) [pp 46],
 qo 48 (.p (arF .add (tt 45) (tt 47))) [pp 45,pp 47],
 qo 49 (.c (callF (ff 185) [(tt 44),(tt 48)])) [pp 44,pp 48],
 qo 50 (.p (iaddrSF (tt 42) (tt 43) 1)) [pp 42,pp 43],
 qn (.a (storeF (tt 50) (tt 49) 1)) [pp 50,pp 49]]))) (
 .reg [
 qo 51 (.p (arF .add (tt 39) (ii 1))) [pp 39],
 mv 39 51])))
noncomputable def c146:CFn:=⟨[.tmp (pp 6),.tmp (pp 7)],
 .seq (.reg [
 qo 6 (.p (S.get (.c (.slice none 0 0 0)))) [],
 qo 7 (.p (S.get (ii 0))) []]) (
 .seq (.seq (.reg [
 mv 10 0,
 mv 11 1,
 mv 12 1,
 qo 13 (.c (callF (ff 172) [(tt 10),(tt 11),(tt 12)])) [pp 10,pp 11,pp 12],
 qo 14 (.p (unF .not (tt 13))) [pp 13],
 mv 15 14,
 mg 16 2 15 false,
 qg 17 (.p (arF .lss (tt 16) (ii 0))) 15 false [pp 16],
 qo 18 (.p (pickF (tt 15) (.c (.bool true)) (tt 17))) [pp 15,pp 17],
 mv 19 18,
 mg 20 2 19 false,
 mg 21 0 19 false,
 qg 22 (.p (arF .gtr (tt 20) (tt 21))) 19 false [pp 20,pp 21],
 qo 23 (.p (pickF (tt 19) (.c (.bool true)) (tt 22))) [pp 19,pp 22],
 mv 24 23,
 mg 25 2 24 false,
 qg 26 (.p (arF .gtr (tt 25) (ii 0))) 24 false [pp 25],
 mg 27 26 24 false,
 mg 28 2 27 true,
 qg 29 (.p (arF .sub (tt 28) (ii 1))) 27 true [pp 28],
 qg 30 (.p (convF .u64 (tt 29))) 27 true [pp 29],
 mg 31 1 27 true,
 qg 32 (.p (arF .sub (.c (.int .u64 4611686018427387904)) (tt 31))) 27 true [pp 31],
 qg 33 (.p (arF .gtr (tt 30) (tt 32))) 27 true [pp 30,pp 32],
 qg 34 (.p (pickF (tt 27) (tt 33) (.c (.bool false)))) 24 false [pp 27,pp 33],
 qo 35 (.p (pickF (tt 24) (.c (.bool true)) (tt 34))) [pp 24,pp 34]]) (
 .cond (tt 35) (.seq (.reg [
 qo 6 (.p (S.get (.c (.slice none 0 0 0)))) [],
 qo 7 (.p (S.get (ii 2))) []]) (
 .ret)) (.skip))) (
 .seq (.reg [
 mv 36 2,
 qo 37 (.m (mksliceF 1 8 [.int .i64 0] (tt 36) (tt 36))) [pp 36,pp 36],
 mv 8 37]) (
 .seq (.seq (.reg [
 mv 38 2,
 qo 39 (.p (S.get (ii 0))) []]) (
 .block 0 (.loop c146_l0))) (
 .seq (.reg [
 mv 52 8,
 mv 6 52,
 qo 7 (.p (S.get (ii 0))) []]) (
 .ret)))))⟩
theorem c146_eq:fnOf Tryz.prog 146=some c146:=by kernel_rfl
noncomputable def c119:CFn:=⟨[.tmp (pp 2)],
 .seq (.reg [
 qo 2 (.p (S.get (ii 0))) []]) (
 .seq (.reg [
 mv 3 0,
 qo 4 (.p (arF .add (tt 3) (ii 16))) [pp 3],
 qo 5 (.p (arF .sub (tt 4) (ii 1))) [pp 4],
 qo 6 (.p (arF .quo (tt 5) (ii 16))) [pp 5],
 mv 2 6]) (
 .ret))⟩
theorem c119_eq:fnOf Tryz.prog 119=some c119:=by kernel_rfl
noncomputable def c45:CFn:=⟨[.tmp (pp 2)],
 .seq (.reg [
 qo 2 (.p (S.get (ii 0))) []]) (
 .seq (.seq (.reg [
 mv 3 0,
 qo 4 (.p (arF .lss (tt 3) (ii 1))) [pp 3],
 mv 5 4,
 mg 6 0 5 false,
 qg 7 (.p (arF .gtr (tt 6) (ii 32))) 5 false [pp 6],
 qo 8 (.p (pickF (tt 5) (.c (.bool true)) (tt 7))) [pp 5,pp 7]]) (
 .cond (tt 8) (.seq (.reg [
 qo 2 (.p (S.get (ii 0))) []]) (
 .ret)) (.skip))) (
 .seq (.reg [
 mv 9 0,
 qo 10 (.c (callF (ff 119) [(tt 9)])) [pp 9],
 mv 11 0,
 qo 12 (.p (arF .add (tt 10) (tt 11))) [pp 10,pp 11],
 mv 2 12]) (
 .ret)))⟩
theorem c45_eq:fnOf Tryz.prog 45=some c45:=by kernel_rfl
noncomputable def c144:CFn:=⟨[.tmp (pp 2)],
 .seq (.reg [
 qo 1 (.m (boxF 2 (tt 0))) [pp 0],
 qo 2 (.p (S.get (.c (.bool false)))) []]) (
 .seq (.reg [
 qo 3 (.p (faddrF (tt 1) 0)) [pp 1],
 qo 4 (.r (loadF (tt 3) 1 .sc)) [pp 3],
 qo 5 (.p (arF .geq (tt 4) (ii 0))) [pp 4],
 mv 6 5,
 qg 7 (.p (faddrF (tt 1) 0)) 6 true [pp 1],
 qg 8 (.r (loadF (tt 7) 1 .sc)) 6 true [pp 7],
 qg 9 (.p (arF .lss (tt 8) (ii 64))) 6 true [pp 8],
 qo 10 (.p (pickF (tt 6) (tt 9) (.c (.bool false)))) [pp 6,pp 9],
 mv 11 10,
 qg 12 (.p (faddrF (tt 1) 1)) 11 true [pp 1],
 qg 13 (.r (loadF (tt 12) 1 .sc)) 11 true [pp 12],
 qg 14 (.p (arF .geq (tt 13) (ii 0))) 11 true [pp 13],
 qo 15 (.p (pickF (tt 11) (tt 14) (.c (.bool false)))) [pp 11,pp 14],
 mv 16 15,
 qg 17 (.p (faddrF (tt 1) 1)) 16 true [pp 1],
 qg 18 (.r (loadF (tt 17) 1 .sc)) 16 true [pp 17],
 qg 19 (.p (arF .lss (tt 18) (ii 16))) 16 true [pp 18],
 qo 20 (.p (pickF (tt 16) (tt 19) (.c (.bool false)))) [pp 16,pp 19],
 mv 2 20]) (
 .ret))⟩
theorem c144_eq:fnOf Tryz.prog 144=some c144:=by kernel_rfl
noncomputable def c54:CFn:=⟨[.tmp (pp 2)],
 .seq (.reg [
 qo 2 (.p (S.get (ii 0))) []]) (
 .seq (.seq (.reg [
 mv 3 0,
 qo 4 (.p (arF .lss (tt 3) (ii 1))) [pp 3],
 mv 5 4,
 mg 6 0 5 false,
 qg 7 (.p (arF .gtr (tt 6) (ii 32))) 5 false [pp 6],
 qo 8 (.p (pickF (tt 5) (.c (.bool true)) (tt 7))) [pp 5,pp 7]]) (
 .cond (tt 8) (.seq (.reg [
 qo 2 (.p (S.get (ii 0))) []]) (
 .ret)) (.skip))) (
 .seq (.reg [
 mv 9 0,
 qo 10 (.c (callF (ff 124) [(tt 9)])) [pp 9],
 mv 11 0,
 qo 12 (.p (arF .add (tt 10) (tt 11))) [pp 10,pp 11],
 mv 2 12]) (
 .ret)))⟩
theorem c54_eq:fnOf Tryz.prog 54=some c54:=by kernel_rfl
noncomputable def c124_l0:C:=.seq (.seq (.reg [
 mv 4 3,
 qo 5 (.p (arF .mul (ii 16) (tt 4))) [pp 4],
 mv 6 0,
 qo 7 (.p (arF .lss (tt 5) (tt 6))) [pp 5,pp 6]]) (
 .cond (tt 7) (.skip) (.exit 0))) (
 .block 1 (.reg [
 mv 8 3,
 qo 9 (.p (arF .add (tt 8) (ii 1))) [pp 8],
 mv 3 9]))
noncomputable def c124:CFn:=⟨[.tmp (pp 2)],
 .seq (.reg [
 qo 2 (.p (S.get (ii 0))) []]) (
 .seq (.reg [
 qo 3 (.p (S.get (ii 0))) []]) (
 .seq (.block 0 (.loop c124_l0)) (
 .seq (.reg [
 mv 10 3,
 mv 2 10]) (
 .ret))))⟩
theorem c124_eq:fnOf Tryz.prog 124=some c124:=by kernel_rfl
structure Rg (R t h:Nat):Prop where
 r:1≤R∧R≤256
 th:t≤h
 hm:h≤4611686018427387904
 le:h - t≤R
section
variable {lf K:Nat} (hlf:1000 < lf)
include hlf
theorem urmay (G:Heap) {R t h:Nat} (hr:Rg R t h) (n:Nat):U lf K (n+1) 172 [.int .i64 (R:Int),.int .u64 (t:Int),.int .u64 (h:Int)] G=some (.v (.bool true),G):=by
 obtain⟨⟨r1,r2⟩,th,hm,le⟩:=hr
 have g1:(1:Int)≤(R:Int):=by omega
 have g2:(R:Int)≤256:=by omega
 have g3:(h:Int)≤4611686018427387904:=by omega
 have w1:IntKind.u64.wrap ((h:Int) - (t:Int))=(h:Int) - (t:Int):=Go.Am.wrap_u64 (by omega)
 have w2:IntKind.u64.wrap (R:Int)=(R:Int):=Go.Am.wrap_u64 (by omega)
 have g4:(h:Int) - (t:Int)≤(R:Int):=by omega
 obtain⟨v,H',e',rfl,rfl⟩:ret (U lf K (n+1) 172 [.int .i64 (R:Int),.int .u64 (t:Int),.int .u64 (h:Int)] G) fun v H'=>v=.bool true∧H'=G:=by
  refine ret_callU rfl rfl c172_eq ?_
  simp only[c172,g1,g2,g3,g4,w1,w2,th,r1,r2,sy,tup,↓reduceIte,zA,zG,zC,zD,zF,zE,zB,zH,reduceCtorEq]
  simp
 exact e'
theorem urfree (G:Heap) {R t h:Nat} (hr:Rg R t h) (n:Nat):U lf K (n+2) 118 [.int .i64 (R:Int),.int .u64 (t:Int),.int .u64 (h:Int)] G=some (.v (.tuple [.int .i64 ((R:Int) - ((h - t:Nat):Int)),.int .i64 0]),G):=by
 have e1:=urmay hlf (K:=K) G hr n
 obtain⟨⟨r1,r2⟩,th,hm,le⟩:=hr
 have w1:IntKind.u64.wrap ((h:Int) - (t:Int))=((h - t:Nat):Int):=by rw[Go.Am.wrap_u64 (by omega)];omega
 have w2:IntKind.i64.wrap ((h - t:Nat):Int)=((h - t:Nat):Int):=Go.Am.wrap_i64 (by omega)
 have w3:IntKind.i64.wrap ((R:Int) - ((h - t:Nat):Int))=(R:Int) - ((h - t:Nat):Int):=Go.Am.wrap_i64 (by omega)
 obtain⟨v,H',e',rfl,rfl⟩:ret (U lf K (n+2) 118 [.int .i64 (R:Int),.int .u64 (t:Int),.int .u64 (h:Int)] G) fun v H'=>v=.tuple [.int .i64 ((R:Int) - ((h - t:Nat):Int)),.int .i64 0]∧H'=G:=by
  refine ret_callU rfl rfl c118_eq ?_
  simp (maxDischargeDepth:=12) only[c118,e1,w1,w2,w3,hv,ldO_one,stO_one,sy,tup,↓reduceIte,zA,zG,zC,zD,zF,zE,zB,zH,reduceCtorEq]
  simp
 exact e'
def roomR (R t h n:Nat):Bool:=decide (n≤R - (h - t))&&decide (n≤4611686018427387904 - h)
theorem urtake (G:Heap) {R t h k:Nat} (hr:Rg R t h) (hk:k≤1000) (n:Nat):U lf K (n+3) 44 [.int .i64 (R:Int),.int .u64 (t:Int),.int .u64 (h:Int),.int .i64 (k:Int)] G=some (.v (if roomR R t h k=true then .tuple [.int .u64 ((h+k:Nat):Int),.int .i64 0] else .tuple [.int .u64 0,.int .i64 10]),G):=by
 have e1:=urfree hlf (K:=K) G hr n
 obtain⟨⟨r1,r2⟩,th,hm,le⟩:=hr
 have g0:¬ (k:Int) < 0:=by omega
 have w1:IntKind.u64.wrap (k:Int)=(k:Int):=Go.Am.wrap_u64 (by omega)
 have w2:IntKind.u64.wrap (4611686018427387904 - (h:Int))=4611686018427387904 - (h:Int):=Go.Am.wrap_u64 (by omega)
 have w3:IntKind.u64.wrap ((h:Int)+(k:Int))=((h+k:Nat):Int):=by rw[Go.Am.wrap_u64 (by omega)];omega
 obtain⟨v,H',e',rfl,rfl⟩:ret (U lf K (n+3) 44 [.int .i64 (R:Int),.int .u64 (t:Int),.int .u64 (h:Int),.int .i64 (k:Int)] G) fun v H'=>v=(if roomR R t h k=true then .tuple [.int .u64 ((h+k:Nat):Int),.int .i64 0] else .tuple [.int .u64 0,.int .i64 10])∧H'=G:=by
  refine ret_callU rfl rfl c44_eq ?_
  unfold roomR
  by_cases h1:k≤R - (h - t)
  ·have h1':¬ (R:Int) - ((h - t:Nat):Int) < (k:Int):=by omega
   by_cases h2:k≤4611686018427387904 - h
   ·have h2':¬ 4611686018427387904 - (h:Int) < (k:Int):=by omega
    simp (maxDischargeDepth:=12) only[c44,e1,g0,w1,w2,w3,h1,h2,h1',h2',hv,ldO_one,stO_one,sy,tup,↓reduceIte,zA,zG,zC,zD,zF,zE,zB,zH,reduceCtorEq]
    simp
   ·have h2':4611686018427387904 - (h:Int) < (k:Int):=by omega
    simp (maxDischargeDepth:=12) only[c44,e1,g0,w1,w2,w3,h1,h2,h1',h2',hv,ldO_one,stO_one,sy,tup,↓reduceIte,zA,zG,zC,zD,zF,zE,zB,zH,reduceCtorEq]
    simp
  ·have h1':(R:Int) - ((h - t:Nat):Int) < (k:Int):=by omega
   simp (maxDischargeDepth:=12) only[c44,e1,g0,w1,w2,w3,h1,h1',hv,ldO_one,stO_one,sy,tup,↓reduceIte,zA,zG,zC,zD,zF,zE,zB,zH,reduceCtorEq]
   simp
 exact e'
theorem uheads (G:Heap) {k:Nat} (hk:k≤1000) (n:Nat):U lf K (n+1) 119 [.int .i64 (k:Int)] G=some (.v (.int .i64 (((k+15) / 16:Nat):Int)),G):=by
 obtain⟨m,hm⟩:∃ m,m=k+15:=⟨_,rfl⟩
 obtain⟨z,hz⟩:∃ z,z=(k+15) / 16:=⟨_,rfl⟩
 have w1:IntKind.i64.wrap ((k:Int)+16)=(k:Int)+16:=Go.Am.wrap_i64 (by omega)
 have w2:IntKind.i64.wrap ((k:Int)+16 - 1)=(m:Int):=by rw[Go.Am.wrap_i64 (by omega)];omega
 have q:arith .quo (.int .i64 (m:Int)) (.int .i64 16)=some (.int .i64 (z:Int)):=by rw[hz,← hm];exact quo_i64 m 16 (by decide) (by omega)
 rw[← hz]
 obtain⟨v,H',e',rfl,rfl⟩:ret (U lf K (n+1) 119 [.int .i64 (k:Int)] G) fun v H'=>v=.int .i64 (z:Int)∧H'=G:=by
  refine ret_callU rfl rfl c119_eq ?_
  simp only[c119,w1,w2,q,sy,tup,↓reduceIte,zA,zG,zC,zD,zF,zE,zB,zH,reduceCtorEq]
  simp
 exact e'
def szR (k:Nat):Nat:=if k < 1∨32 < k then 0 else(k+15) / 16+k
theorem usize (G:Heap) {k:Nat} (hk:k≤1000) (n:Nat):U lf K (n+2) 45 [.int .i64 (k:Int)] G=some (.v (.int .i64 (szR k:Int)),G):=by
 have e1:=uheads hlf (K:=K) G hk n
 obtain⟨z,hz⟩:∃ z,z=(k+15) / 16:=⟨_,rfl⟩
 rw[← hz] at e1
 obtain⟨v,H',e',rfl,rfl⟩:ret (U lf K (n+2) 45 [.int .i64 (k:Int)] G) fun v H'=>v=.int .i64 (szR k:Int)∧H'=G:=by
  refine ret_callU rfl rfl c45_eq ?_
  unfold szR
  rw[← hz]
  by_cases h1:k < 1
  ·have h1':(k:Int) < 1:=by omega
   rw[if_pos (.inl h1)]
   simp (maxDischargeDepth:=12) only[c45,h1',hv,ldO_one,stO_one,sy,tup,↓reduceIte,zA,zG,zC,zD,zF,zE,zB,zH,reduceCtorEq]
   simp
  ·have h1':¬ (k:Int) < 1:=by omega
   by_cases h2:32 < k
   ·have h2':(32:Int) < (k:Int):=by omega
    rw[if_pos (.inr h2)]
    simp (maxDischargeDepth:=12) only[c45,h1',h2',hv,ldO_one,stO_one,sy,tup,↓reduceIte,zA,zG,zC,zD,zF,zE,zB,zH,reduceCtorEq]
    simp
   ·have h2':¬ (32:Int) < (k:Int):=by omega
    rw[if_neg (fun h=>h.elim h1 h2)]
    have w:IntKind.i64.wrap ((z:Int)+(k:Int))=(z:Int)+(k:Int):=Go.Am.wrap_i64 (by omega)
    simp (maxDischargeDepth:=12) only[c45,h1',h2',e1,w,hv,ldO_one,stO_one,sy,tup,↓reduceIte,zA,zG,zC,zD,zF,zE,zB,zH,reduceCtorEq]
    simp
 exact e'
def mayP (st m:Int):Bool:=decide (0≤st∧st < 64)&&decide (0≤m∧m < 16)
theorem ucmay (G:Heap) (st m:Int) (n:Nat):ret (U lf K (n+1) 144 [.agg [.int .i64 st,.int .i64 m]] G) fun v G'=>v=.bool (mayP st m)∧Turns Z G G':=by
 have c0:cut [V.int .i64 st,V.int .i64 m] 0 1=some [V.int .i64 st]:=rfl
 have c1:cut [V.int .i64 st,V.int .i64 m] 1 1=some [V.int .i64 m]:=rfl
 refine ret_callU rfl rfl c144_eq ?_
 have key:mayP st m=(decide (0≤st)&&decide (st < 64)&&decide (0≤m)&&decide (m < 16)):=by
  unfold mayP;simp only[Bool.decide_and,Bool.and_assoc]
 rw[key]
 by_cases h1:0≤st<;>by_cases h2:st < 64<;>by_cases h3:0≤m<;>by_cases h4:m < 16
 all_goals
  simp only[c144,c0,c1,h1,h2,h3,h4,hv,ldO_one,stO_one,sy,tup,↓reduceIte,zA,zG,zC,zD,zF,zE,zB,zH,reduceCtorEq]
  exact⟨trivial,.inr trivial,_,rfl,rfl,Turns.add Z G _⟩
end
end Go.Proofs.YtllkepkaimnodaaGreatDoor.draft
namespace Go.Proofs.YtllkepkaimnodaaGreatDoor.draft
open Go.Am
open disk (bx Fit A1 R1 Low Bn)
theorem ldI {ro:Bool} {A:List Int} {i:Nat} (hi:i < A.length):ldO (some (.rows ro 1 (rowsI A))) i 1=some [.int .i64 A[i]]:=by
 have h1:nth (rowsI A) (Nat.div i 1)=some [.int .i64 A[i]]:=nth_of (by
  rw[show Nat.div i 1=i from Nat.div_one i]
  unfold rowsI
  rw[List.getElem?_map,List.getElem?_eq_getElem hi];rfl)
 have h2:Nat.mod i 1=0:=Nat.mod_one i
 unfold ldO
 simp only[h1,h2]
 rfl
theorem stI {A:List Int} {i:Nat} (hi:i < A.length) (x:Int):stO (some (.rows false 1 (rowsI A))) i [.int .i64 x]=some (.rows false 1 (rowsI (A.set i x))):=by
 have h0:Nat.div i 1=i:=Nat.div_one i
 have h1:nth (rowsI A) (Nat.div i 1)=some [.int .i64 A[i]]:=nth_of (by
  rw[h0]
  unfold rowsI
  rw[List.getElem?_map,List.getElem?_eq_getElem hi];rfl)
 have h2:Nat.mod i 1=0:=Nat.mod_one i
 have h3:put [.int .i64 A[i]] 0 [.int .i64 x]=some [.int .i64 x]:=rfl
 rw[h0] at h1
 unfold stO
 simp only[h0,h1,h2,h3,upd_eq]
 unfold rowsI
 rw[List.map_set]
theorem list_at {A:List Int} {n:Nat} (hA:A.length=n) {f:Nat→Int} (h:∀ j,j < n→A.getD j 0=f j):A=(List.range n).map f:=by
 apply List.ext_getElem
 ·simp[hA]
 ·intro i h1 h2
  have:=h i (by omega)
  rw[List.getD,List.getElem?_eq_getElem h1] at this
  rw[List.getElem_map,List.getElem_range]
  exact this
theorem getD_setI {A:List Int} {i:Nat} (hi:i < A.length) (j:Nat) (x:Int):(A.set i x).getD j 0=if j=i then x else A.getD j 0:=by
 simp only[List.getD]
 by_cases e:j=i
 ·subst e;rw[List.getElem?_set_self hi,if_pos rfl];rfl
 ·rw[List.getElem?_set_ne (Ne.symm e),if_neg e]
section
variable {lf K:Nat} (hlf:1000 < lf)
include hlf
theorem usect (G:Heap) {R p:Nat} (hR:1≤R∧R≤256) (n:Nat):U lf K (n+1) 185 [.int .i64 (R:Int),.int .u64 (p:Int)] G=some (.v (.int .i64 ((p % R:Nat):Int)),G):=by
 have w1:IntKind.u64.wrap (R:Int)=(R:Int):=Go.Am.wrap_u64 (by omega)
 have r1:=rem_u64 p R (by omega)
 have hlt:p % R < R:=Nat.mod_lt _ (by omega)
 obtain⟨z,hz⟩:∃ z,z=p % R:=⟨_,rfl⟩
 rw[← hz] at r1 hlt ⊢
 have w2:IntKind.i64.wrap (z:Int)=(z:Int):=Go.Am.wrap_i64 (by omega)
 obtain⟨v,H',e',rfl,rfl⟩:ret (U lf K (n+1) 185 [.int .i64 (R:Int),.int .u64 (p:Int)] G) fun v H'=>v=.int .i64 (z:Int)∧H'=G:=by
  refine ret_callU rfl rfl c185_eq ?_
  simp only[c185,w1,r1,w2,sy,tup,↓reduceIte,zA,zG,zC,zD,zF,zE,zB,zH,reduceCtorEq]
  simp
 exact e'
theorem urlist (G:Heap) {R p k:Nat} (hR:1≤R∧R≤256) (hp:p+k≤4611686018427387904) (hk:1≤k∧k≤R) (n:Nat):ret (U lf K (n+2) 146 [.int .i64 (R:Int),.int .u64 (p:Int),.int .i64 (k:Int)] G) fun v G'=>∃ w,v=.tuple [.slice (some ⟨.run w,0⟩) k k 0,.int .i64 0]∧G.next≤w∧w < G'.next∧G'.get (.run w)=some (.rows false 1 (rowsI ((List.range k).map fun j=>(((p+j) % R:Nat):Int))))∧Turns Z G G':=by
 have e1:=urmay hlf (K:=K) G (R:=R) (t:=p) (h:=p) ⟨hR,Nat.le_refl _,by omega,by omega⟩ n
 have g0:¬ (k:Int) < 0:=by omega
 have g1:¬ (R:Int) < (k:Int):=by omega
 have m1:8*k≤1099511627776:=by omega
 have m2:k≤1099511627776:=by omega
 have w1:IntKind.u64.wrap (4611686018427387904 - (p:Int))=4611686018427387904 - (p:Int):=Go.Am.wrap_u64 (by omega)
 have w3:IntKind.i64.wrap ((k:Int) - 1)=(k:Int) - 1:=Go.Am.wrap_i64 (by omega)
 have ez:List.replicate k [V.int .i64 0]=rowsI (List.replicate k 0):=by unfold rowsI;rw[List.map_replicate]
 have hloop:∀ t:T,t.getP (Tr.path 0)=some (.int .i64 (R:Int))→t.getP (Tr.path 1)=some (.int .u64 (p:Int))→t.getP (Tr.path 8)=some (.slice (some ⟨.run G.next,0⟩) k k 0)→t.getP (Tr.path 38)=some (.int .i64 (k:Int))→t.getP (Tr.path 39)=some (.int .i64 0) →
   wp (loopF (runC (U lf K (n+1)) lf c146_l0) lf ⟨t,G.add (.rows false 1 (rowsI (List.replicate k 0))),[]⟩) fun x s'=>x=.ex 0∧s'.d=[]∧s'.t.getP (Tr.path 8)=some (.slice (some ⟨.run G.next,0⟩) k k 0)∧G.next < s'.H.next∧s'.H.get (.run G.next)=some (.rows false 1 (rowsI ((List.range k).map fun j=>(((p+j) % R:Nat):Int))))∧Turns Z G s'.H:=by
  intro t q0 q1 q8 q38 q39
  refine wp_loopF (fun u s'=>∃(i:Nat) (A:List Int),u=k - i∧i≤k∧s'.d=[]∧s'.t.getP (Tr.path 0)=some (.int .i64 (R:Int))∧s'.t.getP (Tr.path 1)=some (.int .u64 (p:Int))∧s'.t.getP (Tr.path 8)=some (.slice (some ⟨.run G.next,0⟩) k k 0)∧s'.t.getP (Tr.path 38)=some (.int .i64 (k:Int))∧s'.t.getP (Tr.path 39)=some (.int .i64 (i:Int))∧A.length=k∧(∀ j,j < i→A.getD j 0=(((p+j) % R:Nat):Int))∧G.next < s'.H.next∧s'.H.get (.run G.next)=some (.rows false 1 (rowsI A))∧Turns Z G s'.H)
   ?_ lf k _ ⟨0,_,rfl,Nat.zero_le _,rfl,q0,q1,q8,q38,q39,List.length_replicate,fun j hj=>absurd hj (by omega),by show _ < _+1;exact Nat.lt_succ_self _,by rw[Heap.get_add,if_pos rfl],Turns.add Z G _⟩ (by omega)
  rintro u ⟨t,G2,d⟩ ⟨i,A,rfl,hi,hd,q0,q1,q8,q38,q39,hA,hAj,hn,hg,ht⟩
  dsimp only at hd q0 q1 q8 q38 q39 hn hg ht
  subst hd
  by_cases hlt:i < k
  ·have hlt':(i:Int) < (k:Int):=by omega
   have w2:IntKind.i64.wrap ((i:Int)+1)=((i+1:Nat):Int):=by rw[Go.Am.wrap_i64 (by omega)];omega
   have w4:IntKind.u64.wrap (i:Int)=(i:Int):=Go.Am.wrap_u64 (by omega)
   obtain⟨q,hq⟩:∃ q,q=p+i:=⟨_,rfl⟩
   have w5:IntKind.u64.wrap ((p:Int)+(i:Int))=(q:Int):=by rw[Go.Am.wrap_u64 (by omega)];omega
   have eS:=fun H=>usect hlf (K:=K) H (R:=R) (p:=q) hR n
   obtain⟨z,hz⟩:∃ z,z=q % R:=⟨_,rfl⟩
   rw[← hz] at eS
   have hst:=stI (A:=A) (i:=i) (by omega) (z:Int)
   have hle:i+1≤k:=hlt
   simp (maxDischargeDepth:=12) only[c146_l0,q0,q1,q8,q38,q39,hlt',hle,w2,w4,w5,eS,hg,hst,Nat.mul_one,hv,ldO_one,stO_one,sy,tup,↓reduceIte,zA,zG,zC,zD,zF,zE,zB,zH,reduceCtorEq]
   refine⟨k - (i+1),by omega,i+1,A.set i (z:Int),rfl,by omega,trivial,by simp[q0],by simp[q1],by simp[q8],by simp[q38],by simp,by simpa using hA,fun j hj=>?_,hn,by trivial,?_⟩
   ·rw[getD_setI (by omega)]
    by_cases e:j=i
    ·rw[if_pos e,e,hz,hq]
    ·rw[if_neg e];exact hAj j (by omega)
   ·exact ht.setn _ (Nat.le_refl _) _
  ·have:i=k:=by omega
   subst this
   simp (maxDischargeDepth:=12) only[c146_l0,q0,q1,q8,q38,q39,Int.lt_irrefl,hv,ldO_one,stO_one,sy,tup,↓reduceIte,zA,zG,zC,zD,zF,zE,zB,zH,reduceCtorEq]
   exact⟨trivial,trivial,trivial,hn,by rw[hg,list_at hA hAj],ht⟩
 refine ret_callU rfl rfl c146_eq ?_
 have g2:(0:Int) < (k:Int):=by omega
 have w2:IntKind.u64.wrap ((k:Int) - 1)=(k:Int) - 1:=Go.Am.wrap_u64 (by omega)
 have g3:¬ 4611686018427387904 - (p:Int) < (k:Int) - 1:=by omega
 simp (maxDischargeDepth:=12) only[c146,e1,g0,g1,g2,g3,w1,w2,w3,mksliceF,m1,m2,ez,hv,ldO_one,stO_one,sy,tup,↓reduceIte,zA,zG,zC,zD,zF,zE,zB,zH,reduceCtorEq]
 refine wp_ctx (F:=fun r=>seqC _ _ _ (blockC _ r)) (hloop _ ?_ ?_ ?_ ?_ ?_) ?_
 ·simp only[sy,tup,↓reduceIte,zA,zG,zC,zD,zF,zE,zB,zH,reduceCtorEq]
 ·simp only[sy,tup,↓reduceIte,zA,zG,zC,zD,zF,zE,zB,zH,reduceCtorEq]
 ·simp only[sy,tup,↓reduceIte,zA,zG,zC,zD,zF,zE,zB,zH,reduceCtorEq]
 ·simp only[sy,tup,↓reduceIte,zA,zG,zC,zD,zF,zE,zB,zH,reduceCtorEq]
 ·simp only[sy,tup,↓reduceIte,zA,zG,zC,zD,zF,zE,zB,zH,reduceCtorEq]
 rintro x ⟨t,G2,d⟩ ⟨rfl,rfl,q8,hn,hg,ht⟩
 dsimp only at q8 hn hg ht
 simp only[q8,sy,tup,↓reduceIte,zA,zG,zC,zD,zF,zE,zB,zH,reduceCtorEq]
 exact⟨trivial,.inr trivial,_,rfl,G.next,rfl,Nat.le_refl _,hn,hg,ht⟩
end
end Go.Proofs.YtllkepkaimnodaaGreatDoor.draft
