import Derived.Test.YtabebpemfinejaaDoorG1
import Derived.Test.YtabebpemfinejaaDoorAmVeil4
import Derived.Test.YtabebpemfinejaaDoorG0
import Derived.Test.YtabebpemfinejaaDoorAmVeil6
import Derived.Test.YtabebpemfinejaaDoorAmList
set_option linter.unusedVariables false
set_option linter.unusedSectionVars false
set_option linter.unusedSimpArgs false
set_option maxRecDepth 10000
open Nat renaming reduceEqDiff → zA, reduceLeDiff → zB, reduceSub → zC, reduceMul → zD, reduceMod → zE, reduceDiv → zF, reduceAdd → zG
open Int renaming reduceBEq → zH
namespace Go.Proofs.YtabebpemfinejaaDoor.disk
open Go.Am
open Classical in
noncomputable def pick {α:Type} (p:α→Prop):Option α:=if h:∃ x,p x then some (Classical.choose h) else none
theorem pick_some {α:Type} {p:α→Prop} {x:α} (h:pick p=some x):p x:=by
 unfold pick at h
 split at h
 ·rename_i hx;cases h;exact Classical.choose_spec hx
 ·cases h
theorem pick_eq {α:Type} {p:α→Prop} {x:α} (h:p x) (u:∀ y,p y→y=x):pick p=some x:=by
 unfold pick
 rw[dif_pos ⟨x,h⟩]
 exact congrArg some (u _ (Classical.choose_spec ⟨x,h⟩))
def encDev (D:Dev):V:=.tuple [.tuple (D.S.map .blk),.tuple (D.L.map fun w=>.tuple [.int .i64 w.1,.blk w.2]),.bool D.dead]
def encB (r:Bool) (B:Bn):V:=.tuple [.bool r,.tuple (B.l.map encDev),.int .i64 B.st,.int .i64 B.ar,.bool B.dk]
theorem map_inj {α β:Type} {f:α→β} (hf:∀ x y,f x=f y→x=y):∀ {l l':List α},l.map f=l'.map f→l=l'
 | [],[],_=>rfl
 | a::l,b::l',h=>by
  simp only[List.map_cons,List.cons.injEq] at h
  rw[hf _ _ h.1,map_inj hf h.2]
 | [],_::_,h=>by simp at h
 | _::_,[],h=>by simp at h
theorem encDev_inj (D D':Dev) (h:encDev D=encDev D'):D=D':=by
 obtain⟨S,L,d⟩:=D
 obtain⟨S',L',d'⟩:=D'
 simp only[encDev,V.tuple.injEq,List.cons.injEq,V.bool.injEq,and_true] at h
 obtain⟨h1,h2,h3⟩:=h
 have e1:=map_inj (fun x y h=>V.blk.inj h) h1
 have e2:=map_inj (fun x y h=>by
  simp only[V.tuple.injEq,List.cons.injEq,V.int.injEq,V.blk.injEq,true_and,and_true] at h
  exact Prod.ext (by omega) h.2) h2
 rw[e1,e2,h3]
theorem encB_inj {r r':Bool} {B B':Bn} (h:encB r B=encB r' B'):r=r'∧B=B':=by
 obtain⟨l,st,ar,dk⟩:=B
 obtain⟨l',st',ar',dk'⟩:=B'
 simp only[encB,V.tuple.injEq,List.cons.injEq,V.bool.injEq,V.int.injEq,true_and,and_true] at h
 obtain⟨h0,h1,h2,h3,h4⟩:=h
 exact⟨h0,by rw[map_inj encDev_inj h1,h2,h3,h4]⟩
def bx (r:Bool) (B:Bn):Am.Obj:=.box (encB r B)
theorem bx_inj {r r':Bool} {B B':Bn} (h:some (bx r B)=some (bx r' B')):r=r'∧B=B':=encB_inj (by simpa [bx] using h)
def A1 (v:V):Prop:=∃ r B,v=encB r B
def R1:RepT:=fun v H b F=>∃ r B ds so l,v=encB r B∧Rep r H b ds so l B∧F=BFoot b ds l
theorem DevAt.regq {H H':Heap} (hn:H'.next=H.next) (hg:H'.get=H.get) {b:Bk} {y:Lay} {D:Dev} (h:DevAt H b y D):DevAt H' b y D:=
 ⟨by rw[hg];exact h.own,by rw[hg];exact h.sure,h.nil,fun e=>by rw[hg];exact h.loose e,⟨(Heap.old_iff hn b).2 h.old.1,(Heap.old_iff hn _).2 h.old.2.1,fun e=>(Heap.old_iff hn _).2 (h.old.2.2 e)⟩,h.ne⟩
theorem DvsAt.regq {H H':Heap} (hn:H'.next=H.next) (hg:H'.get=H.get) {b ds:Bk} {so:Nat} {l:List Dv} {r1 r2 r3:V} (h:DvsAt H b ds so l r1 r2 r3):DvsAt H' b ds so l r1 r2 r3:=
 ⟨by rw[hg];exact h.own,by rw[hg];exact h.ptrs,fun i hi=>(h.dev i hi).regq hn hg,h.sep,⟨(Heap.old_iff hn b).2 h.old.1,(Heap.old_iff hn _).2 h.old.2⟩,h.ne,h.out⟩
theorem ok1:RepOk A1 R1:=by
 refine⟨?_,?_,?_⟩
 ·rintro v H b F _ ⟨r,B,ds,so,l,_,_,rfl⟩
  exact .inl rfl
 ·rintro v H b F c _ ⟨r,B,ds,so,l,_,h,rfl⟩ hc
  exact h.foot_old c hc
 ·rintro v H H' b F _ ⟨r,B,ds,so,l,rfl,h,rfl⟩ hs hn
  refine⟨r,B,ds,so,l,rfl,?_,rfl⟩
  have h0:Rep r ⟨H.m,H.next,H.a,[(none,some Am.undef)]⟩ b ds so l B:=⟨DvsAt.regq (H:=H) (H':=⟨H.m,H.next,H.a,[(none,some Am.undef)]⟩) rfl (by funext c;cases c<;>rfl) h.row,h.map⟩
  refine h0.turnsX (X:=fun c=>¬ BFoot b ds l c) ⟨hn,fun c _ hc=>?_,fun q=>?_⟩ (fun c hc hn=>hn hc)
  ·have hc:BFoot b ds l c:=Classical.byContradiction hc
   rw[hs c hc]
   cases c<;>rfl
  ·have:=q (none,some Am.undef) (List.mem_cons_self ..)
   cases this
structure Fit (B:Bn):Prop where
 ne:B.l≠[]
 le:B.l.length≤17
 good:∀ D ∈ B.l,Good D
 ar:0≤B.ar∧B.ar≤9223372036854775807
 st:0≤B.st∧B.st≤100000
theorem Bok.fit {k:Nat} {B:Bn} (h:Bok k B) (hk:k≤900) (ne:B.l≠[]) (le:B.l.length≤17):Fit B:=⟨ne,le,h.good hk,h.ar,by have:=h.st;omega⟩
abbrev Rel:=List V→Heap→Rs × Heap→Prop
noncomputable def relRow (p:Rel):List V→Heap→Option (Rs × Heap):=fun args G=>pick (p args G)
noncomputable abbrev Low (lf D:Nat):CallT:=callS Tryd.prog S0 lf D
section
variable {r:Bool} {G H:Heap} (u:Under A1 R1 G H) {b:Bk} {B:Bn}
include u
theorem opened (h:G.get b=some (bx r B)):∃ F ds so l,Cov A1 R1 F G H∧Rep r H b ds so l B∧F b=BFoot b ds l:=by
 obtain⟨F,c⟩:=u.ex
 obtain⟨r',B',ds,so,l,e,hR,hF⟩:=c.abs b _ h ⟨r,B,rfl⟩
 obtain⟨rfl,rfl⟩:=encB_inj e
 exact⟨F,ds,so,l,c,hR,hF⟩
theorem asked (K:Nat) {H1:Heap} (t:Turns Z H H1) (hK:H1.next≤H.next+K):Under A1 R1 (G.skip K) (H1.pad (H.next+K)):=u.pure ok1 t hK
theorem turned {F:Bk→Bk→Prop} {ds:Bk} {so:Nat} {l l':List Dv} {B':Bn} {H1:Heap} (c:Cov A1 R1 F G H) (h:G.get b=some (bx r B)) (hF:F b=BFoot b ds l) (k:RNext r H b ds so l H1 l' B') (K:Nat) (hK:H1.next≤H.next+K):Under A1 R1 ((G.set b (bx r B')).skip K) (H1.pad (H.next+K)):=
 u.op ok1 c h ⟨r,B,rfl⟩ ⟨r,B',rfl⟩ (F':=BFoot b ds l') ⟨r,B',ds,so,l',rfl,k.rep,rfl⟩ (fun d hd=>by rw[hF];exact k.foot d hd) (by rw[hF];exact k.turns) hK
theorem made {P:List Int} {ds:Bk} {l:List Dv} {H1:Heap} (hR:Rep r H1 (.run H.next) ds 1 l (newB P)) (hN:∀ c,BFoot (.run H.next) ds l c→¬ H.Old c) (t:Turns Z H H1) (K:Nat) (hK:H1.next≤H.next+K) (hK1:1≤K):Under A1 R1 ((G.add (bx r (newB P))).skip (K - 1)) (H1.pad (H.next+K)):=
 u.made ok1 ⟨r,newB P,rfl⟩ (F':=BFoot (.run H.next) ds l) ⟨r,newB P,ds,1,l,rfl,hR,rfl⟩ hN t hK hK1
theorem picks_low {pp:Option Ptr} {P:List Int} (h:PicksAt G pp P Z):PicksAt H pp P Z:=⟨fun e=>by
 obtain⟨x,ox,ro,rows,h1,h2,h3,h4,h5⟩:=h.has e
 exact⟨x,ox,ro,rows,h1,(Heap.old_iff u.next x).1 h2,h3,u.con h4 (veil_rows _ _ _),h5⟩⟩
end
theorem picks_uniq {G:Heap} {pp:Option Ptr} {P P':List Int} (h:PicksAt G pp P Z) (h':PicksAt G pp P' Z) (hl:P.length=P'.length):P=P':=by
 apply List.ext_getElem hl
 intro i h1 h2
 obtain⟨x,ox,ro,rows,e1,_,_,e4,e5⟩:=h.has (fun e=>by rw[e] at h1;simp at h1)
 obtain⟨x',ox',ro',rows',e1',_,_,e4',e5'⟩:=h'.has (fun e=>by rw[e] at h2;simp at h2)
 rw[e1] at e1';cases e1'
 rw[e4] at e4';cases e4'
 have:=(e5 i h1).symm.trans (e5' i h2)
 simpa using this
def wRead (K:Nat):Rel:=fun args G r=>∃(b:Bk) (d:Int) (n:Int) (B:Bn),args=[.ptr (some ⟨b,0⟩),.int .i64 d,.int .i64 n]∧G.get b=some (bx false B)∧Fit B∧r=(.v (.tuple [.blk (B.read d n),.int .i64 (B.rc d n)]),G.skip K)
theorem tRead {lf:Nat} (hlf:1000 < lf) (D K:Nat):RowTold A1 R1 (Low lf (D+4)) K (43,relRow (wRead K)):=by
 intro args G r G' h H u
 obtain⟨b,d,n,B,rfl,hb,hf,e⟩:=pick_some h
 cases e
 obtain⟨F,ds,so,l,c,hR,hF⟩:=opened u hb
 have hl:l≠[]:=fun e=>hf.ne (List.length_eq_zero_iff.1 (by rw[← hR.len,e];rfl))
 obtain⟨v,H1,e1,rfl,t⟩:=bread_all hR hl hf.good d n hlf D
 exact⟨_,H1,rfl,e1,fun hK=>asked u K t hK⟩
theorem uRead {K:Nat} {G:Heap} {b:Bk} {B:Bn} (hb:G.get b=some (bx false B)) (hf:Fit B) (d:Int) (n:Int):relRow (wRead K) [.ptr (some ⟨b,0⟩),.int .i64 d,.int .i64 n] G=some (.v (.tuple [.blk (B.read d n),.int .i64 (B.rc d n)]),G.skip K):=
 pick_eq ⟨b,d,n,B,rfl,hb,hf,rfl⟩ (by
  rintro q ⟨b',d',n',B',ha,hb',_,rfl⟩
  cases ha
  rw[hb] at hb'
  obtain⟨_,rfl⟩:=bx_inj hb'
  rfl)
def wSectors (K:Nat):Rel:=fun args G r=>∃(b:Bk) (d:Int) (B:Bn),args=[.ptr (some ⟨b,0⟩),.int .i64 d]∧G.get b=some (bx false B)∧Fit B∧r=(.v (.int .i64 (B.sectors d)),G.skip K)
theorem tSectors {lf:Nat} (hlf:1000 < lf) (D K:Nat):RowTold A1 R1 (Low lf (D+3)) K (49,relRow (wSectors K)):=by
 intro args G r G' h H u
 obtain⟨b,d,B,rfl,hb,hf,e⟩:=pick_some h
 cases e
 obtain⟨F,ds,so,l,c,hR,hF⟩:=opened u hb
 have hl:l≠[]:=fun e=>hf.ne (List.length_eq_zero_iff.1 (by rw[← hR.len,e];rfl))
 exact⟨_,H,rfl,bsectors_all hR hl hf.good d lf D,fun hK=>asked u K (Turns.refl Z H) hK⟩
theorem uSectors {K:Nat} {G:Heap} {b:Bk} {B:Bn} (hb:G.get b=some (bx false B)) (hf:Fit B) (d:Int):relRow (wSectors K) [.ptr (some ⟨b,0⟩),.int .i64 d] G=some (.v (.int .i64 (B.sectors d)),G.skip K):=
 pick_eq ⟨b,d,B,rfl,hb,hf,rfl⟩ (by
  rintro q ⟨b',d',B',ha,hb',_,rfl⟩
  cases ha
  rw[hb] at hb'
  obtain⟨_,rfl⟩:=bx_inj hb'
  rfl)
def wDevices (K:Nat):Rel:=fun args G r=>∃(b:Bk) (B:Bn),args=[.ptr (some ⟨b,0⟩)]∧G.get b=some (bx false B)∧Fit B∧r=(.v (.int .i64 (B.l.length:Int)),G.skip K)
theorem tDevices {lf:Nat} (hlf:1000 < lf) (D K:Nat):RowTold A1 R1 (Low lf (D+2)) K (74,relRow (wDevices K)):=by
 intro args G r G' h H u
 obtain⟨b,B,rfl,hb,hf,e⟩:=pick_some h
 cases e
 obtain⟨F,ds,so,l,c,hR,hF⟩:=opened u hb
 have hl:l≠[]:=fun e=>hf.ne (List.length_eq_zero_iff.1 (by rw[← hR.len,e];rfl))
 exact⟨_,H,rfl,(by rw[← hR.len];exact bdevs hR hl lf D),fun hK=>asked u K (Turns.refl Z H) hK⟩
theorem uDevices {K:Nat} {G:Heap} {b:Bk} {B:Bn} (hb:G.get b=some (bx false B)) (hf:Fit B):relRow (wDevices K) [.ptr (some ⟨b,0⟩)] G=some (.v (.int .i64 (B.l.length:Int)),G.skip K):=
 pick_eq ⟨b,B,rfl,hb,hf,rfl⟩ (by
  rintro q ⟨b',B',ha,hb',_,rfl⟩
  cases ha
  rw[hb] at hb'
  obtain⟨_,rfl⟩:=bx_inj hb'
  rfl)
def wDark (K:Nat):Rel:=fun args G r=>∃(b:Bk) (B:Bn),args=[.ptr (some ⟨b,0⟩)]∧G.get b=some (bx false B)∧Fit B∧r=(.v (.bool B.dk),G.skip K)
theorem tDark {lf:Nat} (hlf:1000 < lf) (D K:Nat):RowTold A1 R1 (Low lf (D+2)) K (19,relRow (wDark K)):=by
 intro args G r G' h H u
 obtain⟨b,B,rfl,hb,hf,e⟩:=pick_some h
 cases e
 obtain⟨F,ds,so,l,c,hR,hF⟩:=opened u hb
 have hl:l≠[]:=fun e=>hf.ne (List.length_eq_zero_iff.1 (by rw[← hR.len,e];rfl))
 exact⟨_,H,rfl,bdark hR.at' hl lf D,fun hK=>asked u K (Turns.refl Z H) hK⟩
theorem uDark {K:Nat} {G:Heap} {b:Bk} {B:Bn} (hb:G.get b=some (bx false B)) (hf:Fit B):relRow (wDark K) [.ptr (some ⟨b,0⟩)] G=some (.v (.bool B.dk),G.skip K):=
 pick_eq ⟨b,B,rfl,hb,hf,rfl⟩ (by
  rintro q ⟨b',B',ha,hb',_,rfl⟩
  cases ha
  rw[hb] at hb'
  obtain⟨_,rfl⟩:=bx_inj hb'
  rfl)
def wWrite (K:Nat):Rel:=fun args G r=>∃(b:Bk) (d:Int) (n:Int) (x:Nat) (B:Bn),args=[.ptr (some ⟨b,0⟩),.int .i64 d,.int .i64 n,.blk x]∧G.get b=some (bx false B)∧Fit B∧r=(.v (.int .i64 (B.wc d n)),(G.set b (bx false (B.write d n x))).skip K)
theorem tWrite {lf:Nat} (hlf:1000 < lf) (D K:Nat):RowTold A1 R1 (Low lf (D+6)) K (61,relRow (wWrite K)):=by
 intro args G r G' h H u
 obtain⟨b,d,n,x,B,rfl,hb,hf,e⟩:=pick_some h
 cases e
 obtain⟨F,ds,so,l,c,hR,hF⟩:=opened u hb
 have hl:l≠[]:=fun e=>hf.ne (List.length_eq_zero_iff.1 (by rw[← hR.len,e];rfl))
 obtain⟨v,H1,e1,rfl,l',k⟩:=bwrite_all hR hl hf.good hf.ar hf.st d n x hlf D
 exact⟨_,H1,rfl,e1,fun hK=>turned u c hb hF k K hK⟩
theorem uWrite {K:Nat} {G:Heap} {b:Bk} {B:Bn} (hb:G.get b=some (bx false B)) (hf:Fit B) (d:Int) (n:Int) (x:Nat):relRow (wWrite K) [.ptr (some ⟨b,0⟩),.int .i64 d,.int .i64 n,.blk x] G=some (.v (.int .i64 (B.wc d n)),(G.set b (bx false (B.write d n x))).skip K):=
 pick_eq ⟨b,d,n,x,B,rfl,hb,hf,rfl⟩ (by
  rintro q ⟨b',d',n',x',B',ha,hb',_,rfl⟩
  cases ha
  rw[hb] at hb'
  obtain⟨_,rfl⟩:=bx_inj hb'
  rfl)
def wFlush (K:Nat):Rel:=fun args G r=>∃(b:Bk) (d:Int) (B:Bn),args=[.ptr (some ⟨b,0⟩),.int .i64 d]∧G.get b=some (bx false B)∧Fit B∧r=(.v (.int .i64 (B.wc d 0)),(G.set b (bx false (B.flush d))).skip K)
theorem tFlush {lf:Nat} (hlf:1000 < lf) (D K:Nat):RowTold A1 R1 (Low lf (D+5)) K (66,relRow (wFlush K)):=by
 intro args G r G' h H u
 obtain⟨b,d,B,rfl,hb,hf,e⟩:=pick_some h
 cases e
 obtain⟨F,ds,so,l,c,hR,hF⟩:=opened u hb
 have hl:l≠[]:=fun e=>hf.ne (List.length_eq_zero_iff.1 (by rw[← hR.len,e];rfl))
 obtain⟨v,H1,e1,rfl,l',k⟩:=bflush_all hR hl hf.good hf.ar hf.st d hlf D
 exact⟨_,H1,rfl,e1,fun hK=>turned u c hb hF k K hK⟩
theorem uFlush {K:Nat} {G:Heap} {b:Bk} {B:Bn} (hb:G.get b=some (bx false B)) (hf:Fit B) (d:Int):relRow (wFlush K) [.ptr (some ⟨b,0⟩),.int .i64 d] G=some (.v (.int .i64 (B.wc d 0)),(G.set b (bx false (B.flush d))).skip K):=
 pick_eq ⟨b,d,B,rfl,hb,hf,rfl⟩ (by
  rintro q ⟨b',d',B',ha,hb',_,rfl⟩
  cases ha
  rw[hb] at hb'
  obtain⟨_,rfl⟩:=bx_inj hb'
  rfl)
def wArm (K:Nat):Rel:=fun args G r=>∃(b:Bk) (n:Int) (B:Bn),args=[.ptr (some ⟨b,0⟩),.int .i64 n]∧G.get b=some (bx false B)∧Fit B∧r=(.v (.int .i64 (B.ac n)),(G.set b (bx false (B.arm n))).skip K)
theorem tArm {lf:Nat} (hlf:1000 < lf) (D K:Nat):RowTold A1 R1 (Low lf (D+2)) K (18,relRow (wArm K)):=by
 intro args G r G' h H u
 obtain⟨b,n,B,rfl,hb,hf,e⟩:=pick_some h
 cases e
 obtain⟨F,ds,so,l,c,hR,hF⟩:=opened u hb
 have hl:l≠[]:=fun e=>hf.ne (List.length_eq_zero_iff.1 (by rw[← hR.len,e];rfl))
 obtain⟨v,H1,e1,rfl,k⟩:=barm_all hR hl hf.good n lf D
 exact⟨_,H1,rfl,e1,fun hK=>turned u c hb hF k K hK⟩
theorem uArm {K:Nat} {G:Heap} {b:Bk} {B:Bn} (hb:G.get b=some (bx false B)) (hf:Fit B) (n:Int):relRow (wArm K) [.ptr (some ⟨b,0⟩),.int .i64 n] G=some (.v (.int .i64 (B.ac n)),(G.set b (bx false (B.arm n))).skip K):=
 pick_eq ⟨b,n,B,rfl,hb,hf,rfl⟩ (by
  rintro q ⟨b',n',B',ha,hb',_,rfl⟩
  cases ha
  rw[hb] at hb'
  obtain⟨_,rfl⟩:=bx_inj hb'
  rfl)
def wRot (K:Nat):Rel:=fun args G r=>∃(b:Bk) (d:Int) (n:Int) (j:Int) (y:Nat) (B:Bn),args=[.ptr (some ⟨b,0⟩),.int .i64 d,.int .i64 n,.int .i64 j,.int .u8 (y:Int)]∧G.get b=some (bx false B)∧Fit B∧y < 256∧r=(.v (.int .i64 (B.oc d n j)),(G.set b (bx false (B.rot d n j y))).skip K)
theorem tRot {lf:Nat} (hlf:1000 < lf) (D K:Nat):RowTold A1 R1 (Low lf (D+4)) K (15,relRow (wRot K)):=by
 intro args G r G' h H u
 obtain⟨b,d,n,j,y,B,rfl,hb,hf,hy,e⟩:=pick_some h
 cases e
 obtain⟨F,ds,so,l,c,hR,hF⟩:=opened u hb
 have hl:l≠[]:=fun e=>hf.ne (List.length_eq_zero_iff.1 (by rw[← hR.len,e];rfl))
 obtain⟨v,H1,e1,rfl,l',k⟩:=brot_all hR hl hf.good d n j hy lf D
 exact⟨_,H1,rfl,e1,fun hK=>turned u c hb hF k K hK⟩
def wNew (K:Nat):Rel:=fun args G r=>∃(pp:Option Ptr) (P:List Int) (pc po:Nat),args=[.slice pp P.length pc po]∧PicksAt G pp P Z∧okSizes P∧r=(.v (.tuple [.ptr (some ⟨.run G.next,0⟩),.int .i64 0]),(G.add (bx false (newB P))).skip (K - 1))
theorem tNew {lf:Nat} (hlf:1000 < lf) (D K:Nat) (hK1:1≤K):RowTold A1 R1 (Low lf (D+2)) K (23,relRow (wNew K)):=by
 intro args G r G' h H u
 obtain⟨pp,P,pc,po,rfl,hP,hok,e⟩:=pick_some h
 cases e
 obtain⟨v,H1,e1,t,⟨hn,_⟩ | ⟨_,ds,l,rfl,hR,hN⟩⟩:=bnew_at H (picks_low u hP) hlf D (pc:=pc) (po:=po)
 ·exact absurd hok hn
 ·rw[u.next]
  exact⟨_,H1,rfl,e1,fun hK=>made u hR hN t K hK hK1⟩
theorem uNew {K:Nat} {G:Heap} {pp:Option Ptr} {P:List Int} (hP:PicksAt G pp P Z) (hok:okSizes P) (pc po:Nat):relRow (wNew K) [.slice pp P.length pc po] G=some (.v (.tuple [.ptr (some ⟨.run G.next,0⟩),.int .i64 0]),(G.add (bx false (newB P))).skip (K - 1)):=
 pick_eq ⟨pp,P,pc,po,rfl,hP,hok,rfl⟩ (by
  rintro q ⟨pp',P',pc',po',ha,hP',_,rfl⟩
  simp only[List.cons.injEq,V.slice.injEq,and_true] at ha
  obtain⟨rfl,hl,_⟩:=ha
  rw[picks_uniq hP hP' hl])
theorem picks_foot {G H:Heap} (u:Under A1 R1 G H) {F:Bk→Bk→Prop} (c:Cov A1 R1 F G H) {b:Bk} {B:Bn} {r:Bool} (hb:G.get b=some (bx r B)) {X:Bk→Prop} (hF:F b=X) {pp:Option Ptr} {P:List Int} (h:PicksAt G pp P Z):PicksAt H pp P X:=⟨fun e=>by
 obtain⟨x,ox,ro,rows,h1,h2,h3,h4,h5⟩:=h.has e
 exact⟨x,ox,ro,rows,h1,(Heap.old_iff u.next x).1 h2,fun hx=>by rw[← hF] at hx;exact c.out b _ x _ hb ⟨r,B,rfl⟩ h4 (veil_rows _ _ _) hx,u.con h4 (veil_rows _ _ _),h5⟩⟩
def wCrash (K:Nat):Rel:=fun args G r=>∃(b:Bk) (pp:Option Ptr) (P:List Int) (pc:Nat) (B:Bn),args=[.ptr (some ⟨b,0⟩),.slice pp P.length pc 0]∧G.get b=some (bx false B)∧Fit B∧P.length≤pc∧PicksAt G pp P Z∧r=(.v (.int .i64 0),(G.set b (bx false (B.crash P))).skip K)
theorem tCrash {lf:Nat} (hlf:1000 < lf) (D K:Nat):RowTold A1 R1 (Low lf (D+3)) K (21,relRow (wCrash K)):=by
 intro args G r G' h H u
 obtain⟨b,pp,P,pc,B,rfl,hb,hf,hpc,hP,e⟩:=pick_some h
 cases e
 obtain⟨F,ds,so,l,c,hR,hF⟩:=opened u hb
 have hl:l≠[]:=fun e=>hf.ne (List.length_eq_zero_iff.1 (by rw[← hR.len,e];rfl))
 obtain⟨v,H1,e1,rfl,l',k⟩:=bcrash_all hR hl hf.good (picks_foot u c hb hF hP) hpc hlf (by rw[hR.len];exact hf.le) D
 exact⟨_,H1,rfl,e1,fun hK=>turned u c hb hF k K hK⟩
theorem uCrash {K:Nat} {G:Heap} {b:Bk} {B:Bn} (hb:G.get b=some (bx false B)) (hf:Fit B) {pp:Option Ptr} {P:List Int} (hP:PicksAt G pp P Z) {pc:Nat} (hpc:P.length≤pc):relRow (wCrash K) [.ptr (some ⟨b,0⟩),.slice pp P.length pc 0] G=some (.v (.int .i64 0),(G.set b (bx false (B.crash P))).skip K):=
 pick_eq ⟨b,pp,P,pc,B,rfl,hb,hf,hpc,hP,rfl⟩ (by
  rintro q ⟨b',pp',P',pc',B',ha,hb',_,_,hP',rfl⟩
  simp only[List.cons.injEq,V.ptr.injEq,V.slice.injEq,Option.some.injEq,Ptr.mk.injEq,and_true,true_and] at ha
  obtain⟨rfl,rfl,hl,_⟩:=ha
  rw[hb] at hb'
  obtain⟨_,rfl⟩:=bx_inj hb'
  rw[picks_uniq hP hP' hl])
end Go.Proofs.YtabebpemfinejaaDoor.disk
namespace Go.Proofs.YtabebpemfinejaaDoor.draft
open Go.Am
end Go.Proofs.YtabebpemfinejaaDoor.draft
namespace Go.Proofs.YtabebpemfinejaaDoor.draft
open Go.Am
def fcells (ev id m s r:Int) (S:List Nat) (c:Int) (g:Bool):List V:=[.int .u64 ev,.int .u64 id]++rcells m s r S c g
structure FndAt (H:Heap) (b:Bk) (ev id m s r:Int) (S:List Nat) (c:Int) (g:Bool):Prop where
 own:H.get b=some (.rows false 23 [fcells ev id m s r S c g])
 len:S.length=16
section
variable {H:Heap} {b:Bk} {ev id m s r:Int} {S:List Nat} {c:Int} {g:Bool} (h:FndAt H b ev id m s r S c g)
include h
theorem FndAt.turns {H':Heap} (t:Turns Z H H') (ho:H.Old b):FndAt H' b ev id m s r S c g:=⟨(t.same b ho (fun h=>h)).trans h.own,h.len⟩
end
end Go.Proofs.YtabebpemfinejaaDoor.draft
namespace Go.Proofs.YtabebpemfinejaaDoor.draft
open Go.Am
section
variable {H:Heap} {b ds:Bk} {so:Nat} {l:List disk.Dv} {B:disk.Bn}
end
end Go.Proofs.YtabebpemfinejaaDoor.draft
namespace Go.Proofs.YtabebpemfinejaaDoor.draft
open Go.Am
section
variable {H:Heap} {b ds:Bk} {so:Nat} {l:List disk.Dv} {B:disk.Bn}
end
end Go.Proofs.YtabebpemfinejaaDoor.draft
namespace Go.Proofs.YtabebpemfinejaaDoor.draft
open Go.Am
end Go.Proofs.YtabebpemfinejaaDoor.draft
namespace Go.Proofs.YtabebpemfinejaaDoor.draft
open Go.Am
open disk (bx Fit A1 R1 relRow pick pick_eq pick_some Low ok1 opened asked bx_inj Rel)
open Classical in
theorem lives_low {lf:Nat} {H:Heap} (h:hasG 0 [8,2,8,8] H=true):Low lf 60 13 [] H=some (.v (.bool true),H):=by
 show (match S0 13 [] H with | some r=>some r | none=>_)=_
 have e:S0 13 [] H=some (.v (.bool true),H):=by
  show (match sumG 0 [8,2,8,8] 13 13 [] H with | some r=>some r | none=>_)=_
  have e2:sumG 0 [8,2,8,8] 13 13 [] H=some (.v (.bool true),H):=by
   show (match hasG 0 [8,2,8,8] H with | true=>some (Rs.v (V.bool true),H) | false=>none)=_
   rw[h]
  rw[e2]
 rw[e]
noncomputable def tab (lf K:Nat):List Row:=[
 (23,relRow (disk.wNew (K+2))),
 (43,relRow (disk.wRead (K+2))),
 (49,relRow (disk.wSectors (K+2))),
 (74,relRow (disk.wDevices (K+2))),
 (61,relRow (disk.wWrite (K+2))),
 (66,relRow (disk.wFlush (K+2))),
 (15,relRow (disk.wRot (K+2))),
 (18,relRow (disk.wArm (K+2))),
 (19,relRow (disk.wDark (K+2))),
 (21,relRow (disk.wCrash (K+2))),
 (13,rowG 0 [8,2,8,8] (K+2))]
def dom0 (f:FuncId):Bool:=Nat.beq f 84
noncomputable abbrev U (lf K n:Nat):CallT:=callU Tryd.prog (upS (tab lf K) crc.takeS) (upD (tab lf K) dom0) lf n
theorem tab_told {lf:Nat} (hlf:1000 < lf) (K:Nat):∀ e ∈ tab lf K,RowTold A1 R1 (Low lf 60) (K+2) e:=by
 intro e he
 unfold tab at he
 simp only[List.mem_cons,List.not_mem_nil,or_false] at he
 rcases he with rfl | rfl | rfl | rfl | rfl | rfl | rfl | rfl | rfl | rfl | rfl
 ·exact disk.tNew hlf 58 (K+2) (Nat.le_add_left _ _)
 ·exact disk.tRead hlf 56 (K+2)
 ·exact disk.tSectors hlf 57 (K+2)
 ·exact disk.tDevices hlf 58 (K+2)
 ·exact disk.tWrite hlf 54 (K+2)
 ·exact disk.tFlush hlf 55 (K+2)
 ·exact disk.tRot hlf 56 (K+2)
 ·exact disk.tArm hlf 58 (K+2)
 ·exact disk.tDark hlf 58 (K+2)
 ·exact disk.tCrash hlf 57 (K+2)
 ·exact rowG_told ok1 (fun H h=>lives_low h)
theorem s0_blind:Blind crc.takeS:=by
 intro f args G r G' h
 unfold crc.takeS at h
 split at h
 ·rename_i r c hfi
  split at h
  ·rename_i hb
   cases h
   refine⟨rfl,fun H=>?_⟩
   unfold crc.takeS
   simp only[hfi,hb]
  ·cases h
 ·cases h
theorem s0_dom (f:FuncId) (h:dom0 f=false) (args:List V) (H:Heap):crc.takeS f args H=none:=by
 unfold dom0 at h
 unfold crc.takeS;rw[h]
theorem tab_dom (lf K:Nat) (f:FuncId) (h:inTab (tab lf K) f=true):dom0 f=false:=by
 unfold tab at h
 simp only[inTab] at h
 repeat' (split at h)
 all_goals first
  | (rename_i hf;rw[beq_iff.1 hf];rfl)
  | cases h
theorem up_low {lf:Nat} (hlf:1000 < lf) (h0:CallSnd Tryd.prog S0) (h1:CallSnd Tryd.prog crc.takeS) (d:Nat):∃ K S,CallSnd Tryd.prog S∧CallU A1 R1 (U lf K d) (callS Tryd.prog S lf d):=by
 obtain⟨Y,hY⟩:=callU_grow (P:=Tryd.prog) (orS_grow (sumG_grow _ _ _) s0_blind.grow) (fun _=>false) lf 60
 rw[callU_none] at hY
 exact⟨Y,_,loS_snd h1 (callS_sound h0 lf 60) (tab lf Y) (Y+2),level_under ok1 s0_blind s0_dom (GrowS.mono hY (Nat.le_add_right _ _)) (tab_told hlf Y) (tab_dom lf Y) lf d⟩
theorem qNew {lf K w:Nat} {G:Heap} {pp:Option Ptr} {P:List Int} (hP:disk.PicksAt G pp P disk.Z) (hok:disk.okSizes P) (pc po:Nat):U lf K (w+1) 23 [.slice pp P.length pc po] G=some (.v (.tuple [.ptr (some ⟨.run G.next,0⟩),.int .i64 0]),(G.add (bx false (disk.newB P))).skip (K+1)):=callU_tab (fun _ _=>rfl) (disk.uNew (K:=K+2) hP hok pc po)
theorem qRead {lf K w:Nat} {G:Heap} {b:Bk} {B:disk.Bn} (hb:G.get b=some (bx false B)) (hf:Fit B) (d:Int) (n:Int):U lf K (w+1) 43 [.ptr (some ⟨b,0⟩),.int .i64 d,.int .i64 n] G=some (.v (.tuple [.blk (B.read d n),.int .i64 (B.rc d n)]),G.skip (K+2)):=callU_tab (fun _ _=>rfl) (disk.uRead (K:=K+2) hb hf d n)
theorem qSectors {lf K w:Nat} {G:Heap} {b:Bk} {B:disk.Bn} (hb:G.get b=some (bx false B)) (hf:Fit B) (d:Int):U lf K (w+1) 49 [.ptr (some ⟨b,0⟩),.int .i64 d] G=some (.v (.int .i64 (B.sectors d)),G.skip (K+2)):=callU_tab (fun _ _=>rfl) (disk.uSectors (K:=K+2) hb hf d)
theorem qDevices {lf K w:Nat} {G:Heap} {b:Bk} {B:disk.Bn} (hb:G.get b=some (bx false B)) (hf:Fit B):U lf K (w+1) 74 [.ptr (some ⟨b,0⟩)] G=some (.v (.int .i64 (B.l.length:Int)),G.skip (K+2)):=callU_tab (fun _ _=>rfl) (disk.uDevices (K:=K+2) hb hf )
theorem qWrite {lf K w:Nat} {G:Heap} {b:Bk} {B:disk.Bn} (hb:G.get b=some (bx false B)) (hf:Fit B) (d:Int) (n:Int) (x:Nat):U lf K (w+1) 61 [.ptr (some ⟨b,0⟩),.int .i64 d,.int .i64 n,.blk x] G=some (.v (.int .i64 (B.wc d n)),(G.set b (bx false (B.write d n x))).skip (K+2)):=callU_tab (fun _ _=>rfl) (disk.uWrite (K:=K+2) hb hf d n x)
theorem qFlush {lf K w:Nat} {G:Heap} {b:Bk} {B:disk.Bn} (hb:G.get b=some (bx false B)) (hf:Fit B) (d:Int):U lf K (w+1) 66 [.ptr (some ⟨b,0⟩),.int .i64 d] G=some (.v (.int .i64 (B.wc d 0)),(G.set b (bx false (B.flush d))).skip (K+2)):=callU_tab (fun _ _=>rfl) (disk.uFlush (K:=K+2) hb hf d)
theorem qArm {lf K w:Nat} {G:Heap} {b:Bk} {B:disk.Bn} (hb:G.get b=some (bx false B)) (hf:Fit B) (n:Int):U lf K (w+1) 18 [.ptr (some ⟨b,0⟩),.int .i64 n] G=some (.v (.int .i64 (B.ac n)),(G.set b (bx false (B.arm n))).skip (K+2)):=callU_tab (fun _ _=>rfl) (disk.uArm (K:=K+2) hb hf n)
theorem qDark {lf K w:Nat} {G:Heap} {b:Bk} {B:disk.Bn} (hb:G.get b=some (bx false B)) (hf:Fit B):U lf K (w+1) 19 [.ptr (some ⟨b,0⟩)] G=some (.v (.bool B.dk),G.skip (K+2)):=callU_tab (fun _ _=>rfl) (disk.uDark (K:=K+2) hb hf )
theorem qCrash {lf K w:Nat} {G:Heap} {b:Bk} {B:disk.Bn} (hb:G.get b=some (bx false B)) (hf:Fit B) {pp:Option Ptr} {P:List Int} (hP:disk.PicksAt G pp P disk.Z) {pc:Nat} (hpc:P.length≤pc):U lf K (w+1) 21 [.ptr (some ⟨b,0⟩),.slice pp P.length pc 0] G=some (.v (.int .i64 0),(G.set b (bx false (B.crash P))).skip (K+2)):=callU_tab (fun _ _=>rfl) (disk.uCrash (K:=K+2) hb hf hP hpc)
theorem qLives {lf K w:Nat} {G:Heap} (h:G.get (.run 0)=some (.rows true ([8,2,8,8]:List Int).length (intsR [8,2,8,8]))):U lf K (w+1) 13 [] G=some (.v (.bool true),G.skip (K+2)):=callU_tab (fun _ _=>rfl) (rowG_use h)
end Go.Proofs.YtabebpemfinejaaDoor.draft
namespace Go.Proofs.YtabebpemfinejaaDoor.draft
open Go.Am
def rowsN (l:List Nat):List (List V):=l.map fun c:Nat=>[V.int .u8 (c:Int)]
theorem rowsN_len (l:List Nat):(rowsN l).length=l.length:=by unfold rowsN;simp
theorem rowsN_app (l k:List Nat):rowsN (l++k)=rowsN l++rowsN k:=by unfold rowsN;simp
def digs (n:Nat):Nat→List Nat
 | 0=>[]
 | i+1=>digs n i++[n / 256 ^ i % 256]
theorem digs_len (n:Nat):∀ i,(digs n i).length=i
 | 0=>rfl
 | i+1=>by simp[digs,digs_len n i]
theorem digs_lt (n:Nat):∀ i,∀ x ∈ digs n i,x < 256
 | 0,x,h=>by cases h
 | i+1,x,h=>by
  simp only[digs,List.mem_append,List.mem_singleton] at h
  rcases h with h | h
  ·exact digs_lt n i x h
  ·subst h;exact Nat.mod_lt _ (by decide)
theorem rem_u64 (a b:Nat) (hb:b≠0):arith .rem (.int .u64 (a:Int)) (.int .u64 (b:Int))=some (.int .u64 ((a % b:Nat):Int)):=by
 have h0:eqI (b:Int) 0=false:=by
  rw[C0];simpa using hb
 show (match eqI (b:Int) 0 with | true=>none | false=>frc (remI (a:Int) (b:Int)) fun n=>some (V.int .u64 n))=_
 rw[h0]
 show frc (((a % b:Nat)):Int) _=_
 generalize a % b=z
 cases z<;>rfl
theorem lst_away {H0 HH H' H:Heap} {sz:Nat} {R:List (List V)} {y:V} (hy:Lst H0 HH sz R y) (t:Turns Z H HH) (h0:H.next≤H0.next) (k:Turns (Bof y) HH H'):Turns Z H H':=
 t.later k (fun c hc hb=>by
  obtain⟨_,rfl,h1,_⟩:=hy.bof hb
  exact absurd hc (Heap.not_old (Nat.le_trans h0 h1)))
end Go.Proofs.YtabebpemfinejaaDoor.draft
namespace Go.Proofs.YtabebpemfinejaaDoor.draft
open Go.Am
theorem rowsN_get {l:List Nat} {i x:Nat} (h:l[i]?=some x):(rowsN l)[i]?=some [.int .u8 (x:Int)]:=by
 unfold rowsN
 rw[List.getElem?_map,h];rfl
end Go.Proofs.YtabebpemfinejaaDoor.draft
namespace Go.Proofs.YtabebpemfinejaaDoor.draft
open Go.Am
end Go.Proofs.YtabebpemfinejaaDoor.draft
namespace Go.Proofs.YtabebpemfinejaaDoor.draft
open Go.Am
noncomputable def fillN (f:Nat→Nat):Nat→Nat
 | 0=>0
 | i+1=>setByte (fillN f i) i (f i)
theorem fillN_lt {f:Nat→Nat} (h:∀ i,f i < 256):∀ n,n≤64→fillN f n < 256 ^ 64
 | 0,_=>by show 0 < _;decide +kernel
 | n+1,hn=>setByte_lt _ _ _ (h n) (by omega) (fillN_lt h n (by omega))
theorem byte_fillN {f:Nat→Nat} (h:∀ i,f i < 256):∀ n j,byte (fillN f n) j=if j < n then f j else byte 0 j
 | 0,j=>rfl
 | n+1,j=>by
  show byte (setByte (fillN f n) n (f n)) j=_
  rw[byte_setByte _ _ _ _ (h n),byte_fillN h n j]
  by_cases e:j=n
  ·subst e;simp
  ·rw[if_neg e]
   by_cases h2:j < n
   ·rw[if_pos h2,if_pos (by omega)]
   ·rw[if_neg h2,if_neg (by omega)]
noncomputable def headOf (N:Nat) (l:List Nat):List Nat:=digs N 8++(l++List.replicate (44 - l.length) 0)
noncomputable def sumOf (N:Nat) (l:List Nat):Nat:=notN (crcN (fun i=>(headOf N l).getD i 0) 52)
noncomputable def rowOf (N:Nat) (l:List Nat):List Nat:=(headOf N l++digs (sumOf N l) 4)++digs N 8
noncomputable def blkOf (N:Nat) (l:List Nat):Nat:=fillN (fun i=>(rowOf N l).getD i 0) 64
theorem head_len {N:Nat} {l:List Nat} (h:l.length≤44):(headOf N l).length=52:=by
 unfold headOf
 rw[List.length_append,List.length_append,digs_len,List.length_replicate];omega
theorem row_len {N:Nat} {l:List Nat} (h:l.length≤44):(rowOf N l).length=64:=by
 unfold rowOf
 rw[List.length_append,List.length_append,digs_len,digs_len,head_len h]
theorem head_lt {N:Nat} {l:List Nat} (h:∀ x ∈ l,x < 256):∀ x ∈ headOf N l,x < 256:=by
 intro x hx
 unfold headOf at hx
 rcases List.mem_append.1 hx with h1 | h1
 ·exact digs_lt N 8 x h1
 ·rcases List.mem_append.1 h1 with h2 | h2
  ·exact h x h2
  ·rw[(List.mem_replicate.1 h2).2];decide
theorem row_lt {N:Nat} {l:List Nat} (h:∀ x ∈ l,x < 256):∀ x ∈ rowOf N l,x < 256:=by
 intro x hx
 unfold rowOf at hx
 rcases List.mem_append.1 hx with h1 | h1
 ·rcases List.mem_append.1 h1 with h2 | h2
  ·exact head_lt h x h2
  ·exact digs_lt _ 4 x h2
 ·exact digs_lt N 8 x h1
theorem getD_lt {l:List Nat} (h:∀ x ∈ l,x < 256) (i:Nat):l.getD i 0 < 256:=by
 rw[List.getD_eq_getElem?_getD]
 cases e:l[i]? with
 | none=>decide
 | some x=>exact h x (List.mem_of_getElem? e)
theorem getD_some {l:List Nat} {i:Nat} (h:i < l.length):l[i]?=some (l.getD i 0):=by
 rw[List.getD_eq_getElem?_getD,List.getElem?_eq_getElem h];rfl
theorem bload {H0 H:Heap} {l:List Nat} {v:V} (h:Lst H0 H 1 (rowsN l) v) (hne:l≠[]):∃ k,v=.slice (some ⟨.run k,0⟩) l.length l.length 1∧k < H.next∧∀ i,i < l.length→loadAt H ⟨.run k,i⟩ 1=some [.int .u8 ((l.getD i 0:Nat):Int)]:=by
 have hv:=h
 rcases hv with ⟨e,_⟩ | ⟨k,_,rfl,hg,h1,h2⟩
 ·exact absurd (List.map_eq_nil_iff.1 e) hne
 refine⟨k,by rw[rowsN_len],h2,fun i hi=>?_⟩
 obtain⟨k',e',lk⟩:=h.load (o:=0) (k:=1) (rowsN_get (getD_some hi)) (by omega)
 cases e'
 rw[Nat.mul_one,Nat.add_zero] at lk
 exact lk.trans rfl
end Go.Proofs.YtabebpemfinejaaDoor.draft
namespace Go.Proofs.YtabebpemfinejaaDoor.draft
open Go.Am
section
variable {H:Heap} {b:Bk} {id me m s r:Int} {S:List Nat} {c:Int} {g:Bool} (h:SupAt H b id me m s r S c g)
include h
end
end Go.Proofs.YtabebpemfinejaaDoor.draft
namespace Go.Proofs.YtabebpemfinejaaDoor.disk
open Go.Am
structure Same (B C:Bn):Prop where
 len:C.l.length=B.l.length
 sec:∀ d,C.sectors d=B.sectors d
 dk:B.ar=0→B.dk=false→C.ar=0∧C.dk=false
theorem Same.trans {A B C:Bn} (h:Same A B) (k:Same B C):Same A C:=⟨k.len.trans h.len,fun d=>(k.sec d).trans (h.sec d),fun a b=>k.dk (h.dk a b).1 (h.dk a b).2⟩
theorem Same.refl (B:Bn):Same B B:=⟨rfl,fun _=>rfl,fun a b=>⟨a,b⟩⟩
end Go.Proofs.YtabebpemfinejaaDoor.disk
namespace Go.Proofs.YtabebpemfinejaaDoor.draft
open Go.Am
def sizes (k:Nat):List Int:=List.replicate k 6++[50]
def rowsI (l:List Int):List (List V):=l.map fun n:Int=>[V.int .i64 n]
end Go.Proofs.YtabebpemfinejaaDoor.draft
namespace Go.Proofs.YtabebpemfinejaaDoor.draft
open Go.Am
open disk (bx Fit A1 R1 Low Bn)
noncomputable def c53:CFn:=⟨[.tmp (pp 6)],
 .seq (.reg [
 qo 6 (.p (S.get (.c (.bool false)))) []]) (
 .seq (.reg [
 mv 7 0,
 qo 8 (.p (arF .geq (tt 7) (ii 1))) [pp 7],
 mv 9 8,
 mg 10 0 9 true,
 qg 11 (.p (arF .leq (tt 10) (ii 256))) 9 true [pp 10],
 qo 12 (.p (pickF (tt 9) (tt 11) (.c (.bool false)))) [pp 9,pp 11],
 mv 13 12,
 mg 14 1 13 true,
 mg 15 2 13 true,
 qg 16 (.p (arF .leq (tt 14) (tt 15))) 13 true [pp 14,pp 15],
 qo 17 (.p (pickF (tt 13) (tt 16) (.c (.bool false)))) [pp 13,pp 16],
 mv 18 17,
 mg 19 2 18 true,
 qg 20 (.p (arF .leq (tt 19) (.c (.int .u64 4611686018427387904)))) 18 true [pp 19],
 qo 21 (.p (pickF (tt 18) (tt 20) (.c (.bool false)))) [pp 18,pp 20],
 mv 22 21,
 mg 23 2 22 true,
 mg 24 1 22 true,
 qg 25 (.p (arF .sub (tt 23) (tt 24))) 22 true [pp 23,pp 24],
 mg 26 0 22 true,
 qg 27 (.p (convF .u64 (tt 26))) 22 true [pp 26],
 qg 28 (.p (arF .leq (tt 25) (tt 27))) 22 true [pp 25,pp 27],
 qo 29 (.p (pickF (tt 22) (tt 28) (.c (.bool false)))) [pp 22,pp 28],
 mv 6 29]) (
 .ret))⟩
theorem c53_eq:fnOf Tryd.prog 53=some c53:=by kernel_rfl
noncomputable def c26:CFn:=⟨[.tmp (pp 6),.tmp (pp 7)],
 .seq (.reg [
 qo 6 (.p (S.get (ii 0))) [],
 qo 7 (.p (S.get (ii 0))) []]) (
 .seq (.seq (.reg [
 mv 8 0,
 mv 9 1,
 mv 10 2,
 qo 11 (.c (callF (ff 53) [(tt 8),(tt 9),(tt 10)])) [pp 8,pp 9,pp 10],
 qo 12 (.p (unF .not (tt 11))) [pp 11]]) (
 .cond (tt 12) (.seq (.reg [
 qo 6 (.p (S.get (ii 0))) [],
 qo 7 (.p (S.get (ii 2))) []]) (
 .ret)) (.skip))) (
 .seq (.reg [
 mv 13 0,
 mv 14 2,
 mv 15 1,
 qo 16 (.p (arF .sub (tt 14) (tt 15))) [pp 14,pp 15],
 qo 17 (.p (convF .i64 (tt 16))) [pp 16],
 qo 18 (.p (arF .sub (tt 13) (tt 17))) [pp 13,pp 17],
 mv 6 18,
 qo 7 (.p (S.get (ii 0))) []]) (
 .ret)))⟩
theorem c26_eq:fnOf Tryd.prog 26=some c26:=by kernel_rfl
noncomputable def c30:CFn:=⟨[.tmp (pp 8),.tmp (pp 9)],
 .seq (.reg [
 qo 8 (.p (S.get (.c (.int .u64 0)))) [],
 qo 9 (.p (S.get (ii 0))) []]) (
 .seq (.reg [
 mv 13 0,
 mv 14 1,
 mv 15 2,
 qo 16 (.c (callF (ff 26) [(tt 13),(tt 14),(tt 15)])) [pp 13,pp 14,pp 15],
 mv 12 16,
 qo 17 (.p (extF (tt 12) 0)) [pp 12],
 qo 18 (.p (extF (tt 12) 1)) [pp 12],
 mv 10 17,
 mv 11 18]) (
 .seq (.block 0 (.seq (.reg [
 mv 20 11,
 qo 21 (.p (eqcF true false [.int .i64] (tt 20) (ii 0))) [pp 20],
 mv 22 21,
 mg 23 3 22 false,
 qg 24 (.p (arF .lss (tt 23) (ii 0))) 22 false [pp 23],
 qo 25 (.p (pickF (tt 22) (.c (.bool true)) (tt 24))) [pp 22,pp 24],
 mv 19 25]) (
 .cond (tt 19) (.seq (.reg [
 qo 8 (.p (S.get (.c (.int .u64 0)))) [],
 qo 9 (.p (S.get (ii 2))) []]) (
 .ret)) (.seq (.reg [
 mv 27 3,
 mv 28 10,
 qo 29 (.p (arF .gtr (tt 27) (tt 28))) [pp 27,pp 28],
 mv 30 29,
 mg 31 3 30 false,
 qg 32 (.p (convF .u64 (tt 31))) 30 false [pp 31],
 mg 33 2 30 false,
 qg 34 (.p (arF .sub (.c (.int .u64 4611686018427387904)) (tt 33))) 30 false [pp 33],
 qg 35 (.p (arF .gtr (tt 32) (tt 34))) 30 false [pp 32,pp 34],
 qo 36 (.p (pickF (tt 30) (.c (.bool true)) (tt 35))) [pp 30,pp 35],
 mv 26 36]) (
 .cond (tt 26) (.seq (.reg [
 qo 8 (.p (S.get (.c (.int .u64 0)))) [],
 qo 9 (.p (S.get (ii 10))) []]) (
 .ret)) (.skip)))))) (
 .seq (.reg [
 mv 37 2,
 mv 38 3,
 qo 39 (.p (convF .u64 (tt 38))) [pp 38],
 qo 40 (.p (arF .add (tt 37) (tt 39))) [pp 37,pp 39],
 mv 8 40,
 qo 9 (.p (S.get (ii 0))) []]) (
 .ret))))⟩
theorem c30_eq:fnOf Tryd.prog 30=some c30:=by kernel_rfl
noncomputable def c80:CFn:=⟨[.tmp (pp 4)],
 .seq (.reg [
 qo 4 (.p (S.get (ii 0))) []]) (
 .seq (.reg [
 mv 5 1,
 mv 6 0,
 qo 7 (.p (convF .u64 (tt 6))) [pp 6],
 qo 8 (.p (arF .rem (tt 5) (tt 7))) [pp 5,pp 7],
 qo 9 (.p (convF .i64 (tt 8))) [pp 8],
 mv 4 9]) (
 .ret))⟩
theorem c80_eq:fnOf Tryd.prog 80=some c80:=by kernel_rfl
noncomputable def c59_l0:C:=.seq (.reg [
 qo 40 (.p (arF .lss (tt 39) (tt 38))) [pp 39,pp 38]]) (
 .seq (.cond (tt 40) (.skip) (.exit 0)) (
 .seq (.block 1 (.seq (.reg [
 mv 41 39,
 mv 9 41]) (
 .reg [
 mv 42 8,
 mv 43 9,
 mv 44 0,
 mv 45 1,
 mv 46 9,
 qo 47 (.p (convF .u64 (tt 46))) [pp 46],
 qo 48 (.p (arF .add (tt 45) (tt 47))) [pp 45,pp 47],
 qo 49 (.c (callF (ff 80) [(tt 44),(tt 48)])) [pp 44,pp 48],
 qo 50 (.p (iaddrSF (tt 42) (tt 43) 1)) [pp 42,pp 43],
 qn (.a (storeF (tt 50) (tt 49) 1)) [pp 50,pp 49]]))) (
 .reg [
 qo 51 (.p (arF .add (tt 39) (ii 1))) [pp 39],
 mv 39 51])))
noncomputable def c59:CFn:=⟨[.tmp (pp 6),.tmp (pp 7)],
 .seq (.reg [
 qo 6 (.p (S.get (.c (.slice none 0 0 0)))) [],
 qo 7 (.p (S.get (ii 0))) []]) (
 .seq (.seq (.reg [
 mv 10 0,
 mv 11 1,
 mv 12 1,
 qo 13 (.c (callF (ff 53) [(tt 10),(tt 11),(tt 12)])) [pp 10,pp 11,pp 12],
 qo 14 (.p (unF .not (tt 13))) [pp 13],
 mv 15 14,
 mg 16 2 15 false,
 qg 17 (.p (arF .lss (tt 16) (ii 0))) 15 false [pp 16],
 qo 18 (.p (pickF (tt 15) (.c (.bool true)) (tt 17))) [pp 15,pp 17],
 mv 19 18,
 mg 20 2 19 false,
 mg 21 0 19 false,
 qg 22 (.p (arF .gtr (tt 20) (tt 21))) 19 false [pp 20,pp 21],
 qo 23 (.p (pickF (tt 19) (.c (.bool true)) (tt 22))) [pp 19,pp 22],
 mv 24 23,
 mg 25 2 24 false,
 qg 26 (.p (arF .gtr (tt 25) (ii 0))) 24 false [pp 25],
 mg 27 26 24 false,
 mg 28 2 27 true,
 qg 29 (.p (arF .sub (tt 28) (ii 1))) 27 true [pp 28],
 qg 30 (.p (convF .u64 (tt 29))) 27 true [pp 29],
 mg 31 1 27 true,
 qg 32 (.p (arF .sub (.c (.int .u64 4611686018427387904)) (tt 31))) 27 true [pp 31],
 qg 33 (.p (arF .gtr (tt 30) (tt 32))) 27 true [pp 30,pp 32],
 qg 34 (.p (pickF (tt 27) (tt 33) (.c (.bool false)))) 24 false [pp 27,pp 33],
 qo 35 (.p (pickF (tt 24) (.c (.bool true)) (tt 34))) [pp 24,pp 34]]) (
 .cond (tt 35) (.seq (.reg [
 qo 6 (.p (S.get (.c (.slice none 0 0 0)))) [],
 qo 7 (.p (S.get (ii 2))) []]) (
 .ret)) (.skip))) (
 .seq (.reg [
 mv 36 2,
 qo 37 (.m (mksliceF 1 8 [.int .i64 0] (tt 36) (tt 36))) [pp 36,pp 36],
 mv 8 37]) (
 .seq (.seq (.reg [
 mv 38 2,
 qo 39 (.p (S.get (ii 0))) []]) (
 .block 0 (.loop c59_l0))) (
 .seq (.reg [
 mv 52 8,
 mv 6 52,
 qo 7 (.p (S.get (ii 0))) []]) (
 .ret)))))⟩
theorem c59_eq:fnOf Tryd.prog 59=some c59:=by kernel_rfl
noncomputable def c57:CFn:=⟨[.tmp (pp 2)],
 .seq (.reg [
 qo 2 (.p (S.get (ii 0))) []]) (
 .seq (.reg [
 mv 3 0,
 qo 4 (.p (arF .add (tt 3) (ii 16))) [pp 3],
 qo 5 (.p (arF .sub (tt 4) (ii 1))) [pp 4],
 qo 6 (.p (arF .quo (tt 5) (ii 16))) [pp 5],
 mv 2 6]) (
 .ret))⟩
theorem c57_eq:fnOf Tryd.prog 57=some c57:=by kernel_rfl
noncomputable def c42:CFn:=⟨[.tmp (pp 2)],
 .seq (.reg [
 qo 2 (.p (S.get (ii 0))) []]) (
 .seq (.seq (.reg [
 mv 3 0,
 qo 4 (.p (arF .lss (tt 3) (ii 1))) [pp 3],
 mv 5 4,
 mg 6 0 5 false,
 qg 7 (.p (arF .gtr (tt 6) (ii 32))) 5 false [pp 6],
 qo 8 (.p (pickF (tt 5) (.c (.bool true)) (tt 7))) [pp 5,pp 7]]) (
 .cond (tt 8) (.seq (.reg [
 qo 2 (.p (S.get (ii 0))) []]) (
 .ret)) (.skip))) (
 .seq (.reg [
 mv 9 0,
 qo 10 (.c (callF (ff 57) [(tt 9)])) [pp 9],
 mv 11 0,
 qo 12 (.p (arF .add (tt 10) (tt 11))) [pp 10,pp 11],
 mv 2 12]) (
 .ret)))⟩
theorem c42_eq:fnOf Tryd.prog 42=some c42:=by kernel_rfl
noncomputable def c56:CFn:=⟨[.tmp (pp 2)],
 .seq (.reg [
 qo 1 (.m (boxF 2 (tt 0))) [pp 0],
 qo 2 (.p (S.get (.c (.bool false)))) []]) (
 .seq (.reg [
 qo 3 (.p (faddrF (tt 1) 0)) [pp 1],
 qo 4 (.r (loadF (tt 3) 1 .sc)) [pp 3],
 qo 5 (.p (arF .geq (tt 4) (ii 0))) [pp 4],
 mv 6 5,
 qg 7 (.p (faddrF (tt 1) 0)) 6 true [pp 1],
 qg 8 (.r (loadF (tt 7) 1 .sc)) 6 true [pp 7],
 qg 9 (.p (arF .lss (tt 8) (ii 64))) 6 true [pp 8],
 qo 10 (.p (pickF (tt 6) (tt 9) (.c (.bool false)))) [pp 6,pp 9],
 mv 11 10,
 qg 12 (.p (faddrF (tt 1) 1)) 11 true [pp 1],
 qg 13 (.r (loadF (tt 12) 1 .sc)) 11 true [pp 12],
 qg 14 (.p (arF .geq (tt 13) (ii 0))) 11 true [pp 13],
 qo 15 (.p (pickF (tt 11) (tt 14) (.c (.bool false)))) [pp 11,pp 14],
 mv 16 15,
 qg 17 (.p (faddrF (tt 1) 1)) 16 true [pp 1],
 qg 18 (.r (loadF (tt 17) 1 .sc)) 16 true [pp 17],
 qg 19 (.p (arF .lss (tt 18) (ii 16))) 16 true [pp 18],
 qo 20 (.p (pickF (tt 16) (tt 19) (.c (.bool false)))) [pp 16,pp 19],
 mv 2 20]) (
 .ret))⟩
theorem c56_eq:fnOf Tryd.prog 56=some c56:=by kernel_rfl
structure Rg (R t h:Nat):Prop where
 r:1≤R∧R≤256
 th:t≤h
 hm:h≤4611686018427387904
 le:h - t≤R
section
variable {lf K:Nat} (hlf:1000 < lf)
include hlf
theorem urmay (G:Heap) {R t h:Nat} (hr:Rg R t h) (n:Nat):U lf K (n+1) 53 [.int .i64 (R:Int),.int .u64 (t:Int),.int .u64 (h:Int)] G=some (.v (.bool true),G):=by
 obtain⟨⟨r1,r2⟩,th,hm,le⟩:=hr
 have g1:(1:Int)≤(R:Int):=by omega
 have g2:(R:Int)≤256:=by omega
 have g3:(h:Int)≤4611686018427387904:=by omega
 have w1:IntKind.u64.wrap ((h:Int) - (t:Int))=(h:Int) - (t:Int):=Go.Am.wrap_u64 (by omega)
 have w2:IntKind.u64.wrap (R:Int)=(R:Int):=Go.Am.wrap_u64 (by omega)
 have g4:(h:Int) - (t:Int)≤(R:Int):=by omega
 obtain⟨v,H',e',rfl,rfl⟩:ret (U lf K (n+1) 53 [.int .i64 (R:Int),.int .u64 (t:Int),.int .u64 (h:Int)] G) fun v H'=>v=.bool true∧H'=G:=by
  refine ret_callU rfl rfl c53_eq ?_
  simp only[c53,g1,g2,g3,g4,w1,w2,th,r1,r2,sy,tup,↓reduceIte,zA,zG,zC,zD,zF,zE,zB,zH,reduceCtorEq]
  simp
 exact e'
theorem urfree (G:Heap) {R t h:Nat} (hr:Rg R t h) (n:Nat):U lf K (n+2) 26 [.int .i64 (R:Int),.int .u64 (t:Int),.int .u64 (h:Int)] G=some (.v (.tuple [.int .i64 ((R:Int) - ((h - t:Nat):Int)),.int .i64 0]),G):=by
 have e1:=urmay hlf (K:=K) G hr n
 obtain⟨⟨r1,r2⟩,th,hm,le⟩:=hr
 have w1:IntKind.u64.wrap ((h:Int) - (t:Int))=((h - t:Nat):Int):=by rw[Go.Am.wrap_u64 (by omega)];omega
 have w2:IntKind.i64.wrap ((h - t:Nat):Int)=((h - t:Nat):Int):=Go.Am.wrap_i64 (by omega)
 have w3:IntKind.i64.wrap ((R:Int) - ((h - t:Nat):Int))=(R:Int) - ((h - t:Nat):Int):=Go.Am.wrap_i64 (by omega)
 obtain⟨v,H',e',rfl,rfl⟩:ret (U lf K (n+2) 26 [.int .i64 (R:Int),.int .u64 (t:Int),.int .u64 (h:Int)] G) fun v H'=>v=.tuple [.int .i64 ((R:Int) - ((h - t:Nat):Int)),.int .i64 0]∧H'=G:=by
  refine ret_callU rfl rfl c26_eq ?_
  simp (maxDischargeDepth:=12) only[c26,e1,w1,w2,w3,hv,ldO_one,stO_one,sy,tup,↓reduceIte,zA,zG,zC,zD,zF,zE,zB,zH,reduceCtorEq]
  simp
 exact e'
def roomR (R t h n:Nat):Bool:=decide (n≤R - (h - t))&&decide (n≤4611686018427387904 - h)
theorem urtake (G:Heap) {R t h k:Nat} (hr:Rg R t h) (hk:k≤1000) (n:Nat):U lf K (n+3) 30 [.int .i64 (R:Int),.int .u64 (t:Int),.int .u64 (h:Int),.int .i64 (k:Int)] G=some (.v (if roomR R t h k=true then .tuple [.int .u64 ((h+k:Nat):Int),.int .i64 0] else .tuple [.int .u64 0,.int .i64 10]),G):=by
 have e1:=urfree hlf (K:=K) G hr n
 obtain⟨⟨r1,r2⟩,th,hm,le⟩:=hr
 have g0:¬ (k:Int) < 0:=by omega
 have w1:IntKind.u64.wrap (k:Int)=(k:Int):=Go.Am.wrap_u64 (by omega)
 have w2:IntKind.u64.wrap (4611686018427387904 - (h:Int))=4611686018427387904 - (h:Int):=Go.Am.wrap_u64 (by omega)
 have w3:IntKind.u64.wrap ((h:Int)+(k:Int))=((h+k:Nat):Int):=by rw[Go.Am.wrap_u64 (by omega)];omega
 obtain⟨v,H',e',rfl,rfl⟩:ret (U lf K (n+3) 30 [.int .i64 (R:Int),.int .u64 (t:Int),.int .u64 (h:Int),.int .i64 (k:Int)] G) fun v H'=>v=(if roomR R t h k=true then .tuple [.int .u64 ((h+k:Nat):Int),.int .i64 0] else .tuple [.int .u64 0,.int .i64 10])∧H'=G:=by
  refine ret_callU rfl rfl c30_eq ?_
  unfold roomR
  by_cases h1:k≤R - (h - t)
  ·have h1':¬ (R:Int) - ((h - t:Nat):Int) < (k:Int):=by omega
   by_cases h2:k≤4611686018427387904 - h
   ·have h2':¬ 4611686018427387904 - (h:Int) < (k:Int):=by omega
    simp (maxDischargeDepth:=12) only[c30,e1,g0,w1,w2,w3,h1,h2,h1',h2',hv,ldO_one,stO_one,sy,tup,↓reduceIte,zA,zG,zC,zD,zF,zE,zB,zH,reduceCtorEq]
    simp
   ·have h2':4611686018427387904 - (h:Int) < (k:Int):=by omega
    simp (maxDischargeDepth:=12) only[c30,e1,g0,w1,w2,w3,h1,h2,h1',h2',hv,ldO_one,stO_one,sy,tup,↓reduceIte,zA,zG,zC,zD,zF,zE,zB,zH,reduceCtorEq]
    simp
  ·have h1':(R:Int) - ((h - t:Nat):Int) < (k:Int):=by omega
   simp (maxDischargeDepth:=12) only[c30,e1,g0,w1,w2,w3,h1,h1',hv,ldO_one,stO_one,sy,tup,↓reduceIte,zA,zG,zC,zD,zF,zE,zB,zH,reduceCtorEq]
   simp
 exact e'
theorem uheads (G:Heap) {k:Nat} (hk:k≤1000) (n:Nat):U lf K (n+1) 57 [.int .i64 (k:Int)] G=some (.v (.int .i64 (((k+15) / 16:Nat):Int)),G):=by
 obtain⟨m,hm⟩:∃ m,m=k+15:=⟨_,rfl⟩
 obtain⟨z,hz⟩:∃ z,z=(k+15) / 16:=⟨_,rfl⟩
 have w1:IntKind.i64.wrap ((k:Int)+16)=(k:Int)+16:=Go.Am.wrap_i64 (by omega)
 have w2:IntKind.i64.wrap ((k:Int)+16 - 1)=(m:Int):=by rw[Go.Am.wrap_i64 (by omega)];omega
 have q:arith .quo (.int .i64 (m:Int)) (.int .i64 16)=some (.int .i64 (z:Int)):=by rw[hz,← hm];exact quo_i64 m 16 (by decide) (by omega)
 rw[← hz]
 obtain⟨v,H',e',rfl,rfl⟩:ret (U lf K (n+1) 57 [.int .i64 (k:Int)] G) fun v H'=>v=.int .i64 (z:Int)∧H'=G:=by
  refine ret_callU rfl rfl c57_eq ?_
  simp only[c57,w1,w2,q,sy,tup,↓reduceIte,zA,zG,zC,zD,zF,zE,zB,zH,reduceCtorEq]
  simp
 exact e'
def szR (k:Nat):Nat:=if k < 1∨32 < k then 0 else(k+15) / 16+k
theorem usize (G:Heap) {k:Nat} (hk:k≤1000) (n:Nat):U lf K (n+2) 42 [.int .i64 (k:Int)] G=some (.v (.int .i64 (szR k:Int)),G):=by
 have e1:=uheads hlf (K:=K) G hk n
 obtain⟨z,hz⟩:∃ z,z=(k+15) / 16:=⟨_,rfl⟩
 rw[← hz] at e1
 obtain⟨v,H',e',rfl,rfl⟩:ret (U lf K (n+2) 42 [.int .i64 (k:Int)] G) fun v H'=>v=.int .i64 (szR k:Int)∧H'=G:=by
  refine ret_callU rfl rfl c42_eq ?_
  unfold szR
  rw[← hz]
  by_cases h1:k < 1
  ·have h1':(k:Int) < 1:=by omega
   rw[if_pos (.inl h1)]
   simp (maxDischargeDepth:=12) only[c42,h1',hv,ldO_one,stO_one,sy,tup,↓reduceIte,zA,zG,zC,zD,zF,zE,zB,zH,reduceCtorEq]
   simp
  ·have h1':¬ (k:Int) < 1:=by omega
   by_cases h2:32 < k
   ·have h2':(32:Int) < (k:Int):=by omega
    rw[if_pos (.inr h2)]
    simp (maxDischargeDepth:=12) only[c42,h1',h2',hv,ldO_one,stO_one,sy,tup,↓reduceIte,zA,zG,zC,zD,zF,zE,zB,zH,reduceCtorEq]
    simp
   ·have h2':¬ (32:Int) < (k:Int):=by omega
    rw[if_neg (fun h=>h.elim h1 h2)]
    have w:IntKind.i64.wrap ((z:Int)+(k:Int))=(z:Int)+(k:Int):=Go.Am.wrap_i64 (by omega)
    simp (maxDischargeDepth:=12) only[c42,h1',h2',e1,w,hv,ldO_one,stO_one,sy,tup,↓reduceIte,zA,zG,zC,zD,zF,zE,zB,zH,reduceCtorEq]
    simp
 exact e'
def mayP (st m:Int):Bool:=decide (0≤st∧st < 64)&&decide (0≤m∧m < 16)
theorem ucmay (G:Heap) (st m:Int) (n:Nat):ret (U lf K (n+1) 56 [.agg [.int .i64 st,.int .i64 m]] G) fun v G'=>v=.bool (mayP st m)∧Turns Z G G':=by
 have c0:cut [V.int .i64 st,V.int .i64 m] 0 1=some [V.int .i64 st]:=rfl
 have c1:cut [V.int .i64 st,V.int .i64 m] 1 1=some [V.int .i64 m]:=rfl
 refine ret_callU rfl rfl c56_eq ?_
 have key:mayP st m=(decide (0≤st)&&decide (st < 64)&&decide (0≤m)&&decide (m < 16)):=by
  unfold mayP;simp only[Bool.decide_and,Bool.and_assoc]
 rw[key]
 by_cases h1:0≤st<;>by_cases h2:st < 64<;>by_cases h3:0≤m<;>by_cases h4:m < 16
 all_goals
  simp only[c56,c0,c1,h1,h2,h3,h4,hv,ldO_one,stO_one,sy,tup,↓reduceIte,zA,zG,zC,zD,zF,zE,zB,zH,reduceCtorEq]
  exact⟨trivial,.inr trivial,_,rfl,rfl,Turns.add Z G _⟩
end
end Go.Proofs.YtabebpemfinejaaDoor.draft
namespace Go.Proofs.YtabebpemfinejaaDoor.draft
open Go.Am
open disk (bx Fit A1 R1 Low Bn)
theorem ldI {ro:Bool} {A:List Int} {i:Nat} (hi:i < A.length):ldO (some (.rows ro 1 (rowsI A))) i 1=some [.int .i64 A[i]]:=by
 have h1:nth (rowsI A) (Nat.div i 1)=some [.int .i64 A[i]]:=nth_of (by
  rw[show Nat.div i 1=i from Nat.div_one i]
  unfold rowsI
  rw[List.getElem?_map,List.getElem?_eq_getElem hi];rfl)
 have h2:Nat.mod i 1=0:=Nat.mod_one i
 unfold ldO
 simp only[h1,h2]
 rfl
theorem stI {A:List Int} {i:Nat} (hi:i < A.length) (x:Int):stO (some (.rows false 1 (rowsI A))) i [.int .i64 x]=some (.rows false 1 (rowsI (A.set i x))):=by
 have h0:Nat.div i 1=i:=Nat.div_one i
 have h1:nth (rowsI A) (Nat.div i 1)=some [.int .i64 A[i]]:=nth_of (by
  rw[h0]
  unfold rowsI
  rw[List.getElem?_map,List.getElem?_eq_getElem hi];rfl)
 have h2:Nat.mod i 1=0:=Nat.mod_one i
 have h3:put [.int .i64 A[i]] 0 [.int .i64 x]=some [.int .i64 x]:=rfl
 rw[h0] at h1
 unfold stO
 simp only[h0,h1,h2,h3,upd_eq]
 unfold rowsI
 rw[List.map_set]
theorem list_at {A:List Int} {n:Nat} (hA:A.length=n) {f:Nat→Int} (h:∀ j,j < n→A.getD j 0=f j):A=(List.range n).map f:=by
 apply List.ext_getElem
 ·simp[hA]
 ·intro i h1 h2
  have:=h i (by omega)
  rw[List.getD,List.getElem?_eq_getElem h1] at this
  rw[List.getElem_map,List.getElem_range]
  exact this
theorem getD_setI {A:List Int} {i:Nat} (hi:i < A.length) (j:Nat) (x:Int):(A.set i x).getD j 0=if j=i then x else A.getD j 0:=by
 simp only[List.getD]
 by_cases e:j=i
 ·subst e;rw[List.getElem?_set_self hi,if_pos rfl];rfl
 ·rw[List.getElem?_set_ne (Ne.symm e),if_neg e]
section
variable {lf K:Nat} (hlf:1000 < lf)
include hlf
theorem usect (G:Heap) {R p:Nat} (hR:1≤R∧R≤256) (n:Nat):U lf K (n+1) 80 [.int .i64 (R:Int),.int .u64 (p:Int)] G=some (.v (.int .i64 ((p % R:Nat):Int)),G):=by
 have w1:IntKind.u64.wrap (R:Int)=(R:Int):=Go.Am.wrap_u64 (by omega)
 have r1:=rem_u64 p R (by omega)
 have hlt:p % R < R:=Nat.mod_lt _ (by omega)
 obtain⟨z,hz⟩:∃ z,z=p % R:=⟨_,rfl⟩
 rw[← hz] at r1 hlt ⊢
 have w2:IntKind.i64.wrap (z:Int)=(z:Int):=Go.Am.wrap_i64 (by omega)
 obtain⟨v,H',e',rfl,rfl⟩:ret (U lf K (n+1) 80 [.int .i64 (R:Int),.int .u64 (p:Int)] G) fun v H'=>v=.int .i64 (z:Int)∧H'=G:=by
  refine ret_callU rfl rfl c80_eq ?_
  simp only[c80,w1,r1,w2,sy,tup,↓reduceIte,zA,zG,zC,zD,zF,zE,zB,zH,reduceCtorEq]
  simp
 exact e'
theorem urlist (G:Heap) {R p k:Nat} (hR:1≤R∧R≤256) (hp:p+k≤4611686018427387904) (hk:1≤k∧k≤R) (n:Nat):ret (U lf K (n+2) 59 [.int .i64 (R:Int),.int .u64 (p:Int),.int .i64 (k:Int)] G) fun v G'=>∃ w,v=.tuple [.slice (some ⟨.run w,0⟩) k k 0,.int .i64 0]∧G.next≤w∧w < G'.next∧G'.get (.run w)=some (.rows false 1 (rowsI ((List.range k).map fun j=>(((p+j) % R:Nat):Int))))∧Turns Z G G':=by
 have e1:=urmay hlf (K:=K) G (R:=R) (t:=p) (h:=p) ⟨hR,Nat.le_refl _,by omega,by omega⟩ n
 have g0:¬ (k:Int) < 0:=by omega
 have g1:¬ (R:Int) < (k:Int):=by omega
 have m1:8*k≤1099511627776:=by omega
 have m2:k≤1099511627776:=by omega
 have w1:IntKind.u64.wrap (4611686018427387904 - (p:Int))=4611686018427387904 - (p:Int):=Go.Am.wrap_u64 (by omega)
 have w3:IntKind.i64.wrap ((k:Int) - 1)=(k:Int) - 1:=Go.Am.wrap_i64 (by omega)
 have ez:List.replicate k [V.int .i64 0]=rowsI (List.replicate k 0):=by unfold rowsI;rw[List.map_replicate]
 have hloop:∀ t:T,t.getP (Tr.path 0)=some (.int .i64 (R:Int))→t.getP (Tr.path 1)=some (.int .u64 (p:Int))→t.getP (Tr.path 8)=some (.slice (some ⟨.run G.next,0⟩) k k 0)→t.getP (Tr.path 38)=some (.int .i64 (k:Int))→t.getP (Tr.path 39)=some (.int .i64 0) →
   wp (loopF (runC (U lf K (n+1)) lf c59_l0) lf ⟨t,G.add (.rows false 1 (rowsI (List.replicate k 0))),[]⟩) fun x s'=>x=.ex 0∧s'.d=[]∧s'.t.getP (Tr.path 8)=some (.slice (some ⟨.run G.next,0⟩) k k 0)∧G.next < s'.H.next∧s'.H.get (.run G.next)=some (.rows false 1 (rowsI ((List.range k).map fun j=>(((p+j) % R:Nat):Int))))∧Turns Z G s'.H:=by
  intro t q0 q1 q8 q38 q39
  refine wp_loopF (fun u s'=>∃(i:Nat) (A:List Int),u=k - i∧i≤k∧s'.d=[]∧s'.t.getP (Tr.path 0)=some (.int .i64 (R:Int))∧s'.t.getP (Tr.path 1)=some (.int .u64 (p:Int))∧s'.t.getP (Tr.path 8)=some (.slice (some ⟨.run G.next,0⟩) k k 0)∧s'.t.getP (Tr.path 38)=some (.int .i64 (k:Int))∧s'.t.getP (Tr.path 39)=some (.int .i64 (i:Int))∧A.length=k∧(∀ j,j < i→A.getD j 0=(((p+j) % R:Nat):Int))∧G.next < s'.H.next∧s'.H.get (.run G.next)=some (.rows false 1 (rowsI A))∧Turns Z G s'.H)
   ?_ lf k _ ⟨0,_,rfl,Nat.zero_le _,rfl,q0,q1,q8,q38,q39,List.length_replicate,fun j hj=>absurd hj (by omega),by show _ < _+1;exact Nat.lt_succ_self _,by rw[Heap.get_add,if_pos rfl],Turns.add Z G _⟩ (by omega)
  rintro u ⟨t,G2,d⟩ ⟨i,A,rfl,hi,hd,q0,q1,q8,q38,q39,hA,hAj,hn,hg,ht⟩
  dsimp only at hd q0 q1 q8 q38 q39 hn hg ht
  subst hd
  by_cases hlt:i < k
  ·have hlt':(i:Int) < (k:Int):=by omega
   have w2:IntKind.i64.wrap ((i:Int)+1)=((i+1:Nat):Int):=by rw[Go.Am.wrap_i64 (by omega)];omega
   have w4:IntKind.u64.wrap (i:Int)=(i:Int):=Go.Am.wrap_u64 (by omega)
   obtain⟨q,hq⟩:∃ q,q=p+i:=⟨_,rfl⟩
   have w5:IntKind.u64.wrap ((p:Int)+(i:Int))=(q:Int):=by rw[Go.Am.wrap_u64 (by omega)];omega
   have eS:=fun H=>usect hlf (K:=K) H (R:=R) (p:=q) hR n
   obtain⟨z,hz⟩:∃ z,z=q % R:=⟨_,rfl⟩
   rw[← hz] at eS
   have hst:=stI (A:=A) (i:=i) (by omega) (z:Int)
   have hle:i+1≤k:=hlt
   simp (maxDischargeDepth:=12) only[c59_l0,q0,q1,q8,q38,q39,hlt',hle,w2,w4,w5,eS,hg,hst,Nat.mul_one,hv,ldO_one,stO_one,sy,tup,↓reduceIte,zA,zG,zC,zD,zF,zE,zB,zH,reduceCtorEq]
   refine⟨k - (i+1),by omega,i+1,A.set i (z:Int),rfl,by omega,trivial,by simp[q0],by simp[q1],by simp[q8],by simp[q38],by simp,by simpa using hA,fun j hj=>?_,hn,by trivial,?_⟩
   ·rw[getD_setI (by omega)]
    by_cases e:j=i
    ·rw[if_pos e,e,hz,hq]
    ·rw[if_neg e];exact hAj j (by omega)
   ·exact ht.setn _ (Nat.le_refl _) _
  ·have:i=k:=by omega
   subst this
   simp (maxDischargeDepth:=12) only[c59_l0,q0,q1,q8,q38,q39,Int.lt_irrefl,hv,ldO_one,stO_one,sy,tup,↓reduceIte,zA,zG,zC,zD,zF,zE,zB,zH,reduceCtorEq]
   exact⟨trivial,trivial,trivial,hn,by rw[hg,list_at hA hAj],ht⟩
 refine ret_callU rfl rfl c59_eq ?_
 have g2:(0:Int) < (k:Int):=by omega
 have w2:IntKind.u64.wrap ((k:Int) - 1)=(k:Int) - 1:=Go.Am.wrap_u64 (by omega)
 have g3:¬ 4611686018427387904 - (p:Int) < (k:Int) - 1:=by omega
 simp (maxDischargeDepth:=12) only[c59,e1,g0,g1,g2,g3,w1,w2,w3,mksliceF,m1,m2,ez,hv,ldO_one,stO_one,sy,tup,↓reduceIte,zA,zG,zC,zD,zF,zE,zB,zH,reduceCtorEq]
 refine wp_ctx (F:=fun r=>seqC _ _ _ (blockC _ r)) (hloop _ ?_ ?_ ?_ ?_ ?_) ?_
 ·simp only[sy,tup,↓reduceIte,zA,zG,zC,zD,zF,zE,zB,zH,reduceCtorEq]
 ·simp only[sy,tup,↓reduceIte,zA,zG,zC,zD,zF,zE,zB,zH,reduceCtorEq]
 ·simp only[sy,tup,↓reduceIte,zA,zG,zC,zD,zF,zE,zB,zH,reduceCtorEq]
 ·simp only[sy,tup,↓reduceIte,zA,zG,zC,zD,zF,zE,zB,zH,reduceCtorEq]
 ·simp only[sy,tup,↓reduceIte,zA,zG,zC,zD,zF,zE,zB,zH,reduceCtorEq]
 rintro x ⟨t,G2,d⟩ ⟨rfl,rfl,q8,hn,hg,ht⟩
 dsimp only at q8 hn hg ht
 simp only[q8,sy,tup,↓reduceIte,zA,zG,zC,zD,zF,zE,zB,zH,reduceCtorEq]
 exact⟨trivial,.inr trivial,_,rfl,G.next,rfl,Nat.le_refl _,hn,hg,ht⟩
end
end Go.Proofs.YtabebpemfinejaaDoor.draft
namespace Go.Proofs.YtabebpemfinejaaDoor.draft
open Go.Am
open disk (bx Fit A1 R1 Low Bn)
noncomputable def c25:CFn:=⟨[.tmp (pp 2)],
 .seq (.reg [
 qo 2 (.p (S.get (.c (.bool false)))) []]) (
 .seq (.reg [
 mv 3 0,
 qo 4 (.r (eqnF false .ptr (tt 3) (.c (.ptr none)))) [pp 3],
 mv 5 4,
 mg 6 0 5 false,
 qg 7 (.p (nilcF (tt 6))) 5 false [pp 6],
 qg 8 (.p (faddrF (tt 7) 0)) 5 false [pp 7],
 qg 9 (.r (loadF (tt 8) 1 .sc)) 5 false [pp 8],
 qg 10 (.r (eqnF false .ptr (tt 9) (.c (.ptr none)))) 5 false [pp 9],
 qo 11 (.p (pickF (tt 5) (.c (.bool true)) (tt 10))) [pp 5,pp 10],
 mv 2 11]) (
 .ret))⟩
theorem c25_eq:fnOf Tryd.prog 25=some c25:=by kernel_rfl
noncomputable def c27:CFn:=⟨[.tmp (pp 2)],
 .seq (.reg [
 qo 2 (.p (S.get (.c (.int .u64 0)))) []]) (
 .seq (.regD [
 mv 3 0,
 qo 4 (.p (nilcF (tt 3))) [pp 3],
 qo 5 (.p (faddrF (tt 4) 5)) [pp 4],
 qo 6 (.r (loadF (tt 5) 1 .sc)) [pp 5],
 mv 7 0,
 qo 8 (.p (nilcF (tt 7))) [pp 7],
 qo 9 (.p (faddrF (tt 8) 8)) [pp 8],
 qo 10 (.r (loadF (tt 9) 1 .sc)) [pp 9],
 qo 11 (.p (lenF (tt 10))) [pp 10],
 qo 12 (.p (convF .u64 (tt 11))) [pp 11],
 qo 13 (.p (arF .add (tt 6) (tt 12))) [pp 6,pp 12],
 mv 2 13] [0,1,3,7,0,16,48,112,240,496,1023,2047]) (
 .ret))⟩
theorem c27_eq:fnOf Tryd.prog 27=some c27:=by kernel_rfl
noncomputable def c9:CFn:=⟨[.tmp (pp 2),.tmp (pp 3)],
 .seq (.reg [
 qo 2 (.p (S.get (.c (.int .u64 0)))) [],
 qo 3 (.p (S.get (.c (.int .u64 0)))) []]) (
 .seq (.seq (.reg [
 mv 4 0,
 qo 5 (.c (callF (ff 25) [(tt 4)])) [pp 4]]) (
 .cond (tt 5) (.seq (.reg [
 qo 2 (.p (S.get (.c (.int .u64 0)))) [],
 qo 3 (.p (S.get (.c (.int .u64 0)))) []]) (
 .ret)) (.skip))) (
 .seq (.regD [
 mv 6 0,
 qo 7 (.p (nilcF (tt 6))) [pp 6],
 qo 8 (.p (faddrF (tt 7) 5)) [pp 7],
 qo 9 (.r (loadF (tt 8) 1 .sc)) [pp 8],
 mv 10 0,
 qo 11 (.c (callF (ff 27) [(tt 10)])) [pp 10],
 mv 2 9,
 mv 3 11] [0,1,3,7,0,16,63,127]) (
 .ret)))⟩
theorem c9_eq:fnOf Tryd.prog 9=some c9:=by kernel_rfl
noncomputable def c8:CFn:=⟨[.tmp (pp 2)],
 .seq (.reg [
 qo 2 (.p (S.get (ii 0))) []]) (
 .seq (.seq (.reg [
 mv 3 0,
 qo 4 (.c (callF (ff 25) [(tt 3)])) [pp 3]]) (
 .cond (tt 4) (.seq (.reg [
 qo 2 (.p (S.get (ii 0))) []]) (
 .ret)) (.skip))) (
 .seq (.reg [
 mv 5 0,
 qo 6 (.p (nilcF (tt 5))) [pp 5],
 qo 7 (.p (faddrF (tt 6) 3)) [pp 6],
 qo 8 (.r (loadF (tt 7) 1 .sc)) [pp 7],
 mv 2 8]) (
 .ret)))⟩
noncomputable def c31_l0:C:=.seq (.reg [
 qo 23 (.p (arF .lss (tt 22) (tt 21))) [pp 22,pp 21]]) (
 .seq (.cond (tt 23) (.skip) (.exit 0)) (
 .seq (.block 1 (.seq (.reg [
 mv 24 22,
 mv 9 24]) (
 .reg [
 mv 25 7,
 mv 26 9,
 qo 27 (.p (iaddrSF (tt 25) (tt 26) 1)) [pp 25,pp 26],
 qo 28 (.r (loadF (tt 27) 1 .sc)) [pp 27],
 qo 29 (.p (arF .add (tt 28) (ii 10))) [pp 28],
 qo 30 (.p (iaddrSF (tt 25) (tt 26) 1)) [pp 25,pp 26],
 qn (.a (storeF (tt 30) (tt 29) 1)) [pp 30,pp 29]]))) (
 .reg [
 qo 31 (.p (arF .add (tt 22) (ii 1))) [pp 22],
 mv 22 31])))
noncomputable def c31:CFn:=⟨[.tmp (pp 6)],
 .seq (.reg [
 qo 6 (.p (S.get (.c (.slice none 0 0 0)))) []]) (
 .seq (.reg [
 mv 11 0,
 qo 12 (.p (nilcF (tt 11))) [pp 11],
 qo 13 (.p (faddrF (tt 12) 3)) [pp 12],
 qo 14 (.r (loadF (tt 13) 1 .sc)) [pp 13],
 mv 15 1,
 mv 16 2,
 qo 17 (.c (callF (ff 59) [(tt 14),(tt 15),(tt 16)])) [pp 14,pp 15,pp 16],
 mv 10 17,
 qo 18 (.p (extF (tt 10) 0)) [pp 10],
 qo 19 (.p (extF (tt 10) 1)) [pp 10],
 mv 7 18,
 mv 8 19]) (
 .seq (.seq (.reg [
 mv 20 7,
 qo 21 (.p (lenF (tt 20))) [pp 20],
 qo 22 (.p (S.get (ii 0))) []]) (
 .block 0 (.loop c31_l0))) (
 .seq (.reg [
 mv 32 7,
 mv 6 32]) (
 .ret))))⟩
theorem c31_eq:fnOf Tryd.prog 31=some c31:=by kernel_rfl
structure Nt where
 seq:Nat
 pos:Nat
 cells:Nat
 sum:Nat
def rowsT (N:List Nt):List (List V):=N.map fun n=>[.int .u64 (n.seq:Int),.int .u64 (n.pos:Int),.int .i64 (n.cells:Int),.int .u32 (n.sum:Int)]
theorem rowsT_len (N:List Nt):(rowsT N).length=N.length:=by unfold rowsT;simp
def lcells (b:Bk) (id R cnt first tail head:Nat) (v:V):List V:=[.ptr (some ⟨b,0⟩),.int .i64 0,.int .u64 (id:Int),.int .i64 (R:Int),.int .u64 (cnt:Int),.int .u64 (first:Int),.int .u64 (tail:Int),.int .u64 (head:Int),v]
structure LogAt (G:Heap) (l b:Bk) (id R cnt first tail head:Nat) (N:List Nt) (lv:V):Prop where
 ex:G.get l=some (.rows false 9 [lcells b id R cnt first tail head lv])∧∃ G0,Lst G0 G 4 (rowsT N) lv∧G0.next≤G.next
 old:G.Old l
 rb:1≤R∧R≤256
 rg:Rg R tail head
 fn:first+N.length≤4611686018427387904
 nl:N.length≤8
section
variable {lf K:Nat} (hlf:1000 < lf)
include hlf
variable {G:Heap} {l b:Bk} {id R cnt first tail head:Nat} {N:List Nt} {lv:V} (h:LogAt G l b id R cnt first tail head N lv)
include h
theorem ulnone (n:Nat):U lf K (n+1) 25 [.ptr (some ⟨l,0⟩)] G=some (.v (.bool false),G):=by
 obtain⟨hg,G0,hN,_⟩:=h.ex
 have k0:cut (lcells b id R cnt first tail head lv) 0 1=some [.ptr (some ⟨b,0⟩)]:=rfl
 obtain⟨v,H',e',rfl,rfl⟩:ret (U lf K (n+1) 25 [.ptr (some ⟨l,0⟩)] G) fun v H'=>v=.bool false∧H'=G:=by
  refine ret_callU rfl rfl c25_eq ?_
  simp (maxDischargeDepth:=12) only[c25,hg,k0,hv,ldO_one,stO_one,sy,tup,↓reduceIte,zA,zG,zC,zD,zF,zE,zB,zH,reduceCtorEq]
  simp
 exact e'
theorem ulnext (n:Nat):U lf K (n+1) 27 [.ptr (some ⟨l,0⟩)] G=some (.v (.int .u64 ((first+N.length:Nat):Int)),G):=by
 obtain⟨hg,G0,hN,_⟩:=h.ex
 have hfn:=h.fn
 have hnl:=h.nl
 obtain⟨p,c,o,rfl⟩:=hN.val
 rw[rowsT_len] at hg hN
 have k5:cut (lcells b id R cnt first tail head (.slice p N.length c o)) 5 1=some [.int .u64 (first:Int)]:=rfl
 have k8:cut (lcells b id R cnt first tail head (.slice p N.length c o)) 8 1=some [.slice p N.length c o]:=rfl
 obtain⟨q,hq⟩:∃ q,q=first+N.length:=⟨_,rfl⟩
 have w1:IntKind.u64.wrap (N.length:Int)=(N.length:Int):=Go.Am.wrap_u64 (by omega)
 have w2:IntKind.u64.wrap ((first:Int)+(N.length:Int))=(q:Int):=by rw[Go.Am.wrap_u64 (by omega)];omega
 rw[← hq]
 obtain⟨v,H',e',rfl,rfl⟩:ret (U lf K (n+1) 27 [.ptr (some ⟨l,0⟩)] G) fun v H'=>v=.int .u64 (q:Int)∧H'=G:=by
  refine ret_callU rfl rfl c27_eq ?_
  simp (maxDischargeDepth:=12) only[c27,hg,k5,k8,w1,w2,hv,ldO_one,stO_one,sy,tup,↓reduceIte,zA,zG,zC,zD,zF,zE,zB,zH,reduceCtorEq]
  rw[endD_ok (by kernel_rfl) (by kernel_rfl)]
  simp (maxDischargeDepth:=12) only[hv,ldO_one,stO_one,sy,tup,↓reduceIte,zA,zG,zC,zD,zF,zE,zB,zH,reduceCtorEq]
  exact⟨trivial,.inr trivial,_,rfl,rfl,trivial⟩
 exact e'
theorem ullive (n:Nat):ret (U lf K (n+2) 9 [.ptr (some ⟨l,0⟩)] G) fun v G'=>v=.tuple [.int .u64 (first:Int),.int .u64 ((first+N.length:Nat):Int)]∧Turns Z G G':=by
 have e1:=ulnone hlf h n (K:=K)
 have e2:=ulnext hlf h n (K:=K)
 obtain⟨hg,G0,hN,_⟩:=h.ex
 have k5:cut (lcells b id R cnt first tail head lv) 5 1=some [.int .u64 (first:Int)]:=rfl
 obtain⟨q,hq⟩:∃ q,q=first+N.length:=⟨_,rfl⟩
 rw[← hq] at e2 ⊢
 refine ret_callU rfl rfl c9_eq ?_
 simp (maxDischargeDepth:=12) only[c9,e1,hg,k5,e2,hv,ldO_one,stO_one,sy,tup,↓reduceIte,zA,zG,zC,zD,zF,zE,zB,zH,reduceCtorEq]
 obtain⟨Q,hQ⟩:∃ Q:List (Option V × Option V),Q=[(loadF (.t (Tr.path 8)) 1 .sc (Tr.setP (Tr.path 8) (.ptr (some ⟨l,5⟩)) .e) G,some (.int .u64 (first:Int))),(loadF (.t (Tr.path 8)) 1 .sc (Tr.setP (Tr.path 8) (.ptr (some ⟨l,5⟩)) .e) G,some (.int .u64 (first:Int)))]:=⟨_,rfl⟩
 rw[endD_q (q:=Q) (by kernel_rfl) (by rw[hQ];kernel_rfl)]
 have hQ':∀ x ∈ Q,x.1=x.2:=by
  rw[hQ]
  intro x hx
  simp only[List.mem_cons,List.not_mem_nil,or_false] at hx
  rcases hx with rfl | rfl<;>simp (maxDischargeDepth:=12) only[hg,k5,hv,ldO_one,stO_one,sy,tup,↓reduceIte,zA,zG,zC,zD,zF,zE,zB,zH,reduceCtorEq]
 simp (maxDischargeDepth:=12) only[hv,ldO_one,stO_one,sy,tup,↓reduceIte,zA,zG,zC,zD,zF,zE,zB,zH,reduceCtorEq]
 exact⟨trivial,.inr trivial,_,rfl,rfl,(Turns.refl Z G).owe hQ'⟩
def secs (R p k:Nat):List Int:=(List.range k).map fun j=>(((p+j) % R+10:Nat):Int)
theorem ulsectors {p k:Nat} (hp:p+k≤4611686018427387904) (hk:1≤k∧k≤R) (n:Nat):ret (U lf K (n+3) 31 [.ptr (some ⟨l,0⟩),.int .u64 (p:Int),.int .i64 (k:Int)] G) fun v G'=>∃ w,v=.slice (some ⟨.run w,0⟩) k k 0∧G.next≤w∧w < G'.next∧G'.get (.run w)=some (.rows false 1 (rowsI (secs R p k)))∧Turns Z G G':=by
 obtain⟨v1,G1,e1,w,rfl,hw0,hw1,hg1,t1⟩:=urlist hlf (K:=K) G h.rb hp hk n
 obtain⟨hg,G0,hN,_⟩:=h.ex
 have k3:cut (lcells b id R cnt first tail head lv) 3 1=some [.int .i64 (R:Int)]:=rfl
 have hRb:=h.rb
 have hloop:∀ t:T,t.getP (Tr.path 7)=some (.slice (some ⟨.run w,0⟩) k k 0)→t.getP (Tr.path 21)=some (.int .i64 (k:Int))→t.getP (Tr.path 22)=some (.int .i64 0) →
   wp (loopF (runC (U lf K (n+2)) lf c31_l0) lf ⟨t,G1,[]⟩) fun x s'=>x=.ex 0∧s'.d=[]∧s'.t.getP (Tr.path 7)=some (.slice (some ⟨.run w,0⟩) k k 0)∧w < s'.H.next∧s'.H.get (.run w)=some (.rows false 1 (rowsI (secs R p k)))∧Turns Z G s'.H:=by
  intro t q7 q21 q22
  refine wp_loopF (fun u s'=>∃(i:Nat) (A:List Int),u=k - i∧i≤k∧s'.d=[]∧s'.t.getP (Tr.path 7)=some (.slice (some ⟨.run w,0⟩) k k 0)∧s'.t.getP (Tr.path 21)=some (.int .i64 (k:Int))∧s'.t.getP (Tr.path 22)=some (.int .i64 (i:Int))∧A.length=k∧(∀ j,j < k→A.getD j 0=if j < i then(((p+j) % R+10:Nat):Int) else(((p+j) % R:Nat):Int))∧w < s'.H.next∧s'.H.get (.run w)=some (.rows false 1 (rowsI A))∧Turns Z G s'.H)
   ?_ lf k _ ⟨0,_,rfl,Nat.zero_le _,rfl,q7,q21,q22,by simp,fun j hj=>by rw[if_neg (by omega)];simp[List.getD,hj],hw1,hg1,t1⟩ (by omega)
  rintro u ⟨t,G2,d⟩ ⟨i,A,rfl,hi,hd,q7,q21,q22,hA,hAj,hn,hg,ht⟩
  dsimp only at hd q7 q21 q22 hn hg ht
  subst hd
  by_cases hlt:i < k
  ·have hlt':(i:Int) < (k:Int):=by omega
   have w2:IntKind.i64.wrap ((i:Int)+1)=((i+1:Nat):Int):=by rw[Go.Am.wrap_i64 (by omega)];omega
   have hm:(p+i) % R < R:=Nat.mod_lt _ (by omega)
   obtain⟨z,hz⟩:∃ z,z=(p+i) % R:=⟨_,rfl⟩
   have hAi:=hAj i hlt
   rw[if_neg (by omega),← hz] at hAi
   obtain⟨z',hz'⟩:∃ z',z'=z+10:=⟨_,rfl⟩
   have w3:IntKind.i64.wrap ((z:Int)+10)=(z':Int):=by rw[Go.Am.wrap_i64 (by omega)];omega
   have hld:=ldI (ro:=false) (A:=A) (i:=i) (by omega)
   rw[show A[i]'(by omega)=(z:Int) by rw[← hAi];simp[List.getD,show i < A.length by omega]] at hld
   have hst:=stI (A:=A) (i:=i) (by omega) (z':Int)
   have hle:i+1≤k:=hlt
   simp (maxDischargeDepth:=12) only[c31_l0,q7,q21,q22,hlt',hle,w2,w3,hg,hld,hst,Nat.mul_one,hv,ldO_one,stO_one,sy,tup,↓reduceIte,zA,zG,zC,zD,zF,zE,zB,zH,reduceCtorEq]
   refine⟨k - (i+1),by omega,i+1,A.set i (z':Int),rfl,by omega,trivial,by simp[q7],by simp[q21],by simp,by simpa using hA,fun j hj=>?_,hn,by trivial,ht.setn _ hw0 _⟩
   rw[getD_setI (by omega)]
   by_cases e:j=i
   ·rw[if_pos e,if_pos (by omega),e,hz',hz]
    exact Int.natCast_add _ _
   ·rw[if_neg e,hAj j hj]
    by_cases h2:j < i
    ·rw[if_pos h2,if_pos (by omega)]
     exact Int.natCast_add _ _
    ·rw[if_neg h2,if_neg (by omega)]
  ·have:i=k:=by omega
   subst this
   simp (maxDischargeDepth:=12) only[c31_l0,q7,q21,q22,Int.lt_irrefl,hv,ldO_one,stO_one,sy,tup,↓reduceIte,zA,zG,zC,zD,zF,zE,zB,zH,reduceCtorEq]
   refine⟨trivial,trivial,trivial,hn,?_,ht⟩
   rw[hg,list_at hA (f:=fun j=>(((p+j) % R+10:Nat):Int)) (fun j hj=>by rw[hAj j hj,if_pos hj])]
   rfl
 refine ret_callU rfl rfl c31_eq ?_
 simp (maxDischargeDepth:=12) only[c31,hg,k3,e1,hv,ldO_one,stO_one,sy,tup,↓reduceIte,zA,zG,zC,zD,zF,zE,zB,zH,reduceCtorEq]
 refine wp_ctx (F:=fun r=>seqC _ _ _ (blockC _ r)) (hloop _ ?_ ?_ ?_) ?_
 ·simp only[sy,tup,↓reduceIte,zA,zG,zC,zD,zF,zE,zB,zH,reduceCtorEq]
 ·simp only[sy,tup,↓reduceIte,zA,zG,zC,zD,zF,zE,zB,zH,reduceCtorEq]
 ·simp only[sy,tup,↓reduceIte,zA,zG,zC,zD,zF,zE,zB,zH,reduceCtorEq]
 rintro x ⟨t,G2,d⟩ ⟨rfl,rfl,q7,hn,hg,ht⟩
 dsimp only at q7 hn hg ht
 simp only[q7,sy,tup,↓reduceIte,zA,zG,zC,zD,zF,zE,zB,zH,reduceCtorEq]
 exact⟨trivial,.inr trivial,_,rfl,w,rfl,hw0,hn,hg,ht⟩
end
end Go.Proofs.YtabebpemfinejaaDoor.draft
namespace Go.Proofs.YtabebpemfinejaaDoor.draft
open Go.Am
noncomputable def c58_l0:C:=.seq (.reg [
 qo 29 (.p (arF .lss (tt 28) (tt 27))) [pp 28,pp 27]]) (
 .seq (.cond (tt 29) (.skip) (.exit 0)) (
 .seq (.block 1 (.seq (.reg [
 mv 30 28,
 mv 7 30]) (
 .reg [
 mv 31 6,
 mv 32 7,
 mv 33 0,
 mv 34 7,
 qo 35 (.p (arF .mul (ii 8) (tt 34))) [pp 34],
 qo 36 (.p (arF .shr (tt 33) (tt 35))) [pp 33,pp 35],
 qo 37 (.p (convF .u8 (tt 36))) [pp 36],
 qo 38 (.p (iaddrSF (tt 31) (tt 32) 1)) [pp 31,pp 32],
 qn (.a (storeF (tt 38) (tt 37) 1)) [pp 38,pp 37]]))) (
 .reg [
 qo 39 (.p (arF .add (tt 28) (ii 1))) [pp 28],
 mv 28 39])))
noncomputable def c58:CFn:=⟨[.tmp (pp 4),.tmp (pp 5)],
 .seq (.reg [
 qo 4 (.p (S.get (.c (.slice none 0 0 0)))) [],
 qo 5 (.p (S.get (ii 0))) []]) (
 .seq (.seq (.reg [
 mv 8 1,
 qo 9 (.p (arF .lss (tt 8) (ii 1))) [pp 8],
 mv 10 9,
 mg 11 1 10 false,
 qg 12 (.p (arF .gtr (tt 11) (ii 8))) 10 false [pp 11],
 qo 13 (.p (pickF (tt 10) (.c (.bool true)) (tt 12))) [pp 10,pp 12],
 mv 14 13,
 mg 15 1 14 false,
 qg 16 (.p (arF .lss (tt 15) (ii 8))) 14 false [pp 15],
 mg 17 16 14 false,
 mg 18 0 17 true,
 mg 19 1 17 true,
 qg 20 (.p (arF .mul (ii 8) (tt 19))) 17 true [pp 19],
 qg 21 (.p (arF .shr (tt 18) (tt 20))) 17 true [pp 18,pp 20],
 qg 22 (.p (arF .gtr (tt 21) (.c (.int .u64 0)))) 17 true [pp 21],
 qg 23 (.p (pickF (tt 17) (tt 22) (.c (.bool false)))) 14 false [pp 17,pp 22],
 qo 24 (.p (pickF (tt 14) (.c (.bool true)) (tt 23))) [pp 14,pp 23]]) (
 .cond (tt 24) (.seq (.reg [
 qo 4 (.p (S.get (.c (.slice none 0 0 0)))) [],
 qo 5 (.p (S.get (ii 2))) []]) (
 .ret)) (.skip))) (
 .seq (.reg [
 mv 25 1,
 qo 26 (.m (mksliceF 1 1 [.int .u8 0] (tt 25) (tt 25))) [pp 25,pp 25],
 mv 6 26]) (
 .seq (.seq (.reg [
 mv 27 1,
 qo 28 (.p (S.get (ii 0))) []]) (
 .block 0 (.loop c58_l0))) (
 .seq (.reg [
 mv 40 6,
 mv 4 40,
 qo 5 (.p (S.get (ii 0))) []]) (
 .ret)))))⟩
theorem c58_eq:fnOf Tryd.prog 58=some c58:=by kernel_rfl
theorem shr_u64 (a m:Nat) (hm:m < 64):arith .shr (.int .u64 (a:Int)) (.int .i64 (m:Int))=some (.int .u64 ((a / 2 ^ m:Nat):Int)):=by
 have:min m 64=m:=by omega
 show some (V.int .u64 (.ofNat (Nat.div a (Nat.pow 2 (min m 64)))))=_
 rw[this];rfl
def dig (N i:Nat):Nat:=N / 256 ^ i % 256
theorem dig_lt (N i:Nat):dig N i < 256:=Nat.mod_lt _ (by decide)
theorem digs_stl (N:Nat):∀ n,digs N n=stl (dig N) n 0
 | 0=>rfl
 | n+1=>by
  rw[digs,digs_stl N n]
  have:∀(f:Nat→Nat) n j,stl f (n+1) j=stl f n j++[f (j+n)]:=by
   intro f n
   induction n with
   | zero=>intro j;rfl
   | succ n ih=>
    intro j
    show f j::stl f (n+1) (j+1)=(f j::stl f n (j+1))++[f (j+(n+1))]
    rw[ih (j+1),List.cons_append,show j+1+n=j+(n+1) by omega]
  rw[this,Nat.zero_add];rfl
end Go.Proofs.YtabebpemfinejaaDoor.draft
namespace Go.Proofs.YtabebpemfinejaaDoor.draft
open Go.Am
end Go.Proofs.YtabebpemfinejaaDoor.draft
namespace Go.Proofs.YtabebpemfinejaaDoor.draft
open Go.Am
noncomputable def c64:CFn:=⟨[.cell (pp 4) 64 .bk,.tmp (pp 5)],
 .seq (.reg [
 qo 4 (.m (allocF 64 [.blk 0])) [],
 qo 5 (.p (S.get (ii 0))) []]) (
 .seq (.block 0 (.seq (.reg [
 mv 11 0,
 qo 12 (.p (eqcF false false [.int .u64] (tt 11) (.c (.int .u64 0)))) [pp 11],
 mv 10 12]) (
 .cond (tt 10) (.seq (.reg [
 qo 13 (.r (loadF (tt 4) 64 .bk)) [pp 4],
 qn (.a (storeF (tt 4) (tt 13) 64)) [pp 4,pp 13],
 qo 5 (.p (S.get (ii 2))) []]) (
 .ret)) (.seq (.reg [
 mv 15 1,
 qo 16 (.p (lenF (tt 15))) [pp 15],
 qo 17 (.p (arF .gtr (tt 16) (ii 44))) [pp 16],
 mv 14 17]) (
 .cond (tt 14) (.seq (.reg [
 qo 18 (.r (loadF (tt 4) 64 .bk)) [pp 4],
 qn (.a (storeF (tt 4) (tt 18) 64)) [pp 4,pp 18],
 qo 5 (.p (S.get (ii 3))) []]) (
 .ret)) (.skip)))))) (
 .seq (.reg [
 mv 20 0,
 qo 21 (.c (callF (ff 58) [(tt 20),(ii 8)])) [pp 20],
 mv 19 21,
 qo 22 (.p (extF (tt 19) 0)) [pp 19],
 qo 23 (.p (extF (tt 19) 1)) [pp 19],
 mv 6 22,
 mv 7 23]) (
 .seq (.reg [
 qo 24 (.p (sliceAF 64 1 (tt 4) none (some (ii 8)) none)) [pp 4],
 mv 25 6,
 qo 26 (.a (cpyF 1 (tt 24) (tt 25))) [pp 24,pp 25]]) (
 .seq (.reg [
 qo 27 (.p (sliceAF 64 1 (tt 4) (some (ii 8)) (some (ii 52)) (some (ii 52)))) [pp 4],
 mv 28 1,
 qo 29 (.a (cpyF 1 (tt 27) (tt 28))) [pp 27,pp 28]]) (
 .seq (.reg [
 qo 31 (.p (sliceAF 64 1 (tt 4) none (some (ii 52)) (some (ii 52)))) [pp 4],
 qo 32 (.c (callF (ff 85) [(tt 31)])) [pp 31],
 qo 33 (.p (convF .u64 (tt 32))) [pp 32],
 qo 34 (.c (callF (ff 58) [(tt 33),(ii 4)])) [pp 33],
 mv 30 34,
 qo 35 (.p (extF (tt 30) 0)) [pp 30],
 qo 36 (.p (extF (tt 30) 1)) [pp 30],
 mv 8 35,
 mv 9 36]) (
 .seq (.reg [
 qo 37 (.p (sliceAF 64 1 (tt 4) (some (ii 52)) (some (ii 56)) (some (ii 56)))) [pp 4],
 mv 38 8,
 qo 39 (.a (cpyF 1 (tt 37) (tt 38))) [pp 37,pp 38]]) (
 .seq (.reg [
 qo 40 (.p (sliceAF 64 1 (tt 4) (some (ii 56)) none none)) [pp 4],
 mv 41 6,
 qo 42 (.a (cpyF 1 (tt 40) (tt 41))) [pp 40,pp 41]]) (
 .seq (.reg [
 qo 43 (.r (loadF (tt 4) 64 .bk)) [pp 4],
 qn (.a (storeF (tt 4) (tt 43) 64)) [pp 4,pp 43],
 qo 5 (.p (S.get (ii 0))) []]) (
 .ret)))))))))⟩
theorem c64_eq:fnOf Tryd.prog 64=some c64:=by kernel_rfl
def layB:Nat→Nat→List Nat→Nat
 | B,_,[]=>B
 | B,o,x::xs=>layB (setByte B o x) (o+1) xs
theorem layB_byte:∀(xs:List Nat) (B o:Nat),(∀ x ∈ xs,x < 256)→∀ j,byte (layB B o xs) j=if o≤j∧j < o+xs.length then xs.getD (j - o) 0 else byte B j
 | [],B,o,_,j=>by
  rw[if_neg (by simp;try omega)];rfl
 | x::xs,B,o,h,j=>by
  show byte (layB (setByte B o x) (o+1) xs) j=_
  rw[layB_byte xs (setByte B o x) (o+1) (fun z hz=>h z (List.mem_cons_of_mem _ hz)) j,byte_setByte _ _ _ _ (h x (List.mem_cons_self ..))]
  by_cases h1:j=o
  ·subst h1
   rw[if_neg (by omega),if_pos rfl,if_pos (by simp),Nat.sub_self];rfl
  ·by_cases h2:o+1≤j∧j < o+1+xs.length
   ·rw[if_pos h2,if_pos (by simp;omega),show j - o=(j - (o+1))+1 by omega];rfl
   ·rw[if_neg h2,if_neg h1,if_neg (by simp;omega)]
theorem layB_lt:∀(xs:List Nat) (B o:Nat),(∀ x ∈ xs,x < 256)→o+xs.length≤64→B < 256 ^ 64→layB B o xs < 256 ^ 64
 | [],B,o,_,_,hB=>hB
 | x::xs,B,o,h,hl,hB=>by
  rw[List.length_cons] at hl
  exact layB_lt xs (setByte B o x) (o+1) (fun z hz=>h z (List.mem_cons_of_mem _ hz)) (by omega) (setByte_lt _ _ _ (h x (List.mem_cons_self ..)) (by omega) hB)
theorem store_lay {b:Bk}:∀(xs:List Nat) (o:Nat) (H:Heap) (B:Nat),H.get b=some (.rows false 64 [[.blk B]])→o+xs.length≤64→(∀ x ∈ xs,x < 256) →
  ∃ H',storeElems b 1 (rowsN xs) o H=some H'∧H'.get b=some (.rows false 64 [[.blk (layB B o xs)]])∧Turns (fun c=>c=b) H H'∧H'.next=H.next
 | [],o,H,B,h,hl,hx=>⟨H,rfl,h,Turns.refl _ _,rfl⟩
 | x::xs,o,H,B,h,hl,hx=>by
  rw[List.length_cons] at hl
  have st:=disk.cell_store_byte h (j:=o) (by omega) (hx x (List.mem_cons_self ..))
  obtain⟨H',e,hg,hT,hn⟩:=store_lay (b:=b) xs (o+1) (H.set b (.rows false 64 [[.blk (setByte B o x)]])) (setByte B o x) (by rw[Heap.get_set,if_pos rfl]) (by omega) (fun z hz=>hx z (List.mem_cons_of_mem _ hz))
  refine⟨H',?_,hg,(Turns.set (X:=fun c=>c=b) rfl H _).trans hT,by rw[hn];simp⟩
  show (match storeAt H ⟨b,o⟩ [.int .u8 (x:Int)] with | some H'=>storeElems b 1 (rowsN xs) (Nat.add o 1) H' | none=>none)=_
  rw[st]
  exact e
theorem copy_lay {H:Heap} {b:Bk} {B o dl dc dx sl sc sx:Nat} {sp:Ptr} {xs:List Nat} (h:H.get b=some (.rows false 64 [[.blk B]])) (hs:elems H sp.b 1 sl sp.o=some (rowsN xs)) (hl:xs.length=sl) (h0:sl≠0) (hd:sl≤dl) (ho:o+sl≤64) (hx:∀ x ∈ xs,x < 256) :
  ∃ H',copyV 1 H (.slice (some ⟨b,o⟩) dl dc dx) (.slice (some sp) sl sc sx)=some (.int .i64 (sl:Int),H')∧H'.get b=some (.rows false 64 [[.blk (layB B o xs)]])∧Turns (fun c=>c=b) H H'∧H'.next=H.next:=by
 obtain⟨H',e,hg,hT,hn⟩:=store_lay (b:=b) xs o H B h (by omega) hx
 refine⟨H',?_,hg,hT,hn⟩
 have hm:min sl dl=sl:=by omega
 unfold copyV
 simp only[hm]
 have hb:sl.beq 0=false:=beq_false.2 h0
 have hf:firstE H 1 (.slice (some sp) sl sc sx)=some (rowsN xs):=hs
 rw[hb,hf]
 simp only[e,Option.map_some]
 rfl
theorem elems_lst {H0 H:Heap} {l:List Nat} {v:V} (h:Lst H0 H 1 (rowsN l) v) {k m c o:Nat} (e:v=.slice (some ⟨.run k,0⟩) m c o) (hm:m=l.length):elems H (.run k) 1 m 0=some (rowsN l):=by
 rcases h with ⟨e1,e2⟩ | ⟨j,_,e2,hg,_,_⟩
 ·rw[e] at e2;cases e2
 ·rw[e] at e2
  have hk:=(V.slice.inj e2).1
  cases hk
  have:∀(L:List Nat) (a:Nat),(∀ i,i < L.length→(rowsN l)[a+i]?=(rowsN L)[i]?)→elems H (.run k) 1 L.length a=some (rowsN L):=by
   intro L
   induction L with
   | nil=>intro a _;rfl
   | cons x L ih=>
    intro a hh
    have e1:=hh 0 (by simp)
    rw[Nat.add_zero] at e1
    have lk:loadAt H ⟨.run k,a⟩ 1=some [.int .u8 (x:Int)]:=by
     rw[loadAt_eq hg (r:=[.int .u8 (x:Int)]) (by rw[Nat.div_one,nth_eq,e1];rfl),Nat.mod_one]
     rfl
    show elems H (.run k) 1 (L.length+1) a=_
    unfold elems
    rw[lk]
    simp only
    rw[show Nat.add a 1=a+1 from rfl,ih (a+1) (fun i hi=>by
     have:=hh (i+1) (by simp;omega)
     rw[show a+1+i=a+(i+1) by omega,this];rfl)]
    rfl
  rw[hm]
  exact this l 0 (fun i hi=>by rw[Nat.zero_add])
theorem elems_bod {H:Heap} {k:Nat} {c:Nat→Nat} {N:Nat} (h:BodyAt H k c N):∀ n j,j+n≤N→elems H (.run k) 1 n j=some (rowsN (stl c n j))
 | 0,_,_=>rfl
 | n+1,j,hj=>by
  unfold elems
  rw[h.load (show j < N by omega)]
  simp only
  rw[show Nat.add j 1=j+1 from rfl,elems_bod h n (j+1) (by omega)]
  rfl
theorem digs_len' (N n:Nat):(stl (dig N) n 0).length=n:=stl_len _ _ _
theorem stl_dig_lt (N n:Nat):∀ x ∈ stl (dig N) n 0,x < 256:=by
 rw[← digs_stl];exact digs_lt N n
end Go.Proofs.YtabebpemfinejaaDoor.draft
namespace Go.Proofs.YtabebpemfinejaaDoor.draft
open Go.Am
section
variable {K:Nat}
theorem u_take_ok (H:Heap) {r c:Nat} (hr:r < 4294967296) (hc:c < 256) (lf n:Nat):U lf K (n+1) 84 [.int .u32 (r:Int),.int .u8 (c:Int)] H=some (.v (.int .u32 ((crc.takeN r c:Nat):Int)),H):=by
 have h:(Nat.ble r 4294967295&&Nat.ble c 255)=true:=by
  rw[ble_iff.2 (by omega:r≤4294967295),ble_iff.2 (by omega:c≤255)];rfl
 refine callU_told ?_
 show (match Nat.ble r 4294967295&&Nat.ble c 255 with | true=>some (Rs.v (.int .u32 (.ofNat (crc.takeN r c))),H) | false=>none)=_
 rw[h]
 rfl
theorem u_crc_ok {H:Heap} {p:Ptr} {len cap loose:Nat} {c:Nat→Nat} (hm:len < 1000000) (hb:∀ i,i < len→c i < 256) (hd:∀ i,i < len→loadAt H ⟨p.b,p.o+i⟩ 1=some [.int .u8 (c i:Int)]) (lf n:Nat) (hlf:len+1 < lf) :
  U lf K (n+2) 62 [.int .u32 0,.slice (some p) len cap loose] H=some (.v (.int .u32 ((notN (crcN c len):Nat):Int)),H):=by
 obtain⟨v,H',e,rfl,rfl⟩:ret (U lf K (n+2) 62 [.int .u32 0,.slice (some p) len cap loose] H) fun v H'=>v=.int .u32 ((notN (crcN c len):Nat):Int)∧H'=H:=by
  refine ret_callU rfl rfl c62_eq ?_
  have u0:unary .xor (.int .u32 0)=some (.int .u32 4294967295):=by kernel_rfl
  have hloop:∀ t:T,t.getP (Tr.path 5)=some (.int .u32 4294967295)→t.getP (Tr.path 10)=some (.slice (some p) len cap loose)→t.getP (Tr.path 11)=some (.int .i64 (len:Int))→t.getP (Tr.path 12)=some (.int .i64 0) →
    wp (loopF (runC (U lf K (n+1)) lf c62_l0) lf ⟨t,H,[]⟩) fun x s=>x=.ex 0∧s.d=[]∧s.H=H∧s.t.getP (Tr.path 5)=some (.int .u32 ((crcN c len:Nat):Int)):=by
   intro t q5 q10 q11 q12
   refine wp_loopF (fun k s=>∃ i:Nat,k=len - i∧i≤len∧s.d=[]∧s.H=H∧s.t.getP (Tr.path 5)=some (.int .u32 ((crcN c i:Nat):Int))∧s.t.getP (Tr.path 10)=some (.slice (some p) len cap loose)∧s.t.getP (Tr.path 11)=some (.int .i64 (len:Int))∧s.t.getP (Tr.path 12)=some (.int .i64 (i:Int))) ?_ lf len _ ⟨0,rfl,by omega,rfl,rfl,q5,q10,q11,q12⟩ (by omega)
   rintro k ⟨t,HH,d⟩ ⟨i,rfl,hi,hd',hH,q5,q10,q11,q12⟩
   dsimp only at hd' hH q5 q10 q11 q12
   subst hd';subst hH
   by_cases hlt:i < len
   ·have hlt':(i:Int) < (len:Int):=by omega
    have hle':i+1≤len:=hlt
    have lk:=hd i hlt
    have w3:IntKind.i64.wrap ((i:Int)+1)=((i+1:Nat):Int):=by rw[wrap_i64 (by omega)];omega
    have tk:=u_take_ok (K:=K) HH (crcN_lt (c:=c) (n:=i) (fun j hj=>hb j (by omega))) (hb i hlt) lf n
    simp only[c62_l0,q5,q10,q11,q12,hlt',hle',w3,lk,tk,Nat.mul_one,sy,tup,↓reduceIte,zA,zG,zC,zD,zF,zE,zB,zH,reduceCtorEq]
    exact⟨len - (i+1),by omega,i+1,rfl,by omega,trivial,trivial,rfl,trivial,trivial,by simp⟩
   ·have:i=len:=by omega
    subst this
    simp only[c62_l0,q5,q10,q11,q12,Nat.lt_irrefl,Int.lt_irrefl,sy,tup,↓reduceIte,zA,zG,zC,zD,zF,zE,zB,zH,reduceCtorEq]
    exact⟨trivial,trivial,trivial,trivial⟩
  have un:=not_u32 (crcN_lt hb)
  simp only[c62,u0,sy,tup,↓reduceIte,zA,zG,zC,zD,zF,zE,zB,zH,reduceCtorEq]
  refine wp_ctx (F:=fun r=>seqC _ _ _ (blockC _ r)) (hloop _ ?_ ?_ ?_ ?_) ?_
  ·simp only[sy,tup,↓reduceIte,zA,zG,zC,zD,zF,zE,zB,zH,reduceCtorEq]
  ·simp only[sy,tup,↓reduceIte,zA,zG,zC,zD,zF,zE,zB,zH,reduceCtorEq]
  ·simp only[sy,tup,↓reduceIte,zA,zG,zC,zD,zF,zE,zB,zH,reduceCtorEq]
  ·simp only[sy,tup,↓reduceIte,zA,zG,zC,zD,zF,zE,zB,zH,reduceCtorEq]
  rintro x ⟨t,HH,d⟩ ⟨rfl,hd',hH,q5⟩
  dsimp only at hd' hH q5
  subst hd';subst hH
  simp only[q5,un,sy,tup,↓reduceIte,zA,zG,zC,zD,zF,zE,zB,zH,reduceCtorEq]
  simp
 exact e
theorem u_of_ok {H:Heap} {p:Ptr} {len cap loose:Nat} {c:Nat→Nat} (hm:len < 1000000) (hb:∀ i,i < len→c i < 256) (hd:∀ i,i < len→loadAt H ⟨p.b,p.o+i⟩ 1=some [.int .u8 (c i:Int)]) (lf n:Nat) (hlf:len+1 < lf) :
  U lf K (n+3) 85 [.slice (some p) len cap loose] H=some (.v (.int .u32 ((notN (crcN c len):Nat):Int)),H):=by
 have e1:=u_crc_ok (K:=K) (cap:=cap) (loose:=loose) hm hb hd lf n hlf
 obtain⟨v,H',e,rfl,rfl⟩:ret (U lf K (n+3) 85 [.slice (some p) len cap loose] H) fun v H'=>v=.int .u32 ((notN (crcN c len):Nat):Int)∧H'=H:=by
  refine ret_callU rfl rfl c85_eq ?_
  simp only[c85,e1,sy,tup,↓reduceIte,zA,zG,zC,zD,zF,zE,zB,zH,reduceCtorEq]
  simp
 exact e
theorem u_pnput_ok (H:Heap) {N s:Nat} (hN:N < 18446744073709551616) (hs:1≤s∧s≤8) {lf:Nat} (hlf:17 < lf) (n:Nat):ret (U lf K (n+1) 58 [.int .u64 (N:Int),.int .i64 (s:Int)] H) fun v H'=>Turns Z H H' ∧
  ((N / 256 ^ s=0∧∃ k,v=.tuple [.slice (some ⟨.run k,0⟩) s s 0,.int .i64 0]∧BodyAt H' k (dig N) s∧H.next≤k)∨(N / 256 ^ s≠0∧v=.tuple [.slice none 0 0 0,.int .i64 2])):=by
 have g1:¬ ((s:Int) < 1):=by omega
 have g2:¬ ((8:Int) < (s:Int)):=by omega
 have p256:∀ i:Nat,2 ^ (8*i)=256 ^ i:=fun i=>by rw[Nat.pow_mul]
 obtain⟨s8,hs8⟩:∃ z,z=8*s:=⟨_,rfl⟩
 have w8:IntKind.i64.wrap (8*(s:Int))=(s8:Int):=by rw[wrap_i64 (by omega)];omega
 have hloop:∀ t:T,t.getP (Tr.path 0)=some (.int .u64 (N:Int))→t.getP (Tr.path 6)=some (.slice (some ⟨.run H.next,0⟩) s s 0)→t.getP (Tr.path 27)=some (.int .i64 (s:Int))→t.getP (Tr.path 28)=some (.int .i64 0) →
   wp (loopF (runC (U lf K n) lf c58_l0) lf ⟨t,H.add (.rows false 1 (List.replicate s [.int .u8 0])),[]⟩) fun x s'=>x=.ex 0∧s'.d=[]∧s'.t.getP (Tr.path 6)=some (.slice (some ⟨.run H.next,0⟩) s s 0)∧Turns Z H s'.H∧s'.H.get (.run H.next)=some (.rows false 1 (rowsB (dig N) s 0))∧H.next < s'.H.next:=by
  intro t q0 q6 q27 q28
  refine wp_loopF (fun j s'=>∃ i:Nat,j=s - i∧i≤s∧s'.d=[]∧s'.t.getP (Tr.path 0)=some (.int .u64 (N:Int))∧s'.t.getP (Tr.path 6)=some (.slice (some ⟨.run H.next,0⟩) s s 0)∧s'.t.getP (Tr.path 27)=some (.int .i64 (s:Int))∧s'.t.getP (Tr.path 28)=some (.int .i64 (i:Int))∧Turns Z H s'.H∧s'.H.get (.run H.next)=some (.rows false 1 (rowsB (fun j=>if j < i then dig N j else 0) s 0))∧H.next < s'.H.next) ?_ lf s _ ⟨0,rfl,by omega,rfl,q0,q6,q27,q28,Turns.add Z H _,?_,by simp⟩ (by omega)
  ·rintro j ⟨t,HH,d⟩ ⟨i,rfl,hi,hd,q0,q6,q27,q28,tz,gk,hk⟩
   dsimp only at hd q0 q6 q27 q28 tz gk hk
   subst hd
   by_cases hlt:i < s
   ·have hlt':(i:Int) < (s:Int):=by omega
    have hle':i+1≤s:=hlt
    have w2:IntKind.i64.wrap ((i:Int)+1)=((i+1:Nat):Int):=by rw[wrap_i64 (by omega)];omega
    obtain⟨e,he⟩:∃ e,e=8*i:=⟨_,rfl⟩
    have w3:IntKind.i64.wrap (8*(i:Int))=(e:Int):=by rw[wrap_i64 (by omega)];omega
    have sh:=shr_u64 N e (by omega)
    rw[he,p256] at sh
    rw[← he] at sh
    have w4:IntKind.u8.wrap ((N / 256 ^ i:Nat):Int)=((dig N i:Nat):Int):=by
     show (if false&&decide (((N / 256 ^ i:Nat):Int) % (2 ^ 8:Int)≥(2 ^ (8 - 1):Int)) then((N / 256 ^ i:Nat):Int) % (2 ^ 8:Int) - (2 ^ 8:Int) else((N / 256 ^ i:Nat):Int) % (2 ^ 8:Int))=_
     rw[show (2 ^ 8:Int)=((256:Nat):Int) from rfl]
     simp only[Bool.false_and,Bool.false_eq_true,if_false]
     unfold dig
     rw[← Int.natCast_emod]
    have sto:storeAt HH ⟨.run H.next,i⟩ [.int .u8 ((dig N i:Nat):Int)]=some (HH.set (.run H.next) (.rows false 1 (rowsB (fun j=>if j < i+1 then dig N j else 0) s 0))):=by
     rw[storeAt_eq gk (r:=[.int .u8 (((fun j=>if j < i then dig N j else 0) i:Nat):Int)]) (r':=[.int .u8 ((dig N i:Nat):Int)]) (by rw[Nat.div_one,nth_eq,rowsB_get _ s 0 i hlt,Nat.zero_add]) (by rw[Nat.mod_one];rfl),← upd_eq,Nat.div_one,rowsB_upd _ _ s 0 i hlt]
     rw[rowsB_congr (g:=fun j=>if j < i+1 then dig N j else 0) s 0 (fun j h1 h2=>?_)]
     by_cases e1:j=i
     ·subst e1;simp
     ·by_cases e2:j < i
      ·simp[e1,e2,show j < i+1 by omega]
      ·simp[e1,e2,show ¬ j < i+1 by omega]
    generalize N / 256 ^ i=z at *
    simp only[c58_l0,q0,q6,q27,q28,hlt',hle',w2,w3,sh,w4,sto,arith_mul,Nat.mul_one,sy,tup,↓reduceIte,zA,zG,zC,zD,zF,zE,zB,zH,reduceCtorEq]
    exact⟨s - (i+1),by omega,i+1,rfl,by omega,trivial,trivial,trivial,trivial,by simp,tz.setnew (Nat.le_refl _) _,by rw[Heap.get_set,if_pos rfl],by simpa using hk⟩
   ·have:i=s:=by omega
    subst this
    simp only[c58_l0,q0,q6,q27,q28,Int.lt_irrefl,sy,tup,↓reduceIte,zA,zG,zC,zD,zF,zE,zB,zH,reduceCtorEq]
    refine⟨trivial,trivial,trivial,tz,?_,hk⟩
    rw[gk,rowsB_congr (g:=dig N) i 0 (fun j h1 h2=>by simp[show j < i by omega])]
  ·show (H.add _).get (.run H.next)=_
   rw[Heap.get_add,if_pos rfl,rowsB_rep s 0]
   rfl
 have m1:s≤s:=Nat.le_refl _
 have m2:s*1≤1099511627776:=by omega
 have m3:1*s≤1099511627776:=by omega
 have m4:s≤1099511627776:=by omega
 refine ret_callU rfl rfl c58_eq ?_
 by_cases h8:s < 8
 ·have h8':(s:Int) < 8:=by omega
  have sh:=shr_u64 N s8 (by omega)
  rw[hs8,p256,← hs8] at sh
  by_cases h0:N / 256 ^ s=0
  ·have z0:¬ ((0:Int) < ((N / 256 ^ s:Nat):Int)):=by rw[h0];decide
   simp only[c58,g1,g2,h8',w8,sh,z0,arith_mul,mksliceF,m1,m2,m3,m4,sy,tup,↓reduceIte,zA,zG,zC,zD,zF,zE,zB,zH,reduceCtorEq]
   refine wp_ctx (F:=fun r=>seqC _ _ _ (blockC _ r)) (hloop _ ?_ ?_ ?_ ?_) ?_
   ·simp only[sy,tup,↓reduceIte,zA,zG,zC,zD,zF,zE,zB,zH,reduceCtorEq]
   ·simp only[sy,tup,↓reduceIte,zA,zG,zC,zD,zF,zE,zB,zH,reduceCtorEq]
   ·simp only[sy,tup,↓reduceIte,zA,zG,zC,zD,zF,zE,zB,zH,reduceCtorEq]
   ·simp only[sy,tup,↓reduceIte,zA,zG,zC,zD,zF,zE,zB,zH,reduceCtorEq]
   rintro x ⟨t,HH,d⟩ ⟨rfl,hd,q6,tz,gk,hk⟩
   dsimp only at hd q6 tz gk hk
   subst hd
   simp only[q6,sy,tup,↓reduceIte,zA,zG,zC,zD,zF,zE,zB,zH,reduceCtorEq]
   exact⟨trivial,.inr trivial,_,rfl,tz,.inl ⟨h0,H.next,rfl,⟨gk,hk⟩,Nat.le_refl _⟩⟩
  ·have z0:(0:Int) < ((N / 256 ^ s:Nat):Int):=Int.ofNat_lt.2 (Nat.pos_of_ne_zero h0)
   simp only[c58,g1,g2,h8',w8,sh,z0,arith_mul,sy,tup,↓reduceIte,zA,zG,zC,zD,zF,zE,zB,zH,reduceCtorEq]
   exact⟨trivial,.inr trivial,_,rfl,Turns.refl _ _,.inr ⟨h0,rfl⟩⟩
 ·have h8':¬ (s:Int) < 8:=by omega
  have hs:s=8:=by omega
  have h0:N / 256 ^ s=0:=by rw[hs];exact Nat.div_eq_of_lt (by rw[show (256:Nat) ^ 8=18446744073709551616 by decide +kernel];exact hN)
  simp only[c58,g1,g2,h8',mksliceF,m1,m2,m3,m4,sy,tup,↓reduceIte,zA,zG,zC,zD,zF,zE,zB,zH,reduceCtorEq]
  refine wp_ctx (F:=fun r=>seqC _ _ _ (blockC _ r)) (hloop _ ?_ ?_ ?_ ?_) ?_
  ·simp only[sy,tup,↓reduceIte,zA,zG,zC,zD,zF,zE,zB,zH,reduceCtorEq]
  ·simp only[sy,tup,↓reduceIte,zA,zG,zC,zD,zF,zE,zB,zH,reduceCtorEq]
  ·simp only[sy,tup,↓reduceIte,zA,zG,zC,zD,zF,zE,zB,zH,reduceCtorEq]
  ·simp only[sy,tup,↓reduceIte,zA,zG,zC,zD,zF,zE,zB,zH,reduceCtorEq]
  rintro x ⟨t,HH,d⟩ ⟨rfl,hd,q6,tz,gk,hk⟩
  dsimp only at hd q6 tz gk hk
  subst hd
  simp only[q6,sy,tup,↓reduceIte,zA,zG,zC,zD,zF,zE,zB,zH,reduceCtorEq]
  exact⟨trivial,.inr trivial,_,rfl,tz,.inl ⟨h0,H.next,rfl,⟨gk,hk⟩,Nat.le_refl _⟩⟩
theorem u_pput7_ok {H0 H:Heap} {l:List Nat} {y:V} (hy:Lst H0 H 1 (rowsN l) y) (hne:l≠[]) (hl:l.length≤44) (hb:∀ x ∈ l,x < 256) {N:Nat} (hN:N < 18446744073709551616) (hN0:N≠0) {lf:Nat} (hlf:80 < lf) (n:Nat) :
  ret (U lf K (n+4) 64 [.int .u64 (N:Int),y] H) fun v H'=>Turns Z H H'∧v=.tuple [.blk (blkOf N l),.int .i64 0]:=by
 have l0:l.length≠0:=by simpa using hne
 have t1:=Turns.add Z H (.rows false 64 [[.blk 0]])
 have hg1:(H.add (.rows false 64 [[.blk 0]])).get (.run H.next)=some (.rows false 64 [[.blk 0]]):=by rw[Heap.get_add,if_pos rfl]
 have hn1:(H.add (.rows false 64 [[.blk 0]])).next=H.next+1:=by simp
 obtain⟨H1,hH1⟩:∃ K,H.add (.rows false 64 [[.blk 0]])=K:=⟨_,rfl⟩
 rw[hH1] at t1 hg1 hn1
 have b0:((N:Int)==0)=false:=by simp;exact hN0
 obtain⟨ky,ey,hky,_⟩:=bload hy hne
 have g44:¬ ((44:Int) < (l.length:Int)):=by omega
 obtain⟨vn,H2,en,t2,hvn⟩:=u_pnput_ok (K:=K) H1 hN (s:=8) (by omega) (show 17 < lf by omega) (n+2)
 change U lf K (n+3) 58 [.int .u64 (N:Int),.int .i64 8] H1=_ at en
 have hz8:N / 256 ^ 8=0:=Nat.div_eq_of_lt (by rw[show (256:Nat) ^ 8=18446744073709551616 by decide +kernel];exact hN)
 rcases hvn with ⟨_,k1,rfl,hk1,hk1'⟩ | ⟨h,_⟩
 rotate_left
 ·exact absurd hz8 h
 have g2:H2.get (.run H.next)=some (.rows false 64 [[.blk 0]]):=(t2.same (.run H.next) (by show _ < _;omega) (fun h=>h)).trans hg1
 obtain⟨H3,e3,g3,t3,n3⟩:=copy_lay (dl:=8) (dc:=64) (dx:=0) (sc:=8) (sx:=0) (sp:=⟨.run k1,0⟩) g2 (elems_bod hk1 8 0 (by omega)) (digs_len' N 8) (by omega) (by omega) (show 0+8≤64 by omega) (stl_dig_lt N 8)
 have hy3:Lst H0 H3 1 (rowsN l) y:=((hy.turns t1 (fun _ _=>id)).turns t2 (fun _ _=>id)).turns t3 (fun c hc e=>by
  subst e
  obtain⟨_,_,_,_,ec,e'⟩:=hc
  rw[ey] at ec
  have:=(V.slice.inj ec).1
  cases this
  exact absurd (Bk.run.inj e') (by show ¬ H.next=ky;omega))
 have hky2:ky < H2.next:=Nat.lt_of_lt_of_le hky (t1.trans t2).next
 obtain⟨H4,e4,g4,t4,n4⟩:=copy_lay (dl:=44) (dc:=44) (dx:=0) (sc:=l.length) (sx:=1) (sp:=⟨.run ky,0⟩) g3 (elems_lst hy3 ey rfl) rfl l0 hl (show 8+l.length≤64 by omega) hb
 have hD8:=stl_dig_lt N 8
 have hD8l:=digs_len' N 8
 have hbyte:∀ j,byte (layB (layB 0 0 (stl (dig N) 8 0)) 8 l) j=if j < 52 then(headOf N l).getD j 0 else 0:=fun j=>by
  rw[layB_byte l _ 8 hb j,layB_byte _ 0 0 hD8 j,hD8l]
  have hz:byte 0 j=0:=by
   show (0 / 256 ^ j) % 256=0
   rw[Nat.zero_div]
  have hh:headOf N l=stl (dig N) 8 0++(l++List.replicate (44 - l.length) 0):=by unfold headOf;rw[digs_stl]
  rw[hh]
  by_cases h1:8≤j∧j < 8+l.length
  ·rw[if_pos h1,if_pos (by omega)]
   rw[List.getD_eq_getElem?_getD,List.getD_eq_getElem?_getD,List.getElem?_append_right (by rw[hD8l];omega),hD8l,List.getElem?_append_left (by omega)]
  ·rw[if_neg h1]
   by_cases h2:0≤j∧j < 0+8
   ·rw[if_pos h2,if_pos (by omega)]
    rw[List.getD_eq_getElem?_getD,List.getD_eq_getElem?_getD,List.getElem?_append_left (by rw[hD8l];omega),Nat.sub_zero]
   ·rw[if_neg h2,hz]
    by_cases h3:j < 52
    ·rw[if_pos h3,List.getD_eq_getElem?_getD,List.getElem?_append_right (by rw[hD8l];omega),hD8l,List.getElem?_append_right (by omega),List.getElem?_replicate,if_pos (by omega)];rfl
    ·rw[if_neg h3]
 have eo:=u_of_ok (K:=K) (H:=H4) (p:=⟨.run H.next,0⟩) (len:=52) (cap:=52) (loose:=0) (c:=byte (layB (layB 0 0 (stl (dig N) 8 0)) 8 l)) (by omega) (fun i _=>byte_lt _ _) (fun i hi=>by simpa using disk.cell_load_byte g4 (j:=i) (by omega)) lf n (by omega)
 have hcs:crcN (byte (layB (layB 0 0 (stl (dig N) 8 0)) 8 l)) 52=crcN (fun i=>(headOf N l).getD i 0) 52:=by
  have:∀ {f g:Nat→Nat} (m:Nat),(∀ i,i < m→f i=g i)→crcN f m=crcN g m:=by
   intro f g m
   induction m with
   | zero=>intro _;rfl
   | succ m ih=>
    intro hh
    show crc.takeN (crcN f m) (f m)=crc.takeN (crcN g m) (g m)
    rw[ih (fun i hi=>hh i (by omega)),hh m (by omega)]
  exact this 52 (fun i hi=>by rw[hbyte i,if_pos hi])
 rw[hcs] at eo
 change _=some (Rs.v (V.int .u32 ((sumOf N l:Nat):Int)),H4) at eo
 have hs4:sumOf N l < 4294967296:=notN_lt (crcN_lt (fun i _=>getD_lt (head_lt hb) i))
 have hro:rowOf N l=(headOf N l++digs (sumOf N l) 4)++digs N 8:=rfl
 obtain⟨sm,hsm⟩:∃ z,z=sumOf N l:=⟨_,rfl⟩
 rw[← hsm] at eo hs4 hro
 have w64:IntKind.u64.wrap (sm:Int)=(sm:Int):=wrap_u64 (by omega)
 obtain⟨vs,H5,es,t5,hvs⟩:=u_pnput_ok (K:=K) H4 (N:=sm) (by omega) (s:=4) (by omega) (show 17 < lf by omega) (n+2)
 change U lf K (n+3) 58 [.int .u64 (sm:Int),.int .i64 4] H4=_ at es
 have hz4:sm / 256 ^ 4=0:=Nat.div_eq_of_lt hs4
 rcases hvs with ⟨_,k5,rfl,hk5,hk5'⟩ | ⟨h,_⟩
 rotate_left
 ·exact absurd hz4 h
 have o4:H.next < H4.next:=by rw[n4,n3];have:=t2.next;omega
 have g5:H5.get (.run H.next)=_:=(t5.same (.run H.next) (by show _ < _;exact o4) (fun h=>h)).trans g4
 obtain⟨H6,e6,g6,t6,n6⟩:=copy_lay (dl:=4) (dc:=4) (dx:=0) (sc:=4) (sx:=0) (sp:=⟨.run k5,0⟩) g5 (elems_bod hk5 4 0 (by omega)) (digs_len' sm 4) (by omega) (by omega) (show 52+4≤64 by omega) (stl_dig_lt sm 4)
 have nk1:k1≠H.next:=by omega
 have hk1o:k1 < H2.next:=hk1.old
 have b1:BodyAt H6 k1 (dig N) 8:=by
  have s3:H3.get (.run k1)=H2.get (.run k1):=t3.same (.run k1) hk1o (run_ne nk1)
  have s4:H4.get (.run k1)=H3.get (.run k1):=t4.same (.run k1) (by show _ < _;omega) (run_ne nk1)
  have s5:H5.get (.run k1)=H4.get (.run k1):=t5.same (.run k1) (by show _ < _;omega) (fun h=>h)
  have h5:=t5.next
  have s6:H6.get (.run k1)=H5.get (.run k1):=t6.same (.run k1) (by show _ < _;omega) (run_ne nk1)
  exact⟨by rw[s6,s5,s4,s3];exact hk1.own,by omega⟩
 obtain⟨H7,e7,g7,t7,n7⟩:=copy_lay (dl:=8) (dc:=8) (dx:=0) (sc:=8) (sx:=0) (sp:=⟨.run k1,0⟩) g6 (elems_bod b1 8 0 (by omega)) (digs_len' N 8) (by omega) (by omega) (show 56+8≤64 by omega) (stl_dig_lt N 8)
 have hX:layB (layB (layB (layB 0 0 (stl (dig N) 8 0)) 8 l) 52 (stl (dig sm) 4 0)) 56 (stl (dig N) 8 0)=blkOf N l:=by
  have hrl:=row_len (N:=N) hl
  have hrt:=row_lt (N:=N) hb
  have z64:(0:Nat) < 256 ^ 64:=Nat.pow_pos (by decide)
  refine disk.eq_of_bytes (layB_lt _ _ _ (stl_dig_lt N 8) (by rw[digs_len'];omega) (layB_lt _ _ _ (stl_dig_lt sm 4) (by rw[digs_len'];omega) (layB_lt _ _ _ hb (by omega) (layB_lt _ _ _ hD8 (by rw[hD8l];omega) z64)))) (fillN_lt (fun i=>getD_lt (l:=rowOf N l) hrt i) 64 (Nat.le_refl _)) (fun j hj=>?_)
  have hr:byte (blkOf N l) j=(rowOf N l).getD j 0:=by
   unfold blkOf
   rw[byte_fillN (fun i=>getD_lt (l:=rowOf N l) hrt i),if_pos hj]
  rw[hr,hro,layB_byte _ _ 56 (stl_dig_lt N 8) j,layB_byte _ _ 52 (stl_dig_lt sm 4) j,digs_len',digs_len',hbyte j,digs_stl,digs_stl]
  have hh:=head_len (N:=N) hl
  by_cases h1:56≤j∧j < 56+8
  ·rw[if_pos h1,List.getD_eq_getElem?_getD,List.getD_eq_getElem?_getD,List.getElem?_append_right (by rw[List.length_append,hh,digs_len'];omega),List.length_append,hh,digs_len']
  ·rw[if_neg h1]
   by_cases h2:52≤j∧j < 52+4
   ·rw[if_pos h2,List.getD_eq_getElem?_getD,List.getD_eq_getElem?_getD,List.getElem?_append_left (by rw[List.length_append,hh,digs_len'];omega),List.getElem?_append_right (by omega),hh]
   ·rw[if_neg h2,if_pos (by omega),List.getD_eq_getElem?_getD,List.getD_eq_getElem?_getD,List.getElem?_append_left (by rw[List.length_append,hh,digs_len'];omega),List.getElem?_append_left (by omega)]
 rw[hX] at g7
 have lX:loadAt H7 ⟨.run H.next,0⟩ 64=some [.blk (blkOf N l)]:=by rw[loadAt_eq g7 (r:=[.blk (blkOf N l)]) rfl];exact Dj _ _
 have sX:=disk.cell_store (v:=blkOf N l) g7
 have lY:loadAt (H7.set (.run H.next) (.rows false 64 [[.blk (blkOf N l)]])) ⟨.run H.next,0⟩ 64=some [.blk (blkOf N l)]:=by rw[loadAt_eq (b:=.run H.next) (r:=[.blk (blkOf N l)]) (by rw[Heap.get_set,if_pos rfl]) rfl];exact Dj _ _
 have later:∀ {K K':Heap},Turns Z H K→Turns (fun c=>c=.run H.next) K K'→Turns Z H K':=fun t t'=>t.later t' (fun c ho e=>by subst e;exact absurd ho (Heap.not_old (Nat.le_refl _)))
 have t7':Turns Z H H7:=later (later ((later (later (t1.trans t2) t3) t4).trans t5) t6) t7
 rw[ey]
 have bb1:bounds 64 64 none (some (.int .i64 8)) none=some (0,8,64):=rfl
 have bb2:bounds 64 64 (some (.int .i64 8)) (some (.int .i64 52)) (some (.int .i64 52))=some (8,52,52):=rfl
 have bb3:bounds 64 64 none (some (.int .i64 52)) (some (.int .i64 52))=some (0,52,52):=rfl
 have bb4:bounds 64 64 (some (.int .i64 52)) (some (.int .i64 56)) (some (.int .i64 56))=some (52,56,56):=rfl
 have bb5:bounds 64 64 (some (.int .i64 56)) none none=some (56,64,64):=rfl
 generalize blkOf N l=X at *
 refine ret_callU rfl rfl c64_eq ?_
 simp only[c64,hH1,b0,g44,en,e3,e4,eo,w64,es,e6,e7,lX,sX,lY,bb1,bb2,bb3,bb4,bb5,sliceAF,oget,sy,tup,↓reduceIte,zA,zG,zC,zD,zF,zE,zB,zH,reduceCtorEq]
 exact⟨trivial,.inr trivial,_,rfl,t7'.setnew (Nat.le_refl _) _,rfl⟩
end
end Go.Proofs.YtabebpemfinejaaDoor.draft
