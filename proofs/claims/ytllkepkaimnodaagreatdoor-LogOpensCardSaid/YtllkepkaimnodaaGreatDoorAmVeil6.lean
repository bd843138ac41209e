import Derived.Test.YtllkepkaimnodaaGreatDoorAmVeil5
import Derived.Test.YtllkepkaimnodaaGreatDoorAmLaid
set_option linter.unusedVariables false
set_option linter.unusedSimpArgs false
set_option linter.unusedSectionVars false
namespace Go.Am
theorem heapB_under {A:V→Prop} {R:RepT} (P:Program) {g:Nat} (hg:g < P.globals.size) (l:List Int) (a:Nat→Option Obj):Under A R (heapB P (m1 g l) (rowsOnly a)) (heapB P (m1 g l) a):=by
 have key:∀ b o,(heapB P (m1 g l) (rowsOnly a)).get b=some o→((∃ n,b=.arg n)∨b=.run g)∧(∃ ro e rs,o=.rows ro e rs)∧(heapB P (m1 g l) a).get b=some o:=by
  intro b o h
  cases b with
  | run n=>
   obtain⟨rfl,rfl⟩:=m1_get h
   exact⟨.inr rfl,⟨_,_,_,rfl⟩,h⟩
  | arg n=>
   have h:rowsOnly a n=some o:=h
   unfold rowsOnly at h
   split at h
   ·rename_i ro e rs hr
    cases h
    exact⟨.inl ⟨n,rfl⟩,⟨_,_,_,rfl⟩,hr⟩
   ·cases h
 have nob:∀ b v,(heapB P (m1 g l) (rowsOnly a)).get b≠some (.box v):=by
  intro b v h
  obtain⟨_,⟨_,_,_,h2⟩,_⟩:=key b _ h
  cases h2
 refine⟨rfl,fun b o h=>?_,id,fun _ _=>False,fun b v h _=>absurd h (nob b v),fun b o h _=>(key b o h).2.2,fun _ _ _ _ _ _ _ _ h=>h,fun _ _ _ _ _ _ _ _ _ _ h=>h.elim⟩
 obtain⟨⟨n,rfl⟩ | rfl,_⟩:=key b o h
 ·trivial
 ·exact hg
theorem veiled_runG {A:V→Prop} {R:RepT} {P:Program} {fid:FuncId} {ss:List Sh} {up lo:CallT} {g:Nat} (hg:g < P.globals.size) {l:List Int} (hu:CallU A R up lo)
  (h:∀(a:Nat→Option Obj) (us:List V),FitsAll a ss us→∃ G1,up fid us (heapB P (m1 g l) a)=some (.v (.bool true),G1)∧QOk G1) (a:Nat→Option Obj) (us:List V) (hf:FitsAll a ss us):∃ H1,lo fid us (heapB P (m1 g l) a)=some (.v (.bool true),H1)∧QOk H1:=by
 obtain⟨G1,e,hq⟩:=h (rowsOnly a) us hf.rows
 obtain⟨H1,e1,u1⟩:=hu fid us _ _ _ e _ (heapB_under P hg l a)
 exact⟨H1,e1,u1.q hq⟩
noncomputable def rowG (g:Nat) (l:List Int) (k:Nat):List V→Heap→Option (Rs × Heap):=fun args G=>match args with
 | []=>match hasG g l G with
  | true=>some (.v (.bool true),G.skip k)
  | false=>none
 | _=>none
theorem eqVs_ints:∀ l:List Int,eqVs (eqV 2) (l.map (V.int .i64)) (l.map (V.int .i64))=true
 | []=>rfl
 | n::l=>by
  have h:eqV 2 (.int .i64 n) (.int .i64 n)=true:=by
   simp[eqV,Cy]
  show (eqV 2 (.int .i64 n) (.int .i64 n)&&eqVs (eqV 2) (l.map (V.int .i64)) (l.map (V.int .i64)))=true
  rw[h,eqVs_ints l];rfl
theorem hasG_of {g:Nat} {l:List Int} {H:Heap} (h:H.get (.run g)=some (.rows true l.length (intsR l))):hasG g l H=true:=by
 unfold hasG
 rw[h]
 unfold intsR
 simp only[Nat.beq_refl]
 exact eqVs_ints _
theorem rowG_use {g:Nat} {l:List Int} {k:Nat} {G:Heap} (h:G.get (.run g)=some (.rows true l.length (intsR l))):rowG g l k [] G=some (.v (.bool true),G.skip k):=by
 unfold rowG
 simp only[hasG_of h]
theorem rowG_told {A:V→Prop} {R:RepT} (ok:RepOk A R) {call:CallT} {K:Nat} {f:FuncId} {g:Nat} {l:List Int} (hc:∀ H:Heap,hasG g l H=true→call f [] H=some (.v (.bool true),H)):RowTold A R call K (f,rowG g l K):=by
 intro args G r G' h H u
 have h:rowG g l K args G=some (r,G'):=h
 unfold rowG at h
 split at h
 ·split at h
  ·rename_i hh
   cases h
   have hG:=hasG_some hh
   obtain⟨F,c⟩:=u.ex
   have hH:=c.con _ _ hG (veil_rows _ _ _)
   exact⟨_,H,rfl,hc H (hasG_of hH),fun hK=>u.pure ok (Turns.refl _ _) hK⟩
  ·cases h
 ·cases h
theorem sumG_grow (g:Nat) (l:List Int) (f:FuncId):GrowS (sumG g l f) 0:=fun id args H r H' e=>by
 unfold sumG at e
 split at e
 ·split at e
  ·cases e;omega
  ·cases e
 ·cases e
theorem orS_grow {S S':CallT} {X:Nat} (h:GrowS S X) (h':GrowS S' X):GrowS (orS S S') X:=fun id args H r H' e=>by
 unfold orS at e
 split at e
 ·rename_i r' hr
  cases e
  exact h _ _ _ _ _ hr
 ·exact h' _ _ _ _ _ e
end Go.Am
