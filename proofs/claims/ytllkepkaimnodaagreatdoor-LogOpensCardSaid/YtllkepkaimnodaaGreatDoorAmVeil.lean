import Derived.Test.YtllkepkaimnodaaGreatDoorAmSum
set_option linter.unusedVariables false
set_option linter.unusedSimpArgs false
set_option linter.unusedSectionVars false
namespace Go.Am
def Heap.skip (H:Heap) (k:Nat):Heap:=⟨H.m,Nat.add H.next k,H.a,H.q⟩
theorem Heap.get_skip (H:Heap) (k:Nat):(H.skip k).get=H.get:=by funext b;cases b<;>rfl
@[simp] theorem Heap.next_skip (H:Heap) (k:Nat):(H.skip k).next=H.next+k:=rfl
theorem Heap.old_iff {H H':Heap} (h:H.next=H'.next) (b:Bk):H.Old b↔H'.Old b:=by cases b<;>simp[Heap.Old,h]
abbrev RepT:=V→Heap→Bk→(Bk→Prop)→Prop
def Veils (A:V→Prop) (o:Obj):Prop:=∃ v,o=.box v∧A v
structure RepOk (A:V→Prop) (R:RepT):Prop where
 root:∀ {v H b F},A v→R v H b F→F b
 old:∀ {v H b F c},A v→R v H b F→F c→H.Old c
 frame:∀ {v H H' b F},A v→R v H b F→(∀ c,F c→H'.get c=H.get c)→H.next≤H'.next→R v H' b F
structure Cov (A:V→Prop) (R:RepT) (F:Bk→Bk→Prop) (G H:Heap):Prop where
 abs:∀ b v,G.get b=some (.box v)→A v→R v H b (F b)
 con:∀ b o,G.get b=some o→¬ Veils A o→H.get b=some o
 out:∀ r v b o,G.get r=some (.box v)→A v→G.get b=some o→¬ Veils A o→¬ F r b
 sep:∀ r v r' v',G.get r=some (.box v)→A v→G.get r'=some (.box v')→A v'→r≠r'→∀ c,F r c→¬ F r' c
structure Under (A:V→Prop) (R:RepT) (G H:Heap):Prop where
 next:G.next=H.next
 wf:G.Wf
 q:QOk G→QOk H
 ex:∃ F,Cov A R F G H
section
variable {A:V→Prop} {R:RepT}
theorem veil_rows (ro:Bool) (n:Nat) (rs:List (List V)):¬ Veils A (.rows ro n rs):=by rintro⟨v,h,_⟩;cases h
theorem veil_map (es:List (V × V × Nat)) (n:Nat):¬ Veils A (.map es n):=by rintro⟨v,h,_⟩;cases h
theorem veil_iter (m:Option Bk) (n:Nat) (l:List Nat) (k:Nat):¬ Veils A (.iter m n l k):=by rintro⟨v,h,_⟩;cases h
theorem veil_dead:¬ Veils A .dead:=by rintro⟨v,h,_⟩;cases h
theorem Under.con {G H:Heap} (u:Under A R G H) {b:Bk} {o:Obj} (h:G.get b=some o) (ho:¬ Veils A o):H.get b=some o:=by
 obtain⟨F,c⟩:=u.ex
 exact c.con b o h ho
theorem Under.set (ok:RepOk A R) {G H:Heap} (u:Under A R G H) {b:Bk} {o o':Obj} (h:G.get b=some o) (ho:¬ Veils A o) (ho':¬ Veils A o'):Under A R (G.set b o') (H.set b o'):=by
 obtain⟨F,c⟩:=u.ex
 have ne:∀ r v,(G.set b o').get r=some (.box v)→A v→r≠b∧G.get r=some (.box v):=by
  intro r v hr hv
  rw[Heap.get_set] at hr
  by_cases e:r=b
  ·rw[if_pos e] at hr;cases hr;exact absurd ⟨v,rfl,hv⟩ ho'
  ·rw[if_neg e] at hr;exact⟨e,hr⟩
 refine⟨by simpa using u.next,fun x y hx=>?_,fun hq=>u.q hq,F,?_,?_,?_,?_⟩
 ·rw[Heap.old_set]
  rw[Heap.get_set] at hx
  by_cases e:x=b
  ·rw[e];exact u.wf b o h
  ·rw[if_neg e] at hx;exact u.wf x y hx
 ·intro r v hr hv
  obtain⟨e,hr⟩:=ne r v hr hv
  refine ok.frame hv (c.abs r v hr hv) (fun d hd=>?_) (by simp)
  rw[Heap.get_set,if_neg (fun e':d=b=>c.out r v b o hr hv h ho (by rw[← e'];exact hd))]
 ·intro x y hx hy
  rw[Heap.get_set] at hx ⊢
  by_cases e:x=b
  ·rw[if_pos e] at hx ⊢;exact hx
  ·rw[if_neg e] at hx ⊢;exact c.con x y hx hy
 ·intro r v x y hr hv hx hy
  obtain⟨e,hr⟩:=ne r v hr hv
  rw[Heap.get_set] at hx
  by_cases e:x=b
  ·rw[e];exact c.out r v b o hr hv h ho
  ·rw[if_neg e] at hx;exact c.out r v x y hr hv hx hy
 ·intro r v r' v' hr hv hr' hv'
  exact c.sep r v r' v' (ne r v hr hv).2 hv (ne r' v' hr' hv').2 hv'
theorem Under.add (ok:RepOk A R) {G H:Heap} (u:Under A R G H) {o:Obj} (ho:¬ Veils A o):Under A R (G.add o) (H.add o):=by
 obtain⟨F,c⟩:=u.ex
 have hn:=u.next
 have ne:∀ r v,(G.add o).get r=some (.box v)→A v→r≠.run H.next∧G.get r=some (.box v):=by
  intro r v hr hv
  rw[Heap.get_add,hn] at hr
  by_cases e:r=.run H.next
  ·rw[if_pos e] at hr;cases hr;exact absurd ⟨v,rfl,hv⟩ ho
  ·rw[if_neg e] at hr;exact⟨e,hr⟩
 have nof:∀ r v,G.get r=some (.box v)→A v→¬ F r (.run H.next):=fun r v hr hv hF=>Heap.not_old (Nat.le_refl _) (ok.old hv (c.abs r v hr hv) hF)
 refine⟨by simp[hn],fun x y hx=>?_,fun hq=>u.q hq,F,?_,?_,?_,?_⟩
 ·rw[Heap.old_add]
  rw[Heap.get_add] at hx
  by_cases e:x=.run G.next
  ·exact .inr e
  ·rw[if_neg e] at hx;exact .inl (u.wf x y hx)
 ·intro r v hr hv
  obtain⟨e,hr⟩:=ne r v hr hv
  refine ok.frame hv (c.abs r v hr hv) (fun d hd=>?_) (by simp)
  rw[Heap.get_add,if_neg (fun e':d=.run H.next=>nof r v hr hv (by rw[← e'];exact hd))]
 ·intro x y hx hy
  rw[Heap.get_add,hn] at hx
  rw[Heap.get_add]
  by_cases e:x=.run H.next
  ·rw[if_pos e] at hx ⊢;exact hx
  ·rw[if_neg e] at hx ⊢;exact c.con x y hx hy
 ·intro r v x y hr hv hx hy
  obtain⟨e,hr⟩:=ne r v hr hv
  rw[Heap.get_add,hn] at hx
  by_cases e:x=.run H.next
  ·rw[e];exact nof r v hr hv
  ·rw[if_neg e] at hx;exact c.out r v x y hr hv hx hy
 ·intro r v r' v' hr hv hr' hv'
  exact c.sep r v r' v' (ne r v hr hv).2 hv (ne r' v' hr' hv').2 hv'
theorem Under.owe (ok:RepOk A R) {G H:Heap} (u:Under A R G H) {q q':List (Option V × Option V)} (h:(∀ p ∈ q,p.1=p.2)→∀ p ∈ q',p.1=p.2):Under A R (G.owe q) (H.owe q'):=by
 obtain⟨F,c⟩:=u.ex
 refine⟨u.next,fun x y hx=>?_,fun hq p hp=>?_,F,?_,?_,?_,?_⟩
 ·rw[Heap.get_owe] at hx
  exact(Heap.old_iff (H:=G) (H':=G.owe q) rfl x).1 (u.wf x y hx)
 ·rcases List.mem_append.1 hp with hp | hp
  ·exact h (fun p hp=>hq p (List.mem_append_left _ hp)) p hp
  ·exact u.q (fun p hp=>hq p (List.mem_append_right _ hp)) p hp
 ·intro r v hr hv
  rw[Heap.get_owe] at hr
  exact ok.frame hv (c.abs r v hr hv) (fun d _=>by rw[Heap.get_owe]) (by simp)
 ·intro x y hx hy
  rw[Heap.get_owe] at hx ⊢
  exact c.con x y hx hy
 ·intro r v x y hr hv hx hy
  rw[Heap.get_owe] at hr hx
  exact c.out r v x y hr hv hx hy
 ·intro r v r' v' hr hv hr' hv'
  rw[Heap.get_owe] at hr hr'
  exact c.sep r v r' v' hr hv hr' hv'
theorem loadAt_under {G H:Heap} (u:Under A R G H) {p:Ptr} {sz:Nat} {x:List V} (h:loadAt G p sz=some x):loadAt H p sz=some x:=by
 unfold loadAt at h ⊢
 split at h
 ·rename_i ro esz rs hg
  rw[u.con hg (veil_rows _ _ _)]
  exact h
 ·cases h
def Act1 (A:V→Prop) (R:RepT) (G:Heap) (v:V) (G':Heap) (o:Option (V × Heap)):Prop:=∃ H',o=some (v,H')∧Under A R G' H'
theorem storeAt_under (ok:RepOk A R) {G H G':Heap} (u:Under A R G H) {p:Ptr} {vs:List V} (h:storeAt G p vs=some G'):∃ H',storeAt H p vs=some H'∧Under A R G' H':=by
 unfold storeAt at h ⊢
 split at h
 ·rename_i esz rs hg
  rw[u.con hg (veil_rows _ _ _)]
  try dsimp only
  split at h
  ·rename_i r hr
   split at h
   ·rename_i r' hp
    cases h
    try simp only[hr,hp]
    exact⟨_,rfl,u.set ok hg (veil_rows _ _ _) (veil_rows _ _ _)⟩
   ·cases h
  ·cases h
 ·cases h
theorem elems_under {G H:Heap} (u:Under A R G H) {b:Bk} {sz:Nat}:∀ {n o:Nat} {x:List (List V)},elems G b sz n o=some x→elems H b sz n o=some x
 | 0,o,x,h=>h
 | n+1,o,x,h=>by
  unfold elems at h ⊢
  split at h
  ·rename_i y hy
   rw[loadAt_under u hy]
   try dsimp only
   cases he:elems G b sz n (Nat.add o sz) with
   | none=>rw[he] at h;cases h
   | some z=>rw[he] at h;rw[elems_under u he];exact h
  ·cases h
theorem storeElems_under (ok:RepOk A R) {b:Bk} {sz:Nat}:∀ {xs:List (List V)} {o:Nat} {G H G':Heap},Under A R G H→storeElems b sz xs o G=some G'→∃ H',storeElems b sz xs o H=some H'∧Under A R G' H'
 | [],o,G,H,G',u,h=>by cases h;exact⟨H,rfl,u⟩
 | x::xs,o,G,H,G',u,h=>by
  unfold storeElems at h ⊢
  split at h
  ·rename_i G1 h1
   obtain⟨H1,e1,u1⟩:=storeAt_under ok u h1
   rw[e1]
   exact storeElems_under ok u1 h
  ·cases h
theorem firstE_under {G H:Heap} (u:Under A R G H) {sz:Nat} {x:V} {l:List (List V)} (h:firstE G sz x=some l):firstE H sz x=some l:=by
 unfold firstE at h ⊢
 split at h
 ·exact h
 ·exact elems_under u h
 ·cases h
theorem map_storeElems_under (ok:RepOk A R) {G H G':Heap} (u:Under A R G H) {b:Bk} {sz o:Nat} {xs:List (List V)} {v w:V} (h:(storeElems b sz xs o G).map (fun H'=>(w,H'))=some (v,G')):Act1 A R G v G' ((storeElems b sz xs o H).map (fun H'=>(w,H'))):=by
 cases he:storeElems b sz xs o G with
 | none=>rw[he] at h;cases h
 | some G1=>
  rw[he] at h;cases h
  obtain⟨H1,e1,u1⟩:=storeElems_under ok u he
  exact⟨H1,by rw[e1];rfl,u1⟩
theorem append_under (ok:RepOk A R) {G H G':Heap} (u:Under A R G H) {sz by':Nat} {s x v:V} (h:appendV sz by' G s x=some (v,G')):Act1 A R G v G' (appendV sz by' H s x):=by
 unfold appendV at h ⊢
 split at h
 ·rename_i p len cap loose n hn
  try rw[hn]
  try dsimp only
  split at h
  ·rename_i h0
   split at h
   ·rename_i h1
    cases h
    try simp only[h0,h1]
    exact⟨H,rfl,u⟩
   ·cases h
  ·rename_i h0
   try simp only[h0]
   split at h
   ·cases h
   ·rename_i h1
    try simp only[h1]
    split at h
    ·cases h
    ·rename_i new hnew
     rw[firstE_under u hnew]
     try dsimp only
     split at h
     ·rename_i h2
      try simp only[h2]
      split at h
      ·rename_i h3
       try simp only[h3]
       split at h
       ·exact map_storeElems_under ok u h
       ·cases h
      ·rename_i h3
       try simp only[h3]
       split at h
       ·rename_i old hold
        cases h
        rw[firstE_under u hold,u.next]
        exact⟨_,rfl,u.add ok (veil_rows _ _ _)⟩
       ·cases h
     ·rename_i h2
      try simp only[h2]
      split at h
      ·rename_i q
       split at h
       ·rename_i esz rs hg
        rw[u.con hg (veil_rows _ _ _)]
        try dsimp only
        split at h
        ·rename_i h3
         cases h
         try simp only[h3,u.next]
         exact⟨_,rfl,(u.set ok hg (veil_rows _ _ _) veil_dead).add ok (veil_rows _ _ _)⟩
        ·cases h
       ·cases h
      ·cases h
 ·cases h
theorem copy_under (ok:RepOk A R) {G H G':Heap} (u:Under A R G H) {sz:Nat} {d s v:V} (h:copyV sz G d s=some (v,G')):Act1 A R G v G' (copyV sz H d s):=by
 unfold copyV at h ⊢
 split at h
 ·try dsimp only
  split at h
  ·rename_i h0
   cases h
   try simp only[h0]
   exact⟨H,rfl,u⟩
  ·rename_i h0
   try simp only[h0]
   split at h
   ·rename_i new p hnew
    rw[firstE_under u hnew]
    exact map_storeElems_under ok u h
   ·cases h
 ·cases h
theorem mapAt_under {G H:Heap} (u:Under A R G H) {r:Bk} {x:List (V × V × Nat) × Nat} (h:mapAt G r=some x):mapAt H r=some x∧G.get r=some (.map x.1 x.2):=by
 unfold mapAt at h ⊢
 split at h
 ·rename_i es c hg
  cases h
  rw[u.con hg (veil_map _ _)]
  exact⟨rfl,hg⟩
 ·cases h
theorem mapUpd_under (ok:RepOk A R) {G H G':Heap} (u:Under A R G H) {m k x v:V} (h:mapUpd G m k x=some (v,G')):Act1 A R G v G' (mapUpd H m k x):=by
 unfold mapUpd at h ⊢
 split at h
 ·rename_i r hk
  try simp only[hk]
  split at h
  ·rename_i es clock hm
   obtain⟨e1,hg⟩:=mapAt_under u hm
   rw[e1]
   try dsimp only
   split at h
   ·rename_i he;cases h;(try simp only[he]);exact⟨_,rfl,u.set ok hg (veil_map _ _) (veil_map _ _)⟩
   ·rename_i he;cases h;(try simp only[he]);exact⟨_,rfl,u.set ok hg (veil_map _ _) (veil_map _ _)⟩
   ·cases h
  ·cases h
 ·cases h
theorem mapEnt_under (ok:RepOk A R) {G H G':Heap} (u:Under A R G H) {z m k v:V} (h:mapEnt z G m k=some (v,G')):Act1 A R G v G' (mapEnt z H m k):=by
 unfold mapEnt at h ⊢
 split at h
 ·rename_i r hk
  try simp only[hk]
  split at h
  ·rename_i es clock hm
   obtain⟨e1,hg⟩:=mapAt_under u hm
   rw[e1]
   try dsimp only
   split at h
   ·rename_i he;cases h;(try simp only[he]);exact⟨_,rfl,u⟩
   ·rename_i he;cases h;(try simp only[he]);exact⟨_,rfl,u.set ok hg (veil_map _ _) (veil_map _ _)⟩
   ·cases h
  ·cases h
 ·cases h
theorem entSt_under (ok:RepOk A R) {G H G':Heap} (u:Under A R G H) {m s x v:V} (h:entSt G m s x=some (v,G')):Act1 A R G v G' (entSt H m s x):=by
 unfold entSt at h ⊢
 split at h
 ·rename_i r born hk
  try simp only[hk]
  split at h
  ·rename_i es clock hm
   obtain⟨e1,hg⟩:=mapAt_under u hm
   rw[e1]
   try dsimp only
   split at h
   ·rename_i he;cases h;(try simp only[he]);exact⟨_,rfl,u.set ok hg (veil_map _ _) (veil_map _ _)⟩
   ·cases h
  ·cases h
 ·cases h
theorem mapDel_under (ok:RepOk A R) {G H G':Heap} (u:Under A R G H) {m k v:V} (h:mapDel G m k=some (v,G')):Act1 A R G v G' (mapDel H m k):=by
 unfold mapDel at h ⊢
 split at h
 ·rename_i hk
  cases h
  try simp only[hk]
  exact⟨_,rfl,u⟩
 ·rename_i r hk
  try simp only[hk]
  split at h
  ·rename_i es clock hm
   obtain⟨e1,hg⟩:=mapAt_under u hm
   rw[e1]
   try dsimp only
   split at h
   ·rename_i he;cases h;(try simp only[he]);exact⟨_,rfl,u.set ok hg (veil_map _ _) (veil_map _ _)⟩
   ·rename_i he;cases h;(try simp only[he]);exact⟨_,rfl,u⟩
   ·cases h
  ·cases h
 ·cases h
theorem rangeV_under (ok:RepOk A R) {G H G':Heap} (u:Under A R G H) {x v:V} (h:rangeV G x=some (v,G')):Act1 A R G v G' (rangeV H x):=by
 unfold rangeV at h ⊢
 split at h
 ·cases h
  rw[u.next]
  exact⟨_,rfl,u.add ok (veil_iter _ _ _ _)⟩
 ·rename_i r
  split at h
  ·rename_i es clock hm
   cases h
   rw[(mapAt_under u hm).1,u.next]
   exact⟨_,rfl,u.add ok (veil_iter _ _ _ _)⟩
  ·cases h
 ·cases h
theorem nextV_under (ok:RepOk A R) {G H G':Heap} (u:Under A R G H) {x v:V} (h:nextV G x=some (v,G')):Act1 A R G v G' (nextV H x):=by
 unfold nextV at h ⊢
 split at h
 ·rename_i p
  try dsimp only
  split at h
  ·rename_i h0 hg
   cases h
   rw[h0,u.con hg (veil_iter _ _ _ _)]
   exact⟨_,rfl,u⟩
  ·rename_i r since seen last h0 hg
   rw[h0,u.con hg (veil_iter _ _ _ _)]
   try dsimp only
   split at h
   ·rename_i es clock hm
    rw[(mapAt_under u hm).1]
    try dsimp only
    split at h
    ·rename_i h1
     try simp only[h1]
     split at h
     ·rename_i h2;cases h;(try simp only[h2]);exact⟨_,rfl,u⟩
     ·rename_i h2;cases h;(try simp only[h2]);exact⟨_,rfl,u.set ok hg (veil_iter _ _ _ _) (veil_iter _ _ _ _)⟩
     ·cases h
    ·cases h
   ·cases h
  ·cases h
 ·cases h
theorem entryV_under {G H:Heap} (u:Under A R G H) {x v:V} (h:entryV G x=some v):entryV H x=some v:=by
 unfold entryV at h ⊢
 split at h
 ·rename_i p
  try dsimp only
  split at h
  ·rename_i r since seen last h0 hg
   rw[h0,u.con hg (veil_iter _ _ _ _)]
   try dsimp only
   split at h
   ·rename_i es clock b hm hl
    rw[(mapAt_under u hm).1,hl]
    exact h
   ·cases h
  ·cases h
 ·cases h
theorem clearV_under (ok:RepOk A R) {G H G':Heap} (u:Under A R G H) {sz:Nat} {z:List V} {x v:V} (h:clearV sz z G x=some (v,G')):Act1 A R G v G' (clearV sz z H x):=by
 unfold clearV at h ⊢
 split at h
 ·try dsimp only
  split at h
  ·rename_i h0;cases h;(try simp only[h0]);exact⟨_,rfl,u⟩
  ·rename_i h0
   try simp only[h0]
   split at h
   ·exact map_storeElems_under ok u h
   ·cases h
 ·cases h
theorem live_under {G H:Heap} (u:Under A R G H) {b:Bk} (h:G.live b=true):H.live b=true:=by
 unfold Heap.live at h ⊢
 split at h
 ·rename_i hg
  rw[u.con hg (veil_rows _ _ _)]
 ·cases h
theorem eqN_under {G H:Heap} (u:Under A R G H) {e:EK} {x y:V} {b:Bool} (h:eqN G e x y=some b):eqN H e x y=some b:=by
 cases e with
 | ptr=>
  have h:eqPtr G x y=some b:=h
  show eqPtr H x y=some b
  unfold eqPtr at h ⊢
  split at h
  ·exact h
  ·exact h
  ·try dsimp only
   split at h
   ·rename_i h0;(try simp only[h0]);exact h
   ·rename_i h0
    try simp only[h0]
    split at h
    ·rename_i h1
     simp only[Bool.and_eq_true] at h1
     simp only[live_under u h1.1,live_under u h1.2]
     exact h
    ·cases h
  ·cases h
 | slice=>exact h
 | map=>exact h
 | func=>exact h
 | iface lit=>exact h
def OpU (A:V→Prop) (R:RepT):OpS→Prop
 | .r f=>∀ t G H v,Under A R G H→f t G=some v→f t H=some v
 | .m f=>∀ t o mk,f t=some (o,mk)→¬ Veils A o
 | .a f=>∀ t G H v G',Under A R G H→f t G=some (v,G')→Act1 A R G v G' (f t H)
 | _=>True
theorem load_u (x:S) (sz:Nat) (k:TK):OpU A R (.r (loadF x sz k)):=by
 intro t G H v u h
 unfold loadF at h ⊢
 split at h
 ·rename_i p hp
  cases he:loadAt G p sz with
  | none=>rw[he] at h;cases h
  | some l=>rw[he] at h;simp only[loadAt_under u he];exact h
 ·cases h
theorem lenM_u (x:S):OpU A R (.r (lenMF x)):=by
 intro t G H v u h
 unfold lenMF at h ⊢
 split at h
 ·exact h
 ·split at h
  ·rename_i hm;(try simp only[(mapAt_under u hm).1]);exact h
  ·cases h
 ·cases h
theorem look_u (z:V) (ok:Bool) (x i:S):OpU A R (.r (lookF z ok x i)):=by
 intro t G H v u h
 unfold lookF at h ⊢
 split at h
 ·split at h
  ·cases h
  ·rename_i hi
   try simp only[hi]
   split at h
   ·exact h
   ·split at h
    ·rename_i hm;(try simp only[(mapAt_under u hm).1]);exact h
    ·cases h
 ·cases h
theorem eqn_u (neg:Bool) (e:EK) (x y:S):OpU A R (.r (eqnF neg e x y)):=by
 intro t G H v u h
 unfold eqnF at h ⊢
 split at h
 ·split at h
  ·rename_i he;simp only[eqN_under u he];exact h
  ·cases h
 ·cases h
theorem entry_u (x:S):OpU A R (.r (entryF x)):=by
 intro t G H v u h
 unfold entryF at h ⊢
 split at h
 ·exact entryV_under u h
 ·cases h
theorem store_u (ok:RepOk A R) (a x:S) (sz:Nat):OpU A R (.a (storeF a x sz)):=by
 intro t G H v G' u h
 unfold storeF at h ⊢
 split at h
 ·split at h
  ·rename_i hc
   try simp only[hc]
   split at h
   ·rename_i hw
    try simp only[hw]
    rename_i p _ _ _ _ vs _
    cases he:storeAt G p vs with
    | none=>rw[he] at h;cases h
    | some G1=>
     rw[he] at h;cases h
     obtain⟨H1,e1,u1⟩:=storeAt_under ok u he
     exact⟨H1,by rw[e1];rfl,u1⟩
   ·cases h
  ·cases h
 ·cases h
theorem range_u (ok:RepOk A R) (x:S):OpU A R (.a (rangeF x)):=by
 intro t G H v G' u h
 unfold rangeF at h ⊢
 split at h
 ·exact rangeV_under ok u h
 ·cases h
theorem next_u (ok:RepOk A R) (x:S):OpU A R (.a (nextF x)):=by
 intro t G H v G' u h
 unfold nextF at h ⊢
 split at h
 ·exact nextV_under ok u h
 ·cases h
theorem clear_u (ok:RepOk A R) (sz:Nat) (z:List V) (x:S):OpU A R (.a (clearF sz z x)):=by
 intro t G H v G' u h
 unfold clearF at h ⊢
 split at h
 ·exact clearV_under ok u h
 ·cases h
theorem alloc_u (sz:Nat) (z:List V):OpU A R (.m (allocF sz z)):=by
 intro t o mk h
 cases h
 exact veil_rows _ _ _
theorem box_u (sz:Nat) (x:S):OpU A R (.m (boxF sz x)):=by
 intro t o mk h
 unfold boxF at h
 split at h
 ·split at h
  ·split at h
   ·cases h;exact veil_rows _ _ _
   ·cases h
  ·cases h
 ·cases h
theorem bslice_u (n sz:Nat) (z:List V) (ps:List (Nat × Nat × S)):OpU A R (.m (bsliceF n sz z ps)):=by
 intro t o mk h
 unfold bsliceF at h
 cases he:fillRows t ps (List.replicate n z) with
 | none=>rw[he] at h;cases h
 | some rs=>rw[he] at h;cases h;exact veil_rows _ _ _
theorem mkslice_u (sz bytes:Nat) (z:List V) (l c:S):OpU A R (.m (mksliceF sz bytes z l c)):=by
 intro t o mk h
 unfold mksliceF at h
 split at h
 ·split at h
  ·cases h;exact veil_rows _ _ _
  ·cases h
 ·cases h
theorem mkmap_u:OpU A R (.m mkmapF):=by
 intro t o mk h
 cases h
 exact veil_map _ _
theorem prepEq_u {P:Program} {neg:Bool} {t:TypeId} {xo yo:Operand} {x y:S} {s:OpS} (h:prepEq P neg t xo yo x y=some s):OpU A R s:=by
 unfold prepEq at h
 split at h
 ·split at h
  ·cases h;trivial
  ·cases h
 ·obtain⟨e,_,rfl⟩:=map_some h
  exact eqn_u _ _ _ _
theorem prepBuiltin_u (ok:RepOk A R) {P:Program} {b:Builtin} {ts:List TypeId} {xs:List S} {s:OpS} (h:prepBuiltin P b ts xs=some s):OpU A R s:=by
 unfold prepBuiltin at h
 repeat' (split at h)
 all_goals first | (cases h;done) | skip
 all_goals cases h
 all_goals first | trivial | exact lenM_u _ | exact clear_u ok _ _ _ | skip
 ·intro t G H v G' u h
  dsimp only at h ⊢
  split at h
  ·exact append_under ok u h
  ·cases h
 ·intro t G H v G' u h
  dsimp only at h ⊢
  split at h
  ·exact copy_under ok u h
  ·cases h
 ·intro t G H v G' u h
  dsimp only at h ⊢
  split at h
  ·exact mapDel_under ok u h
  ·cases h
end
end Go.Am
