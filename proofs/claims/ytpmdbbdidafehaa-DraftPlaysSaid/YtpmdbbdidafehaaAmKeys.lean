/-
  'maps.Keys' and 'slices.Sorted' of what it gives, at integer keys: two calls told, and what they rest on.
-/
import Derived.Test.YtpmdbbdidafehaaAmSum
import Derived.Maps.Own
import Derived.Lib.SlKeysI
import Derived.Laws.AppendOwn
set_option linter.unusedVariables false
set_option linter.unusedSimpArgs false
namespace Go.Am
open Go.WideElems (Fit rd rg)
open Go.MapKept (Stamped)

/-- the keys of a map, all of them of the kind int -/
def keysE : List (V × V × Nat) → Option (List Int)
  | [] => some []
  | (.int .i64 n, _, _) :: es => match (Lit.int .i64 n).wf, keysE es with
    | true, some ks => some (n :: ks)
    | _, _ => none
  | _ :: _ => none

/-- the stamps rise, below the clock -/
def stampE (clock : Nat) : Nat → List (V × V × Nat) → Bool
  | _, [] => true
  | lo, (_, _, b) :: es => match Nat.ble lo b, Nat.ble (Nat.succ b) clock with
    | true, true => stampE clock (Nat.succ b) es
    | _, _ => false

def insI (x : Int) : List Int → List Int
  | [] => [x]
  | y :: ys => match ltI y x with
    | true => y :: insI x ys
    | false => x :: y :: ys
def sortI : List Int → List Int
  | [] => []
  | x :: xs => insI x (sortI xs)
def riseI : List Int → Bool
  | [] => true
  | x :: xs => match xs with
    | [] => true
    | y :: _ => match ltI x y with
      | true => riseI xs
      | false => false

noncomputable def keysS (fk fk1 : FuncId) : CallT := fun id args H => match Nat.beq id fk, args with
  | true, [.map m] => some (.v (.func (.func fk1) [] [.ptr (some ⟨.run H.next, 0⟩)]), H.add (.box (.map m)))
  | _, _ => none

noncomputable def sortedAt (m : Option Bk) (H : Heap) : Option (Rs × Heap) := match m with
  | none => some (.v (.slice none 0 0 0), H)
  | some r => match mapAt H r with
    | some (es, clock) => match keysE es, stampE clock 0 es, Nat.ble es.length 1000000 with
      | some ks, true, true => match riseI (sortI ks), ks with
        | true, [] => some (.v (.slice none 0 0 0), H)
        | true, _ :: _ => some (.v (.slice (some ⟨.run H.next, 0⟩) (sortI ks).length (sortI ks).length 1), H.add (.rows false 1 ((sortI ks).map fun n => [.int .i64 n])))
        | _, _ => none
      | _, _, _ => none
    | none => none

noncomputable def sortedS (fs fk1 : FuncId) : CallT := fun id args H => match Nat.beq id fs, args with
  | true, [.func (.func g) [] [.ptr (some p)]] => match Nat.beq g fk1, Nat.beq p.o 0, H.get p.b with
    | true, true, some (.box (.map m)) => sortedAt m H
    | _, _, _ => none
  | _, _ => none

/-! ### lists -/

theorem insI_perm (x : Int) : ∀ l, (insI x l).Perm (x :: l)
  | [] => .refl _
  | y :: ys => by
    unfold insI
    split
    · exact ((insI_perm x ys).cons y).trans (.swap ..)
    · exact .refl _
theorem sortI_perm : ∀ l, (sortI l).Perm l
  | [] => .refl _
  | x :: xs => (insI_perm x _).trans ((sortI_perm xs).cons x)
theorem riseI_lt : ∀ {l : List Int}, riseI l = true → l.Pairwise (· < ·)
  | [], _ => .nil
  | x :: xs, h => by
    unfold riseI at h
    split at h
    · exact List.pairwise_singleton _ _
    · rename_i y ys
      split at h
      · rename_i hxy
        rw [ltI_eq] at hxy
        have hxy := of_decide_eq_true hxy
        have ih := riseI_lt h
        refine List.pairwise_cons.2 ⟨fun z hz => ?_, ih⟩
        rcases List.mem_cons.1 hz with rfl | hz
        · exact hxy
        · exact Int.lt_trans hxy ((List.pairwise_cons.1 ih).1 z hz)
      · cases h

theorem sorted_eq {l : List Int} (h : riseI (sortI l) = true) : l.mergeSort leI = sortI l := by
  have tr : ∀ a b c : Int, leI a b = true → leI b c = true → leI a c = true := fun a b c h1 h2 => by simp only [leI, decide_eq_true_eq] at *; exact Int.le_trans h1 h2
  have to : ∀ a b : Int, (leI a b || leI b a) = true := fun a b => by simp only [leI, Bool.or_eq_true, decide_eq_true_eq]; exact Int.le_total a b
  refine List.Perm.eq_of_pairwise (le := fun a b => leI a b = true) (fun a b _ _ h1 h2 => ?_) (List.pairwise_mergeSort tr to l) ((riseI_lt h).imp fun {a b} hab => ?_) ((List.mergeSort_perm l leI).trans (sortI_perm l).symm)
  · simp only [leI, decide_eq_true_eq] at h1 h2
    exact Int.le_antisymm h1 h2
  · simp only [leI, decide_eq_true_eq]; exact Int.le_of_lt hab

/-! ### one object is made, of a world that grew by more -/

theorem Step.make2 {N : Nat} {ρ : Emb} {H : Heap} {w w' : World} {l0 : Loc} {o0 : Obj} (hs : Sim N ρ H.get w) (hw : H.Wf) (hb : ρ (.run H.next) = none) (hc : w.heap.size ≤ l0.c)
    (hB : RowKit.Below w.heap.size w w') (hnew : ORel N (ρ.add (.run H.next) l0) w' l0 o0) :
    Step N ρ H w (ρ.add (.run H.next) l0) (H.add o0) w' := by
  have hx := Emb.add_ext l0 hb
  have hlow := hs.low
  have hsz := hB.size
  have hoth : ∀ c, c < w.heap.size → w'.heap[c]? = w.heap[c]? := fun c h => hB.block c h
  have old : ∀ b l, ρ.add (.run H.next) l0 b = some l → (b = .run H.next ∧ l = l0) ∨ (b ≠ .run H.next ∧ ρ b = some l) := fun b l h => by
    unfold Emb.add at h
    by_cases e : b = .run H.next
    · rw [if_pos e] at h; cases h; exact .inl ⟨e, rfl⟩
    · rw [if_neg e] at h; exact .inr ⟨e, h⟩
  refine ⟨hB.os, hB.tape, hB.output, hsz, hx, ?_, ⟨?_, ?_, by omega⟩, ?_, by simp, ?_, ?_, ?_, ?_⟩
  · intro b l h
    rcases old b l h with ⟨rfl, rfl⟩ | ⟨_, h⟩
    · exact .inr ⟨⟨_, rfl, Nat.le_refl _, by simp⟩, .inl hc⟩
    · exact .inl h
  · intro b o l hg hr
    rw [Heap.get_add] at hg
    rcases old b l hr with ⟨rfl, rfl⟩ | ⟨hne, hr⟩
    · rw [if_pos rfl] at hg; cases hg; exact hnew
    · rw [if_neg hne] at hg
      exact ((hs.obj b o l hg hr).mono hx).frame (fun c hc' => hoth c (by omega)) (fun hlo => hoth _ ((hs.obj b o l hg hr).live_lt hlo))
  · intro b b' l l' o o' hne hr hr' hg hlo hg' hlo'
    rw [Heap.get_add] at hg hg'
    rcases old b l hr with ⟨e, e1⟩ | ⟨hb1, k⟩
    · rcases old b' l' hr' with ⟨e', e2⟩ | ⟨hb2, k'⟩
      · exact absurd (e.trans e'.symm) hne
      · rw [if_neg hb2] at hg'; have := (hs.obj b' o' l' hg' k').live_lt hlo'; subst e1; omega
    · rcases old b' l' hr' with ⟨e', e2⟩ | ⟨hb2, k'⟩
      · rw [if_neg hb1] at hg; have := (hs.obj b o l hg k).live_lt hlo; subst e2; omega
      · rw [if_neg hb1] at hg
        rw [if_neg hb2] at hg'
        exact hs.inj b b' l l' o o' hne k k' hg hlo hg' hlo'
  · intro b o hg
    rw [Heap.get_add] at hg
    rw [Heap.old_add]
    by_cases e : b = .run H.next
    · exact .inr e
    · rw [if_neg e] at hg; exact .inl (hw b o hg)
  · intro n h1 h2
    simp at h2
    have : n = H.next := by omega
    subst this; exact hb
  · intro c hc' hno
    exact hoth c hc'
  · intro b hbn hr
    rw [Heap.get_add, if_neg (fun e => by subst e; exact Heap.not_old (Nat.le_refl _) hbn)]
  · intro b o hbn hg hlo
    rw [Heap.get_add, if_neg (fun e => by subst e; exact Heap.not_old (Nat.le_refl _) hbn)] at hg
    exact ⟨o, hg, hlo⟩

theorem Step.quiet {N : Nat} {ρ : Emb} {H : Heap} {w w' : World} (hs : Sim N ρ H.get w) (hw : H.Wf) (hB : RowKit.Below w.heap.size w w') : Step N ρ H w ρ H w' := by
  have hlow := hs.low
  have same : ∀ c, c < w.heap.size → w'.heap[c]? = w.heap[c]? := fun c h => hB.block c h
  refine ⟨hB.os, hB.tape, hB.output, hB.size, Ext.refl _, fun b l h => .inl h, ⟨fun b o l ho hr => ?_, hs.inj, Nat.le_trans hlow hB.size⟩, hw, Nat.le_refl _, fun n h1 h2 => absurd h2 (by omega), fun c hc _ => same c hc, fun _ _ _ => rfl, fun b o h1 h2 h3 => ⟨o, h2, h3⟩⟩
  have ho' := hs.obj b o l ho hr
  exact ho'.frame (fun c hc => same c (by omega)) (fun hl => same _ (ho'.live_lt hl))

/-! ### maps.Keys -/

def KeysGives (P : Program) (fk fk1 : FuncId) : Prop := ∀ (mb : Option Nat) (W : World), Calls P fk #[.map mb] W fun e w' => e = .returned (.func (.func fk1) #[] #[.pointer (some ⟨W.heap.size, 0, none⟩)]) ∧ ∃ T, w' = W.alloc (.cells #[.map mb] T)

theorem args1 {ρ : Emb} {v : V} {args' : Array Value} (h : VRels ρ [v] args'.toList) : ∃ x, args' = #[x] ∧ VRel ρ v x := by
  obtain ⟨y, ys, h1, h2, h3⟩ := h
  have h3 : ys = [] := h3
  subst h3
  exact ⟨y, Array.toList_inj.1 (by rw [h1]), h2⟩

theorem keysS_snd {P : Program} {fk fk1 : FuncId} (hb : HasBody P fk) (hk : KeysGives P fk fk1) : CallSnd P (keysS fk fk1) := by
  refine CallSndV.calm (fun id args H v H' e => ?_) (fun id args H v H' e => by unfold keysS at e; split at e <;> cases e)
  unfold keysS at e
  split at e
  · rename_i m hid
    cases e
    have := beq_iff.1 hid
    subst this
    refine ⟨hb, Heap.Upto.add _ _, fun N ρ w args' hg hr hs hw hf => ?_⟩
    obtain ⟨x, rfl, hx⟩ := args1 hr
    obtain ⟨mb, rfl⟩ : ∃ mb, x = .map mb := by
      cases m with
      | none => exact ⟨none, hx⟩
      | some r => obtain ⟨l, _, h2⟩ := hx; exact ⟨_, h2⟩
    refine (hk mb w).mono ?_
    rintro e w' ⟨rfl, T, rfl⟩
    have hn : ρ (.run H.next) = none := hf.2 _ (Nat.le_refl _) (by simp)
    have hlow := hs.low
    refine ⟨_, ρ.add (.run H.next) ⟨w.heap.size, 0, 1, none⟩, rfl, Step.make2 hs hw hn (Nat.le_refl _) ((RowKit.Below.refl _ w).alloc (Nat.le_refl _) _) ?_, ?_⟩
    · exact ⟨⟨hlow, rfl, rfl⟩, .map mb, #[.map mb], T, VRel.mono (Emb.add_ext _ hn) _ _ hx, (Go.MapKept.heap_alloc w _).1, rfl⟩
    · exact ⟨#[], #[.pointer (some ⟨w.heap.size, 0, none⟩)], rfl, rfl, _, [], rfl, ⟨⟨w.heap.size, 0, 1, none⟩, Emb.add_same _ _ _, rfl⟩, rfl⟩
  · cases e

/-! ### slices.Sorted -/

def R0 : Value → Option (DataW Unit × List MemPlace) := fun _ => some (.nil, [])

def SortedGives (P : Program) (fs fk1 : FuncId) (kt : TypeId) : Prop :=
  (∀ (Bm b nn : Nat) (D0 : DataW Unit) (w : World), Bm < w.heap.size → w.cell? ⟨Bm, 0, none⟩ = some (.map (some b)) → w.ownsMap P kt R0 b nn D0 → Maps.size D0 ≤ 1000000 →
    Calls P fs #[.func (.func fk1) #[] #[.pointer (some ⟨Bm, 0, none⟩)]] w fun e w' => ∃ (v : Value) (ss : List Int), e = .returned v ∧ ss.Perm (intKeys D0) ∧
      w'.ownsRow w.heap.size kt 1 v ss.length ((ss.mergeSort leI).map encZ) ∧ (v = .slice none 0 0 ↔ ss = []) ∧ RowKit.Below w.heap.size w w') ∧
  (∀ (Bm : Nat) (w : World), Bm < w.heap.size → w.cell? ⟨Bm, 0, none⟩ = some (.map none) →
    Calls P fs #[.func (.func fk1) #[] #[.pointer (some ⟨Bm, 0, none⟩)]] w fun e w' => e = .returned (.slice none 0 0) ∧ RowKit.Below w.heap.size w w')

theorem insert_perm {H : Type} (x : Lit × DataW H) : ∀ l, (DataW.insert x l).Perm (x :: l)
  | [] => .refl _
  | y :: r => by
    unfold DataW.insert
    split
    · exact .refl _
    · exact ((insert_perm x r).cons y).trans (.swap ..)
theorem foldr_perm {H : Type} : ∀ l : List (Lit × DataW H), (l.foldr DataW.insert []).Perm l
  | [] => .refl _
  | x :: l => (insert_perm x _).trans ((foldr_perm l).cons x)

/-- what the entries' keys and stamps say of the map in the world -/
theorem entries_ok {ρ : Emb} {P : Program} {kt : TypeId} (hkt : P.underlying kt = some (.int .i64)) {clock : Nat} : ∀ {es : List (V × V × Nat)} {xs : List MapEntry} {ks : List Int} {lo : Nat}, ERel ρ es xs → keysE es = some ks → stampE clock lo es = true →
    (∀ x ∈ xs, lo ≤ x.born ∧ x.born < clock) ∧ (xs.map (·.born)).Nodup ∧ xs.map (·.key) = ks.map encZ ∧ (∀ x ∈ xs, ∃ y, rd P kt R0 x = some y) ∧ (xs.map (rg P kt R0)).map (fun p => intOf p.1) = ks
  | [], xs, ks, lo, h, hk, hs => by
    have h : xs = [] := h
    subst h
    simp only [keysE, Option.some.injEq] at hk
    subst hk
    simp
  | (.int .i64 n, v, b) :: es, xs, ks, lo, h, hk, hs => by
    obtain ⟨x, y, ys, rfl, h2, h3, h4⟩ := h
    have h2 : x = .int .i64 n := h2
    subst h2
    unfold keysE at hk
    split at hk
    · rename_i ks' hwf hk'
      cases hk
      unfold stampE at hs
      split at hs
      · rename_i hlo hcl
        have hlo := ble_iff.1 hlo
        have hcl := ble_iff.1 hcl
        obtain ⟨i1, i2, i3, i4, i5⟩ := entries_ok hkt h4 hk' hs
        have hrd : rd P kt R0 (⟨.int .i64 n, y, b⟩ : MapEntry) = some (.int .i64 n, .nil) := by
          unfold rd keyOf
          rw [hkt]
          simp [mapKey, hkt, hwf, R0]
        have hrg : rg P kt R0 (⟨.int .i64 n, y, b⟩ : MapEntry) = (.int .i64 n, .nil) := by unfold rg; rw [hrd]; rfl
        refine ⟨fun z hz => ?_, ?_, ?_, fun z hz => ?_, ?_⟩
        · rcases List.mem_cons.1 hz with rfl | hz
          · exact ⟨hlo, hcl⟩
          · have := i1 z hz; exact ⟨by omega, this.2⟩
        · refine List.nodup_cons.2 ⟨fun hm => ?_, i2⟩
          obtain ⟨z, hz, e⟩ := List.mem_map.1 hm
          have := (i1 z hz).1
          have e : z.born = b := e
          omega
        · rw [List.map_cons, List.map_cons, i3]
        · rcases List.mem_cons.1 hz with rfl | hz
          · exact ⟨_, hrd⟩
          · exact i4 z hz
        · rw [List.map_cons, List.map_cons, i5, hrg]; rfl
      · cases hs
    · cases hk
  | (.int .u8 n, v, b) :: es, xs, ks, lo, h, hk, hs => by simp [keysE] at hk
  | (.int .i8 n, v, b) :: es, xs, ks, lo, h, hk, hs => by simp [keysE] at hk
  | (.int .u16 n, v, b) :: es, xs, ks, lo, h, hk, hs => by simp [keysE] at hk
  | (.int .i16 n, v, b) :: es, xs, ks, lo, h, hk, hs => by simp [keysE] at hk
  | (.int .u32 n, v, b) :: es, xs, ks, lo, h, hk, hs => by simp [keysE] at hk
  | (.int .i32 n, v, b) :: es, xs, ks, lo, h, hk, hs => by simp [keysE] at hk
  | (.int .u64 n, v, b) :: es, xs, ks, lo, h, hk, hs => by simp [keysE] at hk
  | (.bool _, v, b) :: es, xs, ks, lo, h, hk, hs => by simp [keysE] at hk
  | (.blk _, v, b) :: es, xs, ks, lo, h, hk, hs => by simp [keysE] at hk
  | (.str _, v, b) :: es, xs, ks, lo, h, hk, hs => by simp [keysE] at hk
  | (.ptr _, v, b) :: es, xs, ks, lo, h, hk, hs => by simp [keysE] at hk
  | (.slice _ _ _ _, v, b) :: es, xs, ks, lo, h, hk, hs => by simp [keysE] at hk
  | (.map _, v, b) :: es, xs, ks, lo, h, hk, hs => by simp [keysE] at hk
  | (.func _ _ _, v, b) :: es, xs, ks, lo, h, hk, hs => by simp [keysE] at hk
  | (.nilFunc, v, b) :: es, xs, ks, lo, h, hk, hs => by simp [keysE] at hk
  | (.iface _ _, v, b) :: es, xs, ks, lo, h, hk, hs => by simp [keysE] at hk
  | (.nilIface, v, b) :: es, xs, ks, lo, h, hk, hs => by simp [keysE] at hk
  | (.agg _, v, b) :: es, xs, ks, lo, h, hk, hs => by simp [keysE] at hk
  | (.tuple _, v, b) :: es, xs, ks, lo, h, hk, hs => by simp [keysE] at hk

theorem intRows_rel (ρ : Emb) : ∀ l : List Int, RRel ρ 1 (l.map fun n => [V.int .i64 n]) (l.map encZ)
  | [] => rfl
  | n :: l => ⟨[encZ n], l.map encZ, rfl, by simp, ⟨_, [], rfl, .inr ⟨rfl, _, rfl, rfl⟩, rfl⟩, intRows_rel ρ l⟩

theorem sortedAt_calm {m : Option Bk} {H H' : Heap} {v : V} : sortedAt m H ≠ some (.p v, H') := by
  intro e
  unfold sortedAt at e
  split at e
  · cases e
  · split at e
    · split at e
      · split at e <;> cases e
      · cases e
    · cases e
theorem sortedS_calm (fs fk1 : FuncId) : NoPan (sortedS fs fk1) := by
  intro id args H v H' e
  unfold sortedS at e
  split at e
  · split at e
    · exact sortedAt_calm e
    · cases e
  · cases e

theorem sortedS_snd {P : Program} {fs fk1 : FuncId} {kt : TypeId} (hb : HasBody P fs) (hkt : P.underlying kt = some (.int .i64)) (hk : SortedGives P fs fk1 kt) : CallSnd P (sortedS fs fk1) := by
  refine CallSndV.calm (fun id args H v H' e => ?_) (sortedS_calm fs fk1)
  unfold sortedS at e
  split at e
  · rename_i g p hid
    split at e
    · rename_i m hgg hpo hbx
      have := beq_iff.1 hid
      subst this
      have := beq_iff.1 hgg
      subst this
      obtain ⟨pb, po⟩ := p
      have := beq_iff.1 hpo
      simp only at this
      subst this
      have up : H.Upto H' := by
        unfold sortedAt at e
        split at e
        · cases e; exact .refl _
        · split at e
          · split at e
            · split at e
              · cases e; exact .refl _
              · cases e; exact Heap.Upto.add _ _
              · cases e
            · cases e
          · cases e
      refine ⟨hb, up, fun N ρ w args' hg hr hs hw hf => ?_⟩
      obtain ⟨x, rfl, hx⟩ := args1 hr
      obtain ⟨f', c', rfl, hf', hc'⟩ := hx
      have hf' : f'.toList = [] := hf'
      have : f' = #[] := Array.toList_inj.1 hf'
      subst this
      obtain ⟨y, rfl, l, hl, rfl⟩ := args1 hc'
      obtain ⟨⟨b1, b2, b3⟩, z, arr, T, hz, ha, ha0⟩ := hs.obj _ _ l hbx hl
      have hloc : at' l 0 = ⟨l.c, 0, none⟩ := by rw [at'_lit b2, b3]
      rw [hloc]
      have hBm : l.c < w.heap.size := (Array.getElem?_eq_some_iff.1 ha).1
      have hcell : w.cell? ⟨l.c, 0, none⟩ = some z := by rw [cell_of_row w l.c 0 arr T (0, 0) ha]; exact ha0
      unfold sortedAt at e
      split at e
      · cases e
        have hz : z = .map none := hz
        subst hz
        refine (hk.2 l.c w hBm hcell).mono ?_
        rintro e w' ⟨rfl, hB⟩
        exact ⟨_, ρ, rfl, Step.quiet hs hw hB, rfl, rfl, .inl ⟨rfl, rfl⟩⟩
      · rename_i r
        obtain ⟨lr, hlr, rfl⟩ := hz
        split at e
        · rename_i es clock hm
          have hm := mapAt_some hm
          obtain ⟨_, es', hes, hE⟩ := hs.obj _ _ lr hm hlr
          split at e
          · rename_i ks hks hst hlen
            have hlen := ble_iff.1 hlen
            obtain ⟨i1, i2, i3, i4, i5⟩ := entries_ok hkt hE hks hst
            have hsz : es'.size = es.length := by rw [← hE.length]; simp
            have rise : riseI (sortI ks) = true := by
              split at e
              · assumption
              · assumption
              · cases e
            have hknd : ks.Nodup := ((sortI_perm ks).nodup_iff).1 ((riseI_lt rise).imp fun h => Int.ne_of_lt h)
            have hown : w.ownsMap P kt R0 lr.c es.length (.map ((es'.toList.map (rg P kt R0)).foldr DataW.insert [])) := by
              refine ⟨es', clock, hes, ⟨by rw [hsz]; unfold maxLen; omega, ⟨fun z hz => (i1 z hz).2, i2, ?_⟩, i4⟩, by rw [hsz]; exact Nat.le_refl _, rfl⟩
              rw [i3]
              exact List.pairwise_map.2 (hknd.imp fun hne e => hne (encZ_inj e))
            have hperm : (intKeys (DataW.map ((es'.toList.map (rg P kt R0)).foldr DataW.insert []))).Perm ks := by
              show (((es'.toList.map (rg P kt R0)).foldr DataW.insert []).map fun p => intOf p.1).Perm ks
              rw [← i5]
              exact (foldr_perm _).map _
            have hmsz : Maps.size (DataW.map ((es'.toList.map (rg P kt R0)).foldr DataW.insert [])) ≤ 1000000 := by
              show ((es'.toList.map (rg P kt R0)).foldr DataW.insert []).length ≤ _
              rw [(foldr_perm _).length_eq]; simp [hsz]; omega
            refine (hk.1 l.c lr.c es.length _ w hBm hcell hown hmsz).mono ?_
            rintro e1 w' ⟨v1, ss, rfl, hss, hrow, hnil, hB⟩
            have hssk : ss.Perm ks := hss.trans hperm
            have hsort : ss.mergeSort leI = sortI ks := by rw [mergeSort_of_perm_i hssk, sorted_eq rise]
            rw [hsort] at hrow
            cases ks with
            | nil =>
              rw [rise] at e
              cases e
              have : ss = [] := hssk.eq_nil
              have := hnil.2 this
              subst this
              exact ⟨_, ρ, rfl, Step.quiet hs hw hB, rfl, rfl, .inl ⟨rfl, rfl⟩⟩
            | cons k0 kr =>
              rw [rise] at e
              cases e
              have hn : ρ (.run H.next) = none := hf.2 _ (Nat.le_refl _) (by simp)
              have hlss : ss.length = (sortI (k0 :: kr)).length := by rw [hssk.length_eq, (sortI_perm (k0 :: kr)).length_eq]
              rcases hrow.2 with ⟨rfl, hz⟩ | ⟨gb, cap, cur, rfl, hbase, hgb, r1, r2, r3, r4⟩
              · exfalso
                have := hnil.1 rfl
                subst this
                exact absurd hssk.symm.eq_nil (by simp)
              · have hlow := hs.low
                rw [hlss] at *
                refine ⟨_, ρ.add (.run H.next) ⟨gb, 0, cap, none⟩, rfl, Step.make2 hs hw hn hbase hB ?_, ⟨gb, 0, cap, none⟩, cap, Emb.add_same _ _ _, rfl, fun h => absurd h (by decide), fun _ => ⟨r1, by simp⟩⟩
                refine ⟨⟨Nat.le_trans hlow hbase, rfl⟩, _, cur, kt, intRows_rel _ _, hgb, by simp [r3], by simp [r1], fun i x hx => ?_⟩
                simp only [Nat.zero_add]
                have r4' : cur.toList.take (sortI (k0 :: kr)).length = (sortI (k0 :: kr)).map encZ := by simpa using r4
                rw [← r4'] at hx
                rw [List.getElem?_take] at hx
                split at hx
                · simpa using hx
                · cases hx
          · cases e
        · cases e
    · cases e
  · cases e

end Go.Am
